/- MyBase, MyBytes, MyCod, MyHuffP, MyCount, MyNumber, MySortP, MySort, MyCloneI, MyCodeAt, MyDocC, MyDocD, MyTakeHP, MyNumE, MyBitsP, MyGrow, MyConcat, MyRepeat, MyFixed, MyWriter, MyPut, MyWput, MyClone, MyPeek, MyReader, MyNewR, MyCut, MyWtext, MyRbytes, MyNew, MyOf, MyShort, MyRevP, MyTakeW, MyGuard, MyTry, MyIn, MyThrows, MyCutFrom, MyArgs: laid into one text by merge.py. -/
import Derived.Test.YtdphifihneccoaaDoorProg
import Derived.Test.YtdphifihneccoaaDoorWWords
import Derived.Test.YtdphifihneccoaaDoorWMore
import Derived.Laws.Rows
import Derived.Lib.SlBytesConst
import Derived.WalkKit
import Derived.KernelRfl
import Derived.Deep.LoopGhost
import Derived.Deep.QuietTactic
import Derived.BigQuiet
import Derived.Deep.DeepCutAuto
import Derived.Deep.CutBlock
import Derived.WalkSpells
import Derived.WalkLawsBesides
import Derived.Outline
import Derived.RegionTactic
import Derived.Deep.RegionLaw
import Derived.BigRegion
import Derived.Test.YtdphifihneccoaaDoorPInflateTellsx4
import Derived.Lib.RabinKarpLaws
import Derived.Laws.Bits64
import Derived.Lib.AppendZerosOnto
import Derived.Lib.SliceRun
import Derived.Lib.Walk
import Derived.Test.YtdphifihneccoaaDoorPMulx1
import Derived.Laws.CopyOwn
import Derived.Test.YtdphifihneccoaaDoorPInflateTellsx2
import Derived.Lib.BitFns
import Derived.Lib.Strings
import Derived.Lib.Slices
import Derived.Lib.Small
import Derived.Defers
import Derived.Recover
import Derived.Test.YtdphifihneccoaaDoorWSized

/- Small words for walks: blocks of bytes known whole, slices of the call's own. No program in sight but for its byte type's row. -/
namespace Go.Proofs.YtdphifihneccoaaDoor.My
open Go.RowKit Go.Proofs.YtdphifihneccoaaDoorW.PrintWords Go.Proofs.YtdphifihneccoaaDoorW.PrintLast Go.Proofs.YtdphifihneccoaaDoorW.PrintMore
set_option maxRecDepth 100000

theorem alloc_self (w : World) (o : Obj) : (w.alloc o).heap[w.heap.size]? = some o := by
  show (w.heap.push o)[w.heap.size]? = _
  simp
theorem C_block (w : World) (g : Nat) (k : IntKind) (xs : List Int) (e : TypeId) (fr : Nat × Nat) (h : w.heap[g]? = some (.cells (nums k xs).toArray e fr)) (hm : xs.length ≤ 9223372036854775807) :
    Kd.C (Kd.int k) w (some ⟨g, 0, none⟩) xs.length xs := by
  refine Kd.C_of_reads (d := 0) ⟨rfl, hm, fun _ => ⟨_, rfl, fun j hj => ?_⟩⟩
  rw [add_plain, World.cell?]
  simp [h, nums, hj]
theorem reads_of_C {k : IntKind} {w : World} {A : Option Addr} {n : Nat} {xs : List Int} (h : (Kd.int k).C w A n xs) : ReadsInt w k A n xs := by
  refine ⟨h.1, h.2.1, fun hn => ?_⟩
  obtain ⟨ad, rfl, hc⟩ := Kd.at_int h 0 (by omega) (by omega)
  refine ⟨ad, rfl, fun j hj => ?_⟩
  obtain ⟨ad', e, hc'⟩ := Kd.at_int h j (by omega) (by omega)
  cases e
  simpa [rd] using hc'
theorem C_of_readsInt {k : IntKind} {w : World} {A : Option Addr} {n : Nat} {xs : List Int} (h : ReadsInt w k A n xs) : (Kd.int k).C w A n xs := Kd.C_of_reads (d := 0) h
theorem own_slice' {w : World} {base n : Nat} {e : TypeId} {k : IntKind} {v : Value} {xs : List Int} (h : w.ownsRow base e 1 v n (nums k xs)) : ∃ A c, v = .slice A n c ∧ n ≤ c ∧ (Kd.int k).C w A n xs := by
  obtain ⟨A, c, rfl, hr⟩ := own_reads h
  refine ⟨A, c, rfl, ?_, C_of_readsInt hr⟩
  rcases h.2 with ⟨h1, h2⟩ | ⟨g, cap, cur, h1, _, _, h3, _⟩
  · omega
  · cases h1; exact h3

theorem grown_set (w : World) (g i : Nat) (v : Value) : w.grownBy (w.setCell ⟨g, i, none⟩ v) (some g) :=
  ⟨rfl, rfl, rfl, by simp [World.setCell], fun k _ hk => Below.heap_setCell _ _ _ _ (fun e => hk (by rw [e]))⟩
theorem grown_trans {w w1 w2 : World} {row : Option Nat} (h : w.grownBy w1 row) (k : w1.grownBy w2 row) : w.grownBy w2 row :=
  ⟨k.os.trans h.os, k.tape.trans h.tape, k.output.trans h.output, Nat.le_trans h.size k.size, fun i hi hr => (k.block i (Nat.lt_of_lt_of_le hi h.size) hr).trans (h.block i hi hr)⟩
theorem grown_refl (w : World) (row : Option Nat) : w.grownBy w row := World.grownBy.refl w row
theorem grown_drewN {w w1 : World} {row : Option Nat} (h : w.grownBy w1 row) (n : Nat) : w.grownBy (w1.drewN n) row := ⟨h.os, h.tape, h.output, h.size, h.block⟩
theorem grown_drew {w w1 : World} {row : Option Nat} (h : w.grownBy w1 row) : w.grownBy w1.drew row := ⟨h.os, h.tape, h.output, h.size, h.block⟩
theorem grown_below {w w1 : World} (h : Below w.heap.size w w1) (row : Option Nat) : w.grownBy w1 row := ⟨h.os, h.tape, h.output, h.size, fun k hk _ => h.block k hk⟩
theorem below_grown {B : Nat} {w w1 w2 : World} {g : Nat} (h : Below B w w1) (k : w1.grownBy w2 (some g)) (hB : B ≤ w1.heap.size) (hg : B ≤ g) : Below B w w2 :=
  h.grown k hB (fun i hi => by cases hi; exact hg)
/-- An error of the program's own numbers, or none. -/
def errV : Option Int → Value
  | none => .nilIface
  | some c => .iface 39 (.int .i64 c)
theorem wf_u8 {n : Int} (h : (Lit.int .u8 n).wf = true) : 0 ≤ n ∧ n < 256 := by
  simp [Lit.wf, IntKind.min, IntKind.max, IntKind.bits, IntKind.signed] at h
  omega
theorem wf_u32 {n : Int} (h : (Lit.int .u32 n).wf = true) : 0 ≤ n ∧ n < 4294967296 := by
  simp [Lit.wf, IntKind.min, IntKind.max, IntKind.bits, IntKind.signed] at h
  omega
theorem wf_i64 {n : Int} (h : (Lit.int .i64 n).wf = true) : -9223372036854775808 ≤ n ∧ n ≤ 9223372036854775807 := by
  simp [Lit.wf, IntKind.min, IntKind.max, IntKind.bits, IntKind.signed] at h
  omega
end Go.Proofs.YtdphifihneccoaaDoor.My

/- Blocks of bytes known whole, and slices of bytes that are made. -/
namespace Go.Proofs.YtdphifihneccoaaDoor.My
open Go.RowKit Go.Proofs.YtdphifihneccoaaDoorW.PrintWords Go.Proofs.YtdphifihneccoaaDoorW.PrintLast Go.Proofs.YtdphifihneccoaaDoorW.PrintMore
set_option maxRecDepth 100000

/-- A block of bytes, known whole: none of its places is frozen. -/
structure Row (w : World) (g : Nat) (l : List Int) : Prop where mk :: (out : ∃ fr : Nat × Nat, w.heap[g]? = some (.cells (nums .u8 l).toArray 5 fr) ∧ (fr = (0, 0) ∨ l.length ≤ fr.1))
theorem Row.of {w : World} {g : Nat} {l : List Int} (h : w.heap[g]? = some (.cells (nums .u8 l).toArray 5 (0, 0))) : Row w g l := ⟨_, h, .inl rfl⟩
theorem Row.drewN {w : World} {g : Nat} {l : List Int} (h : Row w g l) (n : Nat) : Row (w.drewN n) g l := ⟨h.out⟩
theorem Row.drew {w : World} {g : Nat} {l : List Int} (h : Row w g l) : Row w.drew g l := ⟨h.out⟩
theorem Row.lt {w : World} {g : Nat} {l : List Int} (h : Row w g l) : g < w.heap.size := by obtain ⟨fr, h, _⟩ := h.out; exact blk_lt h
theorem Row.cell {w : World} {g : Nat} {l : List Int} (h : Row w g l) (i : Nat) (hi : i < l.length) : w.cell? ⟨g, i, none⟩ = some (.int .u8 (l.getD i 0)) := by
  obtain ⟨fr, h, _⟩ := h.out
  rw [World.cell?]
  simp [h, nums, hi]
theorem Row.frozen {w : World} {g : Nat} {l : List Int} (h : Row w g l) (i : Nat) (hi : i < l.length) : w.frozen? ⟨g, i, none⟩ = false := by
  obtain ⟨fr, h, hf⟩ := h.out
  rcases hf with rfl | hf
  · simp [World.frozen?, h]
  · simp [World.frozen?, h]; omega
theorem Row.set {w : World} {g : Nat} {l : List Int} (h : Row w g l) (i : Nat) (x : Int) : Row (w.setCell ⟨g, i, none⟩ (.int .u8 x)) g (l.set i x) := by
  obtain ⟨fr, h, hf⟩ := h.out
  refine ⟨fr, ?_, by simpa using hf⟩
  rw [setCell_eq_setRow w g i _ _ fr _ h, setRow_heap w g _ _ _ fr h]
  simp [nums, List.map_set]
theorem Row.grown {w w1 : World} {g : Nat} {l : List Int} {row : Option Nat} (h : Row w g l) (hg : w.grownBy w1 row) (hne : some g ≠ row) : Row w1 g l := by
  obtain ⟨fr, h, hf⟩ := h.out
  exact ⟨fr, blk_grown h hg hne, hf⟩
theorem Row.below {w w1 : World} {g : Nat} {l : List Int} (h : Row w g l) (hb : Below w.heap.size w w1) : Row w1 g l := h.grown (row := none) ⟨hb.os, hb.tape, hb.output, hb.size, fun k hk _ => hb.block k hk⟩ (by simp)
theorem Row.alloc {w : World} {g : Nat} {l : List Int} (h : Row w g l) (o : Obj) : Row (w.alloc o) g l := h.below (below_alloc (Below.refl _ _) o)
theorem Row.C {w : World} {g : Nat} {l : List Int} (h : Row w g l) (off n : Nat) (hn : off + n ≤ l.length) (hm : n ≤ 9223372036854775807) : (Kd.int .u8).C w (some ⟨g, off, none⟩) n ((l.drop off).take n) := by
  refine Kd.C_of_reads (d := 0) ⟨by rw [List.length_take, List.length_drop]; omega, hm, fun _ => ⟨_, rfl, fun j hj => ?_⟩⟩
  rw [add_at, h.cell _ (by omega)]
  simp [List.getD_eq_getElem?_getD, hj]
theorem Row.whole {w : World} {g : Nat} {l : List Int} (h : Row w g l) (hm : l.length ≤ 9223372036854775807) : (Kd.int .u8).C w (some ⟨g, 0, none⟩) l.length l := by
  have := h.C 0 l.length (by omega) hm
  simpa using this
/-- A block that the call has just made: a literal's, and one that 'make' made. -/
theorem Row.lit (w : World) (l : List Int) : Row (w.alloc (.cells (nums .u8 l).toArray 5)) w.heap.size l := Row.of (alloc_self _ _)
theorem Row.str (w : World) (l : List Int) : Row (w.alloc (.cells (nums .u8 l).toArray 5 (l.length, l.length + 1))) w.heap.size l := ⟨_, alloc_self _ _, .inr (Nat.le_refl _)⟩
theorem made_nums (k : IntKind) (m : Nat) : madeCells #[.int k 0] m = (nums k (List.replicate m 0)).toArray := by
  apply Array.ext'
  apply List.ext_getElem
  · simp [nums, madeCells]
  · intro i h1 h2
    simp [nums, madeCells, Nat.mod_one]
theorem Row.made (w : World) (m : Nat) : Row (w.alloc (.cells (madeCells #[.int .u8 0] m) 5)) w.heap.size (List.replicate m 0) := by
  rw [made_nums]
  exact Row.lit w _
theorem info_u8 : (Tryd.prog.info? 5).map (fun i => (i.zero, i.size, i.bytes)) = some (some (.int .u8 0), 1, 1) := by kernel_rfl
theorem make_bytes (n : Nat) (hn : n ≤ 16777216) (W : World) : (Instr.makeSlice 22 (.int .i64 n) (.int .i64 n)).run Tryd.prog W = .ok (.slice (some ⟨W.heap.size, 0, none⟩) n n) (W.alloc (.cells (madeCells #[.int .u8 0] n) 5)) := by
  obtain ⟨i0, hi, hz⟩ := Option.map_eq_some_iff.1 info_u8
  simp only [Prod.mk.injEq] at hz
  have h := run_makeSlice W (P := Tryd.prog) 22 5 i0 (.int .u8 0) Tryd.underlying22 hi hz.1 .i64 .i64 n n (by omega) (by omega) (by rw [hz.2.1]; omega) (by rw [hz.2.2]; omega) (by omega)
  rw [hz.2.1] at h
  simpa [Value.cells] using h
end Go.Proofs.YtdphifihneccoaaDoor.My

/- A Code's block. -/
namespace Go.Proofs.YtdphifihneccoaaDoor.My
open Go.RowKit Go.Proofs.YtdphifihneccoaaDoorW.PrintWords Go.Proofs.YtdphifihneccoaaDoorW.PrintLast Go.Proofs.YtdphifihneccoaaDoorW.PrintMore
set_option maxRecDepth 100000
set_option linter.unusedVariables false
set_option linter.unusedSimpArgs false

def codCells (v0 : Value) (f m b : List Int) (v4 v5 : Value) : List Value := v0 :: (nums .i64 f ++ (nums .i64 m ++ (nums .i64 b ++ [v4, v5])))
/-- A code at a block: its lengths, its three tables, its two rows. -/
structure Cod (w : World) (g : Nat) (v0 : Value) (f m b : List Int) (v4 v5 : Value) : Prop where
  blk : w.heap[g]? = some (.cells (codCells v0 f m b v4 v5).toArray 113 (0, 0))
  lf : f.length = 17
  lm : m.length = 17
  lb : b.length = 17
theorem app_at {α : Type} (a b : List α) (n i : Nat) (h : a.length = n) : (a ++ b)[n + i]? = b[i]? := by
  rw [List.getElem?_append_right (by omega), h]
  congr 1
  omega
theorem app_j {α : Type} (a b : List α) (n i j : Nat) (h : a.length = n) (hj : j = n + i) : (a ++ b)[j]? = b[i]? := by
  subst hj
  exact app_at a b n i h
theorem set_j {α : Type} (a b : List α) (n i j : Nat) (x : α) (h : a.length = n) (hj : j = n + i) : (a ++ b).set j x = a ++ b.set i x := by
  subst hj
  rw [List.set_append_right _ _ (by omega), h]
  congr 2
  omega
theorem nums_at (l : List Int) (i : Nat) (h : i < l.length) : (nums .i64 l)[i]? = some (.int .i64 (l.getD i 0)) := by
  simp [nums, List.getD_eq_getElem?_getD, List.getElem?_eq_getElem h]
section
variable {w w1 : World} {g : Nat} {v0 v4 v5 : Value} {f m b : List Int}
theorem Cod.at (k : Cod w g v0 f m b v4 v5) (i : Nat) : w.cell? ⟨g, i, none⟩ = (codCells v0 f m b v4 v5)[i]? := by
  rw [blk_cell k.blk]
  simp
theorem Cod.c0 (k : Cod w g v0 f m b v4 v5) : w.cell? ⟨g, 0, none⟩ = some v0 := by rw [k.at]; rfl
theorem Cod.cf (k : Cod w g v0 f m b v4 v5) (n : Nat) (h : n < 17) : w.cell? ⟨g, 1 + n, none⟩ = some (.int .i64 (f.getD n 0)) := by
  rw [k.at, codCells, Nat.add_comm, List.getElem?_cons_succ, List.getElem?_append_left (by rw [nums_length, k.lf]; exact h), nums_at f n (by rw [k.lf]; exact h)]
theorem Cod.cm (k : Cod w g v0 f m b v4 v5) (n : Nat) (h : n < 17) : w.cell? ⟨g, 18 + n, none⟩ = some (.int .i64 (m.getD n 0)) := by
  rw [k.at, codCells, show 18 + n = (17 + n) + 1 from by omega, List.getElem?_cons_succ, app_at _ _ 17 n (by rw [nums_length, k.lf]), List.getElem?_append_left (by rw [nums_length, k.lm]; exact h), nums_at m n (by rw [k.lm]; exact h)]
theorem Cod.cb (k : Cod w g v0 f m b v4 v5) (n : Nat) (h : n < 17) : w.cell? ⟨g, 35 + n, none⟩ = some (.int .i64 (b.getD n 0)) := by
  rw [k.at, codCells, show 35 + n = (17 + (17 + n)) + 1 from by omega, List.getElem?_cons_succ, app_at _ _ 17 _ (by rw [nums_length, k.lf]), app_at _ _ 17 _ (by rw [nums_length, k.lm]), List.getElem?_append_left (by rw [nums_length, k.lb]; exact h), nums_at b n (by rw [k.lb]; exact h)]
theorem Cod.c4 (k : Cod w g v0 f m b v4 v5) : w.cell? ⟨g, 52, none⟩ = some v4 := by
  rw [k.at, codCells, show 52 = 51 + 1 from rfl, List.getElem?_cons_succ, app_j _ _ 17 34 51 (by rw [nums_length, k.lf]) rfl, app_j _ _ 17 17 34 (by rw [nums_length, k.lm]) rfl, app_j _ _ 17 0 17 (by rw [nums_length, k.lb]) rfl]
  rfl
theorem Cod.c5 (k : Cod w g v0 f m b v4 v5) : w.cell? ⟨g, 53, none⟩ = some v5 := by
  rw [k.at, codCells, show 53 = 52 + 1 from rfl, List.getElem?_cons_succ, app_j _ _ 17 35 52 (by rw [nums_length, k.lf]) rfl, app_j _ _ 17 18 35 (by rw [nums_length, k.lm]) rfl, app_j _ _ 17 1 18 (by rw [nums_length, k.lb]) rfl]
  rfl
theorem Cod.fz (k : Cod w g v0 f m b v4 v5) (i : Nat) : w.frozen? ⟨g, i, none⟩ = false := blk_frozen k.blk i
theorem Cod.drewN (k : Cod w g v0 f m b v4 v5) (n : Nat) : Cod (w.drewN n) g v0 f m b v4 v5 := ⟨k.blk, k.lf, k.lm, k.lb⟩
theorem Cod.below (k : Cod w g v0 f m b v4 v5) (h : Below w.heap.size w w1) : Cod w1 g v0 f m b v4 v5 := ⟨blk_below k.blk h, k.lf, k.lm, k.lb⟩
theorem Cod.lt (k : Cod w g v0 f m b v4 v5) : g < w.heap.size := blk_lt k.blk
theorem set_app_left {α : Type} (a b : List α) (i : Nat) (x : α) (h : i < a.length) : (a ++ b).set i x = a.set i x ++ b := List.set_append_left i x h
theorem set_app_at {α : Type} (a b : List α) (n i : Nat) (x : α) (h : a.length = n) : (a ++ b).set (n + i) x = a ++ b.set i x := by
  rw [List.set_append_right _ _ (by omega), h]
  congr 2
  omega
theorem nums_set (l : List Int) (i : Nat) (x : Int) : (nums .i64 l).set i (.int .i64 x) = nums .i64 (l.set i x) := by simp [nums, List.map_set]
theorem Cod.put (k : Cod w g v0 f m b v4 v5) (i : Nat) (x : Value) : (w.setCell ⟨g, i, none⟩ x).heap[g]? = some (.cells ((codCells v0 f m b v4 v5).set i x).toArray 113 (0, 0)) := by
  rw [setCell_eq_setRow w g i _ _ (0, 0) _ k.blk, setRow_heap w g _ _ _ (0, 0) k.blk]
  simp
theorem Cod.sf (k : Cod w g v0 f m b v4 v5) (n : Nat) (h : n < 17) (x : Int) : Cod (w.setCell ⟨g, 1 + n, none⟩ (.int .i64 x)) g v0 (f.set n x) m b v4 v5 := by
  refine ⟨?_, by rw [List.length_set]; exact k.lf, k.lm, k.lb⟩
  rw [k.put, codCells, Nat.add_comm, List.set_cons_succ, set_app_left _ _ _ _ (by rw [nums_length, k.lf]; exact h), nums_set]
  rfl
theorem Cod.sm (k : Cod w g v0 f m b v4 v5) (n : Nat) (h : n < 17) (x : Int) : Cod (w.setCell ⟨g, 18 + n, none⟩ (.int .i64 x)) g v0 f (m.set n x) b v4 v5 := by
  refine ⟨?_, k.lf, by rw [List.length_set]; exact k.lm, k.lb⟩
  rw [k.put, codCells, show 18 + n = (17 + n) + 1 from by omega, List.set_cons_succ, set_app_at _ _ 17 _ _ (by rw [nums_length, k.lf]), set_app_left _ _ _ _ (by rw [nums_length, k.lm]; exact h), nums_set]
  rfl
theorem Cod.sb (k : Cod w g v0 f m b v4 v5) (n : Nat) (h : n < 17) (x : Int) : Cod (w.setCell ⟨g, 35 + n, none⟩ (.int .i64 x)) g v0 f m (b.set n x) v4 v5 := by
  refine ⟨?_, k.lf, k.lm, by rw [List.length_set]; exact k.lb⟩
  rw [k.put, codCells, show 35 + n = (17 + (17 + n)) + 1 from by omega, List.set_cons_succ, set_app_at _ _ 17 _ _ (by rw [nums_length, k.lf]), set_app_at _ _ 17 _ _ (by rw [nums_length, k.lm]), set_app_left _ _ _ _ (by rw [nums_length, k.lb]; exact h), nums_set]
  rfl
theorem Cod.s4 (k : Cod w g v0 f m b v4 v5) (x : Value) : Cod (w.setCell ⟨g, 52, none⟩ x) g v0 f m b x v5 := by
  refine ⟨?_, k.lf, k.lm, k.lb⟩
  rw [k.put, codCells, show 52 = 51 + 1 from rfl, List.set_cons_succ, set_j _ _ 17 34 51 _ (by rw [nums_length, k.lf]) rfl, set_j _ _ 17 17 34 _ (by rw [nums_length, k.lm]) rfl, set_j _ _ 17 0 17 _ (by rw [nums_length, k.lb]) rfl]
  rfl
theorem Cod.s5 (k : Cod w g v0 f m b v4 v5) (x : Value) : Cod (w.setCell ⟨g, 53, none⟩ x) g v0 f m b v4 x := by
  refine ⟨?_, k.lf, k.lm, k.lb⟩
  rw [k.put, codCells, show 53 = 52 + 1 from rfl, List.set_cons_succ, set_j _ _ 17 35 52 _ (by rw [nums_length, k.lf]) rfl, set_j _ _ 17 18 35 _ (by rw [nums_length, k.lm]) rfl, set_j _ _ 17 1 18 _ (by rw [nums_length, k.lb]) rfl]
  rfl
/-- A store elsewhere. -/
theorem Cod.far (k : Cod w g v0 f m b v4 v5) {row : Option Nat} (h : w.grownBy w1 row) (hne : some g ≠ row) : Cod w1 g v0 f m b v4 v5 := ⟨blk_grown k.blk h hne, k.lf, k.lm, k.lb⟩
end
end Go.Proofs.YtdphifihneccoaaDoor.My

/- Codes by their lengths, plainly: how many of a length, the first number, where it begins, each sign's code. No program in sight. -/
namespace Go.Proofs.YtdphifihneccoaaDoor.Huf
set_option linter.unusedVariables false
set_option linter.unusedSimpArgs false

/-- A table of 17. -/
def tab (h : Nat → Int) : List Int := (List.range 17).map h
theorem tab_len (h : Nat → Int) : (tab h).length = 17 := by simp [tab]
theorem tab_get (h : Nat → Int) (n : Nat) (hn : n < 17) : (tab h).getD n 0 = h n := by simp [tab, List.getD_eq_getElem?_getD, hn]
theorem tab_set (h h' : Nat → Int) (n : Nat) (x : Int) (hn : n < 17) (h1 : h' n = x) (h2 : ∀ k, k ≠ n → k < 17 → h' k = h k) : (tab h).set n x = tab h' := by
  apply List.ext_getElem
  · simp [tab]
  · intro i a b
    have hi : i < 17 := by simpa [tab] using b
    rw [List.getElem_set]
    split
    · next e => subst e; simp [tab, h1]
    · next e => simp only [tab, List.getElem_map, List.getElem_range]; exact (h2 i (fun h => e h.symm) hi).symm
theorem tab_eq {h h' : Nat → Int} (e : ∀ k, k < 17 → h k = h' k) : tab h = tab h' := by
  unfold tab
  apply List.map_congr_left
  intro k hk
  exact e k (List.mem_range.1 hk)
/-- How many lengths are n. -/
def cn (L : List Int) (n : Nat) : Nat := L.count (n : Int)
/-- Likewise, of length 0 none. -/
def c0 (L : List Int) (n : Nat) : Nat := if n = 0 then 0 else cn L n
def fst (L : List Int) : Nat → Nat
  | 0 => 0
  | n + 1 => 2 * (fst L n + c0 L n)
def beg (L : List Int) : Nat → Nat
  | 0 => 0
  | n + 1 => beg L n + c0 L n
theorem cn_take (L : List Int) (i n : Nat) (x : Int) (h : L[i]? = some x) : cn (L.take (i + 1)) n = cn (L.take i) n + if x = (n : Int) then 1 else 0 := by
  unfold cn
  rw [List.take_add_one, h]
  simp only [Option.toList_some, List.count_append, List.count_cons, List.count_nil, Nat.zero_add, beq_iff_eq]
theorem cn_le (L : List Int) (n : Nat) : cn L n ≤ L.length := List.count_le_length
theorem cn_take_le (L : List Int) (i n : Nat) : cn (L.take i) n ≤ cn L n := (List.take_sublist i L).count_le _
theorem c0_le (L : List Int) (n : Nat) : c0 L n ≤ L.length := by unfold c0; split; omega; exact cn_le L n
theorem beg_mono (L : List Int) (n : Nat) : ∀ k, beg L n ≤ beg L (n + k)
  | 0 => Nat.le_refl _
  | k + 1 => Nat.le_trans (beg_mono L n k) (by show _ ≤ beg L (n + k) + _; omega)
/-- Is each length one that may be? -/
def okL (L : List Int) : Bool := L.all fun x => decide (0 ≤ x ∧ x ≤ 15)
/-- There are more codes of this length, or shorter, than there is room for. -/
def over (L : List Int) (n : Nat) : Bool := decide (2 ^ n < fst L n + cn L n)
/-- The first of so many lengths, from n on, that is over. -/
def anyOver (L : List Int) : Nat → Nat → Bool
  | 0, _ => false
  | k + 1, n => over L n || anyOver L k (n + 1)
def numR (L : List Int) : Int := if anyOver L 15 1 then -1 else 32768 - ((fst L 15 + cn L 15 : Nat) : Int)
/-- A sign's code. -/
def code (L : List Int) (s : Nat) : Nat := let n := (L.getD s 0).toNat; if n = 0 then 0 else fst L n + cn (L.take s) n
/-- Where a sign stands among all that have codes. -/
def pos (L : List Int) (s : Nat) : Nat := let n := (L.getD s 0).toNat; beg L n + cn (L.take s) n
theorem fst_le (L : List Int) : ∀ n, (∀ k, 1 ≤ k → k < n → over L k = false) → fst L n ≤ 2 ^ n
  | 0, _ => by simp [fst]
  | n + 1, h => by
    rw [fst, Nat.pow_succ]
    cases n with
    | zero => simp [fst, c0]
    | succ m =>
      have h1 := h (m + 1) (by omega) (by omega)
      unfold over at h1
      have h2 := of_decide_eq_false h1
      have h3 : c0 L (m + 1) = cn L (m + 1) := by simp [c0]
      omega
theorem beg_le (L : List Int) (n : Nat) : beg L n ≤ n * L.length := by
  induction n with
  | zero => simp [beg]
  | succ n ih =>
    have := c0_le L n
    rw [beg, Nat.succ_mul]
    omega
/-- All signs that have codes. -/
theorem count_split (L : List Int) (h : okL L = true) : ∀ n : Nat, (L.filter fun x => decide (0 < x ∧ x < (n : Int))).length = beg L n
  | 0 => by
    rw [beg]
    rw [List.filter_eq_nil_iff.2]
    · rfl
    · intro x _; simp; omega
  | n + 1 => by
    rw [beg, ← count_split L h n]
    clear h
    unfold c0 cn
    induction L with
    | nil => split <;> rfl
    | cons x L ih =>
      by_cases h0 : n = 0
      · subst h0
        have e : (x :: L).filter (fun x => decide (0 < x ∧ x < ((0 + 1 : Nat) : Int))) = [] := List.filter_eq_nil_iff.2 (by intro y _; simp; omega)
        have e2 : (x :: L).filter (fun x => decide (0 < x ∧ x < ((0 : Nat) : Int))) = [] := List.filter_eq_nil_iff.2 (by intro y _; simp; omega)
        rw [e, e2]; rfl
      · rw [if_neg h0] at ih ⊢
        rw [List.filter_cons, List.filter_cons, List.count_cons]
        by_cases e1 : x = (n : Int)
        · rw [if_pos (by simp; omega), if_neg (by simp; omega), if_pos (by simp [e1])]
          simp only [List.length_cons]
          omega
        · have e3 : (decide (0 < x ∧ x < ((n + 1 : Nat) : Int))) = decide (0 < x ∧ x < (n : Int)) := decide_eq_decide.2 (by omega)
          rw [e3, if_neg (show ¬ (x == (n : Int)) = true by simpa using e1)]
          split
          · simp only [List.length_cons]; omega
          · omega
theorem beg_all (L : List Int) (h : okL L = true) (n : Nat) : beg L n ≤ L.length := by rw [← count_split L h n]; exact List.length_filter_le _ _
theorem pos_lt (L : List Int) (s : Nat) (h : s < L.length) (n : Nat) (hn : L.getD s 0 = (n : Int)) (h0 : n ≠ 0) : cn (L.take s) n < cn L n := by
  have h1 := cn_take L s n (n : Int) (by rw [List.getElem?_eq_getElem h, ← hn, List.getD_eq_getElem?_getD, List.getElem?_eq_getElem h]; rfl)
  rw [if_pos rfl] at h1
  have h2 := cn_take_le L (s + 1) n
  omega
theorem cn_mono (L : List Int) (n : Nat) (i k : Nat) : cn (L.take i) n ≤ cn (L.take (i + k)) n := by
  have : (L.take (i + k)).take i = L.take i := by rw [List.take_take]; congr 1; omega
  rw [← this]
  exact cn_take_le _ _ _
theorem pos_inj (L : List Int) (s t : Nat) (hst : s < t) (ht : t < L.length) (n m : Nat) (hn : L.getD s 0 = (n : Int)) (hm : L.getD t 0 = (m : Int)) (hn0 : n ≠ 0) (hm0 : m ≠ 0) :
    beg L n + cn (L.take s) n ≠ beg L m + cn (L.take t) m := by
  have a1 := pos_lt L s (by omega) n hn hn0
  have a2 := pos_lt L t ht m hm hm0
  have b1 : beg L (n + 1) = beg L n + cn L n := by rw [beg]; simp [c0, hn0]
  have b2 : beg L (m + 1) = beg L m + cn L m := by rw [beg]; simp [c0, hm0]
  rcases Nat.lt_trichotomy n m with h | h | h
  · obtain ⟨k, rfl⟩ : ∃ k, m = (n + 1) + k := ⟨m - (n + 1), by omega⟩
    have := beg_mono L (n + 1) k
    omega
  · subst h
    have h1 := cn_take L s n (n : Int) (by rw [List.getElem?_eq_getElem (by omega), ← hn, List.getD_eq_getElem?_getD, List.getElem?_eq_getElem (by omega)]; rfl)
    rw [if_pos rfl] at h1
    obtain ⟨k, rfl⟩ : ∃ k, t = (s + 1) + k := ⟨t - (s + 1), by omega⟩
    have := cn_mono L n (s + 1) k
    omega
  · obtain ⟨k, rfl⟩ : ∃ k, n = (m + 1) + k := ⟨n - (m + 1), by omega⟩
    have := beg_mono L (m + 1) k
    omega
end Go.Proofs.YtdphifihneccoaaDoor.Huf

/- The walks of huff.Code's count and number. -/
namespace Go.Proofs.YtdphifihneccoaaDoor.My
open Go.RowKit Go.Proofs.YtdphifihneccoaaDoor.Huf Go.Proofs.YtdphifihneccoaaDoorW.PrintWords Go.Proofs.YtdphifihneccoaaDoorW.PrintLast Go.Proofs.YtdphifihneccoaaDoorW.PrintMore
set_option maxRecDepth 100000
set_option linter.unusedVariables false
set_option linter.unusedSimpArgs false

theorem add_block (ad : Addr) (i : Nat) : (ad.add i).block = ad.block := by unfold Addr.add; split <;> rfl
theorem num_at {w : World} {A : Option Addr} {n : Nat} {t : List Int} (h : (Kd.int .i64).C w A n t) (i : Nat) (hi : i < n) : ∃ ad, A = some ad ∧ w.cell? (ad.add i) = some (.int .i64 (t.getD i 0)) := by
  obtain ⟨ad, e, hc⟩ := Kd.at_int h (i : Int) (by omega) (by omega)
  rw [Int.toNat_natCast] at hc
  exact ⟨ad, e, by simpa [rd] using hc⟩
theorem all_take (L : List Int) (i : Nat) (x : Int) (h : L[i]? = some x) (hb : ¬ (0 ≤ x ∧ x ≤ 15)) : okL L = false := by
  unfold okL
  rw [List.all_eq_false]
  exact ⟨x, List.mem_of_getElem? h, by simpa using hb⟩
theorem all_true (L : List Int) (h : ∀ (i : Nat) (x : Int), L[i]? = some x → 0 ≤ x ∧ x ≤ 15) : okL L = true := by
  unfold okL
  rw [List.all_eq_true]
  intro x hx
  obtain ⟨i, hi⟩ := List.getElem?_of_mem hx
  exact decide_eq_true (h i x hi)
theorem getD_some (L : List Int) (i : Nat) (h : i < L.length) : L[i]? = some (L.getD i 0) := by rw [List.getD_eq_getElem?_getD, List.getElem?_eq_getElem h]; rfl
set_option maxHeartbeats 1000000 in
set_option maxRecDepth 100000 in
theorem count_calls (w : World) (g : Nat) (A : Option Addr) (n c : Nat) (L F B : List Int) (v4 v5 : Value) (k : Cod w g (.slice A n c) F (tab fun _ => 0) B v4 v5) (hL : (Kd.int .i64).C w A n L) (hne : ∀ ad, A = some ad → ad.block ≠ g) (hn : n ≤ 1000000) :
    Calls Tryd.prog 69 #[.pointer (some ⟨g, 0, none⟩)] w fun e w' => e = .returned (.bool (okL L)) ∧ w.grownBy w' (some g) ∧ (okL L = true → Cod w' g (.slice A n c) F (tab fun j => (c0 L j : Int)) B v4 v5) := by
  have c0 := k.c0
  have hl : L.length = n := hL.1
  have h3 : (n : Int) ≤ 1000000 := by omega
  have HL := Aside0.mk hL
  have HK0 := Aside0.mk k
  have HNe := Aside0.mk hne
  have HLn := Aside0.mk hl
  clear k hL hne hl hn
  go_enter Tryd.func69, Tryd.ntmps69
  go_wp2_with fail
  go_loopg [10] n (fun kq v10 wr => ∃ i : Nat, v10 = .int .i64 i ∧ i ≤ n ∧ Aside0 (kq = n - i) ∧ Aside0 (Cod wr g (.slice A n c) F (tab fun j => (cn (L.take i) j : Int)) B v4 v5) ∧ Aside0 (w.grownBy wr (some g)) ∧ Aside0 (∀ j, j < i → 0 ≤ L.getD j 0 ∧ L.getD j 0 ≤ 15))
  case atStart => exact ⟨0, rfl, Nat.zero_le _, ⟨rfl⟩, ⟨by simpa [cn] using HK0.out⟩, ⟨grown_refl _ _⟩, ⟨fun j hj => absurd hj (Nat.not_lt_zero _)⟩⟩
  case round =>
    obtain ⟨i, rfl, hi, HK, HC, HG, HO⟩ := hrel
    by_cases hlt : i < n
    · have hlt' : (i : Int) < (n : Int) := by omega
      obtain ⟨ad, rfl, hci⟩ := num_at HL.out i hlt
      have hci2 : wr.cell? (ad.add i) = some (.int .i64 (L.getD i 0)) := HG.out.cell hci (by rw [add_block]; simpa using fun e => HNe.out ad rfl e)
      have hx := getD_some L i (by rw [HLn.out]; exact hlt)
      generalize hxx : L.getD i 0 = x at hci hci2 hx
      have HX := Aside0.mk hx
      have HXX := Aside0.mk hxx
      clear hx hxx hci
      by_cases hb : 0 ≤ x ∧ x ≤ 15
      · obtain ⟨m, rfl⟩ := Int.eq_ofNat_of_zero_le hb.1
        have hm : (m : Int) ≤ 15 := hb.2
        have cm := HC.out.cm m (by omega)
        rw [tab_get _ m (by omega)] at cm
        have fm := HC.out.fz (18 + m)
        have HS := Aside0.mk (HC.out.sm m (by omega) ((cn (L.take i) m : Int) + 1))
        have HG1 := Aside0.mk (grown_trans HG.out (grown_set wr g (18 + m) (.int .i64 ((cn (L.take i) m : Int) + 1))))
        have hle : (cn (L.take i) m : Int) ≤ 1000000 := by
          have := cn_le (L.take i) m
          have h2 : (L.take i).length ≤ i := by rw [List.length_take]; omega
          omega
        generalize hq : cn (L.take i) m = q at *
        have HQ := Aside0.mk hq
        clear hq
        go_wp2_with fail
        go_region
        all_goals
          go_wp2_with fail
          have e1 : ((i : Int) + 1) = ((i + 1 : Nat) : Int) := by omega
          rw [e1]
          go_roundg (n - (i + 1))
          case measure => have := HK.out; omega
          case rel =>
            refine ⟨i + 1, rfl, by omega, ⟨rfl⟩, ⟨?_⟩, ⟨?_⟩, ⟨?_⟩⟩
            · have := HS.out
              rw [tab_set _ (fun j => (cn (L.take (i + 1)) j : Int)) m _ (by omega) (by rw [cn_take L i m _ HX.out, if_pos rfl, HQ.out]; simp) (fun k hk _ => by rw [cn_take L i k _ HX.out, if_neg (by omega)]; simp)] at this
              first | exact this.drewN 1 | exact this
            · first | exact grown_drewN HG1.out 1 | exact HG1.out
            · intro j hj
              rcases Nat.lt_or_ge j i with h | h
              · exact HO.out j h
              · obtain rfl : j = i := by omega
                rw [HXX.out]; omega
      · have HB := Aside0.mk (all_take L i x HX.out hb)
        rcases Int.lt_or_le x 0 with h0 | h0
        · clear hb
          go_wp2_with fail
          go_ret
          exact ⟨by rw [HB.out]; rfl, HG.out, fun h => by rw [HB.out] at h; cases h⟩
        · have h1 : 15 < x := by omega
          clear hb
          go_wp2_with fail
          go_ret
          exact ⟨by rw [HB.out]; rfl, HG.out, fun h => by rw [HB.out] at h; cases h⟩
    · have hlt' : ¬ (i : Int) < (n : Int) := by omega
      have HOK : Aside0 (okL L = true) := ⟨all_true L (fun j x hx => by
        have hj := (List.getElem?_eq_some_iff.1 hx).1
        have := HO.out j (by rw [HLn.out] at hj; omega)
        rw [List.getD_eq_getElem?_getD, hx] at this
        exact this)⟩
      have cm := HC.out.cm 0 (by omega)
      have fm := HC.out.fz 18
      have HS := Aside0.mk (HC.out.sm 0 (by omega) 0)
      have HG1 := Aside0.mk (grown_trans HG.out (grown_set wr g 18 (.int .i64 0)))
      rw [Nat.add_zero] at cm
      go_wp2_with fail
      go_ret
      refine ⟨by rw [HOK.out]; rfl, HG1.out, fun _ => ?_⟩
      have := HS.out
      rw [tab_set _ (fun j => (Huf.c0 L j : Int)) 0 _ (by omega) (by simp [Huf.c0]) (fun k hk _ => by rw [List.take_of_length_le (by rw [HLn.out]; omega)]; simp [Huf.c0, hk])] at this
      exact this
end Go.Proofs.YtdphifihneccoaaDoor.My

/- The walk of huff.Code's number. -/
namespace Go.Proofs.YtdphifihneccoaaDoor.My
open Go.RowKit Go.Proofs.YtdphifihneccoaaDoor.Huf Go.Proofs.YtdphifihneccoaaDoorW.PrintWords Go.Proofs.YtdphifihneccoaaDoorW.PrintLast Go.Proofs.YtdphifihneccoaaDoorW.PrintMore
set_option maxRecDepth 100000
set_option linter.unusedVariables false
set_option linter.unusedSimpArgs false

/-- The tables up to a length. -/
def upto (h : Nat → Nat) (n : Nat) : List Int := tab fun k => if k < n then (h k : Int) else 0
theorem upto_get (h : Nat → Nat) (n k : Nat) (hk : k < n) (h17 : k < 17) : (upto h n).getD k 0 = (h k : Int) := by unfold upto; rw [tab_get _ k h17, if_pos hk]
theorem upto_set (h : Nat → Nat) (n : Nat) (hn : n < 17) (x : Int) (hx : x = (h n : Int)) : (upto h n).set n x = upto h (n + 1) := by
  unfold upto
  exact tab_set _ _ n x hn (by rw [if_pos (by omega), hx]) (fun k hk _ => by
    by_cases e : k < n
    · rw [if_pos e, if_pos (by omega)]
    · rw [if_neg e, if_neg (by omega)])
theorem two_wrap (m : Nat) (h : m < 15) : wrap64 (2 ^ (m + 1)) = ((2 ^ (m + 1) : Nat) : Int) := by
  have h1 : 2 ^ (m + 1) ≤ 2 ^ 15 := Nat.pow_le_pow_right (by decide) h
  have h2 : (2 : Int) ^ (m + 1) = ((2 ^ (m + 1) : Nat) : Int) := by push_cast; rfl
  rw [h2]
  generalize 2 ^ (m + 1) = q at *
  unfold wrap64
  omega
theorem anyOver_step (L : List Int) (m : Nat) (h : m < 15) : anyOver L (15 - m) (m + 1) = (over L (m + 1) || anyOver L (15 - (m + 1)) (m + 1 + 1)) := by
  obtain ⟨d, e⟩ : ∃ d, 15 - m = d + 1 := ⟨14 - m, by omega⟩
  rw [e, show 15 - (m + 1) = d from by omega]
  rfl
theorem c0_succ (L : List Int) (m : Nat) : c0 L (m + 1) = cn L (m + 1) := by simp [c0]
set_option maxHeartbeats 2000000 in
set_option maxRecDepth 100000 in
theorem number_calls (w : World) (g : Nat) (v0 : Value) (L : List Int) (v4 v5 : Value) (k : Cod w g v0 (upto (fst L) 1) (tab fun j => (c0 L j : Int)) (upto (beg L) 1) v4 v5) (hn : L.length ≤ 1000000) :
    Calls Tryd.prog 70 #[.pointer (some ⟨g, 0, none⟩)] w fun e w' => e = .returned (.int .i64 (numR L)) ∧ w.grownBy w' (some g) ∧ (anyOver L 15 1 = false → Cod w' g v0 (upto (fst L) 16) (tab fun j => (c0 L j : Int)) (upto (beg L) 16) v4 v5) := by
  have HK0 := Aside0.mk k
  have HL := Aside0.mk hn
  clear k hn
  go_enter Tryd.func70, Tryd.ntmps70
  go_wp2_with fail
  go_loopg [3, 4] 15 (fun kq v3 v4' wr => ∃ m : Nat, v3 = .int .i64 (fst L m : Nat) ∧ v4' = .int .i64 ((m : Int) + 1) ∧ m ≤ 15 ∧ Aside0 (kq = 15 - m) ∧ Aside0 (Cod wr g v0 (upto (fst L) (m + 1)) (tab fun j => (c0 L j : Int)) (upto (beg L) (m + 1)) v4 v5) ∧ Aside0 (w.grownBy wr (some g)) ∧ Aside0 (anyOver L (15 - m) (m + 1) = anyOver L 15 1 ∧ ∀ j, 1 ≤ j → j < m + 1 → over L j = false))
  case atStart => exact ⟨0, rfl, rfl, Nat.zero_le _, ⟨rfl⟩, HK0, ⟨grown_refl _ _⟩, ⟨rfl, fun j h1 h2 => by omega⟩⟩
  case round =>
    obtain ⟨m, rfl, rfl, hm, HK, HC, HG, HO⟩ := hrel
    have hle := fst_le L m (fun j h1 h2 => HO.out.2 j h1 (by omega))
    have h2 : 2 ^ m ≤ 2 ^ 15 := Nat.pow_le_pow_right (by decide) hm
    have hc0 := c0_le L m
    have hc1 := c0_le L (m + 1)
    have hbm := beg_le L m
    have hl := HL.out
    have hmul : m * L.length ≤ 15 * 1000000 := Nat.mul_le_mul hm hl
    have b1 : ((fst L m : Nat) : Int) ≤ 32768 := by omega
    have b2 : ((c0 L m : Nat) : Int) ≤ 1000000 := by omega
    have b3 : ((c0 L (m + 1) : Nat) : Int) ≤ 1000000 := by omega
    have b4 : ((beg L m : Nat) : Int) ≤ 15000000 := by omega
    clear hle h2 hc0 hc1 hbm hl hmul
    have cm := HC.out.cm m (by omega)
    rw [tab_get _ m (by omega)] at cm
    by_cases hlt : m < 15
    · have hlt' : (m : Int) < 15 := by omega
      have e1 : ((fst L (m + 1) : Nat) : Int) = (((fst L m : Nat) : Int) + ((c0 L m : Nat) : Int)) * 2 := by rw [fst, Nat.mul_comm]; push_cast; rfl
      have e2 : ((beg L (m + 1) : Nat) : Int) = ((beg L m : Nat) : Int) + ((c0 L m : Nat) : Int) := by rw [beg]; push_cast; rfl
      have k1 := HC.out.sf (m + 1) (by omega) ((((fst L m : Nat) : Int) + ((c0 L m : Nat) : Int)) * 2)
      rw [upto_set (fst L) (m + 1) (by omega) _ e1.symm] at k1
      have k2 := k1.sb (m + 1) (by omega) (((beg L m : Nat) : Int) + ((c0 L m : Nat) : Int))
      rw [upto_set (beg L) (m + 1) (by omega) _ e2.symm] at k2
      have f0 := HC.out.fz (1 + (m + 1))
      have d0 := HC.out.cf (m + 1) (by omega)
      have d1 := k1.cm m (by omega)
      rw [tab_get _ m (by omega)] at d1
      have d2 := k1.cb m (by omega)
      rw [upto_get _ _ m (by omega) (by omega)] at d2
      have d3 := k1.cb (m + 1) (by omega)
      have f3 := k1.fz (35 + (m + 1))
      have d4 := k2.cm (m + 1) (by omega)
      rw [tab_get _ (m + 1) (by omega)] at d4
      have K2 := Aside0.mk k2
      have HG1 := Aside0.mk (grown_trans (grown_trans HG.out (grown_set wr g (1 + (m + 1)) (.int .i64 ((((fst L m : Nat) : Int) + ((c0 L m : Nat) : Int)) * 2)))) (grown_set _ g (35 + (m + 1)) (.int .i64 (((beg L m : Nat) : Int) + ((c0 L m : Nat) : Int)))))
      have HE1 := Aside0.mk e1
      have HE2 := Aside0.mk e2
      clear e1 e2 k1 k2
      have p1 : (0 : Int) ≤ ((fst L m : Nat) : Int) := by omega
      have p2 : (0 : Int) ≤ ((c0 L m : Nat) : Int) := by omega
      have p3 : (0 : Int) ≤ ((c0 L (m + 1) : Nat) : Int) := by omega
      have p4 : (0 : Int) ≤ ((beg L m : Nat) : Int) := by omega
      generalize ((fst L m : Nat) : Int) = X at *
      generalize ((c0 L m : Nat) : Int) = Y at *
      generalize hY2 : ((c0 L (m + 1) : Nat) : Int) = Y2 at *
      have HY2 := Aside0.mk hY2
      clear hY2
      generalize ((beg L m : Nat) : Int) = Z at *
      generalize (upto (fst L) (m + 1)).getD (m + 1) 0 = q1 at *
      generalize (upto (beg L) (m + 1)).getD (m + 1) 0 = q2 at *
      go_wp2_with fail
      go_region
      all_goals (first | go_wp2_with fail | skip)
      all_goals (first | go_region | skip)
      go_wp2_with fail
      · next hov =>
        have HT : Aside0 (numR L = -1) := ⟨by
          have h1 := two_wrap m hlt
          have h2 := HE1.out
          have h3 := HY2.out
          rw [c0_succ] at h3
          rw [h1] at hov
          have h4 : over L (m + 1) = true := decide_eq_true (by omega)
          have h5 := anyOver_step L m hlt
          rw [h4, Bool.true_or, HO.out.1] at h5
          unfold numR
          rw [if_pos h5]⟩
        have HG2 := Aside0.mk (grown_drewN HG1.out 2)
        have HA : Aside0 (anyOver L 15 1 = true) := ⟨by
          have h := HT.out
          unfold numR at h
          split at h
          · assumption
          · next hn => 
            have h1 := two_wrap m hlt
            have h2 := HE1.out
            have h3 := HY2.out
            rw [c0_succ] at h3
            rw [h1] at hov
            have h4 : over L (m + 1) = true := decide_eq_true (by omega)
            have h5 := anyOver_step L m hlt
            rw [h4, Bool.true_or, HO.out.1] at h5
            exact h5⟩
        go_ret
        exact ⟨by rw [HT.out]; rfl, HG2.out, fun h => by rw [HA.out] at h; cases h⟩
      · next hov =>
        have HV : Aside0 (over L (m + 1) = false) := ⟨by
          have h1 := two_wrap m hlt
          have h2 := HE1.out
          have h3 := HY2.out
          rw [c0_succ] at h3
          rw [h1] at hov
          exact decide_eq_false (by omega)⟩
        have e1 : ((m : Int) + 1) = ((m + 1 : Nat) : Int) := by omega
        go_roundg (15 - (m + 1))
        case measure => have := HK.out; omega
        case rel =>
          refine ⟨m + 1, by rw [← HE1.out], by rfl, by omega, ⟨rfl⟩, ⟨K2.out.drewN 2⟩, ⟨grown_drewN HG1.out 2⟩, ⟨?_, ?_⟩⟩
          · have h5 := anyOver_step L m hlt
            rw [HV.out, Bool.false_or] at h5
            rw [← h5]
            exact HO.out.1
          · intro j h1 h2
            rcases Nat.lt_or_ge j (m + 1) with h | h
            · exact HO.out.2 j h1 h
            · obtain rfl : j = m + 1 := by omega
              exact HV.out
    · have e15 : m = 15 := by omega
      subst e15
      have p1 : (0 : Int) ≤ ((fst L 15 : Nat) : Int) := by omega
      have p2 : (0 : Int) ≤ ((c0 L 15 : Nat) : Int) := by omega
      have HA : Aside0 (anyOver L 15 1 = false) := ⟨HO.out.1.symm⟩
      have HN : Aside0 (numR L = 32768 - (((fst L 15 : Nat) : Int) + ((c0 L 15 : Nat) : Int))) := ⟨by unfold numR; rw [if_neg (by rw [HA.out]; decide)]; simp [c0]⟩
      clear hlt hm
      generalize ((fst L 15 : Nat) : Int) = X at *
      generalize ((c0 L 15 : Nat) : Int) = Y at *
      go_wp2_with fail
      go_ret
      exact ⟨by rw [HN.out]; rfl, HG.out, fun _ => HC.out⟩
end Go.Proofs.YtdphifihneccoaaDoor.My

/- What sort of a huff.Code does, plainly, and blocks of numbers. -/
namespace Go.Proofs.YtdphifihneccoaaDoor.My
open Go.RowKit Go.Proofs.YtdphifihneccoaaDoor.Huf Go.Proofs.YtdphifihneccoaaDoorW.PrintWords Go.Proofs.YtdphifihneccoaaDoorW.PrintLast Go.Proofs.YtdphifihneccoaaDoorW.PrintMore
set_option maxRecDepth 100000
set_option linter.unusedVariables false
set_option linter.unusedSimpArgs false

/-- A block of numbers. -/
def IRow (w : World) (b : Nat) (t : TypeId) (xs : List Int) : Prop := w.heap[b]? = some (.cells (nums .i64 xs).toArray t (0, 0))
theorem IRow.cell {w : World} {b : Nat} {t : TypeId} {xs : List Int} (h : IRow w b t xs) (i : Nat) (hi : i < xs.length) : w.cell? ⟨b, i, none⟩ = some (.int .i64 (xs.getD i 0)) := by
  rw [blk_cell h]
  simp only [List.getElem?_toArray]
  exact nums_at xs i hi
theorem IRow.fz {w : World} {b : Nat} {t : TypeId} {xs : List Int} (h : IRow w b t xs) (i : Nat) : w.frozen? ⟨b, i, none⟩ = false := blk_frozen h i
theorem IRow.set {w : World} {b : Nat} {t : TypeId} {xs : List Int} (h : IRow w b t xs) (i : Nat) (x : Int) : IRow (w.setCell ⟨b, i, none⟩ (.int .i64 x)) b t (xs.set i x) := by
  unfold IRow at h ⊢
  rw [blk_set h]
  simp [nums, List.map_set]
theorem IRow.far {w : World} {b : Nat} {t : TypeId} {xs : List Int} (h : IRow w b t xs) {p : Addr} (hp : b ≠ p.block) (u : Value) : IRow (w.setCell p u) b t xs := blk_far h hp u
theorem IRow.drewN {w : World} {b : Nat} {t : TypeId} {xs : List Int} (h : IRow w b t xs) (n : Nat) : IRow (w.drewN n) b t xs := h
theorem IRow.below {w w1 : World} {b : Nat} {t : TypeId} {xs : List Int} (h : IRow w b t xs) (hb : Below w.heap.size w w1) : IRow w1 b t xs := blk_below h hb
theorem IRow.lt {w : World} {b : Nat} {t : TypeId} {xs : List Int} (h : IRow w b t xs) : b < w.heap.size := blk_lt h
theorem IRow.reads {w : World} {b : Nat} {t : TypeId} {xs : List Int} (h : IRow w b t xs) (hm : xs.length ≤ 9223372036854775807) : (Kd.int .i64).C w (some ⟨b, 0, none⟩) xs.length xs := C_block w b .i64 xs t (0, 0) h hm
theorem IRow.made (w : World) (t : TypeId) (m : Nat) : IRow (w.alloc (.cells (madeCells #[.int .i64 0] m) t)) w.heap.size t (List.replicate m 0) := by
  rw [made_nums]
  exact alloc_self _ _
theorem info_i64 : (Tryd.prog.info? 3).map (fun i => (i.zero, i.size, i.bytes)) = some (some (.int .i64 0), 1, 8) := by kernel_rfl
theorem make_ints (n : Nat) (hn : n ≤ 16777216) (W : World) : (Instr.makeSlice 54 (.int .i64 n) (.int .i64 n)).run Tryd.prog W = .ok (.slice (some ⟨W.heap.size, 0, none⟩) n n) (W.alloc (.cells (madeCells #[.int .i64 0] n) 3)) := by
  obtain ⟨i0, hi, hz⟩ := Option.map_eq_some_iff.1 info_i64
  simp only [Prod.mk.injEq] at hz
  have h := run_makeSlice W (P := Tryd.prog) 54 3 i0 (.int .i64 0) Tryd.underlying54 hi hz.1 .i64 .i64 n n (by omega) (by omega) (by rw [hz.2.1]; omega) (by rw [hz.2.2]; omega) (by omega)
  rw [hz.2.1] at h
  simpa [Value.cells] using h
theorem list17 (xs : List Int) (h : xs.length = 17) : nums .i64 xs = [0, 1, 2, 3, 4, 5, 6, 7, 8, 9, 10, 11, 12, 13, 14, 15, 16].map fun i => .int .i64 (xs.getD i 0) := by
  apply List.ext_getElem
  · simp [nums, h]
  · intro i a b
    have hi : i < 17 := by simpa using b
    have : i = 0 ∨ i = 1 ∨ i = 2 ∨ i = 3 ∨ i = 4 ∨ i = 5 ∨ i = 6 ∨ i = 7 ∨ i = 8 ∨ i = 9 ∨ i = 10 ∨ i = 11 ∨ i = 12 ∨ i = 13 ∨ i = 14 ∨ i = 15 ∨ i = 16 := by omega
    rcases this with e | e | e | e | e | e | e | e | e | e | e | e | e | e | e | e | e <;> subst e <;> simp [nums, List.getD_eq_getElem?_getD, h]
/-- Where the next sign of each length goes, behind so many signs. -/
def atL (L : List Int) (i : Nat) : List Int := tab fun k => if k < 16 then ((beg L k + c0 (L.take i) k : Nat) : Int) else 0
def nmL (L : List Int) (i : Nat) : List Int := (List.range L.length).map fun s => if s < i then (code L s : Int) else 0
theorem nmL_len (L : List Int) (i : Nat) : (nmL L i).length = L.length := by simp [nmL]
theorem atL_zero (L : List Int) : upto (beg L) 16 = atL L 0 := tab_eq fun k hk => by
  split
  · simp [c0, cn]
  · rfl
theorem atL_get (L : List Int) (i m : Nat) (h0 : m ≠ 0) (h : m ≤ 15) : (atL L i).getD m 0 = ((beg L m + cn (L.take i) m : Nat) : Int) := by
  unfold atL
  rw [tab_get _ m (by omega), if_pos (by omega)]
  simp [c0, h0]
theorem atL_skip (L : List Int) (i : Nat) (h : L[i]? = some 0) : atL L (i + 1) = atL L i := tab_eq fun k hk => by
  unfold c0
  by_cases e : k = 0
  · simp [e]
  · rw [if_neg e, if_neg e, cn_take L i k _ h, if_neg (show ¬ ((0 : Int) = (k : Int)) by omega)]; rfl
theorem atL_set (L : List Int) (i m : Nat) (h0 : m ≠ 0) (h : m ≤ 15) (hx : L[i]? = some (m : Int)) (y : Int) (hy : y = ((beg L m + cn (L.take i) m : Nat) : Int) + 1) : (atL L i).set m y = atL L (i + 1) := by
  unfold atL
  refine tab_set _ _ m y (by omega) ?_ ?_
  · rw [if_pos (by omega), hy]
    unfold c0
    rw [if_neg h0, cn_take L i m _ hx, if_pos rfl]
    omega
  · intro k hk _
    split
    · unfold c0
      by_cases e : k = 0
      · simp [e]
      · rw [if_neg e, if_neg e, cn_take L i k _ hx, if_neg (by omega)]; rfl
    · rfl
theorem nmL_zero (L : List Int) : List.replicate L.length (0 : Int) = nmL L 0 := by
  apply List.ext_getElem
  · simp [nmL]
  · intro i a b; simp [nmL]
theorem nmL_set (L : List Int) (i : Nat) (h : i < L.length) (y : Int) (hy : y = (code L i : Int)) : (nmL L i).set i y = nmL L (i + 1) := by
  apply List.ext_getElem
  · simp [nmL]
  · intro j a b
    rw [List.getElem_set]
    simp only [nmL, List.getElem_map, List.getElem_range]
    split
    · next e => subst e; rw [if_pos (by omega), hy]
    · next e =>
      by_cases hj : j < i
      · rw [if_pos hj, if_pos (by omega)]
      · rw [if_neg hj, if_neg (by omega)]
theorem nmL_skip (L : List Int) (i : Nat) (h : L[i]? = some 0) : nmL L (i + 1) = nmL L i := by
  have hl := (List.getElem?_eq_some_iff.1 h).1
  rw [← nmL_set L i hl (code L i : Int) rfl]
  have hc : (code L i : Int) = 0 := by
    unfold code
    rw [List.getD_eq_getElem?_getD, h]
    simp
  rw [hc]
  apply List.ext_getElem
  · simp [nmL]
  · intro j a b
    rw [List.getElem_set]
    split
    · next e => subst e; simp [nmL]
    · rfl
theorem nmL_all (L : List Int) : nmL L L.length = (List.range L.length).map fun s => (code L s : Int) := by
  unfold nmL
  apply List.map_congr_left
  intro s hs
  rw [if_pos (List.mem_range.1 hs)]
theorem over_all (L : List Int) : ∀ k n, anyOver L k n = false → ∀ j, n ≤ j → j < n + k → over L j = false
  | 0, n, _, j, h1, h2 => by omega
  | k + 1, n, h, j, h1, h2 => by
    rw [anyOver, Bool.or_eq_false_iff] at h
    rcases Nat.eq_or_lt_of_le h1 with e | e
    · subst e; exact h.1
    · exact over_all L k (n + 1) h.2 j e (by omega)
/-- All signs before this one stand at their places. -/
def Stood (L : List Int) (i : Nat) (S : List Int) : Prop := S.length = beg L 16 ∧ ∀ s, s < i → L.getD s 0 ≠ 0 → S.getD (pos L s) 0 = (s : Int)
theorem stood_skip (L : List Int) (i : Nat) (S : List Int) (h : Stood L i S) (hx : L.getD i 0 = 0) : Stood L (i + 1) S := ⟨h.1, fun s hs h0 => by
  rcases Nat.lt_or_ge s i with e | e
  · exact h.2 s e h0
  · obtain rfl : s = i := by omega
    exact absurd hx h0⟩
theorem pos_eq (L : List Int) (i m : Nat) (hx : L.getD i 0 = (m : Int)) : pos L i = beg L m + cn (L.take i) m := by
  unfold pos
  rw [hx]
  simp
theorem pos_in (L : List Int) (i m : Nat) (hi : i < L.length) (h0 : m ≠ 0) (h : m ≤ 15) (hx : L.getD i 0 = (m : Int)) : beg L m + cn (L.take i) m < beg L 16 := by
  have h1 := pos_lt L i hi m hx h0
  have h2 : beg L (m + 1) = beg L m + cn L m := by rw [beg]; simp [c0, h0]
  obtain ⟨d, e⟩ : ∃ d, 16 = (m + 1) + d := ⟨15 - m, by omega⟩
  have h3 := beg_mono L (m + 1) d
  rw [← e] at h3
  omega
theorem stood_set (L : List Int) (i m : Nat) (S : List Int) (h : Stood L i S) (hok : okL L = true) (hi : i < L.length) (h0 : m ≠ 0) (hm : m ≤ 15) (hx : L.getD i 0 = (m : Int)) :
    Stood L (i + 1) (S.set (beg L m + cn (L.take i) m) (i : Int)) := by
  refine ⟨by rw [List.length_set]; exact h.1, fun s hs hs0 => ?_⟩
  have hp := pos_in L i m hi h0 hm hx
  rcases Nat.lt_or_ge s i with e | e
  · have hs1 : s < L.length := by omega
    have hmem : L.getD s 0 ∈ L := by rw [List.getD_eq_getElem?_getD, List.getElem?_eq_getElem hs1]; exact List.getElem_mem _
    have hb : 0 ≤ L.getD s 0 ∧ L.getD s 0 ≤ 15 := by
      have := List.all_eq_true.1 hok _ hmem
      simpa using this
    obtain ⟨n', hn'⟩ := Int.eq_ofNat_of_zero_le hb.1
    have hne := pos_inj L s i e hi n' m hn' hx (by intro e2; rw [e2] at hn'; exact hs0 hn') h0
    rw [← pos_eq L s n' hn'] at hne
    rw [List.getD_eq_getElem?_getD, List.getElem?_set_ne (by omega), ← List.getD_eq_getElem?_getD]
    exact h.2 s e hs0
  · obtain rfl : s = i := by omega
    rw [pos_eq L s m hx, List.getD_eq_getElem?_getD, List.getElem?_set_self (by rw [h.1]; exact hp)]
    rfl
end Go.Proofs.YtdphifihneccoaaDoor.My

/- The walk of huff.Code's sort. -/
namespace Go.Proofs.YtdphifihneccoaaDoor.My
open Go.RowKit Go.Proofs.YtdphifihneccoaaDoor.Huf Go.Proofs.YtdphifihneccoaaDoorW.PrintWords Go.Proofs.YtdphifihneccoaaDoorW.PrintLast Go.Proofs.YtdphifihneccoaaDoorW.PrintMore
set_option maxRecDepth 100000
set_option linter.unusedVariables false
set_option linter.unusedSimpArgs false

theorem Cod.drew {w : World} {g : Nat} {v0 v4 v5 : Value} {f m b : List Int} (k : Cod w g v0 f m b v4 v5) : Cod w.drew g v0 f m b v4 v5 := k.drewN 1
theorem IRow.drew {w : World} {b : Nat} {t : TypeId} {xs : List Int} (h : IRow w b t xs) : IRow w.drew b t xs := h
theorem Cod.other {w : World} {g : Nat} {v0 v4 v5 : Value} {f m b : List Int} (k : Cod w g v0 f m b v4 v5) {p : Addr} (hp : g ≠ p.block) (u : Value) : Cod (w.setCell p u) g v0 f m b v4 v5 := ⟨blk_far k.blk hp u, k.lf, k.lm, k.lb⟩
theorem grown_new {w w1 : World} {row : Option Nat} (h : w.grownBy w1 row) {p : Addr} (hp : w.heap.size ≤ p.block) (u : Value) : w.grownBy (w1.setCell p u) row :=
  ⟨h.os, h.tape, h.output, by have := h.size; simpa [World.setCell] using this, fun i hi hr => (Below.heap_setCell w1 p u i (by omega)).trans (h.block i hi hr)⟩
set_option maxHeartbeats 2000000 in
set_option maxRecDepth 100000 in
theorem sort_calls (w : World) (g : Nat) (A : Option Addr) (n c : Nat) (L : List Int) (v4 v5 : Value) (k : Cod w g (.slice A n c) (upto (fst L) 16) (tab fun j => (c0 L j : Int)) (upto (beg L) 16) v4 v5) (hL : (Kd.int .i64).C w A n L) (hne : ∀ ad, A = some ad → ad.block ≠ g) (hn : n ≤ 1000000) (hok : okL L = true) (hover : anyOver L 15 1 = false) :
    Calls Tryd.prog 71 #[.pointer (some ⟨g, 0, none⟩)] w fun e w' => e = .returned (.tuple #[]) ∧ w.grownBy w' (some g) ∧ ∃ b1 b2 S, w.heap.size ≤ b1 ∧ w.heap.size ≤ b2 ∧ b1 ≠ b2 ∧ Cod w' g (.slice A n c) (upto (fst L) 16) (tab fun j => (c0 L j : Int)) (upto (beg L) 16) (.slice (some ⟨b1, 0, none⟩) (beg L 16) (beg L 16)) (.slice (some ⟨b2, 0, none⟩) n n) ∧ IRow w' b1 3 S ∧ Stood L n S ∧ IRow w' b2 3 (nmL L n) := by
  have hl : L.length = n := hL.1
  have cb15 : w.cell? ⟨g, 50, none⟩ = some (.int .i64 ((upto (beg L) 16).getD 15 0)) := k.cb 15 (by omega)
  rw [upto_get _ _ 15 (by omega) (by omega)] at cb15
  have cm15 := k.cm 15 (by omega)
  rw [tab_get _ 15 (by omega)] at cm15
  have y0 : w.cell? ⟨g, 35, none⟩ = some (.int .i64 ((upto (beg L) 16).getD 0 0)) := k.cb 0 (by omega)
  have y1 : w.cell? ⟨g, 36, none⟩ = some (.int .i64 ((upto (beg L) 16).getD 1 0)) := k.cb 1 (by omega)
  have y2 : w.cell? ⟨g, 37, none⟩ = some (.int .i64 ((upto (beg L) 16).getD 2 0)) := k.cb 2 (by omega)
  have y3 : w.cell? ⟨g, 38, none⟩ = some (.int .i64 ((upto (beg L) 16).getD 3 0)) := k.cb 3 (by omega)
  have y4 : w.cell? ⟨g, 39, none⟩ = some (.int .i64 ((upto (beg L) 16).getD 4 0)) := k.cb 4 (by omega)
  have y5 : w.cell? ⟨g, 40, none⟩ = some (.int .i64 ((upto (beg L) 16).getD 5 0)) := k.cb 5 (by omega)
  have y6 : w.cell? ⟨g, 41, none⟩ = some (.int .i64 ((upto (beg L) 16).getD 6 0)) := k.cb 6 (by omega)
  have y7 : w.cell? ⟨g, 42, none⟩ = some (.int .i64 ((upto (beg L) 16).getD 7 0)) := k.cb 7 (by omega)
  have y8 : w.cell? ⟨g, 43, none⟩ = some (.int .i64 ((upto (beg L) 16).getD 8 0)) := k.cb 8 (by omega)
  have y9 : w.cell? ⟨g, 44, none⟩ = some (.int .i64 ((upto (beg L) 16).getD 9 0)) := k.cb 9 (by omega)
  have y10 : w.cell? ⟨g, 45, none⟩ = some (.int .i64 ((upto (beg L) 16).getD 10 0)) := k.cb 10 (by omega)
  have y11 : w.cell? ⟨g, 46, none⟩ = some (.int .i64 ((upto (beg L) 16).getD 11 0)) := k.cb 11 (by omega)
  have y12 : w.cell? ⟨g, 47, none⟩ = some (.int .i64 ((upto (beg L) 16).getD 12 0)) := k.cb 12 (by omega)
  have y13 : w.cell? ⟨g, 48, none⟩ = some (.int .i64 ((upto (beg L) 16).getD 13 0)) := k.cb 13 (by omega)
  have y14 : w.cell? ⟨g, 49, none⟩ = some (.int .i64 ((upto (beg L) 16).getD 14 0)) := k.cb 14 (by omega)
  have y16 : w.cell? ⟨g, 51, none⟩ = some (.int .i64 ((upto (beg L) 16).getD 16 0)) := k.cb 16 (by omega)
  have b1 : ((beg L 15 : Nat) : Int) ≤ 1000000 := by have := beg_all L hok 15; omega
  have b2 : ((Huf.c0 L 15 : Nat) : Int) ≤ 1000000 := by have := c0_le L 15; omega
  have h3 : (n : Int) ≤ 1000000 := by omega
  have HK0 := Aside0.mk k
  have HL := Aside0.mk hL
  have HNe := Aside0.mk hne
  have HLn := Aside0.mk hl
  have HOk := Aside0.mk hok
  have HOv := Aside0.mk hover
  clear k hL hne hl hn hok hover
  have p1 : (0 : Int) ≤ ((beg L 15 : Nat) : Int) := by omega
  have p2 : (0 : Int) ≤ ((Huf.c0 L 15 : Nat) : Int) := by omega
  generalize hX : beg L 15 = X at *
  generalize hY : Huf.c0 L 15 = Y at *
  have HX := Aside0.mk hX
  have HY := Aside0.mk hY
  clear hX hY
  generalize hz0 : (upto (beg L) 16).getD 0 0 = z0 at y0
  generalize hz1 : (upto (beg L) 16).getD 1 0 = z1 at y1
  generalize hz2 : (upto (beg L) 16).getD 2 0 = z2 at y2
  generalize hz3 : (upto (beg L) 16).getD 3 0 = z3 at y3
  generalize hz4 : (upto (beg L) 16).getD 4 0 = z4 at y4
  generalize hz5 : (upto (beg L) 16).getD 5 0 = z5 at y5
  generalize hz6 : (upto (beg L) 16).getD 6 0 = z6 at y6
  generalize hz7 : (upto (beg L) 16).getD 7 0 = z7 at y7
  generalize hz8 : (upto (beg L) 16).getD 8 0 = z8 at y8
  generalize hz9 : (upto (beg L) 16).getD 9 0 = z9 at y9
  generalize hz10 : (upto (beg L) 16).getD 10 0 = z10 at y10
  generalize hz11 : (upto (beg L) 16).getD 11 0 = z11 at y11
  generalize hz12 : (upto (beg L) 16).getD 12 0 = z12 at y12
  generalize hz13 : (upto (beg L) 16).getD 13 0 = z13 at y13
  generalize hz14 : (upto (beg L) 16).getD 14 0 = z14 at y14
  generalize hz16 : (upto (beg L) 16).getD 16 0 = z16 at y16
  have HZ := Aside0.mk (show (upto (beg L) 16).getD 0 0 = z0 ∧ (upto (beg L) 16).getD 1 0 = z1 ∧ (upto (beg L) 16).getD 2 0 = z2 ∧ (upto (beg L) 16).getD 3 0 = z3 ∧ (upto (beg L) 16).getD 4 0 = z4 ∧ (upto (beg L) 16).getD 5 0 = z5 ∧ (upto (beg L) 16).getD 6 0 = z6 ∧ (upto (beg L) 16).getD 7 0 = z7 ∧ (upto (beg L) 16).getD 8 0 = z8 ∧ (upto (beg L) 16).getD 9 0 = z9 ∧ (upto (beg L) 16).getD 10 0 = z10 ∧ (upto (beg L) 16).getD 11 0 = z11 ∧ (upto (beg L) 16).getD 12 0 = z12 ∧ (upto (beg L) 16).getD 13 0 = z13 ∧ (upto (beg L) 16).getD 14 0 = z14 ∧ (upto (beg L) 16).getD 16 0 = z16 from ⟨hz0, hz1, hz2, hz3, hz4, hz5, hz6, hz7, hz8, hz9, hz10, hz11, hz12, hz13, hz14, hz16⟩)
  clear hz0 hz1 hz2 hz3 hz4 hz5 hz6 hz7 hz8 hz9 hz10 hz11 hz12 hz13 hz14 hz16
  go_enter Tryd.func71, Tryd.ntmps71
  go_upto_region 0 with fail
  go_cut [2] from 5 to 9 (fun v2 wx => v2 = .pointer (some ⟨w.heap.size, 0, none⟩) ∧ Aside0 (IRow wx w.heap.size 111 (upto (beg L) 16)) ∧ Aside0 (Below w.heap.size w wx))
  case first =>
    go_wp2_with fail
    go_meet
    case rel =>
      refine ⟨rfl, ⟨?_⟩, ⟨below_alloc (Below.refl _ _) _⟩⟩
      unfold IRow
      rw [list17 (upto (beg L) 16) (tab_len _), alloc_self]
      obtain ⟨h0, h1, h2, h3, h4, h5, h6, h7, h8, h9, h10, h11, h12, h13, h14, h16⟩ := HZ.out
      have h15 : (upto (beg L) 16).getD 15 0 = (X : Int) := by rw [upto_get _ _ 15 (by omega) (by omega), HX.out]
      simp only [List.map_cons, List.map_nil, h0, h1, h2, h3, h4, h5, h6, h7, h8, h9, h10, h11, h12, h13, h14, h15, h16]
  case rest =>
  obtain ⟨rfl, HR, HB⟩ := hcut
  have k1 := HK0.out.below HB.out
  have HK1 := Aside0.mk k1
  clear cb15 cm15
  have cb15 : wc.cell? ⟨g, 50, none⟩ = some (.int .i64 ((upto (beg L) 16).getD 15 0)) := k1.cb 15 (by omega)
  rw [upto_get _ _ 15 (by omega) (by omega), HX.out] at cb15
  have cm15 : wc.cell? ⟨g, 33, none⟩ = some (.int .i64 ((tab fun j => (Huf.c0 L j : Int)).getD 15 0)) := k1.cm 15 (by omega)
  rw [tab_get _ 15 (by omega), HY.out] at cm15
  have kA := k1.below (below_alloc (Below.refl _ _) (.cells (madeCells #[.int .i64 0] (X + Y)) 3))
  have f4 := kA.fz 52
  have c4 := kA.c4
  have HA := Aside0.mk kA
  clear k1 kA
  have mk1 : ∀ W : World, (Instr.makeSlice 54 (.int .i64 ((X : Int) + (Y : Int))) (.int .i64 ((X : Int) + (Y : Int)))).run Tryd.prog W = .ok (.slice (some ⟨W.heap.size, 0, none⟩) (X + Y) (X + Y)) (W.alloc (.cells (madeCells #[.int .i64 0] (X + Y)) 3)) := fun W => by
    have := make_ints (X + Y) (by omega) W
    rw [show ((X + Y : Nat) : Int) = (X : Int) + (Y : Int) by omega] at this
    exact this
  clear y0 y1 y2 y3 y4 y5 y6 y7 y8 y9 y10 y11 y12 y13 y14 y16 HZ
  go_wp2_with fail
  go_region
  have kB := (HA.out.s4 (.slice (some ⟨wc.heap.size, 0, none⟩) (X + Y) (X + Y))).drew
  have rB : IRow ((wc.alloc (.cells (madeCells #[.int .i64 0] (X + Y)) 3)).setCell ⟨g, 52, none⟩ (.slice (some ⟨wc.heap.size, 0, none⟩) (X + Y) (X + Y))).drew wc.heap.size 3 (List.replicate (X + Y) 0) := ((IRow.made wc _ (X + Y)).far (by have := HK1.out.lt; show wc.heap.size ≠ g; omega) _).drewN 1
  have rA : IRow ((wc.alloc (.cells (madeCells #[.int .i64 0] (X + Y)) 3)).setCell ⟨g, 52, none⟩ (.slice (some ⟨wc.heap.size, 0, none⟩) (X + Y) (X + Y))).drew w.heap.size 111 (upto (beg L) 16) := ((HR.out.below (below_alloc (Below.refl _ _) _)).far (by have := HK0.out.lt; show w.heap.size ≠ g; omega) _).drewN 1
  have gB : w.grownBy ((wc.alloc (.cells (madeCells #[.int .i64 0] (X + Y)) 3)).setCell ⟨g, 52, none⟩ (.slice (some ⟨wc.heap.size, 0, none⟩) (X + Y) (X + Y))).drew (some g) := grown_drew (grown_trans (grown_below (below_alloc HB.out _) _) (grown_set _ _ _ _))
  generalize ((wc.alloc (.cells (madeCells #[.int .i64 0] (X + Y)) 3)).setCell ⟨g, 52, none⟩ (.slice (some ⟨wc.heap.size, 0, none⟩) (X + Y) (X + Y))).drew = w2 at *
  have h1a : wc.heap.size < w2.heap.size := rB.lt
  have h1b : w.heap.size < wc.heap.size := HR.out.lt
  have h1c : g < w.heap.size := HK0.out.lt
  have c0 := kB.c0
  have kC := kB.below (below_alloc (Below.refl _ _) (.cells (madeCells #[.int .i64 0] n) 3))
  have f5 := kC.fz 53
  have c5 := kC.c5
  have kD := kC.s5 (.slice (some ⟨w2.heap.size, 0, none⟩) n n)
  have c0D := kD.c0
  have rC := (IRow.made w2 3 n).far (p := ⟨g, 53, none⟩) (by show w2.heap.size ≠ g; omega) (.slice (some ⟨w2.heap.size, 0, none⟩) n n)
  have rD := (rB.below (below_alloc (Below.refl _ _) (.cells (madeCells #[.int .i64 0] n) 3))).far (p := ⟨g, 53, none⟩) (by show wc.heap.size ≠ g; omega) (.slice (some ⟨w2.heap.size, 0, none⟩) n n)
  have rE := (rA.below (below_alloc (Below.refl _ _) (.cells (madeCells #[.int .i64 0] n) 3))).far (p := ⟨g, 53, none⟩) (by show w.heap.size ≠ g; omega) (.slice (some ⟨w2.heap.size, 0, none⟩) n n)
  have gC := grown_trans (grown_trans gB (grown_below (below_alloc (Below.refl _ _) (.cells (madeCells #[.int .i64 0] n) 3)) (some g))) (grown_set _ g 53 (.slice (some ⟨w2.heap.size, 0, none⟩) n n))
  have mk2 : ∀ W : World, (Instr.makeSlice 54 (.int .i64 n) (.int .i64 n)).run Tryd.prog W = .ok (.slice (some ⟨W.heap.size, 0, none⟩) n n) (W.alloc (.cells (madeCells #[.int .i64 0] n) 3)) := fun W => make_ints n (by omega) W
  have KD := Aside0.mk kD
  have RC := Aside0.mk rC
  have RD := Aside0.mk rD
  have RE := Aside0.mk rE
  have GC := Aside0.mk gC
  clear kB kC kD rB rA rC rD rE gB gC HA HR HB HK1 mk1 f4 c4 cb15 cm15
  go_wp2_with fail
  clear c0 c0D f5 c5 mk2
  have HXY : Aside0 (X + Y = beg L 16) := ⟨by rw [beg, HX.out, HY.out]⟩
  have HT3 : Aside0 (X + Y ≤ 2000000) := ⟨by omega⟩
  clear b1 b2 p1 p2 HX HY
  generalize X + Y = T at *
  generalize (X : Int) = x1 at *
  generalize (Y : Int) = y1 at *
  generalize hb2 : w2.heap.size = b2 at *
  generalize hb1 : wc.heap.size = b1 at *
  generalize hba : w.heap.size = ba at *
  have HBA := Aside0.mk hba
  clear hba
  go_loopg [38] n (fun kq v38 wr => ∃ i : Nat, v38 = .int .i64 i ∧ i ≤ n ∧ Aside0 (kq = n - i) ∧ Aside0 (Cod wr g (.slice A n c) (upto (fst L) 16) (tab fun j => (Huf.c0 L j : Int)) (upto (beg L) 16) (.slice (some ⟨b1, 0, none⟩) T T) (.slice (some ⟨b2, 0, none⟩) n n)) ∧ Aside0 (IRow wr ba 111 (atL L i)) ∧ Aside0 (IRow wr b2 3 (nmL L i)) ∧ Aside0 (∃ S, IRow wr b1 3 S ∧ Stood L i S) ∧ Aside0 (w.grownBy wr (some g)))
  case atStart =>
    refine ⟨0, rfl, Nat.zero_le _, ⟨rfl⟩, KD, ⟨by rw [← atL_zero]; exact RE.out⟩, ⟨by rw [← nmL_zero, HLn.out]; exact RC.out⟩, ⟨_, RD.out, by rw [List.length_replicate]; exact HXY.out, fun s hs => absurd hs (Nat.not_lt_zero _)⟩, GC⟩
  case round =>
    obtain ⟨i, rfl, hi, HK, HC, HA, HN, HS, HG⟩ := hrel
    by_cases hlt : i < n
    · have hlt' : (i : Int) < (n : Int) := by omega
      obtain ⟨ad, rfl, hci⟩ := num_at HL.out i hlt
      have hci2 : wr.cell? (ad.add i) = some (.int .i64 (L.getD i 0)) := HG.out.cell hci (by rw [add_block]; simpa using fun e => HNe.out ad rfl e)
      have hx := getD_some L i (by rw [HLn.out]; exact hlt)
      have hb : 0 ≤ L.getD i 0 ∧ L.getD i 0 ≤ 15 := by
        have := List.all_eq_true.1 HOk.out _ (List.mem_of_getElem? hx)
        simpa using this
      generalize hxx : L.getD i 0 = x at hci hci2 hx hb
      have HX2 := Aside0.mk hx
      have HXX := Aside0.mk hxx
      obtain ⟨m, rfl⟩ := Int.eq_ofNat_of_zero_le hb.1
      have hm : (m : Int) ≤ 15 := hb.2
      clear hx hxx hci hb
      by_cases hm0 : m = 0
      · subst hm0
        go_wp2_with fail
        have e1 : ((i : Int) + 1) = ((i + 1 : Nat) : Int) := by omega
        rw [e1]
        go_roundg (n - (i + 1))
        case measure => have := HK.out; omega
        case rel =>
          refine ⟨i + 1, rfl, by omega, ⟨rfl⟩, HC, ⟨by rw [atL_skip L i HX2.out]; exact HA.out⟩, ⟨by rw [nmL_skip L i HX2.out]; exact HN.out⟩, ⟨?_⟩, HG⟩
          obtain ⟨S, hS1, hS2⟩ := HS.out
          exact ⟨S, hS1, stood_skip L i S hS2 HXX.out⟩
      · obtain ⟨S, hS1, hS2⟩ := HS.out
        have hm15 : m ≤ 15 := by omega
        have hp := pos_in L i m (by rw [HLn.out]; exact hlt) hm0 hm15 HXX.out
        have hs2 := stood_set L i m S hS2 HOk.out (by rw [HLn.out]; exact hlt) hm0 hm15 HXX.out
        have hs1 := hS2.1
        have hpe : (atL L i).getD m 0 = ((beg L m + cn (L.take i) m : Nat) : Int) := atL_get L i m hm0 hm15
        have hpos := pos_eq L i m HXX.out
        have hcd : (code L i : Int) = ((fst L m : Nat) : Int) + ((cn (L.take i) m : Nat) : Int) := by
          unfold code; rw [HXX.out]; simp [hm0]
        have hov := over_all L 15 1 HOv.out
        have hF := fst_le L m (fun j h1 h2 => hov j h1 (by omega))
        have h215 : 2 ^ m ≤ 2 ^ 15 := Nat.pow_le_pow_right (by decide) hm15
        have hbl := beg_all L HOk.out m
        have hcl : cn (L.take i) m ≤ n := by have := cn_take_le L i m; have := cn_le L m; have := HLn.out; omega
        have hF2 : ((fst L m : Nat) : Int) ≤ 32768 := by omega
        have hB2 : ((beg L m : Nat) : Int) ≤ 1000000 := by have := HLn.out; omega
        have hC2 : ((cn (L.take i) m : Nat) : Int) ≤ 1000000 := by omega
        have hT2 : ((beg L 16 : Nat) : Int) ≤ 2000000 := by have := HXY.out; have := HT3.out; omega
        have c52 := HC.out.c4
        have a1 := HA.out.cell m (by simp [atL, tab]; omega)
        rw [hpe] at a1
        have s1 := hS1.cell (beg L m + cn (L.take i) m) (by rw [hs1]; exact hp)
        have f1 := hS1.fz (beg L m + cn (L.take i) m)
        have HS2 := Aside0.mk hs2
        have HCD := Aside0.mk hcd
        have hPB : ((beg L m + cn (L.take i) m : Nat) : Int) = ((beg L m : Nat) : Int) + ((cn (L.take i) m : Nat) : Int) := by omega
        have HPB := Aside0.mk hPB
        have hPT : ((beg L m + cn (L.take i) m : Nat) : Int) < (T : Int) := by have := HXY.out; omega
        have hT3 : (T : Int) ≤ 2000000 := by have := HT3.out; omega
        have k1 := HC.out.other (p := ⟨b1, beg L m + cn (L.take i) m, none⟩) (by show g ≠ b1; omega) (.int .i64 i)
        have r1a := HA.out.far (p := ⟨b1, beg L m + cn (L.take i) m, none⟩) (by show ba ≠ b1; omega) (.int .i64 i)
        have r1n := HN.out.far (p := ⟨b1, beg L m + cn (L.take i) m, none⟩) (by show b2 ≠ b1; omega) (.int .i64 i)
        have r1s := hS1.set (beg L m + cn (L.take i) m) i
        have g1 := grown_new HG.out (p := ⟨b1, beg L m + cn (L.take i) m, none⟩) (by show w.heap.size ≤ b1; have := HBA.out; omega) (.int .i64 i)
        have HA0 := Aside0.mk (atL_set L i m hm0 hm15 HX2.out (((beg L m + cn (L.take i) m : Nat) : Int) + 1) rfl)
        clear hS1 hS2 hs1 hs2 hpos hcd hF h215 hbl hcl hT2 hPB hp hpe hov HS
        generalize hP : beg L m + cn (L.take i) m = P at *
        clear hP
        generalize hFF : fst L m = F at *
        generalize hBB : beg L m = Bm at *
        have HFF := Aside0.mk hFF
        have HBB := Aside0.mk hBB
        clear hFF hBB
        generalize cn (L.take i) m = q at *
        have c53 := k1.c5
        have cf := k1.cf m (by omega)
        rw [upto_get _ _ m (by omega) (by omega), HFF.out] at cf
        have cb := k1.cb m (by omega)
        rw [upto_get _ _ m (by omega) (by omega), HBB.out] at cb
        have a2 := r1a.cell m (by simp [atL, tab]; omega)
        have hpe2 : (atL L i).getD m 0 = (P : Int) := by
          have h1 := HA.out.cell m (by simp [atL, tab]; omega)
          rw [a1] at h1
          injection h1 with h1
          injection h1 with _ h1
          exact h1.symm
        rw [hpe2] at a2
        have n2 := r1n.cell i (by rw [nmL_len, HLn.out]; exact hlt)
        have f2 := r1n.fz i
        have r2n := r1n.set i ((F : Int) + (P : Int) - (Bm : Int))
        have r2a := r1a.far (p := ⟨b2, i, none⟩) (by show ba ≠ b2; omega) (.int .i64 ((F : Int) + (P : Int) - (Bm : Int)))
        have r2s := r1s.far (p := ⟨b2, i, none⟩) (by show b1 ≠ b2; omega) (.int .i64 ((F : Int) + (P : Int) - (Bm : Int)))
        have k2 := k1.other (p := ⟨b2, i, none⟩) (by show g ≠ b2; omega) (.int .i64 ((F : Int) + (P : Int) - (Bm : Int)))
        have g2 := grown_new g1 (p := ⟨b2, i, none⟩) (by show w.heap.size ≤ b2; have := HBA.out; omega) (.int .i64 ((F : Int) + (P : Int) - (Bm : Int)))
        have a3 := r2a.cell m (by simp [atL, tab]; omega)
        rw [hpe2] at a3
        have f3 := r2a.fz m
        have r3a := r2a.set m ((P : Int) + 1)
        have r3n := r2n.far (p := ⟨ba, m, none⟩) (by show b2 ≠ ba; omega) (.int .i64 ((P : Int) + 1))
        have r3s := r2s.far (p := ⟨ba, m, none⟩) (by show b1 ≠ ba; omega) (.int .i64 ((P : Int) + 1))
        have k3 := k2.other (p := ⟨ba, m, none⟩) (by show g ≠ ba; omega) (.int .i64 ((P : Int) + 1))
        have g3 := grown_new g2 (p := ⟨ba, m, none⟩) (by show w.heap.size ≤ ba; have := HBA.out; omega) (.int .i64 ((P : Int) + 1))
        have RA3 := Aside0.mk r3a
        have RN3 := Aside0.mk r3n
        have RS3 := Aside0.mk r3s
        have KK3 := Aside0.mk k3
        have GG3 := Aside0.mk g3
        have HPE := Aside0.mk hpe2
        clear r1a r1n r1s r2a r2n r2s r3a r3n r3s k1 k2 k3 g1 g2 g3 hpe2
        generalize hnn : (nmL L i).getD i 0 = nn at *
        clear hnn
        generalize hss : S.getD P 0 = ss at *
        clear hss
        have p1 : (0 : Int) ≤ (F : Int) := by omega
        have p2 : (0 : Int) ≤ (P : Int) := by omega
        have p3 : (0 : Int) ≤ (Bm : Int) := by omega
        go_wp2_with fail
        go_region
        go_wp2_with fail
        go_region
        go_wp2_with fail
        have e1 : ((i : Int) + 1) = ((i + 1 : Nat) : Int) := by omega
        rw [e1]
        go_roundg (n - (i + 1))
        case measure => have := HK.out; omega
        case rel =>
          refine ⟨i + 1, rfl, by omega, ⟨rfl⟩, ⟨KK3.out.drewN 2⟩, ⟨?_⟩, ⟨?_⟩, ⟨_, RS3.out.drewN 2, HS2.out⟩, ⟨grown_drewN GG3.out 2⟩⟩
          · have := RA3.out
            rw [HA0.out] at this
            exact this.drewN 2
          · have := RN3.out
            rw [nmL_set L i (by rw [HLn.out]; exact hlt) _ (by rw [HCD.out, HPB.out]; omega)] at this
            exact this.drewN 2
    · have hin : i = n := by omega
      subst hin
      go_wp2_with fail
      refine bodyPost_end (results_none rfl _ _ _) rfl ?_
      obtain ⟨S, hS1, hS2⟩ := HS.out
      have := HC.out
      rw [HXY.out] at this
      exact ⟨rfl, HG.out, b1, b2, S, by have := HBA.out; omega, by have := HBA.out; omega, by omega, this, hS1, hS2, HN.out⟩
end Go.Proofs.YtdphifihneccoaaDoor.My

/- The walk of slices.Clone of numbers. -/
namespace Go.Proofs.YtdphifihneccoaaDoor.My
open Go.RowKit Go.Proofs.YtdphifihneccoaaDoor.Huf Go.Proofs.YtdphifihneccoaaDoorW.PrintWords Go.Proofs.YtdphifihneccoaaDoorW.PrintLast Go.Proofs.YtdphifihneccoaaDoorW.PrintMore
set_option maxRecDepth 100000

theorem cloneI_calls (A : Option Addr) (n c : Nat) (xs : List Int) (w : World) (hx : (Kd.int .i64).C w A n xs) (hn : n ≤ 17592186044416) (hl : xs.length = n) (hcap : A = none → n = 0 ∧ c = 0) :
    Calls Tryd.prog 68 #[.slice A n c] w fun e w' => ∃ v', e = .returned v' ∧ w'.ownsRow w.heap.size 3 1 v' xs.length (nums .i64 xs) ∧ Below w.heap.size w w' := by
  cases A with
  | none =>
    obtain ⟨rfl, rfl⟩ := hcap rfl
    have : xs = [] := List.eq_nil_of_length_eq_zero hl
    subst this
    clear hx hl hcap hn
    have i1 : ∀ w : World, (binOp .eql 54 (.slice none 0 0) (.slice none 0 0)).run Tryd.prog w = .ok (.bool true) w := fun w => by rfl
    go_enter Tryd.func68, Tryd.ntmps68
    go_wp2
    go_ret
    exact ⟨_, rfl, own_nil _ _ _ _, Below.refl _ _⟩
  | some ad =>
    have HX := Aside0.mk hx
    have HL := Aside0.mk hl
    clear hx hcap hl
    have i1 : ∀ w : World, (binOp .eql 54 (.slice (some ad) n c) (.slice none 0 0)).run Tryd.prog w = .ok (.bool false) w := fun w => by rfl
    go_enter Tryd.func68, Tryd.ntmps68
    go_wp2_with ((with_reducible refine gate_dst (N := 7) rfl ?_); refine print_append_row (w0 := w) w.heap.size rfl (.tmp 5) (.tmp 6) 54 3 .i64 8 rfl Tryd.underlying54 info_i64 (by decide) _ [] xs (some ad) _ c rfl rfl (own_lit w w.heap.size 3 .i64 [] (Nat.le_refl _) (by decide)) (reads_of_C (Kd.C_alloc HX.out _)) (below_alloc (Below.refl _ _) _) (by simp) (by simp; omega) ?_; intro v1 w2 ho hb hg hk; clear hg hk; rw [List.nil_append] at ho; have HB2 := Aside0.mk hb; have HO := Aside0.mk ho; clear hb ho)
    go_ret
    exact ⟨_, rfl, HO.out, HB2.out⟩
end Go.Proofs.YtdphifihneccoaaDoor.My

/- A huff.Code that is made: its blocks, and that they stay. -/
namespace Go.Proofs.YtdphifihneccoaaDoor.My
open Go.RowKit Go.Proofs.YtdphifihneccoaaDoor.Huf Go.Proofs.YtdphifihneccoaaDoorW.PrintWords Go.Proofs.YtdphifihneccoaaDoorW.PrintLast Go.Proofs.YtdphifihneccoaaDoorW.PrintMore
set_option maxRecDepth 100000
set_option linter.unusedVariables false
set_option linter.unusedSimpArgs false

/-- Numbers that are read, in blocks from lo up to hi. -/
structure RB (w : World) (lo hi : Nat) (A : Option Addr) (n : Nat) (xs : List Int) : Prop where
  c : (Kd.int .i64).C w A n xs
  b : ∀ ad, A = some ad → lo ≤ ad.block ∧ ad.block < hi
theorem RB.grown {w w1 : World} {lo hi : Nat} {A : Option Addr} {n : Nat} {xs : List Int} (h : RB w lo hi A n xs) {row : Option Nat} (hg : w.grownBy w1 row) (hr : ∀ r, row = some r → r < lo ∨ hi ≤ r) : RB w1 lo hi A n xs := by
  refine ⟨C_of_readsInt ?_, h.b⟩
  obtain ⟨h1, h2, h3⟩ := reads_of_C h.c
  refine ⟨h1, h2, fun hn => ?_⟩
  obtain ⟨ad, e, hc⟩ := h3 hn
  refine ⟨ad, e, fun j hj => ?_⟩
  refine hg.cell (hc j hj) ?_
  rw [add_block]
  intro e2
  have h4 := h.b ad e
  rcases hr _ e2.symm with h5 | h5 <;> omega
theorem RB.mono {w : World} {lo hi lo' hi' : Nat} {A : Option Addr} {n : Nat} {xs : List Int} (h : RB w lo hi A n xs) (h1 : lo' ≤ lo) (h2 : hi ≤ hi') : RB w lo' hi' A n xs := ⟨h.c, fun ad e => by have := h.b ad e; omega⟩
/-- A Code of lengths, at g, all its blocks from lo up to hi. -/
structure CodeAt (w : World) (lo hi g : Nat) (L : List Int) : Prop where mk :: (out : ∃ (A A1 A2 : Option Addr) (c c1 c2 : Nat) (S : List Int), Cod w g (.slice A L.length c) (upto (fst L) 16) (tab fun j => (c0 L j : Int)) (upto (beg L) 16) (.slice A1 (beg L 16) c1) (.slice A2 L.length c2) ∧
  RB w lo hi A L.length L ∧ RB w lo hi A1 (beg L 16) S ∧ RB w lo hi A2 L.length (nmL L L.length) ∧ Stood L L.length S ∧ lo ≤ g ∧ g < hi)
theorem CodeAt.grown {w w1 : World} {lo hi g : Nat} {L : List Int} (h : CodeAt w lo hi g L) {row : Option Nat} (hg : w.grownBy w1 row) (hr : ∀ r, row = some r → r < lo ∨ hi ≤ r) : CodeAt w1 lo hi g L := by
  obtain ⟨A, A1, A2, c, c1, c2, S, k, r0, r1, r2, hS, h1, h2⟩ := h.out
  exact ⟨A, A1, A2, c, c1, c2, S, k.far hg (by intro e; rcases hr g e.symm with h5 | h5 <;> omega), r0.grown hg hr, r1.grown hg hr, r2.grown hg hr, hS, h1, h2⟩
theorem CodeAt.below {w w1 : World} {lo hi g : Nat} {L : List Int} (h : CodeAt w lo hi g L) (hb : Below w.heap.size w w1) : CodeAt w1 lo hi g L :=
  h.grown (grown_below hb none) (fun r e => by cases e)
theorem CodeAt.drewN {w : World} {lo hi g : Nat} {L : List Int} (h : CodeAt w lo hi g L) (n : Nat) : CodeAt (w.drewN n) lo hi g L := h.below (pw_below_drewN (Below.refl _ _) n)

/-- Lengths that make a lone code. -/
def aloneL (L : List Int) : Bool := decide (beg L 16 = 0) || (decide (beg L 16 = 1) && decide (c0 L 1 = 1))
/-- What New refuses lengths for. -/
def newR (L : List Int) (lone : Bool) : Option Int :=
  if 320 < L.length then some 3 else if okL L = false then some 1 else if numR L < 0 then some 14 else if 0 < numR L ∧ ¬ (lone = true ∧ aloneL L = true) then some 2 else none
set_option maxHeartbeats 1000000 in
theorem alone_calls (w : World) (lo hi g : Nat) (L : List Int) (k : CodeAt w lo hi g L) (hl : L.length ≤ 1000000) (hok : okL L = true) :
    Calls Tryd.prog 72 #[.pointer (some ⟨g, 0, none⟩)] w fun e w' => e = .returned (.bool (aloneL L)) ∧ w' = w := by
  obtain ⟨A, A1, A2, c, c1, c2, S, k, r0, r1, r2, hS, h1, h2⟩ := k.out
  have c4 := k.c4
  have cm : w.cell? ⟨g, 19, none⟩ = some (.int .i64 ((tab fun j => (Huf.c0 L j : Int)).getD 1 0)) := k.cm 1 (by omega)
  rw [tab_get _ 1 (by omega)] at cm
  have hb := beg_all L hok 16
  have hal : Aside0 (aloneL L = (decide (beg L 16 = 0) || (decide (beg L 16 = 1) && decide (Huf.c0 L 1 = 1)))) := ⟨rfl⟩
  clear k r0 r1 r2 hS
  have hb2 : ((beg L 16 : Nat) : Int) ≤ 1000000 := by omega
  clear hb
  generalize beg L 16 = T at *
  generalize Huf.c0 L 1 = q at *
  go_enter Tryd.func72, Tryd.ntmps72
  by_cases e0 : T = 0
  · subst e0
    go_wp2_with fail
    go_ret
    exact ⟨by rw [hal.out]; rfl, rfl⟩
  · have e0' : ¬ (T : Int) = 0 := by omega
    have e0'' : ((T : Int) == 0) = false := by simpa using e0'
    by_cases e1 : T = 1
    · subst e1
      go_wp2_with fail
      go_ret
      refine ⟨?_, rfl⟩
      rw [hal.out]
      by_cases e2 : q = 1
      · subst e2; rfl
      · have : ((q : Int) == 1) = false := by simp; omega
        simp [this, e2]
    · have e1' : ((T : Int) == 1) = false := by simp; omega
      go_wp2_with fail
      go_ret
      exact ⟨by rw [hal.out]; simp [e0, e1], rfl⟩
end Go.Proofs.YtdphifihneccoaaDoor.My

/- The document's codes, plainly: its rows of bits, and what it answers to which lengths. -/
namespace Go.Proofs.YtdphifihneccoaaDoor.My
open Go.RowKit Go.Proofs.YtdphifihneccoaaDoor.Huf Go.Proofs.YtdphifihneccoaaDoor.PInflateTells Go.Proofs.YtdphifihneccoaaDoorW.PrintWords Go.Proofs.YtdphifihneccoaaDoorW.PrintLast Go.Proofs.YtdphifihneccoaaDoorW.PrintMore
set_option maxRecDepth 100000
set_option linter.unusedVariables false
set_option linter.unusedSimpArgs false

theorem wn (x : Int) (h0 : -9223372036854775808 ≤ x) (h : x ≤ 9223372036854775807) : wrap64 x = x := by unfold wrap64; omega
theorem un (x : Int) (h0 : 0 ≤ x) (h : x ≤ 18446744073709551615) : IntKind.u64.wrap x = x := IntWalk.u64_in x ⟨h0, h⟩
/-- A bit as a digit. -/
def bitc (x i : Nat) : ByteArray := if x / 2 ^ i % 2 = 1 then ⟨#[49]⟩ else ⟨#[48]⟩
theorem bitc_size (x i : Nat) : (bitc x i).size = 1 := by unfold bitc; split <;> rfl
/-- So many bits, behind a text. -/
def rowF (x : Nat) : Nat → ByteArray → ByteArray
  | 0, acc => acc
  | j + 1, acc => rowF x j (acc ++ bitc x j)
theorem shr_nat (x j : Nat) (h : j ≤ 60) : shr .i64 (x : Int) (IntKind.u64.wrap (j : Int)) = ((x / 2 ^ j : Nat) : Int) := by
  rw [un (j : Int) (by omega) (by omega)]
  show (x : Int) / 2 ^ min (j : Int).toNat 64 = _
  rw [Nat.min_eq_left (by omega)]
  simp
theorem size_app (a b : ByteArray) : (a ++ b).size = a.size + b.size := ByteArray.size_append
theorem rowD_run (x : Nat) : ∀ (j k : Nat) (acc : ByteArray), j ≤ 60 → acc.size + j ≤ 1000 → crossdockref07_row.l0 (k + j + 1) x acc ((j : Int) - 1) = some (rowF x j acc)
  | 0, k, acc, _, _ => by
    simp only [crossdockref07_row.l0, rowF]
    rw [if_neg (by omega)]
  | j + 1, k, acc, hj, hs => by
    rw [show k + (j + 1) + 1 = (k + j + 1) + 1 from rfl]
    simp only [crossdockref07_row.l0, rowF]
    rw [if_pos (by omega), show (((j + 1 : Nat) : Int) - 1) = (j : Int) from by omega, if_pos (by rw [un (j : Int) (by omega) (by omega)]; omega), shr_nat x j (by omega)]
    rw [wn ((j : Int) - 1) (by omega) (by omega)]
    have ih := rowD_run x j k (acc ++ bitc x j) (by omega) (by rw [size_app, bitc_size]; omega)
    unfold bitc at ih ⊢
    have ht : Int.tmod ((x / 2 ^ j : Nat) : Int) 2 = ((x / 2 ^ j % 2 : Nat) : Int) := by rw [Int.tmod_eq_emod_of_nonneg (Int.natCast_nonneg _)]; exact (Int.natCast_emod _ _).symm
    rw [ht]
    generalize x / 2 ^ j % 2 = q at *
    by_cases hb : q = 1
    · rw [if_pos hb] at ih ⊢
      rw [if_pos (by omega), if_pos (by omega)]
      exact ih
    · rw [if_neg hb] at ih ⊢
      rw [if_neg (by omega), if_pos (by omega)]
      exact ih
theorem rowD (x n k : Nat) (h : n ≤ 60) : crossdockref07_row.f (k + n + 1) x n = some (rowF x n ⟨#[]⟩) := by
  unfold crossdockref07_row.f
  rw [wn _ (by omega) (by omega)]
  exact rowD_run x n k _ h (by show 0 + n ≤ 1000; omega)
theorem digit (x j : Nat) (hx : x < 9223372036854775808) : strOfNums [wrap64 (48 + Go.bits .and .i64 ((x / 2 ^ j : Nat) : Int) 1) % 256] = bitc x j := by
  have h1 : x / 2 ^ j < 9223372036854775808 := Nat.lt_of_le_of_lt (Nat.div_le_self _ _) hx
  rw [Go.Proofs.and_one _ h1]
  unfold bitc
  have h2 : x / 2 ^ j % 2 < 2 := Nat.mod_lt _ (by decide)
  by_cases hb : x / 2 ^ j % 2 = 1
  · rw [if_pos hb, hb]; decide +kernel
  · rw [if_neg hb, show x / 2 ^ j % 2 = 0 by omega]; decide +kernel
end Go.Proofs.YtdphifihneccoaaDoor.My

/- The document's Codes answers what New does. -/
namespace Go.Proofs.YtdphifihneccoaaDoor.My
open Go.RowKit Go.Proofs.YtdphifihneccoaaDoor.Huf Go.Proofs.YtdphifihneccoaaDoor.PInflateTells Go.Proofs.YtdphifihneccoaaDoorW.PrintWords Go.Proofs.YtdphifihneccoaaDoorW.PrintLast Go.Proofs.YtdphifihneccoaaDoorW.PrintMore
set_option maxRecDepth 100000
set_option linter.unusedVariables false
set_option linter.unusedSimpArgs false

def rowOf (L : List Int) (u : Nat) : ByteArray := rowF (code L u) (L.getD u 0).toNat ⟨#[]⟩
/-- All codes as rows of bits. -/
def wantL (L : List Int) : List ByteArray := (List.range L.length).map (rowOf L)
/-- Those that are laid so far: all of lengths below n, and of length n those ahead of t. -/
def outL (L : List Int) (n t : Nat) : List ByteArray := (List.range L.length).map fun u => if L.getD u 0 ≠ 0 ∧ (L.getD u 0 < (n : Int) ∨ L.getD u 0 = (n : Int) ∧ u < t) then rowOf L u else ⟨#[]⟩
theorem outL_len (L : List Int) (n t : Nat) : (outL L n t).length = L.length := by simp [outL]
theorem map_range_congr {α : Type} (n : Nat) (f g : Nat → α) (h : ∀ u, u < n → f u = g u) : (List.range n).map f = (List.range n).map g := by
  apply List.map_congr_left
  intro u hu
  exact h u (List.mem_range.1 hu)
theorem outL_skip (L : List Int) (n s : Nat) (h : L.getD s 0 ≠ (n : Int)) : outL L n (s + 1) = outL L n s := map_range_congr _ _ _ fun u hu => by
  have : (L.getD u 0 ≠ 0 ∧ (L.getD u 0 < (n : Int) ∨ L.getD u 0 = (n : Int) ∧ u < s + 1)) ↔ (L.getD u 0 ≠ 0 ∧ (L.getD u 0 < (n : Int) ∨ L.getD u 0 = (n : Int) ∧ u < s)) := by
    by_cases e : u = s
    · subst e
      exact ⟨fun ⟨a, b⟩ => ⟨a, b.elim .inl fun c => absurd c.1 h⟩, fun ⟨a, b⟩ => ⟨a, b.elim .inl fun c => absurd c.1 h⟩⟩
    · exact ⟨fun ⟨a, b⟩ => ⟨a, b.elim .inl fun c => .inr ⟨c.1, by omega⟩⟩, fun ⟨a, b⟩ => ⟨a, b.elim .inl fun c => .inr ⟨c.1, by omega⟩⟩⟩
  simp only [this]
theorem outL_set (L : List Int) (n s : Nat) (hn : n ≠ 0) (h : L.getD s 0 = (n : Int)) : (outL L n s).set s (rowOf L s) = outL L n (s + 1) := by
  apply List.ext_getElem
  · simp [outL]
  · intro u a b
    rw [List.getElem_set]
    simp only [outL, List.getElem_map, List.getElem_range]
    split
    · next e =>
      subst e
      rw [if_pos ⟨by rw [h]; omega, .inr ⟨h, by omega⟩⟩]
    · next e =>
      have : (L.getD u 0 ≠ 0 ∧ (L.getD u 0 < (n : Int) ∨ L.getD u 0 = (n : Int) ∧ u < s + 1)) ↔ (L.getD u 0 ≠ 0 ∧ (L.getD u 0 < (n : Int) ∨ L.getD u 0 = (n : Int) ∧ u < s)) :=
        ⟨fun ⟨a, b⟩ => ⟨a, b.elim .inl fun c => .inr ⟨c.1, by omega⟩⟩, fun ⟨a, b⟩ => ⟨a, b.elim .inl fun c => .inr ⟨c.1, by omega⟩⟩⟩
      simp only [this]
theorem outL_next (L : List Int) (n : Nat) : outL L n L.length = outL L (n + 1) 0 := map_range_congr _ _ _ fun u hu => by
  have : (L.getD u 0 ≠ 0 ∧ (L.getD u 0 < (n : Int) ∨ L.getD u 0 = (n : Int) ∧ u < L.length)) ↔ (L.getD u 0 ≠ 0 ∧ (L.getD u 0 < ((n + 1 : Nat) : Int) ∨ L.getD u 0 = ((n + 1 : Nat) : Int) ∧ u < 0)) :=
    ⟨fun ⟨a, b⟩ => ⟨a, b.elim (fun c => .inl (by omega)) fun c => .inl (by omega)⟩, fun ⟨a, b⟩ => ⟨a, b.elim (fun c => by by_cases e : L.getD u 0 = (n : Int); exact .inr ⟨e, hu⟩; exact .inl (by omega)) fun c => by omega⟩⟩
  simp only [this]
theorem getD_ok (L : List Int) (hok : okL L = true) (u : Nat) (hu : u < L.length) : 0 ≤ L.getD u 0 ∧ L.getD u 0 ≤ 15 := by
  have hmem : L.getD u 0 ∈ L := by rw [List.getD_eq_getElem?_getD, List.getElem?_eq_getElem hu]; exact List.getElem_mem _
  have := List.all_eq_true.1 hok _ hmem
  simpa using this
theorem outL_all (L : List Int) (hok : okL L = true) : outL L 16 0 = wantL L := map_range_congr _ _ _ fun u hu => by
  have h := getD_ok L hok u hu
  by_cases e : L.getD u 0 = 0
  · rw [if_neg (fun c => c.1 e)]
    unfold rowOf
    rw [e]
    rfl
  · rw [if_pos ⟨e, .inl (by omega)⟩]
theorem outL_none (L : List Int) (hok : okL L = true) : List.replicate L.length (⟨#[]⟩ : ByteArray) = outL L 1 0 := by
  apply List.ext_getElem
  · simp [outL]
  · intro u a b
    have hu : u < L.length := by simpa using a
    have h := getD_ok L hok u hu
    simp only [outL, List.getElem_replicate, List.getElem_map, List.getElem_range]
    rw [if_neg (fun c => by rcases c.2 with d | d <;> omega)]
theorem shl_one (n : Nat) (h : n ≤ 40) : shl .i64 1 (IntKind.u64.wrap (n : Int)) = ((2 ^ n : Nat) : Int) := by
  rw [un (n : Int) (by omega) (by omega)]
  have h1 : 2 ^ n ≤ 2 ^ 40 := Nat.pow_le_pow_right (by decide) h
  show IntKind.i64.wrap (1 * 2 ^ min (n : Int).toNat 64) = _
  rw [Nat.min_eq_left (by omega), Int.toNat_natCast, Int.one_mul, show ((2 : Int) ^ n) = ((2 ^ n : Nat) : Int) by push_cast; rfl, IntKind.wrap_i64]
  generalize 2 ^ n = q at *
  omega
def onesF (L : List Int) (n s : Nat) : Nat := if n = 1 then cn (L.take s) 1 else cn L 1
theorem step_mul (a b q : Nat) : (a + (b + 1)) * q = (a + b) * q + q := by rw [← Nat.add_assoc]; exact Nat.succ_mul _ _
theorem wr2 (a b n : Nat) (h15 : n ≤ 15) (hle : a + b ≤ 2 ^ n) : wrap64 ((((a + b) * 2 ^ (15 - n) : Nat) : Int) + ((2 ^ (15 - n) : Nat) : Int)) = (((a + (b + 1)) * 2 ^ (15 - n) : Nat) : Int) := by
  have hu : 2 ^ n * 2 ^ (15 - n) = 2 ^ 15 := by rw [← Nat.pow_add]; congr 1; omega
  have hu2 : (a + b) * 2 ^ (15 - n) ≤ 2 ^ 15 := by rw [← hu]; exact Nat.mul_le_mul_right _ hle
  have hu3 : 2 ^ (15 - n) ≤ 2 ^ 15 := Nat.pow_le_pow_right (by decide) (by omega)
  rw [step_mul]
  clear hu hle
  generalize (a + b) * 2 ^ (15 - n) = q1 at *
  generalize 2 ^ (15 - n) = q2 at *
  have h1 : q1 ≤ 32768 := hu2
  have h2 : q2 ≤ 32768 := hu3
  clear hu2 hu3
  rw [wn _ (by omega) (by omega)]
  omega
theorem wr1 (x : Nat) (h : x ≤ 1000000) : wrap64 ((x : Int) + 1) = ((x + 1 : Nat) : Int) := by rw [wn _ (by omega) (by omega)]; omega
theorem beg_le2 (L : List Int) (hl : L.length ≤ 320) (n s : Nat) (h15 : n ≤ 15) : beg L n + cn (L.take s) n ≤ 1000000 := by
  have h4 := beg_le L n
  have h5 := cn_take_le L s n
  have h6 := cn_le L n
  have h7 : n * L.length ≤ 15 * 320 := Nat.mul_le_mul h15 hl
  omega
theorem ones_le (L : List Int) (hl : L.length ≤ 320) (n s : Nat) : onesF L n s ≤ 1000000 := by
  unfold onesF
  split
  · have := cn_take_le L s 1; have := cn_le L 1; omega
  · have := cn_le L 1; omega
theorem pow15 (n x : Nat) (h15 : n ≤ 15) (h : x ≤ 2 ^ n) : x ≤ 1000000 := by
  have h1 : 2 ^ n ≤ 2 ^ 15 := Nat.pow_le_pow_right (by decide) h15
  exact Nat.le_trans h (Nat.le_trans h1 (by decide))
theorem l2_run (L : List Int) (lone : Bool) (hl : L.length ≤ 320) (n : Nat) (h1 : 1 ≤ n) (h15 : n ≤ 15) (k : Nat) (hk : 17 ≤ k) : ∀ d s, s + d = L.length → fst L n + cn (L.take s) n ≤ 2 ^ n →
    crossdockref07_Codes.l2 (k + 1 + d) L lone (outL L n s) ((fst L n + cn (L.take s) n : Nat) : Int) (((fst L n + cn (L.take s) n) * 2 ^ (15 - n) : Nat) : Int) ((beg L n + cn (L.take s) n : Nat) : Int) ((onesF L n s : Nat) : Int) (n : Int) (s : Int) =
      if over L n then some ([], 14) else crossdockref07_Codes.l1 k L lone (outL L n L.length) ((fst L n + cn L n : Nat) : Int) (((fst L n + cn L n) * 2 ^ (15 - n) : Nat) : Int) ((beg L n + cn L n : Nat) : Int) ((onesF L n L.length : Nat) : Int) ((n + 1 : Nat) : Int)
  | 0, s, hs, hle => by
    have : s = L.length := by omega
    subst this
    rw [List.take_length] at hle ⊢
    rw [Nat.add_zero, show k + 1 = Nat.succ k from rfl]
    simp only [crossdockref07_Codes.l2]
    rw [if_neg (by omega), wn _ (by omega) (by omega), if_neg (show ¬ over L n = true by unfold over; simpa using hle)]
    rfl
  | d + 1, s, hs, hle => by
    have hlt : s < L.length := by omega
    have hx := getD_some L s hlt
    have ih := l2_run L lone hl n h1 h15 k hk d (s + 1) (by omega)
    rw [show k + 1 + (d + 1) = Nat.succ (k + 1 + d) from rfl]
    simp only [crossdockref07_Codes.l2]
    rw [if_pos (by omega), if_pos (by omega), show rd L (s : Int) = L.getD s 0 from by unfold rd; rw [Int.toNat_natCast]]
    rw [cn_take L s n _ hx] at ih
    have hs1 : wrap64 ((s : Int) + 1) = ((s + 1 : Nat) : Int) := by rw [wn _ (by omega) (by omega)]; omega
    by_cases e : L.getD s 0 = (n : Int)
    · rw [if_pos e, if_pos (by rw [un _ (by omega) (by omega)]; omega), shl_one n (by omega)]
      rw [if_pos e] at ih
      have hcl := cn_take_le L (s + 1) n
      rw [cn_take L s n _ hx, if_pos e] at hcl
      by_cases hov : fst L n + cn (L.take s) n = 2 ^ n
      · rw [if_pos (by omega), if_pos (show over L n = true by unfold over; exact decide_eq_true (by omega))]
      · rw [if_neg (by omega), show k + 1 + d = (k + d - n) + n + 1 by omega, rowD _ n _ (by omega), Option.bind_some, if_pos (by rw [outL_len]; omega), Option.bind_some]
        have hcode : rowF (fst L n + cn (L.take s) n) n ⟨#[]⟩ = rowOf L s := by
          unfold rowOf code
          rw [e]
          simp only [Int.toNat_natCast]
          rw [if_neg (by omega)]
        rw [hcode, Int.toNat_natCast, outL_set L n s (by omega) e]
        have h15n : wrap64 (15 - (n : Int)) = ((15 - n : Nat) : Int) := by rw [wn _ (by omega) (by omega)]; omega
        rw [h15n, if_pos (by rw [un _ (by omega) (by omega)]; omega), shl_one (15 - n) (by omega)]
        have w1 : wrap64 (((fst L n + cn (L.take s) n : Nat) : Int) + 1) = ((fst L n + (cn (L.take s) n + 1) : Nat) : Int) := wr1 _ (pow15 n _ h15 hle)
        have w2 := wr2 (fst L n) (cn (L.take s) n) n h15 hle
        have w3 : wrap64 (((beg L n + cn (L.take s) n : Nat) : Int) + 1) = ((beg L n + (cn (L.take s) n + 1) : Nat) : Int) := wr1 _ (beg_le2 L hl n s h15)
        have w4 : wrap64 (((onesF L n s : Nat) : Int) + 1) = ((onesF L n s + 1 : Nat) : Int) := wr1 _ (ones_le L hl n s)
        have hle1 : fst L n + (cn (L.take s) n + 1) ≤ 2 ^ n := Nat.succ_le_of_lt (Nat.lt_of_le_of_ne hle hov)
        have hkk : k + d - n + n + 1 = k + 1 + d := by clear w1 w2 w3 w4 ih hle hov hle1; omega
        have hn1i : n = 1 → ((n : Int) = 1) := fun e => by rw [e]; rfl
        have hn1j : n ≠ 1 → ¬ ((n : Int) = 1) := fun e e2 => e (by clear w1 w2 w3 w4 ih hle hov hle1; omega)
        replace ih := ih hle1
        rw [hkk, w1, w2, w3, w4, hs1]
        by_cases hn1 : n = 1
        · rw [if_pos (hn1i hn1), ← ih]
          have : onesF L n (s + 1) = onesF L n s + 1 := by
            unfold onesF
            subst hn1
            rw [if_pos rfl, if_pos rfl, cn_take L s 1 _ hx, if_pos e]
          rw [this]
        · rw [if_neg (hn1j hn1), ← ih]
          have : onesF L n (s + 1) = onesF L n s := by unfold onesF; rw [if_neg hn1, if_neg hn1]
          rw [this]
    · rw [if_neg e, hs1]
      rw [if_neg e, Nat.add_zero, outL_skip L n s e] at ih
      rw [← ih hle]
      have : onesF L n (s + 1) = onesF L n s := by
        unfold onesF
        split
        · next hn1 => subst hn1; rw [cn_take L s 1 _ hx, if_neg e]; rfl
        · rfl
      rw [this]
/-- How many codes there are up to a length, of that length. -/
def pre (L : List Int) (n : Nat) : Nat := fst L (n - 1) + c0 L (n - 1)
def doneR (L : List Int) (lone : Bool) (b : Bool) : List ByteArray × Int :=
  if b = true then ([], 14) else if fst L 15 + cn L 15 = 32768 then (wantL L, 0) else if lone = true ∧ aloneL L = true then (wantL L, 0) else ([], 2)
theorem pre_succ (L : List Int) (n : Nat) (h1 : 1 ≤ n) : pre L (n + 1) = fst L n + cn L n := by
  unfold pre
  rw [Nat.add_sub_cancel]
  unfold c0
  rw [if_neg (by omega)]
theorem fst_pre (L : List Int) (n : Nat) (h1 : 1 ≤ n) : fst L n = pre L n * 2 := by
  obtain ⟨m, rfl⟩ : ∃ m, n = m + 1 := ⟨n - 1, by omega⟩
  rw [fst]
  unfold pre
  rw [Nat.add_sub_cancel, Nat.mul_comm]
theorem used_pre (L : List Int) (n : Nat) (h1 : 1 ≤ n) (h15 : n ≤ 15) : pre L n * 2 ^ (16 - n) = fst L n * 2 ^ (15 - n) := by
  rw [fst_pre L n h1, Nat.mul_assoc, show 16 - n = (15 - n) + 1 by omega, Nat.pow_succ, Nat.mul_comm 2 (2 ^ (15 - n))]
theorem beg_succ (L : List Int) (n : Nat) (h1 : 1 ≤ n) : beg L (n + 1) = beg L n + cn L n := by rw [beg]; unfold c0; rw [if_neg (by omega)]
theorem aloneL_iff (L : List Int) : aloneL L = true ↔ (beg L 16 = 0 ∨ beg L 16 = 1 ∧ cn L 1 = 1) := by
  unfold aloneL c0
  simp
theorem l1_run (L : List Int) (lone : Bool) (hok : okL L = true) (hl : L.length ≤ 320) (k : Nat) (hk : 17 ≤ k) : ∀ j n, n + j = 16 → 1 ≤ n → (∀ i, 1 ≤ i → i < n → over L i = false) →
    crossdockref07_Codes.l1 (k + (L.length + 2) * j + 1) L lone (outL L n 0) ((pre L n : Nat) : Int) ((pre L n * 2 ^ (16 - n) : Nat) : Int) ((beg L n : Nat) : Int) ((if n = 1 then 0 else cn L 1 : Nat) : Int) (n : Int) = some (doneR L lone (anyOver L j n))
  | 0, n, hn, h1, ho => by
    have : n = 16 := by omega
    subst this
    simp only [crossdockref07_Codes.l1]
    rw [if_neg (by omega), pre_succ L 15 (by omega), outL_all L hok]
    have e0 : (fst L 15 + cn L 15) * 2 ^ (16 - 16) = fst L 15 + cn L 15 := Nat.mul_one _
    rw [e0, show anyOver L 0 16 = false from rfl]
    unfold doneR
    rw [if_neg (show ¬ (false = true) by decide)]
    have ha := aloneL_iff L
    have e1 : (if 16 = 1 then 0 else cn L 1) = cn L 1 := if_neg (by decide)
    rw [e1]
    by_cases c : fst L 15 + cn L 15 = 32768
    · rw [if_pos (by omega), if_pos c]
    · rw [if_neg (by omega), if_neg c]
      cases lone with
      | false => rw [if_neg (by decide), if_neg (fun h => absurd h.1 (by decide))]
      | true =>
        rw [if_pos rfl]
        by_cases b0 : beg L 16 = 0
        · rw [if_pos (by omega), if_pos ⟨rfl, ha.2 (.inl b0)⟩]
        · rw [if_neg (by omega)]
          by_cases b1 : beg L 16 = 1
          · rw [if_pos (by omega)]
            by_cases b2 : cn L 1 = 1
            · rw [if_pos (by omega), if_pos ⟨rfl, ha.2 (.inr ⟨b1, b2⟩)⟩]
            · rw [if_neg (by omega), if_neg (fun h => (ha.1 h.2).elim b0 (fun h => b2 h.2))]
          · rw [if_neg (by omega), if_neg (fun h => (ha.1 h.2).elim b0 (fun h => b1 h.1))]
  | j + 1, n, hn, h1, ho => by
    have h15 : n ≤ 15 := by omega
    have hf := fst_le L n ho
    have hfuel : k + (L.length + 2) * (j + 1) + 1 = Nat.succ ((k + (L.length + 2) * j + 1) + 1 + L.length) := by rw [Nat.mul_succ]; omega
    rw [hfuel]
    simp only [crossdockref07_Codes.l1]
    rw [if_pos (by omega)]
    have hp := fst_pre L n h1
    have hpl := pow15 n _ h15 hf
    have w0 : wrap64 (((pre L n : Nat) : Int) * 2) = ((fst L n : Nat) : Int) := by rw [wn _ (by omega) (by omega)]; omega
    rw [w0, used_pre L n h1 h15]
    have h2 := l2_run L lone hl n h1 h15 (k + (L.length + 2) * j + 1) (by omega) L.length 0 (by omega) (by simpa [cn] using hf)
    have e0 : cn (L.take 0) n = 0 := by simp [cn]
    have e1 : onesF L n 0 = if n = 1 then 0 else cn L 1 := by unfold onesF; simp [cn]
    rw [e0, Nat.add_zero, Nat.add_zero, e1] at h2
    refine h2.trans ?_
    rw [anyOver]
    by_cases hov : over L n = true
    · rw [if_pos hov, hov, Bool.true_or]
      unfold doneR
      rw [if_pos rfl]
    · have hov' : over L n = false := by simpa using hov
      rw [if_neg hov, hov', Bool.false_or]
      have ih := l1_run L lone hok hl k hk j (n + 1) (by omega) (by omega) (fun i hi1 hi2 => by
        by_cases e : i = n
        · rw [e]; exact hov'
        · exact ho i hi1 (by omega))
      rw [pre_succ L n h1, beg_succ L n h1, show 16 - (n + 1) = 15 - n by omega, if_neg (by omega), ← outL_next L n] at ih
      have e2 : onesF L n L.length = cn L 1 := by
        unfold onesF
        split
        · rw [List.take_length]
        · rfl
      rw [e2]
      exact ih
theorem l0_run (L : List Int) (lone : Bool) (hl : L.length ≤ 320) (k : Nat) : ∀ d s, s + d = L.length → (∀ u, u < s → 0 ≤ L.getD u 0 ∧ L.getD u 0 ≤ 15) →
    crossdockref07_Codes.l0 (k + d + 1) L lone L (L.length : Int) (s : Int) = if okL L = true then crossdockref07_Codes.l1 k L lone (List.replicate L.length ⟨#[]⟩) 0 0 0 0 1 else some ([], 1)
  | 0, s, hs, ho => by
    simp only [crossdockref07_Codes.l0]
    have hok : okL L = true := all_true L (fun i x hx => by
      have hi := (List.getElem?_eq_some_iff.1 hx).1
      have := ho i (by omega)
      rw [List.getD_eq_getElem?_getD, hx] at this
      exact this)
    rw [if_neg (by omega), if_pos (by omega), if_pos (by omega), if_pos hok, Int.toNat_natCast]
  | d + 1, s, hs, ho => by
    rw [show k + (d + 1) + 1 = (k + d + 1) + 1 by omega]
    simp only [crossdockref07_Codes.l0]
    rw [if_pos (by omega), if_pos (by omega), if_pos (by omega), show rd L (s : Int) = L.getD s 0 from by unfold rd; rw [Int.toNat_natCast]]
    have hx := getD_some L s (by omega)
    have hbad := all_take L s _ hx
    by_cases c1 : L.getD s 0 < 0
    · rw [if_pos c1, if_neg (by rw [hbad (by omega)]; decide)]
    · rw [if_neg c1]
      by_cases c2 : L.getD s 0 > 15
      · rw [if_pos c2, if_neg (by rw [hbad (by omega)]; decide)]
      · rw [if_neg c2, wr1 s (by omega)]
        exact l0_run L lone hl k d (s + 1) (by omega) (fun u hu => by
          by_cases e : u = s
          · subst e; omega
          · exact ho u (by omega))
/-- The document's answer. -/
def docR (L : List Int) (lone : Bool) : List ByteArray × Int := match newR L lone with | none => (wantL L, 0) | some c => ([], c)
theorem doc_codes (L : List Int) (lone : Bool) : ∃ k, crossdockref07_Codes.f k L lone = some (docR L lone) := by
  refine ⟨(17 + (L.length + 2) * 15 + 1) + L.length + 1, ?_⟩
  unfold crossdockref07_Codes.f docR newR
  by_cases h320 : 320 < L.length
  · rw [if_pos (by omega), if_pos h320]
  · rw [if_neg (by omega), if_neg h320]
    have h0 := l0_run L lone (by omega) (17 + (L.length + 2) * 15 + 1) L.length 0 (by omega) (fun u hu => by omega)
    refine h0.trans ?_
    by_cases hok : okL L = true
    · rw [if_pos hok, if_neg (by rw [hok]; decide)]
      have h1 := l1_run L lone hok (by omega) 17 (Nat.le_refl _) 15 1 (by omega) (by omega) (fun i h1 h2 => by omega)
      rw [← outL_none L hok] at h1
      have hp : pre L 1 = 0 := by unfold pre; simp [fst, c0]
      have hb : beg L 1 = 0 := by simp [beg, c0]
      rw [hp, hb, if_pos rfl, Nat.zero_mul] at h1
      refine h1.trans ?_
      unfold doneR numR
      by_cases hov : anyOver L 15 1 = true
      · rw [if_pos hov, if_pos hov, if_pos (by decide)]
      · rw [if_neg hov, if_neg hov]
        have hov' : anyOver L 15 1 = false := by simpa using hov
        have h15 := over_all L 15 1 hov' 15 (by omega) (by omega)
        have h16 : fst L 15 + cn L 15 ≤ 32768 := by
          unfold over at h15
          have h17 := of_decide_eq_false h15
          rw [show 2 ^ 15 = 32768 from rfl] at h17
          omega
        rw [if_neg (show ¬ (32768 - ((fst L 15 + cn L 15 : Nat) : Int) < 0) by omega)]
        by_cases c : fst L 15 + cn L 15 = 32768
        · rw [if_pos c, if_neg (show ¬ (0 < 32768 - ((fst L 15 + cn L 15 : Nat) : Int) ∧ ¬ (lone = true ∧ aloneL L = true)) by omega)]
        · rw [if_neg c]
          by_cases c2 : lone = true ∧ aloneL L = true
          · rw [if_pos c2, if_neg (fun h => h.2 c2)]
          · rw [if_neg c2, if_pos ⟨by omega, c2⟩]
    · rw [if_neg hok, if_pos (by simpa using hok)]
end Go.Proofs.YtdphifihneccoaaDoor.My

/- Taking a sign off bits, plainly. No program in sight. -/
namespace Go.Proofs.YtdphifihneccoaaDoor.Huf
set_option linter.unusedVariables false
set_option linter.unusedSimpArgs false

/-- A bit of a number, and so many bits from a bit on, the first one the highest. -/
def bv (V i : Nat) : Nat := V / 2 ^ i % 2
def cd (V a : Nat) : Nat → Nat
  | 0 => 0
  | n + 1 => 2 * cd V a n + bv V (a + n)
theorem bv_lt (V i : Nat) : bv V i < 2 := Nat.mod_lt _ (by decide)
theorem cd_lt (V a : Nat) : ∀ n, cd V a n < 2 ^ n
  | 0 => by simp [cd]
  | n + 1 => by
    have := cd_lt V a n
    have := bv_lt V (a + n)
    rw [cd, Nat.pow_succ]
    omega
theorem cd_div (V a n : Nat) : ∀ k, cd V a (n + k) / 2 ^ k = cd V a n
  | 0 => by simp
  | k + 1 => by
    rw [← Nat.add_assoc, cd, Nat.pow_succ, Nat.mul_comm (2 ^ k) 2, ← Nat.div_div_eq_div_mul]
    have := bv_lt V (a + (n + k))
    rw [show (2 * cd V a (n + k) + bv V (a + (n + k))) / 2 = cd V a (n + k) by omega]
    exact cd_div V a n k
/-- A sign with so many ahead of it of its length. -/
theorem sign_at (L : List Int) (n q : Nat) : ∀ i, i ≤ L.length → q < cn (L.take i) n → ∃ s, s < i ∧ L.getD s 0 = (n : Int) ∧ cn (L.take s) n = q
  | 0, _, h => by simp [cn] at h
  | i + 1, hi, h => by
    have hx : L[i]? = some (L.getD i 0) := by rw [List.getD_eq_getElem?_getD, List.getElem?_eq_getElem (by omega)]; rfl
    rw [cn_take L i n _ hx] at h
    by_cases h1 : q < cn (L.take i) n
    · obtain ⟨s, a, b, c⟩ := sign_at L n q i (by omega) h1
      exact ⟨s, by omega, b, c⟩
    · by_cases e : L.getD i 0 = (n : Int)
      · rw [if_pos e] at h
        exact ⟨i, by omega, e, by omega⟩
      · rw [if_neg e] at h
        omega
/-- Is this the sign's length? -/
def Has (L : List Int) (s n : Nat) : Prop := s < L.length ∧ n ≠ 0 ∧ L.getD s 0 = (n : Int)
theorem code_has (L : List Int) (s n : Nat) (h : Has L s n) : code L s = fst L n + cn (L.take s) n := by
  unfold code
  rw [h.2.2, Int.toNat_natCast]
  exact if_neg h.2.1
theorem has_range (L : List Int) (s n : Nat) (h : Has L s n) : fst L n ≤ code L s ∧ code L s < fst L n + cn L n := by
  rw [code_has L s n h]
  have := pos_lt L s h.1 n h.2.2 h.2.1
  omega
theorem range_has (L : List Int) (n c : Nat) (h0 : n ≠ 0) (h1 : fst L n ≤ c) (h2 : c < fst L n + cn L n) : ∃ s, Has L s n ∧ code L s = c := by
  obtain ⟨s, a, b, e⟩ := sign_at L n (c - fst L n) L.length (Nat.le_refl _) (by rw [List.take_length]; omega)
  have h : Has L s n := ⟨a, h0, b⟩
  exact ⟨s, h, by rw [code_has L s n h, e]; omega⟩
theorem fst_grow (L : List Int) (n : Nat) (h0 : n ≠ 0) : ∀ k, (fst L n + cn L n) * 2 ^ (k + 1) ≤ fst L (n + (k + 1))
  | 0 => by
    rw [fst]
    unfold c0
    rw [if_neg h0]
    omega
  | k + 1 => by
    have h := fst_grow L n h0 k
    rw [show n + (k + 1 + 1) = (n + (k + 1)) + 1 by omega, fst, Nat.pow_succ, ← Nat.mul_assoc]
    omega
/-- No code begins with another one. -/
theorem apart (L : List Int) (s t n m : Nat) (hs : Has L s n) (ht : Has L t m) (hnm : n < m) : code L t / 2 ^ (m - n) ≠ code L s := by
  obtain ⟨k, rfl⟩ : ∃ k, m = n + (k + 1) := ⟨m - n - 1, by omega⟩
  have h1 := fst_grow L n hs.2.1 k
  have h2 := has_range L s n hs
  have h3 := has_range L t _ ht
  rw [show n + (k + 1) - n = k + 1 by omega]
  intro e
  have h4 : (code L s + 1) * 2 ^ (k + 1) ≤ (fst L n + cn L n) * 2 ^ (k + 1) := Nat.mul_le_mul_right _ (by omega)
  have h5 : code L t < (code L s + 1) * 2 ^ (k + 1) := by
    rw [← e, Nat.add_mul, Nat.one_mul]
    exact Nat.lt_div_mul_add (Nat.two_pow_pos _)
  omega
theorem cn_step (L : List Int) (s t n : Nat) (hs : Has L s n) (h : s < t) (ht : t ≤ L.length) : cn (L.take s) n < cn (L.take t) n := by
  have hx : L[s]? = some (L.getD s 0) := by rw [List.getD_eq_getElem?_getD, List.getElem?_eq_getElem hs.1]; rfl
  have h1 := cn_take L s n _ hx
  rw [if_pos hs.2.2] at h1
  obtain ⟨k, rfl⟩ : ∃ k, t = (s + 1) + k := ⟨t - (s + 1), by omega⟩
  have := cn_mono L n (s + 1) k
  omega
/-- Signs of a length have codes of their own. -/
theorem code_inj (L : List Int) (s t n : Nat) (hs : Has L s n) (ht : Has L t n) (e : code L s = code L t) : s = t := by
  rw [code_has L s n hs, code_has L t n ht] at e
  rcases Nat.lt_trichotomy s t with h | h | h
  · have := cn_step L s t n hs h (Nat.le_of_lt ht.1); omega
  · exact h
  · have := cn_step L t s n ht h (Nat.le_of_lt hs.1); omega
/-- The bits begin with the sign's code; or they end within it. -/
def Fits (L : List Int) (V a left s n : Nat) : Prop := Has L s n ∧ n ≤ left ∧ code L s = cd V a n
def Cuts (L : List Int) (V a left s n : Nat) : Prop := Has L s n ∧ left < n ∧ code L s / 2 ^ (n - left) = cd V a left
theorem fits_one (L : List Int) (V a left s t n m : Nat) (h : Fits L V a left s n) (k : Fits L V a left t m) : s = t ∧ n = m := by
  rcases Nat.lt_trichotomy n m with c | c | c
  · obtain ⟨d, rfl⟩ : ∃ d, m = n + d := ⟨m - n, by omega⟩
    exact absurd (by rw [k.2.2, h.2.2, show n + d - n = d by omega]; exact cd_div V a n d) (apart L s t n (n + d) h.1 k.1 c)
  · subst c
    exact ⟨code_inj L s t n h.1 k.1 (by rw [h.2.2, k.2.2]), rfl⟩
  · obtain ⟨d, rfl⟩ : ∃ d, n = m + d := ⟨n - m, by omega⟩
    exact absurd (by rw [h.2.2, k.2.2, show m + d - m = d by omega]; exact cd_div V a m d) (apart L t s m (m + d) k.1 h.1 c)
/-- The middle numbers of a length: is there one that begins with these bits? -/
def meets (L : List Int) (c len n : Nat) : Bool := decide (0 < cn L n) && (decide (fst L n < (c + 1) * 2 ^ (n - len)) && decide (c * 2 ^ (n - len) < fst L n + cn L n))
theorem meets_iff (L : List Int) (c len n : Nat) (h0 : n ≠ 0) : meets L c len n = true ↔ ∃ s, Has L s n ∧ code L s / 2 ^ (n - len) = c := by
  unfold meets
  generalize n - len = k
  constructor
  · intro h
    simp only [Bool.and_eq_true, decide_eq_true_eq] at h
    obtain ⟨h1, h2, h3⟩ := h
    have hp := Nat.two_pow_pos k
    have h5 : (c + 1) * 2 ^ k = c * 2 ^ k + 2 ^ k := Nat.succ_mul _ _
    by_cases hm : fst L n ≤ c * 2 ^ k
    · obtain ⟨s, hs, e⟩ := range_has L n (c * 2 ^ k) h0 hm h3
      exact ⟨s, hs, by rw [e]; exact Nat.mul_div_cancel _ hp⟩
    · obtain ⟨s, hs, e⟩ := range_has L n (fst L n) h0 (Nat.le_refl _) (by omega)
      refine ⟨s, hs, ?_⟩
      rw [e]
      apply Nat.div_eq_of_lt_le
      · omega
      · exact h2
  · rintro ⟨s, hs, e⟩
    have h := has_range L s n hs
    have hp := Nat.two_pow_pos k
    have h5 : (c + 1) * 2 ^ k = c * 2 ^ k + 2 ^ k := Nat.succ_mul _ _
    have h6 : c * 2 ^ k ≤ code L s := by rw [← e]; exact Nat.div_mul_le_self _ _
    have h7 : code L s < c * 2 ^ k + 2 ^ k := by rw [← e]; exact Nat.lt_div_mul_add hp
    simp only [Bool.and_eq_true, decide_eq_true_eq]
    omega
/-- Bits that end: one of so many lengths, from n on, has a code that begins with them. -/
def anyMeets (L : List Int) (c len : Nat) : Nat → Nat → Bool
  | 0, _ => false
  | k + 1, n => meets L c len n || anyMeets L c len k (n + 1)
theorem anyMeets_iff (L : List Int) (c len : Nat) : ∀ k n, anyMeets L c len k n = true ↔ ∃ m, n ≤ m ∧ m < n + k ∧ meets L c len m = true
  | 0, n => by simp [anyMeets]; intro m h1 h2; omega
  | k + 1, n => by
    rw [anyMeets, Bool.or_eq_true, anyMeets_iff L c len k (n + 1)]
    constructor
    · rintro (h | ⟨m, h1, h2, h3⟩)
      · exact ⟨n, Nat.le_refl _, by omega, h⟩
      · exact ⟨m, by omega, by omega, h3⟩
    · rintro ⟨m, h1, h2, h3⟩
      by_cases e : m = n
      · subst e; exact .inl h3
      · exact .inr ⟨m, by omega, by omega, h3⟩
/-- What Take answers: a sign and how many bits it took, or an error. -/
inductive TakeR (L : List Int) (V a left : Nat) : Int → Nat → Option Int → Prop
  | sign (s n : Nat) (h : Fits L V a left s n) : TakeR L V a left (s : Int) n none
  | ends (h : ∀ s n, ¬ Fits L V a left s n) (s n : Nat) (h1 : Cuts L V a left s n) : TakeR L V a left 0 0 (some 10)
  | form (h : ∀ s n, ¬ Fits L V a left s n) (h1 : ∀ s n, ¬ Cuts L V a left s n) : TakeR L V a left 0 0 (some 2)
theorem takeR_one {L : List Int} {V a left : Nat} {x y : Int} {n m : Nat} {e f : Option Int} (h : TakeR L V a left x n e) (k : TakeR L V a left y m f) : x = y ∧ n = m ∧ e = f := by
  cases h with
  | sign s n h =>
    cases k with
    | sign t m k => obtain ⟨rfl, rfl⟩ := fits_one L V a left s t n m h k; exact ⟨rfl, rfl, rfl⟩
    | ends k => exact absurd h (k _ _)
    | form k => exact absurd h (k _ _)
  | ends h s n h1 =>
    cases k with
    | sign t m k => exact absurd k (h _ _)
    | ends => exact ⟨rfl, rfl, rfl⟩
    | form _ k => exact absurd h1 (k _ _)
  | form h h1 =>
    cases k with
    | sign t m k => exact absurd k (h _ _)
    | ends _ s n k => exact absurd k (h1 _ _)
    | form => exact ⟨rfl, rfl, rfl⟩
end Go.Proofs.YtdphifihneccoaaDoor.Huf

/- The walk of crossdocknum's Num. -/
namespace Go.Proofs.YtdphifihneccoaaDoor.My
open Go.RowKit Go.Proofs.YtdphifihneccoaaDoorW.PrintWords Go.Proofs.YtdphifihneccoaaDoorW.PrintLast Go.Proofs.YtdphifihneccoaaDoorW.PrintMore
set_option maxRecDepth 100000

def numE : Option Int → Int
  | none => 0
  | some c => c
theorem num_calls (e : Option Int) (w : World) (h : ∀ c, e = some c → c ≠ 0) : Calls Tryd.prog 10 #[errV e] w fun r w' => r = .returned (.int .i64 (numE e)) ∧ w = w' := by
  cases e with
  | none =>
    show Calls Tryd.prog 10 #[.nilIface] w _
    go_enter Tryd.func10, Tryd.ntmps10
    go_wp2
    go_ret
    exact ⟨rfl, rfl⟩
  | some c =>
    have h1 : (c == 0) = false := beq_eq_false_iff_ne.2 (h c rfl)
    have h2 : (c != 0) = true := bne_iff_ne.2 (h c rfl)
    have hta : ∀ (v : Value) (W : World), (Instr.typeAssert (.iface 39 v) 27 39 true).run Tryd.prog W = .ok (.tuple #[v, .bool true]) W := fun v W => by rfl
    clear h
    show Calls Tryd.prog 10 #[.iface 39 (.int .i64 c)] w _
    have u1 := Tryd.underlying27
    have u2 := Tryd.underlying39
    go_enter Tryd.func10, Tryd.ntmps10
    go_wp2
    go_ret
    exact ⟨rfl, rfl⟩
end Go.Proofs.YtdphifihneccoaaDoor.My

/- Bits as a number: what a writer holds, what a reader takes. No program in sight. -/
namespace Go.Proofs.YtdphifihneccoaaDoor.My
open Go.RowKit
set_option maxRecDepth 100000

/-- The bytes of a number, the lowest one first. -/
def leB (V k : Nat) : List Int := (List.range k).map fun i => ((V / 2 ^ (8 * i) % 256 : Nat) : Int)
@[simp] theorem leB_len (V k : Nat) : (leB V k).length = k := by simp [leB]
theorem leB_succ (V k : Nat) : leB V (k + 1) = leB V k ++ [((V / 2 ^ (8 * k) % 256 : Nat) : Int)] := by simp [leB, List.range_succ]
theorem leB_congr {V V' k : Nat} (h : V % 2 ^ (8 * k) = V' % 2 ^ (8 * k)) : leB V k = leB V' k := by
  have aux : ∀ U i, i < k → U / 2 ^ (8 * i) % 256 = U % 2 ^ (8 * k) / 2 ^ (8 * i) % 256 := by
    intro U i hi
    have e : 2 ^ (8 * k) = 2 ^ (8 * i) * 2 ^ (8 * (k - i)) := by rw [← Nat.pow_add]; congr 1; omega
    rw [e, Nat.mod_mul_right_div_self]
    exact (Nat.mod_mod_of_dvd _ (Nat.pow_dvd_pow (m := 8) 2 (by omega))).symm
  unfold leB
  refine List.map_congr_left fun i hi => ?_
  rw [aux V i (List.mem_range.1 hi), h, ← aux V' i (List.mem_range.1 hi)]
theorem leB_add (V x N k : Nat) (h : 8 * k ≤ N) : leB (V + x * 2 ^ N) k = leB V k := by
  refine leB_congr ?_
  rw [show 2 ^ N = 2 ^ (N - 8 * k) * 2 ^ (8 * k) by rw [← Nat.pow_add]; congr 1; omega, ← Nat.mul_assoc, Nat.add_mul_mod_self_right]
theorem held_add (V x N q : Nat) (h : 8 * q ≤ N) : (V + x * 2 ^ N) / 2 ^ (8 * q) = V / 2 ^ (8 * q) + x * 2 ^ (N - 8 * q) := by
  rw [show 2 ^ N = 2 ^ (N - 8 * q) * 2 ^ (8 * q) by rw [← Nat.pow_add]; congr 1; omega, ← Nat.mul_assoc, Nat.add_mul_div_right _ _ (Nat.two_pow_pos _)]
theorem held_lt {V N : Nat} (h : V < 2 ^ N) (q : Nat) (hq : 8 * q ≤ N) : V / 2 ^ (8 * q) < 2 ^ (N - 8 * q) := by
  rw [Nat.div_lt_iff_lt_mul (Nat.two_pow_pos _), ← Nat.pow_add]
  rwa [show N - 8 * q + 8 * q = N by omega]
theorem held_div (V q : Nat) : V / 2 ^ (8 * q) / 256 = V / 2 ^ (8 * (q + 1)) := by
  rw [Nat.div_div_eq_div_mul, show (256 : Nat) = 2 ^ 8 from rfl, ← Nat.pow_add]
  congr 2
theorem held_end {V N : Nat} (h : V < 2 ^ N) : V < 2 ^ (N + 0) := h
theorem val_lt {V x N n : Nat} (h : V < 2 ^ N) (hx : x < 2 ^ n) : V + x * 2 ^ N < 2 ^ (N + n) := by
  have h1 : (x + 1) * 2 ^ N ≤ 2 ^ n * 2 ^ N := Nat.mul_le_mul_right _ hx
  rw [Nat.pow_add, Nat.mul_comm (2 ^ N) (2 ^ n)]
  rw [Nat.add_mul, Nat.one_mul] at h1
  omega
theorem or_low (h x m : Nat) (hh : h < 2 ^ m) : h ||| x * 2 ^ m = h + x * 2 ^ m := by
  rw [Nat.or_comm, Nat.mul_comm x, ← Nat.two_pow_add_eq_or_of_lt hh]
  omega
theorem or_nat64 (a b : Nat) (ha : a < 2 ^ 64) (hb : b < 2 ^ 64) : Go.bits .or .u64 a b = ((a ||| b : Nat) : Int) := by
  have hl : a ||| b < 2 ^ 64 := Nat.or_lt_two_pow ha hb
  show IntKind.u64.wrap ((BitVec.ofInt 64 (a : Int) ||| BitVec.ofInt 64 (b : Int)).toNat : Int) = _
  rw [BitVec.ofInt_natCast, BitVec.ofInt_natCast, BitVec.toNat_or, BitVec.toNat_ofNat, BitVec.toNat_ofNat, Nat.mod_eq_of_lt ha, Nat.mod_eq_of_lt hb, IntKind.wrap_u64]
  omega
/-- What the writer's first step makes of what it holds. -/
theorem or_put (h x m n : Nat) (hh : h < 2 ^ m) (hx : x < 2 ^ n) (hm : m < 8) (hn : n ≤ 32) :
    Go.bits .or .u64 (h : Int) (IntKind.u64.wrap (IntKind.u64.wrap (x : Int) * 2 ^ m)) = ((h + x * 2 ^ m : Nat) : Int) ∧ h + x * 2 ^ m < 2 ^ 40 := by
  have hl : h + x * 2 ^ m < 2 ^ 40 := Nat.lt_of_lt_of_le (val_lt hh hx) (Nat.pow_le_pow_right (by decide) (by omega))
  have hx2 : x < 2 ^ 32 := Nat.lt_of_lt_of_le hx (Nat.pow_le_pow_right (by decide) hn)
  have e0 : IntKind.u64.wrap (x : Int) = x := by rw [IntKind.wrap_u64]; omega
  have e : ((x : Int) * 2 ^ m) = ((x * 2 ^ m : Nat) : Int) := by simp
  have e1 : IntKind.u64.wrap ((x * 2 ^ m : Nat) : Int) = ((x * 2 ^ m : Nat) : Int) := by rw [IntKind.wrap_u64]; omega
  refine ⟨?_, hl⟩
  rw [e0, e, e1, or_nat64 h (x * 2 ^ m) (by omega) (by omega), or_low h x m hh]

theorem leB_getD (V k j : Nat) (h : j < k) : (leB V k).getD j 0 = ((V / 2 ^ (8 * j) % 256 : Nat) : Int) := by simp [leB, List.getD_eq_getElem?_getD, h]
/-- One more byte ahead of what is held. -/
theorem peek_step (V i m : Nat) : V / 2 ^ (8 * i) % 2 ^ (8 * (m + 1)) = V / 2 ^ (8 * (i + 1)) % 2 ^ (8 * m) * 256 + V / 2 ^ (8 * i) % 256 := by
  rw [← held_div, show 8 * (m + 1) = 8 + 8 * m by omega, Nat.pow_add, Nat.mod_mul, show (2 : Nat) ^ 8 = 256 from rfl, Nat.mul_comm]
  omega
theorem peek_or (h b : Nat) (hh : h < 2 ^ 32) (hb : b < 256) : Go.bits .or .u64 ((h : Int) * 256) (b : Int) = ((h * 256 + b : Nat) : Int) := by
  rw [show (h : Int) * 256 = ((h * 256 : Nat) : Int) by simp, or_nat64 _ _ (by omega) (by omega), Nat.or_comm, show h * 256 = h * 2 ^ 8 from rfl, or_low b h 8 hb]
  congr 1
  omega
theorem and_nat64 (a b : Nat) (ha : a < 2 ^ 64) (hb : b < 2 ^ 64) : Go.bits .and .u64 a b = ((a &&& b : Nat) : Int) := by
  have hl : a &&& b < 2 ^ 64 := Nat.and_lt_two_pow _ hb
  show IntKind.u64.wrap ((BitVec.ofInt 64 (a : Int) &&& BitVec.ofInt 64 (b : Int)).toNat : Int) = _
  rw [BitVec.ofInt_natCast, BitVec.ofInt_natCast, BitVec.toNat_and, BitVec.toNat_ofNat, BitVec.toNat_ofNat, Nat.mod_eq_of_lt ha, Nat.mod_eq_of_lt hb, IntKind.wrap_u64]
  omega
theorem peek_end (V a p r k q : Nat) (ha : a = 8 * p + r) (hk : r + k ≤ 8 * (q - p)) : V / 2 ^ (8 * p) % 2 ^ (8 * (q - p)) / 2 ^ r % 2 ^ k = V / 2 ^ a % 2 ^ k := by
  rw [show 8 * (q - p) = r + (8 * (q - p) - r) by omega, Nat.pow_add, Nat.mod_mul_right_div_self, Nat.div_div_eq_div_mul, ← Nat.pow_add, ← ha]
  exact Nat.mod_mod_of_dvd _ (Nat.pow_dvd_pow 2 (by omega))
theorem peek_mask (h r k : Nat) (hh : h < 2 ^ 64) (hk : k ≤ 32) : Go.bits .and .u64 ((h : Int) / 2 ^ r) ((2 : Int) ^ k - 1) = ((h / 2 ^ r % 2 ^ k : Nat) : Int) := by
  have h1 : (2 : Nat) ^ k ≤ 2 ^ 32 := Nat.pow_le_pow_right (by decide) hk
  have h0 : 0 < (2 : Nat) ^ k := Nat.two_pow_pos _
  have e1 : ((2 : Int) ^ k - 1) = ((2 ^ k - 1 : Nat) : Int) := by rw [Int.natCast_sub h0]; simp
  have e2 : (h : Int) / 2 ^ r = ((h / 2 ^ r : Nat) : Int) := by simp
  rw [e1, e2, and_nat64 _ _ (Nat.lt_of_le_of_lt (Nat.div_le_self _ _) hh) (by omega), Nat.and_two_pow_sub_one_eq_mod]
/-- The number of bytes. -/
def ofB : List Int → Nat
  | [] => 0
  | z :: t => z.toNat + 256 * ofB t
theorem ofB_lt : ∀ l : List Int, (∀ z ∈ l, 0 ≤ z ∧ z < 256) → ofB l < 2 ^ (8 * l.length)
  | [], _ => by simp [ofB]
  | z :: t, h => by
    have h1 := ofB_lt t fun y hy => h y (by simp [hy])
    have h2 := h z (by simp)
    simp only [ofB, List.length_cons]
    rw [show 8 * (t.length + 1) = 8 + 8 * t.length by omega, Nat.pow_add, show (2 : Nat) ^ 8 = 256 from rfl]
    omega
theorem leB_zero (V : Nat) : leB V 0 = [] := rfl
theorem leB_app : ∀ (l : List Int) (V q : Nat), (∀ z ∈ l, 0 ≤ z ∧ z < 256) → V < 2 ^ (8 * q) → leB (V + ofB l * 2 ^ (8 * q)) (q + l.length) = leB V q ++ l
  | [], V, q, _, _ => by simp [ofB]
  | z :: t, V, q, h, hV => by
    have h2 := h z (by simp)
    have hz : V + z.toNat * 2 ^ (8 * q) < 2 ^ (8 * (q + 1)) := by
      have := val_lt (n := 8) (x := z.toNat) hV (by omega)
      rwa [show 8 * q + 8 = 8 * (q + 1) by omega] at this
    have e := leB_app t (V + z.toNat * 2 ^ (8 * q)) (q + 1) (fun y hy => h y (by simp [hy])) hz
    have e1 : V + z.toNat * 2 ^ (8 * q) + ofB t * 2 ^ (8 * (q + 1)) = V + ofB (z :: t) * 2 ^ (8 * q) := by
      simp only [ofB]
      rw [show 8 * (q + 1) = 8 + 8 * q by omega, Nat.pow_add, show (2 : Nat) ^ 8 = 256 from rfl, Nat.add_mul, ← Nat.mul_assoc, Nat.mul_comm (ofB t) 256]
      omega
    rw [e1, show q + 1 + t.length = q + (z :: t).length by simp; omega] at e
    rw [e, leB_succ, leB_add V _ _ _ (Nat.le_refl _)]
    have e2 : (V + z.toNat * 2 ^ (8 * q)) / 2 ^ (8 * q) % 256 = z.toNat := by
      rw [Nat.add_mul_div_right _ _ (Nat.two_pow_pos _), Nat.div_eq_of_lt hV]
      omega
    rw [e2]
    simp
    omega
theorem leB_ofB (l : List Int) (h : ∀ z ∈ l, 0 ≤ z ∧ z < 256) : leB (ofB l) l.length = l := by
  have := leB_app l 0 0 h (by decide)
  simpa [leB_zero] using this
theorem mask_wrap (k : Nat) (hk : k ≤ 32) : IntKind.u64.wrap (IntKind.u64.wrap ((2 : Int) ^ k) - 1) = (2 : Int) ^ k - 1 := by
  have h1 : (2 : Nat) ^ k ≤ 2 ^ 32 := Nat.pow_le_pow_right (by decide) hk
  have h0 : 0 < (2 : Nat) ^ k := Nat.two_pow_pos _
  rw [show (2 : Int) ^ k = ((2 ^ k : Nat) : Int) by simp, IntKind.wrap_u64, IntKind.wrap_u64]
  omega
end Go.Proofs.YtdphifihneccoaaDoor.My

/- The walk of slices.Grow of numbers, at nil. -/
namespace Go.Proofs.YtdphifihneccoaaDoor.My
open Go.RowKit Go.Lib Go.Proofs.YtdphifihneccoaaDoorW.PrintWords Go.Proofs.YtdphifihneccoaaDoorW.PrintLast Go.Proofs.YtdphifihneccoaaDoorW.PrintMore
set_option maxRecDepth 100000
set_option linter.unusedVariables false
set_option linter.unusedSimpArgs false

set_option maxHeartbeats 2000000 in
theorem grow_calls (w : World) (n : Nat) (h0 : 0 < n) (hn : n ≤ 1000000) :
    Calls Tryd.prog 66 #[.slice none 0 0, .int .i64 n] w fun e w' => ∃ v, e = .returned v ∧ w'.ownsRow w.heap.size 3 1 v 0 (nums .i64 []) ∧ Below w.heap.size w w' := by
  obtain ⟨i0, hi0, hz⟩ := Option.map_eq_some_iff.1 info_i64
  simp only [Prod.mk.injEq] at hz
  have hold : (Builtin.firstCells i0.size 0 (.slice none 0 0)).run Tryd.prog w.drew = .ok ([] : List Value).toArray w.drew := run_firstCells_none w.drew i0.size 0 0 0
  have hrz : ∀ ty, (Builtin.append_ #[54, 3] ty #[.slice none 0 0, .int .i64 (n : Int)]).run Tryd.prog w =
      .ok (.slice (some ⟨w.heap.size, 0, none⟩) n (grownCap w n 0 3)) (w.drew.alloc (.cells (([] : List Value).toArray ++ Builtin.zeroCells (Value.int .i64 0).cells n ++ Builtin.zeroCells (Value.int .i64 0).cells (grownCap w n 0 3 - n)) 3)) := fun ty => by
    have h := Lib.run_append_grow_zeros w 54 3 ty 3 i0 (.int .i64 0) .i64 .i64 Tryd.underlying54 Tryd.underlying3 hi0 hz.1 none 0 0 [] hold n h0 (by rw [hz.2.1]; omega) (by omega) (by omega) (by rw [hz.2.2]; omega)
      (by rw [Nat.zero_add]; exact growslice_fits h0 (by rw [hz.2.2]; omega))
    rw [Nat.zero_add] at h
    exact h
  have hGn : n ≤ grownCap w n 0 3 := grownCap_ge w _ _ _
  have hG63 := grownCap_le_maxLen w n 0 3 (by unfold maxLen; omega)
  obtain ⟨G, hG⟩ : ∃ G, G = grownCap w n 0 3 := ⟨_, rfl⟩
  rw [← hG] at hrz hGn hG63
  have HG1 := Aside0.mk hGn
  have HG2 := Aside0.mk hG63
  have hG64 : G ≤ 9223372036854775807 := by unfold maxLen at hG63; exact hG63
  have hni : (n : Int) ≤ 1000000 := by omega
  have hn0 : (0 : Int) < (n : Int) := by omega
  clear hold hG hz hG63
  go_enter Tryd.func66, Tryd.ntmps66
  go_wp2_with (at_builtin; refine Lib.wpList_append_run _ rfl _ _ _ _ rfl _ _ rfl rfl _ _ (hrz _) ?_)
  all_goals go_ret
  all_goals
    refine ⟨_, rfl, ⟨by simp [nums], .inr ⟨w.heap.size, G, _, rfl, Nat.le_refl _, alloc_self w _, Nat.zero_le _, HG2.out, ?_, by simp [nums]⟩⟩, below_drew (below_alloc (Below.refl _ _) _)⟩
    rw [Array.size_append, size_zeroCells, size_zeroCells]
    have := HG1.out
    show n * 1 + (G - n) * 1 = G * 1
    omega
end Go.Proofs.YtdphifihneccoaaDoor.My

/- The walk of slices.Concat of numbers. -/
namespace Go.Proofs.YtdphifihneccoaaDoor.My
open Go.RowKit Go.Proofs.YtdphifihneccoaaDoorW.PrintWords Go.Proofs.YtdphifihneccoaaDoorW.PrintLast Go.Proofs.YtdphifihneccoaaDoorW.PrintMore
set_option maxRecDepth 100000
set_option linter.unusedVariables false
set_option linter.unusedSimpArgs false

/-- The first so many of them, behind one another. -/
def cat (xs : List (List Int)) (i : Nat) : List Int := (xs.take i).flatten
theorem cat_succ (xs : List (List Int)) (i : Nat) (h : i < xs.length) : cat xs (i + 1) = cat xs i ++ xs.getD i [] := by
  unfold cat
  rw [List.take_add_one, List.getElem?_eq_getElem h, List.flatten_append, List.getD_eq_getElem?_getD, List.getElem?_eq_getElem h]
  simp
theorem cat_all (xs : List (List Int)) : cat xs xs.length = xs.flatten := by unfold cat; rw [List.take_length]
theorem cat_le (xs : List (List Int)) : ∀ d i, i + d = xs.length → (cat xs i).length ≤ xs.flatten.length
  | 0, i, h => by rw [show i = xs.length by omega, cat_all]; exact Nat.le_refl _
  | d + 1, i, h => by
    have := cat_le xs d (i + 1) (by omega)
    rw [cat_succ xs i (by omega), List.length_append] at this
    omega
set_option maxHeartbeats 4000000 in
set_option maxRecDepth 100000 in
theorem concat_calls (w : World) (gA : Nat) (n : Nat) (xs : List (List Int)) (F : List Int) (hF : xs.flatten = F) (hl : xs.length = n) (hn : n ≤ 1000) (ht : F.length ≤ 100000) (h0 : 0 < F.length)
    (hA : ∀ i, i < n → ∃ A c, w.cell? ⟨gA, i, none⟩ = some (.slice A (xs.getD i []).length c) ∧ (Kd.int .i64).C w A (xs.getD i []).length (xs.getD i [])) :
    Calls Tryd.prog 61 #[.slice (some ⟨gA, 0, none⟩) n n] w fun e w' => ∃ v, e = .returned v ∧ w'.ownsRow w.heap.size 3 1 v F.length (nums .i64 F) ∧ Below w.heap.size w w' := by
  have HG : Aside0 (∀ wx, Calls Tryd.prog 66 #[.slice none 0 0, .int .i64 (F.length : Nat)] wx fun e w' => ∃ v, e = .returned v ∧ w'.ownsRow wx.heap.size 3 1 v 0 (nums .i64 []) ∧ Below wx.heap.size wx w') := ⟨fun wx => grow_calls wx _ h0 (by omega)⟩
  have HA := Aside0.mk hA
  have HL := Aside0.mk hl
  have HT := Aside0.mk ht
  have HF := Aside0.mk hF
  have hni : (n : Int) ≤ 1000 := by omega
  clear hA hl ht h0 hF
  go_enter Tryd.func61, Tryd.ntmps61
  go_wp2_with fail
  go_loopg [3, 11] n (fun kq v3 v11 wr => ∃ i : Nat, v3 = .int .i64 ((cat xs i).length : Nat) ∧ v11 = .int .i64 i ∧ i ≤ n ∧ Aside0 (kq = n - i) ∧ Aside0 (wr = w))
  case atStart => exact ⟨0, rfl, rfl, Nat.zero_le _, ⟨rfl⟩, ⟨rfl⟩⟩
  case round =>
    obtain ⟨i, rfl, rfl, hi, HK, HW⟩ := hrel
    have hw := HW.out.symm
    subst hw
    by_cases hlt : i < n
    · have hlt' : (i : Int) < (n : Int) := by omega
      obtain ⟨A1, c1, hc1, _⟩ := HA.out i hlt
      have hs := cat_succ xs i (by rw [HL.out]; exact hlt)
      have hle := cat_le xs (xs.length - (i + 1)) (i + 1) (by rw [HL.out]; omega)
      have hlen : (cat xs (i + 1)).length = (cat xs i).length + (xs.getD i []).length := by rw [hs, List.length_append]
      have HLen := Aside0.mk hlen
      have b1 : (((cat xs i).length : Nat) : Int) ≤ 100000 := by have h1 := HT.out; rw [← HF.out] at h1; omega
      have b2 : (((xs.getD i []).length : Nat) : Int) ≤ 100000 := by have h1 := HT.out; rw [← HF.out] at h1; omega
      clear hs hle hlen
      generalize (cat xs i).length = a at *
      generalize hm : (xs.getD i []).length = m at *
      clear hm
      go_wp2_with fail
      have e1 : ((i : Int) + 1) = ((i + 1 : Nat) : Int) := by omega
      rw [e1]
      go_roundg (n - (i + 1))
      case measure => have := HK.out; omega
      case rel => exact ⟨i + 1, by rw [HLen.out]; rfl, rfl, hlt, ⟨rfl⟩, ⟨rfl⟩⟩
    · have hin : i = n := by omega
      subst hin
      have hlt' : ¬ (i : Int) < (i : Int) := by omega
      have hca : (cat xs i).length = F.length := by rw [← HL.out, cat_all, HF.out]
      rw [hca]
      have b1 : ((F.length : Nat) : Int) ≤ 100000 := by have := HT.out; omega
      clear hlt hca
      go_wp2_with (go_at_call 66; refine (HG.out _).mono ?_; rintro e w2 ⟨v2, rfl, ho2, hb2⟩; obtain ⟨A2, c2, rfl⟩ := own_slice ho2; replace ho2 := Aside0.mk ho2; replace hb2 := Aside0.mk hb2)
      go_loopg [6, 27] i (fun kq v6 v27 wx => ∃ (j : Nat) (A6 : Option Addr) (c6 : Nat), v6 = .slice A6 (cat xs j).length c6 ∧ v27 = .int .i64 j ∧ j ≤ i ∧ Aside0 (kq = i - j) ∧ Aside0 (wx.ownsRow w.heap.size 3 1 (.slice A6 (cat xs j).length c6) (cat xs j).length (nums .i64 (cat xs j))) ∧ Aside0 (Below w.heap.size w wx))
      case atStart => exact ⟨0, A2, c2, rfl, rfl, Nat.zero_le _, ⟨rfl⟩, ho2, hb2⟩
      case round =>
        obtain ⟨j, A6, c6, rfl, rfl, hj, HK2, HO, HB⟩ := hrel
        by_cases hlt : j < i
        · have hlt' : (j : Int) < (i : Int) := by omega
          obtain ⟨A1, c1, hc1, hC1⟩ := HA.out j hlt
          have hcx := pw_cell_below HB.out hc1
          have hs := cat_succ xs j (by rw [HL.out]; exact hlt)
          have hle := cat_le xs (xs.length - (j + 1)) (j + 1) (by rw [HL.out]; omega)
          rw [hs, List.length_append, HF.out] at hle
          have HH := Aside0.mk (And.intro (Kd.C_below hC1 HB.out) (Nat.le_trans hle HT.out))
          have HS := Aside0.mk hs
          clear hs hle hC1 hc1
          generalize xs.getD j [] = X at *
          generalize cat xs j = C at *
          go_wp2_with ((with_reducible refine gate_dst (N := 33) rfl ?_); refine print_append_row (w0 := w) w.heap.size rfl (.tmp 31) (.tmp 32) 54 3 .i64 8 rfl Tryd.underlying54 info_i64 (by decide) _ C X A1 _ c1 rfl rfl HO.out (reads_of_C HH.out.1) HB.out HB.out.size (by have := HH.out.2; omega) ?_; intro v7 w7 ho7 hb7 hg7 hk7; rw [← HS.out] at ho7; obtain ⟨A9, c9, rfl⟩ := own_slice ho7; replace ho7 := Aside0.mk ho7; replace hb7 := Aside0.mk hb7; clear hg7 hk7)
          have e1 : ((j : Int) + 1) = ((j + 1 : Nat) : Int) := by omega
          rw [e1]
          go_roundg (i - (j + 1))
          case measure => have := HK2.out; omega
          case rel => exact ⟨j + 1, A9, c9, rfl, rfl, hlt, ⟨rfl⟩, ho7, hb7⟩
        · have hji : j = i := by omega
          have hlt' : ¬ (j : Int) < (i : Int) := by omega
          have hcf : cat xs j = F := by rw [hji, ← HL.out, cat_all, HF.out]
          have HO2 : Aside0 (wr.ownsRow w.heap.size 3 1 (.slice A6 (cat xs j).length c6) F.length (nums .i64 F)) := ⟨by rw [← hcf]; exact HO.out⟩
          clear hcf hji
          go_wp2_with fail
          go_ret
          exact ⟨_, rfl, HO2.out, HB.out⟩
end Go.Proofs.YtdphifihneccoaaDoor.My

/- The walk of slices.Repeat of one number. -/
namespace Go.Proofs.YtdphifihneccoaaDoor.My
open Go.RowKit Go.Lib Go.Proofs.YtdphifihneccoaaDoor.PMul Go.Proofs.YtdphifihneccoaaDoorW.PrintWords Go.Proofs.YtdphifihneccoaaDoorW.PrintLast Go.Proofs.YtdphifihneccoaaDoorW.PrintMore
set_option maxRecDepth 100000
set_option linter.unusedVariables false
set_option linter.unusedSimpArgs false

/-- So many of one number, the others noughts. -/
def rep (v : Int) (k n : Nat) : List Int := List.replicate k v ++ List.replicate (n - k) 0
theorem rep_len (v : Int) (k n : Nat) (h : k ≤ n) : (rep v k n).length = n := by simp [rep]; omega
theorem rep_splice (v : Int) (k c n : Nat) (h : k + c ≤ n) : splice (nums .i64 (rep v k n)) k (nums .i64 (List.replicate c v)) = nums .i64 (rep v (k + c) n) := by
  unfold splice rep nums
  simp only [List.map_append, List.map_replicate, List.length_replicate]
  rw [List.take_left' (by simp), ← List.append_assoc, List.replicate_append_replicate]
  congr 1
  rw [List.drop_append, List.length_replicate, List.drop_eq_nil_of_le (by simp), List.nil_append, List.drop_replicate]
  congr 1
  omega
theorem add_zero' (a : Addr) : a.add 0 = a := by
  unfold Addr.add
  split <;> simp_all
set_option maxHeartbeats 2000000 in
theorem repeat_calls (w : World) (ad : Addr) (c : Nat) (v : Int) (n : Nat) (hx : w.cell? ad = some (.int .i64 v)) (h0 : 0 < n) (hn : n ≤ 1000000) (hm : bits_Mul.f 1 n = some (0, (n : Int))) :
    Calls Tryd.prog 62 #[.slice (some ad) 1 c, .int .i64 n] w fun e w' => ∃ g, e = .returned (.slice (some ⟨g, 0, none⟩) n n) ∧ w.heap.size ≤ g ∧ IRow w' g 3 (List.replicate n v) ∧ Below w.heap.size w w' := by
  have HM : Aside0 (∀ wx, Calls Tryd.prog 67 #[.int .u64 1, .int .u64 n] wx fun e w' => e = .returned (.tuple #[.int .u64 0, .int .u64 n]) ∧ Drawn0 wx w') := ⟨fun wx => bits_Mul.calls 1 n 0 n wx hm⟩
  have hni : (n : Int) ≤ 1000000 := by omega
  have hn0 : (0 : Int) < (n : Int) := by omega
  have mk : ∀ W : World, (Instr.makeSlice 54 (.int .i64 n) (.int .i64 n)).run Tryd.prog W = .ok (.slice (some ⟨W.heap.size, 0, none⟩) n n) (W.alloc (.cells (madeCells #[.int .i64 0] n) 3)) := fun W => make_ints n (by omega) W
  have HX := Aside0.mk hx
  clear hx hm
  go_enter Tryd.func62, Tryd.ntmps62
  have hsz : (Tryd.prog.info? 3).map (·.size) = some 1 := by
    obtain ⟨i0, hi, hz⟩ := Option.map_eq_some_iff.1 info_i64
    rw [hi]
    simp only [Prod.mk.injEq] at hz
    rw [Option.map_some, hz.2.1]
  have HSZ := Aside0.mk hsz
  have HMade : Aside0 (∀ W : World, (W.alloc (.cells (madeCells #[.int .i64 0] n) 3)).heap[W.heap.size]? = some (.cells (nums .i64 (rep v 0 n)).toArray 3 (0, 0))) := ⟨fun W => by
    rw [made_nums, alloc_self]
    simp [rep]⟩
  clear hsz
  go_upto_region 7 with (go_at_call 67; refine (HM.out _).mono ?_; rintro e w1 ⟨rfl, ⟨m1, rfl⟩⟩)
  have hrow := HMade.out (w.drewN m1)
  have hbel : Below w.heap.size w ((w.drewN m1).alloc (.cells (madeCells #[.int .i64 0] n) 3)) := below_alloc (pw_below_drewN (Below.refl _ _) m1) _
  have hcx := pw_cell_below hbel HX.out
  have hgg : (w.drewN m1).heap.size = w.heap.size := rfl
  rw [hgg] at hrow
  generalize (w.drewN m1).alloc (.cells (madeCells #[.int .i64 0] n) 3) = w2 at *
  have hfit : 0 + [Value.int .i64 v].length ≤ (nums .i64 (rep v 0 n)).length := by rw [nums_length, rep_len v 0 n (Nat.zero_le _)]; simp; omega
  have hmin : [Value.int .i64 v].length = Nat.min 1 n := by show 1 = Nat.min 1 n; simp [Nat.min_def]; omega
  have hone : ∀ x ∈ [Value.int .i64 v], x.oneCell' = true := by simp [Value.oneCell']
  have hsrc : ∀ (j : Nat) (x : Value), [Value.int .i64 v][j]? = some x → w2.cell? (ad.add j) = some x := by
    intro j x hj
    cases j with
    | zero => simp at hj; subst hj; rw [add_zero']; exact hcx
    | succ j => simp at hj
  have HH := Aside0.mk (And.intro hrow (And.intro hbel (And.intro hfit (And.intro hmin (And.intro hone hsrc)))))
  have HSp := Aside0.mk (rep_splice v 0 1 n (by omega))
  clear hrow hbel hcx hfit hmin hone hsrc hgg HMade mk
  generalize hg : w.heap.size = g at *
  have HG := Aside0.mk hg
  clear hg
  go_wp2_with ((with_reducible refine gate_dst (N := 33) rfl ?_); refine wpList_copy_splice rfl (.tmp 31) (.tmp 32) 54 54 rfl 3 Tryd.underlying54 HSZ.out (some ⟨g, 0, none⟩) (some ad) n n 1 c rfl rfl g 0 (nums .i64 (rep v 0 n)) 3 HH.out.1 [.int .i64 v] HH.out.2.2.2.1 (fun _ => ⟨rfl, ad, rfl, HH.out.2.2.2.2.2⟩) HH.out.2.2.1 HH.out.2.2.2.2.1 g w HH.out.2.1 (Nat.le_refl _) ?_; intro w3 hr3 hb3; have HR3 := Aside0.mk hr3; have HB3 := Aside0.mk hb3; clear hr3 hb3)
  have HR4 : Aside0 (w3.heap[g]? = some (.cells (nums .i64 (rep v 1 n)).toArray 3 (0, 0))) := ⟨by
    have h : w3.heap[g]? = some (.cells (splice (nums .i64 (rep v 0 n)) 0 [.int .i64 v]).toArray 3 (0, 0)) := HR3.out
    have h2 := HSp.out
    rw [Nat.zero_add] at h2
    rw [← h2]
    exact h⟩
  clear HR3 HH HSp
  go_loopg [8] n (fun kq v8 wr => ∃ k : Nat, v8 = .int .i64 k ∧ 1 ≤ k ∧ k ≤ n ∧ Aside0 (kq = n - k + 1) ∧ Aside0 (wr.heap[g]? = some (.cells (nums .i64 (rep v k n)).toArray 3 (0, 0))) ∧ Aside0 (Below g w wr))
  case atStart => exact ⟨1, rfl, Nat.le_refl _, h0, ⟨by omega⟩, HR4, HB3⟩
  case round =>
    obtain ⟨k, rfl, hk1, hk, HK, HR, HB⟩ := hrel
    by_cases hlt : k < n
    · have hlt' : (k : Int) < (n : Int) := by omega
      obtain ⟨q, hq⟩ : ∃ q, q = Nat.min k (n - k) := ⟨_, rfl⟩
      have hq1 : k + q ≤ n := by rw [hq]; simp only [Nat.min_def]; split <;> omega
      have hq2 : 1 ≤ q := by rw [hq]; simp only [Nat.min_def]; split <;> omega
      have hq3 : q ≤ k := by rw [hq]; simp only [Nat.min_def]; split <;> omega
      have hqi : (q : Int) ≤ 1000000 := by omega
      have hfit : k + (nums .i64 (List.replicate q v)).length ≤ (nums .i64 (rep v k n)).length := by rw [nums_length, nums_length, rep_len v k n hk, List.length_replicate]; exact hq1
      have hmin : (nums .i64 (List.replicate q v)).length = Nat.min k (n - k) := by rw [nums_length, List.length_replicate]; exact hq
      have hone : ∀ x ∈ nums .i64 (List.replicate q v), x.oneCell' = true := by
        intro x hx
        unfold nums at hx
        obtain ⟨y, _, rfl⟩ := List.mem_map.1 hx
        rfl
      have hsrc : ∀ (j : Nat) (x : Value), (nums .i64 (List.replicate q v))[j]? = some x → wr.cell? ((⟨g, 0, none⟩ : Addr).add j) = some x := by
        intro j x hj
        have hjl := (List.getElem?_eq_some_iff.1 hj).1
        rw [nums_length, List.length_replicate] at hjl
        rw [add_plain]
        have hrw : IRow wr g 3 (rep v k n) := HR.out
        rw [hrw.cell j (by rw [rep_len v k n hk]; omega)]
        rw [nums_at _ j (by rw [List.length_replicate]; exact hjl)] at hj
        rw [← hj]
        congr 2
        unfold rep
        rw [List.getD_eq_getElem?_getD, List.getElem?_append_left (by rw [List.length_replicate]; omega), List.getD_eq_getElem?_getD, List.getElem?_replicate, List.getElem?_replicate, if_pos (by omega), if_pos hjl]
      have HH := Aside0.mk (And.intro hfit (And.intro hmin (And.intro hone hsrc)))
      have HSp := Aside0.mk (rep_splice v k q n hq1)
      have HQ1 := Aside0.mk hq1
      have HQ2 := Aside0.mk hq2
      have HQL : Aside0 ((nums .i64 (List.replicate q v)).length = q) := ⟨by rw [nums_length, List.length_replicate]⟩
      clear hfit hmin hone hsrc hq hq1 hq2 hq3
      go_upto_region 9 with fail
      go_region_law (refine step_copy_splice rfl (.tmp 41) (.tmp 44) 54 54 rfl 3 Tryd.underlying54 HSZ.out (some ⟨g, k, none⟩) (some ⟨g, 0, none⟩) (n - k) (n - k) k n (by first | (simp [Act.eval, Act.put]; done) | (simp [Act.eval, Act.put]; omega)) (by first | (simp [Act.eval, Act.put]; done) | (simp [Act.eval, Act.put]; omega)) g k (nums .i64 (rep v k n)) 3 HR.out (nums .i64 (List.replicate q v)) HH.out.2.1 (fun _ => ⟨rfl, ⟨g, 0, none⟩, rfl, HH.out.2.2.2⟩) HH.out.1 HH.out.2.2.1 g w (below_drew HB.out) (Nat.le_refl _) ?_; intro w4 hr4 hb4; have HR5 := Aside0.mk hr4; have HB5 := Aside0.mk hb4; clear hr4 hb4)
      all_goals (go_wp2_with fail)
      all_goals
        have e1 : IntKind.i64.wrap ((k : Int) + ((nums .i64 (List.replicate q v)).length : Nat)) = ((k + q : Nat) : Int) := by rw [HQL.out, IntKind.wrap_i64]; have := HQ1.out; omega
        rw [e1]
        go_roundg (n - (k + q) + 1)
        case measure => have h1 := HK.out; have h2 := HQ1.out; have h3 := HQ2.out; omega
        case rel =>
          refine ⟨k + q, rfl, by have := HQ2.out; omega, HQ1.out, ⟨rfl⟩, ⟨?_⟩, HB5⟩
          have h : w4.heap[g]? = some (.cells (splice (nums .i64 (rep v k n)) k (nums .i64 (List.replicate q v))).toArray 3 (0, 0)) := HR5.out
          rw [HSp.out] at h
          exact h
    · have hkn : k = n := by omega
      have hlt' : ¬ (k : Int) < (n : Int) := by omega
      have HF : Aside0 (IRow wr g 3 (List.replicate n v)) := ⟨by
        have h := HR.out
        rw [hkn] at h
        have e : rep v n n = List.replicate n v := by unfold rep; simp
        rw [e] at h
        exact h⟩
      clear hkn
      go_wp2_with fail
      go_ret
      exact ⟨g, rfl, by rw [HG.out]; exact Nat.le_refl _, HF.out, by rw [HG.out]; exact HB.out⟩
end Go.Proofs.YtdphifihneccoaaDoor.My

/- The walk of huff.Fixed, and the document's. -/
namespace Go.Proofs.YtdphifihneccoaaDoor.My
open Go.RowKit Go.Proofs.YtdphifihneccoaaDoor.PMul Go.Proofs.YtdphifihneccoaaDoor.PInflateTells Go.Proofs.YtdphifihneccoaaDoorW.PrintWords Go.Proofs.YtdphifihneccoaaDoorW.PrintLast Go.Proofs.YtdphifihneccoaaDoorW.PrintMore
set_option maxRecDepth 100000
set_option linter.unusedVariables false
set_option linter.unusedSimpArgs false

def letters : List Int := List.replicate 144 8 ++ (List.replicate 112 9 ++ (List.replicate 24 7 ++ List.replicate 8 8))
def dists : List Int := List.replicate 30 5
def letV (u : Nat) : Int := if 144 ≤ u ∧ u < 256 then 9 else if 256 ≤ u ∧ u < 280 then 7 else 8
def upTo (v : Nat → Int) (n i : Nat) : List Int := (List.range n).map fun u => if u < i then v u else 0
theorem upTo_len (v : Nat → Int) (n i : Nat) : (upTo v n i).length = n := by simp [upTo]
theorem upTo_set (v : Nat → Int) (n i : Nat) (x : Int) (hx : x = v i) : (upTo v n i).set i x = upTo v n (i + 1) := by
  apply List.ext_getElem
  · simp [upTo]
  · intro j a b
    rw [List.getElem_set]
    simp only [upTo, List.getElem_map, List.getElem_range]
    split
    · next e => subst e; rw [if_pos (by omega), hx]
    · next e =>
      by_cases h : j < i
      · rw [if_pos h, if_pos (by omega)]
      · rw [if_neg h, if_neg (by omega)]
theorem upTo_more (v : Nat → Int) (n i : Nat) (h : n ≤ i) : upTo v n (i + 1) = upTo v n i := by
  unfold upTo
  apply List.map_congr_left
  intro u hu
  have := List.mem_range.1 hu
  rw [if_pos (by omega), if_pos (by omega)]
theorem fix_step (k i : Nat) (hi : i < 288) : crossdockref07_Fixed.l0 (k + 4) (upTo letV 288 i) (upTo (fun _ => 5) 30 i) (i : Int) = crossdockref07_Fixed.l0 k (upTo letV 288 (i + 1)) (upTo (fun _ => 5) 30 (i + 1)) ((i + 1 : Nat) : Int) := by
  have w1 : wrap64 ((i : Int) + 1) = ((i + 1 : Nat) : Int) := by unfold wrap64; omega
  have h3 : ∀ (X : List Int), X.length = 288 → ∀ b : Bool, (b = true → X.set i 7 = upTo letV 288 (i + 1)) → (b = false → X = upTo letV 288 (i + 1)) → crossdockref07_Fixed.j3 (k + 1) X (upTo (fun _ => 5) 30 i) (i : Int) b = crossdockref07_Fixed.l0 k (upTo letV 288 (i + 1)) (upTo (fun _ => 5) 30 (i + 1)) ((i + 1 : Nat) : Int) := by
    intro X hX b h1 h2
    simp only [crossdockref07_Fixed.j3, upTo_len, hX, Int.toNat_natCast, Option.bind_some, w1]
    by_cases h30 : i < 30
    · cases b with
      | true => rw [if_pos rfl, if_pos (by omega), if_pos (by omega), if_pos (by omega), if_pos (by omega), h1 rfl, upTo_set _ _ _ _ rfl]
      | false => rw [if_neg (by decide), if_pos (by omega), if_pos (by omega), if_pos (by omega), h2 rfl, upTo_set _ _ _ _ rfl]
    · cases b with
      | true => rw [if_pos rfl, if_pos (by omega), if_pos (by omega), if_neg (by omega), h1 rfl, upTo_more (fun _ => 5) 30 i (by omega)]
      | false => rw [if_neg (by decide), if_neg (by omega), h2 rfl, upTo_more (fun _ => 5) 30 i (by omega)]
  have h0 : ∀ k', crossdockref07_Fixed.l0 (k' + 1) (upTo letV 288 i) (upTo (fun _ => 5) 30 i) (i : Int) = crossdockref07_Fixed.j1 k' ((upTo letV 288 i).set i 8) (upTo (fun _ => 5) 30 i) (i : Int) (decide (144 ≤ i ∧ i < 256)) := by
    intro k'
    simp only [crossdockref07_Fixed.l0, upTo_len, Int.toNat_natCast, Option.bind_some]
    rw [if_pos (by omega), if_pos (by omega), if_pos (by omega)]
    by_cases h : 144 ≤ i
    · rw [if_pos (by omega), show decide ((i : Int) < 256) = decide (144 ≤ i ∧ i < 256) from decide_eq_decide.2 (by omega)]
    · rw [if_neg (by omega), show decide (144 ≤ i ∧ i < 256) = false from decide_eq_false (by omega)]
  rw [show k + 4 = (k + 3) + 1 from rfl, h0, show k + 3 = (k + 2) + 1 from rfl]
  have h1 : ∀ k', crossdockref07_Fixed.j1 (k' + 1) ((upTo letV 288 i).set i 8) (upTo (fun _ => 5) 30 i) (i : Int) (decide (144 ≤ i ∧ i < 256)) = crossdockref07_Fixed.j2 k' ((upTo letV 288 i).set i (if 144 ≤ i ∧ i < 256 then 9 else 8)) (upTo (fun _ => 5) 30 i) (i : Int) := by
    intro k'
    simp only [crossdockref07_Fixed.j1, List.length_set, upTo_len, Int.toNat_natCast, List.set_set]
    by_cases h : 144 ≤ i ∧ i < 256
    · rw [decide_eq_true h, if_pos rfl, if_pos (by omega), if_pos (by omega), if_pos h]
    · rw [decide_eq_false h, if_neg (by decide), if_neg h]
  rw [h1, show k + 2 = (k + 1) + 1 from rfl]
  simp only [crossdockref07_Fixed.j2]
  by_cases h256 : 256 ≤ i
  · rw [if_pos (by omega)]
    refine h3 _ (by simp [upTo_len]) _ (fun hb => ?_) (fun hb => ?_)
    · have := of_decide_eq_true hb
      rw [List.set_set]
      exact upTo_set _ _ _ _ (by unfold letV; rw [if_neg (by omega), if_pos (by omega)])
    · have := of_decide_eq_false hb
      rw [if_neg (by omega)]
      exact upTo_set _ _ _ _ (by unfold letV; rw [if_neg (by omega), if_neg (by omega)])
  · rw [if_neg (by omega)]
    refine h3 _ (by simp [upTo_len]) _ (fun hb => by cases hb) (fun hb => ?_)
    by_cases h : 144 ≤ i
    · rw [if_pos (by omega)]
      exact upTo_set _ _ _ _ (by unfold letV; rw [if_pos (by omega)])
    · rw [if_neg (by omega)]
      exact upTo_set _ _ _ _ (by unfold letV; rw [if_neg (by omega), if_neg (by omega)])
theorem fix_run (k : Nat) : ∀ d i, i + d = 288 → crossdockref07_Fixed.l0 (k + 4 * d + 1) (upTo letV 288 i) (upTo (fun _ => 5) 30 i) (i : Int) = some (upTo letV 288 288, upTo (fun _ => 5) 30 288)
  | 0, i, h => by
    obtain rfl : i = 288 := by omega
    simp only [crossdockref07_Fixed.l0]
    rw [if_neg (by decide)]
  | d + 1, i, h => by
    rw [show k + 4 * (d + 1) + 1 = (k + 4 * d + 1) + 4 by omega, fix_step _ i (by omega)]
    exact fix_run k d (i + 1) (by omega)
theorem letters_eq : upTo letV 288 288 = letters := by decide +kernel
theorem dists_eq : upTo (fun _ => 5) 30 288 = dists := by decide +kernel
theorem doc_fixed : crossdockref07_Fixed.f (0 + 4 * 288 + 1) = some (letters, dists) := by
  unfold crossdockref07_Fixed.f
  rw [if_pos (by decide), if_pos (by decide), ← letters_eq, ← dists_eq]
  have h := fix_run 0 288 0 rfl
  have e1 : upTo letV 288 0 = List.replicate 288 0 := by decide +kernel
  have e2 : upTo (fun _ => 5) 30 0 = List.replicate 30 0 := by decide +kernel
  rw [e1, e2] at h
  exact h
theorem mul144 : bits_Mul.f 1 ((144 : Nat) : Int) = some (0, ((144 : Nat) : Int)) := by decide +kernel
theorem mul112 : bits_Mul.f 1 ((112 : Nat) : Int) = some (0, ((112 : Nat) : Int)) := by decide +kernel
theorem mul24 : bits_Mul.f 1 ((24 : Nat) : Int) = some (0, ((24 : Nat) : Int)) := by decide +kernel
theorem mul8 : bits_Mul.f 1 ((8 : Nat) : Int) = some (0, ((8 : Nat) : Int)) := by decide +kernel
theorem mul30 : bits_Mul.f 1 ((30 : Nat) : Int) = some (0, ((30 : Nat) : Int)) := by decide +kernel
/-- Repeat of a number just laid. -/
theorem rep_calls (w : World) (v : Int) (n : Nat) (h0 : 0 < n) (hn : n ≤ 1000000) (hm : bits_Mul.f 1 n = some (0, (n : Int))) :
    Calls Tryd.prog 62 #[.slice (some ⟨w.heap.size, 0, none⟩) 1 1, .int .i64 n] (w.alloc (.cells #[.int .i64 v] 3)) fun e w' => ∃ g, e = .returned (.slice (some ⟨g, 0, none⟩) n n) ∧ w.heap.size ≤ g ∧ IRow w' g 3 (List.replicate n v) ∧ Below w.heap.size w w' := by
  have hb : Below w.heap.size w (w.alloc (.cells #[.int .i64 v] 3)) := below_alloc (Below.refl _ _) _
  refine (repeat_calls (w.alloc (.cells #[.int .i64 v] 3)) ⟨w.heap.size, 0, none⟩ 1 v n ?_ h0 hn hm).mono ?_
  · have h : IRow (w.alloc (.cells #[.int .i64 v] 3)) w.heap.size 3 [v] := alloc_self _ _
    exact h.cell 0 (by simp)
  · rintro e w' ⟨g, rfl, h1, h2, h3⟩
    exact ⟨g, rfl, Nat.le_trans hb.size h1, h2, below_then hb hb.size h3⟩
set_option maxHeartbeats 4000000 in
set_option maxRecDepth 100000 in
theorem fixed_calls (w : World) : Calls Tryd.prog 50 #[] w fun e w' => ∃ (A1 A2 : Option Addr) (c1 c2 : Nat), e = .returned (.tuple #[.slice A1 288 c1, .slice A2 30 c2]) ∧ (Kd.int .i64).C w' A1 288 letters ∧ (∃ g, A2 = some ⟨g, 0, none⟩ ∧ c2 = 30 ∧ w.heap.size ≤ g ∧ IRow w' g 3 dists) ∧ 288 ≤ c1 ∧ Below w.heap.size w w' := by
  have H1 : Aside0 (∀ wx, Calls Tryd.prog 62 #[.slice (some ⟨wx.heap.size, 0, none⟩) 1 1, .int .i64 144] (wx.alloc (.cells #[.int .i64 8] 3)) fun e w' => ∃ g, e = .returned (.slice (some ⟨g, 0, none⟩) 144 144) ∧ wx.heap.size ≤ g ∧ IRow w' g 3 (List.replicate 144 8) ∧ Below wx.heap.size wx w') := ⟨fun wx => rep_calls wx 8 144 (by decide) (by decide) mul144⟩
  have H2 : Aside0 (∀ wx, Calls Tryd.prog 62 #[.slice (some ⟨wx.heap.size, 0, none⟩) 1 1, .int .i64 112] (wx.alloc (.cells #[.int .i64 9] 3)) fun e w' => ∃ g, e = .returned (.slice (some ⟨g, 0, none⟩) 112 112) ∧ wx.heap.size ≤ g ∧ IRow w' g 3 (List.replicate 112 9) ∧ Below wx.heap.size wx w') := ⟨fun wx => rep_calls wx 9 112 (by decide) (by decide) mul112⟩
  have H3 : Aside0 (∀ wx, Calls Tryd.prog 62 #[.slice (some ⟨wx.heap.size, 0, none⟩) 1 1, .int .i64 24] (wx.alloc (.cells #[.int .i64 7] 3)) fun e w' => ∃ g, e = .returned (.slice (some ⟨g, 0, none⟩) 24 24) ∧ wx.heap.size ≤ g ∧ IRow w' g 3 (List.replicate 24 7) ∧ Below wx.heap.size wx w') := ⟨fun wx => rep_calls wx 7 24 (by decide) (by decide) mul24⟩
  have H4 : Aside0 (∀ wx, Calls Tryd.prog 62 #[.slice (some ⟨wx.heap.size, 0, none⟩) 1 1, .int .i64 8] (wx.alloc (.cells #[.int .i64 8] 3)) fun e w' => ∃ g, e = .returned (.slice (some ⟨g, 0, none⟩) 8 8) ∧ wx.heap.size ≤ g ∧ IRow w' g 3 (List.replicate 8 8) ∧ Below wx.heap.size wx w') := ⟨fun wx => rep_calls wx 8 8 (by decide) (by decide) mul8⟩
  have H5 : Aside0 (∀ wx, Calls Tryd.prog 62 #[.slice (some ⟨wx.heap.size, 0, none⟩) 1 1, .int .i64 30] (wx.alloc (.cells #[.int .i64 5] 3)) fun e w' => ∃ g, e = .returned (.slice (some ⟨g, 0, none⟩) 30 30) ∧ wx.heap.size ≤ g ∧ IRow w' g 3 (List.replicate 30 5) ∧ Below wx.heap.size wx w') := ⟨fun wx => rep_calls wx 5 30 (by decide) (by decide) mul30⟩
  go_enter Tryd.func50, Tryd.ntmps50
  go_wp2_with fail
  refine (H1.out _).mono ?_
  rintro e w1 ⟨g1, rfl, hg1, hr1, hb1⟩
  go_wp2_with fail
  refine (H2.out _).mono ?_
  rintro e w2 ⟨g2, rfl, hg2, hr2, hb2⟩
  go_wp2_with fail
  refine (H3.out _).mono ?_
  rintro e w3 ⟨g3, rfl, hg3, hr3, hb3⟩
  go_wp2_with fail
  refine (H4.out _).mono ?_
  rintro e w4 ⟨g4, rfl, hg4, hr4, hb4⟩
  have q1 := ((hr1.below hb2).below hb3).below hb4
  have q2 := (hr2.below hb3).below hb4
  have q3 := hr3.below hb4
  have HB := Aside0.mk (below_then (below_then (below_then hb1 hb1.size hb2) (Nat.le_trans hb1.size hb2.size) hb3) (Nat.le_trans (Nat.le_trans hb1.size hb2.size) hb3.size) hb4)
  have HQ := Aside0.mk (And.intro q1 (And.intro q2 (And.intro q3 hr4)))
  clear hr1 hr2 hr3 hr4 hb1 hb2 hb3 hb4 q1 q2 q3 hg1 hg2 hg3 hg4
  have HA : Aside0 (∀ i, i < 4 → ∃ (A : Option Addr) (c : Nat), (w4.alloc (.cells #[.slice (some ⟨g1, 0, none⟩) 144 144, .slice (some ⟨g2, 0, none⟩) 112 112, .slice (some ⟨g3, 0, none⟩) 24 24, .slice (some ⟨g4, 0, none⟩) 8 8] 54)).cell? ⟨w4.heap.size, i, none⟩ = some (.slice A ([List.replicate 144 8, List.replicate 112 9, List.replicate 24 7, List.replicate 8 (8 : Int)].getD i []).length c) ∧ (Kd.int .i64).C (w4.alloc (.cells #[.slice (some ⟨g1, 0, none⟩) 144 144, .slice (some ⟨g2, 0, none⟩) 112 112, .slice (some ⟨g3, 0, none⟩) 24 24, .slice (some ⟨g4, 0, none⟩) 8 8] 54)) A ([List.replicate 144 8, List.replicate 112 9, List.replicate 24 7, List.replicate 8 (8 : Int)].getD i []).length ([List.replicate 144 8, List.replicate 112 9, List.replicate 24 7, List.replicate 8 (8 : Int)].getD i [])) := ⟨fun i hi => by
    have hbe := below_alloc (Below.refl w4.heap.size w4) (.cells #[.slice (some ⟨g1, 0, none⟩) 144 144, .slice (some ⟨g2, 0, none⟩) 112 112, .slice (some ⟨g3, 0, none⟩) 24 24, .slice (some ⟨g4, 0, none⟩) 8 8] 54)
    have hc := blk_cell (alloc_self w4 (.cells #[.slice (some ⟨g1, 0, none⟩) 144 144, .slice (some ⟨g2, 0, none⟩) 112 112, .slice (some ⟨g3, 0, none⟩) 24 24, .slice (some ⟨g4, 0, none⟩) 8 8] 54))
    have : i = 0 ∨ i = 1 ∨ i = 2 ∨ i = 3 := by omega
    rcases this with rfl | rfl | rfl | rfl
    · exact ⟨_, _, hc 0, by have := (HQ.out.1.below hbe).reads (by simp); exact this⟩
    · exact ⟨_, _, hc 1, by have := (HQ.out.2.1.below hbe).reads (by simp); exact this⟩
    · exact ⟨_, _, hc 2, by have := (HQ.out.2.2.1.below hbe).reads (by simp); exact this⟩
    · exact ⟨_, _, hc 3, by have := (HQ.out.2.2.2.below hbe).reads (by simp); exact this⟩⟩
  have HC := Aside0.mk (concat_calls _ w4.heap.size 4 [List.replicate 144 8, List.replicate 112 9, List.replicate 24 7, List.replicate 8 (8 : Int)] letters rfl rfl (by decide) (by decide +kernel) (by decide +kernel) HA.out)
  have hll : letters.length = 288 := by decide +kernel
  have HB4 := Aside0.mk (below_then HB.out HB.out.size (below_alloc (Below.refl w4.heap.size w4) (.cells #[.slice (some ⟨g1, 0, none⟩) 144 144, .slice (some ⟨g2, 0, none⟩) 112 112, .slice (some ⟨g3, 0, none⟩) 24 24, .slice (some ⟨g4, 0, none⟩) 8 8] 54)))
  rw [hll] at HC
  clear hll HA HQ H1 H2 H3 H4
  go_wp2_with fail
  refine (HC.out).mono ?_
  rintro e w5 ⟨v5, rfl, ho5, hb5⟩
  obtain ⟨A5, c5, rfl, hc5, hC5⟩ := own_slice' ho5
  have HB5 := Aside0.mk (below_then HB4.out HB4.out.size hb5)
  have HC5 := Aside0.mk hC5
  clear ho5 hb5 hC5
  go_wp2_with fail
  refine (H5.out _).mono ?_
  rintro e w6 ⟨g6, rfl, hg6, hr6, hb6⟩
  have HB6 := Aside0.mk (below_then HB5.out HB5.out.size hb6)
  have HC6 := Aside0.mk (And.intro (Kd.C_below HC5.out hb6) hr6)
  have HH := Aside0.mk hc5
  have HG6 := Aside0.mk (Nat.le_trans HB5.out.size hg6)
  clear hg6 hr6 hb6 hc5
  go_wp2_with fail
  go_ret2
  exact ⟨A5, _, c5, 30, rfl, HC6.out.1, ⟨g6, rfl, rfl, HG6.out, HC6.out.2⟩, HH.out, HB6.out⟩
end Go.Proofs.YtdphifihneccoaaDoor.My

/- The walks of bits.Writer. -/
namespace Go.Proofs.YtdphifihneccoaaDoor.My
open Go.RowKit Go.Proofs.YtdphifihneccoaaDoorW.PrintWords Go.Proofs.YtdphifihneccoaaDoorW.PrintLast Go.Proofs.YtdphifihneccoaaDoorW.PrintMore
set_option maxRecDepth 100000

/-- What a call on a writer has turned: its block, its text's row. -/
structure Grew (w w' : World) (g : Nat) (v v' : Value) : Prop where
  os : w'.os = w.os
  tape : w'.tape = w.tape
  output : w'.output = w.output
  keep : KeepBut w w' g v.ownBlock
  at_ : v'.ownBlock = v.ownBlock ∨ ∃ b, v'.ownBlock = some b ∧ w.heap.size ≤ b
theorem Grew.refl (w : World) (g : Nat) (v : Value) : Grew w w g v v := ⟨rfl, rfl, rfl, KeepBut.refl _ _ _, .inl rfl⟩
theorem Grew.trans {w w1 w2 : World} {g : Nat} {v v1 v2 : Value} (h : Grew w w1 g v v1) (k : Grew w1 w2 g v1 v2) : Grew w w2 g v v2 :=
  ⟨k.os.trans h.os, k.tape.trans h.tape, k.output.trans h.output, h.keep.trans k.keep h.at_, by
    rcases k.at_ with e | ⟨b, e, hb⟩
    · rw [e]; exact h.at_
    · exact .inr ⟨b, e, Nat.le_trans h.keep.1 hb⟩⟩
theorem Grew.drewN {w w1 : World} {g : Nat} {v v1 : Value} (h : Grew w w1 g v v1) (n : Nat) : Grew w (w1.drewN n) g v v1 := ⟨h.os, h.tape, h.output, ⟨h.keep.1, h.keep.2⟩, h.at_⟩
theorem Grew.cut {w w1 : World} {g : Nat} {v v1 : Value} (h : Grew w.drew w1 g v v1) : Grew w w1 g v v1 := ⟨h.os, h.tape, h.output, ⟨h.keep.1, h.keep.2⟩, h.at_⟩
theorem Grew.drew {w w1 : World} {g : Nat} {v v1 : Value} (h : Grew w w1 g v v1) : Grew w w1.drew g v v1 := ⟨h.os, h.tape, h.output, ⟨h.keep.1, h.keep.2⟩, h.at_⟩
theorem Grew.set {w w1 : World} {g : Nat} {v v1 : Value} (h : Grew w w1 g v v1) (j : Nat) (u : Value) : Grew w (w1.setCell ⟨g, j, none⟩ u) g v v1 := ⟨h.os, h.tape, h.output, h.keep.set_ j u, h.at_⟩
end Go.Proofs.YtdphifihneccoaaDoor.My

/- The walk of bits.Writer.put. -/
namespace Go.Proofs.YtdphifihneccoaaDoor.My
open Go.RowKit Go.Proofs.YtdphifihneccoaaDoorW.PrintWords Go.Proofs.YtdphifihneccoaaDoorW.PrintLast Go.Proofs.YtdphifihneccoaaDoorW.PrintMore
set_option maxRecDepth 100000

end Go.Proofs.YtdphifihneccoaaDoor.My

/- The walks of bits.Writer: fits, asks, Put, NewWriter, Align, Len. -/
namespace Go.Proofs.YtdphifihneccoaaDoor.My
open Go.RowKit Go.Proofs.YtdphifihneccoaaDoorW.PrintWords Go.Proofs.YtdphifihneccoaaDoorW.PrintLast Go.Proofs.YtdphifihneccoaaDoorW.PrintMore
set_option maxRecDepth 100000

theorem bitLenAux_le : ∀ f n x : Nat, x < 2 ^ f → (Lib.bitLenAux f x ≤ n ↔ x < 2 ^ n)
  | 0, n, x, h => by simp at h; subst h; simp [Lib.bitLenAux, Nat.two_pow_pos]
  | f + 1, n, x, h => by
    unfold Lib.bitLenAux
    by_cases h0 : x = 0
    · subst h0; simp [Nat.two_pow_pos]
    · rw [if_neg h0]
      cases n with
      | zero => constructor <;> intro h1 <;> simp at h1 ⊢ <;> omega
      | succ n =>
        have := bitLenAux_le f n (x / 2) (by rw [Nat.pow_succ] at h; omega)
        rw [Nat.pow_succ 2 n]
        constructor
        · intro h1; have := this.1 (by omega); omega
        · intro h1; have := this.2 (by omega); omega
theorem bitLen_le (x n : Nat) (h : x < 4294967296) : (Lib.bitLen x ≤ n ↔ x < 2 ^ n) := bitLenAux_le 64 n x (by omega)

/-- So many bits are a number's. -/
def inW (n : Int) : Bool := decide (0 ≤ n ∧ n ≤ 32)
/-- A number has so many bits. -/
def okW (x : Nat) (n : Int) : Bool := decide (0 ≤ n ∧ n ≤ 32 ∧ x < 2 ^ n.toNat)
theorem okW_iff (x : Nat) (n : Int) (h : x < 4294967296) : okW x n = (inW n && decide ((Lib.bitLen x : Int) ≤ n)) := by
  unfold okW inW
  by_cases h0 : 0 ≤ n
  · obtain ⟨m, rfl⟩ := Int.eq_ofNat_of_zero_le h0
    have := bitLen_le x m h
    by_cases h1 : (m : Int) ≤ 32
    · simp [h1, ← this]
    · simp [h1]
  · simp [h0]

theorem fitsw_calls (n : Int) (w : World) : Calls Tryd.prog 56 #[.int .i64 n] w fun e w' => e = .returned (.bool (inW n)) ∧ w = w' := by
  by_cases h1 : 0 ≤ n
  · by_cases h2 : n ≤ 32
    · rw [show inW n = true from decide_eq_true ⟨h1, h2⟩]
      go_enter Tryd.func56, Tryd.ntmps56
      go_wp2
      go_ret
      exact ⟨rfl, rfl⟩
    · rw [show inW n = false from decide_eq_false fun h => h2 h.2]
      go_enter Tryd.func56, Tryd.ntmps56
      go_wp2
      go_ret
      exact ⟨rfl, rfl⟩
  · rw [show inW n = false from decide_eq_false fun h => h1 h.1]
    go_enter Tryd.func56, Tryd.ntmps56
    go_wp2
    go_ret
    exact ⟨rfl, rfl⟩

/-- What asks answers. -/
def askE (x : Nat) (n : Int) : Option Int := if okW x n then none else some 1
end Go.Proofs.YtdphifihneccoaaDoor.My

/- The walk of slices.Clone of bytes. -/
namespace Go.Proofs.YtdphifihneccoaaDoor.My
open Go.RowKit Go.Proofs.YtdphifihneccoaaDoorW.PrintWords Go.Proofs.YtdphifihneccoaaDoorW.PrintLast Go.Proofs.YtdphifihneccoaaDoorW.PrintMore
set_option maxRecDepth 100000

theorem clone_calls (A : Option Addr) (n c : Nat) (xs : List Int) (w : World) (hx : (Kd.int .u8).C w A n xs) (hn : n ≤ 140737488355328) (hl : xs.length = n) (hcap : A = none → n = 0 ∧ c = 0) :
    Calls Tryd.prog 26 #[.slice A n c] w fun e w' => ∃ v', e = .returned v' ∧ w'.ownsRow w.heap.size 5 1 v' xs.length (nums .u8 xs) ∧ Below w.heap.size w w' := by
  cases A with
  | none =>
    obtain ⟨rfl, rfl⟩ := hcap rfl
    have : xs = [] := List.eq_nil_of_length_eq_zero hl
    subst this
    clear hx hl hcap hn
    have i1 : ∀ w : World, (binOp .eql 22 (.slice none 0 0) (.slice none 0 0)).run Tryd.prog w = .ok (.bool true) w := fun w => by rfl
    go_enter Tryd.func26, Tryd.ntmps26
    go_wp2
    go_ret
    exact ⟨_, rfl, own_nil _ _ _ _, Below.refl _ _⟩
  | some ad =>
    have HX := Aside0.mk hx
    have HL := Aside0.mk hl
    clear hx hcap hl
    have i1 : ∀ w : World, (binOp .eql 22 (.slice (some ad) n c) (.slice none 0 0)).run Tryd.prog w = .ok (.bool false) w := fun w => by rfl
    go_enter Tryd.func26, Tryd.ntmps26
    go_wp2_with ((with_reducible refine gate_dst (N := 7) rfl ?_); refine print_append_row (w0 := w) w.heap.size rfl (.tmp 5) (.tmp 6) 22 5 .u8 1 rfl Tryd.underlying22 info_u8 (by decide) _ [] xs (some ad) _ c rfl rfl (own_lit w w.heap.size 5 .u8 [] (Nat.le_refl _) (by decide)) (reads_of_C (Kd.C_alloc HX.out _)) (below_alloc (Below.refl _ _) _) (by simp) (by simp; omega) ?_; intro v1 w2 ho hb hg hk; clear hg hk; rw [List.nil_append] at ho; have HB2 := Aside0.mk hb; have HO := Aside0.mk ho; clear hb ho)
    go_ret
    exact ⟨_, rfl, HO.out, HB2.out⟩
end Go.Proofs.YtdphifihneccoaaDoor.My

/- The walk of bits.Reader.Peek, and the readers' small ones. -/
namespace Go.Proofs.YtdphifihneccoaaDoor.My
open Go.RowKit Go.Proofs.YtdphifihneccoaaDoorW.PrintWords Go.Proofs.YtdphifihneccoaaDoorW.PrintLast Go.Proofs.YtdphifihneccoaaDoorW.PrintMore
set_option maxRecDepth 100000

/-- A reader of L bytes, the number V, that is at a bit. -/
structure Rdr (w : World) (B g : Nat) (v : Value) (V L at_ : Nat) : Prop where
  blk : w.heap[g]? = some (.cells #[v, .int .i64 at_] 65 (0, 0))
  row : w.ownsRow B 5 1 v L (nums .u8 (leB V L))
  lt : V < 2 ^ (8 * L)
  le : at_ ≤ 8 * L
  bg : B ≤ g
theorem Rdr.cells {w : World} {B g : Nat} {v : Value} {V L a : Nat} (k : Rdr w B g v V L a) : w.cell? ⟨g, 0, none⟩ = some v ∧ w.cell? ⟨g, 1, none⟩ = some (.int .i64 a) ∧ w.frozen? ⟨g, 1, none⟩ = false := by
  refine ⟨?_, ?_, ?_⟩ <;> first | (rw [blk_cell k.blk]; rfl) | exact blk_frozen k.blk _
theorem Rdr.drewN {w : World} {B g : Nat} {v : Value} {V L a : Nat} (k : Rdr w B g v V L a) (n : Nat) : Rdr (w.drewN n) B g v V L a := ⟨k.blk, pw_own_below k.row (pw_below_drewN (Below.refl _ _) n), k.lt, k.le, k.bg⟩
theorem Rdr.drew {w : World} {B g : Nat} {v : Value} {V L a : Nat} (k : Rdr w B g v V L a) : Rdr w.drew B g v V L a := ⟨k.blk, pw_own_below k.row (below_drew (Below.refl _ _)), k.lt, k.le, k.bg⟩
theorem Rdr.ne {w : World} {B g : Nat} {v : Value} {V L a : Nat} (k : Rdr w B g v V L a) : some g ≠ v.ownBlock := own_ne k.row k.blk (by decide)
theorem Rdr.set {w : World} {B g : Nat} {v : Value} {V L a : Nat} (k : Rdr w B g v V L a) (a' : Nat) (h : a' ≤ 8 * L) : Rdr (w.setCell ⟨g, 1, none⟩ (.int .i64 a')) B g v V L a' :=
  ⟨by have := blk_set k.blk 1 (.int .i64 a'); simpa using this, own_setCell k.row k.ne _, k.lt, h, k.bg⟩

theorem left_calls (w : World) (B g : Nat) (v : Value) (V L a : Nat) (hr : Rdr w B g v V L a) (hL : L ≤ 100000000000000) :
    Calls Tryd.prog 57 #[.pointer (some ⟨g, 0, none⟩)] w fun e w' => e = .returned (.int .i64 (8 * L - a : Nat)) ∧ ∃ m, w' = w.drewN m := by
  obtain ⟨c0, c1, f1⟩ := hr.cells
  obtain ⟨A, c, rfl⟩ := own_slice hr.row
  have hle := hr.le
  have e : ((8 * L - a : Nat) : Int) = 8 * (L : Int) - (a : Int) := by omega
  rw [e]
  have h1 : (a : Int) ≤ 8 * (L : Int) := by omega
  have h2 : (L : Int) ≤ 100000000000000 := by omega
  clear e hr
  go_enter Tryd.func57, Tryd.ntmps57
  go_wp2_with fail
  first | go_region | skip
  first | go_wp2_with fail | skip
  go_ret
  first
    | exact ⟨rfl, 0, (World.drewN_zero _).symm⟩
    | exact ⟨rfl, 1, rfl⟩
    | exact ⟨rfl, _, rfl⟩

set_option maxRecDepth 100000 in
theorem peek_calls (w : World) (B g : Nat) (v : Value) (V L a : Nat) (n : Nat) (hn : n ≤ 32) (hr : Rdr w B g v V L a) (hL : L ≤ 100000000000000) :
    Calls Tryd.prog 58 #[.pointer (some ⟨g, 0, none⟩), .int .i64 n] w fun e w' => e = .returned (.tuple #[.int .u32 (V / 2 ^ a % 2 ^ (min n (8 * L - a)) : Nat), .int .i64 (min n (8 * L - a) : Nat)]) ∧ ∃ m, w' = w.drewN m := by
  have HF : Aside0 (∀ w : World, Calls Tryd.prog 56 #[.int .i64 n] w fun e w' => e = .returned (.bool true) ∧ w = w') := ⟨fun w => (show inW n = true from decide_eq_true ⟨by omega, by omega⟩) ▸ fitsw_calls n w⟩
  have HLf : Aside0 (Calls Tryd.prog 57 #[.pointer (some ⟨g, 0, none⟩)] w fun e w' => e = .returned (.int .i64 (8 * L - a : Nat)) ∧ ∃ m, w' = w.drewN m) := ⟨left_calls w B g v V L a hr hL⟩
  obtain ⟨c0, c1, f1⟩ := hr.cells
  obtain ⟨A, c, rfl⟩ := own_slice hr.row
  obtain ⟨A', c', e', hcc, hC⟩ := own_slice' hr.row
  cases e'
  have hle := hr.le
  have HC := Aside0.mk hC
  obtain ⟨k, hk⟩ : ∃ k, k = min n (8 * L - a) := ⟨_, rfl⟩
  have hmin : min (n : Int) ((8 * L - a : Nat) : Int) = (k : Int) := by omega
  have hk32 : (k : Int) ≤ 32 := by omega
  rw [← hk]
  have HK := Aside0.mk (show a + k ≤ 8 * L by omega)
  obtain ⟨p, hp⟩ : ∃ p, p = a / 8 := ⟨_, rfl⟩
  obtain ⟨r, hr8⟩ : ∃ r, r = a % 8 := ⟨_, rfl⟩
  obtain ⟨q, hq⟩ : ∃ q, q = min (p + 5) L := ⟨_, rfl⟩
  have hd : (a : Int) / 8 = (p : Int) := by omega
  have hm : (a : Int).tmod 8 = (r : Int) := by rw [Int.tmod_eq_emod_of_nonneg (by omega)]; omega
  have hmin2 : min ((p : Int) + 5) (L : Int) = (q : Int) := by omega
  have hpq := Aside0.mk (show p ≤ q ∧ q ≤ L ∧ q ≤ p + 5 ∧ a = 8 * p + r ∧ r < 8 ∧ r + k ≤ 8 * (q - p) by omega)
  have hqL : (q : Int) ≤ 100000000000000 := by omega
  have hpL : (p : Int) ≤ 100000000000000 := by omega
  have h1 : (a : Int) ≤ 8 * (L : Int) := by omega
  have h2 : (L : Int) ≤ 100000000000000 := by omega
  generalize hlf : 8 * L - a = lf at *
  clear hr hC hk hle hlf hp hr8 hq
  obtain ⟨res, hres⟩ : ∃ res, res = V / 2 ^ a % 2 ^ k := ⟨_, rfl⟩
  have HE : Aside0 (res < 4294967296) := ⟨hres ▸ Nat.lt_of_lt_of_le (Nat.mod_lt _ (Nat.two_pow_pos _)) (Nat.pow_le_pow_right (n := 2) (by decide) (show k ≤ 32 by omega))⟩
  rw [← hres]
  have HRES := Aside0.mk hres
  clear hres
  go_enter Tryd.func58, Tryd.ntmps58
  go_wp2_with (first
    | (go_at_call 56; refine (HF.out _).mono ?_; rintro e w' ⟨rfl, rfl⟩)
    | (go_at_call 57; refine HLf.out.mono ?_; rintro e w' ⟨rfl, m1, rfl⟩))
  go_loopg [8, 9] (q - p) (fun kq v8 v9 wr => ∃ (i h : Nat), v8 = .int .u64 h ∧ v9 = .int .i64 ((i : Int) - 1) ∧ i ≤ q ∧ p ≤ i ∧ Aside0 (kq = i - p ∧ h = V / 2 ^ (8 * i) % 2 ^ (8 * (q - i))) ∧ Aside0 (∃ m, wr = w.drewN m))
  case atStart => exact ⟨q, 0, rfl, rfl, Nat.le_refl _, hpq.out.1, ⟨rfl, by simp [Nat.mod_one]⟩, ⟨_, rfl⟩⟩
  case round =>
    obtain ⟨i, h, rfl, rfl, hi, hpi, HI, HWr⟩ := hrel
    obtain ⟨m, rfl⟩ := HWr.out
    by_cases hgt : p < i
    · obtain ⟨j, rfl⟩ : ∃ j, i = j + 1 := ⟨i - 1, by omega⟩
      obtain ⟨ad, rfl, hcell⟩ := Kd.at_int HC.out (j : Int) (by omega) (by have := hpq.out; omega)
      rw [Int.toNat_natCast] at hcell
      have hx : rd (leB V L) (j : Int) = ((V / 2 ^ (8 * j) % 256 : Nat) : Int) := by unfold rd; rw [Int.toNat_natCast]; exact leB_getD _ _ _ (by have := hpq.out; omega)
      rw [hx] at hcell
      have hst := peek_step V j (q - (j + 1))
      rw [show q - (j + 1) + 1 = q - j by omega, ← HI.out.2] at hst
      have hx256 : V / 2 ^ (8 * j) % 256 < 256 := Nat.mod_lt _ (by decide)
      have hh32 : h < 2 ^ 32 := by
        rw [HI.out.2]
        exact Nat.lt_of_lt_of_le (Nat.mod_lt _ (Nat.two_pow_pos _)) (Nat.pow_le_pow_right (by decide) (by have := hpq.out; omega))
      generalize V / 2 ^ (8 * j) % 256 = x at *
      have hor := peek_or h x hh32 hx256
      have e1 : ((j + 1 : Nat) : Int) - 1 = (j : Int) := by omega
      have b1 : (p : Int) ≤ (j : Int) := by omega
      have b2 : (j : Int) < (L : Int) := by have := hpq.out; omega
      have b3 : (h : Int) < 4294967296 := by omega
      have b4 : (x : Int) < 256 := by omega
      have HS := Aside0.mk hst
      have HJ := Aside0.mk (show j ≤ q ∧ p ≤ j by omega)
      rw [e1]
      clear hx hst hh32 hx256 e1 hgt hpi hi
      go_wp2
      go_roundg (gk - 1)
      case measure => have := HI.out.1; omega
      case rel => exact ⟨j, h * 256 + x, by simp, rfl, HJ.out.1, HJ.out.2, ⟨by have := HI.out.1; omega, HS.out.symm⟩, HWr⟩
    · have ei : i = p := by omega
      subst ei
      have hh := HI.out.2
      have hend := peek_end V a i r k q hpq.out.2.2.2.1 hpq.out.2.2.2.2.2
      rw [← hh] at hend
      have hlt : h < 2 ^ 64 := by
        rw [hh]
        exact Nat.lt_of_lt_of_le (Nat.mod_lt _ (Nat.two_pow_pos _)) (Nat.pow_le_pow_right (by decide) (by have := hpq.out; omega))
      have hmask := peek_mask h r k hlt (by omega)
      rw [hend] at hmask
      rw [← HRES.out] at hmask
      have b1 : ((i : Int) - 1) < (i : Int) := by omega
      have br : (r : Int) < 8 := by have := hpq.out; omega
      clear hh hend hlt hgt hi hpi HI
      go_wp2_with fail
      go_region
      go_wp2_with fail
      go_ret2
      refine ⟨?_, _, rfl⟩
      show Ending.returned (.tuple #[.int .u32 (bits .and .u64 ((h : Int) / 2 ^ r) (IntKind.u64.wrap (IntKind.u64.wrap (2 ^ k) - 1)) % 4294967296), .int .i64 (k : Int)]) = _
      rw [mask_wrap k (by omega), hmask, show (res : Int) % 4294967296 = res by have := HE.out; omega]
end Go.Proofs.YtdphifihneccoaaDoor.My

/- The walks of bits.Reader: NewReader, At, Align, Bits. -/
namespace Go.Proofs.YtdphifihneccoaaDoor.My
open Go.RowKit Go.Proofs.YtdphifihneccoaaDoorW.PrintWords Go.Proofs.YtdphifihneccoaaDoorW.PrintLast Go.Proofs.YtdphifihneccoaaDoorW.PrintMore
set_option maxRecDepth 100000

/-- What a call on a reader has turned: its block alone. -/
structure Gone (w w' : World) (g : Nat) : Prop where
  os : w'.os = w.os
  tape : w'.tape = w.tape
  output : w'.output = w.output
  keep : KeepBut w w' g none
theorem Gone.refl (w : World) (g : Nat) : Gone w w g := ⟨rfl, rfl, rfl, KeepBut.refl _ _ _⟩
theorem Gone.trans {w w1 w2 : World} {g : Nat} (h : Gone w w1 g) (k : Gone w1 w2 g) : Gone w w2 g :=
  ⟨k.os.trans h.os, k.tape.trans h.tape, k.output.trans h.output, h.keep.trans k.keep (.inl rfl)⟩
theorem Gone.drewN {w w1 : World} {g : Nat} (h : Gone w w1 g) (n : Nat) : Gone w (w1.drewN n) g := ⟨h.os, h.tape, h.output, ⟨h.keep.1, h.keep.2⟩⟩
theorem Gone.drew {w w1 : World} {g : Nat} (h : Gone w w1 g) : Gone w w1.drew g := ⟨h.os, h.tape, h.output, ⟨h.keep.1, h.keep.2⟩⟩
theorem Gone.set {w w1 : World} {g : Nat} (h : Gone w w1 g) (j : Nat) (u : Value) : Gone w (w1.setCell ⟨g, j, none⟩ u) g := ⟨h.os, h.tape, h.output, h.keep.set_ j u⟩
theorem Gone.below {w0 w w1 : World} {B g : Nat} (h : Gone w w1 g) (hb : Below B w0 w) (hB : B ≤ w.heap.size) (hg : B ≤ g) : Below B w0 w1 :=
  ⟨h.os.trans hb.os, h.tape.trans hb.tape, h.output.trans hb.output, Nat.le_trans hb.size h.keep.1, fun k hk =>
    (h.keep.2 k (by omega) (by omega) (fun e => by cases e)).trans (hb.block k hk)⟩

theorem at_calls (w : World) (B g : Nat) (v : Value) (V L a : Nat) (hr : Rdr w B g v V L a) :
    Calls Tryd.prog 17 #[.pointer (some ⟨g, 0, none⟩)] w fun e w' => e = .returned (.int .i64 a) ∧ w' = w := by
  obtain ⟨c0, c1, f1⟩ := hr.cells
  clear hr
  go_enter Tryd.func17, Tryd.ntmps17
  go_wp2
  go_ret
  exact ⟨rfl, rfl⟩

theorem peekx_calls (g : Nat) (n : Int) (w : World) (h : inW n = false) :
    Calls Tryd.prog 58 #[.pointer (some ⟨g, 0, none⟩), .int .i64 n] w fun e w' => e = .returned (.tuple #[.int .u32 0, .int .i64 0]) ∧ w' = w := by
  have HF : Aside0 (∀ w : World, Calls Tryd.prog 56 #[.int .i64 n] w fun e w' => e = .returned (.bool false) ∧ w = w') := ⟨fun w => h ▸ fitsw_calls n w⟩
  clear h
  go_enter Tryd.func58, Tryd.ntmps58
  go_wp2_with (go_at_call 56; refine (HF.out _).mono ?_; rintro e w' ⟨rfl, rfl⟩)
  go_ret2
  exact ⟨rfl, rfl⟩

theorem ralign_calls (w : World) (B g : Nat) (v : Value) (V L a : Nat) (hr : Rdr w B g v V L a) (hL : L ≤ 100000000000000) :
    Calls Tryd.prog 42 #[.pointer (some ⟨g, 0, none⟩)] w fun e w' => e = .returned (.int .i64 ((8 - a % 8) % 8 : Nat)) ∧ Rdr w' B g v V L (a + (8 - a % 8) % 8) ∧ Gone w w' g := by
  obtain ⟨c0, c1, f1⟩ := hr.cells
  have hle := hr.le
  obtain ⟨d, hd⟩ : ∃ d, d = (8 - a % 8) % 8 := ⟨_, rfl⟩
  have hm : (a : Int).tmod 8 = ((a % 8 : Nat) : Int) := by rw [Int.tmod_eq_emod_of_nonneg (by omega)]; omega
  have hm2 : ((8 : Int) - ((a % 8 : Nat) : Int)).tmod 8 = (d : Int) := by rw [Int.tmod_eq_emod_of_nonneg (by omega)]; omega
  have hm3 : (8 : Int) - (a : Int).tmod 8 = 8 - ((a % 8 : Nat) : Int) := by rw [hm]
  rw [← hd]
  have hr8 : ((a % 8 : Nat) : Int) < 8 := by omega
  have h1 : (a : Int) ≤ 800000000000000 := by omega
  have h2 : (d : Int) ≤ 7 := by omega
  have HR := Aside0.mk (hr.set (a + d) (by omega))
  have HG := Aside0.mk ((Gone.refl w g).set 1 (.int .i64 (a + d : Nat)))
  have ep : ((a + d : Nat) : Int) = (a : Int) + (d : Int) := by omega
  rw [ep] at HR HG
  clear hr hle hd ep
  generalize a % 8 = r at *
  go_enter Tryd.func42, Tryd.ntmps42
  go_wp2
  go_ret
  first
    | exact ⟨rfl, HR.out, HG.out⟩
    | exact ⟨rfl, HR.out.drew, HG.out.drew⟩

/-- What Bits answers. -/
def bitsE (n : Int) (l : Nat) : Option Int := if inW n then (if n ≤ l then none else some 10) else some 1
def bitsX (V a l : Nat) (n : Int) : Nat := if (bitsE n l).isNone then V / 2 ^ a % 2 ^ n.toNat else 0
theorem rbits_calls (w : World) (B g : Nat) (v : Value) (V L a : Nat) (n : Int) (hr : Rdr w B g v V L a) (hL : L ≤ 100000000000000) :
    Calls Tryd.prog 40 #[.pointer (some ⟨g, 0, none⟩), .int .i64 n] w fun e w' => e = .returned (.tuple #[.int .u32 (bitsX V a (8 * L - a) n), errV (bitsE n (8 * L - a))]) ∧
      Rdr w' B g v V L (if (bitsE n (8 * L - a)).isNone then a + n.toNat else a) ∧ Gone w w' g := by
  have HLf : Aside0 (Calls Tryd.prog 57 #[.pointer (some ⟨g, 0, none⟩)] w fun e w' => e = .returned (.int .i64 (8 * L - a : Nat)) ∧ ∃ m, w' = w.drewN m) := ⟨left_calls w B g v V L a hr hL⟩
  have HF : Aside0 (∀ w : World, Calls Tryd.prog 56 #[.int .i64 n] w fun e w' => e = .returned (.bool (inW n)) ∧ w = w') := ⟨fun w => fitsw_calls n w⟩
  cases hf : inW n with
  | false =>
    have e1 : bitsE n (8 * L - a) = some 1 := by unfold bitsE; rw [hf]; rfl
    have e2 : bitsX V a (8 * L - a) n = 0 := by unfold bitsX; rw [e1]; rfl
    rw [e1, e2]
    have HR := Aside0.mk hr
    have HF : Aside0 (∀ w : World, Calls Tryd.prog 56 #[.int .i64 n] w fun e w' => e = .returned (.bool false) ∧ w = w') := ⟨fun w => hf ▸ fitsw_calls n w⟩
    clear hr e1 e2 hf
    go_enter Tryd.func40, Tryd.ntmps40
    go_wp2_with (go_at_call 56; refine (HF.out _).mono ?_; rintro e w' ⟨rfl, rfl⟩)
    go_ret2
    exact ⟨rfl, HR.out, Gone.refl _ _⟩
  | true =>
    have HF : Aside0 (∀ w : World, Calls Tryd.prog 56 #[.int .i64 n] w fun e w' => e = .returned (.bool true) ∧ w = w') := ⟨fun w => hf ▸ fitsw_calls n w⟩
    have hin : 0 ≤ n ∧ n ≤ 32 := of_decide_eq_true hf
    obtain ⟨k, rfl⟩ := Int.eq_ofNat_of_zero_le hin.1
    rw [Int.toNat_natCast]
    by_cases hl : k ≤ 8 * L - a
    · have e1 : bitsE (k : Int) (8 * L - a) = none := by unfold bitsE; rw [hf, if_pos rfl, if_pos (by omega)]
      have e2 : bitsX V a (8 * L - a) (k : Int) = V / 2 ^ a % 2 ^ k := by unfold bitsX; rw [e1]; rfl
      rw [e1, e2]
      have hp := peek_calls w B g v V L a k (by omega) hr hL
      rw [Nat.min_eq_left hl] at hp
      have HP : Aside0 (∀ m, Calls Tryd.prog 58 #[.pointer (some ⟨g, 0, none⟩), .int .i64 k] (w.drewN m) fun e w' => e = .returned (.tuple #[.int .u32 (V / 2 ^ a % 2 ^ k : Nat), .int .i64 k]) ∧ ∃ m', w' = w.drewN m') := by
        refine ⟨fun m => ?_⟩
        have hp := peek_calls (w.drewN m) B g v V L a k (by omega) (hr.drewN m) hL
        rw [Nat.min_eq_left hl] at hp
        refine hp.mono ?_
        rintro e w' ⟨rfl, m', rfl⟩
        exact ⟨rfl, m + m', by simp⟩
      obtain ⟨c0, c1, f1⟩ := hr.cells
      have hle := hr.le
      have h0 : ((k : Nat) : Int) ≤ ((8 * L - a : Nat) : Int) := by omega
      have HR : Aside0 (∀ m, Rdr ((w.drewN m).setCell ⟨g, 1, none⟩ (.int .i64 ((a : Int) + (k : Int)))) B g v V L (a + k)) := ⟨fun m => by
        have := (hr.drewN m).set (a + k) (by omega)
        rwa [show ((a + k : Nat) : Int) = (a : Int) + (k : Int) by omega] at this⟩
      have HG := Aside0.mk (Gone.refl w g)
      have h1 : (a : Int) ≤ 800000000000000 := by omega
      have h2 : (k : Int) ≤ 32 := by omega
      generalize V / 2 ^ a % 2 ^ k = res at *
      generalize 8 * L - a = l at *
      clear hr hle hf e1 e2 hp hin hl
      go_enter Tryd.func40, Tryd.ntmps40
      go_wp2_with (first
        | (go_at_call 56; refine (HF.out _).mono ?_; rintro e w' ⟨rfl, rfl⟩)
        | (go_at_call 57; refine HLf.out.mono ?_; rintro e w' ⟨rfl, m1, rfl⟩)
        | (go_at_call 58; refine (HP.out _).mono ?_; rintro e w' ⟨rfl, m2, rfl⟩))
      go_ret2
      first
        | exact ⟨rfl, HR.out _, (HG.out.drewN _).set _ _⟩
        | exact ⟨rfl, (HR.out _).drew, ((HG.out.drewN _).set _ _).drew⟩
    · have e1 : bitsE (k : Int) (8 * L - a) = some 10 := by unfold bitsE; rw [hf, if_pos rfl, if_neg (by omega)]
      have e2 : bitsX V a (8 * L - a) (k : Int) = 0 := by unfold bitsX; rw [e1]; rfl
      rw [e1, e2]
      have HR := Aside0.mk hr
      have h0 : ((8 * L - a : Nat) : Int) < ((k : Nat) : Int) := by omega
      generalize 8 * L - a = l at *
      clear hr hf e1 e2 hin hl
      go_enter Tryd.func40, Tryd.ntmps40
      go_wp2_with (first
        | (go_at_call 56; refine (HF.out _).mono ?_; rintro e w' ⟨rfl, rfl⟩)
        | (go_at_call 57; refine HLf.out.mono ?_; rintro e w' ⟨rfl, m1, rfl⟩))
      go_ret2
      exact ⟨rfl, HR.out.drewN _, (Gone.refl _ _).drewN _⟩
end Go.Proofs.YtdphifihneccoaaDoor.My

/- The walk of bits.NewReader, and of bits.Reader.Bytes. -/
namespace Go.Proofs.YtdphifihneccoaaDoor.My
open Go.RowKit Go.Proofs.YtdphifihneccoaaDoorW.PrintWords Go.Proofs.YtdphifihneccoaaDoorW.PrintLast Go.Proofs.YtdphifihneccoaaDoorW.PrintMore
set_option maxRecDepth 100000

theorem newReader_calls (A : Option Addr) (n c V : Nat) (w : World) (hx : (Kd.int .u8).C w A n (leB V n)) (hV : V < 2 ^ (8 * n)) (hn : n ≤ 100000000000000) (hcap : A = none → n = 0 ∧ c = 0) :
    Calls Tryd.prog 12 #[.slice A n c] w fun e w' => ∃ g v, e = .returned (.pointer (some ⟨g, 0, none⟩)) ∧ Rdr w' w.heap.size g v V n 0 ∧ Below w.heap.size w w' := by
  have HC := Aside0.mk (clone_calls A n c (leB V n) w hx (by omega) (leB_len _ _) hcap)
  have HV := Aside0.mk hV
  clear hx hV hcap
  go_enter Tryd.func12, Tryd.ntmps12
  go_wp2_with (go_at_call 26; refine HC.out.mono ?_; rintro e w1 ⟨v1, rfl, HO, HB⟩; rw [leB_len] at HO; obtain ⟨A1, c1, rfl⟩ := own_slice HO; replace HO := Aside0.mk HO; replace HB := Aside0.mk HB)
  go_ret
  exact ⟨w1.heap.size, _, rfl, ⟨alloc_self _ _, HO.out.alloc _, HV.out, Nat.zero_le _, HB.out.size⟩, below_alloc HB.out _⟩
end Go.Proofs.YtdphifihneccoaaDoor.My

/- Slices of slices of numbers: the run of 'xs[a:b]', what it reads as, and that it is nil only where it is empty. -/
namespace Go.Proofs.YtdphifihneccoaaDoor.My
open Go.RowKit Go.Proofs.YtdphifihneccoaaDoorW.PrintWords Go.Proofs.YtdphifihneccoaaDoorW.PrintLast Go.Proofs.YtdphifihneccoaaDoorW.PrintMore
set_option maxRecDepth 100000

theorem cut_mid {P : Program} {k : IntKind} (t e : TypeId) {i : TypeInfo} (ht : P.underlying t = some (.slice e)) (hi : P.info? e = some i) (hsz : i.size = 1) (A : Option Addr) (n c : Nat) (xs : List Int) (a b : Nat) (h1 : a ≤ b) (hm : b ≤ n) (hl : xs.length = n) (hc : n ≤ c) (hcap : A = none → n = 0 ∧ c = 0) :
    ∃ A' : Option Addr, (∀ (kl kh : IntKind) (W : World), (Instr.slice t (.slice A n c) (some (.int kl a)) (some (.int kh b)) none).run P W = .ok (.slice A' (b - a) (c - a)) W) ∧
      (∀ w : World, (Kd.int k).C w A n xs → (Kd.int k).C w A' (b - a) ((xs.take b).drop a)) ∧ (A' = none → b - a = 0 ∧ c - a = 0) := by
  subst hl
  have hlt : (xs.take b).length = b := by rw [List.length_take]; omega
  have hll : ((xs.take b).drop a).length = b - a := by rw [List.length_drop, hlt]
  refine ⟨if c = a then A else A.map (·.add a), fun kl kh W => ?_, fun w h => ?_, fun h => ?_⟩
  · have hel : P.elem t = e := by simp [Program.elem, ht]
    have hu : P.underlying t = some (.slice (P.elem t)) := by rw [hel]; exact ht
    rw [run_slice_lh W t A xs.length c hu kl kh a b (by omega) (by omega) (by omega), hel]
    simp [sizeOf, typeInfo, hi, hsz, sliced, Result.andThen]
  · have h2 := (ReadsOf.take_ (d := (0 : Int)) (reads_of_C h) b (by omega)).drop_ (c := c) a (by omega) (by omega)
    rw [← hll]
    refine Kd.C_of_reads (d := 0) ?_
    rw [hll]
    exact h2
  · by_cases e : c = a
    · rw [if_pos e] at h
      have := hcap h
      omega
    · rw [if_neg e] at h
      have hA : A = none := by cases A with
        | none => rfl
        | some x => simp at h
      have := hcap hA
      omega
end Go.Proofs.YtdphifihneccoaaDoor.My

/- The walk of bits.Writer.Text. -/
namespace Go.Proofs.YtdphifihneccoaaDoor.My
open Go.RowKit Go.Proofs.YtdphifihneccoaaDoorW.PrintWords Go.Proofs.YtdphifihneccoaaDoorW.PrintLast Go.Proofs.YtdphifihneccoaaDoorW.PrintMore
set_option maxRecDepth 100000

theorem own_cap {w : World} {B n : Nat} {e : TypeId} {A : Option Addr} {m c : Nat} {xs : List Value} (h : w.ownsRow B e 1 (.slice A m c) n xs) : A = none → m = 0 ∧ c = 0 := by
  intro hA
  rcases h.2 with ⟨h1, h2⟩ | ⟨g, cap, cur, h1, _⟩
  · cases h1; exact ⟨rfl, rfl⟩
  · subst hA; cases h1
end Go.Proofs.YtdphifihneccoaaDoor.My

/- The walk of bits.Reader.Bytes. -/
namespace Go.Proofs.YtdphifihneccoaaDoor.My
open Go.RowKit Go.Proofs.YtdphifihneccoaaDoorW.PrintWords Go.Proofs.YtdphifihneccoaaDoorW.PrintLast Go.Proofs.YtdphifihneccoaaDoorW.PrintMore
set_option maxRecDepth 100000

theorem leB_mid (V L p k : Nat) (h : p + k ≤ L) : ((leB V L).take (p + k)).drop p = leB (V / 2 ^ (8 * p)) k := by
  apply List.ext_getElem
  · simp; omega
  · intro i h1 h2
    have hi : i < k := by simpa using h2
    simp only [List.getElem_drop, List.getElem_take, leB, List.getElem_map, List.getElem_range]
    rw [Nat.div_div_eq_div_mul, ← Nat.pow_add, Nat.mul_add]

theorem Gone.of_below {w w1 : World} (g : Nat) (hb : Below w.heap.size w w1) : Gone w w1 g := ⟨hb.os, hb.tape, hb.output, hb.size, fun i hi _ _ => hb.block i hi⟩
theorem Rdr.below {w w1 : World} {B g : Nat} {v : Value} {V L a : Nat} (k : Rdr w B g v V L a) (hb : Below w.heap.size w w1) : Rdr w1 B g v V L a := ⟨blk_below k.blk hb, pw_own_below k.row hb, k.lt, k.le, k.bg⟩
/-- What Bytes answers. -/
def byteE (n : Int) (a l : Nat) : Option Int := if n < 0 then some 1 else if a % 8 ≠ 0 then some 2 else if (n : Int) > ((l / 8 : Nat) : Int) then some 10 else none
theorem rbytes_bad (w : World) (B g : Nat) (v : Value) (V L a : Nat) (n c : Int) (hr : Rdr w B g v V L a) (hL : L ≤ 100000000000000) (hE : byteE n a (8 * L - a) = some c) :
    Calls Tryd.prog 44 #[.pointer (some ⟨g, 0, none⟩), .int .i64 n] w fun e w' => e = .returned (.tuple #[.slice none 0 0, errV (some c)]) ∧ ∃ m, w' = w.drewN m := by
  have HLf : Aside0 (Calls Tryd.prog 57 #[.pointer (some ⟨g, 0, none⟩)] w fun e w' => e = .returned (.int .i64 (8 * L - a : Nat)) ∧ ∃ m, w' = w.drewN m) := ⟨left_calls w B g v V L a hr hL⟩
  obtain ⟨c0, c1, f1⟩ := hr.cells
  have hle := hr.le
  clear hr
  unfold byteE at hE
  by_cases h1 : n < 0
  · rw [if_pos h1] at hE
    cases hE
    clear HLf hle
    go_enter Tryd.func44, Tryd.ntmps44
    go_wp2_with fail
    go_ret2
    exact ⟨rfl, 0, (World.drewN_zero _).symm⟩
  · rw [if_neg h1] at hE
    by_cases h2 : a % 8 = 0
    · rw [if_neg (by omega)] at hE
      by_cases h3 : n > (((8 * L - a) / 8 : Nat) : Int)
      · rw [if_pos h3] at hE
        cases hE
        have b1 : (((a : Int).tmod 8) != 0) = false := by rw [Int.tmod_eq_emod_of_nonneg (by omega)]; simp; omega
        have b2 : (((a : Int) % 8) != 0) = false := by simp; omega
        have b3 : ((8 * L - a : Nat) : Int) / 8 < n := by omega
        have b4 : ((8 * L - a : Nat) : Int) ≤ 800000000000000 := by omega
        have b5 : (a : Int) ≤ 800000000000000 := by omega
        generalize 8 * L - a = l at *
        clear h2 h3 hle
        go_enter Tryd.func44, Tryd.ntmps44
        go_wp2_with (go_at_call 57; refine HLf.out.mono ?_; rintro e w' ⟨rfl, m1, rfl⟩)
        go_ret2
        exact ⟨rfl, _, rfl⟩
      · rw [if_neg h3] at hE
        cases hE
    · rw [if_pos h2] at hE
      cases hE
      have b1 : (((a : Int).tmod 8) != 0) = true := by rw [Int.tmod_eq_emod_of_nonneg (by omega)]; simp; omega
      have b2 : (((a : Int) % 8) != 0) = true := by simp; omega
      have b5 : (a : Int) ≤ 800000000000000 := by omega
      clear h2 HLf hle
      go_enter Tryd.func44, Tryd.ntmps44
      go_wp2_with fail
      go_ret2
      first
        | exact ⟨rfl, 0, (World.drewN_zero _).symm⟩
        | exact ⟨rfl, _, rfl⟩
theorem rbytes_calls (w : World) (B g : Nat) (v : Value) (V L a : Nat) (n : Nat) (hr : Rdr w B g v V L a) (hL : L ≤ 100000000000000) (hE : byteE n a (8 * L - a) = none) :
    Calls Tryd.prog 44 #[.pointer (some ⟨g, 0, none⟩), .int .i64 n] w fun e w' => ∃ v', e = .returned (.tuple #[v', errV none]) ∧ w'.ownsRow w.heap.size 5 1 v' n (nums .u8 (leB (V / 2 ^ a) n)) ∧ Rdr w' B g v V L (a + 8 * n) ∧ Gone w w' g := by
  have HLf : Aside0 (Calls Tryd.prog 57 #[.pointer (some ⟨g, 0, none⟩)] w fun e w' => e = .returned (.int .i64 (8 * L - a : Nat)) ∧ ∃ m, w' = w.drewN m) := ⟨left_calls w B g v V L a hr hL⟩
  obtain ⟨c0, c1, f1⟩ := hr.cells
  have hle := hr.le
  unfold byteE at hE
  rw [if_neg (by omega)] at hE
  by_cases h2 : a % 8 = 0
  · rw [if_neg (by omega)] at hE
    by_cases h3 : (n : Int) > (((8 * L - a) / 8 : Nat) : Int)
    · rw [if_pos h3] at hE
      cases hE
    · obtain ⟨A, c, rfl⟩ := own_slice hr.row
      obtain ⟨A', c', e', hcc, hC⟩ := own_slice' hr.row
      cases e'
      obtain ⟨p, hp⟩ : ∃ p, p = a / 8 := ⟨_, rfl⟩
      have hpk : p + n ≤ L := by omega
      obtain ⟨i0, hi0, hz⟩ := Option.map_eq_some_iff.1 info_u8
      simp only [Prod.mk.injEq] at hz
      obtain ⟨A1, hcut, hC1, hnil⟩ := cut_mid (P := Tryd.prog) (k := .u8) 22 5 Tryd.underlying22 hi0 hz.2.1 A L c (leB V L) p (p + n) (by omega) hpk (leB_len _ _) hcc (own_cap hr.row)
      have hcut' : ∀ W : World, (Instr.slice 22 (.slice A L c) (some (.int .i64 p)) (some (.int .i64 ((p : Int) + (n : Int)))) none).run Tryd.prog W = .ok (.slice A1 (p + n - p) (c - p)) W := fun W => by
        have := hcut .i64 .i64 W
        rwa [Int.natCast_add] at this
      have e1 : p + n - p = n := by omega
      rw [e1] at hcut' hC1 hnil
      rw [leB_mid V L p n hpk, show 8 * p = a by omega] at hC1
      have HCl : Aside0 (∀ w1, (Kd.int .u8).C w1 A L (leB V L) → Calls Tryd.prog 26 #[.slice A1 n (c - p)] w1 fun e w' => ∃ v', e = .returned v' ∧ w'.ownsRow w1.heap.size 5 1 v' n (nums .u8 (leB (V / 2 ^ a) n)) ∧ Below w1.heap.size w1 w') := by
        refine ⟨fun w1 h => (clone_calls A1 n (c - p) _ w1 (hC1 w1 h) (by omega) (leB_len _ _) hnil).mono ?_⟩
        rintro e w' ⟨v', rfl, ho, hb⟩
        rw [leB_len] at ho
        exact ⟨v', rfl, ho, hb⟩
      have b1 : (((a : Int).tmod 8) != 0) = false := by rw [Int.tmod_eq_emod_of_nonneg (by omega)]; simp; omega
      have b2 : (((a : Int) % 8) != 0) = false := by simp; omega
      have b3 : (n : Int) ≤ ((8 * L - a : Nat) : Int) / 8 := by omega
      have b4 : ((8 * L - a : Nat) : Int) ≤ 800000000000000 := by omega
      have b5 : (a : Int) ≤ 800000000000000 := by omega
      have b6 : (a : Int) / 8 = (p : Int) := by omega
      have b7 : (p : Int) ≤ 100000000000000 := by omega
      have b8 : (n : Int) ≤ 100000000000000 := by omega
      have HR := Aside0.mk (fun m => ((hr.drewN m).set (a + 8 * n) (by omega)))
      have HG := Aside0.mk ((Gone.refl w g))
      have HCC := Aside0.mk hC
      have hne := hr.ne
      have HNE := Aside0.mk (show ∀ ad, A = some ad → 0 < L → ad.block ≠ g from fun ad h _ e => hne (by subst h; subst e; rfl))
      have ep : ((a + 8 * n : Nat) : Int) = (a : Int) + 8 * (n : Int) := by omega
      rw [ep] at HR
      generalize 8 * L - a = l at *
      clear hcut hC1 hnil hr hC hle hE h2 h3 hp hpk e1 ep hne hi0 hz hcc
      go_enter Tryd.func44, Tryd.ntmps44
      go_wp2_with (go_at_call 57; refine HLf.out.mono ?_; rintro e w' ⟨rfl, m1, rfl⟩)
      go_wp2_with (go_at_call 26; refine (HCl.out _ (C_of_readsInt (own_reads' (HR.out m1).row))).mono ?_; rintro e w2 ⟨v2, rfl, ho2, hb2⟩; replace ho2 := Aside0.mk ho2; replace hb2 := Aside0.mk hb2)
      go_ret2
      exact ⟨v2, rfl, own_weaken ho2.out (by simp), (HR.out m1).below hb2.out, ((HG.out.drewN m1).set 1 _).trans (Gone.of_below g hb2.out)⟩
  · rw [if_pos h2] at hE
    cases hE
end Go.Proofs.YtdphifihneccoaaDoor.My

/- The walk of huff.New. -/
namespace Go.Proofs.YtdphifihneccoaaDoor.My
open Go.RowKit Go.Proofs.YtdphifihneccoaaDoor.Huf Go.Proofs.YtdphifihneccoaaDoorW.PrintWords Go.Proofs.YtdphifihneccoaaDoorW.PrintLast Go.Proofs.YtdphifihneccoaaDoorW.PrintMore
set_option maxRecDepth 100000
set_option linter.unusedVariables false
set_option linter.unusedSimpArgs false

theorem alloc_size (w : World) (o : Obj) : (w.alloc o).heap.size = w.heap.size + 1 := Array.size_push _
theorem upto_one (h : Nat → Nat) (h0 : h 0 = 0) : upto h 1 = tab fun _ => 0 := tab_eq fun k hk => by
  split
  · have : k = 0 := by omega
    subst this; rw [h0]; rfl
  · rfl
theorem cod_new (w : World) (v : Value) (L : List Int) (cs : Array Value) (e : cs = (codCells v (tab fun _ => 0) (tab fun _ => 0) (tab fun _ => 0) (.slice none 0 0) (.slice none 0 0)).toArray) :
    Cod (w.alloc (.cells cs 113)) w.heap.size v (upto (fst L) 1) (tab fun _ => 0) (upto (beg L) 1) (.slice none 0 0) (.slice none 0 0) := by
  rw [upto_one _ rfl, upto_one _ rfl]
  refine ⟨?_, tab_len _, tab_len _, tab_len _⟩
  subst e
  exact alloc_self _ _
set_option maxHeartbeats 2000000 in
set_option maxRecDepth 100000 in
theorem new_calls (w : World) (A : Option Addr) (n c : Nat) (L : List Int) (lone : Bool) (hL : (Kd.int .i64).C w A n L) (hn : n ≤ 1000000) (hl : L.length = n) (hcap : A = none → n = 0 ∧ c = 0) :
    Calls Tryd.prog 63 #[.slice A n c, .bool lone] w fun e w' => ∃ v, e = .returned (.tuple #[v, errV (newR L lone)]) ∧ Below w.heap.size w w' ∧ (newR L lone ≠ none → v = .pointer none) ∧
      (newR L lone = none → ∃ g, v = .pointer (some ⟨g, 0, none⟩) ∧ CodeAt w' w.heap.size w'.heap.size g L) := by
  have HC := Aside0.mk (cloneI_calls A n c L w hL (by omega) hl hcap)
  have h3 : (n : Int) ≤ 1000000 := by omega
  have HLn := Aside0.mk hl
  clear hL hcap hl hn
  go_enter Tryd.func63, Tryd.ntmps63
  go_wp2_with fail
  refine (HC.out).mono ?_
  rintro e w1 ⟨v', rfl, hown, hb1⟩
  have hlt := own_lt hown
  have hge := own_base hown
  obtain ⟨A', c', rfl, _, hC'⟩ := own_slice' hown
  have hR : RB w1 w.heap.size w1.heap.size A' L.length L := ⟨hC', fun ad e => by subst e; exact ⟨hge ad.block rfl, hlt ad.block rfl⟩⟩
  have HR := Aside0.mk hR
  have HB1 := Aside0.mk hb1
  clear hown hlt hge hC' hR hb1
  by_cases h320 : (320 : Int) < (n : Int)
  · have hnew : Aside0 (newR L lone = some 3) := ⟨by unfold newR; rw [if_pos (by have := HLn.out; omega)]⟩
    go_wp2_with fail
    go_ret2
    refine ⟨_, by rw [hnew.out]; rfl, below_alloc HB1.out _, fun _ => rfl, fun h => ?_⟩
    rw [hnew.out] at h; cases h
  · go_wp2_with fail
    refine (count_calls _ w1.heap.size A' L.length c' L (upto (fst L) 1) (upto (beg L) 1) (.slice none 0 0) (.slice none 0 0) (cod_new w1 _ L _ rfl) (HR.out.grown (grown_below (below_alloc (Below.refl _ _) _) none) (fun r e => by cases e)).c (fun ad e => by have := HR.out.b ad e; omega) (by have := HLn.out; omega)).mono ?_
    rintro e w3 ⟨rfl, hg3, hk3⟩
    have HB3 := Aside0.mk (below_grown (below_alloc HB1.out _) hg3 (by have := HB1.out.size; rw [alloc_size]; omega) HB1.out.size)
    have HR3 := Aside0.mk ((HR.out.grown (grown_below (below_alloc (Below.refl _ _) _) none) (fun r e => by cases e)).grown hg3 (fun r e => by cases e; right; exact Nat.le_refl _))
    have hsz : w1.heap.size < w3.heap.size := by have := hg3.size; rw [alloc_size] at this; omega
    have HSZ := Aside0.mk hsz
    have HK3 := Aside0.mk hk3
    clear hg3 hk3 hsz
    have HGE := Aside0.mk HB1.out.size
    generalize hG : w1.heap.size = g at *
    clear hG HB1
    by_cases hok : okL L = true
    · rw [hok]
      have HK4 := Aside0.mk (HK3.out hok)
      have hnb : numR L < 9223372036854775807 := by unfold numR; split <;> omega
      have hnb2 : -9223372036854775807 < numR L := by
        unfold numR
        split
        · omega
        · next hov =>
          have h1 := fst_le L 15 (fun j h1 h2 => over_all L 15 1 (by simpa using hov) j h1 (by omega))
          have h2 := cn_le L 15
          have h3 := HLn.out
          omega
      go_wp2_with fail
      refine (number_calls w3 g _ L _ _ HK4.out (by have := HLn.out; omega)).mono ?_
      rintro e w4 ⟨rfl, hg4, hk4⟩
      have HB4 := Aside0.mk (below_grown HB3.out hg4 HB3.out.size HGE.out)
      have HR4 := Aside0.mk (HR3.out.grown hg4 (fun r e => by cases e; right; exact Nat.le_refl _))
      have HSZ4 := Aside0.mk (Nat.lt_of_lt_of_le HSZ.out hg4.size)
      have HK5 := Aside0.mk hk4
      have hr : Aside0 (numR L = if anyOver L 15 1 then -1 else 32768 - ((fst L 15 + cn L 15 : Nat) : Int)) := ⟨rfl⟩
      clear hg4 hk4
      by_cases hneg : numR L < 0
      · have hnew : Aside0 (newR L lone = some 14) := ⟨by unfold newR; rw [if_neg (by have := HLn.out; omega), if_neg (by rw [hok]; decide), if_pos hneg]⟩
        generalize numR L = q at *
        go_wp2_with fail
        go_ret2
        refine ⟨_, by rw [hnew.out]; rfl, HB4.out, fun _ => rfl, fun h => ?_⟩
        rw [hnew.out] at h; cases h
      · have hov : Aside0 (anyOver L 15 1 = false) := ⟨by
          have h1 := hr.out
          cases h2 : anyOver L 15 1
          · rfl
          · rw [h2] at h1; simp at h1; omega⟩
        have HK6 := Aside0.mk (HK5.out hov.out)
        have hnew : Aside0 (newR L lone = if 0 < numR L ∧ ¬ (lone = true ∧ aloneL L = true) then some 2 else none) := ⟨by unfold newR; rw [if_neg (by have := HLn.out; omega), if_neg (by rw [hok]; decide), if_neg hneg]⟩
        generalize numR L = q at *
        go_wp2_with fail
        refine (sort_calls w4 g A' L.length c' L _ _ HK6.out HR4.out.c (fun ad e => by have := HR4.out.b ad e; omega) (by have := HLn.out; omega) hok hov.out).mono ?_
        rintro e w5 ⟨rfl, hg5, b1, b2, S, hb1, hb2, hb12, hk5, hr1, hS, hr2⟩
        have hb5 := below_grown HB4.out hg5 HB4.out.size HGE.out
        have hr5 := (HR4.out.grown hg5 (fun r e => by cases e; right; exact Nat.le_refl _))
        have hle : (beg L 16) ≤ 1000000 := by have := beg_all L hok 16; have := HLn.out; omega
        have hll : L.length ≤ 1000000 := by have := HLn.out; omega
        have hsz4 := HSZ4.out
        have hsz4b := HB4.out.size
        have hge := HGE.out
        have hca : CodeAt w5 w.heap.size w5.heap.size g L := ⟨A', _, _, c', _, _, S, hk5, hr5.mono (Nat.le_refl _) (by have := hg5.size; omega),
          ⟨by have := hr1.reads (by rw [hS.1]; omega); rw [hS.1] at this; exact this, fun ad e => by cases e; exact ⟨by show _ ≤ b1; omega, hr1.lt⟩⟩,
          ⟨by have := hr2.reads (by rw [nmL_len]; omega); rw [nmL_len] at this; exact this, fun ad e => by cases e; exact ⟨by show _ ≤ b2; omega, hr2.lt⟩⟩, hS, hge, by have := hg5.size; omega⟩
        have HCA := Aside0.mk hca
        have HB5 := Aside0.mk hb5
        clear hg5 hk5 hr1 hS hr2 hb5 hr5 hle hll hsz4 hsz4b hge hca hb1 hb2 hb12
        by_cases hpos : 0 < q
        · cases lone with
          | false =>
            have hn2 : Aside0 (newR L false = some 2) := ⟨by rw [hnew.out, if_pos ⟨hpos, by simp⟩]⟩
            go_wp2_with fail
            go_ret2
            refine ⟨_, by rw [hn2.out]; rfl, HB5.out, fun _ => rfl, fun h => ?_⟩
            rw [hn2.out] at h; cases h
          | true =>
            go_wp2_with fail
            refine (alone_calls w5 _ _ g L HCA.out (by have := HLn.out; omega) hok).mono ?_
            rintro e w6 ⟨rfl, rfl⟩
            cases hal : aloneL L with
            | true =>
              have hn2 : Aside0 (newR L true = none) := ⟨by rw [hnew.out, if_neg (by rw [hal]; simp)]⟩
              go_wp2_with fail
              go_ret2
              exact ⟨_, by rw [hn2.out]; rfl, HB5.out, fun h => absurd hn2.out h, fun _ => ⟨g, rfl, HCA.out⟩⟩
            | false =>
              have hn2 : Aside0 (newR L true = some 2) := ⟨by rw [hnew.out, if_pos ⟨hpos, by rw [hal]; simp⟩]⟩
              go_wp2_with fail
              go_ret2
              refine ⟨_, by rw [hn2.out]; rfl, HB5.out, fun _ => rfl, fun h => ?_⟩
              rw [hn2.out] at h; cases h
        · have hn2 : Aside0 (newR L lone = none) := ⟨by rw [hnew.out, if_neg (by omega)]⟩
          go_wp2_with fail
          go_ret2
          exact ⟨_, by rw [hn2.out]; rfl, HB5.out, fun h => absurd hn2.out h, fun _ => ⟨g, rfl, HCA.out⟩⟩
    · have hok' : okL L = false := by simpa using hok
      rw [hok']
      have hnew : Aside0 (newR L lone = some 1) := ⟨by unfold newR; rw [if_neg (by have := HLn.out; omega), if_pos hok']⟩
      go_wp2_with fail
      go_ret2
      refine ⟨_, by rw [hnew.out]; rfl, HB3.out, fun _ => rfl, fun h => ?_⟩
      rw [hnew.out] at h; cases h
end Go.Proofs.YtdphifihneccoaaDoor.My

/- The walks of huff.Code's Of and Len. -/
namespace Go.Proofs.YtdphifihneccoaaDoor.My
open Go.RowKit Go.Proofs.YtdphifihneccoaaDoor.Huf Go.Proofs.YtdphifihneccoaaDoorW.PrintWords Go.Proofs.YtdphifihneccoaaDoorW.PrintLast Go.Proofs.YtdphifihneccoaaDoorW.PrintMore
set_option maxRecDepth 100000
set_option linter.unusedVariables false
set_option linter.unusedSimpArgs false

theorem nmL_get (L : List Int) (s : Nat) (h : s < L.length) : (nmL L L.length).getD s 0 = (code L s : Int) := by
  simp [nmL, List.getD_eq_getElem?_getD, h]
theorem rb_at {w : World} {lo hi : Nat} {A : Option Addr} {n : Nat} {xs : List Int} (h : RB w lo hi A n xs) (i : Nat) (hi : i < n) : ∃ ad, A = some ad ∧ w.cell? (ad.add i) = some (.int .i64 (xs.getD i 0)) := num_at h.c i hi
end Go.Proofs.YtdphifihneccoaaDoor.My

/- The walk of huff.Code's short. -/
namespace Go.Proofs.YtdphifihneccoaaDoor.My
open Go.RowKit Go.Proofs.YtdphifihneccoaaDoor.Huf Go.Proofs.YtdphifihneccoaaDoorW.PrintWords Go.Proofs.YtdphifihneccoaaDoorW.PrintLast Go.Proofs.YtdphifihneccoaaDoorW.PrintMore
set_option maxRecDepth 100000
set_option linter.unusedVariables false
set_option linter.unusedSimpArgs false

theorem wr_lo (c len n : Nat) (hc : c < 2 ^ len) (h : len ≤ n) (h15 : n ≤ 15) : wrap64 ((c : Int) * 2 ^ (n - len)) = ((c * 2 ^ (n - len) : Nat) : Int) ∧ c * 2 ^ (n - len) ≤ 32768 := by
  have h1 : c * 2 ^ (n - len) ≤ 2 ^ len * 2 ^ (n - len) := Nat.mul_le_mul_right _ (Nat.le_of_lt hc)
  rw [← Nat.pow_add, show len + (n - len) = n by omega] at h1
  have h2 : 2 ^ n ≤ 2 ^ 15 := Nat.pow_le_pow_right (by decide) h15
  have h3 : c * 2 ^ (n - len) ≤ 32768 := Nat.le_trans h1 h2
  have e : (c : Int) * 2 ^ (n - len) = ((c * 2 ^ (n - len) : Nat) : Int) := by push_cast; rfl
  rw [e]
  clear h1 h2 e
  generalize c * 2 ^ (n - len) = q at *
  exact ⟨by unfold wrap64; omega, h3⟩
theorem wr_one (n : Nat) (h15 : n ≤ 15) : wrap64 (2 ^ n) = ((2 ^ n : Nat) : Int) ∧ 2 ^ n ≤ 32768 := by
  have h2 : 2 ^ n ≤ 2 ^ 15 := Nat.pow_le_pow_right (by decide) h15
  have h3 : 2 ^ n ≤ 32768 := h2
  have e : (2 : Int) ^ n = ((2 ^ n : Nat) : Int) := by push_cast; rfl
  rw [e]
  clear h2 e
  generalize 2 ^ n = q at *
  exact ⟨by unfold wrap64; omega, h3⟩
theorem wr_hi (a b : Nat) (h1 : a ≤ 32768) (h2 : b ≤ 32768) : wrap64 ((a : Int) + (b : Int)) = ((a + b : Nat) : Int) := by unfold wrap64; omega
theorem meets_eq (L : List Int) (c len n : Nat) : meets L c len n = (decide (0 < cn L n) && (decide (fst L n < c * 2 ^ (n - len) + 2 ^ (n - len)) && decide (c * 2 ^ (n - len) < fst L n + cn L n))) := by
  unfold meets
  rw [Nat.succ_mul]
set_option maxHeartbeats 4000000 in
set_option maxRecDepth 100000 in
theorem short_calls (w : World) (lo hi g : Nat) (L : List Int) (k : CodeAt w lo hi g L) (hl : L.length ≤ 1000000) (hov : anyOver L 15 1 = false) (c len : Nat) (hc : c < 2 ^ len) (hlen : len ≤ 15) :
    Calls Tryd.prog 65 #[.pointer (some ⟨g, 0, none⟩), .int .i64 c, .int .i64 len] w fun e w' => e = .returned (errV (some (if anyMeets L c len (15 - len) (len + 1) then 10 else 2))) ∧ ∃ m, w' = w.drewN m := by
  obtain ⟨r, hr⟩ : ∃ r : Int, r = if anyMeets L c len (15 - len) (len + 1) then 10 else 2 := ⟨_, rfl⟩
  rw [← hr]
  have HR := Aside0.mk hr
  obtain ⟨A, A1, A2, c0, c1, c2, S, k, r0, r1, r2, hS, h1, h2⟩ := k.out
  have HK0 := Aside0.mk k
  have HOv := Aside0.mk hov
  have HLn := Aside0.mk hl
  have hlen2 : (len : Int) ≤ 15 := by omega
  have HC := Aside0.mk hc
  clear k r0 r1 r2 hS hov hl hc hr
  go_enter Tryd.func65, Tryd.ntmps65
  go_wp2_with fail
  go_loopg [7] 16 (fun kq v7 wr => ∃ d : Nat, v7 = .int .i64 ((len : Int) + 1 + d) ∧ len + 1 + d ≤ 16 ∧ Aside0 (kq = 16 - d) ∧ Aside0 (∃ m, wr = w.drewN m) ∧ Aside0 (anyMeets L c len (15 - len - d) (len + 1 + d) = anyMeets L c len (15 - len) (len + 1)))
  case atStart => exact ⟨0, by simp, by omega, ⟨rfl⟩, ⟨0, rfl⟩, ⟨rfl⟩⟩
  case round =>
    obtain ⟨d, rfl, hd, HK, HW, HA⟩ := hrel
    obtain ⟨m, rfl⟩ := HW.out
    by_cases hlt : len + 1 + d ≤ 15
    · have hlt' : (len : Int) + 1 + (d : Int) ≤ 15 := by omega
      go_upto_region 6 with fail
      obtain ⟨w1, b1⟩ := wr_lo c len (len + 1 + d) HC.out (by omega) hlt
      obtain ⟨w2, b2⟩ := wr_one (len + 1 + d - len) (by omega)
      rw [w1, w2, wr_hi _ _ b1 b2]
      have hme := meets_eq L c len (len + 1 + d)
      have hov := over_all L 15 1 HOv.out
      have hF := pow15 (len + 1 + d) _ hlt (fst_le L (len + 1 + d) (fun j h1 h2 => hov j h1 (by omega)))
      have hC := Nat.le_trans (cn_le L (len + 1 + d)) HLn.out
      have cf := HK0.out.cf (len + 1 + d) (by omega)
      rw [upto_get _ _ (len + 1 + d) (by omega) (by omega)] at cf
      have cm := HK0.out.cm (len + 1 + d) (by omega)
      rw [tab_get _ (len + 1 + d) (by omega), show Huf.c0 L (len + 1 + d) = cn L (len + 1 + d) by unfold Huf.c0; rw [if_neg (by omega)]] at cm
      have hany : anyMeets L c len (15 - len - d) (len + 1 + d) = (meets L c len (len + 1 + d) || anyMeets L c len (15 - len - (d + 1)) (len + 1 + (d + 1))) := by
        rw [show 15 - len - d = (15 - len - (d + 1)) + 1 by omega]
        rfl
      have HAny := Aside0.mk hany
      have hFi : ((fst L (len + 1 + d) : Nat) : Int) ≤ 1000000 := by omega
      have hCi : ((cn L (len + 1 + d) : Nat) : Int) ≤ 1000000 := by omega
      have HN15 := Aside0.mk hlt
      clear w1 w2 hov hF hC hany
      generalize c * 2 ^ (len + 1 + d - len) = X at *
      generalize 2 ^ (len + 1 + d - len) = Y at *
      generalize fst L (len + 1 + d) = F at *
      generalize cn L (len + 1 + d) = N at *
      have bx : ((X + Y : Nat) : Int) ≤ 65536 := by omega
      by_cases q1 : 0 < N
      · have q1' : (0 : Int) < (N : Int) := by omega
        by_cases q2 : F < X + Y
        · have q2' : (F : Int) < ((X + Y : Nat) : Int) := by omega
          by_cases q3 : X < F + N
          · have q3' : (X : Int) < (F : Int) + (N : Int) := by omega
            have HM : Aside0 (r = 10) := ⟨by
              have h1 : meets L c len (len + 1 + d) = true := by rw [hme]; simp [q1, q2, q3]
              have h2 := HAny.out
              rw [h1, Bool.true_or, HA.out] at h2
              rw [HR.out, if_pos h2]⟩
            clear hme HAny
            generalize X + Y = Z at *
            go_quiet (fail)
            go_wp2_with fail
            go_ret
            have hr2 := HM.out
            subst hr2
            exact ⟨rfl, _, rfl⟩
          · have q3' : ¬ (X : Int) < (F : Int) + (N : Int) := by omega
            have HM : Aside0 (anyMeets L c len (15 - len - (d + 1)) (len + 1 + (d + 1)) = anyMeets L c len (15 - len) (len + 1)) := ⟨by
              have h1 : meets L c len (len + 1 + d) = false := by rw [hme]; simp; omega
              have h2 := HAny.out
              rw [h1, Bool.false_or, HA.out] at h2
              exact h2.symm⟩
            clear hme HAny
            generalize X + Y = Z at *
            go_quiet (fail)
            go_wp2_with fail
            have e1 : (len : Int) + 1 + (d : Int) + 1 = (len : Int) + 1 + ((d + 1 : Nat) : Int) := by omega
            rw [e1]
            go_roundg (16 - (d + 1))
            case measure => have := HK.out; omega
            case rel => exact ⟨d + 1, rfl, by have := HN15.out; omega, ⟨rfl⟩, ⟨_, rfl⟩, HM⟩
        · have q2' : ¬ (F : Int) < ((X + Y : Nat) : Int) := by omega
          have HM : Aside0 (anyMeets L c len (15 - len - (d + 1)) (len + 1 + (d + 1)) = anyMeets L c len (15 - len) (len + 1)) := ⟨by
            have h1 : meets L c len (len + 1 + d) = false := by rw [hme]; simp; omega
            have h2 := HAny.out
            rw [h1, Bool.false_or, HA.out] at h2
            exact h2.symm⟩
          clear hme HAny
          generalize X + Y = Z at *
          go_quiet (fail)
          go_wp2_with fail
          have e1 : (len : Int) + 1 + (d : Int) + 1 = (len : Int) + 1 + ((d + 1 : Nat) : Int) := by omega
          rw [e1]
          go_roundg (16 - (d + 1))
          case measure => have := HK.out; omega
          case rel => exact ⟨d + 1, rfl, by have := HN15.out; omega, ⟨rfl⟩, ⟨_, rfl⟩, HM⟩
      · have q1' : ¬ (0 : Int) < (N : Int) := by omega
        have HM : Aside0 (anyMeets L c len (15 - len - (d + 1)) (len + 1 + (d + 1)) = anyMeets L c len (15 - len) (len + 1)) := ⟨by
          have h1 : meets L c len (len + 1 + d) = false := by rw [hme]; simp; omega
          have h2 := HAny.out
          rw [h1, Bool.false_or, HA.out] at h2
          exact h2.symm⟩
        clear hme HAny
        generalize X + Y = Z at *
        go_quiet (fail)
        go_wp2_with fail
        have e1 : (len : Int) + 1 + (d : Int) + 1 = (len : Int) + 1 + ((d + 1 : Nat) : Int) := by omega
        rw [e1]
        go_roundg (16 - (d + 1))
        case measure => have := HK.out; omega
        case rel => exact ⟨d + 1, rfl, by have := HN15.out; omega, ⟨rfl⟩, ⟨_, rfl⟩, HM⟩
    · have hlt' : ¬ (len : Int) + 1 + (d : Int) ≤ 15 := by omega
      have HM : Aside0 (anyMeets L c len (15 - len) (len + 1) = false) := ⟨by rw [← HA.out, show 15 - len - d = 0 by omega]; rfl⟩
      go_wp2_with fail
      go_ret
      have hr2 := HR.out
      rw [HM.out] at hr2
      subst hr2
      exact ⟨rfl, m, rfl⟩
end Go.Proofs.YtdphifihneccoaaDoor.My

/- Bits turned round, as Go's library does it: plain. -/
namespace Go.Proofs.YtdphifihneccoaaDoor.My
open Go.RowKit

theorem or_nat32 (a b : Nat) (ha : a < 2 ^ 32) (hb : b < 2 ^ 32) : Go.bits .or .u32 a b = ((a ||| b : Nat) : Int) := by
  have hl : a ||| b < 2 ^ 32 := Nat.or_lt_two_pow ha hb
  show IntKind.u32.wrap ((BitVec.ofInt 32 (a : Int) ||| BitVec.ofInt 32 (b : Int)).toNat : Int) = _
  rw [BitVec.ofInt_natCast, BitVec.ofInt_natCast, BitVec.toNat_or, BitVec.toNat_ofNat, BitVec.toNat_ofNat, Nat.mod_eq_of_lt ha, Nat.mod_eq_of_lt hb, IntKind.wrap_u32]
  omega
theorem and_nat32 (a b : Nat) (ha : a < 2 ^ 32) (hb : b < 2 ^ 32) : Go.bits .and .u32 a b = ((a &&& b : Nat) : Int) := by
  have hl : a &&& b < 2 ^ 32 := Nat.and_lt_two_pow _ hb
  show IntKind.u32.wrap ((BitVec.ofInt 32 (a : Int) &&& BitVec.ofInt 32 (b : Int)).toNat : Int) = _
  rw [BitVec.ofInt_natCast, BitVec.ofInt_natCast, BitVec.toNat_and, BitVec.toNat_ofNat, BitVec.toNat_ofNat, Nat.mod_eq_of_lt ha, Nat.mod_eq_of_lt hb, IntKind.wrap_u32]
  omega
/-- One step: every second group of bits changes its place with the next one. -/
def sw (m d x : Int) : Int := bits .or .u32 (bits .and .u32 (x / d) m) (bits .and .u32 x m * d % 4294967296)
def half (x : Int) : Int := bits .or .u32 (x / 65536) (x * 65536 % 4294967296)
def swB (m : Nat) (k : Nat) (b : BitVec 32) : BitVec 32 := ((b >>> k) &&& BitVec.ofNat 32 m) ||| ((b &&& BitVec.ofNat 32 m) <<< k)
def halfB (b : BitVec 32) : BitVec 32 := (b >>> 16) ||| (b <<< 16)
theorem sw_eq (m k : Nat) (b : BitVec 32) (hm : m < 2 ^ 32) (d : Int) (hd : d = ((2 ^ k : Nat) : Int)) : sw m d b.toNat = (swB m k b).toNat := by
  have hb : b.toNat < 2 ^ 32 := b.isLt
  have h1 : b.toNat / 2 ^ k < 2 ^ 32 := Nat.lt_of_le_of_lt (Nat.div_le_self _ _) hb
  have h2 : b.toNat / 2 ^ k &&& m < 2 ^ 32 := Nat.and_lt_two_pow _ hm
  have h3 : (b.toNat &&& m) * 2 ^ k % 4294967296 < 2 ^ 32 := Nat.mod_lt _ (by decide)
  unfold sw
  rw [hd, show ((b.toNat : Int) / ((2 ^ k : Nat) : Int)) = ((b.toNat / 2 ^ k : Nat) : Int) from rfl, and_nat32 _ m h1 hm, and_nat32 _ m hb hm]
  rw [show (((b.toNat &&& m : Nat) : Int) * ((2 ^ k : Nat) : Int) % 4294967296) = (((b.toNat &&& m) * 2 ^ k % 4294967296 : Nat) : Int) by rw [← Int.natCast_mul]; rfl]
  rw [or_nat32 _ _ h2 h3]
  congr 1
  simp only [swB, BitVec.toNat_or, BitVec.toNat_and, BitVec.toNat_ushiftRight, BitVec.toNat_shiftLeft, BitVec.toNat_ofNat, Nat.shiftRight_eq_div_pow, Nat.shiftLeft_eq, Nat.mod_eq_of_lt hm]
theorem half_eq (b : BitVec 32) : half b.toNat = (halfB b).toNat := by
  have hb : b.toNat < 2 ^ 32 := b.isLt
  unfold half
  rw [show ((b.toNat : Int) / 65536) = ((b.toNat / 65536 : Nat) : Int) from rfl, show ((b.toNat : Int) * 65536 % 4294967296) = ((b.toNat * 65536 % 4294967296 : Nat) : Int) from rfl,
    or_nat32 _ _ (by omega) (by omega)]
  congr 1
  simp only [halfB, BitVec.toNat_or, BitVec.toNat_ushiftRight, BitVec.toNat_shiftLeft, Nat.shiftRight_eq_div_pow, Nat.shiftLeft_eq]
theorem rev_all (b : BitVec 32) : halfB (swB 16711935 8 (swB 252645135 4 (swB 858993459 2 (swB 1431655765 1 b)))) = b.reverse := by
  apply BitVec.eq_of_getLsbD_eq
  intro i hi
  rw [BitVec.getLsbD_reverse]
  unfold halfB swB
  rcases i with _|_|_|_|_|_|_|_|_|_|_|_|_|_|_|_|_|_|_|_|_|_|_|_|_|_|_|_|_|_|_|_|i
  all_goals first
    | (exfalso; omega)
    | simp [BitVec.getMsbD]

/-- The lowest n bits of a number, turned round. -/
def rv (x n : Nat) : Nat := (BitVec.ofNat 32 x).reverse.toNat / 2 ^ (32 - n)
theorem rv_bit (x n i : Nat) (hn : n ≤ 32) : (rv x n).testBit i = (decide (i < n) && x.testBit (n - 1 - i)) := by
  unfold rv
  rw [← Nat.shiftRight_eq_div_pow, Nat.testBit_shiftRight]
  show (BitVec.reverse (BitVec.ofNat 32 x)).getLsbD (32 - n + i) = _
  rw [BitVec.getLsbD_reverse, BitVec.getMsbD_eq_getLsbD, BitVec.getLsbD_ofNat]
  by_cases h : i < n
  · rw [show 32 - 1 - (32 - n + i) = n - 1 - i by omega]
    simp [h, show n - 1 - i < 32 by omega, show 32 - n + i < 32 by omega]
  · simp [h, show ¬ 32 - n + i < 32 by omega]
theorem rv_lt (x n : Nat) (hn : n ≤ 32) : rv x n < 2 ^ n := by
  refine Nat.lt_pow_two_of_testBit _ fun i hi => ?_
  rw [rv_bit x n i hn]
  simp [show ¬ i < n by omega]
end Go.Proofs.YtdphifihneccoaaDoor.My

/- The walk of huff.Code's Take. -/
namespace Go.Proofs.YtdphifihneccoaaDoor.My
open Go.RowKit Go.Proofs.YtdphifihneccoaaDoor.Huf Go.Proofs.YtdphifihneccoaaDoorW.PrintWords Go.Proofs.YtdphifihneccoaaDoorW.PrintLast Go.Proofs.YtdphifihneccoaaDoorW.PrintMore
set_option maxRecDepth 100000
set_option linter.unusedVariables false
set_option linter.unusedSimpArgs false

theorem has_le (L : List Int) (hok : okL L = true) (s n : Nat) (h : Has L s n) : n ≤ 15 := by
  have h1 := h.1
  have hmem : L.getD s 0 ∈ L := by rw [List.getD_eq_getElem?_getD, List.getElem?_eq_getElem h1]; exact List.getElem_mem _
  have h2 := List.all_eq_true.1 hok _ hmem
  have h3 : 0 ≤ L.getD s 0 ∧ L.getD s 0 ≤ 15 := by simpa using h2
  rw [h.2.2] at h3
  omega
theorem takeR_short (L : List Int) (hok : okL L = true) (V a d : Nat) (hno : ∀ s n, n ≤ d → ¬ Fits L V a d s n) : TakeR L V a d 0 0 (some (if anyMeets L (cd V a d) d (15 - d) (d + 1) then 10 else 2)) := by
  have hno' : ∀ s n, ¬ Fits L V a d s n := fun s n h => hno s n h.2.1 h
  by_cases h : anyMeets L (cd V a d) d (15 - d) (d + 1) = true
  · rw [if_pos h]
    obtain ⟨m, h1, h2, h3⟩ := (anyMeets_iff L (cd V a d) d (15 - d) (d + 1)).1 h
    obtain ⟨s, hs, e⟩ := (meets_iff L (cd V a d) d m (by omega)).1 h3
    exact .ends hno' s m ⟨hs, by omega, e⟩
  · rw [if_neg h]
    refine .form hno' fun s n hc => h ((anyMeets_iff L (cd V a d) d (15 - d) (d + 1)).2 ⟨n, hc.2.1, ?_, (meets_iff L (cd V a d) d n hc.1.2.1).2 ⟨s, hc.1, hc.2.2⟩⟩)
    have := has_le L hok s n hc.1
    omega
theorem takeR_form (L : List Int) (hok : okL L = true) (V a left : Nat) (hl : 15 ≤ left) (hno : ∀ s n, n ≤ 15 → ¬ Fits L V a left s n) : TakeR L V a left 0 0 (some 2) :=
  .form (fun s n h => hno s n (has_le L hok s n h.1) h) (fun s n h => by have := has_le L hok s n h.1; have := h.2.1; omega)
theorem Gone.grown {w w1 : World} {g : Nat} (h : Gone w w1 g) : w.grownBy w1 (some g) := ⟨h.os, h.tape, h.output, h.keep.1, fun i hi hr => h.keep.2 i hi (fun e => hr (by rw [e])) (by simp)⟩
theorem or_nat63 (a b : Nat) (ha : a < 2 ^ 62) (hb : b < 2 ^ 62) : Go.bits .or .i64 a b = ((a ||| b : Nat) : Int) := by
  have hl : a ||| b < 2 ^ 62 := Nat.or_lt_two_pow ha hb
  show IntKind.i64.wrap ((BitVec.ofInt 64 (a : Int) ||| BitVec.ofInt 64 (b : Int)).toNat : Int) = _
  rw [BitVec.ofInt_natCast, BitVec.ofInt_natCast, BitVec.toNat_or, BitVec.toNat_ofNat, BitVec.toNat_ofNat, Nat.mod_eq_of_lt (by omega), Nat.mod_eq_of_lt (by omega), IntKind.wrap_i64]
  omega
theorem next_bit (c b : Nat) (hc : c ≤ 32768) (hb : b < 2) : Go.bits .or .i64 ((c : Int) * 2) (b : Int) = ((2 * c + b : Nat) : Int) := by
  have h := or_nat63 (2 * c) b (by omega) (by omega)
  rw [show ((2 * c : Nat) : Int) = (c : Int) * 2 by omega] at h
  rw [h, Nat.or_comm, show 2 * c = c * 2 ^ 1 by omega, or_low b c 1 (by omega), Nat.add_comm]
theorem held_bit (V a th d : Nat) (hd : d < th) (h15 : th ≤ 15) : Go.bits .and .u32 (((V / 2 ^ a % 2 ^ th : Nat) : Int) / 2 ^ d) 1 = ((bv V (a + d) : Nat) : Int) := by
  have h1 : V / 2 ^ a % 2 ^ th < 2 ^ th := Nat.mod_lt _ (Nat.two_pow_pos _)
  have h2 : 2 ^ th ≤ 2 ^ 15 := Nat.pow_le_pow_right (by decide) h15
  have h3 : V / 2 ^ a % 2 ^ th / 2 ^ d < 2 ^ 32 := Nat.lt_of_le_of_lt (Nat.div_le_self _ _) (Nat.lt_of_lt_of_le h1 (Nat.le_trans h2 (by decide)))
  rw [show ((V / 2 ^ a % 2 ^ th : Nat) : Int) / 2 ^ d = ((V / 2 ^ a % 2 ^ th / 2 ^ d : Nat) : Int) by simp, show (1 : Int) = ((1 : Nat) : Int) from rfl, and_nat32 _ 1 h3 (by decide), Nat.and_one_is_mod]
  congr 1
  unfold bv
  obtain ⟨e, rfl⟩ : ∃ e, th = d + (1 + e) := ⟨th - d - 1, by omega⟩
  rw [Nat.pow_add 2 d, Nat.mod_mul_right_div_self, Nat.pow_add 2 a d, ← Nat.div_div_eq_div_mul, Nat.pow_add, Nat.mod_mul_right_mod]
set_option maxHeartbeats 4000000 in
set_option maxRecDepth 100000 in
theorem take_calls (w : World) (lo hi g : Nat) (L : List Int) (k : CodeAt w lo hi g L) (hl : L.length ≤ 320) (hok : okL L = true) (hov : anyOver L 15 1 = false) (B gr : Nat) (v : Value) (V lb a : Nat) (hr : Rdr w B gr v V lb a) (hlb : lb ≤ 1000000) (hgr : gr < lo ∨ hi ≤ gr) :
    Calls Tryd.prog 60 #[.pointer (some ⟨g, 0, none⟩), .pointer (some ⟨gr, 0, none⟩)] w fun e w' => ∃ x n er, TakeR L V a (8 * lb - a) x n er ∧ e = .returned (.tuple #[.int .i64 x, errV er]) ∧ Rdr w' B gr v V lb (a + n) ∧ Gone w w' gr := by
  have HP : Aside0 (Calls Tryd.prog 58 #[.pointer (some ⟨gr, 0, none⟩), .int .i64 15] w fun e w' => e = .returned (.tuple #[.int .u32 (V / 2 ^ a % 2 ^ (min 15 (8 * lb - a)) : Nat), .int .i64 (min 15 (8 * lb - a) : Nat)]) ∧ ∃ m, w' = w.drewN m) := ⟨peek_calls w B gr v V lb a 15 (by omega) hr (by omega)⟩
  have HB : Aside0 (∀ (wx : World) (n : Nat), Rdr wx B gr v V lb a → Calls Tryd.prog 40 #[.pointer (some ⟨gr, 0, none⟩), .int .i64 n] wx fun e w' => e = .returned (.tuple #[.int .u32 (bitsX V a (8 * lb - a) n), errV (bitsE n (8 * lb - a))]) ∧ Rdr w' B gr v V lb (if (bitsE n (8 * lb - a)).isNone then a + n else a) ∧ Gone wx w' gr) := ⟨fun wx n h => rbits_calls wx B gr v V lb a n h (by omega)⟩
  have HS : Aside0 (∀ (m c len : Nat), c < 2 ^ len → len ≤ 15 → Calls Tryd.prog 65 #[.pointer (some ⟨g, 0, none⟩), .int .i64 c, .int .i64 len] (w.drewN m) fun e w' => e = .returned (errV (some (if anyMeets L c len (15 - len) (len + 1) then 10 else 2))) ∧ ∃ m', w' = (w.drewN m).drewN m') := ⟨fun m c len h1 h2 => short_calls _ lo hi g L (k.drewN m) (by omega) hov c len h1 h2⟩
  have HK := Aside0.mk k
  have HR := Aside0.mk hr
  have HOk := Aside0.mk hok
  have HOv := Aside0.mk hov
  have HGr := Aside0.mk hgr
  have HLe := Aside0.mk hr.le
  obtain ⟨A, A1, A2, c, c1, c2, S, kc, r0, r1, r2, hS, h1, h2⟩ := k.out
  have HC := Aside0.mk kc
  have HLn := Aside0.mk hl
  clear kc r0 r1 r2 hS k hr hok hov hgr hl
  obtain ⟨left, hleft⟩ : ∃ left, left = 8 * lb - a := ⟨_, rfl⟩
  rw [← hleft] at HP HB ⊢
  have HLeft := Aside0.mk hleft
  obtain ⟨th, hth⟩ : ∃ th, th = min 15 left := ⟨_, rfl⟩
  rw [← hth] at HP
  have HTh := Aside0.mk hth
  obtain ⟨held, hheld⟩ : ∃ held, held = V / 2 ^ a % 2 ^ th := ⟨_, rfl⟩
  rw [← hheld] at HP
  have HHeld := Aside0.mk hheld
  have t15 : (th : Int) ≤ 15 := by omega
  clear hleft hth hheld
  go_enter Tryd.func60, Tryd.ntmps60
  go_wp2_with (go_at_call 58; refine (HP.out).mono ?_; rintro e w1 ⟨rfl, m1, rfl⟩)
  go_loopg [8, 9] 15 (fun kq v8 v9 wr => ∃ d : Nat, v9 = .int .i64 ((d : Int) + 1) ∧ v8 = .int .i64 ((cd V a d : Nat) : Int) ∧ d ≤ 15 ∧ Aside0 (kq = 15 - d) ∧ Aside0 (d ≤ th) ∧ Aside0 (∃ m, wr = w.drewN m) ∧ Aside0 (∀ s n, n ≤ d → ¬ Fits L V a left s n))
  case atStart => exact ⟨0, rfl, rfl, by omega, ⟨rfl⟩, ⟨Nat.zero_le _⟩, ⟨m1, rfl⟩, ⟨fun s n hn h => h.1.2.1 (by omega)⟩⟩
  case round =>
    obtain ⟨d, rfl, rfl, hd, HKq, HDt, HW, HNo⟩ := hrel
    obtain ⟨m, rfl⟩ := HW.out
    by_cases hlt : d < 15
    · have hlt' : (d : Int) + 1 ≤ 15 := by omega
      by_cases hth : d < th
      · have hth' : (d : Int) + 1 ≤ (th : Int) := by omega
        have hcd := cd_lt V a d
        have h2d : 2 ^ d ≤ 2 ^ 15 := Nat.pow_le_pow_right (by decide) hd
        have h32 : cd V a d ≤ 32768 := Nat.le_trans (Nat.le_of_lt hcd) h2d
        have hcdi : ((cd V a d : Nat) : Int) ≤ 32768 := by omega
        have HCd := Aside0.mk hcd
        have hnext : Go.bits .or .i64 ((cd V a d : Int) * 2) (wrap64 (Go.bits .and .u32 ((held : Int) / 2 ^ d) 1)) = ((cd V a (d + 1) : Nat) : Int) := by
          have hb := bv_lt V (a + d)
          rw [HHeld.out, held_bit V a th d hth (by omega), wn _ (by omega) (by omega), next_bit _ _ h32 hb, cd]
        have hcd1 := cd_lt V a (d + 1)
        have h2d1 : 2 ^ (d + 1) ≤ 2 ^ 15 := Nat.pow_le_pow_right (by decide) hlt
        have h321 : cd V a (d + 1) ≤ 32768 := Nat.le_trans (Nat.le_of_lt hcd1) h2d1
        have hcdi1 : ((cd V a (d + 1) : Nat) : Int) ≤ 32768 := by omega
        have p1 : (0 : Int) ≤ ((cd V a (d + 1) : Nat) : Int) := by omega
        clear hcd h2d h32 hcd1 h2d1 h321
        go_upto_region 11 with fail
        clear hnext hcdi HCd
        have hF := pow15 (d + 1) _ (by omega) (fst_le L (d + 1) (fun j h1 h2 => over_all L 15 1 HOv.out j h1 (by omega)))
        have hN := Nat.le_trans (cn_le L (d + 1)) HLn.out
        have cf := HC.out.cf (d + 1) (by omega)
        rw [upto_get _ _ (d + 1) (by omega) (by omega)] at cf
        have cm := HC.out.cm (d + 1) (by omega)
        rw [tab_get _ (d + 1) (by omega), show Huf.c0 L (d + 1) = cn L (d + 1) by unfold Huf.c0; rw [if_neg (by omega)]] at cm
        have bF : ((fst L (d + 1) : Nat) : Int) ≤ 1000000 := by omega
        have bN : ((cn L (d + 1) : Nat) : Int) ≤ 320 := by omega
        have hit := range_has L (d + 1) (cd V a (d + 1)) (by omega)
        have HHit := Aside0.mk hit
        have hmiss : ∀ s n, n ≤ d + 1 → ¬ (fst L (d + 1) ≤ cd V a (d + 1) ∧ cd V a (d + 1) < fst L (d + 1) + cn L (d + 1)) → ¬ Fits L V a left s n := fun s n hn hno h => by
          by_cases e : n = d + 1
          · subst e
            have := has_range L s (d + 1) h.1
            rw [h.2.2] at this
            exact hno this
          · exact HNo.out s n (by omega) h
        have HMiss := Aside0.mk hmiss
        have HTHD := Aside0.mk hth
        clear hF hN hit hmiss
        generalize hXe : cd V a (d + 1) = X at *
        generalize hFe : fst L (d + 1) = F at *
        generalize hNe : cn L (d + 1) = N at *
        have HXe := Aside0.mk hXe
        have HFe := Aside0.mk hFe
        have HNe := Aside0.mk hNe
        clear hXe hFe hNe
        by_cases q1 : F ≤ X
        · have q1' : (0 : Int) ≤ (X : Int) - (F : Int) := by omega
          by_cases q2 : X < F + N
          · have q2' : (X : Int) - (F : Int) < (N : Int) := by omega
            obtain ⟨s, hs, hsc⟩ := range_has L (d + 1) X (by omega) (by rw [HFe.out]; exact q1) (by rw [HFe.out, HNe.out]; exact q2)
            have hfit : Fits L V a left s (d + 1) := ⟨hs, by have := HTh.out; have := HTHD.out; omega, by rw [hsc, HXe.out]⟩
            have HFit := Aside0.mk hfit
            have hcs := code_has L s (d + 1) hs
            rw [hsc, HFe.out] at hcs
            have hps := pos_eq L s (d + 1) hs.2.2
            have hpin := pos_in L s (d + 1) hs.1 (by omega) hlt hs.2.2
            rw [← hps] at hpin
            have HB1 : Aside0 (Calls Tryd.prog 40 #[.pointer (some ⟨gr, 0, none⟩), .int .i64 ((d : Int) + 1)] (w.drewN m) fun e w' => ∃ x, e = .returned (.tuple #[.int .u32 x, .nilIface]) ∧ Rdr w' B gr v V lb (a + (d + 1)) ∧ Gone (w.drewN m) w' gr) := ⟨by
              have h := HB.out (w.drewN m) (d + 1) (HR.out.drewN m)
              have hE : bitsE ((d + 1 : Nat) : Int) left = none := by
                unfold bitsE inW
                rw [if_pos (by simp; omega), if_pos (by have := hfit.2.1; omega)]
              rw [hE] at h
              rw [show ((d + 1 : Nat) : Int) = (d : Int) + 1 by omega] at h
              refine h.mono ?_
              rintro e w' ⟨rfl, h1, h2⟩
              exact ⟨_, rfl, h1, h2⟩⟩
            have hidx : ((beg L (d + 1) : Nat) : Int) + ((X : Int) - (F : Int)) = ((pos L s : Nat) : Int) := by omega
            have HPin := Aside0.mk hpin
            have HHs := Aside0.mk hs
            clear hfit hcs hps hpin hsc hs
            go_wp2_with fail
            refine (HB1.out).mono ?_
            rintro e w2 ⟨xb, rfl, hr2, hg2⟩
            have k2 := (HK.out.drewN m).grown hg2.grown (fun r e => by cases e; exact HGr.out)
            obtain ⟨A', A1', A2', c', c1', c2', S', kc2, r02, r12, r22, hS2, _, _⟩ := k2.out
            have d4 := kc2.c4
            have db := kc2.cb (d + 1) (by omega)
            rw [upto_get _ _ (d + 1) (by omega) (by omega)] at db
            obtain ⟨a1, rfl, e1⟩ := rb_at r12 (pos L s) HPin.out
            rw [hS2.2 s HHs.out.1 (by rw [HHs.out.2.2]; omega)] at e1
            have hpT : ((pos L s : Nat) : Int) < ((beg L 16 : Nat) : Int) := by have := HPin.out; omega
            have hT6 : ((beg L 16 : Nat) : Int) ≤ 320 := by have := beg_all L HOk.out 16; have := HLn.out; omega
            have hbg : ((beg L (d + 1) : Nat) : Int) ≤ 320 := by have := beg_all L HOk.out (d + 1); have := HLn.out; omega
            have HR2 := Aside0.mk hr2
            have HG2 := Aside0.mk hg2
            clear k2 kc2 r02 r12 r22 hS2 hr2 hg2
            generalize pos L s = P at *
            generalize beg L (d + 1) = Bg at *
            generalize beg L 16 = T at *
            go_wp2_with fail
            go_quiet (fail)
            go_wp2_with fail
            go_ret2
            exact ⟨_, _, none, .sign s (d + 1) HFit.out, rfl, HR2.out.drewN _, ((Gone.refl w gr).drewN m).trans (HG2.out.drewN _)⟩
          · have q2' : ¬ (X : Int) - (F : Int) < (N : Int) := by omega
            have HNo1 : Aside0 (∀ s n, n ≤ d + 1 → ¬ Fits L V a left s n) := ⟨fun s n hn => HMiss.out s n hn (fun h => q2 h.2)⟩
            go_wp2_with fail
            have e1 : (d : Int) + 1 + 1 = ((d + 1 : Nat) : Int) + 1 := by omega
            rw [e1]
            go_roundg (15 - (d + 1))
            case measure => have := HKq.out; omega
            case rel => exact ⟨d + 1, rfl, by rw [HXe.out], hlt, ⟨rfl⟩, ⟨HTHD.out⟩, ⟨_, rfl⟩, HNo1⟩
        · have q1' : ¬ (0 : Int) ≤ (X : Int) - (F : Int) := by omega
          have HNo1 : Aside0 (∀ s n, n ≤ d + 1 → ¬ Fits L V a left s n) := ⟨fun s n hn => HMiss.out s n hn (fun h => q1 h.1)⟩
          go_wp2_with fail
          have e1 : (d : Int) + 1 + 1 = ((d + 1 : Nat) : Int) + 1 := by omega
          rw [e1]
          go_roundg (15 - (d + 1))
          case measure => have := HKq.out; omega
          case rel => exact ⟨d + 1, rfl, by rw [HXe.out], hlt, ⟨rfl⟩, ⟨HTHD.out⟩, ⟨_, rfl⟩, HNo1⟩
      · have hdt : d = th := by have := HDt.out; omega
        have hdl : left = d := by have := HTh.out; omega
        have hth' : (th : Int) < (d : Int) + 1 := by omega
        have HT : Aside0 (TakeR L V a left 0 0 (some (if anyMeets L (cd V a d) d (15 - d) (d + 1) then 10 else 2))) := ⟨by
          rw [hdl]
          exact takeR_short L HOk.out V a d (fun s n hn => by have := HNo.out s n hn; rw [hdl] at this; exact this)⟩
        have HS1 := Aside0.mk (HS.out m (cd V a d) d (cd_lt V a d) hd)
        obtain ⟨r, hr⟩ : ∃ r : Int, r = if anyMeets L (cd V a d) d (15 - d) (d + 1) then 10 else 2 := ⟨_, rfl⟩
        rw [← hr] at HS1 HT
        have hcd := cd_lt V a d
        have h2d : 2 ^ d ≤ 2 ^ 15 := Nat.pow_le_pow_right (by decide) hd
        have h32 : cd V a d ≤ 32768 := Nat.le_trans (Nat.le_of_lt hcd) h2d
        clear hr hdl hdt hcd h2d h32
        generalize cd V a d = X at *
        go_wp2_with fail
        refine (HS1.out).mono ?_
        rintro e w2 ⟨rfl, m2, rfl⟩
        simp only [errV]
        go_wp2_with fail
        go_ret2
        exact ⟨_, _, _, HT.out, rfl, (HR.out.drewN _).drewN _, ((Gone.refl w gr).drewN m).drewN _⟩
    · have hd15 : d = 15 := by omega
      have HT : Aside0 (TakeR L V a left 0 0 (some 2)) := ⟨takeR_form L HOk.out V a left (by have := HTh.out; have := HDt.out; omega) (fun s n hn => HNo.out s n (by omega))⟩
      have hlt' : ¬ (d : Int) + 1 ≤ 15 := by omega
      go_wp2_with fail
      go_ret2
      exact ⟨_, _, _, HT.out, rfl, HR.out.drewN _, (Gone.refl w gr).drewN m⟩
theorem taken_calls (w : World) (v : Value) : Calls Tryd.prog 60 #[.pointer none, v] w fun e w' => e = .returned (.tuple #[.int .i64 0, errV (some 4)]) ∧ w = w' := by
  go_enter Tryd.func60, Tryd.ntmps60
  go_wp2
  go_ret2
  exact ⟨rfl, rfl⟩
theorem takeg_calls (w : World) (a : Addr) : Calls Tryd.prog 60 #[.pointer (some a), .pointer none] w fun e w' => e = .returned (.tuple #[.int .i64 0, errV (some 4)]) ∧ w = w' := by
  go_enter Tryd.func60, Tryd.ntmps60
  go_wp2
  go_ret2
  exact ⟨rfl, rfl⟩
end Go.Proofs.YtdphifihneccoaaDoor.My

/- The walks of guard: faults that are thrown, and caught. -/
namespace Go.Proofs.YtdphifihneccoaaDoor.My
open Go.RowKit Go.Proofs.YtdphifihneccoaaDoorW.PrintWords Go.Proofs.YtdphifihneccoaaDoorW.PrintLast Go.Proofs.YtdphifihneccoaaDoorW.PrintMore
set_option maxRecDepth 100000

/-- A fault as an error; what lies behind it. -/
abbrev fltV (g : Nat) : Value := .iface 66 (.pointer (some ⟨g, 0, none⟩))
structure Flt (w : World) (g : Nat) (c : Int) (s : ByteArray) : Prop where mk :: (out : w.heap[g]? = some (.cells #[.int .i64 c, .string s] 74 (0, 0)))
theorem Flt.below {w w1 : World} {g : Nat} {c : Int} {s : ByteArray} (h : Flt w g c s) (hb : Below w.heap.size w w1) : Flt w1 g c s := ⟨(hb.block g (blk_lt h.out)).trans h.out⟩
theorem Flt.drewN {w : World} {g : Nat} {c : Int} {s : ByteArray} (h : Flt w g c s) (n : Nat) : Flt (w.drewN n) g c s := ⟨h.out⟩
theorem Flt.grown {w w1 : World} {g : Nat} {c : Int} {s : ByteArray} {row : Option Nat} (h : Flt w g c s) (hg : w.grownBy w1 row) (hne : some g ≠ row) : Flt w1 g c s := ⟨blk_grown h.out hg hne⟩

theorem post_panic {P : Program} {fn : Func} {R : Ending → World → Prop} {chain : List PanicEntry} {a : Act} {w : World} (hd : a.defers = []) (h : R (.panicked chain) w) : bodyPost P fn R (.panic chain) a w := ⟨hd, h⟩
theorem throw_calls (c : Int) (s : ByteArray) (w : World) :
    Calls Tryd.prog 53 #[.int .i64 c, .string s] w fun e w' => e = .panicked [{ v := fltV w.heap.size, recovered := false }] ∧ w' = w.alloc (.cells #[.int .i64 c, .string s] 74) := by
  go_enter Tryd.func53, Tryd.ntmps53
  go_wp2
  exact post_panic rfl ⟨rfl, rfl⟩
/-- A nil fault as an error; an error of a number. -/
abbrev fltN : Value := .iface 66 (.pointer none)
abbrev numV (c : Int) : Value := .iface 39 (.int .i64 c)
theorem code_nil (w : World) : Calls Tryd.prog 16 #[.nilIface] w fun e w' => e = .returned (.int .i64 0) ∧ w = w' := by
  go_enter Tryd.func16, Tryd.ntmps16
  go_wp2
  go_ret
  exact ⟨rfl, rfl⟩
theorem code_flt (g : Nat) (c : Int) (s : ByteArray) (w : World) (h : Flt w g c s) : Calls Tryd.prog 16 #[fltV g] w fun e w' => e = .returned (.int .i64 c) ∧ w = w' := by
  have c0 : w.cell? ⟨g, 0, none⟩ = some (.int .i64 c) := by rw [blk_cell h.out]; rfl
  have hta : ∀ (v : Value) (W : World), (Instr.typeAssert (.iface 66 v) 27 66 true).run Tryd.prog W = .ok (.tuple #[v, .bool true]) W := fun _ _ => rfl
  clear h
  show Calls Tryd.prog 16 #[.iface 66 (.pointer (some ⟨g, 0, none⟩))] w _
  go_enter Tryd.func16, Tryd.ntmps16
  go_wp2
  go_ret
  exact ⟨rfl, rfl⟩
theorem code_err (c : Int) (w : World) : Calls Tryd.prog 16 #[numV c] w fun e w' => e = .returned (.int .i64 c) ∧ w = w' := by
  have htb : ∀ (v : Value) (W : World), (Instr.typeAssert (.iface 39 v) 27 66 true).run Tryd.prog W = .ok (.tuple #[.pointer none, .bool false]) W := fun _ _ => rfl
  have htc : ∀ (v : Value) (W : World), (Instr.typeAssert (.iface 39 v) 27 39 true).run Tryd.prog W = .ok (.tuple #[v, .bool true]) W := fun _ _ => rfl
  show Calls Tryd.prog 16 #[.iface 39 (.int .i64 c)] w _
  go_enter Tryd.func16, Tryd.ntmps16
  go_wp2
  go_ret
  exact ⟨rfl, rfl⟩
theorem code_fltN (w : World) : Calls Tryd.prog 16 #[fltN] w fun e w' => e = .returned (.int .i64 11) ∧ w = w' := by
  have hta : ∀ (v : Value) (W : World), (Instr.typeAssert (.iface 66 v) 27 66 true).run Tryd.prog W = .ok (.tuple #[v, .bool true]) W := fun _ _ => rfl
  have htd : ∀ (v : Value) (W : World), (Instr.typeAssert (.iface 66 v) 27 39 true).run Tryd.prog W = .ok (.tuple #[.int .i64 0, .bool false]) W := fun _ _ => rfl
  show Calls Tryd.prog 16 #[.iface 66 (.pointer none)] w _
  go_enter Tryd.func16, Tryd.ntmps16
  go_wp2
  go_ret
  exact ⟨rfl, rfl⟩
theorem where_nil (w : World) : Calls Tryd.prog 59 #[.nilIface] w fun e w' => e = .returned (.string ⟨#[]⟩) ∧ w = w' := by
  have htn : ∀ (W : World), (Instr.typeAssert .nilIface 27 66 true).run Tryd.prog W = .ok (.tuple #[.pointer none, .bool false]) W := fun _ => rfl
  show Calls Tryd.prog 59 #[.nilIface] w _
  go_enter Tryd.func59, Tryd.ntmps59
  go_wp2
  go_ret
  exact ⟨rfl, rfl⟩
theorem where_err (c : Int) (w : World) : Calls Tryd.prog 59 #[numV c] w fun e w' => e = .returned (.string ⟨#[]⟩) ∧ w = w' := by
  have htb : ∀ (v : Value) (W : World), (Instr.typeAssert (.iface 39 v) 27 66 true).run Tryd.prog W = .ok (.tuple #[.pointer none, .bool false]) W := fun _ _ => rfl
  have htc : ∀ (v : Value) (W : World), (Instr.typeAssert (.iface 39 v) 27 39 true).run Tryd.prog W = .ok (.tuple #[v, .bool true]) W := fun _ _ => rfl
  show Calls Tryd.prog 59 #[.iface 39 (.int .i64 c)] w _
  go_enter Tryd.func59, Tryd.ntmps59
  go_wp2
  go_ret
  exact ⟨rfl, rfl⟩
theorem where_fltN (w : World) : Calls Tryd.prog 59 #[fltN] w fun e w' => e = .returned (.string ⟨#[]⟩) ∧ w = w' := by
  have hta : ∀ (v : Value) (W : World), (Instr.typeAssert (.iface 66 v) 27 66 true).run Tryd.prog W = .ok (.tuple #[v, .bool true]) W := fun _ _ => rfl
  show Calls Tryd.prog 59 #[.iface 66 (.pointer none)] w _
  go_enter Tryd.func59, Tryd.ntmps59
  go_wp2
  go_ret
  exact ⟨rfl, rfl⟩
theorem where_flt (g : Nat) (c : Int) (s : ByteArray) (w : World) (h : Flt w g c s) : Calls Tryd.prog 59 #[fltV g] w fun e w' => e = .returned (.string s) ∧ w = w' := by
  have c1 : w.cell? ⟨g, 1, none⟩ = some (.string s) := by rw [blk_cell h.out]; rfl
  clear h
  have hta : ∀ (v : Value) (W : World), (Instr.typeAssert (.iface 66 v) 27 66 true).run Tryd.prog W = .ok (.tuple #[v, .bool true]) W := fun _ _ => rfl
  show Calls Tryd.prog 59 #[.iface 66 (.pointer (some ⟨g, 0, none⟩))] w _
  go_enter Tryd.func59, Tryd.ntmps59
  go_wp2
  go_ret
  exact ⟨rfl, rfl⟩
end Go.Proofs.YtdphifihneccoaaDoor.My

/- The walk of guard.Try: a fault is caught. -/
namespace Go.Proofs.YtdphifihneccoaaDoor.My
open Go.RowKit Go.Proofs.YtdphifihneccoaaDoorW.PrintWords Go.Proofs.YtdphifihneccoaaDoorW.PrintLast Go.Proofs.YtdphifihneccoaaDoorW.PrintMore
set_option maxRecDepth 100000

theorem catch_flt (b : Nat) (x : Value) (g : Nat) (older : List PanicEntry) (w : World) (hc : w.cell? ⟨b, 0, none⟩ = some x) (hz : w.frozen? ⟨b, 0, none⟩ = false) :
    CallsD Tryd.prog 27 #[.pointer (some ⟨b, 0, none⟩)] (.panicking ({ v := fltV g, recovered := false } :: older)) w fun e u' w' =>
      e = .returned (.tuple #[]) ∧ u' = .panicking ({ v := fltV g, recovered := true } :: older) ∧ w' = w.setCell ⟨b, 0, none⟩ (fltV g) := by
  have hta : ∀ (v : Value) (W : World), (Instr.typeAssert (.iface 66 v) 20 66 true).run Tryd.prog W = .ok (.tuple #[v, .bool true]) W := fun _ _ => rfl
  unfold fltV
  refine callsD_of_wpS Tryd.func27 rfl fun c₀ cs hu => ?_
  apply wpS_seq
  apply wpS_region
  simp [wpOpsS, go_sem, recoverD, hu, Tryd.ntmps27, Exit.thenS]
  rw [show ∀ (p v : Value), #[p] ++ (Array.replicate 11 undef).setIfInBounds 3 v = #[p, undef, undef, undef, v, undef, undef, undef, undef, undef, undef, undef] from fun _ _ => rfl]
  refine wpS_of_wp ?_
  clear hu
  go_wp2
  simp [bodyPostS, results, Tryd.results27]
theorem catch_idle (b : Nat) (w : World) :
    CallsD Tryd.prog 27 #[.pointer (some ⟨b, 0, none⟩)] .returning w fun e u' w' => e = .returned (.tuple #[]) ∧ u' = .returning ∧ w' = w := by
  refine callsD_of_wpS Tryd.func27 rfl fun c₀ cs hu => ?_
  apply wpS_seq
  apply wpS_region
  simp [wpOpsS, go_sem, recoverD, hu, Tryd.ntmps27, Exit.thenS]
  rw [show ∀ (p v : Value), #[p] ++ (Array.replicate 11 undef).setIfInBounds 3 v = #[p, undef, undef, undef, v, undef, undef, undef, undef, undef, undef, undef] from fun _ _ => rfl]
  refine wpS_of_wp ?_
  have HU := Aside0.mk hu
  clear hu
  go_wp2
  have hu := HU.out
  cases c₀
  simp_all [bodyPostS, results, Tryd.results27]
/-- What isn't a fault goes on: it is panicked with anew. -/
theorem catch_int (b : Nat) (n : Int) (older : List PanicEntry) (w : World) :
    CallsD Tryd.prog 27 #[.pointer (some ⟨b, 0, none⟩)] (.panicking ({ v := .iface 3 (.int .i64 n), recovered := false } :: older)) w fun e u' w' =>
      e = .panicked [{ v := .iface 3 (.int .i64 n), recovered := false }] ∧ u' = .panicking ({ v := .iface 3 (.int .i64 n), recovered := true } :: older) ∧ w' = w := by
  have hta : ∀ (v : Value) (W : World), (Instr.typeAssert (.iface 3 v) 20 66 true).run Tryd.prog W = .ok (.tuple #[.pointer none, .bool false]) W := fun _ _ => rfl
  refine callsD_of_wpS Tryd.func27 rfl fun c₀ cs hu => ?_
  apply wpS_seq
  apply wpS_region
  simp [wpOpsS, go_sem, recoverD, hu, Tryd.ntmps27, Exit.thenS]
  rw [show ∀ (p v : Value), #[p] ++ (Array.replicate 11 undef).setIfInBounds 3 v = #[p, undef, undef, undef, v, undef, undef, undef, undef, undef, undef, undef] from fun _ _ => rfl]
  refine wpS_of_wp ?_
  clear hu
  go_wp2
  simp [bodyPostS]
/-- What a function does that is handed to Try: it ends, or it throws a fault; the variable that Try has made stays as it is. -/
def Ends (k : Nat) (D : World → Prop) (T : Nat → World → Prop) (e : Ending) (w : World) : Prop :=
  w.heap[k]? = some (.cells #[.nilIface] 27 (0, 0)) ∧ ((∃ v, e = .returned v ∧ D w) ∨ (∃ g, e = .panicked [{ v := fltV g, recovered := false }] ∧ T g w))
/-- What Try answers then. -/
def Tried (k : Nat) (D : World → Prop) (T : Nat → World → Prop) (e : Ending) (w : World) : Prop :=
  (e = .returned .nilIface ∧ ∃ w1, D w1 ∧ w = w1.setCell ⟨k, 0, none⟩ .nilIface) ∨ (∃ g, e = .returned (fltV g) ∧ ∃ w1, T g w1 ∧ w = w1.setCell ⟨k, 0, none⟩ (fltV g))
theorem try_fun (F : FuncId) (cap : Array Value) (w : World) (D : World → Prop) (T : Nat → World → Prop)
    (hcf : ∀ W : World, (callFunc F cap).run Tryd.prog W = .ok (.enter F cap) W)
    (hR : Calls Tryd.prog F cap (w.alloc (.cells #[.nilIface] 27)) (Ends w.heap.size D T)) :
    Calls Tryd.prog 13 #[.func (.func F) #[] cap] w (Tried w.heap.size D T) := by
  have hmf : ∀ (fn : Fn) (first cap : Array Value) (w : World), (Instr.makeFunc fn first cap).run Tryd.prog w = .ok (.func fn first cap) w := fun _ _ _ _ => rfl
  have hnf : ∀ (fn : Fn) (first cap : Array Value) (W : World), (Go.binOp .eql 1 (Value.func fn first cap) Value.nilFunc).run Tryd.prog W = .ok (.bool false) W := fun _ _ _ _ => rfl
  have HR := Aside0.mk hR
  clear hR
  go_enter_defers Tryd.func13, Tryd.ntmps13
  go_wp2_with fail
  refine HR.out.mono ?_
  rintro e w1 ⟨hb, ⟨v, rfl, hD⟩ | ⟨g, rfl, hT⟩⟩
  · have hc : w1.cell? ⟨w.heap.size, 0, none⟩ = some .nilIface := by rw [blk_cell hb]; rfl
    have hz : w1.frozen? ⟨w.heap.size, 0, none⟩ = false := blk_frozen hb 0
    have HD := Aside0.mk hD
    have HB := Aside0.mk hb
    clear hD hb
    go_wp2
    refine leaves_cons (f := 27) (args := #[.pointer (some ⟨w.heap.size, 0, none⟩)]) (by simp) (by simp [go_sem]) ?_
    refine (catch_idle w.heap.size _).mono ?_
    rintro e u' w'' ⟨rfl, rfl, rfl⟩
    have hb' := blk_set HB.out 0 .nilIface
    simp [Leaves, settle, results, Tryd.results13, go_sem, hc]
    exact .inl ⟨rfl, w1, HD.out, rfl⟩
  · have hc : w1.cell? ⟨w.heap.size, 0, none⟩ = some .nilIface := by rw [blk_cell hb]; rfl
    have hz : w1.frozen? ⟨w.heap.size, 0, none⟩ = false := blk_frozen hb 0
    have HT := Aside0.mk hT
    have HB := Aside0.mk hb
    clear hT hb
    go_wp2
    refine leaves_cons (f := 27) (args := #[.pointer (some ⟨w.heap.size, 0, none⟩)]) (by simp) (by simp [go_sem]) ?_
    refine (catch_flt w.heap.size .nilIface g [] _ hc hz).mono ?_
    rintro e u' w'' ⟨rfl, rfl, rfl⟩
    simp [Leaves, settle, results, Tryd.results13, go_sem, hc]
    exact .inr ⟨g, rfl, w1, HT.out, rfl⟩
end Go.Proofs.YtdphifihneccoaaDoor.My

/- The walks of guard.In and guard.Pass. -/
namespace Go.Proofs.YtdphifihneccoaaDoor.My
open Go.RowKit Go.Proofs.YtdphifihneccoaaDoorW.PrintWords Go.Proofs.YtdphifihneccoaaDoorW.PrintLast Go.Proofs.YtdphifihneccoaaDoorW.PrintMore
set_option maxRecDepth 100000

theorem Flt.set {w : World} {g k : Nat} {c : Int} {s : ByteArray} {x : Value} (h : Flt w g c s) (hk : w.heap[k]? = some (.cells #[x] 27 (0, 0))) (v : Value) : Flt (w.setCell ⟨k, 0, none⟩ v) g c s := by
  refine ⟨?_⟩
  have hne : g ≠ k := by
    rintro rfl
    rw [h.out] at hk
    simp at hk
  rw [Below.heap_setCell w ⟨k, 0, none⟩ v g hne]
  exact h.out
/-- A place ahead of a place. -/
def joinW (a b : ByteArray) : ByteArray := if b.toList.isEmpty then a else a ++ (⟨#[46]⟩ ++ b)
theorem pass_nil (w : World) : Calls Tryd.prog 41 #[.nilIface] w fun e w' => e = .returned (.tuple #[]) ∧ w = w' := by
  go_enter Tryd.func41, Tryd.ntmps41
  go_wp2
  go_end0
  exact ⟨rfl, rfl⟩
theorem pass_flt (g : Nat) (c : Int) (s : ByteArray) (w : World) (h : Flt w g c s) : Calls Tryd.prog 41 #[fltV g] w fun e w' =>
    e = .panicked [{ v := fltV w.heap.size, recovered := false }] ∧ w' = w.alloc (.cells #[.int .i64 c, .string s] 74) := by
  have H1 := Aside0.mk h
  clear h
  go_enter Tryd.func41, Tryd.ntmps41
  go_wp2_with (first
    | (go_at_call 59; refine (where_flt g c s _ H1.out).mono ?_; rintro e w2 ⟨rfl, rfl⟩)
    | (go_at_call 16; refine (code_flt g c s _ H1.out).mono ?_; rintro e w2 ⟨rfl, rfl⟩)
    | (go_at_call 53; refine (throw_calls _ _ _).mono ?_; rintro e w2 ⟨rfl, rfl⟩))
  exact post_panic rfl ⟨rfl, rfl⟩
theorem pass_err (c : Int) (w : World) : Calls Tryd.prog 41 #[numV c] w fun e w' =>
    e = .panicked [{ v := fltV w.heap.size, recovered := false }] ∧ w' = w.alloc (.cells #[.int .i64 c, .string ⟨#[]⟩] 74) := by
  go_enter Tryd.func41, Tryd.ntmps41
  go_wp2_with (first
    | (go_at_call 59; refine (where_err c _).mono ?_; rintro e w2 ⟨rfl, rfl⟩)
    | (go_at_call 16; refine (code_err c _).mono ?_; rintro e w2 ⟨rfl, rfl⟩)
    | (go_at_call 53; refine (throw_calls _ _ _).mono ?_; rintro e w2 ⟨rfl, rfl⟩))
  exact post_panic rfl ⟨rfl, rfl⟩
end Go.Proofs.YtdphifihneccoaaDoor.My

/- Try and In over functions that leave what was there alone: short rules. -/
namespace Go.Proofs.YtdphifihneccoaaDoor.My
open Go.RowKit Go.Proofs.YtdphifihneccoaaDoorW.PrintWords Go.Proofs.YtdphifihneccoaaDoorW.PrintLast Go.Proofs.YtdphifihneccoaaDoorW.PrintMore
set_option maxRecDepth 100000

/-- A fault is thrown; nothing that was there has turned. -/
def Throws (c : Int) (s : ByteArray) (W : World) (e : Ending) (w' : World) : Prop :=
  ∃ w2, Below W.heap.size W w2 ∧ e = .panicked [{ v := fltV w2.heap.size, recovered := false }] ∧ w' = w2.alloc (.cells #[.int .i64 c, .string s] 74)
/-- It ends; nothing that was there has turned. -/
def Quiet (W : World) (e : Ending) (w' : World) : Prop := (∃ v, e = .returned v) ∧ Below W.heap.size W w'

theorem throw_throws (c : Int) (s : ByteArray) (W : World) : Calls Tryd.prog 53 #[.int .i64 c, .string s] W (Throws c s W) :=
  (throw_calls c s W).mono fun _ _ ⟨h1, h2⟩ => ⟨W, Below.refl _ _, h1, h2⟩
theorem below_from {W w1 : World} {o : Obj} (h : Below (W.alloc o).heap.size (W.alloc o) w1) : Below W.heap.size W w1 :=
  below_then (below_alloc (Below.refl _ _) o) (by simp) h
theorem kept_new {W w1 : World} {o : Obj} (h : Below (W.alloc o).heap.size (W.alloc o) w1) : w1.heap[W.heap.size]? = some o := by
  rw [h.block W.heap.size (by simp)]
  exact alloc_self W o
theorem ends_throws {c : Int} {s : ByteArray} {W : World} {e : Ending} {w' : World} (h : Throws c s (W.alloc (.cells #[.nilIface] 27)) e w') :
    Ends W.heap.size (fun _ => False) (fun g w1 => ∃ c' s', Flt w1 g c' s' ∧ (c' = c ∧ s' = s ∧ Below W.heap.size W w1 ∧ w1.heap[W.heap.size]? = some (.cells #[.nilIface] 27 (0, 0))) ∧ w1.heap[W.heap.size]? = some (.cells #[.nilIface] 27 (0, 0))) e w' := by
  obtain ⟨w2, hb, rfl, rfl⟩ := h
  have h2 := below_alloc hb (.cells #[.int .i64 c, .string s] 74)
  have hk := kept_new h2
  exact ⟨hk, .inr ⟨_, rfl, c, s, ⟨alloc_self _ _⟩, ⟨rfl, rfl, below_from h2, hk⟩, hk⟩⟩
theorem ends_throws' {c : Int} {s : ByteArray} {W : World} {e : Ending} {w' : World} (h : Throws c s (W.alloc (.cells #[.nilIface] 27)) e w') :
    Ends W.heap.size (fun _ => False) (fun g w1 => Flt w1 g c s ∧ Below W.heap.size W w1 ∧ w1.heap[W.heap.size]? = some (.cells #[.nilIface] 27 (0, 0)) ∧ W.heap.size < g) e w' := by
  obtain ⟨w2, hb, rfl, rfl⟩ := h
  have h2 := below_alloc hb (.cells #[.int .i64 c, .string s] 74)
  have hk := kept_new h2
  exact ⟨hk, .inr ⟨_, rfl, ⟨alloc_self _ _⟩, below_from h2, hk, by have := hb.size; simp at this; omega⟩⟩
theorem try_throws (F : FuncId) (cap : Array Value) (c : Int) (s : ByteArray) (W : World) (hcf : ∀ W : World, (callFunc F cap).run Tryd.prog W = .ok (.enter F cap) W)
    (h : Calls Tryd.prog F cap (W.alloc (.cells #[.nilIface] 27)) (Throws c s (W.alloc (.cells #[.nilIface] 27)))) :
    Calls Tryd.prog 13 #[.func (.func F) #[] cap] W fun e w' => ∃ g, e = .returned (fltV g) ∧ Flt w' g c s ∧ Below W.heap.size W w' ∧ W.heap.size < g := by
  refine (try_fun F cap W _ _ hcf (h.mono fun _ _ h => ends_throws' h)).mono ?_
  rintro e w' (⟨_, w1, hD, _⟩ | ⟨g, rfl, w1, ⟨hF, hb, hk, hg⟩, rfl⟩)
  · exact hD.elim
  · exact ⟨g, rfl, hF.set hk _, hb.setCell (Nat.le_refl _) _, hg⟩
theorem ends_quiet {W : World} {e : Ending} {w' : World} (T : Nat → World → Prop) (h : Quiet (W.alloc (.cells #[.nilIface] 27)) e w') :
    Ends W.heap.size (fun w1 => Below W.heap.size W w1) T e w' := by
  obtain ⟨⟨v, rfl⟩, hb⟩ := h
  exact ⟨kept_new hb, .inl ⟨v, rfl, below_from hb⟩⟩
theorem try_quiet (F : FuncId) (cap : Array Value) (W : World) (hcf : ∀ W : World, (callFunc F cap).run Tryd.prog W = .ok (.enter F cap) W)
    (h : Calls Tryd.prog F cap (W.alloc (.cells #[.nilIface] 27)) (Quiet (W.alloc (.cells #[.nilIface] 27)))) :
    Calls Tryd.prog 13 #[.func (.func F) #[] cap] W fun e w' => e = .returned .nilIface ∧ Below W.heap.size W w' := by
  refine (try_fun F cap W _ (fun _ _ => False) hcf (h.mono fun _ _ h => ends_quiet _ h)).mono ?_
  rintro e w' (⟨rfl, w1, hD, rfl⟩ | ⟨g, rfl, w1, hF, rfl⟩)
  · exact ⟨rfl, hD.setCell (Nat.le_refl _) _⟩
  · exact hF.elim
end Go.Proofs.YtdphifihneccoaaDoor.My

/- Slices of slices of numbers: the run of 'xs[a:]', what it reads as, and that it is nil only where it is empty. -/
namespace Go.Proofs.YtdphifihneccoaaDoor.My
open Go.RowKit Go.Proofs.YtdphifihneccoaaDoorW.PrintWords Go.Proofs.YtdphifihneccoaaDoorW.PrintLast Go.Proofs.YtdphifihneccoaaDoorW.PrintMore

theorem cut_from {P : Program} {k : IntKind} (t e : TypeId) {i : TypeInfo} (ht : P.underlying t = some (.slice e)) (hi : P.info? e = some i) (hsz : i.size = 1) (A : Option Addr) (n c : Nat) (xs : List Int) (a : Nat) (hm : a ≤ n) (hl : xs.length = n) (hc : n ≤ c) (hcap : A = none → n = 0 ∧ c = 0) :
    ∃ A' : Option Addr, (∀ (kl : IntKind) (W : World), (Instr.slice t (.slice A n c) (some (.int kl a)) none none).run P W = .ok (.slice A' (n - a) (c - a)) W) ∧
      (∀ w : World, (Kd.int k).C w A n xs → (Kd.int k).C w A' (n - a) (xs.drop a)) ∧ (A' = none → n - a = 0 ∧ c - a = 0) := by
  subst hl
  have hll : (xs.drop a).length = xs.length - a := by rw [List.length_drop]
  refine ⟨if c = a then A else A.map (·.add a), fun kl W => ?_, fun w h => ?_, fun h => ?_⟩
  · have hel : P.elem t = e := by simp [Program.elem, ht]
    have hu : P.underlying t = some (.slice (P.elem t)) := by rw [hel]; exact ht
    rw [run_slice_l W t A xs.length c hu kl a (by omega) (by omega), hel]
    simp [sizeOf, typeInfo, hi, hsz, sliced, Result.andThen]
  · have h2 := (reads_of_C h).drop_ (c := c) a (by omega) (by omega)
    rw [← hll]
    refine Kd.C_of_reads (d := 0) ?_
    rw [hll]
    exact h2
  · by_cases e : c = a
    · rw [if_pos e] at h
      have := hcap h
      omega
    · rw [if_neg e] at h
      have hA : A = none := by cases A with
        | none => rfl
        | some x => simp at h
      have := hcap hA
      omega
end Go.Proofs.YtdphifihneccoaaDoor.My

/- How a law's arguments come in: a slice of numbers as the words of the print have it. No program in sight. -/
namespace Go.Proofs.YtdphifihneccoaaDoor.My
open Go.RowKit Go.Proofs.YtdphifihneccoaaDoorW.PrintWords
set_option maxRecDepth 100000

def IsRow (k : IntKind) (w : World) (a : Option Addr) (len cap : Nat) (zs : List Int) : Prop :=
  (a = none ∧ len = 0 ∧ cap = 0 ∧ zs = []) ∨
  ∃ x, a = some x ∧ len ≤ cap ∧ cap ≤ maxLen ∧ zs.length = cap ∧ (∀ i, i < zs.length → w.cell? (x.add i) = some (.int k (zs.getD i 0))) ∧ ∀ n ∈ zs, (Lit.int k n).wf = true

theorem row_C {k : IntKind} {w : World} {a : Option Addr} {len cap : Nat} {zs : List Int} (h : IsRow k w a len cap zs) :
    ∃ l : List Int, l.length = len ∧ len ≤ cap ∧ (Kd.int k).C w a l.length l ∧ ∀ n ∈ l, (Lit.int k n).wf = true := by
  rcases h with ⟨rfl, rfl, rfl, rfl⟩ | ⟨x, rfl, h1, h2, h3, h4, h5⟩
  · exact ⟨[], rfl, Nat.le_refl _, Kd.C_nil _ _, fun n hn => by simp at hn⟩
  · have hl : (zs.take len).length = len := by rw [List.length_take]; omega
    refine ⟨zs.take len, hl, h1, Kd.C_of_reads (d := 0) ⟨rfl, by unfold maxLen at h2; omega, fun hn => ⟨x, rfl, fun j hj => ?_⟩⟩, fun n hn => h5 n (List.mem_of_mem_take hn)⟩
    have hj' : j < len := by omega
    rw [h4 j (by omega)]
    simp [List.getD_eq_getElem?_getD, hj']
theorem strs_C {w : World} {x : Addr} {len cap : Nat} {ss : List ByteArray} (hl : len ≤ cap) (hm : cap ≤ maxLen) (hz : ss.length = cap)
    (hc : ∀ i, i < ss.length → w.cell? (x.add i) = some (.string (ss.getD i ByteArray.empty))) : ∃ l : List ByteArray, l.length = len ∧ len ≤ cap ∧ Kd.string.C w (some x) l.length l := by
  have h : (ss.take len).length = len := by rw [List.length_take]; omega
  refine ⟨ss.take len, h, hl, Kd.C_of_reads (d := ByteArray.empty) ⟨rfl, by unfold maxLen at hm; omega, fun hn => ⟨x, rfl, fun j hj => ?_⟩⟩⟩
  have hj' : j < len := by omega
  rw [hc j (by omega)]
  simp [List.getD_eq_getElem?_getD, hj']
end Go.Proofs.YtdphifihneccoaaDoor.My
