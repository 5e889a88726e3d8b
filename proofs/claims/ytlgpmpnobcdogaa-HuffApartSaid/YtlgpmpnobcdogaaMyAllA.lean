/- MyBase, MyBytes, MyCod, MyHuffP, MyCount, MyNumber, MySortP, MySort, MyCloneI, MyCodeAt, MyNew, MyOf, MyArgs: laid into one text by merge.py. -/
import Derived.Test.YtlgpmpnobcdogaaProg
import Derived.Test.YtlgpmpnobcdogaaWWords
import Derived.Test.YtlgpmpnobcdogaaWMore
import Derived.Laws.Rows
import Derived.Lib.SlBytesConst
import Derived.WalkKit
import Derived.KernelRfl
import Derived.Deep.LoopGhost
import Derived.Deep.QuietTactic
import Derived.BigQuiet
import Derived.Deep.DeepCutAuto
import Derived.Deep.CutBlock
import Derived.WalkSpells
import Derived.WalkLawsBesides
import Derived.Outline
import Derived.RegionTactic
import Derived.Deep.RegionLaw
import Derived.BigRegion
import Derived.Test.YtlgpmpnobcdogaaWSized

/- Small words for walks: blocks of bytes known whole, slices of the call's own. No program in sight but for its byte type's row. -/
namespace Go.Proofs.Ytlgpmpnobcdogaa.My
open Go.RowKit Go.Proofs.YtlgpmpnobcdogaaW.PrintWords Go.Proofs.YtlgpmpnobcdogaaW.PrintLast Go.Proofs.YtlgpmpnobcdogaaW.PrintMore

theorem alloc_self (w : World) (o : Obj) : (w.alloc o).heap[w.heap.size]? = some o := by
  show (w.heap.push o)[w.heap.size]? = _
  simp
theorem C_block (w : World) (g : Nat) (k : IntKind) (xs : List Int) (e : TypeId) (fr : Nat × Nat) (h : w.heap[g]? = some (.cells (nums k xs).toArray e fr)) (hm : xs.length ≤ 9223372036854775807) :
    Kd.C (Kd.int k) w (some ⟨g, 0, none⟩) xs.length xs := by
  refine Kd.C_of_reads (d := 0) ⟨rfl, hm, fun _ => ⟨_, rfl, fun j hj => ?_⟩⟩
  rw [add_plain, World.cell?]
  simp [h, nums, hj]
theorem reads_of_C {k : IntKind} {w : World} {A : Option Addr} {n : Nat} {xs : List Int} (h : (Kd.int k).C w A n xs) : ReadsInt w k A n xs := by
  refine ⟨h.1, h.2.1, fun hn => ?_⟩
  obtain ⟨ad, rfl, hc⟩ := Kd.at_int h 0 (by omega) (by omega)
  refine ⟨ad, rfl, fun j hj => ?_⟩
  obtain ⟨ad', e, hc'⟩ := Kd.at_int h j (by omega) (by omega)
  cases e
  simpa [rd] using hc'
theorem C_of_readsInt {k : IntKind} {w : World} {A : Option Addr} {n : Nat} {xs : List Int} (h : ReadsInt w k A n xs) : (Kd.int k).C w A n xs := Kd.C_of_reads (d := 0) h
theorem own_slice' {w : World} {base n : Nat} {e : TypeId} {k : IntKind} {v : Value} {xs : List Int} (h : w.ownsRow base e 1 v n (nums k xs)) : ∃ A c, v = .slice A n c ∧ n ≤ c ∧ (Kd.int k).C w A n xs := by
  obtain ⟨A, c, rfl, hr⟩ := own_reads h
  refine ⟨A, c, rfl, ?_, C_of_readsInt hr⟩
  rcases h.2 with ⟨h1, h2⟩ | ⟨g, cap, cur, h1, _, _, h3, _⟩
  · omega
  · cases h1; exact h3

theorem grown_set (w : World) (g i : Nat) (v : Value) : w.grownBy (w.setCell ⟨g, i, none⟩ v) (some g) :=
  ⟨rfl, rfl, rfl, by simp [World.setCell], fun k _ hk => Below.heap_setCell _ _ _ _ (fun e => hk (by rw [e]))⟩
theorem grown_trans {w w1 w2 : World} {row : Option Nat} (h : w.grownBy w1 row) (k : w1.grownBy w2 row) : w.grownBy w2 row :=
  ⟨k.os.trans h.os, k.tape.trans h.tape, k.output.trans h.output, Nat.le_trans h.size k.size, fun i hi hr => (k.block i (Nat.lt_of_lt_of_le hi h.size) hr).trans (h.block i hi hr)⟩
theorem grown_refl (w : World) (row : Option Nat) : w.grownBy w row := World.grownBy.refl w row
theorem grown_drewN {w w1 : World} {row : Option Nat} (h : w.grownBy w1 row) (n : Nat) : w.grownBy (w1.drewN n) row := ⟨h.os, h.tape, h.output, h.size, h.block⟩
theorem grown_drew {w w1 : World} {row : Option Nat} (h : w.grownBy w1 row) : w.grownBy w1.drew row := ⟨h.os, h.tape, h.output, h.size, h.block⟩
theorem grown_below {w w1 : World} (h : Below w.heap.size w w1) (row : Option Nat) : w.grownBy w1 row := ⟨h.os, h.tape, h.output, h.size, fun k hk _ => h.block k hk⟩
theorem below_grown {B : Nat} {w w1 w2 : World} {g : Nat} (h : Below B w w1) (k : w1.grownBy w2 (some g)) (hB : B ≤ w1.heap.size) (hg : B ≤ g) : Below B w w2 :=
  h.grown k hB (fun i hi => by cases hi; exact hg)
/-- An error of the program's own numbers, or none. -/
def errV : Option Int → Value
  | none => .nilIface
  | some c => .iface 52 (.int .i64 c)
theorem wf_u8 {n : Int} (h : (Lit.int .u8 n).wf = true) : 0 ≤ n ∧ n < 256 := by
  simp [Lit.wf, IntKind.min, IntKind.max, IntKind.bits, IntKind.signed] at h
  omega
theorem wf_u32 {n : Int} (h : (Lit.int .u32 n).wf = true) : 0 ≤ n ∧ n < 4294967296 := by
  simp [Lit.wf, IntKind.min, IntKind.max, IntKind.bits, IntKind.signed] at h
  omega
theorem wf_i64 {n : Int} (h : (Lit.int .i64 n).wf = true) : -9223372036854775808 ≤ n ∧ n ≤ 9223372036854775807 := by
  simp [Lit.wf, IntKind.min, IntKind.max, IntKind.bits, IntKind.signed] at h
  omega
end Go.Proofs.Ytlgpmpnobcdogaa.My

/- Blocks of bytes known whole, and slices of bytes that are made. -/
namespace Go.Proofs.Ytlgpmpnobcdogaa.My
open Go.RowKit Go.Proofs.YtlgpmpnobcdogaaW.PrintWords Go.Proofs.YtlgpmpnobcdogaaW.PrintLast Go.Proofs.YtlgpmpnobcdogaaW.PrintMore

/-- A block of bytes, known whole: none of its places is frozen. -/
structure Row (w : World) (g : Nat) (l : List Int) : Prop where mk :: (out : ∃ fr : Nat × Nat, w.heap[g]? = some (.cells (nums .u8 l).toArray 5 fr) ∧ (fr = (0, 0) ∨ l.length ≤ fr.1))
theorem Row.of {w : World} {g : Nat} {l : List Int} (h : w.heap[g]? = some (.cells (nums .u8 l).toArray 5 (0, 0))) : Row w g l := ⟨_, h, .inl rfl⟩
theorem Row.drewN {w : World} {g : Nat} {l : List Int} (h : Row w g l) (n : Nat) : Row (w.drewN n) g l := ⟨h.out⟩
theorem Row.drew {w : World} {g : Nat} {l : List Int} (h : Row w g l) : Row w.drew g l := ⟨h.out⟩
theorem Row.lt {w : World} {g : Nat} {l : List Int} (h : Row w g l) : g < w.heap.size := by obtain ⟨fr, h, _⟩ := h.out; exact blk_lt h
theorem Row.cell {w : World} {g : Nat} {l : List Int} (h : Row w g l) (i : Nat) (hi : i < l.length) : w.cell? ⟨g, i, none⟩ = some (.int .u8 (l.getD i 0)) := by
  obtain ⟨fr, h, _⟩ := h.out
  rw [World.cell?]
  simp [h, nums, hi]
theorem Row.frozen {w : World} {g : Nat} {l : List Int} (h : Row w g l) (i : Nat) (hi : i < l.length) : w.frozen? ⟨g, i, none⟩ = false := by
  obtain ⟨fr, h, hf⟩ := h.out
  rcases hf with rfl | hf
  · simp [World.frozen?, h]
  · simp [World.frozen?, h]; omega
theorem Row.set {w : World} {g : Nat} {l : List Int} (h : Row w g l) (i : Nat) (x : Int) : Row (w.setCell ⟨g, i, none⟩ (.int .u8 x)) g (l.set i x) := by
  obtain ⟨fr, h, hf⟩ := h.out
  refine ⟨fr, ?_, by simpa using hf⟩
  rw [setCell_eq_setRow w g i _ _ fr _ h, setRow_heap w g _ _ _ fr h]
  simp [nums, List.map_set]
theorem Row.grown {w w1 : World} {g : Nat} {l : List Int} {row : Option Nat} (h : Row w g l) (hg : w.grownBy w1 row) (hne : some g ≠ row) : Row w1 g l := by
  obtain ⟨fr, h, hf⟩ := h.out
  exact ⟨fr, blk_grown h hg hne, hf⟩
theorem Row.below {w w1 : World} {g : Nat} {l : List Int} (h : Row w g l) (hb : Below w.heap.size w w1) : Row w1 g l := h.grown (row := none) ⟨hb.os, hb.tape, hb.output, hb.size, fun k hk _ => hb.block k hk⟩ (by simp)
theorem Row.alloc {w : World} {g : Nat} {l : List Int} (h : Row w g l) (o : Obj) : Row (w.alloc o) g l := h.below (below_alloc (Below.refl _ _) o)
theorem Row.C {w : World} {g : Nat} {l : List Int} (h : Row w g l) (off n : Nat) (hn : off + n ≤ l.length) (hm : n ≤ 9223372036854775807) : (Kd.int .u8).C w (some ⟨g, off, none⟩) n ((l.drop off).take n) := by
  refine Kd.C_of_reads (d := 0) ⟨by rw [List.length_take, List.length_drop]; omega, hm, fun _ => ⟨_, rfl, fun j hj => ?_⟩⟩
  rw [add_at, h.cell _ (by omega)]
  simp [List.getD_eq_getElem?_getD, hj]
theorem Row.whole {w : World} {g : Nat} {l : List Int} (h : Row w g l) (hm : l.length ≤ 9223372036854775807) : (Kd.int .u8).C w (some ⟨g, 0, none⟩) l.length l := by
  have := h.C 0 l.length (by omega) hm
  simpa using this
/-- A block that the call has just made: a literal's, and one that 'make' made. -/
theorem Row.lit (w : World) (l : List Int) : Row (w.alloc (.cells (nums .u8 l).toArray 5)) w.heap.size l := Row.of (alloc_self _ _)
theorem Row.str (w : World) (l : List Int) : Row (w.alloc (.cells (nums .u8 l).toArray 5 (l.length, l.length + 1))) w.heap.size l := ⟨_, alloc_self _ _, .inr (Nat.le_refl _)⟩
theorem made_nums (k : IntKind) (m : Nat) : madeCells #[.int k 0] m = (nums k (List.replicate m 0)).toArray := by
  apply Array.ext'
  apply List.ext_getElem
  · simp [nums, madeCells]
  · intro i h1 h2
    simp [nums, madeCells, Nat.mod_one]
theorem Row.made (w : World) (m : Nat) : Row (w.alloc (.cells (madeCells #[.int .u8 0] m) 5)) w.heap.size (List.replicate m 0) := by
  rw [made_nums]
  exact Row.lit w _
theorem info_u8 : (Try.prog.info? 5).map (fun i => (i.zero, i.size, i.bytes)) = some (some (.int .u8 0), 1, 1) := by kernel_rfl
theorem make_bytes (n : Nat) (hn : n ≤ 16777216) (W : World) : (Instr.makeSlice 39 (.int .i64 n) (.int .i64 n)).run Try.prog W = .ok (.slice (some ⟨W.heap.size, 0, none⟩) n n) (W.alloc (.cells (madeCells #[.int .u8 0] n) 5)) := by
  obtain ⟨i0, hi, hz⟩ := Option.map_eq_some_iff.1 info_u8
  simp only [Prod.mk.injEq] at hz
  have h := run_makeSlice W (P := Try.prog) 39 5 i0 (.int .u8 0) Try.underlying39 hi hz.1 .i64 .i64 n n (by omega) (by omega) (by rw [hz.2.1]; omega) (by rw [hz.2.2]; omega) (by omega)
  rw [hz.2.1] at h
  simpa [Value.cells] using h
end Go.Proofs.Ytlgpmpnobcdogaa.My

/- A Code's block. -/
namespace Go.Proofs.Ytlgpmpnobcdogaa.My
open Go.RowKit Go.Proofs.YtlgpmpnobcdogaaW.PrintWords Go.Proofs.YtlgpmpnobcdogaaW.PrintLast Go.Proofs.YtlgpmpnobcdogaaW.PrintMore
set_option linter.unusedVariables false
set_option linter.unusedSimpArgs false

def codCells (v0 : Value) (f m b : List Int) (v4 v5 : Value) : List Value := v0 :: (nums .i64 f ++ (nums .i64 m ++ (nums .i64 b ++ [v4, v5])))
/-- A code at a block: its lengths, its three tables, its two rows. -/
structure Cod (w : World) (g : Nat) (v0 : Value) (f m b : List Int) (v4 v5 : Value) : Prop where
  blk : w.heap[g]? = some (.cells (codCells v0 f m b v4 v5).toArray 64 (0, 0))
  lf : f.length = 17
  lm : m.length = 17
  lb : b.length = 17
theorem app_at {α : Type} (a b : List α) (n i : Nat) (h : a.length = n) : (a ++ b)[n + i]? = b[i]? := by
  rw [List.getElem?_append_right (by omega), h]
  congr 1
  omega
theorem app_j {α : Type} (a b : List α) (n i j : Nat) (h : a.length = n) (hj : j = n + i) : (a ++ b)[j]? = b[i]? := by
  subst hj
  exact app_at a b n i h
theorem set_j {α : Type} (a b : List α) (n i j : Nat) (x : α) (h : a.length = n) (hj : j = n + i) : (a ++ b).set j x = a ++ b.set i x := by
  subst hj
  rw [List.set_append_right _ _ (by omega), h]
  congr 2
  omega
theorem nums_at (l : List Int) (i : Nat) (h : i < l.length) : (nums .i64 l)[i]? = some (.int .i64 (l.getD i 0)) := by
  simp [nums, List.getD_eq_getElem?_getD, List.getElem?_eq_getElem h]
section
variable {w w1 : World} {g : Nat} {v0 v4 v5 : Value} {f m b : List Int}
theorem Cod.at (k : Cod w g v0 f m b v4 v5) (i : Nat) : w.cell? ⟨g, i, none⟩ = (codCells v0 f m b v4 v5)[i]? := by
  rw [blk_cell k.blk]
  simp
theorem Cod.c0 (k : Cod w g v0 f m b v4 v5) : w.cell? ⟨g, 0, none⟩ = some v0 := by rw [k.at]; rfl
theorem Cod.cf (k : Cod w g v0 f m b v4 v5) (n : Nat) (h : n < 17) : w.cell? ⟨g, 1 + n, none⟩ = some (.int .i64 (f.getD n 0)) := by
  rw [k.at, codCells, Nat.add_comm, List.getElem?_cons_succ, List.getElem?_append_left (by rw [nums_length, k.lf]; exact h), nums_at f n (by rw [k.lf]; exact h)]
theorem Cod.cm (k : Cod w g v0 f m b v4 v5) (n : Nat) (h : n < 17) : w.cell? ⟨g, 18 + n, none⟩ = some (.int .i64 (m.getD n 0)) := by
  rw [k.at, codCells, show 18 + n = (17 + n) + 1 from by omega, List.getElem?_cons_succ, app_at _ _ 17 n (by rw [nums_length, k.lf]), List.getElem?_append_left (by rw [nums_length, k.lm]; exact h), nums_at m n (by rw [k.lm]; exact h)]
theorem Cod.cb (k : Cod w g v0 f m b v4 v5) (n : Nat) (h : n < 17) : w.cell? ⟨g, 35 + n, none⟩ = some (.int .i64 (b.getD n 0)) := by
  rw [k.at, codCells, show 35 + n = (17 + (17 + n)) + 1 from by omega, List.getElem?_cons_succ, app_at _ _ 17 _ (by rw [nums_length, k.lf]), app_at _ _ 17 _ (by rw [nums_length, k.lm]), List.getElem?_append_left (by rw [nums_length, k.lb]; exact h), nums_at b n (by rw [k.lb]; exact h)]
theorem Cod.c4 (k : Cod w g v0 f m b v4 v5) : w.cell? ⟨g, 52, none⟩ = some v4 := by
  rw [k.at, codCells, show 52 = 51 + 1 from rfl, List.getElem?_cons_succ, app_j _ _ 17 34 51 (by rw [nums_length, k.lf]) rfl, app_j _ _ 17 17 34 (by rw [nums_length, k.lm]) rfl, app_j _ _ 17 0 17 (by rw [nums_length, k.lb]) rfl]
  rfl
theorem Cod.c5 (k : Cod w g v0 f m b v4 v5) : w.cell? ⟨g, 53, none⟩ = some v5 := by
  rw [k.at, codCells, show 53 = 52 + 1 from rfl, List.getElem?_cons_succ, app_j _ _ 17 35 52 (by rw [nums_length, k.lf]) rfl, app_j _ _ 17 18 35 (by rw [nums_length, k.lm]) rfl, app_j _ _ 17 1 18 (by rw [nums_length, k.lb]) rfl]
  rfl
theorem Cod.fz (k : Cod w g v0 f m b v4 v5) (i : Nat) : w.frozen? ⟨g, i, none⟩ = false := blk_frozen k.blk i
theorem Cod.drewN (k : Cod w g v0 f m b v4 v5) (n : Nat) : Cod (w.drewN n) g v0 f m b v4 v5 := ⟨k.blk, k.lf, k.lm, k.lb⟩
theorem Cod.below (k : Cod w g v0 f m b v4 v5) (h : Below w.heap.size w w1) : Cod w1 g v0 f m b v4 v5 := ⟨blk_below k.blk h, k.lf, k.lm, k.lb⟩
theorem Cod.lt (k : Cod w g v0 f m b v4 v5) : g < w.heap.size := blk_lt k.blk
theorem set_app_left {α : Type} (a b : List α) (i : Nat) (x : α) (h : i < a.length) : (a ++ b).set i x = a.set i x ++ b := List.set_append_left i x h
theorem set_app_at {α : Type} (a b : List α) (n i : Nat) (x : α) (h : a.length = n) : (a ++ b).set (n + i) x = a ++ b.set i x := by
  rw [List.set_append_right _ _ (by omega), h]
  congr 2
  omega
theorem nums_set (l : List Int) (i : Nat) (x : Int) : (nums .i64 l).set i (.int .i64 x) = nums .i64 (l.set i x) := by simp [nums, List.map_set]
theorem Cod.put (k : Cod w g v0 f m b v4 v5) (i : Nat) (x : Value) : (w.setCell ⟨g, i, none⟩ x).heap[g]? = some (.cells ((codCells v0 f m b v4 v5).set i x).toArray 64 (0, 0)) := by
  rw [setCell_eq_setRow w g i _ _ (0, 0) _ k.blk, setRow_heap w g _ _ _ (0, 0) k.blk]
  simp
theorem Cod.sf (k : Cod w g v0 f m b v4 v5) (n : Nat) (h : n < 17) (x : Int) : Cod (w.setCell ⟨g, 1 + n, none⟩ (.int .i64 x)) g v0 (f.set n x) m b v4 v5 := by
  refine ⟨?_, by rw [List.length_set]; exact k.lf, k.lm, k.lb⟩
  rw [k.put, codCells, Nat.add_comm, List.set_cons_succ, set_app_left _ _ _ _ (by rw [nums_length, k.lf]; exact h), nums_set]
  rfl
theorem Cod.sm (k : Cod w g v0 f m b v4 v5) (n : Nat) (h : n < 17) (x : Int) : Cod (w.setCell ⟨g, 18 + n, none⟩ (.int .i64 x)) g v0 f (m.set n x) b v4 v5 := by
  refine ⟨?_, k.lf, by rw [List.length_set]; exact k.lm, k.lb⟩
  rw [k.put, codCells, show 18 + n = (17 + n) + 1 from by omega, List.set_cons_succ, set_app_at _ _ 17 _ _ (by rw [nums_length, k.lf]), set_app_left _ _ _ _ (by rw [nums_length, k.lm]; exact h), nums_set]
  rfl
theorem Cod.sb (k : Cod w g v0 f m b v4 v5) (n : Nat) (h : n < 17) (x : Int) : Cod (w.setCell ⟨g, 35 + n, none⟩ (.int .i64 x)) g v0 f m (b.set n x) v4 v5 := by
  refine ⟨?_, k.lf, k.lm, by rw [List.length_set]; exact k.lb⟩
  rw [k.put, codCells, show 35 + n = (17 + (17 + n)) + 1 from by omega, List.set_cons_succ, set_app_at _ _ 17 _ _ (by rw [nums_length, k.lf]), set_app_at _ _ 17 _ _ (by rw [nums_length, k.lm]), set_app_left _ _ _ _ (by rw [nums_length, k.lb]; exact h), nums_set]
  rfl
theorem Cod.s4 (k : Cod w g v0 f m b v4 v5) (x : Value) : Cod (w.setCell ⟨g, 52, none⟩ x) g v0 f m b x v5 := by
  refine ⟨?_, k.lf, k.lm, k.lb⟩
  rw [k.put, codCells, show 52 = 51 + 1 from rfl, List.set_cons_succ, set_j _ _ 17 34 51 _ (by rw [nums_length, k.lf]) rfl, set_j _ _ 17 17 34 _ (by rw [nums_length, k.lm]) rfl, set_j _ _ 17 0 17 _ (by rw [nums_length, k.lb]) rfl]
  rfl
theorem Cod.s5 (k : Cod w g v0 f m b v4 v5) (x : Value) : Cod (w.setCell ⟨g, 53, none⟩ x) g v0 f m b v4 x := by
  refine ⟨?_, k.lf, k.lm, k.lb⟩
  rw [k.put, codCells, show 53 = 52 + 1 from rfl, List.set_cons_succ, set_j _ _ 17 35 52 _ (by rw [nums_length, k.lf]) rfl, set_j _ _ 17 18 35 _ (by rw [nums_length, k.lm]) rfl, set_j _ _ 17 1 18 _ (by rw [nums_length, k.lb]) rfl]
  rfl
/-- A store elsewhere. -/
theorem Cod.far (k : Cod w g v0 f m b v4 v5) {row : Option Nat} (h : w.grownBy w1 row) (hne : some g ≠ row) : Cod w1 g v0 f m b v4 v5 := ⟨blk_grown k.blk h hne, k.lf, k.lm, k.lb⟩
end
end Go.Proofs.Ytlgpmpnobcdogaa.My

/- Codes by their lengths, plainly: how many of a length, the first number, where it begins, each sign's code. No program in sight. -/
namespace Go.Proofs.Ytlgpmpnobcdogaa.Huf
set_option linter.unusedVariables false
set_option linter.unusedSimpArgs false

/-- A table of 17. -/
def tab (h : Nat → Int) : List Int := (List.range 17).map h
theorem tab_len (h : Nat → Int) : (tab h).length = 17 := by simp [tab]
theorem tab_get (h : Nat → Int) (n : Nat) (hn : n < 17) : (tab h).getD n 0 = h n := by simp [tab, List.getD_eq_getElem?_getD, hn]
theorem tab_set (h h' : Nat → Int) (n : Nat) (x : Int) (hn : n < 17) (h1 : h' n = x) (h2 : ∀ k, k ≠ n → k < 17 → h' k = h k) : (tab h).set n x = tab h' := by
  apply List.ext_getElem
  · simp [tab]
  · intro i a b
    have hi : i < 17 := by simpa [tab] using b
    rw [List.getElem_set]
    split
    · next e => subst e; simp [tab, h1]
    · next e => simp only [tab, List.getElem_map, List.getElem_range]; exact (h2 i (fun h => e h.symm) hi).symm
theorem tab_eq {h h' : Nat → Int} (e : ∀ k, k < 17 → h k = h' k) : tab h = tab h' := by
  unfold tab
  apply List.map_congr_left
  intro k hk
  exact e k (List.mem_range.1 hk)
/-- How many lengths are n. -/
def cn (L : List Int) (n : Nat) : Nat := L.count (n : Int)
/-- Likewise, of length 0 none. -/
def c0 (L : List Int) (n : Nat) : Nat := if n = 0 then 0 else cn L n
def fst (L : List Int) : Nat → Nat
  | 0 => 0
  | n + 1 => 2 * (fst L n + c0 L n)
def beg (L : List Int) : Nat → Nat
  | 0 => 0
  | n + 1 => beg L n + c0 L n
theorem cn_take (L : List Int) (i n : Nat) (x : Int) (h : L[i]? = some x) : cn (L.take (i + 1)) n = cn (L.take i) n + if x = (n : Int) then 1 else 0 := by
  unfold cn
  rw [List.take_add_one, h]
  simp only [Option.toList_some, List.count_append, List.count_cons, List.count_nil, Nat.zero_add, beq_iff_eq]
theorem cn_le (L : List Int) (n : Nat) : cn L n ≤ L.length := List.count_le_length
theorem cn_take_le (L : List Int) (i n : Nat) : cn (L.take i) n ≤ cn L n := (List.take_sublist i L).count_le _
theorem c0_le (L : List Int) (n : Nat) : c0 L n ≤ L.length := by unfold c0; split; omega; exact cn_le L n
theorem beg_mono (L : List Int) (n : Nat) : ∀ k, beg L n ≤ beg L (n + k)
  | 0 => Nat.le_refl _
  | k + 1 => Nat.le_trans (beg_mono L n k) (by show _ ≤ beg L (n + k) + _; omega)
/-- Is each length one that may be? -/
def okL (L : List Int) : Bool := L.all fun x => decide (0 ≤ x ∧ x ≤ 15)
/-- There are more codes of this length, or shorter, than there is room for. -/
def over (L : List Int) (n : Nat) : Bool := decide (2 ^ n < fst L n + cn L n)
/-- The first of so many lengths, from n on, that is over. -/
def anyOver (L : List Int) : Nat → Nat → Bool
  | 0, _ => false
  | k + 1, n => over L n || anyOver L k (n + 1)
def numR (L : List Int) : Int := if anyOver L 15 1 then -1 else 32768 - ((fst L 15 + cn L 15 : Nat) : Int)
/-- A sign's code. -/
def code (L : List Int) (s : Nat) : Nat := let n := (L.getD s 0).toNat; if n = 0 then 0 else fst L n + cn (L.take s) n
/-- Where a sign stands among all that have codes. -/
def pos (L : List Int) (s : Nat) : Nat := let n := (L.getD s 0).toNat; beg L n + cn (L.take s) n
theorem fst_le (L : List Int) : ∀ n, (∀ k, 1 ≤ k → k < n → over L k = false) → fst L n ≤ 2 ^ n
  | 0, _ => by simp [fst]
  | n + 1, h => by
    rw [fst, Nat.pow_succ]
    cases n with
    | zero => simp [fst, c0]
    | succ m =>
      have h1 := h (m + 1) (by omega) (by omega)
      unfold over at h1
      have h2 := of_decide_eq_false h1
      have h3 : c0 L (m + 1) = cn L (m + 1) := by simp [c0]
      omega
theorem beg_le (L : List Int) (n : Nat) : beg L n ≤ n * L.length := by
  induction n with
  | zero => simp [beg]
  | succ n ih =>
    have := c0_le L n
    rw [beg, Nat.succ_mul]
    omega
/-- All signs that have codes. -/
theorem count_split (L : List Int) (h : okL L = true) : ∀ n : Nat, (L.filter fun x => decide (0 < x ∧ x < (n : Int))).length = beg L n
  | 0 => by
    rw [beg]
    rw [List.filter_eq_nil_iff.2]
    · rfl
    · intro x _; simp; omega
  | n + 1 => by
    rw [beg, ← count_split L h n]
    clear h
    unfold c0 cn
    induction L with
    | nil => split <;> rfl
    | cons x L ih =>
      by_cases h0 : n = 0
      · subst h0
        have e : (x :: L).filter (fun x => decide (0 < x ∧ x < ((0 + 1 : Nat) : Int))) = [] := List.filter_eq_nil_iff.2 (by intro y _; simp; omega)
        have e2 : (x :: L).filter (fun x => decide (0 < x ∧ x < ((0 : Nat) : Int))) = [] := List.filter_eq_nil_iff.2 (by intro y _; simp; omega)
        rw [e, e2]; rfl
      · rw [if_neg h0] at ih ⊢
        rw [List.filter_cons, List.filter_cons, List.count_cons]
        by_cases e1 : x = (n : Int)
        · rw [if_pos (by simp; omega), if_neg (by simp; omega), if_pos (by simp [e1])]
          simp only [List.length_cons]
          omega
        · have e3 : (decide (0 < x ∧ x < ((n + 1 : Nat) : Int))) = decide (0 < x ∧ x < (n : Int)) := decide_eq_decide.2 (by omega)
          rw [e3, if_neg (show ¬ (x == (n : Int)) = true by simpa using e1)]
          split
          · simp only [List.length_cons]; omega
          · omega
theorem beg_all (L : List Int) (h : okL L = true) (n : Nat) : beg L n ≤ L.length := by rw [← count_split L h n]; exact List.length_filter_le _ _
theorem pos_lt (L : List Int) (s : Nat) (h : s < L.length) (n : Nat) (hn : L.getD s 0 = (n : Int)) (h0 : n ≠ 0) : cn (L.take s) n < cn L n := by
  have h1 := cn_take L s n (n : Int) (by rw [List.getElem?_eq_getElem h, ← hn, List.getD_eq_getElem?_getD, List.getElem?_eq_getElem h]; rfl)
  rw [if_pos rfl] at h1
  have h2 := cn_take_le L (s + 1) n
  omega
theorem cn_mono (L : List Int) (n : Nat) (i k : Nat) : cn (L.take i) n ≤ cn (L.take (i + k)) n := by
  have : (L.take (i + k)).take i = L.take i := by rw [List.take_take]; congr 1; omega
  rw [← this]
  exact cn_take_le _ _ _
theorem pos_inj (L : List Int) (s t : Nat) (hst : s < t) (ht : t < L.length) (n m : Nat) (hn : L.getD s 0 = (n : Int)) (hm : L.getD t 0 = (m : Int)) (hn0 : n ≠ 0) (hm0 : m ≠ 0) :
    beg L n + cn (L.take s) n ≠ beg L m + cn (L.take t) m := by
  have a1 := pos_lt L s (by omega) n hn hn0
  have a2 := pos_lt L t ht m hm hm0
  have b1 : beg L (n + 1) = beg L n + cn L n := by rw [beg]; simp [c0, hn0]
  have b2 : beg L (m + 1) = beg L m + cn L m := by rw [beg]; simp [c0, hm0]
  rcases Nat.lt_trichotomy n m with h | h | h
  · obtain ⟨k, rfl⟩ : ∃ k, m = (n + 1) + k := ⟨m - (n + 1), by omega⟩
    have := beg_mono L (n + 1) k
    omega
  · subst h
    have h1 := cn_take L s n (n : Int) (by rw [List.getElem?_eq_getElem (by omega), ← hn, List.getD_eq_getElem?_getD, List.getElem?_eq_getElem (by omega)]; rfl)
    rw [if_pos rfl] at h1
    obtain ⟨k, rfl⟩ : ∃ k, t = (s + 1) + k := ⟨t - (s + 1), by omega⟩
    have := cn_mono L n (s + 1) k
    omega
  · obtain ⟨k, rfl⟩ : ∃ k, n = (m + 1) + k := ⟨n - (m + 1), by omega⟩
    have := beg_mono L (m + 1) k
    omega
end Go.Proofs.Ytlgpmpnobcdogaa.Huf

/- The walks of huff.Code's count and number. -/
namespace Go.Proofs.Ytlgpmpnobcdogaa.My
open Go.RowKit Go.Proofs.Ytlgpmpnobcdogaa.Huf Go.Proofs.YtlgpmpnobcdogaaW.PrintWords Go.Proofs.YtlgpmpnobcdogaaW.PrintLast Go.Proofs.YtlgpmpnobcdogaaW.PrintMore
set_option linter.unusedVariables false
set_option linter.unusedSimpArgs false

theorem add_block (ad : Addr) (i : Nat) : (ad.add i).block = ad.block := by unfold Addr.add; split <;> rfl
theorem num_at {w : World} {A : Option Addr} {n : Nat} {t : List Int} (h : (Kd.int .i64).C w A n t) (i : Nat) (hi : i < n) : ∃ ad, A = some ad ∧ w.cell? (ad.add i) = some (.int .i64 (t.getD i 0)) := by
  obtain ⟨ad, e, hc⟩ := Kd.at_int h (i : Int) (by omega) (by omega)
  rw [Int.toNat_natCast] at hc
  exact ⟨ad, e, by simpa [rd] using hc⟩
theorem all_take (L : List Int) (i : Nat) (x : Int) (h : L[i]? = some x) (hb : ¬ (0 ≤ x ∧ x ≤ 15)) : okL L = false := by
  unfold okL
  rw [List.all_eq_false]
  exact ⟨x, List.mem_of_getElem? h, by simpa using hb⟩
theorem all_true (L : List Int) (h : ∀ (i : Nat) (x : Int), L[i]? = some x → 0 ≤ x ∧ x ≤ 15) : okL L = true := by
  unfold okL
  rw [List.all_eq_true]
  intro x hx
  obtain ⟨i, hi⟩ := List.getElem?_of_mem hx
  exact decide_eq_true (h i x hi)
theorem getD_some (L : List Int) (i : Nat) (h : i < L.length) : L[i]? = some (L.getD i 0) := by rw [List.getD_eq_getElem?_getD, List.getElem?_eq_getElem h]; rfl
set_option maxHeartbeats 1000000 in
set_option maxRecDepth 100000 in
theorem count_calls (w : World) (g : Nat) (A : Option Addr) (n c : Nat) (L F B : List Int) (v4 v5 : Value) (k : Cod w g (.slice A n c) F (tab fun _ => 0) B v4 v5) (hL : (Kd.int .i64).C w A n L) (hne : ∀ ad, A = some ad → ad.block ≠ g) (hn : n ≤ 1000000) :
    Calls Try.prog 29 #[.pointer (some ⟨g, 0, none⟩)] w fun e w' => e = .returned (.bool (okL L)) ∧ w.grownBy w' (some g) ∧ (okL L = true → Cod w' g (.slice A n c) F (tab fun j => (c0 L j : Int)) B v4 v5) := by
  have c0 := k.c0
  have hl : L.length = n := hL.1
  have h3 : (n : Int) ≤ 1000000 := by omega
  have HL := Aside0.mk hL
  have HK0 := Aside0.mk k
  have HNe := Aside0.mk hne
  have HLn := Aside0.mk hl
  clear k hL hne hl hn
  go_enter Try.func29, Try.ntmps29
  go_wp2_with fail
  go_loopg [10] n (fun kq v10 wr => ∃ i : Nat, v10 = .int .i64 i ∧ i ≤ n ∧ Aside0 (kq = n - i) ∧ Aside0 (Cod wr g (.slice A n c) F (tab fun j => (cn (L.take i) j : Int)) B v4 v5) ∧ Aside0 (w.grownBy wr (some g)) ∧ Aside0 (∀ j, j < i → 0 ≤ L.getD j 0 ∧ L.getD j 0 ≤ 15))
  case atStart => exact ⟨0, rfl, Nat.zero_le _, ⟨rfl⟩, ⟨by simpa [cn] using HK0.out⟩, ⟨grown_refl _ _⟩, ⟨fun j hj => absurd hj (Nat.not_lt_zero _)⟩⟩
  case round =>
    obtain ⟨i, rfl, hi, HK, HC, HG, HO⟩ := hrel
    by_cases hlt : i < n
    · have hlt' : (i : Int) < (n : Int) := by omega
      obtain ⟨ad, rfl, hci⟩ := num_at HL.out i hlt
      have hci2 : wr.cell? (ad.add i) = some (.int .i64 (L.getD i 0)) := HG.out.cell hci (by rw [add_block]; simpa using fun e => HNe.out ad rfl e)
      have hx := getD_some L i (by rw [HLn.out]; exact hlt)
      generalize hxx : L.getD i 0 = x at hci hci2 hx
      have HX := Aside0.mk hx
      have HXX := Aside0.mk hxx
      clear hx hxx hci
      by_cases hb : 0 ≤ x ∧ x ≤ 15
      · obtain ⟨m, rfl⟩ := Int.eq_ofNat_of_zero_le hb.1
        have hm : (m : Int) ≤ 15 := hb.2
        have cm := HC.out.cm m (by omega)
        rw [tab_get _ m (by omega)] at cm
        have fm := HC.out.fz (18 + m)
        have HS := Aside0.mk (HC.out.sm m (by omega) ((cn (L.take i) m : Int) + 1))
        have HG1 := Aside0.mk (grown_trans HG.out (grown_set wr g (18 + m) (.int .i64 ((cn (L.take i) m : Int) + 1))))
        have hle : (cn (L.take i) m : Int) ≤ 1000000 := by
          have := cn_le (L.take i) m
          have h2 : (L.take i).length ≤ i := by rw [List.length_take]; omega
          omega
        generalize hq : cn (L.take i) m = q at *
        have HQ := Aside0.mk hq
        clear hq
        go_wp2_with fail
        go_region
        all_goals
          go_wp2_with fail
          have e1 : ((i : Int) + 1) = ((i + 1 : Nat) : Int) := by omega
          rw [e1]
          go_roundg (n - (i + 1))
          case measure => have := HK.out; omega
          case rel =>
            refine ⟨i + 1, rfl, by omega, ⟨rfl⟩, ⟨?_⟩, ⟨?_⟩, ⟨?_⟩⟩
            · have := HS.out
              rw [tab_set _ (fun j => (cn (L.take (i + 1)) j : Int)) m _ (by omega) (by rw [cn_take L i m _ HX.out, if_pos rfl, HQ.out]; simp) (fun k hk _ => by rw [cn_take L i k _ HX.out, if_neg (by omega)]; simp)] at this
              first | exact this.drewN 1 | exact this
            · first | exact grown_drewN HG1.out 1 | exact HG1.out
            · intro j hj
              rcases Nat.lt_or_ge j i with h | h
              · exact HO.out j h
              · obtain rfl : j = i := by omega
                rw [HXX.out]; omega
      · have HB := Aside0.mk (all_take L i x HX.out hb)
        rcases Int.lt_or_le x 0 with h0 | h0
        · clear hb
          go_wp2_with fail
          go_ret
          exact ⟨by rw [HB.out]; rfl, HG.out, fun h => by rw [HB.out] at h; cases h⟩
        · have h1 : 15 < x := by omega
          clear hb
          go_wp2_with fail
          go_ret
          exact ⟨by rw [HB.out]; rfl, HG.out, fun h => by rw [HB.out] at h; cases h⟩
    · have hlt' : ¬ (i : Int) < (n : Int) := by omega
      have HOK : Aside0 (okL L = true) := ⟨all_true L (fun j x hx => by
        have hj := (List.getElem?_eq_some_iff.1 hx).1
        have := HO.out j (by rw [HLn.out] at hj; omega)
        rw [List.getD_eq_getElem?_getD, hx] at this
        exact this)⟩
      have cm := HC.out.cm 0 (by omega)
      have fm := HC.out.fz 18
      have HS := Aside0.mk (HC.out.sm 0 (by omega) 0)
      have HG1 := Aside0.mk (grown_trans HG.out (grown_set wr g 18 (.int .i64 0)))
      rw [Nat.add_zero] at cm
      go_wp2_with fail
      go_ret
      refine ⟨by rw [HOK.out]; rfl, HG1.out, fun _ => ?_⟩
      have := HS.out
      rw [tab_set _ (fun j => (Huf.c0 L j : Int)) 0 _ (by omega) (by simp [Huf.c0]) (fun k hk _ => by rw [List.take_of_length_le (by rw [HLn.out]; omega)]; simp [Huf.c0, hk])] at this
      exact this
end Go.Proofs.Ytlgpmpnobcdogaa.My

/- The walk of huff.Code's number. -/
namespace Go.Proofs.Ytlgpmpnobcdogaa.My
open Go.RowKit Go.Proofs.Ytlgpmpnobcdogaa.Huf Go.Proofs.YtlgpmpnobcdogaaW.PrintWords Go.Proofs.YtlgpmpnobcdogaaW.PrintLast Go.Proofs.YtlgpmpnobcdogaaW.PrintMore
set_option linter.unusedVariables false
set_option linter.unusedSimpArgs false

/-- The tables up to a length. -/
def upto (h : Nat → Nat) (n : Nat) : List Int := tab fun k => if k < n then (h k : Int) else 0
theorem upto_get (h : Nat → Nat) (n k : Nat) (hk : k < n) (h17 : k < 17) : (upto h n).getD k 0 = (h k : Int) := by unfold upto; rw [tab_get _ k h17, if_pos hk]
theorem upto_set (h : Nat → Nat) (n : Nat) (hn : n < 17) (x : Int) (hx : x = (h n : Int)) : (upto h n).set n x = upto h (n + 1) := by
  unfold upto
  exact tab_set _ _ n x hn (by rw [if_pos (by omega), hx]) (fun k hk _ => by
    by_cases e : k < n
    · rw [if_pos e, if_pos (by omega)]
    · rw [if_neg e, if_neg (by omega)])
theorem two_wrap (m : Nat) (h : m < 15) : wrap64 (2 ^ (m + 1)) = ((2 ^ (m + 1) : Nat) : Int) := by
  have h1 : 2 ^ (m + 1) ≤ 2 ^ 15 := Nat.pow_le_pow_right (by decide) h
  have h2 : (2 : Int) ^ (m + 1) = ((2 ^ (m + 1) : Nat) : Int) := by push_cast; rfl
  rw [h2]
  generalize 2 ^ (m + 1) = q at *
  unfold wrap64
  omega
theorem anyOver_step (L : List Int) (m : Nat) (h : m < 15) : anyOver L (15 - m) (m + 1) = (over L (m + 1) || anyOver L (15 - (m + 1)) (m + 1 + 1)) := by
  obtain ⟨d, e⟩ : ∃ d, 15 - m = d + 1 := ⟨14 - m, by omega⟩
  rw [e, show 15 - (m + 1) = d from by omega]
  rfl
theorem c0_succ (L : List Int) (m : Nat) : c0 L (m + 1) = cn L (m + 1) := by simp [c0]
set_option maxHeartbeats 2000000 in
set_option maxRecDepth 100000 in
theorem number_calls (w : World) (g : Nat) (v0 : Value) (L : List Int) (v4 v5 : Value) (k : Cod w g v0 (upto (fst L) 1) (tab fun j => (c0 L j : Int)) (upto (beg L) 1) v4 v5) (hn : L.length ≤ 1000000) :
    Calls Try.prog 30 #[.pointer (some ⟨g, 0, none⟩)] w fun e w' => e = .returned (.int .i64 (numR L)) ∧ w.grownBy w' (some g) ∧ (anyOver L 15 1 = false → Cod w' g v0 (upto (fst L) 16) (tab fun j => (c0 L j : Int)) (upto (beg L) 16) v4 v5) := by
  have HK0 := Aside0.mk k
  have HL := Aside0.mk hn
  clear k hn
  go_enter Try.func30, Try.ntmps30
  go_wp2_with fail
  go_loopg [3, 4] 15 (fun kq v3 v4' wr => ∃ m : Nat, v3 = .int .i64 (fst L m : Nat) ∧ v4' = .int .i64 ((m : Int) + 1) ∧ m ≤ 15 ∧ Aside0 (kq = 15 - m) ∧ Aside0 (Cod wr g v0 (upto (fst L) (m + 1)) (tab fun j => (c0 L j : Int)) (upto (beg L) (m + 1)) v4 v5) ∧ Aside0 (w.grownBy wr (some g)) ∧ Aside0 (anyOver L (15 - m) (m + 1) = anyOver L 15 1 ∧ ∀ j, 1 ≤ j → j < m + 1 → over L j = false))
  case atStart => exact ⟨0, rfl, rfl, Nat.zero_le _, ⟨rfl⟩, HK0, ⟨grown_refl _ _⟩, ⟨rfl, fun j h1 h2 => by omega⟩⟩
  case round =>
    obtain ⟨m, rfl, rfl, hm, HK, HC, HG, HO⟩ := hrel
    have hle := fst_le L m (fun j h1 h2 => HO.out.2 j h1 (by omega))
    have h2 : 2 ^ m ≤ 2 ^ 15 := Nat.pow_le_pow_right (by decide) hm
    have hc0 := c0_le L m
    have hc1 := c0_le L (m + 1)
    have hbm := beg_le L m
    have hl := HL.out
    have hmul : m * L.length ≤ 15 * 1000000 := Nat.mul_le_mul hm hl
    have b1 : ((fst L m : Nat) : Int) ≤ 32768 := by omega
    have b2 : ((c0 L m : Nat) : Int) ≤ 1000000 := by omega
    have b3 : ((c0 L (m + 1) : Nat) : Int) ≤ 1000000 := by omega
    have b4 : ((beg L m : Nat) : Int) ≤ 15000000 := by omega
    clear hle h2 hc0 hc1 hbm hl hmul
    have cm := HC.out.cm m (by omega)
    rw [tab_get _ m (by omega)] at cm
    by_cases hlt : m < 15
    · have hlt' : (m : Int) < 15 := by omega
      have e1 : ((fst L (m + 1) : Nat) : Int) = (((fst L m : Nat) : Int) + ((c0 L m : Nat) : Int)) * 2 := by rw [fst, Nat.mul_comm]; push_cast; rfl
      have e2 : ((beg L (m + 1) : Nat) : Int) = ((beg L m : Nat) : Int) + ((c0 L m : Nat) : Int) := by rw [beg]; push_cast; rfl
      have k1 := HC.out.sf (m + 1) (by omega) ((((fst L m : Nat) : Int) + ((c0 L m : Nat) : Int)) * 2)
      rw [upto_set (fst L) (m + 1) (by omega) _ e1.symm] at k1
      have k2 := k1.sb (m + 1) (by omega) (((beg L m : Nat) : Int) + ((c0 L m : Nat) : Int))
      rw [upto_set (beg L) (m + 1) (by omega) _ e2.symm] at k2
      have f0 := HC.out.fz (1 + (m + 1))
      have d0 := HC.out.cf (m + 1) (by omega)
      have d1 := k1.cm m (by omega)
      rw [tab_get _ m (by omega)] at d1
      have d2 := k1.cb m (by omega)
      rw [upto_get _ _ m (by omega) (by omega)] at d2
      have d3 := k1.cb (m + 1) (by omega)
      have f3 := k1.fz (35 + (m + 1))
      have d4 := k2.cm (m + 1) (by omega)
      rw [tab_get _ (m + 1) (by omega)] at d4
      have K2 := Aside0.mk k2
      have HG1 := Aside0.mk (grown_trans (grown_trans HG.out (grown_set wr g (1 + (m + 1)) (.int .i64 ((((fst L m : Nat) : Int) + ((c0 L m : Nat) : Int)) * 2)))) (grown_set _ g (35 + (m + 1)) (.int .i64 (((beg L m : Nat) : Int) + ((c0 L m : Nat) : Int)))))
      have HE1 := Aside0.mk e1
      have HE2 := Aside0.mk e2
      clear e1 e2 k1 k2
      have p1 : (0 : Int) ≤ ((fst L m : Nat) : Int) := by omega
      have p2 : (0 : Int) ≤ ((c0 L m : Nat) : Int) := by omega
      have p3 : (0 : Int) ≤ ((c0 L (m + 1) : Nat) : Int) := by omega
      have p4 : (0 : Int) ≤ ((beg L m : Nat) : Int) := by omega
      generalize ((fst L m : Nat) : Int) = X at *
      generalize ((c0 L m : Nat) : Int) = Y at *
      generalize hY2 : ((c0 L (m + 1) : Nat) : Int) = Y2 at *
      have HY2 := Aside0.mk hY2
      clear hY2
      generalize ((beg L m : Nat) : Int) = Z at *
      generalize (upto (fst L) (m + 1)).getD (m + 1) 0 = q1 at *
      generalize (upto (beg L) (m + 1)).getD (m + 1) 0 = q2 at *
      go_wp2_with fail
      go_region
      all_goals (first | go_wp2_with fail | skip)
      all_goals (first | go_region | skip)
      go_wp2_with fail
      · next hov =>
        have HT : Aside0 (numR L = -1) := ⟨by
          have h1 := two_wrap m hlt
          have h2 := HE1.out
          have h3 := HY2.out
          rw [c0_succ] at h3
          rw [h1] at hov
          have h4 : over L (m + 1) = true := decide_eq_true (by omega)
          have h5 := anyOver_step L m hlt
          rw [h4, Bool.true_or, HO.out.1] at h5
          unfold numR
          rw [if_pos h5]⟩
        have HG2 := Aside0.mk (grown_drewN HG1.out 2)
        have HA : Aside0 (anyOver L 15 1 = true) := ⟨by
          have h := HT.out
          unfold numR at h
          split at h
          · assumption
          · next hn => 
            have h1 := two_wrap m hlt
            have h2 := HE1.out
            have h3 := HY2.out
            rw [c0_succ] at h3
            rw [h1] at hov
            have h4 : over L (m + 1) = true := decide_eq_true (by omega)
            have h5 := anyOver_step L m hlt
            rw [h4, Bool.true_or, HO.out.1] at h5
            exact h5⟩
        go_ret
        exact ⟨by rw [HT.out]; rfl, HG2.out, fun h => by rw [HA.out] at h; cases h⟩
      · next hov =>
        have HV : Aside0 (over L (m + 1) = false) := ⟨by
          have h1 := two_wrap m hlt
          have h2 := HE1.out
          have h3 := HY2.out
          rw [c0_succ] at h3
          rw [h1] at hov
          exact decide_eq_false (by omega)⟩
        have e1 : ((m : Int) + 1) = ((m + 1 : Nat) : Int) := by omega
        go_roundg (15 - (m + 1))
        case measure => have := HK.out; omega
        case rel =>
          refine ⟨m + 1, by rw [← HE1.out], by rfl, by omega, ⟨rfl⟩, ⟨K2.out.drewN 2⟩, ⟨grown_drewN HG1.out 2⟩, ⟨?_, ?_⟩⟩
          · have h5 := anyOver_step L m hlt
            rw [HV.out, Bool.false_or] at h5
            rw [← h5]
            exact HO.out.1
          · intro j h1 h2
            rcases Nat.lt_or_ge j (m + 1) with h | h
            · exact HO.out.2 j h1 h
            · obtain rfl : j = m + 1 := by omega
              exact HV.out
    · have e15 : m = 15 := by omega
      subst e15
      have p1 : (0 : Int) ≤ ((fst L 15 : Nat) : Int) := by omega
      have p2 : (0 : Int) ≤ ((c0 L 15 : Nat) : Int) := by omega
      have HA : Aside0 (anyOver L 15 1 = false) := ⟨HO.out.1.symm⟩
      have HN : Aside0 (numR L = 32768 - (((fst L 15 : Nat) : Int) + ((c0 L 15 : Nat) : Int))) := ⟨by unfold numR; rw [if_neg (by rw [HA.out]; decide)]; simp [c0]⟩
      clear hlt hm
      generalize ((fst L 15 : Nat) : Int) = X at *
      generalize ((c0 L 15 : Nat) : Int) = Y at *
      go_wp2_with fail
      go_ret
      exact ⟨by rw [HN.out]; rfl, HG.out, fun _ => HC.out⟩
end Go.Proofs.Ytlgpmpnobcdogaa.My

/- What sort of a huff.Code does, plainly, and blocks of numbers. -/
namespace Go.Proofs.Ytlgpmpnobcdogaa.My
open Go.RowKit Go.Proofs.Ytlgpmpnobcdogaa.Huf Go.Proofs.YtlgpmpnobcdogaaW.PrintWords Go.Proofs.YtlgpmpnobcdogaaW.PrintLast Go.Proofs.YtlgpmpnobcdogaaW.PrintMore
set_option linter.unusedVariables false
set_option linter.unusedSimpArgs false

/-- A block of numbers. -/
def IRow (w : World) (b : Nat) (t : TypeId) (xs : List Int) : Prop := w.heap[b]? = some (.cells (nums .i64 xs).toArray t (0, 0))
theorem IRow.cell {w : World} {b : Nat} {t : TypeId} {xs : List Int} (h : IRow w b t xs) (i : Nat) (hi : i < xs.length) : w.cell? ⟨b, i, none⟩ = some (.int .i64 (xs.getD i 0)) := by
  rw [blk_cell h]
  simp only [List.getElem?_toArray]
  exact nums_at xs i hi
theorem IRow.fz {w : World} {b : Nat} {t : TypeId} {xs : List Int} (h : IRow w b t xs) (i : Nat) : w.frozen? ⟨b, i, none⟩ = false := blk_frozen h i
theorem IRow.set {w : World} {b : Nat} {t : TypeId} {xs : List Int} (h : IRow w b t xs) (i : Nat) (x : Int) : IRow (w.setCell ⟨b, i, none⟩ (.int .i64 x)) b t (xs.set i x) := by
  unfold IRow at h ⊢
  rw [blk_set h]
  simp [nums, List.map_set]
theorem IRow.far {w : World} {b : Nat} {t : TypeId} {xs : List Int} (h : IRow w b t xs) {p : Addr} (hp : b ≠ p.block) (u : Value) : IRow (w.setCell p u) b t xs := blk_far h hp u
theorem IRow.drewN {w : World} {b : Nat} {t : TypeId} {xs : List Int} (h : IRow w b t xs) (n : Nat) : IRow (w.drewN n) b t xs := h
theorem IRow.below {w w1 : World} {b : Nat} {t : TypeId} {xs : List Int} (h : IRow w b t xs) (hb : Below w.heap.size w w1) : IRow w1 b t xs := blk_below h hb
theorem IRow.lt {w : World} {b : Nat} {t : TypeId} {xs : List Int} (h : IRow w b t xs) : b < w.heap.size := blk_lt h
theorem IRow.reads {w : World} {b : Nat} {t : TypeId} {xs : List Int} (h : IRow w b t xs) (hm : xs.length ≤ 9223372036854775807) : (Kd.int .i64).C w (some ⟨b, 0, none⟩) xs.length xs := C_block w b .i64 xs t (0, 0) h hm
theorem IRow.made (w : World) (t : TypeId) (m : Nat) : IRow (w.alloc (.cells (madeCells #[.int .i64 0] m) t)) w.heap.size t (List.replicate m 0) := by
  rw [made_nums]
  exact alloc_self _ _
theorem info_i64 : (Try.prog.info? 3).map (fun i => (i.zero, i.size, i.bytes)) = some (some (.int .i64 0), 1, 8) := by kernel_rfl
theorem make_ints (n : Nat) (hn : n ≤ 16777216) (W : World) : (Instr.makeSlice 22 (.int .i64 n) (.int .i64 n)).run Try.prog W = .ok (.slice (some ⟨W.heap.size, 0, none⟩) n n) (W.alloc (.cells (madeCells #[.int .i64 0] n) 3)) := by
  obtain ⟨i0, hi, hz⟩ := Option.map_eq_some_iff.1 info_i64
  simp only [Prod.mk.injEq] at hz
  have h := run_makeSlice W (P := Try.prog) 22 3 i0 (.int .i64 0) Try.underlying22 hi hz.1 .i64 .i64 n n (by omega) (by omega) (by rw [hz.2.1]; omega) (by rw [hz.2.2]; omega) (by omega)
  rw [hz.2.1] at h
  simpa [Value.cells] using h
theorem list17 (xs : List Int) (h : xs.length = 17) : nums .i64 xs = [0, 1, 2, 3, 4, 5, 6, 7, 8, 9, 10, 11, 12, 13, 14, 15, 16].map fun i => .int .i64 (xs.getD i 0) := by
  apply List.ext_getElem
  · simp [nums, h]
  · intro i a b
    have hi : i < 17 := by simpa using b
    have : i = 0 ∨ i = 1 ∨ i = 2 ∨ i = 3 ∨ i = 4 ∨ i = 5 ∨ i = 6 ∨ i = 7 ∨ i = 8 ∨ i = 9 ∨ i = 10 ∨ i = 11 ∨ i = 12 ∨ i = 13 ∨ i = 14 ∨ i = 15 ∨ i = 16 := by omega
    rcases this with e | e | e | e | e | e | e | e | e | e | e | e | e | e | e | e | e <;> subst e <;> simp [nums, List.getD_eq_getElem?_getD, h]
/-- Where the next sign of each length goes, behind so many signs. -/
def atL (L : List Int) (i : Nat) : List Int := tab fun k => if k < 16 then ((beg L k + c0 (L.take i) k : Nat) : Int) else 0
def nmL (L : List Int) (i : Nat) : List Int := (List.range L.length).map fun s => if s < i then (code L s : Int) else 0
theorem nmL_len (L : List Int) (i : Nat) : (nmL L i).length = L.length := by simp [nmL]
theorem atL_zero (L : List Int) : upto (beg L) 16 = atL L 0 := tab_eq fun k hk => by
  split
  · simp [c0, cn]
  · rfl
theorem atL_get (L : List Int) (i m : Nat) (h0 : m ≠ 0) (h : m ≤ 15) : (atL L i).getD m 0 = ((beg L m + cn (L.take i) m : Nat) : Int) := by
  unfold atL
  rw [tab_get _ m (by omega), if_pos (by omega)]
  simp [c0, h0]
theorem atL_skip (L : List Int) (i : Nat) (h : L[i]? = some 0) : atL L (i + 1) = atL L i := tab_eq fun k hk => by
  unfold c0
  by_cases e : k = 0
  · simp [e]
  · rw [if_neg e, if_neg e, cn_take L i k _ h, if_neg (show ¬ ((0 : Int) = (k : Int)) by omega)]; rfl
theorem atL_set (L : List Int) (i m : Nat) (h0 : m ≠ 0) (h : m ≤ 15) (hx : L[i]? = some (m : Int)) (y : Int) (hy : y = ((beg L m + cn (L.take i) m : Nat) : Int) + 1) : (atL L i).set m y = atL L (i + 1) := by
  unfold atL
  refine tab_set _ _ m y (by omega) ?_ ?_
  · rw [if_pos (by omega), hy]
    unfold c0
    rw [if_neg h0, cn_take L i m _ hx, if_pos rfl]
    omega
  · intro k hk _
    split
    · unfold c0
      by_cases e : k = 0
      · simp [e]
      · rw [if_neg e, if_neg e, cn_take L i k _ hx, if_neg (by omega)]; rfl
    · rfl
theorem nmL_zero (L : List Int) : List.replicate L.length (0 : Int) = nmL L 0 := by
  apply List.ext_getElem
  · simp [nmL]
  · intro i a b; simp [nmL]
theorem nmL_set (L : List Int) (i : Nat) (h : i < L.length) (y : Int) (hy : y = (code L i : Int)) : (nmL L i).set i y = nmL L (i + 1) := by
  apply List.ext_getElem
  · simp [nmL]
  · intro j a b
    rw [List.getElem_set]
    simp only [nmL, List.getElem_map, List.getElem_range]
    split
    · next e => subst e; rw [if_pos (by omega), hy]
    · next e =>
      by_cases hj : j < i
      · rw [if_pos hj, if_pos (by omega)]
      · rw [if_neg hj, if_neg (by omega)]
theorem nmL_skip (L : List Int) (i : Nat) (h : L[i]? = some 0) : nmL L (i + 1) = nmL L i := by
  have hl := (List.getElem?_eq_some_iff.1 h).1
  rw [← nmL_set L i hl (code L i : Int) rfl]
  have hc : (code L i : Int) = 0 := by
    unfold code
    rw [List.getD_eq_getElem?_getD, h]
    simp
  rw [hc]
  apply List.ext_getElem
  · simp [nmL]
  · intro j a b
    rw [List.getElem_set]
    split
    · next e => subst e; simp [nmL]
    · rfl
theorem nmL_all (L : List Int) : nmL L L.length = (List.range L.length).map fun s => (code L s : Int) := by
  unfold nmL
  apply List.map_congr_left
  intro s hs
  rw [if_pos (List.mem_range.1 hs)]
theorem over_all (L : List Int) : ∀ k n, anyOver L k n = false → ∀ j, n ≤ j → j < n + k → over L j = false
  | 0, n, _, j, h1, h2 => by omega
  | k + 1, n, h, j, h1, h2 => by
    rw [anyOver, Bool.or_eq_false_iff] at h
    rcases Nat.eq_or_lt_of_le h1 with e | e
    · subst e; exact h.1
    · exact over_all L k (n + 1) h.2 j e (by omega)
/-- All signs before this one stand at their places. -/
def Stood (L : List Int) (i : Nat) (S : List Int) : Prop := S.length = beg L 16 ∧ ∀ s, s < i → L.getD s 0 ≠ 0 → S.getD (pos L s) 0 = (s : Int)
theorem stood_skip (L : List Int) (i : Nat) (S : List Int) (h : Stood L i S) (hx : L.getD i 0 = 0) : Stood L (i + 1) S := ⟨h.1, fun s hs h0 => by
  rcases Nat.lt_or_ge s i with e | e
  · exact h.2 s e h0
  · obtain rfl : s = i := by omega
    exact absurd hx h0⟩
theorem pos_eq (L : List Int) (i m : Nat) (hx : L.getD i 0 = (m : Int)) : pos L i = beg L m + cn (L.take i) m := by
  unfold pos
  rw [hx]
  simp
theorem pos_in (L : List Int) (i m : Nat) (hi : i < L.length) (h0 : m ≠ 0) (h : m ≤ 15) (hx : L.getD i 0 = (m : Int)) : beg L m + cn (L.take i) m < beg L 16 := by
  have h1 := pos_lt L i hi m hx h0
  have h2 : beg L (m + 1) = beg L m + cn L m := by rw [beg]; simp [c0, h0]
  obtain ⟨d, e⟩ : ∃ d, 16 = (m + 1) + d := ⟨15 - m, by omega⟩
  have h3 := beg_mono L (m + 1) d
  rw [← e] at h3
  omega
theorem stood_set (L : List Int) (i m : Nat) (S : List Int) (h : Stood L i S) (hok : okL L = true) (hi : i < L.length) (h0 : m ≠ 0) (hm : m ≤ 15) (hx : L.getD i 0 = (m : Int)) :
    Stood L (i + 1) (S.set (beg L m + cn (L.take i) m) (i : Int)) := by
  refine ⟨by rw [List.length_set]; exact h.1, fun s hs hs0 => ?_⟩
  have hp := pos_in L i m hi h0 hm hx
  rcases Nat.lt_or_ge s i with e | e
  · have hs1 : s < L.length := by omega
    have hmem : L.getD s 0 ∈ L := by rw [List.getD_eq_getElem?_getD, List.getElem?_eq_getElem hs1]; exact List.getElem_mem _
    have hb : 0 ≤ L.getD s 0 ∧ L.getD s 0 ≤ 15 := by
      have := List.all_eq_true.1 hok _ hmem
      simpa using this
    obtain ⟨n', hn'⟩ := Int.eq_ofNat_of_zero_le hb.1
    have hne := pos_inj L s i e hi n' m hn' hx (by intro e2; rw [e2] at hn'; exact hs0 hn') h0
    rw [← pos_eq L s n' hn'] at hne
    rw [List.getD_eq_getElem?_getD, List.getElem?_set_ne (by omega), ← List.getD_eq_getElem?_getD]
    exact h.2 s e hs0
  · obtain rfl : s = i := by omega
    rw [pos_eq L s m hx, List.getD_eq_getElem?_getD, List.getElem?_set_self (by rw [h.1]; exact hp)]
    rfl
end Go.Proofs.Ytlgpmpnobcdogaa.My

/- The walk of huff.Code's sort. -/
namespace Go.Proofs.Ytlgpmpnobcdogaa.My
open Go.RowKit Go.Proofs.Ytlgpmpnobcdogaa.Huf Go.Proofs.YtlgpmpnobcdogaaW.PrintWords Go.Proofs.YtlgpmpnobcdogaaW.PrintLast Go.Proofs.YtlgpmpnobcdogaaW.PrintMore
set_option linter.unusedVariables false
set_option linter.unusedSimpArgs false

theorem Cod.drew {w : World} {g : Nat} {v0 v4 v5 : Value} {f m b : List Int} (k : Cod w g v0 f m b v4 v5) : Cod w.drew g v0 f m b v4 v5 := k.drewN 1
theorem IRow.drew {w : World} {b : Nat} {t : TypeId} {xs : List Int} (h : IRow w b t xs) : IRow w.drew b t xs := h
theorem Cod.other {w : World} {g : Nat} {v0 v4 v5 : Value} {f m b : List Int} (k : Cod w g v0 f m b v4 v5) {p : Addr} (hp : g ≠ p.block) (u : Value) : Cod (w.setCell p u) g v0 f m b v4 v5 := ⟨blk_far k.blk hp u, k.lf, k.lm, k.lb⟩
theorem grown_new {w w1 : World} {row : Option Nat} (h : w.grownBy w1 row) {p : Addr} (hp : w.heap.size ≤ p.block) (u : Value) : w.grownBy (w1.setCell p u) row :=
  ⟨h.os, h.tape, h.output, by have := h.size; simpa [World.setCell] using this, fun i hi hr => (Below.heap_setCell w1 p u i (by omega)).trans (h.block i hi hr)⟩
set_option maxHeartbeats 2000000 in
set_option maxRecDepth 100000 in
theorem sort_calls (w : World) (g : Nat) (A : Option Addr) (n c : Nat) (L : List Int) (v4 v5 : Value) (k : Cod w g (.slice A n c) (upto (fst L) 16) (tab fun j => (c0 L j : Int)) (upto (beg L) 16) v4 v5) (hL : (Kd.int .i64).C w A n L) (hne : ∀ ad, A = some ad → ad.block ≠ g) (hn : n ≤ 1000000) (hok : okL L = true) (hover : anyOver L 15 1 = false) :
    Calls Try.prog 31 #[.pointer (some ⟨g, 0, none⟩)] w fun e w' => e = .returned (.tuple #[]) ∧ w.grownBy w' (some g) ∧ ∃ b1 b2 S, w.heap.size ≤ b1 ∧ w.heap.size ≤ b2 ∧ b1 ≠ b2 ∧ Cod w' g (.slice A n c) (upto (fst L) 16) (tab fun j => (c0 L j : Int)) (upto (beg L) 16) (.slice (some ⟨b1, 0, none⟩) (beg L 16) (beg L 16)) (.slice (some ⟨b2, 0, none⟩) n n) ∧ IRow w' b1 3 S ∧ Stood L n S ∧ IRow w' b2 3 (nmL L n) := by
  have hl : L.length = n := hL.1
  have cb15 : w.cell? ⟨g, 50, none⟩ = some (.int .i64 ((upto (beg L) 16).getD 15 0)) := k.cb 15 (by omega)
  rw [upto_get _ _ 15 (by omega) (by omega)] at cb15
  have cm15 := k.cm 15 (by omega)
  rw [tab_get _ 15 (by omega)] at cm15
  have y0 : w.cell? ⟨g, 35, none⟩ = some (.int .i64 ((upto (beg L) 16).getD 0 0)) := k.cb 0 (by omega)
  have y1 : w.cell? ⟨g, 36, none⟩ = some (.int .i64 ((upto (beg L) 16).getD 1 0)) := k.cb 1 (by omega)
  have y2 : w.cell? ⟨g, 37, none⟩ = some (.int .i64 ((upto (beg L) 16).getD 2 0)) := k.cb 2 (by omega)
  have y3 : w.cell? ⟨g, 38, none⟩ = some (.int .i64 ((upto (beg L) 16).getD 3 0)) := k.cb 3 (by omega)
  have y4 : w.cell? ⟨g, 39, none⟩ = some (.int .i64 ((upto (beg L) 16).getD 4 0)) := k.cb 4 (by omega)
  have y5 : w.cell? ⟨g, 40, none⟩ = some (.int .i64 ((upto (beg L) 16).getD 5 0)) := k.cb 5 (by omega)
  have y6 : w.cell? ⟨g, 41, none⟩ = some (.int .i64 ((upto (beg L) 16).getD 6 0)) := k.cb 6 (by omega)
  have y7 : w.cell? ⟨g, 42, none⟩ = some (.int .i64 ((upto (beg L) 16).getD 7 0)) := k.cb 7 (by omega)
  have y8 : w.cell? ⟨g, 43, none⟩ = some (.int .i64 ((upto (beg L) 16).getD 8 0)) := k.cb 8 (by omega)
  have y9 : w.cell? ⟨g, 44, none⟩ = some (.int .i64 ((upto (beg L) 16).getD 9 0)) := k.cb 9 (by omega)
  have y10 : w.cell? ⟨g, 45, none⟩ = some (.int .i64 ((upto (beg L) 16).getD 10 0)) := k.cb 10 (by omega)
  have y11 : w.cell? ⟨g, 46, none⟩ = some (.int .i64 ((upto (beg L) 16).getD 11 0)) := k.cb 11 (by omega)
  have y12 : w.cell? ⟨g, 47, none⟩ = some (.int .i64 ((upto (beg L) 16).getD 12 0)) := k.cb 12 (by omega)
  have y13 : w.cell? ⟨g, 48, none⟩ = some (.int .i64 ((upto (beg L) 16).getD 13 0)) := k.cb 13 (by omega)
  have y14 : w.cell? ⟨g, 49, none⟩ = some (.int .i64 ((upto (beg L) 16).getD 14 0)) := k.cb 14 (by omega)
  have y16 : w.cell? ⟨g, 51, none⟩ = some (.int .i64 ((upto (beg L) 16).getD 16 0)) := k.cb 16 (by omega)
  have b1 : ((beg L 15 : Nat) : Int) ≤ 1000000 := by have := beg_all L hok 15; omega
  have b2 : ((Huf.c0 L 15 : Nat) : Int) ≤ 1000000 := by have := c0_le L 15; omega
  have h3 : (n : Int) ≤ 1000000 := by omega
  have HK0 := Aside0.mk k
  have HL := Aside0.mk hL
  have HNe := Aside0.mk hne
  have HLn := Aside0.mk hl
  have HOk := Aside0.mk hok
  have HOv := Aside0.mk hover
  clear k hL hne hl hn hok hover
  have p1 : (0 : Int) ≤ ((beg L 15 : Nat) : Int) := by omega
  have p2 : (0 : Int) ≤ ((Huf.c0 L 15 : Nat) : Int) := by omega
  generalize hX : beg L 15 = X at *
  generalize hY : Huf.c0 L 15 = Y at *
  have HX := Aside0.mk hX
  have HY := Aside0.mk hY
  clear hX hY
  generalize hz0 : (upto (beg L) 16).getD 0 0 = z0 at y0
  generalize hz1 : (upto (beg L) 16).getD 1 0 = z1 at y1
  generalize hz2 : (upto (beg L) 16).getD 2 0 = z2 at y2
  generalize hz3 : (upto (beg L) 16).getD 3 0 = z3 at y3
  generalize hz4 : (upto (beg L) 16).getD 4 0 = z4 at y4
  generalize hz5 : (upto (beg L) 16).getD 5 0 = z5 at y5
  generalize hz6 : (upto (beg L) 16).getD 6 0 = z6 at y6
  generalize hz7 : (upto (beg L) 16).getD 7 0 = z7 at y7
  generalize hz8 : (upto (beg L) 16).getD 8 0 = z8 at y8
  generalize hz9 : (upto (beg L) 16).getD 9 0 = z9 at y9
  generalize hz10 : (upto (beg L) 16).getD 10 0 = z10 at y10
  generalize hz11 : (upto (beg L) 16).getD 11 0 = z11 at y11
  generalize hz12 : (upto (beg L) 16).getD 12 0 = z12 at y12
  generalize hz13 : (upto (beg L) 16).getD 13 0 = z13 at y13
  generalize hz14 : (upto (beg L) 16).getD 14 0 = z14 at y14
  generalize hz16 : (upto (beg L) 16).getD 16 0 = z16 at y16
  have HZ := Aside0.mk (show (upto (beg L) 16).getD 0 0 = z0 ∧ (upto (beg L) 16).getD 1 0 = z1 ∧ (upto (beg L) 16).getD 2 0 = z2 ∧ (upto (beg L) 16).getD 3 0 = z3 ∧ (upto (beg L) 16).getD 4 0 = z4 ∧ (upto (beg L) 16).getD 5 0 = z5 ∧ (upto (beg L) 16).getD 6 0 = z6 ∧ (upto (beg L) 16).getD 7 0 = z7 ∧ (upto (beg L) 16).getD 8 0 = z8 ∧ (upto (beg L) 16).getD 9 0 = z9 ∧ (upto (beg L) 16).getD 10 0 = z10 ∧ (upto (beg L) 16).getD 11 0 = z11 ∧ (upto (beg L) 16).getD 12 0 = z12 ∧ (upto (beg L) 16).getD 13 0 = z13 ∧ (upto (beg L) 16).getD 14 0 = z14 ∧ (upto (beg L) 16).getD 16 0 = z16 from ⟨hz0, hz1, hz2, hz3, hz4, hz5, hz6, hz7, hz8, hz9, hz10, hz11, hz12, hz13, hz14, hz16⟩)
  clear hz0 hz1 hz2 hz3 hz4 hz5 hz6 hz7 hz8 hz9 hz10 hz11 hz12 hz13 hz14 hz16
  go_enter Try.func31, Try.ntmps31
  go_upto_region 0 with fail
  go_cut [2] from 5 to 9 (fun v2 wx => v2 = .pointer (some ⟨w.heap.size, 0, none⟩) ∧ Aside0 (IRow wx w.heap.size 62 (upto (beg L) 16)) ∧ Aside0 (Below w.heap.size w wx))
  case first =>
    go_wp2_with fail
    go_meet
    case rel =>
      refine ⟨rfl, ⟨?_⟩, ⟨below_alloc (Below.refl _ _) _⟩⟩
      unfold IRow
      rw [list17 (upto (beg L) 16) (tab_len _), alloc_self]
      obtain ⟨h0, h1, h2, h3, h4, h5, h6, h7, h8, h9, h10, h11, h12, h13, h14, h16⟩ := HZ.out
      have h15 : (upto (beg L) 16).getD 15 0 = (X : Int) := by rw [upto_get _ _ 15 (by omega) (by omega), HX.out]
      simp only [List.map_cons, List.map_nil, h0, h1, h2, h3, h4, h5, h6, h7, h8, h9, h10, h11, h12, h13, h14, h15, h16]
  case rest =>
  obtain ⟨rfl, HR, HB⟩ := hcut
  have k1 := HK0.out.below HB.out
  have HK1 := Aside0.mk k1
  clear cb15 cm15
  have cb15 : wc.cell? ⟨g, 50, none⟩ = some (.int .i64 ((upto (beg L) 16).getD 15 0)) := k1.cb 15 (by omega)
  rw [upto_get _ _ 15 (by omega) (by omega), HX.out] at cb15
  have cm15 : wc.cell? ⟨g, 33, none⟩ = some (.int .i64 ((tab fun j => (Huf.c0 L j : Int)).getD 15 0)) := k1.cm 15 (by omega)
  rw [tab_get _ 15 (by omega), HY.out] at cm15
  have kA := k1.below (below_alloc (Below.refl _ _) (.cells (madeCells #[.int .i64 0] (X + Y)) 3))
  have f4 := kA.fz 52
  have c4 := kA.c4
  have HA := Aside0.mk kA
  clear k1 kA
  have mk1 : ∀ W : World, (Instr.makeSlice 22 (.int .i64 ((X : Int) + (Y : Int))) (.int .i64 ((X : Int) + (Y : Int)))).run Try.prog W = .ok (.slice (some ⟨W.heap.size, 0, none⟩) (X + Y) (X + Y)) (W.alloc (.cells (madeCells #[.int .i64 0] (X + Y)) 3)) := fun W => by
    have := make_ints (X + Y) (by omega) W
    rw [show ((X + Y : Nat) : Int) = (X : Int) + (Y : Int) by omega] at this
    exact this
  clear y0 y1 y2 y3 y4 y5 y6 y7 y8 y9 y10 y11 y12 y13 y14 y16 HZ
  go_wp2_with fail
  go_region
  have kB := (HA.out.s4 (.slice (some ⟨wc.heap.size, 0, none⟩) (X + Y) (X + Y))).drew
  have rB : IRow ((wc.alloc (.cells (madeCells #[.int .i64 0] (X + Y)) 3)).setCell ⟨g, 52, none⟩ (.slice (some ⟨wc.heap.size, 0, none⟩) (X + Y) (X + Y))).drew wc.heap.size 3 (List.replicate (X + Y) 0) := ((IRow.made wc _ (X + Y)).far (by have := HK1.out.lt; show wc.heap.size ≠ g; omega) _).drewN 1
  have rA : IRow ((wc.alloc (.cells (madeCells #[.int .i64 0] (X + Y)) 3)).setCell ⟨g, 52, none⟩ (.slice (some ⟨wc.heap.size, 0, none⟩) (X + Y) (X + Y))).drew w.heap.size 62 (upto (beg L) 16) := ((HR.out.below (below_alloc (Below.refl _ _) _)).far (by have := HK0.out.lt; show w.heap.size ≠ g; omega) _).drewN 1
  have gB : w.grownBy ((wc.alloc (.cells (madeCells #[.int .i64 0] (X + Y)) 3)).setCell ⟨g, 52, none⟩ (.slice (some ⟨wc.heap.size, 0, none⟩) (X + Y) (X + Y))).drew (some g) := grown_drew (grown_trans (grown_below (below_alloc HB.out _) _) (grown_set _ _ _ _))
  generalize ((wc.alloc (.cells (madeCells #[.int .i64 0] (X + Y)) 3)).setCell ⟨g, 52, none⟩ (.slice (some ⟨wc.heap.size, 0, none⟩) (X + Y) (X + Y))).drew = w2 at *
  have h1a : wc.heap.size < w2.heap.size := rB.lt
  have h1b : w.heap.size < wc.heap.size := HR.out.lt
  have h1c : g < w.heap.size := HK0.out.lt
  have c0 := kB.c0
  have kC := kB.below (below_alloc (Below.refl _ _) (.cells (madeCells #[.int .i64 0] n) 3))
  have f5 := kC.fz 53
  have c5 := kC.c5
  have kD := kC.s5 (.slice (some ⟨w2.heap.size, 0, none⟩) n n)
  have c0D := kD.c0
  have rC := (IRow.made w2 3 n).far (p := ⟨g, 53, none⟩) (by show w2.heap.size ≠ g; omega) (.slice (some ⟨w2.heap.size, 0, none⟩) n n)
  have rD := (rB.below (below_alloc (Below.refl _ _) (.cells (madeCells #[.int .i64 0] n) 3))).far (p := ⟨g, 53, none⟩) (by show wc.heap.size ≠ g; omega) (.slice (some ⟨w2.heap.size, 0, none⟩) n n)
  have rE := (rA.below (below_alloc (Below.refl _ _) (.cells (madeCells #[.int .i64 0] n) 3))).far (p := ⟨g, 53, none⟩) (by show w.heap.size ≠ g; omega) (.slice (some ⟨w2.heap.size, 0, none⟩) n n)
  have gC := grown_trans (grown_trans gB (grown_below (below_alloc (Below.refl _ _) (.cells (madeCells #[.int .i64 0] n) 3)) (some g))) (grown_set _ g 53 (.slice (some ⟨w2.heap.size, 0, none⟩) n n))
  have mk2 : ∀ W : World, (Instr.makeSlice 22 (.int .i64 n) (.int .i64 n)).run Try.prog W = .ok (.slice (some ⟨W.heap.size, 0, none⟩) n n) (W.alloc (.cells (madeCells #[.int .i64 0] n) 3)) := fun W => make_ints n (by omega) W
  have KD := Aside0.mk kD
  have RC := Aside0.mk rC
  have RD := Aside0.mk rD
  have RE := Aside0.mk rE
  have GC := Aside0.mk gC
  clear kB kC kD rB rA rC rD rE gB gC HA HR HB HK1 mk1 f4 c4 cb15 cm15
  go_wp2_with fail
  clear c0 c0D f5 c5 mk2
  have HXY : Aside0 (X + Y = beg L 16) := ⟨by rw [beg, HX.out, HY.out]⟩
  have HT3 : Aside0 (X + Y ≤ 2000000) := ⟨by omega⟩
  clear b1 b2 p1 p2 HX HY
  generalize X + Y = T at *
  generalize (X : Int) = x1 at *
  generalize (Y : Int) = y1 at *
  generalize hb2 : w2.heap.size = b2 at *
  generalize hb1 : wc.heap.size = b1 at *
  generalize hba : w.heap.size = ba at *
  have HBA := Aside0.mk hba
  clear hba
  go_loopg [38] n (fun kq v38 wr => ∃ i : Nat, v38 = .int .i64 i ∧ i ≤ n ∧ Aside0 (kq = n - i) ∧ Aside0 (Cod wr g (.slice A n c) (upto (fst L) 16) (tab fun j => (Huf.c0 L j : Int)) (upto (beg L) 16) (.slice (some ⟨b1, 0, none⟩) T T) (.slice (some ⟨b2, 0, none⟩) n n)) ∧ Aside0 (IRow wr ba 62 (atL L i)) ∧ Aside0 (IRow wr b2 3 (nmL L i)) ∧ Aside0 (∃ S, IRow wr b1 3 S ∧ Stood L i S) ∧ Aside0 (w.grownBy wr (some g)))
  case atStart =>
    refine ⟨0, rfl, Nat.zero_le _, ⟨rfl⟩, KD, ⟨by rw [← atL_zero]; exact RE.out⟩, ⟨by rw [← nmL_zero, HLn.out]; exact RC.out⟩, ⟨_, RD.out, by rw [List.length_replicate]; exact HXY.out, fun s hs => absurd hs (Nat.not_lt_zero _)⟩, GC⟩
  case round =>
    obtain ⟨i, rfl, hi, HK, HC, HA, HN, HS, HG⟩ := hrel
    by_cases hlt : i < n
    · have hlt' : (i : Int) < (n : Int) := by omega
      obtain ⟨ad, rfl, hci⟩ := num_at HL.out i hlt
      have hci2 : wr.cell? (ad.add i) = some (.int .i64 (L.getD i 0)) := HG.out.cell hci (by rw [add_block]; simpa using fun e => HNe.out ad rfl e)
      have hx := getD_some L i (by rw [HLn.out]; exact hlt)
      have hb : 0 ≤ L.getD i 0 ∧ L.getD i 0 ≤ 15 := by
        have := List.all_eq_true.1 HOk.out _ (List.mem_of_getElem? hx)
        simpa using this
      generalize hxx : L.getD i 0 = x at hci hci2 hx hb
      have HX2 := Aside0.mk hx
      have HXX := Aside0.mk hxx
      obtain ⟨m, rfl⟩ := Int.eq_ofNat_of_zero_le hb.1
      have hm : (m : Int) ≤ 15 := hb.2
      clear hx hxx hci hb
      by_cases hm0 : m = 0
      · subst hm0
        go_wp2_with fail
        have e1 : ((i : Int) + 1) = ((i + 1 : Nat) : Int) := by omega
        rw [e1]
        go_roundg (n - (i + 1))
        case measure => have := HK.out; omega
        case rel =>
          refine ⟨i + 1, rfl, by omega, ⟨rfl⟩, HC, ⟨by rw [atL_skip L i HX2.out]; exact HA.out⟩, ⟨by rw [nmL_skip L i HX2.out]; exact HN.out⟩, ⟨?_⟩, HG⟩
          obtain ⟨S, hS1, hS2⟩ := HS.out
          exact ⟨S, hS1, stood_skip L i S hS2 HXX.out⟩
      · obtain ⟨S, hS1, hS2⟩ := HS.out
        have hm15 : m ≤ 15 := by omega
        have hp := pos_in L i m (by rw [HLn.out]; exact hlt) hm0 hm15 HXX.out
        have hs2 := stood_set L i m S hS2 HOk.out (by rw [HLn.out]; exact hlt) hm0 hm15 HXX.out
        have hs1 := hS2.1
        have hpe : (atL L i).getD m 0 = ((beg L m + cn (L.take i) m : Nat) : Int) := atL_get L i m hm0 hm15
        have hpos := pos_eq L i m HXX.out
        have hcd : (code L i : Int) = ((fst L m : Nat) : Int) + ((cn (L.take i) m : Nat) : Int) := by
          unfold code; rw [HXX.out]; simp [hm0]
        have hov := over_all L 15 1 HOv.out
        have hF := fst_le L m (fun j h1 h2 => hov j h1 (by omega))
        have h215 : 2 ^ m ≤ 2 ^ 15 := Nat.pow_le_pow_right (by decide) hm15
        have hbl := beg_all L HOk.out m
        have hcl : cn (L.take i) m ≤ n := by have := cn_take_le L i m; have := cn_le L m; have := HLn.out; omega
        have hF2 : ((fst L m : Nat) : Int) ≤ 32768 := by omega
        have hB2 : ((beg L m : Nat) : Int) ≤ 1000000 := by have := HLn.out; omega
        have hC2 : ((cn (L.take i) m : Nat) : Int) ≤ 1000000 := by omega
        have hT2 : ((beg L 16 : Nat) : Int) ≤ 2000000 := by have := HXY.out; have := HT3.out; omega
        have c52 := HC.out.c4
        have a1 := HA.out.cell m (by simp [atL, tab]; omega)
        rw [hpe] at a1
        have s1 := hS1.cell (beg L m + cn (L.take i) m) (by rw [hs1]; exact hp)
        have f1 := hS1.fz (beg L m + cn (L.take i) m)
        have HS2 := Aside0.mk hs2
        have HCD := Aside0.mk hcd
        have hPB : ((beg L m + cn (L.take i) m : Nat) : Int) = ((beg L m : Nat) : Int) + ((cn (L.take i) m : Nat) : Int) := by omega
        have HPB := Aside0.mk hPB
        have hPT : ((beg L m + cn (L.take i) m : Nat) : Int) < (T : Int) := by have := HXY.out; omega
        have hT3 : (T : Int) ≤ 2000000 := by have := HT3.out; omega
        have k1 := HC.out.other (p := ⟨b1, beg L m + cn (L.take i) m, none⟩) (by show g ≠ b1; omega) (.int .i64 i)
        have r1a := HA.out.far (p := ⟨b1, beg L m + cn (L.take i) m, none⟩) (by show ba ≠ b1; omega) (.int .i64 i)
        have r1n := HN.out.far (p := ⟨b1, beg L m + cn (L.take i) m, none⟩) (by show b2 ≠ b1; omega) (.int .i64 i)
        have r1s := hS1.set (beg L m + cn (L.take i) m) i
        have g1 := grown_new HG.out (p := ⟨b1, beg L m + cn (L.take i) m, none⟩) (by show w.heap.size ≤ b1; have := HBA.out; omega) (.int .i64 i)
        have HA0 := Aside0.mk (atL_set L i m hm0 hm15 HX2.out (((beg L m + cn (L.take i) m : Nat) : Int) + 1) rfl)
        clear hS1 hS2 hs1 hs2 hpos hcd hF h215 hbl hcl hT2 hPB hp hpe hov HS
        generalize hP : beg L m + cn (L.take i) m = P at *
        clear hP
        generalize hFF : fst L m = F at *
        generalize hBB : beg L m = Bm at *
        have HFF := Aside0.mk hFF
        have HBB := Aside0.mk hBB
        clear hFF hBB
        generalize cn (L.take i) m = q at *
        have c53 := k1.c5
        have cf := k1.cf m (by omega)
        rw [upto_get _ _ m (by omega) (by omega), HFF.out] at cf
        have cb := k1.cb m (by omega)
        rw [upto_get _ _ m (by omega) (by omega), HBB.out] at cb
        have a2 := r1a.cell m (by simp [atL, tab]; omega)
        have hpe2 : (atL L i).getD m 0 = (P : Int) := by
          have h1 := HA.out.cell m (by simp [atL, tab]; omega)
          rw [a1] at h1
          injection h1 with h1
          injection h1 with _ h1
          exact h1.symm
        rw [hpe2] at a2
        have n2 := r1n.cell i (by rw [nmL_len, HLn.out]; exact hlt)
        have f2 := r1n.fz i
        have r2n := r1n.set i ((F : Int) + (P : Int) - (Bm : Int))
        have r2a := r1a.far (p := ⟨b2, i, none⟩) (by show ba ≠ b2; omega) (.int .i64 ((F : Int) + (P : Int) - (Bm : Int)))
        have r2s := r1s.far (p := ⟨b2, i, none⟩) (by show b1 ≠ b2; omega) (.int .i64 ((F : Int) + (P : Int) - (Bm : Int)))
        have k2 := k1.other (p := ⟨b2, i, none⟩) (by show g ≠ b2; omega) (.int .i64 ((F : Int) + (P : Int) - (Bm : Int)))
        have g2 := grown_new g1 (p := ⟨b2, i, none⟩) (by show w.heap.size ≤ b2; have := HBA.out; omega) (.int .i64 ((F : Int) + (P : Int) - (Bm : Int)))
        have a3 := r2a.cell m (by simp [atL, tab]; omega)
        rw [hpe2] at a3
        have f3 := r2a.fz m
        have r3a := r2a.set m ((P : Int) + 1)
        have r3n := r2n.far (p := ⟨ba, m, none⟩) (by show b2 ≠ ba; omega) (.int .i64 ((P : Int) + 1))
        have r3s := r2s.far (p := ⟨ba, m, none⟩) (by show b1 ≠ ba; omega) (.int .i64 ((P : Int) + 1))
        have k3 := k2.other (p := ⟨ba, m, none⟩) (by show g ≠ ba; omega) (.int .i64 ((P : Int) + 1))
        have g3 := grown_new g2 (p := ⟨ba, m, none⟩) (by show w.heap.size ≤ ba; have := HBA.out; omega) (.int .i64 ((P : Int) + 1))
        have RA3 := Aside0.mk r3a
        have RN3 := Aside0.mk r3n
        have RS3 := Aside0.mk r3s
        have KK3 := Aside0.mk k3
        have GG3 := Aside0.mk g3
        have HPE := Aside0.mk hpe2
        clear r1a r1n r1s r2a r2n r2s r3a r3n r3s k1 k2 k3 g1 g2 g3 hpe2
        generalize hnn : (nmL L i).getD i 0 = nn at *
        clear hnn
        generalize hss : S.getD P 0 = ss at *
        clear hss
        have p1 : (0 : Int) ≤ (F : Int) := by omega
        have p2 : (0 : Int) ≤ (P : Int) := by omega
        have p3 : (0 : Int) ≤ (Bm : Int) := by omega
        go_wp2_with fail
        go_region
        go_wp2_with fail
        go_region
        go_wp2_with fail
        have e1 : ((i : Int) + 1) = ((i + 1 : Nat) : Int) := by omega
        rw [e1]
        go_roundg (n - (i + 1))
        case measure => have := HK.out; omega
        case rel =>
          refine ⟨i + 1, rfl, by omega, ⟨rfl⟩, ⟨KK3.out.drewN 2⟩, ⟨?_⟩, ⟨?_⟩, ⟨_, RS3.out.drewN 2, HS2.out⟩, ⟨grown_drewN GG3.out 2⟩⟩
          · have := RA3.out
            rw [HA0.out] at this
            exact this.drewN 2
          · have := RN3.out
            rw [nmL_set L i (by rw [HLn.out]; exact hlt) _ (by rw [HCD.out, HPB.out]; omega)] at this
            exact this.drewN 2
    · have hin : i = n := by omega
      subst hin
      go_wp2_with fail
      refine bodyPost_end (results_none rfl _ _ _) rfl ?_
      obtain ⟨S, hS1, hS2⟩ := HS.out
      have := HC.out
      rw [HXY.out] at this
      exact ⟨rfl, HG.out, b1, b2, S, by have := HBA.out; omega, by have := HBA.out; omega, by omega, this, hS1, hS2, HN.out⟩
end Go.Proofs.Ytlgpmpnobcdogaa.My

/- The walk of slices.Clone of numbers. -/
namespace Go.Proofs.Ytlgpmpnobcdogaa.My
open Go.RowKit Go.Proofs.Ytlgpmpnobcdogaa.Huf Go.Proofs.YtlgpmpnobcdogaaW.PrintWords Go.Proofs.YtlgpmpnobcdogaaW.PrintLast Go.Proofs.YtlgpmpnobcdogaaW.PrintMore

theorem cloneI_calls (A : Option Addr) (n c : Nat) (xs : List Int) (w : World) (hx : (Kd.int .i64).C w A n xs) (hn : n ≤ 17592186044416) (hl : xs.length = n) (hcap : A = none → n = 0 ∧ c = 0) :
    Calls Try.prog 28 #[.slice A n c] w fun e w' => ∃ v', e = .returned v' ∧ w'.ownsRow w.heap.size 3 1 v' xs.length (nums .i64 xs) ∧ Below w.heap.size w w' := by
  cases A with
  | none =>
    obtain ⟨rfl, rfl⟩ := hcap rfl
    have : xs = [] := List.eq_nil_of_length_eq_zero hl
    subst this
    clear hx hl hcap hn
    have i1 : ∀ w : World, (binOp .eql 22 (.slice none 0 0) (.slice none 0 0)).run Try.prog w = .ok (.bool true) w := fun w => by rfl
    go_enter Try.func28, Try.ntmps28
    go_wp2
    go_ret
    exact ⟨_, rfl, own_nil _ _ _ _, Below.refl _ _⟩
  | some ad =>
    have HX := Aside0.mk hx
    have HL := Aside0.mk hl
    clear hx hcap hl
    have i1 : ∀ w : World, (binOp .eql 22 (.slice (some ad) n c) (.slice none 0 0)).run Try.prog w = .ok (.bool false) w := fun w => by rfl
    go_enter Try.func28, Try.ntmps28
    go_wp2_with ((with_reducible refine gate_dst (N := 7) rfl ?_); refine print_append_row (w0 := w) w.heap.size rfl (.tmp 5) (.tmp 6) 22 3 .i64 8 rfl Try.underlying22 info_i64 (by decide) _ [] xs (some ad) _ c rfl rfl (own_lit w w.heap.size 3 .i64 [] (Nat.le_refl _) (by decide)) (reads_of_C (Kd.C_alloc HX.out _)) (below_alloc (Below.refl _ _) _) (by simp) (by simp; omega) ?_; intro v1 w2 ho hb hg hk; clear hg hk; rw [List.nil_append] at ho; have HB2 := Aside0.mk hb; have HO := Aside0.mk ho; clear hb ho)
    go_ret
    exact ⟨_, rfl, HO.out, HB2.out⟩
end Go.Proofs.Ytlgpmpnobcdogaa.My

/- A huff.Code that is made: its blocks, and that they stay. -/
namespace Go.Proofs.Ytlgpmpnobcdogaa.My
open Go.RowKit Go.Proofs.Ytlgpmpnobcdogaa.Huf Go.Proofs.YtlgpmpnobcdogaaW.PrintWords Go.Proofs.YtlgpmpnobcdogaaW.PrintLast Go.Proofs.YtlgpmpnobcdogaaW.PrintMore
set_option linter.unusedVariables false
set_option linter.unusedSimpArgs false

/-- Numbers that are read, in blocks from lo up to hi. -/
structure RB (w : World) (lo hi : Nat) (A : Option Addr) (n : Nat) (xs : List Int) : Prop where
  c : (Kd.int .i64).C w A n xs
  b : ∀ ad, A = some ad → lo ≤ ad.block ∧ ad.block < hi
theorem RB.grown {w w1 : World} {lo hi : Nat} {A : Option Addr} {n : Nat} {xs : List Int} (h : RB w lo hi A n xs) {row : Option Nat} (hg : w.grownBy w1 row) (hr : ∀ r, row = some r → r < lo ∨ hi ≤ r) : RB w1 lo hi A n xs := by
  refine ⟨C_of_readsInt ?_, h.b⟩
  obtain ⟨h1, h2, h3⟩ := reads_of_C h.c
  refine ⟨h1, h2, fun hn => ?_⟩
  obtain ⟨ad, e, hc⟩ := h3 hn
  refine ⟨ad, e, fun j hj => ?_⟩
  refine hg.cell (hc j hj) ?_
  rw [add_block]
  intro e2
  have h4 := h.b ad e
  rcases hr _ e2.symm with h5 | h5 <;> omega
theorem RB.mono {w : World} {lo hi lo' hi' : Nat} {A : Option Addr} {n : Nat} {xs : List Int} (h : RB w lo hi A n xs) (h1 : lo' ≤ lo) (h2 : hi ≤ hi') : RB w lo' hi' A n xs := ⟨h.c, fun ad e => by have := h.b ad e; omega⟩
/-- A Code of lengths, at g, all its blocks from lo up to hi. -/
structure CodeAt (w : World) (lo hi g : Nat) (L : List Int) : Prop where mk :: (out : ∃ (A A1 A2 : Option Addr) (c c1 c2 : Nat) (S : List Int), Cod w g (.slice A L.length c) (upto (fst L) 16) (tab fun j => (c0 L j : Int)) (upto (beg L) 16) (.slice A1 (beg L 16) c1) (.slice A2 L.length c2) ∧
  RB w lo hi A L.length L ∧ RB w lo hi A1 (beg L 16) S ∧ RB w lo hi A2 L.length (nmL L L.length) ∧ Stood L L.length S ∧ lo ≤ g ∧ g < hi)
theorem CodeAt.grown {w w1 : World} {lo hi g : Nat} {L : List Int} (h : CodeAt w lo hi g L) {row : Option Nat} (hg : w.grownBy w1 row) (hr : ∀ r, row = some r → r < lo ∨ hi ≤ r) : CodeAt w1 lo hi g L := by
  obtain ⟨A, A1, A2, c, c1, c2, S, k, r0, r1, r2, hS, h1, h2⟩ := h.out
  exact ⟨A, A1, A2, c, c1, c2, S, k.far hg (by intro e; rcases hr g e.symm with h5 | h5 <;> omega), r0.grown hg hr, r1.grown hg hr, r2.grown hg hr, hS, h1, h2⟩
theorem CodeAt.below {w w1 : World} {lo hi g : Nat} {L : List Int} (h : CodeAt w lo hi g L) (hb : Below w.heap.size w w1) : CodeAt w1 lo hi g L :=
  h.grown (grown_below hb none) (fun r e => by cases e)
theorem CodeAt.drewN {w : World} {lo hi g : Nat} {L : List Int} (h : CodeAt w lo hi g L) (n : Nat) : CodeAt (w.drewN n) lo hi g L := h.below (pw_below_drewN (Below.refl _ _) n)

/-- Lengths that make a lone code. -/
def aloneL (L : List Int) : Bool := decide (beg L 16 = 0) || (decide (beg L 16 = 1) && decide (c0 L 1 = 1))
/-- What New refuses lengths for. -/
def newR (L : List Int) (lone : Bool) : Option Int :=
  if 320 < L.length then some 3 else if okL L = false then some 1 else if numR L < 0 then some 14 else if 0 < numR L ∧ ¬ (lone = true ∧ aloneL L = true) then some 2 else none
set_option maxHeartbeats 1000000 in
theorem alone_calls (w : World) (lo hi g : Nat) (L : List Int) (k : CodeAt w lo hi g L) (hl : L.length ≤ 1000000) (hok : okL L = true) :
    Calls Try.prog 32 #[.pointer (some ⟨g, 0, none⟩)] w fun e w' => e = .returned (.bool (aloneL L)) ∧ w' = w := by
  obtain ⟨A, A1, A2, c, c1, c2, S, k, r0, r1, r2, hS, h1, h2⟩ := k.out
  have c4 := k.c4
  have cm : w.cell? ⟨g, 19, none⟩ = some (.int .i64 ((tab fun j => (Huf.c0 L j : Int)).getD 1 0)) := k.cm 1 (by omega)
  rw [tab_get _ 1 (by omega)] at cm
  have hb := beg_all L hok 16
  have hal : Aside0 (aloneL L = (decide (beg L 16 = 0) || (decide (beg L 16 = 1) && decide (Huf.c0 L 1 = 1)))) := ⟨rfl⟩
  clear k r0 r1 r2 hS
  have hb2 : ((beg L 16 : Nat) : Int) ≤ 1000000 := by omega
  clear hb
  generalize beg L 16 = T at *
  generalize Huf.c0 L 1 = q at *
  go_enter Try.func32, Try.ntmps32
  by_cases e0 : T = 0
  · subst e0
    go_wp2_with fail
    go_ret
    exact ⟨by rw [hal.out]; rfl, rfl⟩
  · have e0' : ¬ (T : Int) = 0 := by omega
    have e0'' : ((T : Int) == 0) = false := by simpa using e0'
    by_cases e1 : T = 1
    · subst e1
      go_wp2_with fail
      go_ret
      refine ⟨?_, rfl⟩
      rw [hal.out]
      by_cases e2 : q = 1
      · subst e2; rfl
      · have : ((q : Int) == 1) = false := by simp; omega
        simp [this, e2]
    · have e1' : ((T : Int) == 1) = false := by simp; omega
      go_wp2_with fail
      go_ret
      exact ⟨by rw [hal.out]; simp [e0, e1], rfl⟩
end Go.Proofs.Ytlgpmpnobcdogaa.My

/- The walk of huff.New. -/
namespace Go.Proofs.Ytlgpmpnobcdogaa.My
open Go.RowKit Go.Proofs.Ytlgpmpnobcdogaa.Huf Go.Proofs.YtlgpmpnobcdogaaW.PrintWords Go.Proofs.YtlgpmpnobcdogaaW.PrintLast Go.Proofs.YtlgpmpnobcdogaaW.PrintMore
set_option linter.unusedVariables false
set_option linter.unusedSimpArgs false

theorem alloc_size (w : World) (o : Obj) : (w.alloc o).heap.size = w.heap.size + 1 := Array.size_push _
theorem upto_one (h : Nat → Nat) (h0 : h 0 = 0) : upto h 1 = tab fun _ => 0 := tab_eq fun k hk => by
  split
  · have : k = 0 := by omega
    subst this; rw [h0]; rfl
  · rfl
theorem cod_new (w : World) (v : Value) (L : List Int) (cs : Array Value) (e : cs = (codCells v (tab fun _ => 0) (tab fun _ => 0) (tab fun _ => 0) (.slice none 0 0) (.slice none 0 0)).toArray) :
    Cod (w.alloc (.cells cs 64)) w.heap.size v (upto (fst L) 1) (tab fun _ => 0) (upto (beg L) 1) (.slice none 0 0) (.slice none 0 0) := by
  rw [upto_one _ rfl, upto_one _ rfl]
  refine ⟨?_, tab_len _, tab_len _, tab_len _⟩
  subst e
  exact alloc_self _ _
set_option maxHeartbeats 2000000 in
set_option maxRecDepth 100000 in
theorem new_calls (w : World) (A : Option Addr) (n c : Nat) (L : List Int) (lone : Bool) (hL : (Kd.int .i64).C w A n L) (hn : n ≤ 1000000) (hl : L.length = n) (hcap : A = none → n = 0 ∧ c = 0) :
    Calls Try.prog 8 #[.slice A n c, .bool lone] w fun e w' => ∃ v, e = .returned (.tuple #[v, errV (newR L lone)]) ∧ Below w.heap.size w w' ∧ (newR L lone ≠ none → v = .pointer none) ∧
      (newR L lone = none → ∃ g, v = .pointer (some ⟨g, 0, none⟩) ∧ CodeAt w' w.heap.size w'.heap.size g L) := by
  have HC := Aside0.mk (cloneI_calls A n c L w hL (by omega) hl hcap)
  have h3 : (n : Int) ≤ 1000000 := by omega
  have HLn := Aside0.mk hl
  clear hL hcap hl hn
  go_enter Try.func8, Try.ntmps8
  go_wp2_with fail
  refine (HC.out).mono ?_
  rintro e w1 ⟨v', rfl, hown, hb1⟩
  have hlt := own_lt hown
  have hge := own_base hown
  obtain ⟨A', c', rfl, _, hC'⟩ := own_slice' hown
  have hR : RB w1 w.heap.size w1.heap.size A' L.length L := ⟨hC', fun ad e => by subst e; exact ⟨hge ad.block rfl, hlt ad.block rfl⟩⟩
  have HR := Aside0.mk hR
  have HB1 := Aside0.mk hb1
  clear hown hlt hge hC' hR hb1
  by_cases h320 : (320 : Int) < (n : Int)
  · have hnew : Aside0 (newR L lone = some 3) := ⟨by unfold newR; rw [if_pos (by have := HLn.out; omega)]⟩
    go_wp2_with fail
    go_ret2
    refine ⟨_, by rw [hnew.out]; rfl, below_alloc HB1.out _, fun _ => rfl, fun h => ?_⟩
    rw [hnew.out] at h; cases h
  · go_wp2_with fail
    refine (count_calls _ w1.heap.size A' L.length c' L (upto (fst L) 1) (upto (beg L) 1) (.slice none 0 0) (.slice none 0 0) (cod_new w1 _ L _ rfl) (HR.out.grown (grown_below (below_alloc (Below.refl _ _) _) none) (fun r e => by cases e)).c (fun ad e => by have := HR.out.b ad e; omega) (by have := HLn.out; omega)).mono ?_
    rintro e w3 ⟨rfl, hg3, hk3⟩
    have HB3 := Aside0.mk (below_grown (below_alloc HB1.out _) hg3 (by have := HB1.out.size; rw [alloc_size]; omega) HB1.out.size)
    have HR3 := Aside0.mk ((HR.out.grown (grown_below (below_alloc (Below.refl _ _) _) none) (fun r e => by cases e)).grown hg3 (fun r e => by cases e; right; exact Nat.le_refl _))
    have hsz : w1.heap.size < w3.heap.size := by have := hg3.size; rw [alloc_size] at this; omega
    have HSZ := Aside0.mk hsz
    have HK3 := Aside0.mk hk3
    clear hg3 hk3 hsz
    have HGE := Aside0.mk HB1.out.size
    generalize hG : w1.heap.size = g at *
    clear hG HB1
    by_cases hok : okL L = true
    · rw [hok]
      have HK4 := Aside0.mk (HK3.out hok)
      have hnb : numR L < 9223372036854775807 := by unfold numR; split <;> omega
      have hnb2 : -9223372036854775807 < numR L := by
        unfold numR
        split
        · omega
        · next hov =>
          have h1 := fst_le L 15 (fun j h1 h2 => over_all L 15 1 (by simpa using hov) j h1 (by omega))
          have h2 := cn_le L 15
          have h3 := HLn.out
          omega
      go_wp2_with fail
      refine (number_calls w3 g _ L _ _ HK4.out (by have := HLn.out; omega)).mono ?_
      rintro e w4 ⟨rfl, hg4, hk4⟩
      have HB4 := Aside0.mk (below_grown HB3.out hg4 HB3.out.size HGE.out)
      have HR4 := Aside0.mk (HR3.out.grown hg4 (fun r e => by cases e; right; exact Nat.le_refl _))
      have HSZ4 := Aside0.mk (Nat.lt_of_lt_of_le HSZ.out hg4.size)
      have HK5 := Aside0.mk hk4
      have hr : Aside0 (numR L = if anyOver L 15 1 then -1 else 32768 - ((fst L 15 + cn L 15 : Nat) : Int)) := ⟨rfl⟩
      clear hg4 hk4
      by_cases hneg : numR L < 0
      · have hnew : Aside0 (newR L lone = some 14) := ⟨by unfold newR; rw [if_neg (by have := HLn.out; omega), if_neg (by rw [hok]; decide), if_pos hneg]⟩
        generalize numR L = q at *
        go_wp2_with fail
        go_ret2
        refine ⟨_, by rw [hnew.out]; rfl, HB4.out, fun _ => rfl, fun h => ?_⟩
        rw [hnew.out] at h; cases h
      · have hov : Aside0 (anyOver L 15 1 = false) := ⟨by
          have h1 := hr.out
          cases h2 : anyOver L 15 1
          · rfl
          · rw [h2] at h1; simp at h1; omega⟩
        have HK6 := Aside0.mk (HK5.out hov.out)
        have hnew : Aside0 (newR L lone = if 0 < numR L ∧ ¬ (lone = true ∧ aloneL L = true) then some 2 else none) := ⟨by unfold newR; rw [if_neg (by have := HLn.out; omega), if_neg (by rw [hok]; decide), if_neg hneg]⟩
        generalize numR L = q at *
        go_wp2_with fail
        refine (sort_calls w4 g A' L.length c' L _ _ HK6.out HR4.out.c (fun ad e => by have := HR4.out.b ad e; omega) (by have := HLn.out; omega) hok hov.out).mono ?_
        rintro e w5 ⟨rfl, hg5, b1, b2, S, hb1, hb2, hb12, hk5, hr1, hS, hr2⟩
        have hb5 := below_grown HB4.out hg5 HB4.out.size HGE.out
        have hr5 := (HR4.out.grown hg5 (fun r e => by cases e; right; exact Nat.le_refl _))
        have hle : (beg L 16) ≤ 1000000 := by have := beg_all L hok 16; have := HLn.out; omega
        have hll : L.length ≤ 1000000 := by have := HLn.out; omega
        have hsz4 := HSZ4.out
        have hsz4b := HB4.out.size
        have hge := HGE.out
        have hca : CodeAt w5 w.heap.size w5.heap.size g L := ⟨A', _, _, c', _, _, S, hk5, hr5.mono (Nat.le_refl _) (by have := hg5.size; omega),
          ⟨by have := hr1.reads (by rw [hS.1]; omega); rw [hS.1] at this; exact this, fun ad e => by cases e; exact ⟨by show _ ≤ b1; omega, hr1.lt⟩⟩,
          ⟨by have := hr2.reads (by rw [nmL_len]; omega); rw [nmL_len] at this; exact this, fun ad e => by cases e; exact ⟨by show _ ≤ b2; omega, hr2.lt⟩⟩, hS, hge, by have := hg5.size; omega⟩
        have HCA := Aside0.mk hca
        have HB5 := Aside0.mk hb5
        clear hg5 hk5 hr1 hS hr2 hb5 hr5 hle hll hsz4 hsz4b hge hca hb1 hb2 hb12
        by_cases hpos : 0 < q
        · cases lone with
          | false =>
            have hn2 : Aside0 (newR L false = some 2) := ⟨by rw [hnew.out, if_pos ⟨hpos, by simp⟩]⟩
            go_wp2_with fail
            go_ret2
            refine ⟨_, by rw [hn2.out]; rfl, HB5.out, fun _ => rfl, fun h => ?_⟩
            rw [hn2.out] at h; cases h
          | true =>
            go_wp2_with fail
            refine (alone_calls w5 _ _ g L HCA.out (by have := HLn.out; omega) hok).mono ?_
            rintro e w6 ⟨rfl, rfl⟩
            cases hal : aloneL L with
            | true =>
              have hn2 : Aside0 (newR L true = none) := ⟨by rw [hnew.out, if_neg (by rw [hal]; simp)]⟩
              go_wp2_with fail
              go_ret2
              exact ⟨_, by rw [hn2.out]; rfl, HB5.out, fun h => absurd hn2.out h, fun _ => ⟨g, rfl, HCA.out⟩⟩
            | false =>
              have hn2 : Aside0 (newR L true = some 2) := ⟨by rw [hnew.out, if_pos ⟨hpos, by rw [hal]; simp⟩]⟩
              go_wp2_with fail
              go_ret2
              refine ⟨_, by rw [hn2.out]; rfl, HB5.out, fun _ => rfl, fun h => ?_⟩
              rw [hn2.out] at h; cases h
        · have hn2 : Aside0 (newR L lone = none) := ⟨by rw [hnew.out, if_neg (by omega)]⟩
          go_wp2_with fail
          go_ret2
          exact ⟨_, by rw [hn2.out]; rfl, HB5.out, fun h => absurd hn2.out h, fun _ => ⟨g, rfl, HCA.out⟩⟩
    · have hok' : okL L = false := by simpa using hok
      rw [hok']
      have hnew : Aside0 (newR L lone = some 1) := ⟨by unfold newR; rw [if_neg (by have := HLn.out; omega), if_pos hok']⟩
      go_wp2_with fail
      go_ret2
      refine ⟨_, by rw [hnew.out]; rfl, HB3.out, fun _ => rfl, fun h => ?_⟩
      rw [hnew.out] at h; cases h
end Go.Proofs.Ytlgpmpnobcdogaa.My

/- The walks of huff.Code's Of and Len. -/
namespace Go.Proofs.Ytlgpmpnobcdogaa.My
open Go.RowKit Go.Proofs.Ytlgpmpnobcdogaa.Huf Go.Proofs.YtlgpmpnobcdogaaW.PrintWords Go.Proofs.YtlgpmpnobcdogaaW.PrintLast Go.Proofs.YtlgpmpnobcdogaaW.PrintMore
set_option linter.unusedVariables false
set_option linter.unusedSimpArgs false

theorem nmL_get (L : List Int) (s : Nat) (h : s < L.length) : (nmL L L.length).getD s 0 = (code L s : Int) := by
  simp [nmL, List.getD_eq_getElem?_getD, h]
theorem rb_at {w : World} {lo hi : Nat} {A : Option Addr} {n : Nat} {xs : List Int} (h : RB w lo hi A n xs) (i : Nat) (hi : i < n) : ∃ ad, A = some ad ∧ w.cell? (ad.add i) = some (.int .i64 (xs.getD i 0)) := num_at h.c i hi
set_option maxHeartbeats 1000000 in
theorem of_calls (w : World) (lo hi g : Nat) (L : List Int) (k : CodeAt w lo hi g L) (hl : L.length ≤ 1000000) (s : Nat) (hs : s < L.length) :
    Calls Try.prog 12 #[.pointer (some ⟨g, 0, none⟩), .int .i64 s] w fun e w' => e = .returned (.tuple #[.int .i64 (code L s : Nat), .int .i64 (L.getD s 0)]) ∧ Below w.heap.size w w' := by
  obtain ⟨A, A1, A2, c, c1, c2, S, k, r0, r1, r2, hS, h1, h2⟩ := k.out
  have d0 := k.c0
  have d5 := k.c5
  obtain ⟨a0, rfl, e0⟩ := rb_at r0 s hs
  obtain ⟨a2, rfl, e2⟩ := rb_at r2 s hs
  rw [nmL_get L s hs] at e2
  have h3 : (L.length : Int) ≤ 1000000 := by omega
  have h4 : (s : Int) < (L.length : Int) := by omega
  clear k r0 r1 r2 hS
  generalize L.length = n at *
  generalize code L s = x at *
  generalize L.getD s 0 = y at *
  go_enter Try.func12, Try.ntmps12
  go_wp2_with fail
  go_region
  go_wp2_with fail
  go_ret2
  exact ⟨rfl, below_drew (Below.refl _ _)⟩
set_option maxHeartbeats 1000000 in
theorem of_out_calls (w : World) (lo hi g : Nat) (L : List Int) (k : CodeAt w lo hi g L) (hl : L.length ≤ 1000000) (s : Int) (hs : s < 0 ∨ (L.length : Int) ≤ s) :
    Calls Try.prog 12 #[.pointer (some ⟨g, 0, none⟩), .int .i64 s] w fun e w' => e = .returned (.tuple #[.int .i64 0, .int .i64 0]) ∧ w' = w := by
  obtain ⟨A, A1, A2, c, c1, c2, S, k, r0, r1, r2, hS, h1, h2⟩ := k.out
  have d0 := k.c0
  have h3 : (L.length : Int) ≤ 1000000 := by omega
  clear k r0 r1 r2 hS
  generalize L.length = n at *
  go_enter Try.func12, Try.ntmps12
  by_cases h0 : s < 0
  · clear hs
    go_wp2_with fail
    go_ret2
    exact ⟨rfl, rfl⟩
  · have h4 : (n : Int) ≤ s := by omega
    have h5 : 0 ≤ s := by omega
    clear hs h0
    go_wp2_with fail
    go_ret2
    exact ⟨rfl, rfl⟩
set_option maxHeartbeats 1000000 in
theorem of_nil_calls (w : World) (s : Int) :
    Calls Try.prog 12 #[.pointer none, .int .i64 s] w fun e w' => e = .returned (.tuple #[.int .i64 0, .int .i64 0]) ∧ w' = w := by
  go_enter Try.func12, Try.ntmps12
  go_wp2_with fail
  go_ret2
  exact ⟨rfl, rfl⟩
theorem len_calls (w : World) (lo hi g : Nat) (L : List Int) (k : CodeAt w lo hi g L) (hl : L.length ≤ 1000000) :
    Calls Try.prog 14 #[.pointer (some ⟨g, 0, none⟩)] w fun e w' => e = .returned (.int .i64 (L.length : Nat)) ∧ w' = w := by
  obtain ⟨A, A1, A2, c, c1, c2, S, k, r0, r1, r2, hS, h1, h2⟩ := k.out
  have d0 := k.c0
  have h3 : (L.length : Int) ≤ 1000000 := by omega
  clear k r0 r1 r2 hS
  generalize L.length = n at *
  go_enter Try.func14, Try.ntmps14
  go_wp2_with fail
  go_ret
  exact ⟨rfl, rfl⟩
end Go.Proofs.Ytlgpmpnobcdogaa.My

/- How a law's arguments come in: a slice of numbers as the words of the print have it. No program in sight. -/
namespace Go.Proofs.Ytlgpmpnobcdogaa.My
open Go.RowKit Go.Proofs.YtlgpmpnobcdogaaW.PrintWords

def IsRow (k : IntKind) (w : World) (a : Option Addr) (len cap : Nat) (zs : List Int) : Prop :=
  (a = none ∧ len = 0 ∧ cap = 0 ∧ zs = []) ∨
  ∃ x, a = some x ∧ len ≤ cap ∧ cap ≤ maxLen ∧ zs.length = cap ∧ (∀ i, i < zs.length → w.cell? (x.add i) = some (.int k (zs.getD i 0))) ∧ ∀ n ∈ zs, (Lit.int k n).wf = true

theorem row_C {k : IntKind} {w : World} {a : Option Addr} {len cap : Nat} {zs : List Int} (h : IsRow k w a len cap zs) :
    ∃ l : List Int, l.length = len ∧ len ≤ cap ∧ (Kd.int k).C w a l.length l ∧ ∀ n ∈ l, (Lit.int k n).wf = true := by
  rcases h with ⟨rfl, rfl, rfl, rfl⟩ | ⟨x, rfl, h1, h2, h3, h4, h5⟩
  · exact ⟨[], rfl, Nat.le_refl _, Kd.C_nil _ _, fun n hn => by simp at hn⟩
  · have hl : (zs.take len).length = len := by rw [List.length_take]; omega
    refine ⟨zs.take len, hl, h1, Kd.C_of_reads (d := 0) ⟨rfl, by unfold maxLen at h2; omega, fun hn => ⟨x, rfl, fun j hj => ?_⟩⟩, fun n hn => h5 n (List.mem_of_mem_take hn)⟩
    have hj' : j < len := by omega
    rw [h4 j (by omega)]
    simp [List.getD_eq_getElem?_getD, hj']
theorem strs_C {w : World} {x : Addr} {len cap : Nat} {ss : List ByteArray} (hl : len ≤ cap) (hm : cap ≤ maxLen) (hz : ss.length = cap)
    (hc : ∀ i, i < ss.length → w.cell? (x.add i) = some (.string (ss.getD i ByteArray.empty))) : ∃ l : List ByteArray, l.length = len ∧ len ≤ cap ∧ Kd.string.C w (some x) l.length l := by
  have h : (ss.take len).length = len := by rw [List.length_take]; omega
  refine ⟨ss.take len, h, hl, Kd.C_of_reads (d := ByteArray.empty) ⟨rfl, by unfold maxLen at hm; omega, fun hn => ⟨x, rfl, fun j hj => ?_⟩⟩⟩
  have hj' : j < len := by omega
  rw [hc j (by omega)]
  simp [List.getD_eq_getElem?_getD, hj']
end Go.Proofs.Ytlgpmpnobcdogaa.My
