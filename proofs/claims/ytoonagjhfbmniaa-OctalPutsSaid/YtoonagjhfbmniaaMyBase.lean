/- Small words for walks: blocks of bytes known whole, slices of the call's own. No program in sight but for its byte type's row. -/
import Derived.Test.YtoonagjhfbmniaaProg
import Derived.Test.YtoonagjhfbmniaaWWords
import Derived.Test.YtoonagjhfbmniaaWMore
import Derived.Laws.Rows
import Derived.Lib.SlBytesConst
import Derived.WalkKit
import Derived.KernelRfl
import Derived.Deep.LoopGhost
import Derived.Deep.QuietTactic
import Derived.BigQuiet
import Derived.Deep.DeepCutAuto
import Derived.Deep.CutBlock
import Derived.WalkSpells
import Derived.WalkLawsBesides
import Derived.Outline
namespace Go.Proofs.Ytoonagjhfbmniaa.My
open Go.RowKit Go.Proofs.YtoonagjhfbmniaaW.PrintWords Go.Proofs.YtoonagjhfbmniaaW.PrintLast Go.Proofs.YtoonagjhfbmniaaW.PrintMore

theorem alloc_self (w : World) (o : Obj) : (w.alloc o).heap[w.heap.size]? = some o := by
  show (w.heap.push o)[w.heap.size]? = _
  simp
theorem C_block (w : World) (g : Nat) (k : IntKind) (xs : List Int) (e : TypeId) (fr : Nat × Nat) (h : w.heap[g]? = some (.cells (nums k xs).toArray e fr)) (hm : xs.length ≤ 9223372036854775807) :
    Kd.C (Kd.int k) w (some ⟨g, 0, none⟩) xs.length xs := by
  refine Kd.C_of_reads (d := 0) ⟨rfl, hm, fun _ => ⟨_, rfl, fun j hj => ?_⟩⟩
  rw [add_plain, World.cell?]
  simp [h, nums, hj]
theorem reads_of_C {k : IntKind} {w : World} {A : Option Addr} {n : Nat} {xs : List Int} (h : (Kd.int k).C w A n xs) : ReadsInt w k A n xs := by
  refine ⟨h.1, h.2.1, fun hn => ?_⟩
  obtain ⟨ad, rfl, hc⟩ := Kd.at_int h 0 (by omega) (by omega)
  refine ⟨ad, rfl, fun j hj => ?_⟩
  obtain ⟨ad', e, hc'⟩ := Kd.at_int h j (by omega) (by omega)
  cases e
  simpa [rd] using hc'
theorem C_of_readsInt {k : IntKind} {w : World} {A : Option Addr} {n : Nat} {xs : List Int} (h : ReadsInt w k A n xs) : (Kd.int k).C w A n xs := Kd.C_of_reads (d := 0) h
theorem own_slice' {w : World} {base n : Nat} {e : TypeId} {k : IntKind} {v : Value} {xs : List Int} (h : w.ownsRow base e 1 v n (nums k xs)) : ∃ A c, v = .slice A n c ∧ n ≤ c ∧ (Kd.int k).C w A n xs := by
  obtain ⟨A, c, rfl, hr⟩ := own_reads h
  refine ⟨A, c, rfl, ?_, C_of_readsInt hr⟩
  rcases h.2 with ⟨h1, h2⟩ | ⟨g, cap, cur, h1, _, _, h3, _⟩
  · omega
  · cases h1; exact h3

/-- A block of bytes, known whole: none of its places is frozen. -/
structure Row (w : World) (g : Nat) (l : List Int) : Prop where mk :: (out : ∃ fr : Nat × Nat, w.heap[g]? = some (.cells (nums .u8 l).toArray 5 fr) ∧ (fr = (0, 0) ∨ l.length ≤ fr.1))
theorem Row.of {w : World} {g : Nat} {l : List Int} (h : w.heap[g]? = some (.cells (nums .u8 l).toArray 5 (0, 0))) : Row w g l := ⟨_, h, .inl rfl⟩
theorem Row.drewN {w : World} {g : Nat} {l : List Int} (h : Row w g l) (n : Nat) : Row (w.drewN n) g l := ⟨h.out⟩
theorem Row.drew {w : World} {g : Nat} {l : List Int} (h : Row w g l) : Row w.drew g l := ⟨h.out⟩
theorem Row.lt {w : World} {g : Nat} {l : List Int} (h : Row w g l) : g < w.heap.size := by obtain ⟨fr, h, _⟩ := h.out; exact blk_lt h
theorem Row.cell {w : World} {g : Nat} {l : List Int} (h : Row w g l) (i : Nat) (hi : i < l.length) : w.cell? ⟨g, i, none⟩ = some (.int .u8 (l.getD i 0)) := by
  obtain ⟨fr, h, _⟩ := h.out
  rw [World.cell?]
  simp [h, nums, hi]
theorem Row.frozen {w : World} {g : Nat} {l : List Int} (h : Row w g l) (i : Nat) (hi : i < l.length) : w.frozen? ⟨g, i, none⟩ = false := by
  obtain ⟨fr, h, hf⟩ := h.out
  rcases hf with rfl | hf
  · simp [World.frozen?, h]
  · simp [World.frozen?, h]; omega
theorem Row.set {w : World} {g : Nat} {l : List Int} (h : Row w g l) (i : Nat) (x : Int) : Row (w.setCell ⟨g, i, none⟩ (.int .u8 x)) g (l.set i x) := by
  obtain ⟨fr, h, hf⟩ := h.out
  refine ⟨fr, ?_, by simpa using hf⟩
  rw [setCell_eq_setRow w g i _ _ fr _ h, setRow_heap w g _ _ _ fr h]
  simp [nums, List.map_set]
theorem Row.grown {w w1 : World} {g : Nat} {l : List Int} {row : Option Nat} (h : Row w g l) (hg : w.grownBy w1 row) (hne : some g ≠ row) : Row w1 g l := by
  obtain ⟨fr, h, hf⟩ := h.out
  exact ⟨fr, blk_grown h hg hne, hf⟩
theorem Row.below {w w1 : World} {g : Nat} {l : List Int} (h : Row w g l) (hb : Below w.heap.size w w1) : Row w1 g l := h.grown (row := none) ⟨hb.os, hb.tape, hb.output, hb.size, fun k hk _ => hb.block k hk⟩ (by simp)
theorem Row.alloc {w : World} {g : Nat} {l : List Int} (h : Row w g l) (o : Obj) : Row (w.alloc o) g l := h.below (below_alloc (Below.refl _ _) o)
theorem Row.C {w : World} {g : Nat} {l : List Int} (h : Row w g l) (off n : Nat) (hn : off + n ≤ l.length) (hm : n ≤ 9223372036854775807) : (Kd.int .u8).C w (some ⟨g, off, none⟩) n ((l.drop off).take n) := by
  refine Kd.C_of_reads (d := 0) ⟨by rw [List.length_take, List.length_drop]; omega, hm, fun _ => ⟨_, rfl, fun j hj => ?_⟩⟩
  rw [add_at, h.cell _ (by omega)]
  simp [List.getD_eq_getElem?_getD, hj]
theorem Row.whole {w : World} {g : Nat} {l : List Int} (h : Row w g l) (hm : l.length ≤ 9223372036854775807) : (Kd.int .u8).C w (some ⟨g, 0, none⟩) l.length l := by
  have := h.C 0 l.length (by omega) hm
  simpa using this
/-- A block that the call has just made: a literal's, and one that 'make' made. -/
theorem Row.lit (w : World) (l : List Int) : Row (w.alloc (.cells (nums .u8 l).toArray 5)) w.heap.size l := Row.of (alloc_self _ _)
theorem Row.str (w : World) (l : List Int) : Row (w.alloc (.cells (nums .u8 l).toArray 5 (l.length, l.length + 1))) w.heap.size l := ⟨_, alloc_self _ _, .inr (Nat.le_refl _)⟩
theorem made_nums (k : IntKind) (m : Nat) : madeCells #[.int k 0] m = (nums k (List.replicate m 0)).toArray := by
  apply Array.ext'
  apply List.ext_getElem
  · simp [nums, madeCells]
  · intro i h1 h2
    simp [nums, madeCells, Nat.mod_one]
theorem Row.made (w : World) (m : Nat) : Row (w.alloc (.cells (madeCells #[.int .u8 0] m) 5)) w.heap.size (List.replicate m 0) := by
  rw [made_nums]
  exact Row.lit w _
theorem grown_set (w : World) (g i : Nat) (v : Value) : w.grownBy (w.setCell ⟨g, i, none⟩ v) (some g) :=
  ⟨rfl, rfl, rfl, by simp [World.setCell], fun k _ hk => Below.heap_setCell _ _ _ _ (fun e => hk (by rw [e]))⟩
theorem grown_trans {w w1 w2 : World} {row : Option Nat} (h : w.grownBy w1 row) (k : w1.grownBy w2 row) : w.grownBy w2 row :=
  ⟨k.os.trans h.os, k.tape.trans h.tape, k.output.trans h.output, Nat.le_trans h.size k.size, fun i hi hr => (k.block i (Nat.lt_of_lt_of_le hi h.size) hr).trans (h.block i hi hr)⟩
theorem grown_refl (w : World) (row : Option Nat) : w.grownBy w row := World.grownBy.refl w row
theorem grown_drewN {w w1 : World} {row : Option Nat} (h : w.grownBy w1 row) (n : Nat) : w.grownBy (w1.drewN n) row := ⟨h.os, h.tape, h.output, h.size, h.block⟩
theorem grown_drew {w w1 : World} {row : Option Nat} (h : w.grownBy w1 row) : w.grownBy w1.drew row := ⟨h.os, h.tape, h.output, h.size, h.block⟩
theorem grown_below {w w1 : World} (h : Below w.heap.size w w1) (row : Option Nat) : w.grownBy w1 row := ⟨h.os, h.tape, h.output, h.size, fun k hk _ => h.block k hk⟩
theorem below_grown {B : Nat} {w w1 w2 : World} {g : Nat} (h : Below B w w1) (k : w1.grownBy w2 (some g)) (hB : B ≤ w1.heap.size) (hg : B ≤ g) : Below B w w2 :=
  h.grown k hB (fun i hi => by cases hi; exact hg)
theorem info_u8 : (Try.prog.info? 5).map (fun i => (i.zero, i.size, i.bytes)) = some (some (.int .u8 0), 1, 1) := by kernel_rfl
theorem make_bytes (n : Nat) (hn : n ≤ 16777216) (W : World) : (Instr.makeSlice 23 (.int .i64 n) (.int .i64 n)).run Try.prog W = .ok (.slice (some ⟨W.heap.size, 0, none⟩) n n) (W.alloc (.cells (madeCells #[.int .u8 0] n) 5)) := by
  obtain ⟨i0, hi, hz⟩ := Option.map_eq_some_iff.1 info_u8
  simp only [Prod.mk.injEq] at hz
  have h := run_makeSlice W (P := Try.prog) 23 5 i0 (.int .u8 0) Try.underlying23 hi hz.1 .i64 .i64 n n (by omega) (by omega) (by rw [hz.2.1]; omega) (by rw [hz.2.2]; omega) (by omega)
  rw [hz.2.1] at h
  simpa [Value.cells] using h
/-- An error of the program's own numbers, or none. -/
def errV : Option Int → Value
  | none => .nilIface
  | some c => .iface 38 (.int .i64 c)
theorem wf_u8 {n : Int} (h : (Lit.int .u8 n).wf = true) : 0 ≤ n ∧ n < 256 := by
  simp [Lit.wf, IntKind.min, IntKind.max, IntKind.bits, IntKind.signed] at h
  omega
theorem wf_u32 {n : Int} (h : (Lit.int .u32 n).wf = true) : 0 ≤ n ∧ n < 4294967296 := by
  simp [Lit.wf, IntKind.min, IntKind.max, IntKind.bits, IntKind.signed] at h
  omega
theorem wf_i64 {n : Int} (h : (Lit.int .i64 n).wf = true) : -9223372036854775808 ≤ n ∧ n ≤ 9223372036854775807 := by
  simp [Lit.wf, IntKind.min, IntKind.max, IntKind.bits, IntKind.signed] at h
  omega
end Go.Proofs.Ytoonagjhfbmniaa.My
