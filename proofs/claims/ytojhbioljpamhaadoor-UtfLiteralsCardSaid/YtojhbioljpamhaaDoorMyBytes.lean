/- Blocks of bytes known whole, and slices of bytes that are made. -/
import Derived.Test.YtojhbioljpamhaaDoorMyBase
namespace Go.Proofs.YtojhbioljpamhaaDoor.My
open Go.RowKit Go.Proofs.YtojhbioljpamhaaDoorW.PrintWords Go.Proofs.YtojhbioljpamhaaDoorW.PrintLast Go.Proofs.YtojhbioljpamhaaDoorW.PrintMore

/-- A block of bytes, known whole: none of its places is frozen. -/
structure Row (w : World) (g : Nat) (l : List Int) : Prop where mk :: (out : ∃ fr : Nat × Nat, w.heap[g]? = some (.cells (nums .u8 l).toArray 5 fr) ∧ (fr = (0, 0) ∨ l.length ≤ fr.1))
theorem Row.of {w : World} {g : Nat} {l : List Int} (h : w.heap[g]? = some (.cells (nums .u8 l).toArray 5 (0, 0))) : Row w g l := ⟨_, h, .inl rfl⟩
theorem Row.drewN {w : World} {g : Nat} {l : List Int} (h : Row w g l) (n : Nat) : Row (w.drewN n) g l := ⟨h.out⟩
theorem Row.drew {w : World} {g : Nat} {l : List Int} (h : Row w g l) : Row w.drew g l := ⟨h.out⟩
theorem Row.lt {w : World} {g : Nat} {l : List Int} (h : Row w g l) : g < w.heap.size := by obtain ⟨fr, h, _⟩ := h.out; exact blk_lt h
theorem Row.cell {w : World} {g : Nat} {l : List Int} (h : Row w g l) (i : Nat) (hi : i < l.length) : w.cell? ⟨g, i, none⟩ = some (.int .u8 (l.getD i 0)) := by
  obtain ⟨fr, h, _⟩ := h.out
  rw [World.cell?]
  simp [h, nums, hi]
theorem Row.frozen {w : World} {g : Nat} {l : List Int} (h : Row w g l) (i : Nat) (hi : i < l.length) : w.frozen? ⟨g, i, none⟩ = false := by
  obtain ⟨fr, h, hf⟩ := h.out
  rcases hf with rfl | hf
  · simp [World.frozen?, h]
  · simp [World.frozen?, h]; omega
theorem Row.set {w : World} {g : Nat} {l : List Int} (h : Row w g l) (i : Nat) (x : Int) : Row (w.setCell ⟨g, i, none⟩ (.int .u8 x)) g (l.set i x) := by
  obtain ⟨fr, h, hf⟩ := h.out
  refine ⟨fr, ?_, by simpa using hf⟩
  rw [setCell_eq_setRow w g i _ _ fr _ h, setRow_heap w g _ _ _ fr h]
  simp [nums, List.map_set]
theorem Row.grown {w w1 : World} {g : Nat} {l : List Int} {row : Option Nat} (h : Row w g l) (hg : w.grownBy w1 row) (hne : some g ≠ row) : Row w1 g l := by
  obtain ⟨fr, h, hf⟩ := h.out
  exact ⟨fr, blk_grown h hg hne, hf⟩
theorem Row.below {w w1 : World} {g : Nat} {l : List Int} (h : Row w g l) (hb : Below w.heap.size w w1) : Row w1 g l := h.grown (row := none) ⟨hb.os, hb.tape, hb.output, hb.size, fun k hk _ => hb.block k hk⟩ (by simp)
theorem Row.alloc {w : World} {g : Nat} {l : List Int} (h : Row w g l) (o : Obj) : Row (w.alloc o) g l := h.below (below_alloc (Below.refl _ _) o)
theorem Row.C {w : World} {g : Nat} {l : List Int} (h : Row w g l) (off n : Nat) (hn : off + n ≤ l.length) (hm : n ≤ 9223372036854775807) : (Kd.int .u8).C w (some ⟨g, off, none⟩) n ((l.drop off).take n) := by
  refine Kd.C_of_reads (d := 0) ⟨by rw [List.length_take, List.length_drop]; omega, hm, fun _ => ⟨_, rfl, fun j hj => ?_⟩⟩
  rw [add_at, h.cell _ (by omega)]
  simp [List.getD_eq_getElem?_getD, hj]
theorem Row.whole {w : World} {g : Nat} {l : List Int} (h : Row w g l) (hm : l.length ≤ 9223372036854775807) : (Kd.int .u8).C w (some ⟨g, 0, none⟩) l.length l := by
  have := h.C 0 l.length (by omega) hm
  simpa using this
/-- A block that the call has just made: a literal's, and one that 'make' made. -/
theorem Row.lit (w : World) (l : List Int) : Row (w.alloc (.cells (nums .u8 l).toArray 5)) w.heap.size l := Row.of (alloc_self _ _)
theorem Row.str (w : World) (l : List Int) : Row (w.alloc (.cells (nums .u8 l).toArray 5 (l.length, l.length + 1))) w.heap.size l := ⟨_, alloc_self _ _, .inr (Nat.le_refl _)⟩
theorem made_nums (k : IntKind) (m : Nat) : madeCells #[.int k 0] m = (nums k (List.replicate m 0)).toArray := by
  apply Array.ext'
  apply List.ext_getElem
  · simp [nums, madeCells]
  · intro i h1 h2
    simp [nums, madeCells, Nat.mod_one]
theorem Row.made (w : World) (m : Nat) : Row (w.alloc (.cells (madeCells #[.int .u8 0] m) 5)) w.heap.size (List.replicate m 0) := by
  rw [made_nums]
  exact Row.lit w _
theorem info_u8 : (Tryd.prog.info? 5).map (fun i => (i.zero, i.size, i.bytes)) = some (some (.int .u8 0), 1, 1) := by kernel_rfl
theorem make_bytes (n : Nat) (hn : n ≤ 16777216) (W : World) : (Instr.makeSlice 44 (.int .i64 n) (.int .i64 n)).run Tryd.prog W = .ok (.slice (some ⟨W.heap.size, 0, none⟩) n n) (W.alloc (.cells (madeCells #[.int .u8 0] n) 5)) := by
  obtain ⟨i0, hi, hz⟩ := Option.map_eq_some_iff.1 info_u8
  simp only [Prod.mk.injEq] at hz
  have h := run_makeSlice W (P := Tryd.prog) 44 5 i0 (.int .u8 0) Tryd.underlying44 hi hz.1 .i64 .i64 n n (by omega) (by omega) (by rw [hz.2.1]; omega) (by rw [hz.2.2]; omega) (by omega)
  rw [hz.2.1] at h
  simpa [Value.cells] using h
end Go.Proofs.YtojhbioljpamhaaDoor.My
