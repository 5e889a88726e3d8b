/- A Code's block. -/
import Derived.Test.YtlgpmpnobcdogaaMyBytes
import Derived.RegionTactic
import Derived.Deep.RegionLaw
namespace Go.Proofs.Ytlgpmpnobcdogaa.My
open Go.RowKit Go.Proofs.YtlgpmpnobcdogaaW.PrintWords Go.Proofs.YtlgpmpnobcdogaaW.PrintLast Go.Proofs.YtlgpmpnobcdogaaW.PrintMore
set_option linter.unusedVariables false
set_option linter.unusedSimpArgs false

def codCells (v0 : Value) (f m b : List Int) (v4 v5 : Value) : List Value := v0 :: (nums .i64 f ++ (nums .i64 m ++ (nums .i64 b ++ [v4, v5])))
/-- A code at a block: its lengths, its three tables, its two rows. -/
structure Cod (w : World) (g : Nat) (v0 : Value) (f m b : List Int) (v4 v5 : Value) : Prop where
  blk : w.heap[g]? = some (.cells (codCells v0 f m b v4 v5).toArray 64 (0, 0))
  lf : f.length = 17
  lm : m.length = 17
  lb : b.length = 17
theorem app_at {α : Type} (a b : List α) (n i : Nat) (h : a.length = n) : (a ++ b)[n + i]? = b[i]? := by
  rw [List.getElem?_append_right (by omega), h]
  congr 1
  omega
theorem app_j {α : Type} (a b : List α) (n i j : Nat) (h : a.length = n) (hj : j = n + i) : (a ++ b)[j]? = b[i]? := by
  subst hj
  exact app_at a b n i h
theorem set_j {α : Type} (a b : List α) (n i j : Nat) (x : α) (h : a.length = n) (hj : j = n + i) : (a ++ b).set j x = a ++ b.set i x := by
  subst hj
  rw [List.set_append_right _ _ (by omega), h]
  congr 2
  omega
theorem nums_at (l : List Int) (i : Nat) (h : i < l.length) : (nums .i64 l)[i]? = some (.int .i64 (l.getD i 0)) := by
  simp [nums, List.getD_eq_getElem?_getD, List.getElem?_eq_getElem h]
section
variable {w w1 : World} {g : Nat} {v0 v4 v5 : Value} {f m b : List Int}
theorem Cod.at (k : Cod w g v0 f m b v4 v5) (i : Nat) : w.cell? ⟨g, i, none⟩ = (codCells v0 f m b v4 v5)[i]? := by
  rw [blk_cell k.blk]
  simp
theorem Cod.c0 (k : Cod w g v0 f m b v4 v5) : w.cell? ⟨g, 0, none⟩ = some v0 := by rw [k.at]; rfl
theorem Cod.cf (k : Cod w g v0 f m b v4 v5) (n : Nat) (h : n < 17) : w.cell? ⟨g, 1 + n, none⟩ = some (.int .i64 (f.getD n 0)) := by
  rw [k.at, codCells, Nat.add_comm, List.getElem?_cons_succ, List.getElem?_append_left (by rw [nums_length, k.lf]; exact h), nums_at f n (by rw [k.lf]; exact h)]
theorem Cod.cm (k : Cod w g v0 f m b v4 v5) (n : Nat) (h : n < 17) : w.cell? ⟨g, 18 + n, none⟩ = some (.int .i64 (m.getD n 0)) := by
  rw [k.at, codCells, show 18 + n = (17 + n) + 1 from by omega, List.getElem?_cons_succ, app_at _ _ 17 n (by rw [nums_length, k.lf]), List.getElem?_append_left (by rw [nums_length, k.lm]; exact h), nums_at m n (by rw [k.lm]; exact h)]
theorem Cod.cb (k : Cod w g v0 f m b v4 v5) (n : Nat) (h : n < 17) : w.cell? ⟨g, 35 + n, none⟩ = some (.int .i64 (b.getD n 0)) := by
  rw [k.at, codCells, show 35 + n = (17 + (17 + n)) + 1 from by omega, List.getElem?_cons_succ, app_at _ _ 17 _ (by rw [nums_length, k.lf]), app_at _ _ 17 _ (by rw [nums_length, k.lm]), List.getElem?_append_left (by rw [nums_length, k.lb]; exact h), nums_at b n (by rw [k.lb]; exact h)]
theorem Cod.c4 (k : Cod w g v0 f m b v4 v5) : w.cell? ⟨g, 52, none⟩ = some v4 := by
  rw [k.at, codCells, show 52 = 51 + 1 from rfl, List.getElem?_cons_succ, app_j _ _ 17 34 51 (by rw [nums_length, k.lf]) rfl, app_j _ _ 17 17 34 (by rw [nums_length, k.lm]) rfl, app_j _ _ 17 0 17 (by rw [nums_length, k.lb]) rfl]
  rfl
theorem Cod.c5 (k : Cod w g v0 f m b v4 v5) : w.cell? ⟨g, 53, none⟩ = some v5 := by
  rw [k.at, codCells, show 53 = 52 + 1 from rfl, List.getElem?_cons_succ, app_j _ _ 17 35 52 (by rw [nums_length, k.lf]) rfl, app_j _ _ 17 18 35 (by rw [nums_length, k.lm]) rfl, app_j _ _ 17 1 18 (by rw [nums_length, k.lb]) rfl]
  rfl
theorem Cod.fz (k : Cod w g v0 f m b v4 v5) (i : Nat) : w.frozen? ⟨g, i, none⟩ = false := blk_frozen k.blk i
theorem Cod.drewN (k : Cod w g v0 f m b v4 v5) (n : Nat) : Cod (w.drewN n) g v0 f m b v4 v5 := ⟨k.blk, k.lf, k.lm, k.lb⟩
theorem Cod.below (k : Cod w g v0 f m b v4 v5) (h : Below w.heap.size w w1) : Cod w1 g v0 f m b v4 v5 := ⟨blk_below k.blk h, k.lf, k.lm, k.lb⟩
theorem Cod.lt (k : Cod w g v0 f m b v4 v5) : g < w.heap.size := blk_lt k.blk
theorem set_app_left {α : Type} (a b : List α) (i : Nat) (x : α) (h : i < a.length) : (a ++ b).set i x = a.set i x ++ b := List.set_append_left i x h
theorem set_app_at {α : Type} (a b : List α) (n i : Nat) (x : α) (h : a.length = n) : (a ++ b).set (n + i) x = a ++ b.set i x := by
  rw [List.set_append_right _ _ (by omega), h]
  congr 2
  omega
theorem nums_set (l : List Int) (i : Nat) (x : Int) : (nums .i64 l).set i (.int .i64 x) = nums .i64 (l.set i x) := by simp [nums, List.map_set]
theorem Cod.put (k : Cod w g v0 f m b v4 v5) (i : Nat) (x : Value) : (w.setCell ⟨g, i, none⟩ x).heap[g]? = some (.cells ((codCells v0 f m b v4 v5).set i x).toArray 64 (0, 0)) := by
  rw [setCell_eq_setRow w g i _ _ (0, 0) _ k.blk, setRow_heap w g _ _ _ (0, 0) k.blk]
  simp
theorem Cod.sf (k : Cod w g v0 f m b v4 v5) (n : Nat) (h : n < 17) (x : Int) : Cod (w.setCell ⟨g, 1 + n, none⟩ (.int .i64 x)) g v0 (f.set n x) m b v4 v5 := by
  refine ⟨?_, by rw [List.length_set]; exact k.lf, k.lm, k.lb⟩
  rw [k.put, codCells, Nat.add_comm, List.set_cons_succ, set_app_left _ _ _ _ (by rw [nums_length, k.lf]; exact h), nums_set]
  rfl
theorem Cod.sm (k : Cod w g v0 f m b v4 v5) (n : Nat) (h : n < 17) (x : Int) : Cod (w.setCell ⟨g, 18 + n, none⟩ (.int .i64 x)) g v0 f (m.set n x) b v4 v5 := by
  refine ⟨?_, k.lf, by rw [List.length_set]; exact k.lm, k.lb⟩
  rw [k.put, codCells, show 18 + n = (17 + n) + 1 from by omega, List.set_cons_succ, set_app_at _ _ 17 _ _ (by rw [nums_length, k.lf]), set_app_left _ _ _ _ (by rw [nums_length, k.lm]; exact h), nums_set]
  rfl
theorem Cod.sb (k : Cod w g v0 f m b v4 v5) (n : Nat) (h : n < 17) (x : Int) : Cod (w.setCell ⟨g, 35 + n, none⟩ (.int .i64 x)) g v0 f m (b.set n x) v4 v5 := by
  refine ⟨?_, k.lf, k.lm, by rw [List.length_set]; exact k.lb⟩
  rw [k.put, codCells, show 35 + n = (17 + (17 + n)) + 1 from by omega, List.set_cons_succ, set_app_at _ _ 17 _ _ (by rw [nums_length, k.lf]), set_app_at _ _ 17 _ _ (by rw [nums_length, k.lm]), set_app_left _ _ _ _ (by rw [nums_length, k.lb]; exact h), nums_set]
  rfl
theorem Cod.s4 (k : Cod w g v0 f m b v4 v5) (x : Value) : Cod (w.setCell ⟨g, 52, none⟩ x) g v0 f m b x v5 := by
  refine ⟨?_, k.lf, k.lm, k.lb⟩
  rw [k.put, codCells, show 52 = 51 + 1 from rfl, List.set_cons_succ, set_j _ _ 17 34 51 _ (by rw [nums_length, k.lf]) rfl, set_j _ _ 17 17 34 _ (by rw [nums_length, k.lm]) rfl, set_j _ _ 17 0 17 _ (by rw [nums_length, k.lb]) rfl]
  rfl
theorem Cod.s5 (k : Cod w g v0 f m b v4 v5) (x : Value) : Cod (w.setCell ⟨g, 53, none⟩ x) g v0 f m b v4 x := by
  refine ⟨?_, k.lf, k.lm, k.lb⟩
  rw [k.put, codCells, show 53 = 52 + 1 from rfl, List.set_cons_succ, set_j _ _ 17 35 52 _ (by rw [nums_length, k.lf]) rfl, set_j _ _ 17 18 35 _ (by rw [nums_length, k.lm]) rfl, set_j _ _ 17 1 18 _ (by rw [nums_length, k.lb]) rfl]
  rfl
/-- A store elsewhere. -/
theorem Cod.far (k : Cod w g v0 f m b v4 v5) {row : Option Nat} (h : w.grownBy w1 row) (hne : some g ≠ row) : Cod w1 g v0 f m b v4 v5 := ⟨blk_grown k.blk h hne, k.lf, k.lm, k.lb⟩
end
end Go.Proofs.Ytlgpmpnobcdogaa.My
