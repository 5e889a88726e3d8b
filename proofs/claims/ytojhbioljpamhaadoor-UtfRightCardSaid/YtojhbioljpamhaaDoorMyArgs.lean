/- How a law's arguments come in: a slice of numbers as the words of the print have it. No program in sight. -/
import Derived.Test.YtojhbioljpamhaaDoorMyBase
import Derived.Test.YtojhbioljpamhaaDoorWSized
namespace Go.Proofs.YtojhbioljpamhaaDoor.My
open Go.RowKit Go.Proofs.YtojhbioljpamhaaDoorW.PrintWords

def IsRow (k : IntKind) (w : World) (a : Option Addr) (len cap : Nat) (zs : List Int) : Prop :=
  (a = none ∧ len = 0 ∧ cap = 0 ∧ zs = []) ∨
  ∃ x, a = some x ∧ len ≤ cap ∧ cap ≤ maxLen ∧ zs.length = cap ∧ (∀ i, i < zs.length → w.cell? (x.add i) = some (.int k (zs.getD i 0))) ∧ ∀ n ∈ zs, (Lit.int k n).wf = true

theorem row_C {k : IntKind} {w : World} {a : Option Addr} {len cap : Nat} {zs : List Int} (h : IsRow k w a len cap zs) :
    ∃ l : List Int, l.length = len ∧ len ≤ cap ∧ (Kd.int k).C w a l.length l ∧ ∀ n ∈ l, (Lit.int k n).wf = true := by
  rcases h with ⟨rfl, rfl, rfl, rfl⟩ | ⟨x, rfl, h1, h2, h3, h4, h5⟩
  · exact ⟨[], rfl, Nat.le_refl _, Kd.C_nil _ _, fun n hn => by simp at hn⟩
  · have hl : (zs.take len).length = len := by rw [List.length_take]; omega
    refine ⟨zs.take len, hl, h1, Kd.C_of_reads (d := 0) ⟨rfl, by unfold maxLen at h2; omega, fun hn => ⟨x, rfl, fun j hj => ?_⟩⟩, fun n hn => h5 n (List.mem_of_mem_take hn)⟩
    have hj' : j < len := by omega
    rw [h4 j (by omega)]
    simp [List.getD_eq_getElem?_getD, hj']
theorem strs_C {w : World} {x : Addr} {len cap : Nat} {ss : List ByteArray} (hl : len ≤ cap) (hm : cap ≤ maxLen) (hz : ss.length = cap)
    (hc : ∀ i, i < ss.length → w.cell? (x.add i) = some (.string (ss.getD i ByteArray.empty))) : ∃ l : List ByteArray, l.length = len ∧ len ≤ cap ∧ Kd.string.C w (some x) l.length l := by
  have h : (ss.take len).length = len := by rw [List.length_take]; omega
  refine ⟨ss.take len, h, hl, Kd.C_of_reads (d := ByteArray.empty) ⟨rfl, by unfold maxLen at hm; omega, fun hn => ⟨x, rfl, fun j hj => ?_⟩⟩⟩
  have hj' : j < len := by omega
  rw [hc j (by omega)]
  simp [List.getD_eq_getElem?_getD, hj']
end Go.Proofs.YtojhbioljpamhaaDoor.My
