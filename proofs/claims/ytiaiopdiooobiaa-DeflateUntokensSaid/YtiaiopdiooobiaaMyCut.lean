/- Slices of slices of numbers: the run of 'xs[a:b]', what it reads as, and that it is nil only where it is empty. -/
import Derived.Test.YtiaiopdiooobiaaMyBytes
namespace Go.Proofs.Ytiaiopdiooobiaa.My
open Go.RowKit Go.Proofs.YtiaiopdiooobiaaW.PrintWords Go.Proofs.YtiaiopdiooobiaaW.PrintLast Go.Proofs.YtiaiopdiooobiaaW.PrintMore

theorem cut_mid {P : Program} {k : IntKind} (t e : TypeId) {i : TypeInfo} (ht : P.underlying t = some (.slice e)) (hi : P.info? e = some i) (hsz : i.size = 1) (A : Option Addr) (n c : Nat) (xs : List Int) (a b : Nat) (h1 : a ≤ b) (hm : b ≤ n) (hl : xs.length = n) (hc : n ≤ c) (hcap : A = none → n = 0 ∧ c = 0) :
    ∃ A' : Option Addr, (∀ (kl kh : IntKind) (W : World), (Instr.slice t (.slice A n c) (some (.int kl a)) (some (.int kh b)) none).run P W = .ok (.slice A' (b - a) (c - a)) W) ∧
      (∀ w : World, (Kd.int k).C w A n xs → (Kd.int k).C w A' (b - a) ((xs.take b).drop a)) ∧ (A' = none → b - a = 0 ∧ c - a = 0) := by
  subst hl
  have hlt : (xs.take b).length = b := by rw [List.length_take]; omega
  have hll : ((xs.take b).drop a).length = b - a := by rw [List.length_drop, hlt]
  refine ⟨if c = a then A else A.map (·.add a), fun kl kh W => ?_, fun w h => ?_, fun h => ?_⟩
  · have hel : P.elem t = e := by simp [Program.elem, ht]
    have hu : P.underlying t = some (.slice (P.elem t)) := by rw [hel]; exact ht
    rw [run_slice_lh W t A xs.length c hu kl kh a b (by omega) (by omega) (by omega), hel]
    simp [sizeOf, typeInfo, hi, hsz, sliced, Result.andThen]
  · have h2 := (ReadsOf.take_ (d := (0 : Int)) (reads_of_C h) b (by omega)).drop_ (c := c) a (by omega) (by omega)
    rw [← hll]
    refine Kd.C_of_reads (d := 0) ?_
    rw [hll]
    exact h2
  · by_cases e : c = a
    · rw [if_pos e] at h
      have := hcap h
      omega
    · rw [if_neg e] at h
      have hA : A = none := by cases A with
        | none => rfl
        | some x => simp at h
      have := hcap hA
      omega
end Go.Proofs.Ytiaiopdiooobiaa.My
