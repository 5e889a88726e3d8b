/- The walks of huff.Code's Of and Len. -/
import Derived.Test.YtlgpmpnobcdogaaMyNew
namespace Go.Proofs.Ytlgpmpnobcdogaa.My
open Go.RowKit Go.Proofs.Ytlgpmpnobcdogaa.Huf Go.Proofs.YtlgpmpnobcdogaaW.PrintWords Go.Proofs.YtlgpmpnobcdogaaW.PrintLast Go.Proofs.YtlgpmpnobcdogaaW.PrintMore
set_option linter.unusedVariables false
set_option linter.unusedSimpArgs false

theorem nmL_get (L : List Int) (s : Nat) (h : s < L.length) : (nmL L L.length).getD s 0 = (code L s : Int) := by
  simp [nmL, List.getD_eq_getElem?_getD, h]
theorem rb_at {w : World} {lo hi : Nat} {A : Option Addr} {n : Nat} {xs : List Int} (h : RB w lo hi A n xs) (i : Nat) (hi : i < n) : ∃ ad, A = some ad ∧ w.cell? (ad.add i) = some (.int .i64 (xs.getD i 0)) := num_at h.c i hi
set_option maxHeartbeats 1000000 in
theorem of_calls (w : World) (lo hi g : Nat) (L : List Int) (k : CodeAt w lo hi g L) (hl : L.length ≤ 1000000) (s : Nat) (hs : s < L.length) :
    Calls Try.prog 12 #[.pointer (some ⟨g, 0, none⟩), .int .i64 s] w fun e w' => e = .returned (.tuple #[.int .i64 (code L s : Nat), .int .i64 (L.getD s 0)]) ∧ Below w.heap.size w w' := by
  obtain ⟨A, A1, A2, c, c1, c2, S, k, r0, r1, r2, hS, h1, h2⟩ := k.out
  have d0 := k.c0
  have d5 := k.c5
  obtain ⟨a0, rfl, e0⟩ := rb_at r0 s hs
  obtain ⟨a2, rfl, e2⟩ := rb_at r2 s hs
  rw [nmL_get L s hs] at e2
  have h3 : (L.length : Int) ≤ 1000000 := by omega
  have h4 : (s : Int) < (L.length : Int) := by omega
  clear k r0 r1 r2 hS
  generalize L.length = n at *
  generalize code L s = x at *
  generalize L.getD s 0 = y at *
  go_enter Try.func12, Try.ntmps12
  go_wp2_with fail
  go_region
  go_wp2_with fail
  go_ret2
  exact ⟨rfl, below_drew (Below.refl _ _)⟩
set_option maxHeartbeats 1000000 in
theorem of_out_calls (w : World) (lo hi g : Nat) (L : List Int) (k : CodeAt w lo hi g L) (hl : L.length ≤ 1000000) (s : Int) (hs : s < 0 ∨ (L.length : Int) ≤ s) :
    Calls Try.prog 12 #[.pointer (some ⟨g, 0, none⟩), .int .i64 s] w fun e w' => e = .returned (.tuple #[.int .i64 0, .int .i64 0]) ∧ w' = w := by
  obtain ⟨A, A1, A2, c, c1, c2, S, k, r0, r1, r2, hS, h1, h2⟩ := k.out
  have d0 := k.c0
  have h3 : (L.length : Int) ≤ 1000000 := by omega
  clear k r0 r1 r2 hS
  generalize L.length = n at *
  go_enter Try.func12, Try.ntmps12
  by_cases h0 : s < 0
  · clear hs
    go_wp2_with fail
    go_ret2
    exact ⟨rfl, rfl⟩
  · have h4 : (n : Int) ≤ s := by omega
    have h5 : 0 ≤ s := by omega
    clear hs h0
    go_wp2_with fail
    go_ret2
    exact ⟨rfl, rfl⟩
set_option maxHeartbeats 1000000 in
theorem of_nil_calls (w : World) (s : Int) :
    Calls Try.prog 12 #[.pointer none, .int .i64 s] w fun e w' => e = .returned (.tuple #[.int .i64 0, .int .i64 0]) ∧ w' = w := by
  go_enter Try.func12, Try.ntmps12
  go_wp2_with fail
  go_ret2
  exact ⟨rfl, rfl⟩
theorem len_calls (w : World) (lo hi g : Nat) (L : List Int) (k : CodeAt w lo hi g L) (hl : L.length ≤ 1000000) :
    Calls Try.prog 14 #[.pointer (some ⟨g, 0, none⟩)] w fun e w' => e = .returned (.int .i64 (L.length : Nat)) ∧ w' = w := by
  obtain ⟨A, A1, A2, c, c1, c2, S, k, r0, r1, r2, hS, h1, h2⟩ := k.out
  have d0 := k.c0
  have h3 : (L.length : Int) ≤ 1000000 := by omega
  clear k r0 r1 r2 hS
  generalize L.length = n at *
  go_enter Try.func14, Try.ntmps14
  go_wp2_with fail
  go_ret
  exact ⟨rfl, rfl⟩
end Go.Proofs.Ytlgpmpnobcdogaa.My
