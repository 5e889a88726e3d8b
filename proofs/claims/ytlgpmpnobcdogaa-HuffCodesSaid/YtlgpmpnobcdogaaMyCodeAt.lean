/- A huff.Code that is made: its blocks, and that they stay. -/
import Derived.Test.YtlgpmpnobcdogaaMyCloneI
namespace Go.Proofs.Ytlgpmpnobcdogaa.My
open Go.RowKit Go.Proofs.Ytlgpmpnobcdogaa.Huf Go.Proofs.YtlgpmpnobcdogaaW.PrintWords Go.Proofs.YtlgpmpnobcdogaaW.PrintLast Go.Proofs.YtlgpmpnobcdogaaW.PrintMore
set_option linter.unusedVariables false
set_option linter.unusedSimpArgs false

/-- Numbers that are read, in blocks from lo up to hi. -/
structure RB (w : World) (lo hi : Nat) (A : Option Addr) (n : Nat) (xs : List Int) : Prop where
  c : (Kd.int .i64).C w A n xs
  b : ∀ ad, A = some ad → lo ≤ ad.block ∧ ad.block < hi
theorem RB.grown {w w1 : World} {lo hi : Nat} {A : Option Addr} {n : Nat} {xs : List Int} (h : RB w lo hi A n xs) {row : Option Nat} (hg : w.grownBy w1 row) (hr : ∀ r, row = some r → r < lo ∨ hi ≤ r) : RB w1 lo hi A n xs := by
  refine ⟨C_of_readsInt ?_, h.b⟩
  obtain ⟨h1, h2, h3⟩ := reads_of_C h.c
  refine ⟨h1, h2, fun hn => ?_⟩
  obtain ⟨ad, e, hc⟩ := h3 hn
  refine ⟨ad, e, fun j hj => ?_⟩
  refine hg.cell (hc j hj) ?_
  rw [add_block]
  intro e2
  have h4 := h.b ad e
  rcases hr _ e2.symm with h5 | h5 <;> omega
theorem RB.mono {w : World} {lo hi lo' hi' : Nat} {A : Option Addr} {n : Nat} {xs : List Int} (h : RB w lo hi A n xs) (h1 : lo' ≤ lo) (h2 : hi ≤ hi') : RB w lo' hi' A n xs := ⟨h.c, fun ad e => by have := h.b ad e; omega⟩
/-- A Code of lengths, at g, all its blocks from lo up to hi. -/
structure CodeAt (w : World) (lo hi g : Nat) (L : List Int) : Prop where mk :: (out : ∃ (A A1 A2 : Option Addr) (c c1 c2 : Nat) (S : List Int), Cod w g (.slice A L.length c) (upto (fst L) 16) (tab fun j => (c0 L j : Int)) (upto (beg L) 16) (.slice A1 (beg L 16) c1) (.slice A2 L.length c2) ∧
  RB w lo hi A L.length L ∧ RB w lo hi A1 (beg L 16) S ∧ RB w lo hi A2 L.length (nmL L L.length) ∧ Stood L L.length S ∧ lo ≤ g ∧ g < hi)
theorem CodeAt.grown {w w1 : World} {lo hi g : Nat} {L : List Int} (h : CodeAt w lo hi g L) {row : Option Nat} (hg : w.grownBy w1 row) (hr : ∀ r, row = some r → r < lo ∨ hi ≤ r) : CodeAt w1 lo hi g L := by
  obtain ⟨A, A1, A2, c, c1, c2, S, k, r0, r1, r2, hS, h1, h2⟩ := h.out
  exact ⟨A, A1, A2, c, c1, c2, S, k.far hg (by intro e; rcases hr g e.symm with h5 | h5 <;> omega), r0.grown hg hr, r1.grown hg hr, r2.grown hg hr, hS, h1, h2⟩
theorem CodeAt.below {w w1 : World} {lo hi g : Nat} {L : List Int} (h : CodeAt w lo hi g L) (hb : Below w.heap.size w w1) : CodeAt w1 lo hi g L :=
  h.grown (grown_below hb none) (fun r e => by cases e)
theorem CodeAt.drewN {w : World} {lo hi g : Nat} {L : List Int} (h : CodeAt w lo hi g L) (n : Nat) : CodeAt (w.drewN n) lo hi g L := h.below (pw_below_drewN (Below.refl _ _) n)

/-- Lengths that make a lone code. -/
def aloneL (L : List Int) : Bool := decide (beg L 16 = 0) || (decide (beg L 16 = 1) && decide (c0 L 1 = 1))
/-- What New refuses lengths for. -/
def newR (L : List Int) (lone : Bool) : Option Int :=
  if 320 < L.length then some 3 else if okL L = false then some 1 else if numR L < 0 then some 14 else if 0 < numR L ∧ ¬ (lone = true ∧ aloneL L = true) then some 2 else none
set_option maxHeartbeats 1000000 in
theorem alone_calls (w : World) (lo hi g : Nat) (L : List Int) (k : CodeAt w lo hi g L) (hl : L.length ≤ 1000000) (hok : okL L = true) :
    Calls Try.prog 32 #[.pointer (some ⟨g, 0, none⟩)] w fun e w' => e = .returned (.bool (aloneL L)) ∧ w' = w := by
  obtain ⟨A, A1, A2, c, c1, c2, S, k, r0, r1, r2, hS, h1, h2⟩ := k.out
  have c4 := k.c4
  have cm : w.cell? ⟨g, 19, none⟩ = some (.int .i64 ((tab fun j => (Huf.c0 L j : Int)).getD 1 0)) := k.cm 1 (by omega)
  rw [tab_get _ 1 (by omega)] at cm
  have hb := beg_all L hok 16
  have hal : Aside0 (aloneL L = (decide (beg L 16 = 0) || (decide (beg L 16 = 1) && decide (Huf.c0 L 1 = 1)))) := ⟨rfl⟩
  clear k r0 r1 r2 hS
  have hb2 : ((beg L 16 : Nat) : Int) ≤ 1000000 := by omega
  clear hb
  generalize beg L 16 = T at *
  generalize Huf.c0 L 1 = q at *
  go_enter Try.func32, Try.ntmps32
  by_cases e0 : T = 0
  · subst e0
    go_wp2_with fail
    go_ret
    exact ⟨by rw [hal.out]; rfl, rfl⟩
  · have e0' : ¬ (T : Int) = 0 := by omega
    have e0'' : ((T : Int) == 0) = false := by simpa using e0'
    by_cases e1 : T = 1
    · subst e1
      go_wp2_with fail
      go_ret
      refine ⟨?_, rfl⟩
      rw [hal.out]
      by_cases e2 : q = 1
      · subst e2; rfl
      · have : ((q : Int) == 1) = false := by simp; omega
        simp [this, e2]
    · have e1' : ((T : Int) == 1) = false := by simp; omega
      go_wp2_with fail
      go_ret
      exact ⟨by rw [hal.out]; simp [e0, e1], rfl⟩
end Go.Proofs.Ytlgpmpnobcdogaa.My
