/- The walk of huff.Code's number. -/
import Derived.Test.YtlgpmpnobcdogaaMyCount
namespace Go.Proofs.Ytlgpmpnobcdogaa.My
open Go.RowKit Go.Proofs.Ytlgpmpnobcdogaa.Huf Go.Proofs.YtlgpmpnobcdogaaW.PrintWords Go.Proofs.YtlgpmpnobcdogaaW.PrintLast Go.Proofs.YtlgpmpnobcdogaaW.PrintMore
set_option linter.unusedVariables false
set_option linter.unusedSimpArgs false

/-- The tables up to a length. -/
def upto (h : Nat → Nat) (n : Nat) : List Int := tab fun k => if k < n then (h k : Int) else 0
theorem upto_get (h : Nat → Nat) (n k : Nat) (hk : k < n) (h17 : k < 17) : (upto h n).getD k 0 = (h k : Int) := by unfold upto; rw [tab_get _ k h17, if_pos hk]
theorem upto_set (h : Nat → Nat) (n : Nat) (hn : n < 17) (x : Int) (hx : x = (h n : Int)) : (upto h n).set n x = upto h (n + 1) := by
  unfold upto
  exact tab_set _ _ n x hn (by rw [if_pos (by omega), hx]) (fun k hk _ => by
    by_cases e : k < n
    · rw [if_pos e, if_pos (by omega)]
    · rw [if_neg e, if_neg (by omega)])
theorem two_wrap (m : Nat) (h : m < 15) : wrap64 (2 ^ (m + 1)) = ((2 ^ (m + 1) : Nat) : Int) := by
  have h1 : 2 ^ (m + 1) ≤ 2 ^ 15 := Nat.pow_le_pow_right (by decide) h
  have h2 : (2 : Int) ^ (m + 1) = ((2 ^ (m + 1) : Nat) : Int) := by push_cast; rfl
  rw [h2]
  generalize 2 ^ (m + 1) = q at *
  unfold wrap64
  omega
theorem anyOver_step (L : List Int) (m : Nat) (h : m < 15) : anyOver L (15 - m) (m + 1) = (over L (m + 1) || anyOver L (15 - (m + 1)) (m + 1 + 1)) := by
  obtain ⟨d, e⟩ : ∃ d, 15 - m = d + 1 := ⟨14 - m, by omega⟩
  rw [e, show 15 - (m + 1) = d from by omega]
  rfl
theorem c0_succ (L : List Int) (m : Nat) : c0 L (m + 1) = cn L (m + 1) := by simp [c0]
set_option maxHeartbeats 2000000 in
set_option maxRecDepth 100000 in
theorem number_calls (w : World) (g : Nat) (v0 : Value) (L : List Int) (v4 v5 : Value) (k : Cod w g v0 (upto (fst L) 1) (tab fun j => (c0 L j : Int)) (upto (beg L) 1) v4 v5) (hn : L.length ≤ 1000000) :
    Calls Try.prog 30 #[.pointer (some ⟨g, 0, none⟩)] w fun e w' => e = .returned (.int .i64 (numR L)) ∧ w.grownBy w' (some g) ∧ (anyOver L 15 1 = false → Cod w' g v0 (upto (fst L) 16) (tab fun j => (c0 L j : Int)) (upto (beg L) 16) v4 v5) := by
  have HK0 := Aside0.mk k
  have HL := Aside0.mk hn
  clear k hn
  go_enter Try.func30, Try.ntmps30
  go_wp2_with fail
  go_loopg [3, 4] 15 (fun kq v3 v4' wr => ∃ m : Nat, v3 = .int .i64 (fst L m : Nat) ∧ v4' = .int .i64 ((m : Int) + 1) ∧ m ≤ 15 ∧ Aside0 (kq = 15 - m) ∧ Aside0 (Cod wr g v0 (upto (fst L) (m + 1)) (tab fun j => (c0 L j : Int)) (upto (beg L) (m + 1)) v4 v5) ∧ Aside0 (w.grownBy wr (some g)) ∧ Aside0 (anyOver L (15 - m) (m + 1) = anyOver L 15 1 ∧ ∀ j, 1 ≤ j → j < m + 1 → over L j = false))
  case atStart => exact ⟨0, rfl, rfl, Nat.zero_le _, ⟨rfl⟩, HK0, ⟨grown_refl _ _⟩, ⟨rfl, fun j h1 h2 => by omega⟩⟩
  case round =>
    obtain ⟨m, rfl, rfl, hm, HK, HC, HG, HO⟩ := hrel
    have hle := fst_le L m (fun j h1 h2 => HO.out.2 j h1 (by omega))
    have h2 : 2 ^ m ≤ 2 ^ 15 := Nat.pow_le_pow_right (by decide) hm
    have hc0 := c0_le L m
    have hc1 := c0_le L (m + 1)
    have hbm := beg_le L m
    have hl := HL.out
    have hmul : m * L.length ≤ 15 * 1000000 := Nat.mul_le_mul hm hl
    have b1 : ((fst L m : Nat) : Int) ≤ 32768 := by omega
    have b2 : ((c0 L m : Nat) : Int) ≤ 1000000 := by omega
    have b3 : ((c0 L (m + 1) : Nat) : Int) ≤ 1000000 := by omega
    have b4 : ((beg L m : Nat) : Int) ≤ 15000000 := by omega
    clear hle h2 hc0 hc1 hbm hl hmul
    have cm := HC.out.cm m (by omega)
    rw [tab_get _ m (by omega)] at cm
    by_cases hlt : m < 15
    · have hlt' : (m : Int) < 15 := by omega
      have e1 : ((fst L (m + 1) : Nat) : Int) = (((fst L m : Nat) : Int) + ((c0 L m : Nat) : Int)) * 2 := by rw [fst, Nat.mul_comm]; push_cast; rfl
      have e2 : ((beg L (m + 1) : Nat) : Int) = ((beg L m : Nat) : Int) + ((c0 L m : Nat) : Int) := by rw [beg]; push_cast; rfl
      have k1 := HC.out.sf (m + 1) (by omega) ((((fst L m : Nat) : Int) + ((c0 L m : Nat) : Int)) * 2)
      rw [upto_set (fst L) (m + 1) (by omega) _ e1.symm] at k1
      have k2 := k1.sb (m + 1) (by omega) (((beg L m : Nat) : Int) + ((c0 L m : Nat) : Int))
      rw [upto_set (beg L) (m + 1) (by omega) _ e2.symm] at k2
      have f0 := HC.out.fz (1 + (m + 1))
      have d0 := HC.out.cf (m + 1) (by omega)
      have d1 := k1.cm m (by omega)
      rw [tab_get _ m (by omega)] at d1
      have d2 := k1.cb m (by omega)
      rw [upto_get _ _ m (by omega) (by omega)] at d2
      have d3 := k1.cb (m + 1) (by omega)
      have f3 := k1.fz (35 + (m + 1))
      have d4 := k2.cm (m + 1) (by omega)
      rw [tab_get _ (m + 1) (by omega)] at d4
      have K2 := Aside0.mk k2
      have HG1 := Aside0.mk (grown_trans (grown_trans HG.out (grown_set wr g (1 + (m + 1)) (.int .i64 ((((fst L m : Nat) : Int) + ((c0 L m : Nat) : Int)) * 2)))) (grown_set _ g (35 + (m + 1)) (.int .i64 (((beg L m : Nat) : Int) + ((c0 L m : Nat) : Int)))))
      have HE1 := Aside0.mk e1
      have HE2 := Aside0.mk e2
      clear e1 e2 k1 k2
      have p1 : (0 : Int) ≤ ((fst L m : Nat) : Int) := by omega
      have p2 : (0 : Int) ≤ ((c0 L m : Nat) : Int) := by omega
      have p3 : (0 : Int) ≤ ((c0 L (m + 1) : Nat) : Int) := by omega
      have p4 : (0 : Int) ≤ ((beg L m : Nat) : Int) := by omega
      generalize ((fst L m : Nat) : Int) = X at *
      generalize ((c0 L m : Nat) : Int) = Y at *
      generalize hY2 : ((c0 L (m + 1) : Nat) : Int) = Y2 at *
      have HY2 := Aside0.mk hY2
      clear hY2
      generalize ((beg L m : Nat) : Int) = Z at *
      generalize (upto (fst L) (m + 1)).getD (m + 1) 0 = q1 at *
      generalize (upto (beg L) (m + 1)).getD (m + 1) 0 = q2 at *
      go_wp2_with fail
      go_region
      all_goals (first | go_wp2_with fail | skip)
      all_goals (first | go_region | skip)
      go_wp2_with fail
      · next hov =>
        have HT : Aside0 (numR L = -1) := ⟨by
          have h1 := two_wrap m hlt
          have h2 := HE1.out
          have h3 := HY2.out
          rw [c0_succ] at h3
          rw [h1] at hov
          have h4 : over L (m + 1) = true := decide_eq_true (by omega)
          have h5 := anyOver_step L m hlt
          rw [h4, Bool.true_or, HO.out.1] at h5
          unfold numR
          rw [if_pos h5]⟩
        have HG2 := Aside0.mk (grown_drewN HG1.out 2)
        have HA : Aside0 (anyOver L 15 1 = true) := ⟨by
          have h := HT.out
          unfold numR at h
          split at h
          · assumption
          · next hn => 
            have h1 := two_wrap m hlt
            have h2 := HE1.out
            have h3 := HY2.out
            rw [c0_succ] at h3
            rw [h1] at hov
            have h4 : over L (m + 1) = true := decide_eq_true (by omega)
            have h5 := anyOver_step L m hlt
            rw [h4, Bool.true_or, HO.out.1] at h5
            exact h5⟩
        go_ret
        exact ⟨by rw [HT.out]; rfl, HG2.out, fun h => by rw [HA.out] at h; cases h⟩
      · next hov =>
        have HV : Aside0 (over L (m + 1) = false) := ⟨by
          have h1 := two_wrap m hlt
          have h2 := HE1.out
          have h3 := HY2.out
          rw [c0_succ] at h3
          rw [h1] at hov
          exact decide_eq_false (by omega)⟩
        have e1 : ((m : Int) + 1) = ((m + 1 : Nat) : Int) := by omega
        go_roundg (15 - (m + 1))
        case measure => have := HK.out; omega
        case rel =>
          refine ⟨m + 1, by rw [← HE1.out], by rfl, by omega, ⟨rfl⟩, ⟨K2.out.drewN 2⟩, ⟨grown_drewN HG1.out 2⟩, ⟨?_, ?_⟩⟩
          · have h5 := anyOver_step L m hlt
            rw [HV.out, Bool.false_or] at h5
            rw [← h5]
            exact HO.out.1
          · intro j h1 h2
            rcases Nat.lt_or_ge j (m + 1) with h | h
            · exact HO.out.2 j h1 h
            · obtain rfl : j = m + 1 := by omega
              exact HV.out
    · have e15 : m = 15 := by omega
      subst e15
      have p1 : (0 : Int) ≤ ((fst L 15 : Nat) : Int) := by omega
      have p2 : (0 : Int) ≤ ((c0 L 15 : Nat) : Int) := by omega
      have HA : Aside0 (anyOver L 15 1 = false) := ⟨HO.out.1.symm⟩
      have HN : Aside0 (numR L = 32768 - (((fst L 15 : Nat) : Int) + ((c0 L 15 : Nat) : Int))) := ⟨by unfold numR; rw [if_neg (by rw [HA.out]; decide)]; simp [c0]⟩
      clear hlt hm
      generalize ((fst L 15 : Nat) : Int) = X at *
      generalize ((c0 L 15 : Nat) : Int) = Y at *
      go_wp2_with fail
      go_ret
      exact ⟨by rw [HN.out]; rfl, HG.out, fun _ => HC.out⟩
end Go.Proofs.Ytlgpmpnobcdogaa.My
