/- The document's Tokens is the plain function. -/
import Derived.Test.YtiaiopdiooobiaaMyTokP
import Derived.Test.YtiaiopdiooobiaaMyDocTok
namespace Go.Proofs.Ytiaiopdiooobiaa.My
open Go.RowKit Go.Proofs.YtiaiopdiooobiaaW.PrintWords Go.Proofs.YtiaiopdiooobiaaW.PrintLast Go.Proofs.YtiaiopdiooobiaaW.PrintMore Go.Proofs.Ytiaiopdiooobiaa.PDeflateTokens Go.Proofs.Ytiaiopdiooobiaa.MyDocTok
set_option linter.unusedVariables false
set_option linter.unusedSimpArgs false

def toS (k : Tk) : S31 := ⟨k.b, k.l, k.d⟩
theorem rd_nat (t : List Int) (i : Nat) : rd t (i : Int) = t.getD i 0 := by unfold rd; rw [Int.toNat_natCast]
theorem w64 (n : Nat) (h : n ≤ 1000000000000) : wrap64 (n : Int) = (n : Int) := by unfold wrap64; omega
theorem l2_ends (t : List Int) (acc : List S31) (a p lk : Nat) (b : Int) (l d : Int) (r : List S31) (ha : a < t.length) (hp : p < a) (hn : t.length ≤ 1000000000) : ∀ f n, f = 258 - n → n ≤ 258 →
    (∃ K, crossdockref09_Tokens.j4 K t acc a lk p (alkL t p a f n : Nat) b l d = some r) → ∃ K, crossdockref09_Tokens.l2 K t acc a lk p (n : Nat) b l d = some r
  | 0, n, hf, hn8, ⟨K, hK⟩ => by
    refine ⟨K + 1, ?_⟩
    rw [crossdockref09_Tokens.l2, if_neg (by omega)]
    exact hK
  | f + 1, n, hf, hn8, hK => by
    have e1 : wrap64 ((a : Int) + (n : Int)) = ((a + n : Nat) : Int) := by unfold wrap64; omega
    have e2 : wrap64 ((p : Int) + (n : Int)) = ((p + n : Nat) : Int) := by unfold wrap64; omega
    have e3 : wrap64 ((n : Int) + 1) = ((n + 1 : Nat) : Int) := by unfold wrap64; omega
    rw [alkL] at hK
    by_cases h1 : a + n < t.length
    · by_cases h2 : t.getD (p + n) 0 = t.getD (a + n) 0
      · rw [if_pos ⟨h1, h2⟩] at hK
        obtain ⟨K, hK⟩ := l2_ends t acc a p lk b l d r ha hp hn f (n + 1) (by omega) (by omega) hK
        refine ⟨K + 1, ?_⟩
        rw [crossdockref09_Tokens.l2, if_pos (by omega), e1, if_pos (by omega), e2, if_pos (by omega), if_pos (by omega), if_pos (by omega), rd_nat, rd_nat, if_pos h2, e3]
        exact hK
      · rw [if_neg (fun h => h2 h.2)] at hK
        obtain ⟨K, hK⟩ := hK
        refine ⟨K + 1, ?_⟩
        rw [crossdockref09_Tokens.l2, if_pos (by omega), e1, if_pos (by omega), e2, if_pos (by omega), if_pos (by omega), if_pos (by omega), rd_nat, rd_nat, if_neg h2]
        exact hK
    · rw [if_neg (fun h => h1 h.1)] at hK
      obtain ⟨K, hK⟩ := hK
      refine ⟨K + 1, ?_⟩
      rw [crossdockref09_Tokens.l2, if_pos (by omega), e1, if_neg (by omega)]
      exact hK
/-- The byte of the best so far. -/
def bx (t : List Int) (a l : Nat) : Int := if l = 0 then t.getD a 0 else 0
theorem l1_stop (t : List Int) (acc : List S31) (a lk l d : Nat) (r : List S31) (hl : l ≤ 258) (hacc : acc.length < 5864062014805) (hn : a ≤ 1000000000) (K : Nat) (x7 : Int)
    (hK : crossdockref09_Tokens.l0 K t (acc ++ [⟨bx t a l, l, d⟩]) ((a + max l 1 : Nat) : Int) = some r) : crossdockref09_Tokens.j2 (K + 1) t acc a lk x7 false (bx t a l) l d = some r := by
  have e1 : wrap64 ((a : Int) + mx (l : Int) 1) = ((a + max l 1 : Nat) : Int) := by unfold wrap64 mx; omega
  rw [crossdockref09_Tokens.j2, if_neg (by simp), if_pos hacc, e1]
  exact hK
theorem l1_ends (t : List Int) (acc : List S31) (a : Nat) (r : List S31) (ha : a < t.length) (hn : t.length ≤ 1000000000) (hacc : acc.length < 5864062014805) : ∀ p lk l d, p ≤ a → lk ≤ 64 → l ≤ 258 →
    (∃ K, crossdockref09_Tokens.l0 K t (acc ++ [⟨bx t a (scan t a p lk l d).1, (scan t a p lk l d).1, (scan t a p lk l d).2⟩]) ((a + max (scan t a p lk l d).1 1 : Nat) : Int) = some r) →
    ∃ K, crossdockref09_Tokens.l1 K t acc a (lk : Nat) ((p : Int) - 1) (bx t a l) (l : Nat) (d : Nat) = some r
  | 0, lk, l, d, hp, hlk, hl, ⟨K, hK⟩ => by
    refine ⟨K + 2, ?_⟩
    rw [crossdockref09_Tokens.l1, if_neg (by omega)]
    exact l1_stop t acc a lk l d r hl hacc (by omega) K _ hK
  | p + 1, lk, l, d, hp, hlk, hl, hK => by
    have e0 : ((p + 1 : Nat) : Int) - 1 = (p : Int) := by omega
    have e1 : wrap64 ((a : Int) - (p : Int)) = ((a - p : Nat) : Int) := by unfold wrap64; omega
    have e2 : wrap64 ((p : Int) - 1) = (p : Int) - 1 := by unfold wrap64; omega
    have e3 : wrap64 ((lk : Int) + 1) = ((lk + 1 : Nat) : Int) := by unfold wrap64; omega
    rw [scan] at hK
    rw [e0]
    by_cases h1 : a - p ≤ 32768
    · by_cases h2 : lk < 64
      · rw [if_pos ⟨h1, h2⟩] at hK
        have hal := alk_le t p a
        suffices h : ∃ K, crossdockref09_Tokens.j4 K t acc a lk p (alkL t p a 258 0 : Nat) (bx t a l) l d = some r by
          obtain ⟨K, hK⟩ := l2_ends t acc a p lk (bx t a l) l d r ha (by omega) hn 258 0 rfl (by omega) h
          refine ⟨K + 2, ?_⟩
          rw [crossdockref09_Tokens.l1, if_pos (by omega), e1, if_pos (by omega), crossdockref09_Tokens.j2, if_pos (by simp; omega)]
          exact hK
        rw [show alkL t p a 258 0 = alk t p a from rfl]
        by_cases h3 : alk t p a < 3
        · rw [if_pos h3] at hK
          obtain ⟨K, hK⟩ := l1_ends t acc a r ha hn hacc p lk l d (by omega) hlk hl hK
          refine ⟨K + 1, ?_⟩
          rw [crossdockref09_Tokens.j4, if_pos (by omega), e2]
          exact hK
        · rw [if_neg h3] at hK
          by_cases h4 : l < alk t p a
          · rw [if_pos h4] at hK
            obtain ⟨K, hK⟩ := l1_ends t acc a r ha hn hacc p (lk + 1) (alk t p a) (a - p) (by omega) (by omega) hal hK
            refine ⟨K + 1, ?_⟩
            rw [crossdockref09_Tokens.j4, if_neg (by omega), if_pos (by omega), e1, e2, e3]
            rw [show bx t a (alk t p a) = 0 by unfold bx; rw [if_neg (by omega)]] at hK
            exact hK
          · rw [if_neg h4] at hK
            obtain ⟨K, hK⟩ := l1_ends t acc a r ha hn hacc p (lk + 1) l d (by omega) (by omega) hl hK
            refine ⟨K + 1, ?_⟩
            rw [crossdockref09_Tokens.j4, if_neg (by omega), if_neg (by omega), e2, e3]
            exact hK
      · rw [if_neg (fun h => h2 h.2)] at hK
        obtain ⟨K, hK⟩ := hK
        refine ⟨K + 2, ?_⟩
        rw [crossdockref09_Tokens.l1, if_pos (by omega), e1, if_pos (by omega), show decide ((lk : Int) < 64) = false by simp; omega]
        exact l1_stop t acc a lk l d r hl hacc (by omega) K _ hK
    · rw [if_neg (fun h => h1 h.1)] at hK
      obtain ⟨K, hK⟩ := hK
      refine ⟨K + 2, ?_⟩
      rw [crossdockref09_Tokens.l1, if_pos (by omega), e1, if_neg (by omega)]
      exact l1_stop t acc a lk l d r hl hacc (by omega) K _ hK
theorem l0_ends (t : List Int) (hn : t.length ≤ 1000000000) : ∀ m a acc, m = t.length - a → acc.length ≤ a → ∃ K, crossdockref09_Tokens.l0 K t acc (a : Nat) = some (acc ++ (rest t a).map toS) := by
  intro m
  induction m using Nat.strongRecOn with
  | _ m ih =>
    intro a acc hm hacc
    by_cases h : a < t.length
    · have hs := rest_step t a h
      have hfit := tok_fits t a h
      have htl := tok_l t a
      have hlk := tok_le t a
      have hxx : (⟨bx t a (scan t a a 0 0 0).1, (scan t a a 0 0 0).1, (scan t a a 0 0 0).2⟩ : S31) = toS (tok t a) := by
        unfold tok bx toS
        by_cases h0 : (scan t a a 0 0 0).1 = 0
        · rw [if_pos h0, if_pos h0, h0]
        · rw [if_neg h0, if_neg h0]
      obtain ⟨K, hK⟩ := ih (t.length - (a + max (tok t a).l 1)) (by omega) (a + max (tok t a).l 1) (acc ++ [toS (tok t a)]) rfl (by simp; omega)
      rw [← hxx, htl] at hK
      obtain ⟨K, hK⟩ := l1_ends t acc a _ h hn (by omega) a 0 0 0 (Nat.le_refl _) (by omega) (by omega) ⟨K, hK⟩
      refine ⟨K + 1, ?_⟩
      have e2 : wrap64 ((a : Int) - 1) = (a : Int) - 1 := by unfold wrap64; omega
      rw [crossdockref09_Tokens.l0, if_pos (by omega), if_pos (by omega), e2, rd_nat]
      rw [show bx t a 0 = t.getD a 0 from rfl] at hK
      refine hK.trans ?_
      rw [hs, hxx, ← htl]
      simp
    · refine ⟨1, ?_⟩
      rw [crossdockref09_Tokens.l0, if_neg (by omega), rest_end t a (by omega)]
      simp
theorem tokens_f (t : List Int) (hn : t.length ≤ 1000000000) : ∃ K, crossdockref09_Tokens.f K t = some ((toks t).map toS) := by
  obtain ⟨K, hK⟩ := l0_ends t hn t.length 0 [] rfl (Nat.le_refl _)
  refine ⟨K, ?_⟩
  unfold crossdockref09_Tokens.f
  refine hK.trans ?_
  unfold rest toks
  simp
end Go.Proofs.Ytiaiopdiooobiaa.My
