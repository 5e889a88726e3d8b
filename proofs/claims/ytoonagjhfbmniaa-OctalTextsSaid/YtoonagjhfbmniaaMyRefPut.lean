/- The document's answer (crossdockref17.Put, as print.sh wrote it down) is the plain one. -/
import Derived.Test.YtoonagjhfbmniaaPPutx2
import Derived.Test.YtoonagjhfbmniaaMyOctP
namespace Go.Proofs.Ytoonagjhfbmniaa.My
open Go.RowKit Go.Proofs.Ytoonagjhfbmniaa.Oct Go.Proofs.Ytoonagjhfbmniaa.PPut Go.Proofs.YtoonagjhfbmniaaW.PrintWords Go.Proofs.YtoonagjhfbmniaaW.PrintLast Go.Proofs.YtoonagjhfbmniaaW.PrintMore

theorem tmod256 (x : Int) : Int.tmod x 256 = if 0 ≤ x then x % 256 else -((-x) % 256) := by
  split
  · rename_i h; exact Int.tmod_eq_emod_of_nonneg h
  · rename_i h
    have := Int.neg_tmod (-x) 256
    rw [Int.neg_neg] at this
    rw [this, Int.tmod_eq_emod_of_nonneg (by omega)]
theorem fig_l0 (j : Nat) : ∀ (k : Nat) (l : List Int) (x : Int), j < k → j ≤ l.length → l.length ≤ 1000 → 0 ≤ x → x ≤ 9223372036854775807 →
    crossdockref17_figures.l0 k x l ((j : Int) - 1) = some (ds g8 (· / 8) j x ++ l.drop j, it (· / 8) j x == 0) := by
  induction j with
  | zero =>
    intro k l x hk hl hm h0 h1
    obtain ⟨k, rfl⟩ : ∃ m, k = m + 1 := ⟨k - 1, by omega⟩
    rw [crossdockref17_figures.l0, if_neg (by omega)]
    simp [ds, it]
  | succ j ih =>
    intro k l x hk hl hm h0 h1
    obtain ⟨k, rfl⟩ : ∃ m, k = m + 1 := ⟨k - 1, by omega⟩
    rw [crossdockref17_figures.l0, show ((j + 1 : Nat) : Int) - 1 = (j : Int) from by omega, if_pos (by omega), if_pos (by omega), if_pos (by omega),
      show wrap64 ((j : Int) - 1) = (j : Int) - 1 from by unfold wrap64; omega, Int.tmod_eq_emod_of_nonneg h0, Int.tdiv_eq_ediv_of_nonneg h0, Int.toNat_natCast,
      show (wrap64 (48 + x % 8)) % 256 = g8 x from by unfold wrap64 g8; omega, show wrap64 (x / 8) = x / 8 from by unfold wrap64; omega,
      ih k _ _ (by omega) (by simp; omega) (by simpa using hm) (by omega) (by omega), set_drop l j _ (by omega)]
    simp [ds, it]
/-- One round of the wide form: what is left is the quotient, rounded down. -/
theorem wide_round (j k : Nat) (l : List Int) (x1 x : Int) (h0 : -9223372036854775808 ≤ x) (h1 : x ≤ 9223372036854775807) (hs : x1 < 0 → x < 0) (hj : j < l.length) (hm : l.length ≤ 1000) :
    crossdockref17_wide.l0 (k + 1) x1 l x j = crossdockref17_wide.l0 k x1 (l.set j (g256 x)) (x / 256) ((j : Int) - 1) := by
  rw [crossdockref17_wide.l0, if_pos (by omega)]
  have e1 : wrap64 ((j : Int) - 1) = (j : Int) - 1 := by unfold wrap64; omega
  by_cases hx : Int.tmod x 256 < 0
  · have hn : x < 0 := by
      rcases Int.lt_or_le x 0 with h | h
      · exact h
      · rw [Int.tmod_eq_emod_of_nonneg h] at hx; omega
    have ht : Int.tmod x 256 = -((-x) % 256) := by rw [tmod256, if_neg (by omega)]
    rw [ht] at hx ⊢
    have em : wrap64 (-((-x) % 256) + 256) = x % 256 := by unfold wrap64; omega
    have ed : wrap64 (Int.tdiv (wrap64 (x - x % 256)) 256) = x / 256 := by
      rw [show wrap64 (x - x % 256) = x - x % 256 from by unfold wrap64; omega, show x - x % 256 = 256 * (x / 256) from by omega, Int.mul_tdiv_cancel_left _ (by decide)]
      unfold wrap64; omega
    rw [if_pos hx, em, ed, if_pos (by omega), if_pos (by omega), Option.bind_some, e1, Int.toNat_natCast, show x % 256 % 256 = g256 x from by unfold g256; omega]
    by_cases hx1 : x1 < 0
    · rw [if_pos hx1, if_neg (by omega)]
    · rw [if_neg hx1]
  · have em : Int.tmod x 256 = x % 256 := by rw [tmod256] at hx ⊢; split at * <;> omega
    have ed : wrap64 (Int.tdiv (wrap64 (x - x % 256)) 256) = x / 256 := by
      rw [show wrap64 (x - x % 256) = x - x % 256 from by unfold wrap64; omega, show x - x % 256 = 256 * (x / 256) from by omega, Int.mul_tdiv_cancel_left _ (by decide)]
      unfold wrap64; omega
    rw [if_neg hx, em, ed, if_pos (by omega), if_pos (by omega), Option.bind_some, e1, Int.toNat_natCast, show x % 256 % 256 = g256 x from by unfold g256; omega]
    by_cases hx1 : x1 < 0
    · rw [if_pos hx1, if_neg (by have := hs hx1; omega)]
    · rw [if_neg hx1]
theorem wide_l0 (j : Nat) : ∀ (k : Nat) (l : List Int) (x1 x : Int), -9223372036854775808 ≤ x → x ≤ 9223372036854775807 → (x1 < 0 → x < 0) → j ≤ l.length → l.length ≤ 1000 →
    crossdockref17_wide.l0 (k + j) x1 l x ((j : Int) - 1) = crossdockref17_wide.l0 k x1 (ds g256 (· / 256) j x ++ l.drop j) (it (· / 256) j x) (-1) := by
  induction j with
  | zero => intro k l x1 x h0 h1 hs hl hm; simp [ds, it]
  | succ j ih =>
    intro k l x1 x h0 h1 hs hl hm
    rw [show k + (j + 1) = (k + j) + 1 from rfl, show ((j + 1 : Nat) : Int) - 1 = (j : Int) from by omega, wide_round j (k + j) l x1 x h0 h1 hs (by omega) hm,
      ih k _ x1 _ (by omega) (by omega) (fun h => by have := hs h; omega) (by simp; omega) (by simpa using hm), set_drop l j _ (by omega)]
    simp [ds, it]

theorem pow8_2 (j : Nat) : (8 : Int) ^ j = 2 ^ (3 * j) := by rw [Int.pow_mul]; rfl
theorem pow256_2 (j : Nat) : (256 : Int) ^ j = 2 ^ (8 * j) := by rw [Int.pow_mul]; rfl
theorem small_div (x : Int) (e : Nat) (h0 : -9223372036854775808 ≤ x) (h1 : x ≤ 9223372036854775807) (he : 63 ≤ e) : x / 2 ^ e = if x < 0 then -1 else 0 := by
  have h2 : (2 : Int) ^ 63 ≤ 2 ^ e := by exact_mod_cast Nat.pow_le_pow_right (by decide) he
  have h3 : (2 : Int) ^ 63 = 9223372036854775808 := by decide
  generalize (2 : Int) ^ e = p at h2
  split
  · rename_i h; rw [Int.ediv_eq_iff_of_pos (by omega)]; omega
  · rename_i h; exact Int.ediv_eq_zero_of_lt (by omega) (by omega)

/-- By figures, as the document has it. -/
theorem ref_figures (n : Nat) (x : Int) (hn : n ≤ 100) (h0 : -9223372036854775808 ≤ x) (h1 : x ≤ 9223372036854775807) :
    ∃ l, (nar n x = true → l = putB n x) ∧ ∀ k, n + 3 ≤ k → crossdockref17_figures.f k n x = some (l, nar n x) := by
  by_cases hp : 1 ≤ n ∧ 0 ≤ x
  · obtain ⟨m, rfl⟩ : ∃ m, n = m + 1 := ⟨n - 1, by omega⟩
    have hb : (it (· / 8) m x == 0) = nar ((m + 1 : Nat) : Int) x := by
      rw [it_div 8 (by decide), pow8_2]
      unfold nar
      rw [show (3 * (((m + 1 : Nat) : Int) - 1)).toNat = 3 * m from by omega]
      by_cases h : x / 2 ^ (3 * m) = 0
      · rw [h]; simp; omega
      · have : ¬ 21 < ((m + 1 : Nat) : Int) := by
          intro h21
          apply h
          rw [small_div x (3 * m) h0 h1 (by omega), if_neg (by omega)]
        rw [beq_eq_false_iff_ne.2 h]
        symm
        exact decide_eq_false (fun h' => h'.2.2.elim this h)
    refine ⟨ds g8 (· / 8) m x ++ [0], fun h => by unfold putB; rw [if_pos h]; rfl, fun k hk => ?_⟩
    obtain ⟨k, rfl⟩ : ∃ j, k = j + 1 := ⟨k - 1, by omega⟩
    unfold crossdockref17_figures.f
    rw [if_neg (by omega), decide_eq_false (by omega), crossdockref17_figures.j0]
    rw [if_neg (by simp), if_pos (by omega), if_pos (by omega), Int.toNat_natCast, show wrap64 (((m + 1 : Nat) : Int) - 2) = (m : Int) - 1 from by unfold wrap64; omega,
      fig_l0 m k _ x (by omega) (by simp) (by simp; omega) hp.2 h1, hb]
    simp [List.drop_replicate]
  · have hb : nar n x = false := decide_eq_false (fun h => hp ⟨by omega, h.2.1⟩)
    refine ⟨[], (fun h => by rw [hb] at h; cases h), fun k hk => ?_⟩
    obtain ⟨k, rfl⟩ : ∃ j, k = j + 1 := ⟨k - 1, by omega⟩
    unfold crossdockref17_figures.f
    by_cases h : (n : Int) < 1
    · rw [if_pos h, crossdockref17_figures.j0, if_pos rfl, hb]
    · rw [if_neg h, decide_eq_true (by omega), crossdockref17_figures.j0, if_pos rfl, hb]

theorem or128 (y : Int) (h0 : 0 ≤ y) (h1 : y < 256) : Go.bits .or .u8 y 128 = if y < 128 then y + 128 else y := by
  obtain ⟨a, rfl⟩ := Int.eq_ofNat_of_zero_le h0
  have h : ∀ a : Nat, a < 256 → Go.bits .or .u8 (a : Int) 128 = if (a : Int) < 128 then (a : Int) + 128 else a := by decide +kernel
  exact h a (by omega)

/-- Which numbers fit, by their sign and the first byte. -/
theorem fit_wide (n : Nat) (x : Int) (hn : 2 ≤ n) (hnar : nar n x = false) (h0 : -9223372036854775808 ≤ x) (h1 : x ≤ 9223372036854775807) :
    fit n x = decide (x / 256 ^ (n - 1) / 64 = 0 ∨ x / 256 ^ (n - 1) / 64 = -1) := by
  have e : x / 256 ^ (n - 1) / 64 = x / 2 ^ (8 * n - 2) := by
    rw [pow256_2, Int.ediv_ediv_of_nonneg (by exact Int.le_of_lt (Int.pow_pos (by decide))), show (64 : Int) = 2 ^ 6 from rfl, ← Int.pow_add, show 8 * (n - 1) + 6 = 8 * n - 2 from by omega]
  rw [e]
  unfold fit
  by_cases h9 : 9 ≤ (n : Int)
  · rw [hnar, decide_eq_true h9]
    simp only [Bool.or_true, if_true]
    rw [decide_eq_true (show (0 : Int) < n by omega), small_div x (8 * n - 2) h0 h1 (by omega)]
    symm
    split <;> simp
  · rw [hnar, decide_eq_false h9, if_neg (by simp), if_neg (by omega), show (8 * (n : Int) - 2).toNat = 8 * n - 2 from by omega]

theorem ref_wide (n : Nat) (x : Int) (hn : n ≤ 100) (hnar : nar n x = false) (h0 : -9223372036854775808 ≤ x) (h1 : x ≤ 9223372036854775807) :
    ∃ l, (fit n x = true → l = putB n x) ∧ ∀ k, n + 3 ≤ k → crossdockref17_wide.f k n x = some (l, fit n x) := by
  by_cases hp : 2 ≤ n
  · obtain ⟨m, rfl⟩ : ∃ m, n = m + 1 := ⟨n - 1, by omega⟩
    have hf := fit_wide (m + 1) x hp hnar h0 h1
    rw [Nat.add_sub_cancel] at hf
    obtain ⟨t, ht⟩ := ds_head g256 (· / 256) m x
    have hq : it (· / 256) m x = x / 256 ^ m := it_div 256 (by decide) m x
    have hr : it (· / 256) (m + 1) x = x / 256 ^ m / 256 := by rw [it_succ, hq]
    have hlen := ds_length g256 (· / 256) (m + 1) x
    have hsign : 0 ≤ x ↔ 0 ≤ x / 256 ^ m := by
      constructor
      · intro h; exact Int.ediv_nonneg h (Int.le_of_lt (Int.pow_pos (by decide)))
      · intro h
        rcases Int.lt_or_le x 0 with h' | h'
        · have := Int.ediv_neg_of_neg_of_pos h' (Int.pow_pos (m := m) (show (0 : Int) < 256 by decide)); omega
        · exact h'
    generalize x / 256 ^ m = q at hf hq hr hsign
    refine ⟨if fit ((m + 1 : Nat) : Int) x then putB (m + 1) x else [], fun h => by rw [if_pos h], fun k hk => ?_⟩
    obtain ⟨k, rfl⟩ : ∃ j, k = j + 2 + (m + 1) := ⟨k - 2 - (m + 1), by omega⟩
    unfold crossdockref17_wide.f
    rw [if_neg (by omega), if_pos (by omega), if_pos (by omega), Int.toNat_natCast, show wrap64 (((m + 1 : Nat) : Int) - 1) = ((m + 1 : Nat) : Int) - 1 from by unfold wrap64; omega,
      wide_l0 (m + 1) (k + 2) _ x x h0 h1 id (by simp) (by simp; omega), List.drop_eq_nil_of_le (by simp), List.append_nil, hr]
    have hput : putB (m + 1) x = (ds g256 (· / 256) (m + 1) x).set 0 (if q % 256 < 128 then q % 256 + 128 else q % 256) := by
      unfold putB
      rw [if_neg (by rw [hnar]; exact Bool.false_ne_true), ht, List.getD_cons_zero, hq, or128 _ (by unfold g256; omega) (by unfold g256; omega)]
      rfl
    have hrd : rd (ds g256 (· / 256) (m + 1) x) 0 = q % 256 := by rw [ht, hq]; rfl
    have hout : ds g256 (· / 256) (m + 1) x = (q % 256) :: t := by rw [ht, hq]; rfl
    rw [hput]
    generalize ds g256 (· / 256) (m + 1) x = d at *
    rw [crossdockref17_wide.l0, if_neg (by omega)]
    have j1 : ∀ b, crossdockref17_wide.j1 (k + 1) d b = some (if b = true then (([] : List Int), false) else (d.set 0 (if q % 256 < 128 then q % 256 + 128 else q % 256), true)) := by
      intro b
      rw [crossdockref17_wide.j1]
      cases b with
      | true => rfl
      | false =>
        rw [if_neg (by simp), if_pos (by omega), hrd]
        by_cases hlt : q % 256 < 128
        · rw [if_pos hlt, if_pos hlt]
          simp only [Bool.false_eq_true, if_false]
          rw [show (q % 256 + 128) % 256 = q % 256 + 128 from by omega]
          rfl
        · rw [if_neg hlt, if_neg hlt, hout]
          simp
    by_cases hx : 0 ≤ x
    · have hq0 := hsign.1 hx
      rw [if_pos (by omega), if_pos (by omega), hrd]
      by_cases h64 : q % 256 ≥ 64
      · have : fit ((m + 1 : Nat) : Int) x = false := by rw [hf]; exact decide_eq_false (by omega)
        rw [if_pos h64, j1, this]; rfl
      · rw [if_neg h64]
        by_cases hz : q / 256 = 0
        · have : fit ((m + 1 : Nat) : Int) x = true := by rw [hf]; exact decide_eq_true (by omega)
          rw [if_pos hz, if_neg (by omega), j1, this]; rfl
        · have : fit ((m + 1 : Nat) : Int) x = false := by rw [hf]; exact decide_eq_false (by omega)
          rw [if_neg hz, j1, this]; rfl
    · have hq0 : q < 0 := by
        rcases Int.lt_or_le q 0 with h | h
        · exact h
        · exact absurd (hsign.2 h) hx
      rw [if_neg (by omega), if_pos (by omega), if_pos (by omega), hrd]
      by_cases h192 : q % 256 < 192
      · have : fit ((m + 1 : Nat) : Int) x = false := by rw [hf]; exact decide_eq_false (by omega)
        rw [if_pos h192, j1, this]; rfl
      · rw [if_neg h192, j1]
        by_cases hz : q / 256 = -1
        · have : fit ((m + 1 : Nat) : Int) x = true := by rw [hf]; exact decide_eq_true (by omega)
          rw [hz, this]; rfl
        · have : fit ((m + 1 : Nat) : Int) x = false := by rw [hf]; exact decide_eq_false (by omega)
          rw [bne_iff_ne.2 hz, this]; rfl
  · have hb : fit n x = false := by
      unfold fit
      rw [hnar, decide_eq_false (by omega), if_neg (by simp), if_pos (by omega)]
    refine ⟨[], (fun h => by rw [hb] at h; cases h), fun k hk => ?_⟩
    unfold crossdockref17_wide.f
    rw [if_pos (by omega), hb]

theorem nar_fit {n : Nat} {x : Int} (h : nar n x = true) : fit n x = true := by
  have h1 := (of_decide_eq_true h).1
  unfold fit
  rw [h]
  simp only [Bool.true_or, if_true]
  exact decide_eq_true h1

/-- The document's answer for a field of n bytes. -/
theorem ref_put (n : Nat) (x : Int) (hn : n ≤ 100) (h0 : -9223372036854775808 ≤ x) (h1 : x ≤ 9223372036854775807) :
    ∃ k, crossdockref17_Put.f k n x = some (if fit n x then (putB n x, 0) else (([] : List Int), 3)) := by
  refine ⟨n + 3, ?_⟩
  obtain ⟨l, hl, hf⟩ := ref_figures n x hn h0 h1
  unfold crossdockref17_Put.f
  rw [hf _ (Nat.le_refl _), Option.bind_some]
  cases hb : nar n x with
  | true => rw [if_pos rfl, nar_fit hb, hl hb]; rfl
  | false =>
    rw [if_neg (by simp)]
    obtain ⟨l', hl', hf'⟩ := ref_wide n x hn hb h0 h1
    rw [hf' _ (Nat.le_refl _), Option.bind_some]
    cases hb' : fit n x with
    | true => rw [if_pos rfl, hl' hb']; rfl
    | false => rw [if_neg (by simp)]; rfl
theorem ref_put_neg (n x : Int) (hn : n < 0) : ∃ k, crossdockref17_Put.f k n x = some (([] : List Int), 3) := by
  refine ⟨1, ?_⟩
  unfold crossdockref17_Put.f crossdockref17_figures.f crossdockref17_wide.f
  rw [if_pos (by omega), crossdockref17_figures.j0, if_pos rfl, if_pos (by omega)]
  rfl
theorem fit_neg (n x : Int) (hn : n < 0) : fit n x = false := by
  have : nar n x = false := decide_eq_false (fun h => by omega)
  unfold fit
  rw [this, decide_eq_false (by omega), if_neg (by simp), if_pos (by omega)]
end Go.Proofs.Ytoonagjhfbmniaa.My
