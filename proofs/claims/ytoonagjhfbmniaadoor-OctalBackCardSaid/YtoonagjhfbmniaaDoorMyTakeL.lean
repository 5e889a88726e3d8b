/- What is put is taken: plainly. -/
import Derived.Test.YtoonagjhfbmniaaDoorMyTakeP
namespace Go.Proofs.YtoonagjhfbmniaaDoor.Oct
set_option linter.unusedVariables false
set_option linter.unusedSimpArgs false

theorem oct_app (b : List Int) : ∀ (a : List Int) (x : Int), oct (a ++ b) x = (oct a x).bind (oct b) := by
  intro a
  induction a with
  | nil => intro x; rfl
  | cons y a ih =>
    intro x
    show (if _ then _ else _) = Option.bind (if _ then _ else _) _
    split
    · rfl
    · exact ih _
theorem binr_app (b : List Int) : ∀ (a : List Int) (x : Int), binr (a ++ b) x = (binr a x).bind (binr b) := by
  intro a
  induction a with
  | nil => intro x; rfl
  | cons y a ih =>
    intro x
    show (if _ then _ else _) = Option.bind (if _ then _ else _) _
    split
    · exact ih _
    · rfl
theorem oct_ds (m : Nat) : ∀ (x y : Int), 0 ≤ x → 0 ≤ y → y * 8 ^ m + x % 8 ^ m ≤ 9223372036854775807 → oct (ds g8 (· / 8) m x) y = some (y * 8 ^ m + x % 8 ^ m) := by
  induction m with
  | zero => intro x y _ _ _; simp [ds, oct, Int.emod_one]
  | succ m ih =>
    intro x y hx hy hb
    have e : x % 8 ^ (m + 1) = 8 * (x / 8 % 8 ^ m) + x % 8 := by
      have h1 := Int.mul_ediv_add_emod x (8 ^ (m + 1))
      have h2 := Int.mul_ediv_add_emod (x / 8) (8 ^ m)
      have h3 : x / 8 / 8 ^ m = x / 8 ^ (m + 1) := by rw [Int.ediv_ediv_of_nonneg (by omega), Int.pow_succ, Int.mul_comm]
      rw [h3] at h2
      rw [Int.pow_succ] at h1 ⊢
      have h4 : (8 ^ m * 8) * (x / (8 ^ m * 8)) = 8 * (8 ^ m * (x / (8 ^ m * 8))) := by rw [Int.mul_comm (8 ^ m) 8, Int.mul_assoc]
      rw [Int.pow_succ] at h2
      omega
    have e2 : y * 8 ^ (m + 1) = 8 * (y * 8 ^ m) := by rw [Int.pow_succ, ← Int.mul_assoc, Int.mul_comm]
    rw [e, e2] at hb ⊢
    rw [ds, oct_app, ih (x / 8) y (by omega) hy (by omega)]
    show (if _ then none else some (8 * (y * 8 ^ m + x / 8 % 8 ^ m) + (g8 x - 48))) = _
    unfold g8
    rw [if_neg (by omega)]
    congr 1
    omega
theorem ds_dig (m : Nat) : ∀ x, ∀ b ∈ ds g8 (· / 8) m x, 48 ≤ b ∧ b ≤ 55 := by
  induction m with
  | zero => intro x b h; cases h
  | succ m ih =>
    intro x b h
    rcases List.mem_append.1 h with h | h
    · exact ih _ b h
    · rcases List.mem_singleton.1 h with rfl
      unfold g8
      omega
theorem ds_cons (g h : Int → Int) (j : Nat) : ∀ x, ds g h (j + 1) x = g (it h j x) :: ds g h j x := by
  induction j with
  | zero => intro x; rfl
  | succ j ih =>
    intro x
    rw [ds, ih (h x)]
    rfl
theorem binr_ds (j : Nat) : ∀ x : Int, -9223372036854775808 ≤ x → x ≤ 9223372036854775807 → binr (ds g256 (· / 256) j x) (x / 256 ^ j) = some x := by
  induction j with
  | zero => intro x _ _; simp [ds, binr]
  | succ j ih =>
    intro x h0 h1
    have h3 : x / 256 ^ (j + 1) = x / 256 / 256 ^ j := by rw [Int.ediv_ediv_of_nonneg (by omega), Int.pow_succ, Int.mul_comm]
    rw [h3, ds, binr_app, ih (x / 256) (by omega) (by omega)]
    show (if _ then some (256 * (x / 256) + g256 x) else none) = _
    unfold g256
    rw [if_pos (by omega)]
    congr 1
    omega
theorem nar_cases {n : Nat} {x : Int} (hx1 : x ≤ 9223372036854775807) (h : nar n x = true) : 0 ≤ x ∧ x % 8 ^ (n - 1) = x := by
  obtain ⟨h0, h1, h2⟩ := of_decide_eq_true h
  refine ⟨h1, Int.emod_eq_of_lt h1 ?_⟩
  rcases h2 with h2 | h2
  · have : (8 : Int) ^ 21 ≤ 8 ^ (n - 1) := by exact_mod_cast (Nat.pow_le_pow_right (n := 8) (by decide) (by omega) : 8 ^ 21 ≤ 8 ^ (n - 1))
    have e : (8 : Int) ^ 21 = 9223372036854775808 := rfl
    omega
  · have hn : (3 * ((n : Int) - 1)).toNat = 3 * (n - 1) := by omega
    rw [hn, Int.pow_mul] at h2
    have hp : (0 : Int) < (2 ^ 3) ^ (n - 1) := Int.pow_pos (by decide)
    have e : (8 : Int) ^ (n - 1) = (2 ^ 3) ^ (n - 1) := rfl
    rw [e]
    have := Int.lt_mul_ediv_self_add (x := x) hp
    rw [h2] at this
    omega

theorem dw_of_all {p : Int → Bool} (t : List Int) : ∀ l : List Int, (∀ b ∈ l, p b = true) → (l ++ t).dropWhile p = t.dropWhile p ∧ (l ++ t).takeWhile p = l ++ t.takeWhile p := by
  intro l
  induction l with
  | nil => intro _; exact ⟨rfl, rfl⟩
  | cons b l ih =>
    intro h
    obtain ⟨h1, h2⟩ := ih (fun c hc => h c (List.mem_cons_of_mem _ hc))
    have hb := h b List.mem_cons_self
    rw [List.cons_append, List.dropWhile_cons_of_pos hb, List.takeWhile_cons_of_pos hb, h1, h2]
    exact ⟨rfl, rfl⟩
theorem take_nar (n : Nat) (x : Int) (hn : 0 < n) (hx1 : x ≤ 9223372036854775807) (h : nar n x = true) : takeA (putB n x) = (none, x) := by
  obtain ⟨h0, h2⟩ := nar_cases hx1 h
  unfold putB
  rw [if_pos h]
  have hd := ds_dig (n - 1) x
  have ho := oct_ds (n - 1) x 0 h0 (Int.le_refl 0) (by rw [Int.zero_mul, h2]; omega)
  rw [Int.zero_mul, h2, Int.zero_add] at ho
  have hz : ∀ b ∈ ds g8 (· / 8) (n - 1) x, dig b = true := fun b hb => decide_eq_true (hd b hb)
  obtain ⟨w1, w2⟩ := dw_of_all [0] _ hz
  generalize ds g8 (· / 8) (n - 1) x = l at *
  have hs : (l ++ [0]).dropWhile spc = l ++ [0] := by
    cases l with
    | nil => rfl
    | cons b l =>
      have := hd b List.mem_cons_self
      exact List.dropWhile_cons_of_neg (by simp [spc]; omega)
  have hc : takeA (l ++ [0]) = if (((l ++ [0]).dropWhile spc).dropWhile dig).all wht then ans 1 (oct (((l ++ [0]).dropWhile spc).takeWhile dig) 0) else (some 2, 0) := by
    cases l with
    | nil => rfl
    | cons b l =>
      have := hd b List.mem_cons_self
      show (if 128 ≤ b then _ else _) = _
      rw [if_neg (by omega)]
  rw [hc, hs, w1, w2]
  have e1 : ([0] : List Int).dropWhile dig = [0] := rfl
  have e2 : ([0] : List Int).takeWhile dig = [] := rfl
  rw [e1, e2, List.append_nil, ho]
  rfl
theorem fin_or128 : ∀ b : Fin 256, Go.bits .or .u8 ((b.val : Nat) : Int) 128 = ((b.val % 128 + 128 : Nat) : Int) := by decide +kernel
theorem or128 (b : Int) (h0 : 0 ≤ b) (h1 : b < 256) : Go.bits .or .u8 b 128 = b % 128 + 128 := by
  obtain ⟨n, rfl⟩ := Int.eq_ofNat_of_zero_le h0
  have h := fin_or128 ⟨n, by omega⟩
  simp only at h
  exact h.trans (by omega)
theorem wide_top (n : Nat) (x : Int) (hx0 : -9223372036854775808 ≤ x) (hx1 : x ≤ 9223372036854775807) (hf : fit n x = true) (h : nar n x = false) : 2 ≤ n ∧ -64 ≤ x / 256 ^ (n - 1) ∧ x / 256 ^ (n - 1) < 64 := by
  unfold fit at hf
  rw [h, Bool.false_or] at hf
  by_cases h9 : 9 ≤ n
  · refine ⟨by omega, ?_⟩
    have e : x / 256 ^ (n - 1) = x / 256 ^ 8 / 256 ^ (n - 9) := by
      rw [Int.ediv_ediv_of_nonneg (by decide), ← Int.pow_add, show 8 + (n - 9) = n - 1 from by omega]
    have e8 : (256 : Int) ^ 8 = 18446744073709551616 := rfl
    rw [e, e8]
    have hp : (0 : Int) < 256 ^ (n - 9) := Int.pow_pos (by decide)
    have hq : x / 18446744073709551616 = 0 ∨ x / 18446744073709551616 = -1 := by omega
    rcases hq with hq | hq
    · rw [hq, Int.zero_ediv]; omega
    · rw [hq, Int.neg_one_ediv, Int.sign_eq_one_of_pos hp]; omega
  · rw [decide_eq_false (by omega)] at hf
    by_cases h2 : (n : Int) < 2
    · rw [if_neg (by simp), if_pos h2] at hf
      cases hf
    · rw [if_neg (by simp), if_neg h2] at hf
      have hq := of_decide_eq_true hf
      refine ⟨by omega, ?_⟩
      have e : (8 * (n : Int) - 2).toNat = 8 * (n - 1) + 6 := by omega
      rw [e, Int.pow_add, ← Int.ediv_ediv_of_nonneg (Int.le_of_lt (Int.pow_pos (by decide))), Int.pow_mul] at hq
      have e8 : (2 : Int) ^ 8 = 256 := rfl
      have e6 : (2 : Int) ^ 6 = 64 := rfl
      rw [e8, e6] at hq
      omega
theorem take_wide (n : Nat) (x : Int) (hx0 : -9223372036854775808 ≤ x) (hx1 : x ≤ 9223372036854775807) (hf : fit n x = true) (h : nar n x = false) : takeA (putB n x) = (none, x) := by
  obtain ⟨h2, h3, h4⟩ := wide_top n x hx0 hx1 hf h
  obtain ⟨m, rfl⟩ : ∃ m, n = m + 1 := ⟨n - 1, by omega⟩
  unfold putB
  rw [if_neg (by rw [h]; simp), ds_cons, List.set_cons_zero, it_div 256 (by decide)]
  rw [Nat.add_sub_cancel] at h3 h4
  have hb := binr_ds m x hx0 hx1
  generalize ds g256 (· / 256) m x = l at *
  generalize x / 256 ^ m = y at *
  have hg : (g256 y :: l).getD 0 0 = g256 y := rfl
  rw [hg, or128 _ (by unfold g256; omega) (by unfold g256; omega)]
  show (if _ then ans 1 (binr l (top _)) else _) = _
  have ht : top (g256 y % 128 + 128) = y := by unfold top g256; split <;> omega
  rw [if_pos (by omega), ht, hb]
  rfl
theorem ds256_byte (m : Nat) : ∀ x, ∀ b ∈ ds g256 (· / 256) m x, 0 ≤ b ∧ b < 256 := by
  induction m with
  | zero => intro x b h; cases h
  | succ m ih =>
    intro x b h
    rcases List.mem_append.1 h with h | h
    · exact ih _ b h
    · rcases List.mem_singleton.1 h with rfl
      unfold g256
      omega
theorem putB_byte (n : Nat) (x : Int) (hn : 0 < n) : ∀ b ∈ putB n x, 0 ≤ b ∧ b < 256 := by
  intro b hb
  unfold putB at hb
  split at hb
  · rcases List.mem_append.1 hb with hb | hb
    · have := ds_dig _ _ b hb
      omega
    · rcases List.mem_singleton.1 hb with rfl
      omega
  · obtain ⟨m, rfl⟩ : ∃ m, n = m + 1 := ⟨n - 1, by omega⟩
    have hd := ds256_byte (m + 1) x
    rw [ds_cons] at hb hd
    rw [List.set_cons_zero] at hb
    have h0 := hd _ List.mem_cons_self
    rcases List.mem_cons.1 hb with rfl | hb
    · have e : (g256 (it (· / 256) m x) :: ds g256 (· / 256) m x).getD 0 0 = g256 (it (· / 256) m x) := rfl
      rw [e, or128 _ h0.1 h0.2]
      omega
    · exact hd b (List.mem_cons_of_mem _ hb)
theorem take_put (n : Nat) (x : Int) (hn : 0 < n) (hx0 : -9223372036854775808 ≤ x) (hx1 : x ≤ 9223372036854775807) (hf : fit n x = true) : takeA (putB n x) = (none, x) := by
  cases h : nar n x with
  | true => exact take_nar n x hn hx1 h
  | false => exact take_wide n x hx0 hx1 hf h
theorem fit_short (n x : Int) (h0 : 1 ≤ n) (h : fit n x = false) : n < 9 := by
  unfold fit at h
  by_cases h9 : 9 ≤ n
  · rw [decide_eq_true h9, Bool.or_true, if_pos rfl] at h
    have := of_decide_eq_false h
    omega
  · omega
theorem fit_more (n x : Int) (h0 : 1 ≤ n) (h : fit n x = true) : fit (n + 1) x = true := by
  by_cases h8 : 8 ≤ n
  · unfold fit
    rw [decide_eq_true (by omega : 9 ≤ n + 1), Bool.or_true, if_pos rfl]
    exact decide_eq_true (by omega)
  · unfold fit at h
    rw [decide_eq_false (by omega : ¬ 9 ≤ n), Bool.or_false] at h
    obtain ⟨m, rfl⟩ : ∃ m : Nat, n = m + 1 := ⟨(n - 1).toNat, by omega⟩
    cases hb : nar ((m : Int) + 1) x with
    | true =>
      obtain ⟨h1, h2, h3⟩ := of_decide_eq_true hb
      have hn : nar ((m : Int) + 1 + 1) x = true := by
        refine decide_eq_true ⟨by omega, h2, .inr ?_⟩
        have h3 := h3.resolve_left (by omega)
        have e1 : (3 * ((m : Int) + 1 - 1)).toNat = 3 * m := by omega
        have e2 : (3 * ((m : Int) + 1 + 1 - 1)).toNat = 3 * m + 3 := by omega
        rw [e1] at h3
        rw [e2, Int.pow_add, ← Int.ediv_ediv_of_nonneg (Int.le_of_lt (Int.pow_pos (by decide))), h3]
        rfl
      unfold fit
      rw [hn, Bool.true_or, if_pos rfl]
      exact decide_eq_true (by omega)
    | false =>
      rw [hb, if_neg (by simp)] at h
      by_cases h2 : (m : Int) + 1 < 2
      · rw [if_pos h2] at h
        cases h
      · rw [if_neg h2] at h
        have hq := of_decide_eq_true h
        have e1 : (8 * ((m : Int) + 1) - 2).toNat = 8 * m + 6 := by omega
        have e2 : (8 * ((m : Int) + 1 + 1) - 2).toNat = 8 * m + 6 + 8 := by omega
        rw [e1] at hq
        have hd : x / 2 ^ (8 * ((m : Int) + 1 + 1) - 2).toNat = 0 ∨ x / 2 ^ (8 * ((m : Int) + 1 + 1) - 2).toNat = -1 := by
          rw [e2, Int.pow_add, ← Int.ediv_ediv_of_nonneg (Int.le_of_lt (Int.pow_pos (by decide)))]
          have e8 : (2 : Int) ^ 8 = 256 := rfl
          rw [e8]
          omega
        unfold fit
        rw [decide_eq_false (by omega : ¬ 9 ≤ (m : Int) + 1 + 1), Bool.or_false]
        split
        · exact decide_eq_true (by omega)
        · rw [if_neg (by omega)]
          exact decide_eq_true hd
end Go.Proofs.YtoonagjhfbmniaaDoor.Oct
