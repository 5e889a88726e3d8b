/- Right texts, plainly: a text is right where it is cut into right signs. No program in sight. -/
import Derived.Test.YtojhbioljpamhaaDoorMySignP
namespace Go.Proofs.YtojhbioljpamhaaDoor.My
open Go.Lib
set_option linter.unusedVariables false
set_option linter.unusedSimpArgs false

/-- The sign with which bytes begin. -/
def sgn (l : List UInt8) : Nat × Nat := decodeN l.length (l.getD 0 0).toNat (l.getD 1 0).toNat (l.getD 2 0).toNat (l.getD 3 0).toNat
def good (l : List UInt8) : Prop := ¬ ((sgn l).1 = 65533 ∧ (sgn l).2 = 1)
theorem sgn_at (s : ByteArray) (i : Nat) : Utf8.decode s i = sgn (s.data.toList.drop i) := by
  have hl : (s.data.toList.drop i).length = s.size - i := by rw [List.length_drop, Array.length_toList]; rfl
  rw [decode_at, sgn, hl]
  simp only [get_list, List.getD_eq_getElem?_getD, List.getElem?_drop, Nat.add_zero]
inductive V : List UInt8 → Prop
  | nil : V []
  | cons (l : List UInt8) (hne : l ≠ []) (hg : good l) (h : V (l.drop (sgn l).2)) : V l

theorem V_inv {l : List UInt8} (h : V l) (hne : l ≠ []) : good l ∧ V (l.drop (sgn l).2) := by
  cases h with
  | nil => exact absurd rfl hne
  | cons _ _ hg h2 => exact ⟨hg, h2⟩
theorem u8lt (x : UInt8) : x.toNat < 256 := UInt8.toNat_lt x
/-- A right sign's bytes are there, and none but them is looked at. -/
theorem decodeN_more (n m b0 b1 b2 b3 c1 c2 c3 : Nat) (hn : 1 ≤ n) (h : ¬ ((decodeN n b0 b1 b2 b3).1 = 65533 ∧ (decodeN n b0 b1 b2 b3).2 = 1)) (hw : (decodeN n b0 b1 b2 b3).2 ≤ m)
    (e1 : 1 < (decodeN n b0 b1 b2 b3).2 → c1 = b1) (e2 : 2 < (decodeN n b0 b1 b2 b3).2 → c2 = b2) (e3 : 3 < (decodeN n b0 b1 b2 b3).2 → c3 = b3) : decodeN m b0 c1 c2 c3 = decodeN n b0 b1 b2 b3 := by
  unfold decodeN at h hw e1 e2 e3 ⊢
  by_cases a0 : b0 < 128
  · rw [if_pos a0, if_pos a0]
  · rw [if_neg a0] at h hw e1 e2 e3 ⊢
    rw [if_neg a0]
    by_cases a1 : b0 / 32 = 6 ∧ (1 < n ∧ b1 / 64 = 2)
    · rw [if_pos a1] at h hw e1 e2 e3 ⊢
      by_cases g : b0 % 32 * 64 + b1 % 64 ≥ 128
      · rw [if_pos g] at h hw e1 e2 e3 ⊢
        obtain rfl := e1 (by simp)
        rw [if_pos ⟨a1.1, by simp at hw; omega, a1.2.2⟩, if_pos g]
      · rw [if_neg g] at h; exact absurd ⟨rfl, rfl⟩ h
    · rw [if_neg a1] at h hw e1 e2 e3 ⊢
      by_cases a2 : b0 / 16 = 14 ∧ (1 < n ∧ b1 / 64 = 2) ∧ (2 < n ∧ b2 / 64 = 2)
      · rw [if_pos a2] at h hw e1 e2 e3 ⊢
        by_cases g : b0 % 16 * 4096 + b1 % 64 * 64 + b2 % 64 ≥ 2048 ∧ (b0 % 16 * 4096 + b1 % 64 * 64 + b2 % 64 < 55296 ∨ (57344 ≤ b0 % 16 * 4096 + b1 % 64 * 64 + b2 % 64 ∧ b0 % 16 * 4096 + b1 % 64 * 64 + b2 % 64 ≤ 1114111))
        · rw [if_pos g] at h hw e1 e2 e3 ⊢
          obtain rfl := e1 (by simp)
          obtain rfl := e2 (by simp)
          rw [if_neg (by omega), if_pos ⟨a2.1, ⟨by simp at hw; omega, a2.2.1.2⟩, by simp at hw; omega, a2.2.2.2⟩, if_pos g]
        · rw [if_neg g] at h; exact absurd ⟨rfl, rfl⟩ h
      · rw [if_neg a2] at h hw e1 e2 e3 ⊢
        by_cases a3 : b0 / 8 = 30 ∧ (1 < n ∧ b1 / 64 = 2) ∧ (2 < n ∧ b2 / 64 = 2) ∧ (3 < n ∧ b3 / 64 = 2)
        · rw [if_pos a3] at h hw e1 e2 e3 ⊢
          by_cases g : b0 % 8 * 262144 + b1 % 64 * 4096 + b2 % 64 * 64 + b3 % 64 ≥ 65536 ∧ (b0 % 8 * 262144 + b1 % 64 * 4096 + b2 % 64 * 64 + b3 % 64 < 55296 ∨ (57344 ≤ b0 % 8 * 262144 + b1 % 64 * 4096 + b2 % 64 * 64 + b3 % 64 ∧ b0 % 8 * 262144 + b1 % 64 * 4096 + b2 % 64 * 64 + b3 % 64 ≤ 1114111))
          · rw [if_pos g] at h hw e1 e2 e3 ⊢
            obtain rfl := e1 (by simp)
            obtain rfl := e2 (by simp)
            obtain rfl := e3 (by simp)
            rw [if_neg (by omega), if_neg (by omega), if_pos ⟨a3.1, ⟨by simp at hw; omega, a3.2.1.2⟩, ⟨by simp at hw; omega, a3.2.2.1.2⟩, by simp at hw; omega, a3.2.2.2.2⟩, if_pos g]
          · rw [if_neg g] at h; exact absurd ⟨rfl, rfl⟩ h
        · rw [if_neg a3] at h; exact absurd ⟨rfl, rfl⟩ h
/-- The bytes behind a sign's first are from 128 on. -/
theorem decodeN_cont (n b0 b1 b2 b3 : Nat) (h : ¬ ((decodeN n b0 b1 b2 b3).1 = 65533 ∧ (decodeN n b0 b1 b2 b3).2 = 1)) :
    (decodeN n b0 b1 b2 b3).2 ≤ max n 1 ∧ 1 ≤ (decodeN n b0 b1 b2 b3).2 ∧ (decodeN n b0 b1 b2 b3).2 ≤ 4 ∧ (1 < (decodeN n b0 b1 b2 b3).2 → 128 ≤ b1) ∧ (2 < (decodeN n b0 b1 b2 b3).2 → 128 ≤ b2) ∧ (3 < (decodeN n b0 b1 b2 b3).2 → 128 ≤ b3) := by
  unfold decodeN at h ⊢
  repeat' split
  all_goals (simp only [Nat.max_def]; first | (refine ⟨?_, ?_, ?_, ?_, ?_, ?_⟩ <;> (try split) <;> omega) | skip)
theorem sgn_good {l : List UInt8} (hne : l ≠ []) (h : good l) : 1 ≤ (sgn l).2 ∧ (sgn l).2 ≤ l.length ∧ (sgn l).2 ≤ 4 := by
  obtain ⟨h1, h2, h3, _⟩ := decodeN_cont _ _ _ _ _ h
  have : 1 ≤ l.length := by cases l with | nil => exact absurd rfl hne | cons _ _ => simp
  rw [show max l.length 1 = l.length by rw [Nat.max_def]; split <;> omega] at h1
  exact ⟨h2, h1, h3⟩
theorem getD_app (a b : List UInt8) (i : Nat) (h : i < a.length) : (a ++ b).getD i 0 = a.getD i 0 := by
  simp [List.getD_eq_getElem?_getD, List.getElem?_append_left h]
theorem sgn_app {a : List UInt8} (b : List UInt8) (hne : a ≠ []) (h : good a) : sgn (a ++ b) = sgn a := by
  have hw := sgn_good hne h
  have hl : 1 ≤ a.length := by omega
  unfold sgn
  rw [getD_app a b 0 (by omega)]
  unfold sgn at hw
  exact decodeN_more _ _ _ _ _ _ _ _ _ hl h (by rw [List.length_append]; omega) (fun k => by rw [getD_app a b 1 (by omega)]) (fun k => by rw [getD_app a b 2 (by omega)]) (fun k => by rw [getD_app a b 3 (by omega)])
theorem sgn_cut {a b : List UInt8} (hne : a ≠ []) (h : good (a ++ b)) (hw : (sgn (a ++ b)).2 ≤ a.length) : sgn a = sgn (a ++ b) := by
  have hl : 1 ≤ a.length := by cases a with | nil => exact absurd rfl hne | cons _ _ => simp
  unfold sgn at hw ⊢
  rw [getD_app a b 0 (by omega)] at hw ⊢
  have h' := h
  unfold good sgn at h'
  rw [getD_app a b 0 (by omega)] at h'
  exact decodeN_more _ _ _ _ _ _ _ _ _ (by rw [List.length_append]; omega) h' hw (fun k => by rw [getD_app a b 1 (by omega)]) (fun k => by rw [getD_app a b 2 (by omega)]) (fun k => by rw [getD_app a b 3 (by omega)])
theorem V_app {a b : List UInt8} (ha : V a) (hb : V b) : V (a ++ b) := by
  induction ha with
  | nil => exact hb
  | cons l hne hg h ih =>
    have hw := sgn_good hne hg
    have e := sgn_app b hne hg
    refine V.cons _ (by simp [hne]) (by unfold good; rw [e]; exact hg) ?_
    rw [e, List.drop_append_of_le_length hw.2.1]
    exact ih
theorem sgn_ascii {c : UInt8} (l : List UInt8) (h : c.toNat < 128) : sgn (c :: l) = (c.toNat, 1) := by
  unfold sgn decodeN
  rw [if_pos (by simpa using h)]
  rfl
theorem good_ascii {c : UInt8} (l : List UInt8) (h : c.toNat < 128) : good (c :: l) := by
  unfold good; rw [sgn_ascii l h]; simp only; omega
theorem V_ascii {c : UInt8} {l : List UInt8} (h : c.toNat < 128) (hv : V l) : V (c :: l) :=
  V.cons _ (by simp) (good_ascii l h) (by rw [sgn_ascii l h]; exact hv)
theorem V_ascii_tail {c : UInt8} {l : List UInt8} (h : c.toNat < 128) (hv : V (c :: l)) : V l := by
  cases hv with
  | cons _ hne hg h2 => rw [sgn_ascii l h] at h2; exact h2
/-- A text that is right is right on both sides of a byte below 128. -/
theorem V_cut (c : UInt8) (hc : c.toNat < 128) (b : List UInt8) : ∀ (n : Nat) (a : List UInt8), a.length ≤ n → V (a ++ c :: b) → V a ∧ V b := by
  intro n
  induction n with
  | zero =>
    intro a ha hv
    have : a = [] := List.eq_nil_of_length_eq_zero (by omega)
    subst this
    exact ⟨V.nil, V_ascii_tail hc hv⟩
  | succ n ih =>
    intro a ha hv
    by_cases h0 : a = []
    · subst h0
      exact ⟨V.nil, V_ascii_tail hc hv⟩
    · have hne : a ++ c :: b ≠ [] := by simp
      obtain ⟨hg, h2⟩ := V_inv hv hne
      obtain ⟨h3, h4, h5⟩ := sgn_good hne hg
      have hal : 1 ≤ a.length := by cases a with | nil => exact absurd rfl h0 | cons _ _ => simp
      by_cases hw : (sgn (a ++ c :: b)).2 ≤ a.length
      · have e := sgn_cut h0 hg hw
        rw [List.drop_append_of_le_length hw] at h2
        obtain ⟨v1, v2⟩ := ih _ (by rw [List.length_drop]; omega) h2
        refine ⟨V.cons _ h0 (by unfold good; rw [e]; exact hg) (by rw [e]; exact v1), v2⟩
      · exfalso
        obtain ⟨_, _, _, k1, k2, k3⟩ := decodeN_cont _ _ _ _ _ hg
        have hget : (a ++ c :: b).getD a.length 0 = c := by simp [List.getD_eq_getElem?_getD]
        have hcase : a.length = 1 ∨ a.length = 2 ∨ a.length = 3 := by omega
        unfold sgn at hw
        rcases hcase with e | e | e
        · rw [e] at hget hw
          rw [hget] at k1
          have := k1 (by rw [hget] at hw; omega)
          omega
        · rw [e] at hget hw
          rw [hget] at k2
          have := k2 (by rw [hget] at hw; omega)
          omega
        · rw [e] at hget hw
          rw [hget] at k3
          have := k3 (by rw [hget] at hw; omega)
          omega
/-- badU, and V. -/
theorem badF_V (s : ByteArray) : ∀ (f i : Nat), s.size - i ≤ f → (badF s f i < 0 ↔ V (s.data.toList.drop i))
  | f, i, hf => by
    have hl : s.data.toList.length = s.size := by rw [Array.length_toList]; rfl
    by_cases hp : i < s.size
    · obtain ⟨f, rfl⟩ : ∃ e, f = e + 1 := ⟨f - 1, by omega⟩
      have hne : s.data.toList.drop i ≠ [] := by
        intro e
        have := congrArg List.length e
        rw [List.length_drop, List.length_nil] at this
        omega
      have hs := sgn_at s i
      by_cases hb : (Utf8.decode s i).1 = 65533 ∧ (Utf8.decode s i).2 = 1
      · rw [badF_hit s f i hp hb.1 hb.2]
        constructor
        · intro h; omega
        · intro h
          obtain ⟨hg, _⟩ := V_inv h hne
          exact absurd (by rw [← hs]; exact hb) hg
      · have hw := width_pos s i hp
        rw [badF_on s f i hp hb, badF_V s f (i + (Utf8.decode s i).2) (by omega)]
        constructor
        · intro h
          refine V.cons _ hne (by unfold good; rw [← hs]; exact hb) ?_
          rw [← hs, List.drop_drop]
          exact h
        · intro h
          obtain ⟨hg, h2⟩ := V_inv h hne
          rw [← hs, List.drop_drop] at h2
          exact h2
    · rw [badF_end s f i hp, List.drop_eq_nil_of_le (by omega)]
      exact ⟨fun _ => V.nil, fun _ => by omega⟩
theorem badU_V (s : ByteArray) : badU s < 0 ↔ V s.data.toList := by
  have := badF_V s s.size 0 (by omega)
  simpa [badU] using this
end Go.Proofs.YtojhbioljpamhaaDoor.My
