/- The print's Sign and Bad of the document, as numbers. -/
import Derived.Test.YtojhbioljpamhaaDoorMySignP
import Derived.Test.YtojhbioljpamhaaDoorMyDocSign
import Derived.Test.YtojhbioljpamhaaDoorMyDocClean
namespace Go.Proofs.YtojhbioljpamhaaDoor.My
open Go.RowKit Go.Lib Go.Proofs.YtojhbioljpamhaaDoorW.PrintWords Go.Proofs.YtojhbioljpamhaaDoor.MyDocSign Go.Proofs.YtojhbioljpamhaaDoor.MyDocClean
set_option linter.unusedVariables false
set_option linter.unusedSimpArgs false

theorem w64 (x : Int) (h0 : -9223372036854775808 ≤ x) (h1 : x ≤ 9223372036854775807) : wrap64 x = x := IntWalk.wrap64_in _ ⟨h0, h1⟩
theorem bt_gb (s : ByteArray) (i : Nat) (h : i < s.size) : bt s (i : Int) = gb s i := by
  unfold gb
  rw [get_list]
  simp only [bt, Int.toNat_natCast, h, dite_true]
  have h1 : i < s.data.toList.length := by rw [Array.length_toList]; exact h
  rw [List.getD_eq_getElem?_getD, List.getElem?_eq_getElem h1]
  rfl
theorem gb_range (s : ByteArray) (i : Nat) : 0 ≤ gb s i ∧ gb s i < 256 := by
  have := UInt8.toNat_lt (s.get! i)
  unfold gb; omega

section
variable {s : ByteArray} {m x least : Int}
theorem l1_step (k : Nat) (i lo hi kk : Int) (h : kk < m) (h0 : 0 ≤ lo) (h1 : lo ≤ 1000000000) (h2 : 0 ≤ hi) (h3 : hi ≤ 1000000000) (h4 : 0 ≤ kk) (h5 : m ≤ 4) :
    crossdockref11_Sign.l1 (k + 1) s m x least i lo hi kk = crossdockref11_Sign.l1 k s m x least i (lo * 64) (hi * 64 + 63) (kk + 1) := by
  rw [crossdockref11_Sign.l1, if_pos h, w64 (lo * 64) (by omega) (by omega), w64 (hi * 64) (by omega) (by omega), w64 (hi * 64 + 63) (by omega) (by omega), w64 (kk + 1) (by omega) (by omega)]
theorem l1_end (k : Nat) (i lo hi : Int) : crossdockref11_Sign.l1 (k + 1) s m x least i lo hi m = crossdockref11_Sign.j5 k s m x least i (chk lo hi least) := by
  rw [crossdockref11_Sign.l1, if_neg (by omega)]
  unfold chk
  by_cases h1 : hi < least
  · rw [if_pos h1, decide_eq_true (.inl h1)]
  · rw [if_neg h1]
    by_cases h2 : lo > 1114111
    · rw [if_pos h2, decide_eq_true (.inr (.inl h2))]
    · rw [if_neg h2]
      by_cases h3 : lo ≥ 55296
      · rw [if_pos h3]
        congr 1
        rw [decide_eq_decide]
        omega
      · rw [if_neg h3, decide_eq_false (by omega)]
theorem l0_end (k : Nat) (i : Int) (h : ¬ i < m) : crossdockref11_Sign.l0 (k + 1) s m x least i = some (if chk x x least = true then (0, 0) else (x, m)) := by
  rw [crossdockref11_Sign.l0, if_neg h]
  unfold chk
  by_cases h1 : x < least
  · rw [if_pos h1, if_pos (by simp; omega)]
  · rw [if_neg h1]
    by_cases h2 : x > 1114111
    · rw [if_pos h2, if_pos (by simp; omega)]
    · rw [if_neg h2]
      by_cases h3 : x ≥ 55296
      · rw [if_pos h3]
        by_cases h4 : x ≤ 57343
        · rw [if_pos h4, if_pos (by simp; omega)]
        · rw [if_neg h4, if_neg (by simp; omega)]
      · rw [if_neg h3, if_neg (by simp; omega)]
end
def fuelS : Nat → Nat
  | 0 => 1
  | d + 1 => fuelS d + d + 4
/-- What the loop over the bytes answers: d more are wanted. -/
theorem sgR_run (s : ByteArray) (m least : Int) (hm : m ≤ 4) : ∀ (d k i : Nat) (x : Int), (i : Int) + d = m → d ≤ 3 → 1 ≤ i → 0 ≤ x → x < 8 * 64 ^ (3 - d) → crossdockref11_Sign.l0 (k + fuelS d) s m x least (i : Int) = some (sgR (s.size : Int) (gb s) m least d x (i : Int))
  | 0, k, i, x, hi, hd, h1, hx0, hx1 => by
    rw [show k + fuelS 0 = k + 1 from rfl, l0_end _ _ (by omega)]
    rfl
  | d + 1, k, i, x, hi, hd, h1, hx0, hx1 => by
    have key : crossdockref11_Sign.l1 (k + fuelS d + d + 3) s m x least (i : Int) x x (i : Int) = crossdockref11_Sign.j5 (k + fuelS d + 1) s m x least (i : Int) (chk (x * 64 ^ (d + 1)) (x * 64 ^ (d + 1) + (64 ^ (d + 1) - 1)) least) := by
      generalize k + fuelS d = q
      match d, hd with
      | 0, _ =>
        have e : (i : Int) + 1 = m := by omega
        have hx3 : x < 32768 := by simpa using hx1
        rw [show q + 0 + 3 = q + 1 + 1 + 1 by omega, l1_step _ _ _ _ _ (by omega) (by omega) (by omega) (by omega) (by omega) (by omega) hm, e, l1_end]
        rw [show x * 64 = x * 64 ^ (0 + 1) by omega, show x * 64 ^ (0 + 1) + 63 = x * 64 ^ (0 + 1) + (64 ^ (0 + 1) - 1) by omega]
      | 1, _ =>
        have e : (i : Int) + 1 + 1 = m := by omega
        have hx3 : x < 512 := by simpa using hx1
        rw [show q + 1 + 3 = q + 1 + 1 + 1 + 1 by omega, l1_step _ _ _ _ _ (by omega) (by omega) (by omega) (by omega) (by omega) (by omega) hm, l1_step _ _ _ _ _ (by omega) (by omega) (by omega) (by omega) (by omega) (by omega) hm, e, l1_end]
        rw [show x * 64 * 64 = x * 64 ^ (1 + 1) by omega, show (x * 64 + 63) * 64 + 63 = x * 64 ^ (1 + 1) + (64 ^ (1 + 1) - 1) by omega]
      | 2, _ =>
        have e : (i : Int) + 1 + 1 + 1 = m := by omega
        have hx3 : x < 8 := by simpa using hx1
        rw [show q + 2 + 3 = q + 1 + 1 + 1 + 1 + 1 by omega, l1_step _ _ _ _ _ (by omega) (by omega) (by omega) (by omega) (by omega) (by omega) hm, l1_step _ _ _ _ _ (by omega) (by omega) (by omega) (by omega) (by omega) (by omega) hm, l1_step _ _ _ _ _ (by omega) (by omega) (by omega) (by omega) (by omega) (by omega) hm, e, l1_end]
        rw [show x * 64 * 64 * 64 = x * 64 ^ (2 + 1) by omega, show ((x * 64 + 63) * 64 + 63) * 64 + 63 = x * 64 ^ (2 + 1) + (64 ^ (2 + 1) - 1) by omega]
    have hx2 : x < 100000 := by
      match d, hd with
      | 0, _ => simp at hx1; omega
      | 1, _ => simp at hx1; omega
      | 2, _ => simp at hx1; omega
    rw [show k + fuelS (d + 1) = k + fuelS d + d + 3 + 1 by show k + (fuelS d + d + 4) = _; omega, crossdockref11_Sign.l0, if_pos (by omega), key, sgR, crossdockref11_Sign.j5]
    by_cases c1 : chk (x * 64 ^ (d + 1)) (x * 64 ^ (d + 1) + (64 ^ (d + 1) - 1)) least = true
    · rw [if_pos c1, if_pos c1]
    · rw [if_neg c1, if_neg c1]
      by_cases c2 : (i : Int) ≥ (s.size : Int)
      · rw [if_pos c2, if_pos (show (s.size : Int) ≤ (i : Int) by omega)]
      · rw [if_neg c2, if_neg (show ¬ (s.size : Int) ≤ (i : Int) by omega), if_pos (show (0 : Int) ≤ (i : Int) by omega), if_pos (show (i : Int) < (s.size : Int) by omega), bt_gb s i (by omega), Int.toNat_natCast]
        obtain ⟨g0, g1⟩ := gb_range s i
        by_cases c3 : gb s i < 128
        · rw [if_pos c3, if_pos (.inl c3)]
        · rw [if_neg c3]
          by_cases c4 : gb s i ≥ 192
          · rw [if_pos c4, if_pos (.inr c4)]
          · rw [if_neg c4, if_neg (show ¬ (gb s i < 128 ∨ 192 ≤ gb s i) by omega), w64 (gb s i) (by omega) (by omega), w64 (x * 64) (by omega) (by omega), w64 (x * 64 + gb s i) (by omega) (by omega), w64 (x * 64 + gb s i - 128) (by omega) (by omega), w64 ((i : Int) + 1) (by omega) (by omega)]
            have ih := sgR_run s m least hm d k (i + 1) (x * 64 + gb s i - 128) (by omega) (by omega) (by omega) (by omega) (by
              match d, hd with
              | 0, _ => simp at hx1 ⊢; omega
              | 1, _ => simp at hx1 ⊢; omega
              | 2, _ => simp at hx1 ⊢; omega)
            exact ih
theorem sign_f (s : ByteArray) (k : Nat) : crossdockref11_Sign.f (k + 20) s = some (signP s 0) := by
  unfold crossdockref11_Sign.f signP signN
  simp only [Nat.sub_zero, Nat.zero_add]
  by_cases h0 : s.size = 0
  · rw [if_pos (show (s.size : Int) = 0 by omega), if_pos (show (s.size : Int) = 0 by omega)]
  · obtain ⟨g0, g1⟩ := gb_range s 0
    have hb : bt s 0 = gb s 0 := bt_gb s 0 (by omega)
    rw [if_neg (show ¬ (s.size : Int) = 0 by omega), if_neg (show ¬ (s.size : Int) = 0 by omega), if_pos (show 0 < (s.size : Int) by omega), hb, w64 (gb s 0) (by omega) (by omega)]
    by_cases c1 : gb s 0 < 128
    · rw [if_pos c1, if_pos c1]
    · rw [if_neg c1, if_neg c1]
      by_cases c2 : gb s 0 ≥ 192
      · rw [if_pos c2, show k + 20 = (k + 19) + 1 from rfl, crossdockref11_Sign.j0]
        by_cases c3 : gb s 0 < 224
        · rw [if_pos (by simp [c3]), if_pos ⟨c2, c3⟩, w64 (gb s 0 - 192) (by omega) (by omega), show k + 19 = (k + 18) + 1 from rfl, crossdockref11_Sign.j2]
          have := sgR_run s 2 128 (by omega) 1 (k + 13) 1 (gb s 0 - 192) (by omega) (by omega) (by omega) (by omega) (by simp; omega)
          rw [show k + 18 = k + 13 + fuelS 1 from rfl]
          exact this
        · rw [if_neg (show ¬ (192 ≤ gb s 0 ∧ gb s 0 < 224) by omega), if_neg (show ¬ decide (gb s 0 < 224) = true by simp; omega), if_pos (show gb s 0 ≥ 224 by omega), show k + 19 = (k + 18) + 1 from rfl, crossdockref11_Sign.j1]
          by_cases c4 : gb s 0 < 240
          · rw [if_pos (show 224 ≤ gb s 0 ∧ gb s 0 < 240 by omega), if_pos (show decide (gb s 0 < 240) = true by simp [c4]), w64 (gb s 0 - 224) (by omega) (by omega), show k + 18 = (k + 17) + 1 from rfl, crossdockref11_Sign.j2]
            have := sgR_run s 3 2048 (by omega) 2 (k + 7) 1 (gb s 0 - 224) (by omega) (by omega) (by omega) (by omega) (by simp; omega)
            rw [show k + 17 = k + 7 + fuelS 2 from rfl]
            exact this
          · rw [if_neg (show ¬ (224 ≤ gb s 0 ∧ gb s 0 < 240) by omega), if_neg (show ¬ decide (gb s 0 < 240) = true by simp; omega), if_pos (show gb s 0 ≥ 240 by omega)]
            by_cases c5 : gb s 0 < 248
            · rw [if_pos (show 240 ≤ gb s 0 ∧ gb s 0 < 248 by omega), if_pos c5, w64 (gb s 0 - 240) (by omega) (by omega), show k + 18 = (k + 17) + 1 from rfl, crossdockref11_Sign.j2]
              have := sgR_run s 4 65536 (by omega) 3 (k + 1) 1 (gb s 0 - 240) (by omega) (by omega) (by omega) (by omega) (by simp; omega)
              rw [show k + 17 = k + 1 + fuelS 3 from rfl]
              exact this
            · rw [if_neg (show ¬ (240 ≤ gb s 0 ∧ gb s 0 < 248) by omega), if_neg c5]
      · rw [if_neg (show ¬ (192 ≤ gb s 0 ∧ gb s 0 < 224) by omega), if_neg (show ¬ (224 ≤ gb s 0 ∧ gb s 0 < 240) by omega), if_neg (show ¬ (240 ≤ gb s 0 ∧ gb s 0 < 248) by omega), if_neg c2, show k + 20 = (k + 19) + 1 from rfl, crossdockref11_Sign.j0, if_neg (by simp), if_neg (show ¬ gb s 0 ≥ 224 by omega), show k + 19 = (k + 18) + 1 from rfl, crossdockref11_Sign.j1, if_neg (by simp), if_neg (show ¬ gb s 0 ≥ 240 by omega)]
theorem signP_extract (s : ByteArray) (i : Nat) : signP (s.extract i s.size) 0 = signP s i := by
  unfold signP
  have hz : (s.extract i s.size).size - 0 = s.size - i := by rw [ByteArray.size_extract]; omega
  rw [hz]
  congr 1
  funext k
  unfold gb
  rw [get_extract, Nat.zero_add]

/-! ### the document's Bad -/
theorem decode_width (s : ByteArray) (i : Nat) : (Utf8.decode s i).2 ≤ 4 := by
  rw [decode_at]
  unfold decodeN
  repeat' split
  all_goals simp
theorem bad_run (s : ByteArray) (hs : s.size < 1000000000) : ∀ (d i k : Nat), s.size - i ≤ d → i ≤ s.size + 4 → crossdockref11_Bad.l0 (k + d + 22) s (i : Int) = some (badF s (d + 1) i)
  | d, i, k, hd, hi => by
    rw [show k + d + 22 = (k + d + 21) + 1 from rfl, crossdockref11_Bad.l0]
    by_cases hp : i < s.size
    · obtain ⟨d, rfl⟩ : ∃ e, d = e + 1 := ⟨d - 1, by omega⟩
      rw [if_pos (by omega), if_pos (by omega), if_pos (by omega), Int.toNat_natCast, show k + (d + 1) + 21 = (k + d + 2) + 20 by omega, sign_f, signP_extract, Option.bind_some]
      obtain ⟨a1, a2⟩ := agree_at s i hp
      have hw := width_pos s i hp
      have hw4 := decode_width s i
      by_cases hb : (Utf8.decode s i).1 = 65533 ∧ (Utf8.decode s i).2 = 1
      · obtain ⟨_, h2⟩ := a1 hb
        rw [if_pos (by omega), badF_hit s _ i hp hb.1 hb.2]
      · have h2 := a2 hb
        rw [h2, if_neg (by simp only; omega), badF_on s _ i hp hb]
        simp only
        rw [w64 _ (by omega) (by omega), show (i : Int) + ((Utf8.decode s i).2 : Int) = ((i + (Utf8.decode s i).2 : Nat) : Int) by omega]
        exact bad_run s hs d (i + (Utf8.decode s i).2) k (by omega) (by omega)
    · rw [if_neg (by omega), badF_end s _ i hp]
theorem badF_more (s : ByteArray) : ∀ (f i : Nat), s.size - i ≤ f → ∀ g, f ≤ g → badF s g i = badF s f i
  | 0, i, h, g, _ => by rw [badF_end s g i (by omega), badF_end s 0 i (by omega)]
  | f + 1, i, h, g, hg => by
    obtain ⟨g, rfl⟩ : ∃ e, g = e + 1 := ⟨g - 1, by omega⟩
    by_cases hp : i < s.size
    · have hw := width_pos s i hp
      by_cases hb : (Utf8.decode s i).1 = 65533 ∧ (Utf8.decode s i).2 = 1
      · rw [badF_hit s _ i hp hb.1 hb.2, badF_hit s _ i hp hb.1 hb.2]
      · rw [badF_on s _ i hp hb, badF_on s _ i hp hb]
        exact badF_more s f _ (by omega) g (by omega)
    · rw [badF_end s _ i hp, badF_end s _ i hp]
theorem refBad_f (s : ByteArray) (hs : s.size < 1000000000) : crossdockref11_Bad.f (s.size + 22) s = some (badU s) := by
  have := bad_run s hs s.size 0 0 (by omega) (by omega)
  rw [badF_more s s.size 0 (by omega) (s.size + 1) (by omega)] at this
  simpa [crossdockref11_Bad.f, badU] using this
end Go.Proofs.YtojhbioljpamhaaDoor.My
