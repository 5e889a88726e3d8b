/- The document's Text, Of, Put of layer 6, as numbers: plain. -/
import Derived.Test.YtjlophlheoikgaaPOfx1
import Derived.Test.YtjlophlheoikgaaPTextx1
import Derived.Test.YtjlophlheoikgaaMyRevP
namespace Go.Proofs.Ytjlophlheoikgaa.My
open Go.RowKit Go.Proofs.YtjlophlheoikgaaW.PrintWords Go.Proofs.YtjlophlheoikgaaW.PrintLast Go.Proofs.YtjlophlheoikgaaW.PrintMore Go.Proofs.Ytjlophlheoikgaa.POf Go.Proofs.Ytjlophlheoikgaa.PText

/-- The bits of a number, the lowest one first. -/
def btL (V N : Nat) : List Int := (List.range N).map fun i => ((V / 2 ^ i % 2 : Nat) : Int)
@[simp] theorem btL_len (V N : Nat) : (btL V N).length = N := by simp [btL]
theorem btL_rd (V N i : Nat) (h : i < N) : rd (btL V N) (i : Int) = ((V / 2 ^ i % 2 : Nat) : Int) := by simp [rd, btL, List.getD_eq_getElem?_getD, h]
theorem leB_rd (V n i : Nat) (h : i < n) : rd (leB V n) (i : Int) = ((V / 2 ^ (8 * i) % 256 : Nat) : Int) := by unfold rd; rw [Int.toNat_natCast]; exact leB_getD V n i h
theorem or_nat8 (a b : Nat) (ha : a < 2 ^ 8) (hb : b < 2 ^ 8) : Go.bits .or .u8 a b = ((a ||| b : Nat) : Int) := by
  have hl : a ||| b < 2 ^ 8 := Nat.or_lt_two_pow ha hb
  show IntKind.u8.wrap ((BitVec.ofInt 8 (a : Int) ||| BitVec.ofInt 8 (b : Int)).toNat : Int) = _
  rw [BitVec.ofInt_natCast, BitVec.ofInt_natCast, BitVec.toNat_or, BitVec.toNat_ofNat, BitVec.toNat_ofNat, Nat.mod_eq_of_lt ha, Nat.mod_eq_of_lt hb, IntKind.wrap_u8]
  omega
theorem text_byte (V i : Nat) : V % 2 ^ i / 2 ^ (8 * (i / 8)) < 2 ^ (i % 8) := by
  have h := held_lt (V := V % 2 ^ i) (N := i) (Nat.mod_lt _ (Nat.two_pow_pos _)) (i / 8) (by omega)
  rwa [show i - 8 * (i / 8) = i % 8 by omega] at h
theorem mod_succ (V i : Nat) : V % 2 ^ (i + 1) = V % 2 ^ i + V / 2 ^ i % 2 * 2 ^ i := by
  rw [Nat.pow_succ, Nat.mod_mul, Nat.mul_comm (2 ^ i)]
theorem byte_add (a b i j : Nat) (h : 8 * j + 8 ≤ i) : (a + b * 2 ^ i) / 2 ^ (8 * j) % 256 = a / 2 ^ (8 * j) % 256 := by
  have e : 2 ^ i = 2 ^ (i - (8 * j + 8)) * 256 * 2 ^ (8 * j) := by
    rw [show (256 : Nat) = 2 ^ 8 from rfl, ← Nat.pow_add, ← Nat.pow_add]
    congr 1
    omega
  rw [e, ← Nat.mul_assoc, Nat.add_mul_div_right _ _ (Nat.two_pow_pos _), ← Nat.mul_assoc, Nat.add_mul_mod_self_right]
theorem text_set (V i n : Nat) (_ : i / 8 < n) : (leB (V % 2 ^ i) n).set (i / 8) ((V % 2 ^ i / 2 ^ (8 * (i / 8)) + V / 2 ^ i % 2 * 2 ^ (i % 8) : Nat) : Int) = leB (V % 2 ^ (i + 1)) n := by
  apply List.ext_getElem
  · simp
  · intro j h1 h2
    have hj : j < n := by simpa using h2
    have hb : V / 2 ^ i % 2 < 2 := Nat.mod_lt _ (by decide)
    rw [List.getElem_set]
    by_cases e : i / 8 = j
    · subst e
      rw [if_pos rfl]
      have e1 : (V % 2 ^ (i + 1)) / 2 ^ (8 * (i / 8)) = V % 2 ^ i / 2 ^ (8 * (i / 8)) + V / 2 ^ i % 2 * 2 ^ (i % 8) := by
        rw [mod_succ, held_add _ _ _ _ (by omega), show i - 8 * (i / 8) = i % 8 by omega]
      have h3 := val_lt (n := 1) (x := V / 2 ^ i % 2) (text_byte V i) (by omega)
      have h4 : (2 : Nat) ^ (i % 8 + 1) ≤ 2 ^ 8 := Nat.pow_le_pow_right (by decide) (by omega)
      simp only [leB, List.getElem_map, List.getElem_range]
      have h5 : V % 2 ^ i / 2 ^ (8 * (i / 8)) + V / 2 ^ i % 2 * 2 ^ (i % 8) < 256 := Nat.lt_of_lt_of_le h3 h4
      rw [e1, Nat.mod_eq_of_lt h5]
    · rw [if_neg e]
      simp only [leB, List.getElem_map, List.getElem_range]
      congr 1
      by_cases hlt : j < i / 8
      · rw [mod_succ, byte_add _ _ _ _ (by omega)]
      · have g1 : V % 2 ^ i < 2 ^ (8 * j) := Nat.lt_of_lt_of_le (Nat.mod_lt _ (Nat.two_pow_pos _)) (Nat.pow_le_pow_right (by decide) (by omega))
        have g2 : V % 2 ^ (i + 1) < 2 ^ (8 * j) := Nat.lt_of_lt_of_le (Nat.mod_lt _ (Nat.two_pow_pos _)) (Nat.pow_le_pow_right (by decide) (by omega))
        rw [Nat.div_eq_of_lt g1, Nat.div_eq_of_lt g2]
theorem text_end (V N n : Nat) (hV : V < 2 ^ N) (k : Nat) : crossdockref06_Text.l0 (k + 1) (btL V N) (leB (V % 2 ^ N) n) (N : Int) = some (leB V n) := by
  rw [crossdockref06_Text.l0, btL_len, if_neg (Int.lt_irrefl _), Nat.mod_eq_of_lt hV]
theorem tdiv8 (i : Nat) (h : i ≤ 1000000000000000) : wrap64 (Int.tdiv (i : Int) 8) = ((i / 8 : Nat) : Int) := by
  rw [Int.tdiv_eq_ediv_of_nonneg (by omega)]
  unfold wrap64
  omega
theorem tmod8 (i : Nat) : IntKind.u64.wrap (Int.tmod (i : Int) 8) = ((i % 8 : Nat) : Int) := by
  rw [Int.tmod_eq_emod_of_nonneg (by omega), IntKind.wrap_u64]
  omega
theorem next1 (i : Nat) (h : i ≤ 1000000000000000) : wrap64 ((i : Int) + 1) = ((i + 1 : Nat) : Int) := by unfold wrap64; omega
theorem bit_shl (b m : Nat) (hb : b < 2) (hm : m < 8) : shl .u8 (b : Int) (m : Int) = ((b * 2 ^ m : Nat) : Int) ∧ b * 2 ^ m < 2 ^ 8 := by
  have : ∀ b : Fin 2, ∀ m : Fin 8, shl .u8 (b.val : Int) (m.val : Int) = ((b.val * 2 ^ m.val : Nat) : Int) ∧ b.val * 2 ^ m.val < 2 ^ 8 := by decide +kernel
  exact this ⟨b, hb⟩ ⟨m, hm⟩
theorem text_step (V N n i k : Nat) (hi : i < N) (hN : N ≤ 1000000000000000) (c6 : i / 8 < n) : crossdockref06_Text.l0 (k + 1) (btL V N) (leB (V % 2 ^ i) n) (i : Int) = crossdockref06_Text.l0 k (btL V N) (leB (V % 2 ^ (i + 1)) n) ((i + 1 : Nat) : Int) := by
  have c1 : (i : Int) < (N : Int) := by omega
  have c2 : (0 : Int) ≤ ((i / 8 : Nat) : Int) := Int.natCast_nonneg _
  have c3 : ((i / 8 : Nat) : Int) < (n : Int) := by omega
  have c4 : (0 : Int) ≤ (i : Int) := Int.natCast_nonneg _
  have c5 : (0 : Int) ≤ ((i % 8 : Nat) : Int) := Int.natCast_nonneg _
  have hm8 : i % 8 < 8 := Nat.mod_lt _ (by decide)
  have hh := text_byte V i
  have hp : (2 : Nat) ^ (i % 8) ≤ 2 ^ 8 := Nat.pow_le_pow_right (by decide) (Nat.le_of_lt hm8)
  have c7 : V % 2 ^ i / 2 ^ (8 * (i / 8)) < 2 ^ 8 := Nat.lt_of_lt_of_le hh hp
  have hs := bit_shl (V / 2 ^ i % 2) (i % 8) (Nat.mod_lt _ (by decide)) hm8
  rw [crossdockref06_Text.l0, btL_len, if_pos c1, tdiv8 i (by omega), if_pos c2, leB_len, if_pos c3, if_pos c4, tmod8, if_pos c5, Int.toNat_natCast, leB_rd _ _ _ c6, btL_rd _ _ _ hi, hs.1, next1 i (by omega), Nat.mod_eq_of_lt (b := 256) c7, or_nat8 _ _ c7 hs.2, or_low _ _ _ hh, text_set _ _ _ c6]
theorem text_l0 (V N n : Nat) (hn : n = (N + 7) / 8) (hV : V < 2 ^ N) (hN : N ≤ 1000000000000000) : ∀ d i k, N = i + d → d < k → crossdockref06_Text.l0 k (btL V N) (leB (V % 2 ^ i) n) (i : Int) = some (leB V n) := by
  intro d
  induction d with
  | zero =>
    intro i k e hk
    obtain ⟨k, rfl⟩ : ∃ j, k = j + 1 := ⟨k - 1, by omega⟩
    obtain rfl : N = i := by omega
    exact text_end V N n hV k
  | succ d ih =>
    intro i k e hk
    obtain ⟨k, rfl⟩ : ∃ j, k = j + 1 := ⟨k - 1, by omega⟩
    rw [text_step V N n i k (by omega) hN (by omega)]
    exact ih (i + 1) k (by omega) (by omega)
theorem text_f (V N : Nat) (hV : V < 2 ^ N) (hN : N ≤ 1000000000000000) : crossdockref06_Text.f (N + 1) (btL V N) = some (leB V ((N + 7) / 8)) := by
  unfold crossdockref06_Text.f
  have e1 : wrap64 (Int.tdiv (wrap64 (((btL V N).length : Int) + 7)) 8) = (((N + 7) / 8 : Nat) : Int) := by
    rw [btL_len, show wrap64 ((N : Int) + 7) = (N : Int) + 7 by unfold wrap64; omega, Int.tdiv_eq_ediv_of_nonneg (by omega)]
    unfold wrap64
    omega
  have e2 : List.replicate ((N + 7) / 8) (0 : Int) = leB (V % 2 ^ 0) ((N + 7) / 8) := by
    rw [Nat.pow_zero, Nat.mod_one]
    unfold leB
    apply List.ext_getElem <;> simp
  rw [e1, if_pos (by omega), Int.toNat_natCast, if_pos (by omega), e2]
  exact text_l0 V N _ rfl hV hN N 0 (N + 1) (by omega) (by omega)

theorem btL_succ (V m : Nat) : btL V (m + 1) = btL V m ++ [((V / 2 ^ m % 2 : Nat) : Int)] := by simp [btL, List.range_succ]
theorem bit_of (y t : Nat) (hy : y < 256) (ht : t < 8) : Go.bits .and .u8 (shr .u8 (y : Int) (IntKind.u64.wrap (t : Int))) 1 = ((y / 2 ^ t % 2 : Nat) : Int) := by
  have : ∀ y : Fin 256, ∀ t : Fin 8, Go.bits .and .u8 (shr .u8 (y.val : Int) (IntKind.u64.wrap (t.val : Int))) 1 = ((y.val / 2 ^ t.val % 2 : Nat) : Int) := by decide +kernel
  exact this ⟨y, hy⟩ ⟨t, ht⟩
theorem byte_bit (V i t : Nat) (ht : t < 8) : V / 2 ^ (8 * i) % 256 / 2 ^ t % 2 = V / 2 ^ (8 * i + t) % 2 := by
  rw [show (256 : Nat) = 2 ^ t * 2 ^ (8 - t) by rw [← Nat.pow_add, show t + (8 - t) = 8 by omega], Nat.mod_mul_right_div_self, Nat.div_div_eq_div_mul, ← Nat.pow_add]
  exact Nat.mod_mod_of_dvd _ ⟨2 ^ (7 - t), by rw [Nat.mul_comm, ← Nat.pow_succ]; congr 1; omega⟩
theorem of_bit (V n i t k : Nat) (hi : i < n) (ht : t < 8) (hn : n ≤ 1000000000000) : crossdockref06_Of.l1 (k + 1) (leB V n) (btL V (8 * i + t)) (i : Int) (t : Int) = crossdockref06_Of.l1 k (leB V n) (btL V (8 * i + (t + 1))) (i : Int) ((t + 1 : Nat) : Int) := by
  have c1 : (t : Int) < 8 := by omega
  have c2 : (0 : Int) ≤ (i : Int) := Int.natCast_nonneg _
  have c3 : (i : Int) < (n : Int) := by omega
  have c4 : (0 : Int) ≤ IntKind.u64.wrap (t : Int) := by rw [IntKind.wrap_u64]; omega
  have c5 : 8 * i + t < 140737488355328 := by omega
  have hy : V / 2 ^ (8 * i) % 256 < 256 := Nat.mod_lt _ (by decide)
  rw [crossdockref06_Of.l1, if_pos c1, if_pos c2, leB_len, if_pos c3, if_pos c4, btL_len, if_pos c5, leB_rd _ _ _ hi, bit_of _ _ hy ht, byte_bit _ _ _ ht, ← btL_succ, next1 t (by omega)]
  rfl
theorem of_in (V n i k : Nat) (hi : i < n) (x3 : List Int) : crossdockref06_Of.l0 (k + 1) (leB V n) x3 (i : Int) = crossdockref06_Of.l1 k (leB V n) x3 (i : Int) ((0 : Nat) : Int) := by
  have c1 : (i : Int) < (n : Int) := by omega
  rw [crossdockref06_Of.l0, leB_len, if_pos c1]
  rfl
theorem of_next (V n i k : Nat) (hi : i ≤ 1000000000000) (x3 : List Int) : crossdockref06_Of.l1 (k + 1) (leB V n) x3 (i : Int) ((8 : Nat) : Int) = crossdockref06_Of.l0 k (leB V n) x3 ((i + 1 : Nat) : Int) := by
  rw [crossdockref06_Of.l1, if_neg (by decide), next1 i (by omega)]
theorem of_round (V n i k : Nat) (hi : i < n) (hn : n ≤ 1000000000000) : crossdockref06_Of.l0 (k + 10) (leB V n) (btL V (8 * i)) (i : Int) = crossdockref06_Of.l0 k (leB V n) (btL V (8 * (i + 1))) ((i + 1 : Nat) : Int) := by
  rw [of_in V n i (k + 9) hi]
  exact (of_bit V n i 0 (k + 8) hi (by decide) hn).trans ((of_bit V n i 1 (k + 7) hi (by decide) hn).trans ((of_bit V n i 2 (k + 6) hi (by decide) hn).trans ((of_bit V n i 3 (k + 5) hi (by decide) hn).trans ((of_bit V n i 4 (k + 4) hi (by decide) hn).trans
    ((of_bit V n i 5 (k + 3) hi (by decide) hn).trans ((of_bit V n i 6 (k + 2) hi (by decide) hn).trans ((of_bit V n i 7 (k + 1) hi (by decide) hn).trans (of_next V n i k (by omega) _))))))))
theorem of_l0 (V n : Nat) (hn : n ≤ 1000000000000) : ∀ d i, n = i + d → crossdockref06_Of.l0 (10 * d + 1) (leB V n) (btL V (8 * i)) (i : Int) = some (btL V (8 * n)) := by
  intro d
  induction d with
  | zero =>
    intro i e
    obtain rfl : n = i := by omega
    rw [Nat.mul_zero, Nat.zero_add, crossdockref06_Of.l0, leB_len, if_neg (Int.lt_irrefl _)]
  | succ d ih =>
    intro i e
    rw [show 10 * (d + 1) + 1 = 10 * d + 1 + 10 by omega, of_round V n i _ (by omega) hn]
    exact ih (i + 1) (by omega)
theorem of_f (V n : Nat) (hn : n ≤ 1000000000000) : crossdockref06_Of.f (10 * n + 1) (leB V n) = some (btL V (8 * n)) := of_l0 V n hn n 0 (by omega)
end Go.Proofs.Ytjlophlheoikgaa.My
