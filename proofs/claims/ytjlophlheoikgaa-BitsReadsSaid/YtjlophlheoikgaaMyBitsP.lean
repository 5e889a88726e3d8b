/- Bits as a number: what a writer holds, what a reader takes. No program in sight. -/
import Derived.Laws.Rows
import Derived.BigQuiet
import Derived.Laws.Bits64
namespace Go.Proofs.Ytjlophlheoikgaa.My
open Go.RowKit

/-- The bytes of a number, the lowest one first. -/
def leB (V k : Nat) : List Int := (List.range k).map fun i => ((V / 2 ^ (8 * i) % 256 : Nat) : Int)
@[simp] theorem leB_len (V k : Nat) : (leB V k).length = k := by simp [leB]
theorem leB_succ (V k : Nat) : leB V (k + 1) = leB V k ++ [((V / 2 ^ (8 * k) % 256 : Nat) : Int)] := by simp [leB, List.range_succ]
theorem leB_congr {V V' k : Nat} (h : V % 2 ^ (8 * k) = V' % 2 ^ (8 * k)) : leB V k = leB V' k := by
  have aux : ∀ U i, i < k → U / 2 ^ (8 * i) % 256 = U % 2 ^ (8 * k) / 2 ^ (8 * i) % 256 := by
    intro U i hi
    have e : 2 ^ (8 * k) = 2 ^ (8 * i) * 2 ^ (8 * (k - i)) := by rw [← Nat.pow_add]; congr 1; omega
    rw [e, Nat.mod_mul_right_div_self]
    exact (Nat.mod_mod_of_dvd _ (Nat.pow_dvd_pow (m := 8) 2 (by omega))).symm
  unfold leB
  refine List.map_congr_left fun i hi => ?_
  rw [aux V i (List.mem_range.1 hi), h, ← aux V' i (List.mem_range.1 hi)]
theorem leB_add (V x N k : Nat) (h : 8 * k ≤ N) : leB (V + x * 2 ^ N) k = leB V k := by
  refine leB_congr ?_
  rw [show 2 ^ N = 2 ^ (N - 8 * k) * 2 ^ (8 * k) by rw [← Nat.pow_add]; congr 1; omega, ← Nat.mul_assoc, Nat.add_mul_mod_self_right]
theorem held_add (V x N q : Nat) (h : 8 * q ≤ N) : (V + x * 2 ^ N) / 2 ^ (8 * q) = V / 2 ^ (8 * q) + x * 2 ^ (N - 8 * q) := by
  rw [show 2 ^ N = 2 ^ (N - 8 * q) * 2 ^ (8 * q) by rw [← Nat.pow_add]; congr 1; omega, ← Nat.mul_assoc, Nat.add_mul_div_right _ _ (Nat.two_pow_pos _)]
theorem held_lt {V N : Nat} (h : V < 2 ^ N) (q : Nat) (hq : 8 * q ≤ N) : V / 2 ^ (8 * q) < 2 ^ (N - 8 * q) := by
  rw [Nat.div_lt_iff_lt_mul (Nat.two_pow_pos _), ← Nat.pow_add]
  rwa [show N - 8 * q + 8 * q = N by omega]
theorem held_div (V q : Nat) : V / 2 ^ (8 * q) / 256 = V / 2 ^ (8 * (q + 1)) := by
  rw [Nat.div_div_eq_div_mul, show (256 : Nat) = 2 ^ 8 from rfl, ← Nat.pow_add]
  congr 2
theorem held_end {V N : Nat} (h : V < 2 ^ N) : V < 2 ^ (N + 0) := h
theorem val_lt {V x N n : Nat} (h : V < 2 ^ N) (hx : x < 2 ^ n) : V + x * 2 ^ N < 2 ^ (N + n) := by
  have h1 : (x + 1) * 2 ^ N ≤ 2 ^ n * 2 ^ N := Nat.mul_le_mul_right _ hx
  rw [Nat.pow_add, Nat.mul_comm (2 ^ N) (2 ^ n)]
  rw [Nat.add_mul, Nat.one_mul] at h1
  omega
theorem or_low (h x m : Nat) (hh : h < 2 ^ m) : h ||| x * 2 ^ m = h + x * 2 ^ m := by
  rw [Nat.or_comm, Nat.mul_comm x, ← Nat.two_pow_add_eq_or_of_lt hh]
  omega
theorem or_nat64 (a b : Nat) (ha : a < 2 ^ 64) (hb : b < 2 ^ 64) : Go.bits .or .u64 a b = ((a ||| b : Nat) : Int) := by
  have hl : a ||| b < 2 ^ 64 := Nat.or_lt_two_pow ha hb
  show IntKind.u64.wrap ((BitVec.ofInt 64 (a : Int) ||| BitVec.ofInt 64 (b : Int)).toNat : Int) = _
  rw [BitVec.ofInt_natCast, BitVec.ofInt_natCast, BitVec.toNat_or, BitVec.toNat_ofNat, BitVec.toNat_ofNat, Nat.mod_eq_of_lt ha, Nat.mod_eq_of_lt hb, IntKind.wrap_u64]
  omega
/-- What the writer's first step makes of what it holds. -/
theorem or_put (h x m n : Nat) (hh : h < 2 ^ m) (hx : x < 2 ^ n) (hm : m < 8) (hn : n ≤ 32) :
    Go.bits .or .u64 (h : Int) (IntKind.u64.wrap (IntKind.u64.wrap (x : Int) * 2 ^ m)) = ((h + x * 2 ^ m : Nat) : Int) ∧ h + x * 2 ^ m < 2 ^ 40 := by
  have hl : h + x * 2 ^ m < 2 ^ 40 := Nat.lt_of_lt_of_le (val_lt hh hx) (Nat.pow_le_pow_right (by decide) (by omega))
  have hx2 : x < 2 ^ 32 := Nat.lt_of_lt_of_le hx (Nat.pow_le_pow_right (by decide) hn)
  have e0 : IntKind.u64.wrap (x : Int) = x := by rw [IntKind.wrap_u64]; omega
  have e : ((x : Int) * 2 ^ m) = ((x * 2 ^ m : Nat) : Int) := by simp
  have e1 : IntKind.u64.wrap ((x * 2 ^ m : Nat) : Int) = ((x * 2 ^ m : Nat) : Int) := by rw [IntKind.wrap_u64]; omega
  refine ⟨?_, hl⟩
  rw [e0, e, e1, or_nat64 h (x * 2 ^ m) (by omega) (by omega), or_low h x m hh]

theorem leB_getD (V k j : Nat) (h : j < k) : (leB V k).getD j 0 = ((V / 2 ^ (8 * j) % 256 : Nat) : Int) := by simp [leB, List.getD_eq_getElem?_getD, h]
/-- One more byte ahead of what is held. -/
theorem peek_step (V i m : Nat) : V / 2 ^ (8 * i) % 2 ^ (8 * (m + 1)) = V / 2 ^ (8 * (i + 1)) % 2 ^ (8 * m) * 256 + V / 2 ^ (8 * i) % 256 := by
  rw [← held_div, show 8 * (m + 1) = 8 + 8 * m by omega, Nat.pow_add, Nat.mod_mul, show (2 : Nat) ^ 8 = 256 from rfl, Nat.mul_comm]
  omega
theorem peek_or (h b : Nat) (hh : h < 2 ^ 32) (hb : b < 256) : Go.bits .or .u64 ((h : Int) * 256) (b : Int) = ((h * 256 + b : Nat) : Int) := by
  rw [show (h : Int) * 256 = ((h * 256 : Nat) : Int) by simp, or_nat64 _ _ (by omega) (by omega), Nat.or_comm, show h * 256 = h * 2 ^ 8 from rfl, or_low b h 8 hb]
  congr 1
  omega
theorem and_nat64 (a b : Nat) (ha : a < 2 ^ 64) (hb : b < 2 ^ 64) : Go.bits .and .u64 a b = ((a &&& b : Nat) : Int) := by
  have hl : a &&& b < 2 ^ 64 := Nat.and_lt_two_pow _ hb
  show IntKind.u64.wrap ((BitVec.ofInt 64 (a : Int) &&& BitVec.ofInt 64 (b : Int)).toNat : Int) = _
  rw [BitVec.ofInt_natCast, BitVec.ofInt_natCast, BitVec.toNat_and, BitVec.toNat_ofNat, BitVec.toNat_ofNat, Nat.mod_eq_of_lt ha, Nat.mod_eq_of_lt hb, IntKind.wrap_u64]
  omega
theorem peek_end (V a p r k q : Nat) (ha : a = 8 * p + r) (hk : r + k ≤ 8 * (q - p)) : V / 2 ^ (8 * p) % 2 ^ (8 * (q - p)) / 2 ^ r % 2 ^ k = V / 2 ^ a % 2 ^ k := by
  rw [show 8 * (q - p) = r + (8 * (q - p) - r) by omega, Nat.pow_add, Nat.mod_mul_right_div_self, Nat.div_div_eq_div_mul, ← Nat.pow_add, ← ha]
  exact Nat.mod_mod_of_dvd _ (Nat.pow_dvd_pow 2 (by omega))
theorem peek_mask (h r k : Nat) (hh : h < 2 ^ 64) (hk : k ≤ 32) : Go.bits .and .u64 ((h : Int) / 2 ^ r) ((2 : Int) ^ k - 1) = ((h / 2 ^ r % 2 ^ k : Nat) : Int) := by
  have h1 : (2 : Nat) ^ k ≤ 2 ^ 32 := Nat.pow_le_pow_right (by decide) hk
  have h0 : 0 < (2 : Nat) ^ k := Nat.two_pow_pos _
  have e1 : ((2 : Int) ^ k - 1) = ((2 ^ k - 1 : Nat) : Int) := by rw [Int.natCast_sub h0]; simp
  have e2 : (h : Int) / 2 ^ r = ((h / 2 ^ r : Nat) : Int) := by simp
  rw [e1, e2, and_nat64 _ _ (Nat.lt_of_le_of_lt (Nat.div_le_self _ _) hh) (by omega), Nat.and_two_pow_sub_one_eq_mod]
/-- The number of bytes. -/
def ofB : List Int → Nat
  | [] => 0
  | z :: t => z.toNat + 256 * ofB t
theorem ofB_lt : ∀ l : List Int, (∀ z ∈ l, 0 ≤ z ∧ z < 256) → ofB l < 2 ^ (8 * l.length)
  | [], _ => by simp [ofB]
  | z :: t, h => by
    have h1 := ofB_lt t fun y hy => h y (by simp [hy])
    have h2 := h z (by simp)
    simp only [ofB, List.length_cons]
    rw [show 8 * (t.length + 1) = 8 + 8 * t.length by omega, Nat.pow_add, show (2 : Nat) ^ 8 = 256 from rfl]
    omega
theorem leB_zero (V : Nat) : leB V 0 = [] := rfl
theorem leB_app : ∀ (l : List Int) (V q : Nat), (∀ z ∈ l, 0 ≤ z ∧ z < 256) → V < 2 ^ (8 * q) → leB (V + ofB l * 2 ^ (8 * q)) (q + l.length) = leB V q ++ l
  | [], V, q, _, _ => by simp [ofB]
  | z :: t, V, q, h, hV => by
    have h2 := h z (by simp)
    have hz : V + z.toNat * 2 ^ (8 * q) < 2 ^ (8 * (q + 1)) := by
      have := val_lt (n := 8) (x := z.toNat) hV (by omega)
      rwa [show 8 * q + 8 = 8 * (q + 1) by omega] at this
    have e := leB_app t (V + z.toNat * 2 ^ (8 * q)) (q + 1) (fun y hy => h y (by simp [hy])) hz
    have e1 : V + z.toNat * 2 ^ (8 * q) + ofB t * 2 ^ (8 * (q + 1)) = V + ofB (z :: t) * 2 ^ (8 * q) := by
      simp only [ofB]
      rw [show 8 * (q + 1) = 8 + 8 * q by omega, Nat.pow_add, show (2 : Nat) ^ 8 = 256 from rfl, Nat.add_mul, ← Nat.mul_assoc, Nat.mul_comm (ofB t) 256]
      omega
    rw [e1, show q + 1 + t.length = q + (z :: t).length by simp; omega] at e
    rw [e, leB_succ, leB_add V _ _ _ (Nat.le_refl _)]
    have e2 : (V + z.toNat * 2 ^ (8 * q)) / 2 ^ (8 * q) % 256 = z.toNat := by
      rw [Nat.add_mul_div_right _ _ (Nat.two_pow_pos _), Nat.div_eq_of_lt hV]
      omega
    rw [e2]
    simp
    omega
theorem leB_ofB (l : List Int) (h : ∀ z ∈ l, 0 ≤ z ∧ z < 256) : leB (ofB l) l.length = l := by
  have := leB_app l 0 0 h (by decide)
  simpa [leB_zero] using this
theorem mask_wrap (k : Nat) (hk : k ≤ 32) : IntKind.u64.wrap (IntKind.u64.wrap ((2 : Int) ^ k) - 1) = (2 : Int) ^ k - 1 := by
  have h1 : (2 : Nat) ^ k ≤ 2 ^ 32 := Nat.pow_le_pow_right (by decide) hk
  have h0 : 0 < (2 : Nat) ^ k := Nat.two_pow_pos _
  rw [show (2 : Int) ^ k = ((2 ^ k : Nat) : Int) by simp, IntKind.wrap_u64, IntKind.wrap_u64]
  omega
end Go.Proofs.Ytjlophlheoikgaa.My
