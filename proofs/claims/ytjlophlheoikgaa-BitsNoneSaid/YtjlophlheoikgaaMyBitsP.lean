/- Bits as a number: what a writer holds, what a reader takes. No program in sight. -/
import Derived.Laws.Rows
import Derived.BigQuiet
import Derived.Laws.Bits64
namespace Go.Proofs.Ytjlophlheoikgaa.My
open Go.RowKit

/-- The bytes of a number, the lowest one first. -/
def leB (V k : Nat) : List Int := (List.range k).map fun i => ((V / 2 ^ (8 * i) % 256 : Nat) : Int)
@[simp] theorem leB_len (V k : Nat) : (leB V k).length = k := by simp [leB]
theorem leB_succ (V k : Nat) : leB V (k + 1) = leB V k ++ [((V / 2 ^ (8 * k) % 256 : Nat) : Int)] := by simp [leB, List.range_succ]
theorem leB_congr {V V' k : Nat} (h : V % 2 ^ (8 * k) = V' % 2 ^ (8 * k)) : leB V k = leB V' k := by
  have aux : ∀ U i, i < k → U / 2 ^ (8 * i) % 256 = U % 2 ^ (8 * k) / 2 ^ (8 * i) % 256 := by
    intro U i hi
    have e : 2 ^ (8 * k) = 2 ^ (8 * i) * 2 ^ (8 * (k - i)) := by rw [← Nat.pow_add]; congr 1; omega
    rw [e, Nat.mod_mul_right_div_self]
    exact (Nat.mod_mod_of_dvd _ (Nat.pow_dvd_pow (m := 8) 2 (by omega))).symm
  unfold leB
  refine List.map_congr_left fun i hi => ?_
  rw [aux V i (List.mem_range.1 hi), h, ← aux V' i (List.mem_range.1 hi)]
theorem leB_add (V x N k : Nat) (h : 8 * k ≤ N) : leB (V + x * 2 ^ N) k = leB V k := by
  refine leB_congr ?_
  rw [show 2 ^ N = 2 ^ (N - 8 * k) * 2 ^ (8 * k) by rw [← Nat.pow_add]; congr 1; omega, ← Nat.mul_assoc, Nat.add_mul_mod_self_right]
theorem held_add (V x N q : Nat) (h : 8 * q ≤ N) : (V + x * 2 ^ N) / 2 ^ (8 * q) = V / 2 ^ (8 * q) + x * 2 ^ (N - 8 * q) := by
  rw [show 2 ^ N = 2 ^ (N - 8 * q) * 2 ^ (8 * q) by rw [← Nat.pow_add]; congr 1; omega, ← Nat.mul_assoc, Nat.add_mul_div_right _ _ (Nat.two_pow_pos _)]
theorem held_lt {V N : Nat} (h : V < 2 ^ N) (q : Nat) (hq : 8 * q ≤ N) : V / 2 ^ (8 * q) < 2 ^ (N - 8 * q) := by
  rw [Nat.div_lt_iff_lt_mul (Nat.two_pow_pos _), ← Nat.pow_add]
  rwa [show N - 8 * q + 8 * q = N by omega]
theorem held_div (V q : Nat) : V / 2 ^ (8 * q) / 256 = V / 2 ^ (8 * (q + 1)) := by
  rw [Nat.div_div_eq_div_mul, show (256 : Nat) = 2 ^ 8 from rfl, ← Nat.pow_add]
  congr 2
theorem held_end {V N : Nat} (h : V < 2 ^ N) : V < 2 ^ (N + 0) := h
theorem val_lt {V x N n : Nat} (h : V < 2 ^ N) (hx : x < 2 ^ n) : V + x * 2 ^ N < 2 ^ (N + n) := by
  have h1 : (x + 1) * 2 ^ N ≤ 2 ^ n * 2 ^ N := Nat.mul_le_mul_right _ hx
  rw [Nat.pow_add, Nat.mul_comm (2 ^ N) (2 ^ n)]
  rw [Nat.add_mul, Nat.one_mul] at h1
  omega
theorem or_low (h x m : Nat) (hh : h < 2 ^ m) : h ||| x * 2 ^ m = h + x * 2 ^ m := by
  rw [Nat.or_comm, Nat.mul_comm x, ← Nat.two_pow_add_eq_or_of_lt hh]
  omega
theorem or_nat64 (a b : Nat) (ha : a < 2 ^ 64) (hb : b < 2 ^ 64) : Go.bits .or .u64 a b = ((a ||| b : Nat) : Int) := by
  have hl : a ||| b < 2 ^ 64 := Nat.or_lt_two_pow ha hb
  show IntKind.u64.wrap ((BitVec.ofInt 64 (a : Int) ||| BitVec.ofInt 64 (b : Int)).toNat : Int) = _
  rw [BitVec.ofInt_natCast, BitVec.ofInt_natCast, BitVec.toNat_or, BitVec.toNat_ofNat, BitVec.toNat_ofNat, Nat.mod_eq_of_lt ha, Nat.mod_eq_of_lt hb, IntKind.wrap_u64]
  omega
/-- What the writer's first step makes of what it holds. -/
theorem or_put (h x m n : Nat) (hh : h < 2 ^ m) (hx : x < 2 ^ n) (hm : m < 8) (hn : n ≤ 32) :
    Go.bits .or .u64 (h : Int) (IntKind.u64.wrap (IntKind.u64.wrap (x : Int) * 2 ^ m)) = ((h + x * 2 ^ m : Nat) : Int) ∧ h + x * 2 ^ m < 2 ^ 40 := by
  have hl : h + x * 2 ^ m < 2 ^ 40 := Nat.lt_of_lt_of_le (val_lt hh hx) (Nat.pow_le_pow_right (by decide) (by omega))
  have hx2 : x < 2 ^ 32 := Nat.lt_of_lt_of_le hx (Nat.pow_le_pow_right (by decide) hn)
  have e0 : IntKind.u64.wrap (x : Int) = x := by rw [IntKind.wrap_u64]; omega
  have e : ((x : Int) * 2 ^ m) = ((x * 2 ^ m : Nat) : Int) := by simp
  have e1 : IntKind.u64.wrap ((x * 2 ^ m : Nat) : Int) = ((x * 2 ^ m : Nat) : Int) := by rw [IntKind.wrap_u64]; omega
  refine ⟨?_, hl⟩
  rw [e0, e, e1, or_nat64 h (x * 2 ^ m) (by omega) (by omega), or_low h x m hh]
end Go.Proofs.Ytjlophlheoikgaa.My
