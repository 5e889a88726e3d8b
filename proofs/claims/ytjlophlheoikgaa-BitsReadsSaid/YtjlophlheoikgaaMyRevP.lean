/- Bits turned round, as Go's library does it: plain. -/
import Derived.Test.YtjlophlheoikgaaMyBitsP
namespace Go.Proofs.Ytjlophlheoikgaa.My
open Go.RowKit

theorem or_nat32 (a b : Nat) (ha : a < 2 ^ 32) (hb : b < 2 ^ 32) : Go.bits .or .u32 a b = ((a ||| b : Nat) : Int) := by
  have hl : a ||| b < 2 ^ 32 := Nat.or_lt_two_pow ha hb
  show IntKind.u32.wrap ((BitVec.ofInt 32 (a : Int) ||| BitVec.ofInt 32 (b : Int)).toNat : Int) = _
  rw [BitVec.ofInt_natCast, BitVec.ofInt_natCast, BitVec.toNat_or, BitVec.toNat_ofNat, BitVec.toNat_ofNat, Nat.mod_eq_of_lt ha, Nat.mod_eq_of_lt hb, IntKind.wrap_u32]
  omega
theorem and_nat32 (a b : Nat) (ha : a < 2 ^ 32) (hb : b < 2 ^ 32) : Go.bits .and .u32 a b = ((a &&& b : Nat) : Int) := by
  have hl : a &&& b < 2 ^ 32 := Nat.and_lt_two_pow _ hb
  show IntKind.u32.wrap ((BitVec.ofInt 32 (a : Int) &&& BitVec.ofInt 32 (b : Int)).toNat : Int) = _
  rw [BitVec.ofInt_natCast, BitVec.ofInt_natCast, BitVec.toNat_and, BitVec.toNat_ofNat, BitVec.toNat_ofNat, Nat.mod_eq_of_lt ha, Nat.mod_eq_of_lt hb, IntKind.wrap_u32]
  omega
/-- One step: every second group of bits changes its place with the next one. -/
def sw (m d x : Int) : Int := bits .or .u32 (bits .and .u32 (x / d) m) (bits .and .u32 x m * d % 4294967296)
def half (x : Int) : Int := bits .or .u32 (x / 65536) (x * 65536 % 4294967296)
def swB (m : Nat) (k : Nat) (b : BitVec 32) : BitVec 32 := ((b >>> k) &&& BitVec.ofNat 32 m) ||| ((b &&& BitVec.ofNat 32 m) <<< k)
def halfB (b : BitVec 32) : BitVec 32 := (b >>> 16) ||| (b <<< 16)
theorem sw_eq (m k : Nat) (b : BitVec 32) (hm : m < 2 ^ 32) (d : Int) (hd : d = ((2 ^ k : Nat) : Int)) : sw m d b.toNat = (swB m k b).toNat := by
  have hb : b.toNat < 2 ^ 32 := b.isLt
  have h1 : b.toNat / 2 ^ k < 2 ^ 32 := Nat.lt_of_le_of_lt (Nat.div_le_self _ _) hb
  have h2 : b.toNat / 2 ^ k &&& m < 2 ^ 32 := Nat.and_lt_two_pow _ hm
  have h3 : (b.toNat &&& m) * 2 ^ k % 4294967296 < 2 ^ 32 := Nat.mod_lt _ (by decide)
  unfold sw
  rw [hd, show ((b.toNat : Int) / ((2 ^ k : Nat) : Int)) = ((b.toNat / 2 ^ k : Nat) : Int) from rfl, and_nat32 _ m h1 hm, and_nat32 _ m hb hm]
  rw [show (((b.toNat &&& m : Nat) : Int) * ((2 ^ k : Nat) : Int) % 4294967296) = (((b.toNat &&& m) * 2 ^ k % 4294967296 : Nat) : Int) by rw [← Int.natCast_mul]; rfl]
  rw [or_nat32 _ _ h2 h3]
  congr 1
  simp only [swB, BitVec.toNat_or, BitVec.toNat_and, BitVec.toNat_ushiftRight, BitVec.toNat_shiftLeft, BitVec.toNat_ofNat, Nat.shiftRight_eq_div_pow, Nat.shiftLeft_eq, Nat.mod_eq_of_lt hm]
theorem half_eq (b : BitVec 32) : half b.toNat = (halfB b).toNat := by
  have hb : b.toNat < 2 ^ 32 := b.isLt
  unfold half
  rw [show ((b.toNat : Int) / 65536) = ((b.toNat / 65536 : Nat) : Int) from rfl, show ((b.toNat : Int) * 65536 % 4294967296) = ((b.toNat * 65536 % 4294967296 : Nat) : Int) from rfl,
    or_nat32 _ _ (by omega) (by omega)]
  congr 1
  simp only [halfB, BitVec.toNat_or, BitVec.toNat_ushiftRight, BitVec.toNat_shiftLeft, Nat.shiftRight_eq_div_pow, Nat.shiftLeft_eq]
theorem rev_all (b : BitVec 32) : halfB (swB 16711935 8 (swB 252645135 4 (swB 858993459 2 (swB 1431655765 1 b)))) = b.reverse := by
  apply BitVec.eq_of_getLsbD_eq
  intro i hi
  rw [BitVec.getLsbD_reverse]
  unfold halfB swB
  rcases i with _|_|_|_|_|_|_|_|_|_|_|_|_|_|_|_|_|_|_|_|_|_|_|_|_|_|_|_|_|_|_|_|i
  all_goals first
    | (exfalso; omega)
    | simp [BitVec.getMsbD]

/-- The lowest n bits of a number, turned round. -/
def rv (x n : Nat) : Nat := (BitVec.ofNat 32 x).reverse.toNat / 2 ^ (32 - n)
theorem rv_bit (x n i : Nat) (hn : n ≤ 32) : (rv x n).testBit i = (decide (i < n) && x.testBit (n - 1 - i)) := by
  unfold rv
  rw [← Nat.shiftRight_eq_div_pow, Nat.testBit_shiftRight]
  show (BitVec.reverse (BitVec.ofNat 32 x)).getLsbD (32 - n + i) = _
  rw [BitVec.getLsbD_reverse, BitVec.getMsbD_eq_getLsbD, BitVec.getLsbD_ofNat]
  by_cases h : i < n
  · rw [show 32 - 1 - (32 - n + i) = n - 1 - i by omega]
    simp [h, show n - 1 - i < 32 by omega, show 32 - n + i < 32 by omega]
  · simp [h, show ¬ 32 - n + i < 32 by omega]
theorem rv_lt (x n : Nat) (hn : n ≤ 32) : rv x n < 2 ^ n := by
  refine Nat.lt_pow_two_of_testBit _ fun i hi => ?_
  rw [rv_bit x n i hn]
  simp [show ¬ i < n by omega]
end Go.Proofs.Ytjlophlheoikgaa.My
