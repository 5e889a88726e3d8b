/- What octal.Take answers, plainly; and what it answers to what octal.Put writes. No program in sight. -/
import Derived.Test.YtoonagjhfbmniaaDoorMyOctP
import Derived.Lib.SlTrimSet
import Derived.Laws.Bits128
namespace Go.Proofs.YtoonagjhfbmniaaDoor.Oct
set_option linter.unusedVariables false
set_option linter.unusedSimpArgs false

/-- The number of figures, or none where it is too great. -/
def oct : List Int → Int → Option Int
  | [], x => some x
  | b :: l, x => if 1152921504606846975 < x then none else oct l (8 * x + (b - 48))
/-- The bytes of a wide number behind the first one. -/
def binr : List Int → Int → Option Int
  | [], x => some x
  | b :: l, x => if -36028797018963968 ≤ x ∧ x < 36028797018963968 then binr l (256 * x + b) else none
def top (b : Int) : Int := if 192 ≤ b then b - 256 else b - 128
def bin : List Int → Option Int
  | [] => none
  | b :: l => binr l (top b)
def dig (b : Int) : Bool := decide (48 ≤ b ∧ b ≤ 55)
def spc (b : Int) : Bool := decide (b = 32)
def wht (b : Int) : Bool := decide (b = 32 ∨ b = 0)
def ans (e : Int) : Option Int → Option Int × Int
  | some x => (none, x)
  | none => (some e, 0)
def takeA (l : List Int) : Option Int × Int :=
  match l with
  | [] => (some 2, 0)
  | b :: _ => if 128 ≤ b then ans 1 (bin l) else
      if ((l.dropWhile spc).dropWhile dig).all wht then ans 1 (oct ((l.dropWhile spc).takeWhile dig) 0) else (some 2, 0)

theorem or_low_int (i : Nat) (hi : i ≤ 63) (x y : Int) (hx : x % 2 ^ i = 0) (hy0 : 0 ≤ y) (hy : y < 2 ^ i) : Go.bits .or .i64 x y = IntKind.i64.wrap (x + y) := by
  obtain ⟨b, rfl⟩ := Int.eq_ofNat_of_zero_le hy0
  have hb : b < 2 ^ i := by exact_mod_cast hy
  have hle : 2 ^ i ≤ 2 ^ 63 := Nat.pow_le_pow_right (by decide) hi
  have hb64 : b % 2 ^ 64 = b := Nat.mod_eq_of_lt (by omega)
  have hX0 : 0 ≤ x % 18446744073709551616 := by omega
  obtain ⟨a, ha⟩ := Int.eq_ofNat_of_zero_le hX0
  have hb65 : b % 2 ^ IntKind.i64.bits = b := hb64
  have ha64 : (BitVec.ofInt IntKind.i64.bits x).toNat = a := by
    show (BitVec.ofInt 64 x).toNat = a
    rw [BitVec.toNat_ofInt]
    have : (x % ((2 ^ 64 : Nat) : Int)) = (a : Int) := by rw [← ha]; rfl
    rw [this]; rfl
  have hd : a % 2 ^ i = 0 := by
    have h1 : (x % 18446744073709551616) % 2 ^ i = 0 := by
      have hdv : ((2 : Int) ^ i) ∣ 18446744073709551616 := by
        have : (18446744073709551616 : Int) = 2 ^ i * 2 ^ (64 - i) := by rw [← Int.pow_add, show i + (64 - i) = 64 by omega]; rfl
        exact ⟨_, this⟩
      rw [Int.emod_emod_of_dvd _ hdv, hx]
    rw [ha] at h1
    exact_mod_cast h1
  have hq : a = 2 ^ i * (a / 2 ^ i) := by
    have := Nat.div_add_mod a (2 ^ i)
    omega
  have hor : a ||| b = a + b := by
    rw [hq, ← Nat.two_pow_add_eq_or_of_lt hb (a / 2 ^ i)]
  simp only [Go.bits, BitVec.ofInt_natCast, BitVec.toNat_or, BitVec.toNat_ofNat, hb65, ha64, hor]
  have hs : ((a + b : Nat) : Int) = x % 18446744073709551616 + (b : Int) := by rw [ha]; simp
  rw [hs, IntKind.wrap_i64, IntKind.wrap_i64]
  clear hs ha hor hq hd ha64 hX0 hb65 hb64 hle hb hy hx
  omega

theorem fin_and128 : ∀ b : Fin 256, Go.bits .and .u8 ((b.val : Nat) : Int) 128 = (if 128 ≤ b.val then 128 else 0) ∧ Go.bits .and .u8 ((b.val : Nat) : Int) 64 = (if b.val % 128 < 64 then 0 else 64) ∧ Go.bits .andNot .u8 ((b.val : Nat) : Int) 128 = ((b.val % 128 : Nat) : Int) := by decide +kernel
theorem byte_bits (b : Int) (h0 : 0 ≤ b) (h1 : b < 256) : Go.bits .and .u8 b 128 = (if 128 ≤ b then 128 else 0) ∧ Go.bits .and .u8 b 64 = (if b % 128 < 64 then 0 else 64) ∧ Go.bits .andNot .u8 b 128 = b % 128 := by
  obtain ⟨n, rfl⟩ := Int.eq_ofNat_of_zero_le h0
  have h := fin_and128 ⟨n, by omega⟩
  simp only at h
  refine ⟨h.1.trans ?_, h.2.1.trans ?_, h.2.2.trans (by omega)⟩
  · by_cases hh : 128 ≤ n
    · rw [if_pos hh, if_pos (by omega)]
    · rw [if_neg hh, if_neg (by omega)]
  · by_cases hh : n % 128 < 64
    · rw [if_pos hh, if_pos (by omega)]
    · rw [if_neg hh, if_neg (by omega)]
theorem top_or (b : Int) (h0 : 128 ≤ b) (h1 : b < 256) : Go.bits .or .i64 (if b % 128 < 64 then 0 else -128) (b % 128) = top b := by
  rw [or_low_int 7 (by decide) _ _ (by split <;> rfl) (by omega) (by omega), IntKind.wrap_i64]
  unfold top
  split <;> split <;> omega
theorem next_or (x b : Int) (hx0 : -9223372036854775808 ≤ x) (hx1 : x ≤ 9223372036854775807) (h0 : 0 ≤ b) (h1 : b < 256) :
    Go.bits .or .i64 (IntKind.i64.wrap (x * 256)) b = IntKind.i64.wrap (x * 256 + b) := by
  rw [or_low_int 8 (by decide) _ _ (by rw [IntKind.wrap_i64]; omega) h0 h1]
  rw [IntKind.wrap_i64, IntKind.wrap_i64, IntKind.wrap_i64]
  omega
theorem next_yes (x b : Int) (h0 : 0 ≤ b) (h1 : b < 256) (h : -36028797018963968 ≤ x ∧ x < 36028797018963968) : IntKind.i64.wrap (x * 256 + b) = 256 * x + b ∧ (256 * x + b) / 256 = x := by
  rw [IntKind.wrap_i64]; omega
theorem next_no (x b : Int) (hx0 : -9223372036854775808 ≤ x) (hx1 : x ≤ 9223372036854775807) (h0 : 0 ≤ b) (h1 : b < 256) (h : ¬ (-36028797018963968 ≤ x ∧ x < 36028797018963968)) : IntKind.i64.wrap (x * 256 + b) / 256 ≠ x := by
  rw [IntKind.wrap_i64]; omega
theorem oct_or (x b : Int) (h0 : 0 ≤ x) (h1 : x ≤ 1152921504606846975) (hb : 48 ≤ b) (hb1 : b ≤ 55) : Go.bits .or .i64 (x * 8) (b - 48) = 8 * x + (b - 48) := by
  rw [or_low_int 3 (by decide) _ _ (by omega) (by omega) (by omega), IntKind.wrap_i64]
  omega
end Go.Proofs.YtoonagjhfbmniaaDoor.Oct
