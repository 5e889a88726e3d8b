/- Plain facts about the sum of 32 bits: one step of a bit, four by a table, and what they make of rows of bits that were turned. No program in sight. -/
import Derived.Laws.BitsLemmas
namespace Go.Proofs.YtihhkjhpicelgaaDoor.Plain

def P32 : Nat := 3988292384
def stp (r : Nat) : Nat := if r % 2 = 1 then (r / 2) ^^^ P32 else r / 2
theorem P32_lt : P32 < 2 ^ 32 := by decide
theorem stp_lin (a b : Nat) : stp (a ^^^ b) = stp a ^^^ stp b := by
  unfold stp
  have h1 : (a ^^^ b) / 2 = a / 2 ^^^ b / 2 := Nat.xor_div_two
  have h2 : (a ^^^ b) % 2 = 1 ↔ ¬ (a % 2 = 1 ↔ b % 2 = 1) := Nat.xor_mod_two_eq_one
  rw [h1]
  by_cases ha : a % 2 = 1 <;> by_cases hb : b % 2 = 1
  · rw [if_neg (by omega), if_pos ha, if_pos hb]
    rw [Nat.xor_assoc, ← Nat.xor_assoc P32, Nat.xor_comm P32 (b / 2), Nat.xor_assoc (b / 2), Nat.xor_self, Nat.xor_zero]
  · rw [if_pos (by omega), if_pos ha, if_neg hb, Nat.xor_assoc, Nat.xor_comm (b / 2), ← Nat.xor_assoc]
  · rw [if_pos (by omega), if_neg ha, if_pos hb, Nat.xor_assoc]
  · rw [if_neg (by omega), if_neg ha, if_neg hb]
theorem stp_double (m : Nat) : stp (2 * m) = m := by unfold stp; rw [if_neg (by omega)]; omega
theorem stp_lt (r : Nat) (h : r < 2 ^ 32) : stp r < 2 ^ 32 := by
  unfold stp
  split
  · exact Nat.xor_lt_two_pow (by omega) P32_lt
  · omega
theorem stp_zero (r : Nat) (hr : r < 2 ^ 32) (h : stp r = 0) : r = 0 := by
  unfold stp at h
  split at h
  · have h3 : r / 2 = P32 := by
      have := congrArg (· ^^^ P32) h
      simpa [Nat.xor_assoc] using this
    unfold P32 at h3
    omega
  · omega
def stps : Nat → Nat → Nat
  | 0, r => r
  | n + 1, r => stps n (stp r)
theorem stps_add (n m r : Nat) : stps (n + m) r = stps m (stps n r) := by
  induction n generalizing r with
  | zero => simp [stps]
  | succ n ih => rw [Nat.add_right_comm]; exact ih (stp r)
theorem stps_lin (n a b : Nat) : stps n (a ^^^ b) = stps n a ^^^ stps n b := by
  induction n generalizing a b with
  | zero => rfl
  | succ n ih => simp only [stps, stp_lin, ih]
theorem stps_lt (n r : Nat) (h : r < 2 ^ 32) : stps n r < 2 ^ 32 := by
  induction n generalizing r with
  | zero => exact h
  | succ n ih => exact ih _ (stp_lt r h)
theorem stps_zero (n r : Nat) (hr : r < 2 ^ 32) (h : stps n r = 0) : r = 0 := by
  induction n generalizing r with
  | zero => exact h
  | succ n ih => exact stp_zero r hr (ih _ (stp_lt r hr) h)
theorem stps_shift (n q : Nat) : stps n (2 ^ n * q) = q := by
  induction n with
  | zero => simp [stps]
  | succ n ih =>
    rw [stps, show 2 ^ (n + 1) * q = 2 * (2 ^ n * q) from by rw [Nat.pow_succ, Nat.mul_comm (2 ^ n) 2, Nat.mul_assoc], stp_double, ih]
theorem split_bits (r n : Nat) : r = (r % 2 ^ n) ^^^ (2 ^ n * (r / 2 ^ n)) := by
  apply Nat.eq_of_testBit_eq
  intro i
  rw [Nat.testBit_xor, Nat.testBit_mod_two_pow, Nat.testBit_two_pow_mul, Nat.testBit_div_two_pow]
  by_cases h : i < n
  · simp [h, Nat.not_le.2 h]
  · simp [h, Nat.not_lt.1 h, Nat.sub_add_cancel (Nat.not_lt.1 h)]
/-- Four steps at once, by the low four bits. -/
theorem stps_low (n r : Nat) : stps n r = stps n (r % 2 ^ n) ^^^ (r / 2 ^ n) := by
  conv => lhs; rw [split_bits r n]
  rw [stps_lin, stps_shift]

/-! ### Numbers as the machine has them -/
theorem xor_nat (a b : Nat) (ha : a < 2 ^ 32) (hb : b < 2 ^ 32) : Go.bits .xor .u32 a b = ((a ^^^ b : Nat) : Int) := by
  have hl : a ^^^ b < 2 ^ 32 := Nat.xor_lt_two_pow ha hb
  show IntKind.u32.wrap ((BitVec.ofInt 32 (a : Int) ^^^ BitVec.ofInt 32 (b : Int)).toNat : Int) = _
  rw [BitVec.ofInt_natCast, BitVec.ofInt_natCast, BitVec.toNat_xor, BitVec.toNat_ofNat, BitVec.toNat_ofNat, Nat.mod_eq_of_lt ha, Nat.mod_eq_of_lt hb, IntKind.wrap_u32]
  omega
theorem and_nat (a b : Nat) (ha : a < 2 ^ 32) (hb : b < 2 ^ 32) : Go.bits .and .u32 a b = ((a &&& b : Nat) : Int) :=
  (bits_nat .u32 32 (by decide) (fun n h0 h1 => by rw [IntKind.wrap_u32]; omega) a b ha hb).1

/-! ### The table, a byte, a text -/
def T (i : Nat) : Int := [0, 498536548, 997073096, 651767980, 1994146192, 1802195444, 1303535960, 1342533948, 3988292384, 4027552580, 3604390888, 3412177804, 2607071920, 2262029012, 2685067896, 3183342108].getD i 0
def nib (r : Int) : Int := bits .xor .u32 (T (bits .and .u32 r 15).toNat) (r / 16)
def byt (r x : Int) : Int := nib (nib (bits .xor .u32 r (x % 4294967296)))
def fold (r : Int) (l : List Int) : Int := l.foldl byt r
def addF (s : Int) (l : List Int) : Int := bits .xor .u32 IntKind.u32.max (fold (bits .xor .u32 IntKind.u32.max s) l)
theorem and15 (r : Int) : 0 ≤ bits .and .u32 r 15 ∧ bits .and .u32 r 15 < 16 := by
  have h : bits .and .u32 r 15 = IntKind.u32.wrap ((BitVec.ofInt 32 r &&& BitVec.ofInt 32 15).toNat : Int) := rfl
  rw [h, IntKind.wrap_u32]
  have : (BitVec.ofInt 32 r &&& BitVec.ofInt 32 15).toNat < 16 := by
    rw [BitVec.toNat_and]
    exact Nat.lt_of_le_of_lt Nat.and_le_right (by decide)
  omega
theorem T_nat : ∀ i : Nat, i < 16 → T i = ((stps 4 i : Nat) : Int) := by decide
theorem nib_nat (r : Nat) (h : r < 2 ^ 32) : nib r = ((stps 4 r : Nat) : Int) := by
  unfold nib
  rw [show (15 : Int) = ((15 : Nat) : Int) from rfl, and_nat r 15 h (by decide), Int.toNat_natCast, show r &&& 15 = r % 2 ^ 4 from Nat.and_two_pow_sub_one_eq_mod r 4,
    T_nat _ (Nat.mod_lt _ (by decide)), show (r : Int) / 16 = ((r / 2 ^ 4 : Nat) : Int) from by omega,
    xor_nat _ _ (stps_lt _ _ (by omega)) (by omega), ← stps_low]
def bytN (r x : Nat) : Nat := stps 8 (r ^^^ x)
theorem bytN_lt (r x : Nat) (h : r < 2 ^ 32) (hx : x < 256) : bytN r x < 2 ^ 32 := stps_lt _ _ (Nat.xor_lt_two_pow h (by omega))
theorem byt_nat (r x : Nat) (h : r < 2 ^ 32) (hx : x < 256) : byt r x = ((bytN r x : Nat) : Int) := by
  unfold byt bytN
  rw [show (x : Int) % 4294967296 = (x : Int) from by omega, xor_nat _ _ h (by omega), nib_nat _ (Nat.xor_lt_two_pow h (by omega)), nib_nat _ (stps_lt _ _ (Nat.xor_lt_two_pow h (by omega))), ← stps_add]
def foldN (r : Nat) (l : List Nat) : Nat := l.foldl bytN r
def Bytes (l : List Nat) : Prop := ∀ x ∈ l, x < 256
theorem foldN_lt (l : List Nat) (hl : Bytes l) : ∀ r, r < 2 ^ 32 → foldN r l < 2 ^ 32 := by
  induction l with
  | nil => intro r h; exact h
  | cons x l ih => intro r h; exact ih (fun y hy => hl y (by simp [hy])) _ (bytN_lt _ _ h (hl x (by simp)))
def ints (l : List Nat) : List Int := l.map fun x : Nat => (x : Int)
theorem fold_nat (l : List Nat) (hl : Bytes l) : ∀ r : Nat, r < 2 ^ 32 → fold r (ints l) = ((foldN r l : Nat) : Int) := by
  induction l with
  | nil => intro r h; rfl
  | cons x l ih =>
    intro r h
    show fold (byt r x) (ints l) = _
    rw [byt_nat r x h (hl x (by simp))]
    exact ih (fun y hy => hl y (by simp [hy])) _ (bytN_lt _ _ h (hl x (by simp)))
def M32 : Nat := 4294967295
def addN (s : Nat) (l : List Nat) : Nat := M32 ^^^ foldN (M32 ^^^ s) l
theorem M32_lt : M32 < 2 ^ 32 := by decide
theorem addN_lt (s : Nat) (l : List Nat) (h : s < 2 ^ 32) (hl : Bytes l) : addN s l < 2 ^ 32 := Nat.xor_lt_two_pow M32_lt (foldN_lt _ hl _ (Nat.xor_lt_two_pow M32_lt h))
theorem addF_nat (s : Nat) (l : List Nat) (h : s < 2 ^ 32) (hl : Bytes l) : addF s (ints l) = ((addN s l : Nat) : Int) := by
  unfold addF addN
  have hm : IntKind.u32.max = ((M32 : Nat) : Int) := by decide
  rw [hm, xor_nat _ _ M32_lt h, fold_nat _ hl _ (Nat.xor_lt_two_pow M32_lt h), xor_nat _ _ M32_lt (foldN_lt _ hl _ (Nat.xor_lt_two_pow M32_lt h))]
theorem foldN_append (r : Nat) (a b : List Nat) : foldN r (a ++ b) = foldN (foldN r a) b := by simp [foldN]
theorem M32_M32 (x : Nat) : M32 ^^^ (M32 ^^^ x) = x := by rw [← Nat.xor_assoc, Nat.xor_self, Nat.zero_xor]
/-- A text that is cut goes on. -/
theorem addN_append (s : Nat) (a b : List Nat) : addN (addN s a) b = addN s (a ++ b) := by
  unfold addN
  rw [M32_M32, foldN_append]
theorem addN_nil (s : Nat) : addN s [] = s := M32_M32 s

/-! ### A text as one number: what the sum makes of it -/
def num : List Nat → Nat
  | [] => 0
  | x :: l => x ^^^ 2 ^ 8 * num l
theorem foldN_num (l : List Nat) : ∀ r, foldN r l = stps (8 * l.length) (r ^^^ num l) := by
  induction l with
  | nil => intro r; simp [foldN, num, stps]
  | cons x l ih =>
    intro r
    show foldN (bytN r x) l = _
    rw [ih, List.length_cons, show 8 * (l.length + 1) = 8 + 8 * l.length from by omega, stps_add, num, ← Nat.xor_assoc, stps_lin 8, stps_shift]
    rfl
theorem xor_mul_two_pow (a b n : Nat) : 2 ^ n * (a ^^^ b) = 2 ^ n * a ^^^ 2 ^ n * b := by
  apply Nat.eq_of_testBit_eq
  intro i
  rw [Nat.testBit_two_pow_mul, Nat.testBit_xor, Nat.testBit_xor, Nat.testBit_two_pow_mul, Nat.testBit_two_pow_mul]
  by_cases h : n ≤ i <;> simp [h]
theorem num_set (l : List Nat) : ∀ (j k : Nat), j < l.length → num (l.set j (l.getD j 0 ^^^ 2 ^ k)) = num l ^^^ 2 ^ (8 * j + k) := by
  induction l with
  | nil => intro j k h; simp at h
  | cons x l ih =>
    intro j k h
    cases j with
    | zero =>
      simp only [List.set_cons_zero, num, List.getD_cons_zero, Nat.mul_zero, Nat.zero_add]
      rw [Nat.xor_assoc, Nat.xor_comm (2 ^ k), ← Nat.xor_assoc]
    | succ j =>
      simp only [List.set_cons_succ, num, List.getD_cons_succ]
      rw [ih j k (by simpa using h), xor_mul_two_pow, ← Nat.xor_assoc, ← Nat.pow_add]
      congr 2
      omega
/-- The sums of two texts of one length are apart by what their numbers are apart. -/
theorem apart (s : Nat) (a b : List Nat) (h : a.length = b.length) : addN s a ^^^ addN s b = stps (8 * b.length) (num a ^^^ num b) := by
  unfold addN
  rw [foldN_num, foldN_num, h]
  generalize M32 ^^^ s = r
  have h1 : ∀ x y z : Nat, (x ^^^ y) ^^^ (x ^^^ z) = y ^^^ z := by
    intro x y z
    rw [Nat.xor_comm x y, Nat.xor_assoc, ← Nat.xor_assoc x x, Nat.xor_self, Nat.zero_xor]
  rw [h1, ← stps_lin, h1]
/-- Bits within 32 in a row: t is the number of those that were turned. -/
theorem finds (s f t : Nat) (a b : List Nat) (h : a.length = b.length) (hn : num a = num b ^^^ 2 ^ f * t) (hf : f ≤ 8 * b.length) (ht : t < 2 ^ 32) : addN s a = addN s b ↔ t = 0 := by
  have h1 := apart s a b h
  have h2 : num a ^^^ num b = 2 ^ f * t := by rw [hn, Nat.xor_comm (num b), Nat.xor_assoc, Nat.xor_self, Nat.xor_zero]
  rw [h2, show 8 * b.length = f + (8 * b.length - f) from by omega, stps_add, stps_shift] at h1
  constructor
  · intro e
    rw [e, Nat.xor_self] at h1
    exact stps_zero _ _ ht h1.symm
  · intro e
    subst e
    have h3 : ∀ n, stps n 0 = 0 := by
      intro n
      induction n with
      | zero => rfl
      | succ n ih => exact ih
    rw [h3] at h1
    have := congrArg (· ^^^ addN s b) h1
    simpa [Nat.xor_assoc] using this
theorem low_snoc (t i : Nat) : t % 2 ^ (i + 1) = t % 2 ^ i ^^^ (if t.testBit i then 2 ^ i else 0) := by
  apply Nat.eq_of_testBit_eq
  intro j
  rw [Nat.testBit_xor, Nat.testBit_mod_two_pow, Nat.testBit_mod_two_pow]
  by_cases hij : j = i
  · subst hij
    by_cases h : t.testBit j <;> simp [h]
  · have : (if t.testBit i = true then 2 ^ i else 0).testBit j = false := by
      split
      · rw [Nat.testBit_two_pow]; simp; omega
      · simp
    rw [this]
    by_cases h : j < i
    · simp [h, Nat.lt_succ_of_lt h]
    · simp [h, show ¬ j < i + 1 from by omega]
end Go.Proofs.YtihhkjhpicelgaaDoor.Plain
