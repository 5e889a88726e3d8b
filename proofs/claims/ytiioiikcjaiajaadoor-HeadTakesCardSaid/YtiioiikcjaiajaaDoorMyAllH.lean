/- MyOctP, MyTakeP, MyTakeL, MyHeadP, MyBase, MyGlH, MyShelf, MyHeadC, MyBytes, MyHeadT, MyTrim, MyTakeT, MyTake, MyHeadN, MyHeadQ, MyOctW, MyHeadK, MyHeadW, MyGuard, MyTry, MyHeadV, MyArgs: laid into one text by merge.py. -/
import Derived.Laws.BitsLemmas
import Derived.Laws.Wrap64
import Derived.Lib.SlTrimSet
import Derived.Laws.Bits128
import Derived.Test.YtiioiikcjaiajaaDoorWWords
import Derived.Lib.IndexLaws
import Derived.Lib.Walk
import Derived.Test.YtiioiikcjaiajaaDoorProg
import Derived.Test.YtiioiikcjaiajaaDoorWMore
import Derived.Laws.Rows
import Derived.Lib.SlBytesConst
import Derived.WalkKit
import Derived.KernelRfl
import Derived.Deep.LoopGhost
import Derived.Deep.QuietTactic
import Derived.BigQuiet
import Derived.Deep.DeepCutAuto
import Derived.Deep.CutBlock
import Derived.WalkSpells
import Derived.WalkLawsBesides
import Derived.Outline
import Derived.Test.YtiioiikcjaiajaaDoorRows
import Derived.Lib.LaidU8
import Derived.Shelf.Small.Utf8
import Derived.Shelf.Small.Strs
import Derived.Shelf.Strings.Search1
import Derived.Shelf.Bytes.SlIndexSmall
import Derived.Shelf.Bytes.SlIndexAt
import Derived.Shelf.Bytes.SlSearch0
import Derived.Shelf.Bytes.SlSearch1
import Derived.Shelf.Bytes.SlSearch2
import Derived.Shelf.Bytes.SlIndexWhole
import Derived.Shelf.LaysM
import Derived.Shelf.Bytes.SlEqualAll
import Derived.Ground.SlbtProg
import Derived.Shelf.Bytes.SlCut
import Derived.Shelf.Bytes.Small
import Derived.Shelf.Bytes.IndexByte
import Derived.Lib.BufferWrite
import Derived.Lib.SliceRun
import Derived.Shelf.Bytes.SlTrim
import Derived.Ground.SlbvProg
import Derived.StillTailTactics
import Derived.IntWalk
import Derived.Deep.RegionHeld3
import Derived.Defers
import Derived.Recover
import Derived.RegionTactic
import Derived.Test.YtiioiikcjaiajaaDoorWSized

/- Numbers in fields of bytes, plainly: figures from the last one on, which numbers fit, what a field holds then. No program in sight. -/
namespace Go.Proofs.YtiioiikcjaiajaaDoor.Oct

def ds (g h : Int → Int) : Nat → Int → List Int
  | 0, _ => []
  | j + 1, x => ds g h j (h x) ++ [g x]
def it (h : Int → Int) : Nat → Int → Int
  | 0, x => x
  | j + 1, x => it h j (h x)
theorem ds_length (g h : Int → Int) (j : Nat) : ∀ x, (ds g h j x).length = j := by
  induction j with
  | zero => intro x; rfl
  | succ j ih => intro x; simp [ds, ih]
theorem set_drop (l : List Int) (j : Nat) (v : Int) (h : j < l.length) : (l.set j v).drop j = v :: l.drop (j + 1) := by
  rw [List.drop_eq_getElem_cons (by simpa using h), List.getElem_set_self, List.drop_set_of_lt (by omega)]
theorem set_take (l : List Int) (j off : Nat) (v : Int) (h : off ≤ j) : (l.set j v).take off = l.take off := by
  apply List.ext_getElem?
  intro i
  rw [List.getElem?_take, List.getElem?_take]
  by_cases hi : i < off
  · rw [if_pos hi, if_pos hi, List.getElem?_set_ne (by omega)]
  · rw [if_neg hi, if_neg hi]
/-- A block in which the places off .. off + j are written from the last one on. -/
def fill (g h : Int → Int) (off j : Nat) (x : Int) (l : List Int) : List Int := l.take off ++ ds g h j x ++ l.drop (off + j)
theorem fill_zero (g h : Int → Int) (off : Nat) (x : Int) (l : List Int) : fill g h off 0 x l = l := by simp [fill, ds]
theorem fill_step (g h : Int → Int) (off j : Nat) (x : Int) (l : List Int) (hl : off + j < l.length) : fill g h off (j + 1) x l = fill g h off j (h x) (l.set (off + j) (g x)) := by
  unfold fill
  rw [set_take l _ off _ (by omega), set_drop l _ _ hl]
  simp [ds]
  rfl
theorem fill_length (g h : Int → Int) (off j : Nat) (x : Int) (l : List Int) (hl : off + j ≤ l.length) : (fill g h off j x l).length = l.length := by
  simp [fill, ds_length]
  omega
theorem it_div (b : Int) (hb : 0 < b) (j : Nat) : ∀ x, it (· / b) j x = x / b ^ j := by
  induction j with
  | zero => intro x; simp [it]
  | succ j ih => intro x; rw [it, ih, Int.ediv_ediv_of_nonneg (by omega), Int.pow_succ, Int.mul_comm]
theorem it_succ (h : Int → Int) (j : Nat) : ∀ x, it h (j + 1) x = h (it h j x) := by
  induction j with
  | zero => intro x; rfl
  | succ j ih => intro x; rw [it, ih]; rfl
theorem ds_head (g h : Int → Int) (j : Nat) : ∀ x, ∃ l, ds g h (j + 1) x = g (it h j x) :: l := by
  induction j with
  | zero => intro x; exact ⟨[], rfl⟩
  | succ j ih =>
    intro x
    obtain ⟨l, hl⟩ := ih (h x)
    exact ⟨l ++ [g x], by rw [ds, hl]; rfl⟩
def g8 (x : Int) : Int := 48 + x % 8
def g256 (x : Int) : Int := x % 256
theorem and7 (x : Int) (h0 : 0 ≤ x) (h1 : x ≤ 9223372036854775807) : Go.bits .and .i64 x 7 = x % 8 :=
  bits_mask .i64 63 (by decide) (fun n h0 h1 => by rw [IntKind.wrap_i64]; omega) 3 (by decide) x h0 (by omega)

/-- Does a number fit by figures? -/
def nar (n x : Int) : Bool := decide (0 < n ∧ 0 ≤ x ∧ (21 < n ∨ x / 2 ^ (3 * (n - 1)).toNat = 0))
/-- Does it fit at all? -/
def fit (n x : Int) : Bool := if nar n x || decide (9 ≤ n) then decide (0 < n) else if n < 2 then false else decide (x / 2 ^ (8 * n - 2).toNat = 0 ∨ x / 2 ^ (8 * n - 2).toNat = -1)
/-- The field of so many bytes. -/
def putB (n : Nat) (x : Int) : List Int :=
  if nar n x then ds g8 (· / 8) (n - 1) x ++ [0]
  else (ds g256 (· / 256) n x).set 0 (Go.bits .or .u8 ((ds g256 (· / 256) n x).getD 0 0) 128)
theorem putB_length (n : Nat) (x : Int) (h : 0 < n) : (putB n x).length = n := by
  unfold putB
  split
  · simp [ds_length]; omega
  · simp [ds_length]
/-- A block with a field in it. -/
def putAt (l : List Int) (off n : Nat) (x : Int) : List Int := l.take off ++ putB n x ++ l.drop (off + n)
end Go.Proofs.YtiioiikcjaiajaaDoor.Oct

/- What octal.Take answers, plainly; and what it answers to what octal.Put writes. No program in sight. -/
namespace Go.Proofs.YtiioiikcjaiajaaDoor.Oct
set_option linter.unusedVariables false
set_option linter.unusedSimpArgs false

/-- The number of figures, or none where it is too great. -/
def oct : List Int → Int → Option Int
  | [], x => some x
  | b :: l, x => if 1152921504606846975 < x then none else oct l (8 * x + (b - 48))
/-- The bytes of a wide number behind the first one. -/
def binr : List Int → Int → Option Int
  | [], x => some x
  | b :: l, x => if -36028797018963968 ≤ x ∧ x < 36028797018963968 then binr l (256 * x + b) else none
def top (b : Int) : Int := if 192 ≤ b then b - 256 else b - 128
def bin : List Int → Option Int
  | [] => none
  | b :: l => binr l (top b)
def dig (b : Int) : Bool := decide (48 ≤ b ∧ b ≤ 55)
def spc (b : Int) : Bool := decide (b = 32)
def wht (b : Int) : Bool := decide (b = 32 ∨ b = 0)
def ans (e : Int) : Option Int → Option Int × Int
  | some x => (none, x)
  | none => (some e, 0)
def takeA (l : List Int) : Option Int × Int :=
  match l with
  | [] => (some 2, 0)
  | b :: _ => if 128 ≤ b then ans 1 (bin l) else
      if ((l.dropWhile spc).dropWhile dig).all wht then ans 1 (oct ((l.dropWhile spc).takeWhile dig) 0) else (some 2, 0)

theorem or_low_int (i : Nat) (hi : i ≤ 63) (x y : Int) (hx : x % 2 ^ i = 0) (hy0 : 0 ≤ y) (hy : y < 2 ^ i) : Go.bits .or .i64 x y = IntKind.i64.wrap (x + y) := by
  obtain ⟨b, rfl⟩ := Int.eq_ofNat_of_zero_le hy0
  have hb : b < 2 ^ i := by exact_mod_cast hy
  have hle : 2 ^ i ≤ 2 ^ 63 := Nat.pow_le_pow_right (by decide) hi
  have hb64 : b % 2 ^ 64 = b := Nat.mod_eq_of_lt (by omega)
  have hX0 : 0 ≤ x % 18446744073709551616 := by omega
  obtain ⟨a, ha⟩ := Int.eq_ofNat_of_zero_le hX0
  have hb65 : b % 2 ^ IntKind.i64.bits = b := hb64
  have ha64 : (BitVec.ofInt IntKind.i64.bits x).toNat = a := by
    show (BitVec.ofInt 64 x).toNat = a
    rw [BitVec.toNat_ofInt]
    have : (x % ((2 ^ 64 : Nat) : Int)) = (a : Int) := by rw [← ha]; rfl
    rw [this]; rfl
  have hd : a % 2 ^ i = 0 := by
    have h1 : (x % 18446744073709551616) % 2 ^ i = 0 := by
      have hdv : ((2 : Int) ^ i) ∣ 18446744073709551616 := by
        have : (18446744073709551616 : Int) = 2 ^ i * 2 ^ (64 - i) := by rw [← Int.pow_add, show i + (64 - i) = 64 by omega]; rfl
        exact ⟨_, this⟩
      rw [Int.emod_emod_of_dvd _ hdv, hx]
    rw [ha] at h1
    exact_mod_cast h1
  have hq : a = 2 ^ i * (a / 2 ^ i) := by
    have := Nat.div_add_mod a (2 ^ i)
    omega
  have hor : a ||| b = a + b := by
    rw [hq, ← Nat.two_pow_add_eq_or_of_lt hb (a / 2 ^ i)]
  simp only [Go.bits, BitVec.ofInt_natCast, BitVec.toNat_or, BitVec.toNat_ofNat, hb65, ha64, hor]
  have hs : ((a + b : Nat) : Int) = x % 18446744073709551616 + (b : Int) := by rw [ha]; simp
  rw [hs, IntKind.wrap_i64, IntKind.wrap_i64]
  clear hs ha hor hq hd ha64 hX0 hb65 hb64 hle hb hy hx
  omega

theorem fin_and128 : ∀ b : Fin 256, Go.bits .and .u8 ((b.val : Nat) : Int) 128 = (if 128 ≤ b.val then 128 else 0) ∧ Go.bits .and .u8 ((b.val : Nat) : Int) 64 = (if b.val % 128 < 64 then 0 else 64) ∧ Go.bits .andNot .u8 ((b.val : Nat) : Int) 128 = ((b.val % 128 : Nat) : Int) := by decide +kernel
theorem byte_bits (b : Int) (h0 : 0 ≤ b) (h1 : b < 256) : Go.bits .and .u8 b 128 = (if 128 ≤ b then 128 else 0) ∧ Go.bits .and .u8 b 64 = (if b % 128 < 64 then 0 else 64) ∧ Go.bits .andNot .u8 b 128 = b % 128 := by
  obtain ⟨n, rfl⟩ := Int.eq_ofNat_of_zero_le h0
  have h := fin_and128 ⟨n, by omega⟩
  simp only at h
  refine ⟨h.1.trans ?_, h.2.1.trans ?_, h.2.2.trans (by omega)⟩
  · by_cases hh : 128 ≤ n
    · rw [if_pos hh, if_pos (by omega)]
    · rw [if_neg hh, if_neg (by omega)]
  · by_cases hh : n % 128 < 64
    · rw [if_pos hh, if_pos (by omega)]
    · rw [if_neg hh, if_neg (by omega)]
theorem top_or (b : Int) (h0 : 128 ≤ b) (h1 : b < 256) : Go.bits .or .i64 (if b % 128 < 64 then 0 else -128) (b % 128) = top b := by
  rw [or_low_int 7 (by decide) _ _ (by split <;> rfl) (by omega) (by omega), IntKind.wrap_i64]
  unfold top
  split <;> split <;> omega
theorem next_or (x b : Int) (hx0 : -9223372036854775808 ≤ x) (hx1 : x ≤ 9223372036854775807) (h0 : 0 ≤ b) (h1 : b < 256) :
    Go.bits .or .i64 (IntKind.i64.wrap (x * 256)) b = IntKind.i64.wrap (x * 256 + b) := by
  rw [or_low_int 8 (by decide) _ _ (by rw [IntKind.wrap_i64]; omega) h0 h1]
  rw [IntKind.wrap_i64, IntKind.wrap_i64, IntKind.wrap_i64]
  omega
theorem next_yes (x b : Int) (h0 : 0 ≤ b) (h1 : b < 256) (h : -36028797018963968 ≤ x ∧ x < 36028797018963968) : IntKind.i64.wrap (x * 256 + b) = 256 * x + b ∧ (256 * x + b) / 256 = x := by
  rw [IntKind.wrap_i64]; omega
theorem next_no (x b : Int) (hx0 : -9223372036854775808 ≤ x) (hx1 : x ≤ 9223372036854775807) (h0 : 0 ≤ b) (h1 : b < 256) (h : ¬ (-36028797018963968 ≤ x ∧ x < 36028797018963968)) : IntKind.i64.wrap (x * 256 + b) / 256 ≠ x := by
  rw [IntKind.wrap_i64]; omega
theorem oct_or (x b : Int) (h0 : 0 ≤ x) (h1 : x ≤ 1152921504606846975) (hb : 48 ≤ b) (hb1 : b ≤ 55) : Go.bits .or .i64 (x * 8) (b - 48) = 8 * x + (b - 48) := by
  rw [or_low_int 3 (by decide) _ _ (by omega) (by omega) (by omega), IntKind.wrap_i64]
  omega
end Go.Proofs.YtiioiikcjaiajaaDoor.Oct

/- What is put is taken: plainly. -/
namespace Go.Proofs.YtiioiikcjaiajaaDoor.Oct
set_option linter.unusedVariables false
set_option linter.unusedSimpArgs false

theorem oct_app (b : List Int) : ∀ (a : List Int) (x : Int), oct (a ++ b) x = (oct a x).bind (oct b) := by
  intro a
  induction a with
  | nil => intro x; rfl
  | cons y a ih =>
    intro x
    show (if _ then _ else _) = Option.bind (if _ then _ else _) _
    split
    · rfl
    · exact ih _
theorem binr_app (b : List Int) : ∀ (a : List Int) (x : Int), binr (a ++ b) x = (binr a x).bind (binr b) := by
  intro a
  induction a with
  | nil => intro x; rfl
  | cons y a ih =>
    intro x
    show (if _ then _ else _) = Option.bind (if _ then _ else _) _
    split
    · exact ih _
    · rfl
theorem oct_ds (m : Nat) : ∀ (x y : Int), 0 ≤ x → 0 ≤ y → y * 8 ^ m + x % 8 ^ m ≤ 9223372036854775807 → oct (ds g8 (· / 8) m x) y = some (y * 8 ^ m + x % 8 ^ m) := by
  induction m with
  | zero => intro x y _ _ _; simp [ds, oct, Int.emod_one]
  | succ m ih =>
    intro x y hx hy hb
    have e : x % 8 ^ (m + 1) = 8 * (x / 8 % 8 ^ m) + x % 8 := by
      have h1 := Int.mul_ediv_add_emod x (8 ^ (m + 1))
      have h2 := Int.mul_ediv_add_emod (x / 8) (8 ^ m)
      have h3 : x / 8 / 8 ^ m = x / 8 ^ (m + 1) := by rw [Int.ediv_ediv_of_nonneg (by omega), Int.pow_succ, Int.mul_comm]
      rw [h3] at h2
      rw [Int.pow_succ] at h1 ⊢
      have h4 : (8 ^ m * 8) * (x / (8 ^ m * 8)) = 8 * (8 ^ m * (x / (8 ^ m * 8))) := by rw [Int.mul_comm (8 ^ m) 8, Int.mul_assoc]
      rw [Int.pow_succ] at h2
      omega
    have e2 : y * 8 ^ (m + 1) = 8 * (y * 8 ^ m) := by rw [Int.pow_succ, ← Int.mul_assoc, Int.mul_comm]
    rw [e, e2] at hb ⊢
    rw [ds, oct_app, ih (x / 8) y (by omega) hy (by omega)]
    show (if _ then none else some (8 * (y * 8 ^ m + x / 8 % 8 ^ m) + (g8 x - 48))) = _
    unfold g8
    rw [if_neg (by omega)]
    congr 1
    omega
theorem ds_dig (m : Nat) : ∀ x, ∀ b ∈ ds g8 (· / 8) m x, 48 ≤ b ∧ b ≤ 55 := by
  induction m with
  | zero => intro x b h; cases h
  | succ m ih =>
    intro x b h
    rcases List.mem_append.1 h with h | h
    · exact ih _ b h
    · rcases List.mem_singleton.1 h with rfl
      unfold g8
      omega
theorem ds_cons (g h : Int → Int) (j : Nat) : ∀ x, ds g h (j + 1) x = g (it h j x) :: ds g h j x := by
  induction j with
  | zero => intro x; rfl
  | succ j ih =>
    intro x
    rw [ds, ih (h x)]
    rfl
theorem binr_ds (j : Nat) : ∀ x : Int, -9223372036854775808 ≤ x → x ≤ 9223372036854775807 → binr (ds g256 (· / 256) j x) (x / 256 ^ j) = some x := by
  induction j with
  | zero => intro x _ _; simp [ds, binr]
  | succ j ih =>
    intro x h0 h1
    have h3 : x / 256 ^ (j + 1) = x / 256 / 256 ^ j := by rw [Int.ediv_ediv_of_nonneg (by omega), Int.pow_succ, Int.mul_comm]
    rw [h3, ds, binr_app, ih (x / 256) (by omega) (by omega)]
    show (if _ then some (256 * (x / 256) + g256 x) else none) = _
    unfold g256
    rw [if_pos (by omega)]
    congr 1
    omega
theorem nar_cases {n : Nat} {x : Int} (hx1 : x ≤ 9223372036854775807) (h : nar n x = true) : 0 ≤ x ∧ x % 8 ^ (n - 1) = x := by
  obtain ⟨h0, h1, h2⟩ := of_decide_eq_true h
  refine ⟨h1, Int.emod_eq_of_lt h1 ?_⟩
  rcases h2 with h2 | h2
  · have : (8 : Int) ^ 21 ≤ 8 ^ (n - 1) := by exact_mod_cast (Nat.pow_le_pow_right (n := 8) (by decide) (by omega) : 8 ^ 21 ≤ 8 ^ (n - 1))
    have e : (8 : Int) ^ 21 = 9223372036854775808 := rfl
    omega
  · have hn : (3 * ((n : Int) - 1)).toNat = 3 * (n - 1) := by omega
    rw [hn, Int.pow_mul] at h2
    have hp : (0 : Int) < (2 ^ 3) ^ (n - 1) := Int.pow_pos (by decide)
    have e : (8 : Int) ^ (n - 1) = (2 ^ 3) ^ (n - 1) := rfl
    rw [e]
    have := Int.lt_mul_ediv_self_add (x := x) hp
    rw [h2] at this
    omega

theorem dw_of_all {p : Int → Bool} (t : List Int) : ∀ l : List Int, (∀ b ∈ l, p b = true) → (l ++ t).dropWhile p = t.dropWhile p ∧ (l ++ t).takeWhile p = l ++ t.takeWhile p := by
  intro l
  induction l with
  | nil => intro _; exact ⟨rfl, rfl⟩
  | cons b l ih =>
    intro h
    obtain ⟨h1, h2⟩ := ih (fun c hc => h c (List.mem_cons_of_mem _ hc))
    have hb := h b List.mem_cons_self
    rw [List.cons_append, List.dropWhile_cons_of_pos hb, List.takeWhile_cons_of_pos hb, h1, h2]
    exact ⟨rfl, rfl⟩
theorem take_nar (n : Nat) (x : Int) (hn : 0 < n) (hx1 : x ≤ 9223372036854775807) (h : nar n x = true) : takeA (putB n x) = (none, x) := by
  obtain ⟨h0, h2⟩ := nar_cases hx1 h
  unfold putB
  rw [if_pos h]
  have hd := ds_dig (n - 1) x
  have ho := oct_ds (n - 1) x 0 h0 (Int.le_refl 0) (by rw [Int.zero_mul, h2]; omega)
  rw [Int.zero_mul, h2, Int.zero_add] at ho
  have hz : ∀ b ∈ ds g8 (· / 8) (n - 1) x, dig b = true := fun b hb => decide_eq_true (hd b hb)
  obtain ⟨w1, w2⟩ := dw_of_all [0] _ hz
  generalize ds g8 (· / 8) (n - 1) x = l at *
  have hs : (l ++ [0]).dropWhile spc = l ++ [0] := by
    cases l with
    | nil => rfl
    | cons b l =>
      have := hd b List.mem_cons_self
      exact List.dropWhile_cons_of_neg (by simp [spc]; omega)
  have hc : takeA (l ++ [0]) = if (((l ++ [0]).dropWhile spc).dropWhile dig).all wht then ans 1 (oct (((l ++ [0]).dropWhile spc).takeWhile dig) 0) else (some 2, 0) := by
    cases l with
    | nil => rfl
    | cons b l =>
      have := hd b List.mem_cons_self
      show (if 128 ≤ b then _ else _) = _
      rw [if_neg (by omega)]
  rw [hc, hs, w1, w2]
  have e1 : ([0] : List Int).dropWhile dig = [0] := rfl
  have e2 : ([0] : List Int).takeWhile dig = [] := rfl
  rw [e1, e2, List.append_nil, ho]
  rfl
theorem fin_or128 : ∀ b : Fin 256, Go.bits .or .u8 ((b.val : Nat) : Int) 128 = ((b.val % 128 + 128 : Nat) : Int) := by decide +kernel
theorem or128 (b : Int) (h0 : 0 ≤ b) (h1 : b < 256) : Go.bits .or .u8 b 128 = b % 128 + 128 := by
  obtain ⟨n, rfl⟩ := Int.eq_ofNat_of_zero_le h0
  have h := fin_or128 ⟨n, by omega⟩
  simp only at h
  exact h.trans (by omega)
theorem wide_top (n : Nat) (x : Int) (hx0 : -9223372036854775808 ≤ x) (hx1 : x ≤ 9223372036854775807) (hf : fit n x = true) (h : nar n x = false) : 2 ≤ n ∧ -64 ≤ x / 256 ^ (n - 1) ∧ x / 256 ^ (n - 1) < 64 := by
  unfold fit at hf
  rw [h, Bool.false_or] at hf
  by_cases h9 : 9 ≤ n
  · refine ⟨by omega, ?_⟩
    have e : x / 256 ^ (n - 1) = x / 256 ^ 8 / 256 ^ (n - 9) := by
      rw [Int.ediv_ediv_of_nonneg (by decide), ← Int.pow_add, show 8 + (n - 9) = n - 1 from by omega]
    have e8 : (256 : Int) ^ 8 = 18446744073709551616 := rfl
    rw [e, e8]
    have hp : (0 : Int) < 256 ^ (n - 9) := Int.pow_pos (by decide)
    have hq : x / 18446744073709551616 = 0 ∨ x / 18446744073709551616 = -1 := by omega
    rcases hq with hq | hq
    · rw [hq, Int.zero_ediv]; omega
    · rw [hq, Int.neg_one_ediv, Int.sign_eq_one_of_pos hp]; omega
  · rw [decide_eq_false (by omega)] at hf
    by_cases h2 : (n : Int) < 2
    · rw [if_neg (by simp), if_pos h2] at hf
      cases hf
    · rw [if_neg (by simp), if_neg h2] at hf
      have hq := of_decide_eq_true hf
      refine ⟨by omega, ?_⟩
      have e : (8 * (n : Int) - 2).toNat = 8 * (n - 1) + 6 := by omega
      rw [e, Int.pow_add, ← Int.ediv_ediv_of_nonneg (Int.le_of_lt (Int.pow_pos (by decide))), Int.pow_mul] at hq
      have e8 : (2 : Int) ^ 8 = 256 := rfl
      have e6 : (2 : Int) ^ 6 = 64 := rfl
      rw [e8, e6] at hq
      omega
theorem take_wide (n : Nat) (x : Int) (hx0 : -9223372036854775808 ≤ x) (hx1 : x ≤ 9223372036854775807) (hf : fit n x = true) (h : nar n x = false) : takeA (putB n x) = (none, x) := by
  obtain ⟨h2, h3, h4⟩ := wide_top n x hx0 hx1 hf h
  obtain ⟨m, rfl⟩ : ∃ m, n = m + 1 := ⟨n - 1, by omega⟩
  unfold putB
  rw [if_neg (by rw [h]; simp), ds_cons, List.set_cons_zero, it_div 256 (by decide)]
  rw [Nat.add_sub_cancel] at h3 h4
  have hb := binr_ds m x hx0 hx1
  generalize ds g256 (· / 256) m x = l at *
  generalize x / 256 ^ m = y at *
  have hg : (g256 y :: l).getD 0 0 = g256 y := rfl
  rw [hg, or128 _ (by unfold g256; omega) (by unfold g256; omega)]
  show (if _ then ans 1 (binr l (top _)) else _) = _
  have ht : top (g256 y % 128 + 128) = y := by unfold top g256; split <;> omega
  rw [if_pos (by omega), ht, hb]
  rfl
theorem ds256_byte (m : Nat) : ∀ x, ∀ b ∈ ds g256 (· / 256) m x, 0 ≤ b ∧ b < 256 := by
  induction m with
  | zero => intro x b h; cases h
  | succ m ih =>
    intro x b h
    rcases List.mem_append.1 h with h | h
    · exact ih _ b h
    · rcases List.mem_singleton.1 h with rfl
      unfold g256
      omega
theorem putB_byte (n : Nat) (x : Int) (hn : 0 < n) : ∀ b ∈ putB n x, 0 ≤ b ∧ b < 256 := by
  intro b hb
  unfold putB at hb
  split at hb
  · rcases List.mem_append.1 hb with hb | hb
    · have := ds_dig _ _ b hb
      omega
    · rcases List.mem_singleton.1 hb with rfl
      omega
  · obtain ⟨m, rfl⟩ : ∃ m, n = m + 1 := ⟨n - 1, by omega⟩
    have hd := ds256_byte (m + 1) x
    rw [ds_cons] at hb hd
    rw [List.set_cons_zero] at hb
    have h0 := hd _ List.mem_cons_self
    rcases List.mem_cons.1 hb with rfl | hb
    · have e : (g256 (it (· / 256) m x) :: ds g256 (· / 256) m x).getD 0 0 = g256 (it (· / 256) m x) := rfl
      rw [e, or128 _ h0.1 h0.2]
      omega
    · exact hd b (List.mem_cons_of_mem _ hb)
theorem take_put (n : Nat) (x : Int) (hn : 0 < n) (hx0 : -9223372036854775808 ≤ x) (hx1 : x ≤ 9223372036854775807) (hf : fit n x = true) : takeA (putB n x) = (none, x) := by
  cases h : nar n x with
  | true => exact take_nar n x hn hx1 h
  | false => exact take_wide n x hx0 hx1 hf h
theorem fit_short (n x : Int) (h0 : 1 ≤ n) (h : fit n x = false) : n < 9 := by
  unfold fit at h
  by_cases h9 : 9 ≤ n
  · rw [decide_eq_true h9, Bool.or_true, if_pos rfl] at h
    have := of_decide_eq_false h
    omega
  · omega
theorem fit_more (n x : Int) (h0 : 1 ≤ n) (h : fit n x = true) : fit (n + 1) x = true := by
  by_cases h8 : 8 ≤ n
  · unfold fit
    rw [decide_eq_true (by omega : 9 ≤ n + 1), Bool.or_true, if_pos rfl]
    exact decide_eq_true (by omega)
  · unfold fit at h
    rw [decide_eq_false (by omega : ¬ 9 ≤ n), Bool.or_false] at h
    obtain ⟨m, rfl⟩ : ∃ m : Nat, n = m + 1 := ⟨(n - 1).toNat, by omega⟩
    cases hb : nar ((m : Int) + 1) x with
    | true =>
      obtain ⟨h1, h2, h3⟩ := of_decide_eq_true hb
      have hn : nar ((m : Int) + 1 + 1) x = true := by
        refine decide_eq_true ⟨by omega, h2, .inr ?_⟩
        have h3 := h3.resolve_left (by omega)
        have e1 : (3 * ((m : Int) + 1 - 1)).toNat = 3 * m := by omega
        have e2 : (3 * ((m : Int) + 1 + 1 - 1)).toNat = 3 * m + 3 := by omega
        rw [e1] at h3
        rw [e2, Int.pow_add, ← Int.ediv_ediv_of_nonneg (Int.le_of_lt (Int.pow_pos (by decide))), h3]
        rfl
      unfold fit
      rw [hn, Bool.true_or, if_pos rfl]
      exact decide_eq_true (by omega)
    | false =>
      rw [hb, if_neg (by simp)] at h
      by_cases h2 : (m : Int) + 1 < 2
      · rw [if_pos h2] at h
        cases h
      · rw [if_neg h2] at h
        have hq := of_decide_eq_true h
        have e1 : (8 * ((m : Int) + 1) - 2).toNat = 8 * m + 6 := by omega
        have e2 : (8 * ((m : Int) + 1 + 1) - 2).toNat = 8 * m + 6 + 8 := by omega
        rw [e1] at hq
        have hd : x / 2 ^ (8 * ((m : Int) + 1 + 1) - 2).toNat = 0 ∨ x / 2 ^ (8 * ((m : Int) + 1 + 1) - 2).toNat = -1 := by
          rw [e2, Int.pow_add, ← Int.ediv_ediv_of_nonneg (Int.le_of_lt (Int.pow_pos (by decide)))]
          have e8 : (2 : Int) ^ 8 = 256 := rfl
          rw [e8]
          omega
        unfold fit
        rw [decide_eq_false (by omega : ¬ 9 ≤ (m : Int) + 1 + 1), Bool.or_false]
        split
        · exact decide_eq_true (by omega)
        · rw [if_neg (by omega)]
          exact decide_eq_true hd
end Go.Proofs.YtiioiikcjaiajaaDoor.Oct

/- Heads, plainly: a block of 512 bytes by its fields, what Put writes, what Take reads. No program in sight. -/
set_option maxRecDepth 100000
namespace Go.Proofs.YtiioiikcjaiajaaDoor.Hd
open Go.Proofs.YtiioiikcjaiajaaDoor.Oct Go.Proofs.YtiioiikcjaiajaaDoorW.PrintWords
set_option linter.unusedVariables false
set_option linter.unusedSimpArgs false

/-- A block with some bytes laid at a place; the bytes at a place. -/
def patch (l : List Int) (o : Nat) (b : List Int) : List Int := l.take o ++ b ++ l.drop (o + b.length)
def fld (l : List Int) (o n : Nat) : List Int := (l.drop o).take n
theorem patch_length {l : List Int} {o : Nat} {b : List Int} (h : o + b.length ≤ l.length) : (patch l o b).length = l.length := by
  unfold patch
  simp only [List.length_append, List.length_take, List.length_drop]
  omega
theorem fld_length {l : List Int} {o n : Nat} (h : o + n ≤ l.length) : (fld l o n).length = n := by
  unfold fld
  simp only [List.length_take, List.length_drop]
  omega
theorem patch_get {l : List Int} {o : Nat} {b : List Int} (h : o + b.length ≤ l.length) (i : Nat) : (patch l o b)[i]? = if o ≤ i ∧ i < o + b.length then b[i - o]? else l[i]? := by
  unfold patch
  have ht : (l.take o).length = o := by rw [List.length_take]; omega
  by_cases h1 : i < o
  · rw [if_neg (by omega), List.append_assoc, List.getElem?_append_left (by omega), List.getElem?_take, if_pos h1]
  · by_cases h2 : i < o + b.length
    · rw [if_pos ⟨by omega, h2⟩, List.append_assoc, List.getElem?_append_right (by omega), List.getElem?_append_left (by omega), ht]
    · rw [if_neg (by omega), List.append_assoc, List.getElem?_append_right (by omega), List.getElem?_append_right (by omega), List.getElem?_drop, ht]
      congr 1
      omega
theorem fld_get (l : List Int) (o n i : Nat) : (fld l o n)[i]? = if i < n then l[o + i]? else none := by
  unfold fld
  rw [List.getElem?_take]
  split
  · rw [List.getElem?_drop]
  · rfl
theorem fld_same {l : List Int} {o : Nat} {b : List Int} {n : Nat} (hn : b.length = n) (h : o + n ≤ l.length) : fld (patch l o b) o n = b := by
  subst hn
  apply List.ext_getElem?
  intro i
  rw [fld_get, patch_get h]
  by_cases hi : i < b.length
  · rw [if_pos hi, if_pos ⟨by omega, by omega⟩, Nat.add_sub_cancel_left]
  · rw [if_neg hi, List.getElem?_eq_none (by omega)]
theorem fld_other {l : List Int} {o : Nat} {b : List Int} {p n : Nat} (h : o + b.length ≤ l.length) (hd : p + n ≤ o ∨ o + b.length ≤ p) : fld (patch l o b) p n = fld l p n := by
  apply List.ext_getElem?
  intro i
  rw [fld_get, fld_get]
  by_cases hi : i < n
  · rw [if_pos hi, if_pos hi, patch_get h, if_neg (by omega)]
  · rw [if_neg hi, if_neg hi]
theorem fld_app {l m : List Int} {o n : Nat} (h : o + n ≤ l.length) : fld (l ++ m) o n = fld l o n := by
  apply List.ext_getElem?
  intro i
  rw [fld_get, fld_get]
  by_cases hi : i < n
  · rw [if_pos hi, if_pos hi, List.getElem?_append_left (by omega)]
  · rw [if_neg hi, if_neg hi]
theorem set_patch {l : List Int} {i : Nat} (x : Int) (h : i < l.length) : l.set i x = patch l i [x] := by
  apply List.ext_getElem?
  intro j
  rw [patch_get (by rw [List.length_singleton]; omega), List.getElem?_set]
  by_cases e : i = j
  · subst e
    rw [if_pos rfl, if_pos h, if_pos ⟨Nat.le_refl _, by simp⟩]
    simp
  · rw [if_neg e, if_neg (by simp; omega)]
theorem putAt_patch {l : List Int} {o n : Nat} {x : Int} (hn : 0 < n) : putAt l o n x = patch l o (putB n x) := by
  unfold putAt patch
  rw [putB_length n x hn]

/-- A text's bytes; a text in a field; the text of a field. -/
def bs (s : ByteArray) : List Int := s.data.toList.map fun b => (b.toNat : Int)
theorem bs_len (s : ByteArray) : (bs s).length = s.size := by unfold bs; rw [List.length_map, Array.length_toList]; rfl
def txt (s : ByteArray) (n : Nat) : List Int := bs s ++ List.replicate (n - s.size) 0
theorem txt_len {s : ByteArray} {n : Nat} (h : s.size ≤ n) : (txt s n).length = n := by unfold txt; rw [List.length_append, bs_len, List.length_replicate]; omega
theorem bs_byte (s : ByteArray) : ∀ b ∈ bs s, 0 ≤ b ∧ b < 256 := by
  intro b hb
  obtain ⟨x, _, rfl⟩ := List.mem_map.1 hb
  have := x.toNat_lt
  omega
theorem txt_byte (s : ByteArray) (n : Nat) : ∀ b ∈ txt s n, 0 ≤ b ∧ b < 256 := by
  intro b hb
  rcases List.mem_append.1 hb with h | h
  · exact bs_byte s b h
  · rw [List.eq_of_mem_replicate h]; omega
theorem str_bs (s : ByteArray) : strOfNums (bs s) = s := by
  unfold strOfNums bs
  rw [List.map_map]
  have : s.data.toList.map ((fun n : Int => UInt8.ofNat n.toNat) ∘ fun b : UInt8 => (b.toNat : Int)) = s.data.toList := by
    conv => rhs; rw [← List.map_id s.data.toList]
    apply List.map_congr_left
    intro b _
    simp
  rw [this]
def nz (b : Int) : Bool := decide (b ≠ 0)
def textOf (l : List Int) : ByteArray := strOfNums (l.takeWhile nz)
/-- Has a text no nought? -/
def noN (s : ByteArray) : Bool := (bs s).all nz
theorem textOf_txt {s : ByteArray} {n : Nat} (h : noN s = true) : textOf (txt s n) = s := by
  unfold textOf txt
  have := (dw_of_all (p := nz) (List.replicate (n - s.size) 0) (bs s) (fun b hb => List.all_eq_true.1 h b hb)).2
  rw [this]
  have e : (List.replicate (n - s.size) (0 : Int)).takeWhile nz = [] := by
    cases n - s.size with
    | zero => rfl
    | succ m => rfl
  rw [e, List.append_nil, str_bs]

/-- The sum of the bytes ahead of a place, those of the sum's field as blanks. -/
def sumTo (l : List Int) : Nat → Int
  | 0 => 256
  | i + 1 => sumTo l i + if 148 ≤ i ∧ i < 156 then 0 else l.getD i 0
def sumH (l : List Int) : Int := sumTo l 512
theorem sumTo_bd {l : List Int} (h : ∀ b ∈ l, 0 ≤ b ∧ b < 256) : ∀ i, 256 ≤ sumTo l i ∧ sumTo l i ≤ 256 + 255 * i := by
  intro i
  induction i with
  | zero => exact ⟨Int.le_refl _, by show (256 : Int) ≤ _; omega⟩
  | succ i ih =>
    have hb : 0 ≤ l.getD i 0 ∧ l.getD i 0 < 256 := by
      rw [List.getD_eq_getElem?_getD]
      by_cases hi : i < l.length
      · rw [List.getElem?_eq_getElem hi]; exact h _ (List.getElem_mem hi)
      · rw [List.getElem?_eq_none (by omega)]; decide
    show 256 ≤ sumTo l i + _ ∧ sumTo l i + _ ≤ _
    split <;> omega
theorem sumTo_congr {l m : List Int} : ∀ i, (∀ j, j < i → (j < 148 ∨ 156 ≤ j) → l.getD j 0 = m.getD j 0) → sumTo l i = sumTo m i := by
  intro i
  induction i with
  | zero => intro _; rfl
  | succ i ih =>
    intro h
    show sumTo l i + _ = sumTo m i + _
    rw [ih (fun j hj hd => h j (by omega) hd)]
    by_cases hi : 148 ≤ i ∧ i < 156
    · rw [if_pos hi, if_pos hi]
    · rw [if_neg hi, if_neg hi, h i (by omega) (by omega)]
theorem sumH_patch {l : List Int} {o : Nat} {b : List Int} (h : o + b.length ≤ l.length) (h0 : 148 ≤ o) (h1 : o + b.length ≤ 156) : sumH (patch l o b) = sumH l :=
  sumTo_congr 512 (fun j hj hd => by rw [List.getD_eq_getElem?_getD, List.getD_eq_getElem?_getD, patch_get h, if_neg (by omega)])
theorem sumH_app {l m : List Int} (h : 512 ≤ l.length) : sumH (l ++ m) = sumH l :=
  sumTo_congr 512 (fun j hj hd => by rw [List.getD_eq_getElem?_getD, List.getD_eq_getElem?_getD, List.getElem?_append_left (by omega)])
theorem sumTo_set {l : List Int} {k : Nat} {v : Int} (hk : k < l.length) (hd : k < 148 ∨ 156 ≤ k) : ∀ i, sumTo (l.set k v) i = sumTo l i + if k < i then v - l.getD k 0 else 0 := by
  intro i
  induction i with
  | zero => show (256 : Int) = 256 + _; rw [if_neg (by omega)]; rfl
  | succ i ih =>
    show sumTo (l.set k v) i + _ = sumTo l i + _ + _
    rw [ih]
    by_cases e : i = k
    · subst e
      rw [if_neg (by omega), if_neg (by omega), if_neg (by omega), if_pos (by omega)]
      rw [List.getD_eq_getElem?_getD, List.getElem?_set_self hk]
      simp only [Option.getD_some]
      omega
    · have e2 : (l.set k v).getD i 0 = l.getD i 0 := by
        rw [List.getD_eq_getElem?_getD, List.getD_eq_getElem?_getD, List.getElem?_set_ne (fun h => e h.symm)]
      rw [e2]
      by_cases hi : k < i
      · rw [if_pos hi, if_pos (show k < i + 1 by omega)]
        generalize (if 148 ≤ i ∧ i < 156 then (0 : Int) else l.getD i 0) = q
        omega
      · rw [if_neg hi, if_neg (show ¬ k < i + 1 by omega)]
        generalize (if 148 ≤ i ∧ i < 156 then (0 : Int) else l.getD i 0) = q
        omega

/-- A head. -/
structure Hd where
  nm : ByteArray
  mo : Int
  ui : Int
  gi : Int
  si : Int
  ti : Int
  ki : Int
  li : ByteArray
  us : ByteArray
  gr : ByteArray
  ma : Int
  mi : Int
def zero : Hd := ⟨⟨#[]⟩, 0, 0, 0, 0, 0, 0, ⟨#[]⟩, ⟨#[]⟩, ⟨#[]⟩, 0, 0⟩
def Hd.num (h : Hd) : Nat → Int
  | 0 => h.mo
  | 1 => h.ui
  | 2 => h.gi
  | 3 => h.si
  | 4 => h.ti
  | 5 => h.ma
  | _ => h.mi
def Hd.setNum (h : Hd) (i : Nat) (x : Int) : Hd :=
  match i with
  | 0 => { h with mo := x }
  | 1 => { h with ui := x }
  | 2 => { h with gi := x }
  | 3 => { h with si := x }
  | 4 => { h with ti := x }
  | 5 => { h with ma := x }
  | _ => { h with mi := x }
/-- Where the numbers lie, and how long they are. -/
def nAt : Nat → Nat
  | 0 => 100
  | 1 => 108
  | 2 => 116
  | 3 => 124
  | 4 => 136
  | 5 => 329
  | _ => 337
def nSz : Nat → Nat
  | 3 => 12
  | 4 => 12
  | _ => 8
/-- Where the texts lie, and how long they are. -/
def tAt : Nat → Nat
  | 0 => 0
  | 1 => 157
  | 2 => 257
  | 3 => 265
  | 4 => 297
  | _ => 345
def tSz : Nat → Nat
  | 0 => 100
  | 1 => 100
  | 2 => 6
  | 3 => 32
  | 4 => 32
  | _ => 155
/-- Where a name is cut: none, if it doesn't fit. -/
def cutX (s : ByteArray) : Int := Go.Lib.indexByte (s.extract (s.size - 100 - 1) s.size).data.toList 47
def cutAt (s : ByteArray) : Int := (s.size : Int) - 100 - 1 + cutX s
def cutOk (s : ByteArray) : Bool := decide (s.size ≤ 100) || decide (0 ≤ cutX s ∧ cutAt s ≠ 0 ∧ cutAt s ≤ 155 ∧ cutAt s < (s.size : Int) - 1)
def aheadOf (s : ByteArray) : ByteArray := if s.size ≤ 100 then ⟨#[]⟩ else s.extract 0 (cutAt s).toNat
def rest (s : ByteArray) : ByteArray := if s.size ≤ 100 then s else s.extract ((cutAt s).toNat + 1) s.size
def ustar : ByteArray := ⟨#[117, 115, 116, 97, 114]⟩
def Hd.text (h : Hd) : Nat → ByteArray
  | 0 => rest h.nm
  | 1 => h.li
  | 2 => ustar
  | 3 => h.us
  | 4 => h.gr
  | _ => aheadOf h.nm
def putT (h : Hd) : Nat → List Int → List Int
  | 0, l => l
  | i + 1, l => patch (putT h i l) (tAt i) (txt (h.text i) (tSz i))
def putN (h : Hd) : Nat → List Int → List Int
  | 0, l => l
  | i + 1, l => patch (putN h i l) (nAt i) (putB (nSz i) (h.num i))
def nought : List Int := List.replicate 512 0
def body (h : Hd) : List Int := (((putN h 7 (putT h 6 nought)).set 156 h.ki).set 263 48).set 264 48
def headB (h : Hd) : List Int := patch ((body h).set 155 32) 148 (putB 7 (sumH (body h)))
def fitsN (h : Hd) (i : Nat) : Bool := fit (nSz i) (h.num i)
def headE (h : Hd) : Option Int :=
  if !(noN h.nm && noN h.li && noN h.us && noN h.gr) then some 2
  else if !cutOk h.nm || decide (100 < h.li.size) || decide (32 < h.us.size) || decide (32 < h.gr.size) then some 3
  else if (List.range 7).all (fitsN h) then none else some 1

/-- Have bytes their sum? -/
def summed (xs : List Int) : Bool := decide (takeA (fld xs 148 8) = (none, sumH xs))
def fresh : List Int := [117, 115, 116, 97, 114, 0]
def other : List Int := [117, 115, 116, 97, 114, 32]
def old : List Int := [0, 0, 0, 0, 0, 0]
/-- The numbers from the i-th to the n-th. -/
def takeNs (xs : List Int) (n : Nat) : Nat → Hd → Option Int × Hd
  | 0, h => (none, h)
  | k + 1, h =>
    match takeA (fld xs (nAt (n - (k + 1))) (nSz (n - (k + 1)))) with
    | (none, x) => takeNs xs n k (h.setNum (n - (k + 1)) x)
    | (some e, _) => (some e, zero)
def joinN (a b : ByteArray) : ByteArray := a ++ (⟨#[47]⟩ ++ b)
def head0 (xs : List Int) : Hd := { zero with nm := textOf (fld xs 0 100), ki := xs.getD 156 0, li := textOf (fld xs 157 100) }
def endH (xs : List Int) (h : Hd) : Hd :=
  { h with nm := if fld xs 257 6 = fresh ∧ (textOf (fld xs 345 155)).size ≠ 0 then joinN (textOf (fld xs 345 155)) h.nm else h.nm, ki := if h.ki = 0 then 48 else h.ki }
def takeH (xs : List Int) : Option Int × Hd :=
  if xs.length < 512 then (some 10, zero)
  else if !summed xs then (some 6, zero)
  else if fld xs 257 6 = fresh ∨ fld xs 257 6 = other then
    match takeNs xs 7 7 { head0 xs with us := textOf (fld xs 265 32), gr := textOf (fld xs 297 32) } with
    | (none, h) => (none, endH xs h)
    | (some e, _) => (some e, zero)
  else if fld xs 257 6 = old then
    match takeNs xs 5 5 (head0 xs) with
    | (none, h) => (none, endH xs h)
    | (some e, _) => (some e, zero)
  else (some 11, zero)
end Go.Proofs.YtiioiikcjaiajaaDoor.Hd

/- Small words for walks: blocks of bytes known whole, slices of the call's own. No program in sight but for its byte type's row. -/
namespace Go.Proofs.YtiioiikcjaiajaaDoor.My
open Go.RowKit Go.Proofs.YtiioiikcjaiajaaDoorW.PrintWords Go.Proofs.YtiioiikcjaiajaaDoorW.PrintLast Go.Proofs.YtiioiikcjaiajaaDoorW.PrintMore

theorem alloc_self (w : World) (o : Obj) : (w.alloc o).heap[w.heap.size]? = some o := by
  show (w.heap.push o)[w.heap.size]? = _
  simp
theorem C_block (w : World) (g : Nat) (k : IntKind) (xs : List Int) (e : TypeId) (fr : Nat × Nat) (h : w.heap[g]? = some (.cells (nums k xs).toArray e fr)) (hm : xs.length ≤ 9223372036854775807) :
    Kd.C (Kd.int k) w (some ⟨g, 0, none⟩) xs.length xs := by
  refine Kd.C_of_reads (d := 0) ⟨rfl, hm, fun _ => ⟨_, rfl, fun j hj => ?_⟩⟩
  rw [add_plain, World.cell?]
  simp [h, nums, hj]
theorem reads_of_C {k : IntKind} {w : World} {A : Option Addr} {n : Nat} {xs : List Int} (h : (Kd.int k).C w A n xs) : ReadsInt w k A n xs := by
  refine ⟨h.1, h.2.1, fun hn => ?_⟩
  obtain ⟨ad, rfl, hc⟩ := Kd.at_int h 0 (by omega) (by omega)
  refine ⟨ad, rfl, fun j hj => ?_⟩
  obtain ⟨ad', e, hc'⟩ := Kd.at_int h j (by omega) (by omega)
  cases e
  simpa [rd] using hc'
theorem C_of_readsInt {k : IntKind} {w : World} {A : Option Addr} {n : Nat} {xs : List Int} (h : ReadsInt w k A n xs) : (Kd.int k).C w A n xs := Kd.C_of_reads (d := 0) h
theorem own_slice' {w : World} {base n : Nat} {e : TypeId} {k : IntKind} {v : Value} {xs : List Int} (h : w.ownsRow base e 1 v n (nums k xs)) : ∃ A c, v = .slice A n c ∧ n ≤ c ∧ (Kd.int k).C w A n xs := by
  obtain ⟨A, c, rfl, hr⟩ := own_reads h
  refine ⟨A, c, rfl, ?_, C_of_readsInt hr⟩
  rcases h.2 with ⟨h1, h2⟩ | ⟨g, cap, cur, h1, _, _, h3, _⟩
  · omega
  · cases h1; exact h3

theorem grown_set (w : World) (g i : Nat) (v : Value) : w.grownBy (w.setCell ⟨g, i, none⟩ v) (some g) :=
  ⟨rfl, rfl, rfl, by simp [World.setCell], fun k _ hk => Below.heap_setCell _ _ _ _ (fun e => hk (by rw [e]))⟩
theorem grown_trans {w w1 w2 : World} {row : Option Nat} (h : w.grownBy w1 row) (k : w1.grownBy w2 row) : w.grownBy w2 row :=
  ⟨k.os.trans h.os, k.tape.trans h.tape, k.output.trans h.output, Nat.le_trans h.size k.size, fun i hi hr => (k.block i (Nat.lt_of_lt_of_le hi h.size) hr).trans (h.block i hi hr)⟩
theorem grown_refl (w : World) (row : Option Nat) : w.grownBy w row := World.grownBy.refl w row
theorem grown_drewN {w w1 : World} {row : Option Nat} (h : w.grownBy w1 row) (n : Nat) : w.grownBy (w1.drewN n) row := ⟨h.os, h.tape, h.output, h.size, h.block⟩
theorem grown_drew {w w1 : World} {row : Option Nat} (h : w.grownBy w1 row) : w.grownBy w1.drew row := ⟨h.os, h.tape, h.output, h.size, h.block⟩
theorem grown_below {w w1 : World} (h : Below w.heap.size w w1) (row : Option Nat) : w.grownBy w1 row := ⟨h.os, h.tape, h.output, h.size, fun k hk _ => h.block k hk⟩
theorem below_grown {B : Nat} {w w1 w2 : World} {g : Nat} (h : Below B w w1) (k : w1.grownBy w2 (some g)) (hB : B ≤ w1.heap.size) (hg : B ≤ g) : Below B w w2 :=
  h.grown k hB (fun i hi => by cases hi; exact hg)
/-- An error of the program's own numbers, or none. -/
def errV : Option Int → Value
  | none => .nilIface
  | some c => .iface 42 (.int .i64 c)
theorem wf_u8 {n : Int} (h : (Lit.int .u8 n).wf = true) : 0 ≤ n ∧ n < 256 := by
  simp [Lit.wf, IntKind.min, IntKind.max, IntKind.bits, IntKind.signed] at h
  omega
theorem wf_u32 {n : Int} (h : (Lit.int .u32 n).wf = true) : 0 ≤ n ∧ n < 4294967296 := by
  simp [Lit.wf, IntKind.min, IntKind.max, IntKind.bits, IntKind.signed] at h
  omega
theorem wf_i64 {n : Int} (h : (Lit.int .i64 n).wf = true) : -9223372036854775808 ≤ n ∧ n ≤ 9223372036854775807 := by
  simp [Lit.wf, IntKind.min, IntKind.max, IntKind.bits, IntKind.signed] at h
  omega
end Go.Proofs.YtiioiikcjaiajaaDoor.My

/- The fields of package head, read out of what is laid. -/
namespace Go.Proofs.YtiioiikcjaiajaaDoor.My
open Go.RowKit Go.Lib Go.Shelf
set_option linter.unusedVariables false
set_option linter.unusedSimpArgs false

theorem field_reads {n : String} {g : Nat} {a b : Int} {w : World} (hg0 : Tryd.prog.globalNamed n = some g) (ht0 : (Tryd.prog.globals[g]?).map (·.type) = some 55)
    (h : VarReads Tryd.prog w n (.agg [.lit (.int .i64 a), .lit (.int .i64 b)])) : w.cell? ⟨g, 0, none⟩ = some (.int .i64 a) ∧ w.cell? ⟨g, 1, none⟩ = some (.int .i64 b) := by
  obtain ⟨g', t, cs, fuel, p, hg, hty, hvar, hd⟩ := h
  obtain rfl := Option.some.inj (hg0.symm.trans hg)
  obtain rfl := Option.some.inj (ht0.symm.trans hty)
  have hsz : Tryd.prog.cellsOf 3 = 1 := by kernel_rfl
  have hcs := ints_of_struct (k := .i64) (zs := [a, b]) Tryd.underlying55 (fun j f hj => by
      match j, hj with
      | 0, hj => simp at hj; subst hj; exact ⟨Tryd.underlying3, rfl, hsz⟩
      | 1, hj => simp at hj; subst hj; exact ⟨Tryd.underlying3, rfl, hsz⟩
      | j + 2, hj => simp at hj) (by kernel_rfl) hd
  have k0 := World.var?_cell hg hvar 0
  have k1 := World.var?_cell hg hvar 1
  rw [← Array.getElem?_toList, hcs] at k0 k1
  exact ⟨k0, k1⟩
/-- Where a field lies, and its size. -/
def fieldOf : Nat → Int × Int
  | 0 => (0, 100)   -- name
  | 1 => (157, 100)   -- link
  | 2 => (257, 6)   -- mark
  | 3 => (265, 32)   -- user
  | 4 => (297, 32)   -- group
  | 5 => (345, 155)   -- front
  | 6 => (148, 8)   -- sum
  | 7 => (100, 8)   -- mode
  | 8 => (108, 8)   -- uid
  | 9 => (116, 8)   -- gid
  | 10 => (124, 12)   -- long
  | 11 => (136, 12)   -- time
  | 12 => (329, 8)   -- major
  | 13 => (337, 8)   -- minor
  | _ => (0, 0)
structure Gl (w : World) : Prop where
  at_ : ∀ g, g < 14 → w.cell? ⟨g, 0, none⟩ = some (.int .i64 (fieldOf g).1)
  size : ∀ g, g < 14 → w.cell? ⟨g, 1, none⟩ = some (.int .i64 (fieldOf g).2)
  low : 14 ≤ w.heap.size
theorem Gl.below {B : Nat} {w w1 : World} (h : Gl w) (hb : Below B w w1) (hB : 14 ≤ B) : Gl w1 :=
  ⟨fun g hg => (hb.cell (p := ⟨g, 0, none⟩) (by show g < B; omega)).trans (h.at_ g hg), fun g hg => (hb.cell (p := ⟨g, 1, none⟩) (by show g < B; omega)).trans (h.size g hg), Nat.le_trans h.low hb.size⟩
theorem Gl.next {w w1 : World} (h : Gl w) (hb : Below w.heap.size w w1) : Gl w1 := h.below hb h.low
theorem gl_of {W : World} (hL : laidMetH Tryd.prog [("crossdock/head.name", Rows.laid_crossdock_head_name), ("crossdock/head.mode", Rows.laid_crossdock_head_mode), ("crossdock/head.uid", Rows.laid_crossdock_head_uid), ("crossdock/head.gid", Rows.laid_crossdock_head_gid), ("crossdock/head.long", Rows.laid_crossdock_head_long), ("crossdock/head.time", Rows.laid_crossdock_head_time), ("crossdock/head.sum", Rows.laid_crossdock_head_sum), ("crossdock/head.link", Rows.laid_crossdock_head_link), ("crossdock/head.mark", Rows.laid_crossdock_head_mark), ("crossdock/head.user", Rows.laid_crossdock_head_user), ("crossdock/head.group", Rows.laid_crossdock_head_group), ("crossdock/head.major", Rows.laid_crossdock_head_major), ("crossdock/head.minor", Rows.laid_crossdock_head_minor), ("crossdock/head.front", Rows.laid_crossdock_head_front)] W) : Gl W := by
  have f0 := field_reads (g := 0) (a := 0) (b := 100) (by kernel_rfl) (by kernel_rfl) (Lib.laidMet.reads hL (.head _))
  have f1 := field_reads (g := 1) (a := 157) (b := 100) (by kernel_rfl) (by kernel_rfl) (Lib.laidMet.reads hL (.tail _ (.tail _ (.tail _ (.tail _ (.tail _ (.tail _ (.tail _ (.head _)))))))))
  have f2 := field_reads (g := 2) (a := 257) (b := 6) (by kernel_rfl) (by kernel_rfl) (Lib.laidMet.reads hL (.tail _ (.tail _ (.tail _ (.tail _ (.tail _ (.tail _ (.tail _ (.tail _ (.head _))))))))))
  have f3 := field_reads (g := 3) (a := 265) (b := 32) (by kernel_rfl) (by kernel_rfl) (Lib.laidMet.reads hL (.tail _ (.tail _ (.tail _ (.tail _ (.tail _ (.tail _ (.tail _ (.tail _ (.tail _ (.head _)))))))))))
  have f4 := field_reads (g := 4) (a := 297) (b := 32) (by kernel_rfl) (by kernel_rfl) (Lib.laidMet.reads hL (.tail _ (.tail _ (.tail _ (.tail _ (.tail _ (.tail _ (.tail _ (.tail _ (.tail _ (.tail _ (.head _))))))))))))
  have f5 := field_reads (g := 5) (a := 345) (b := 155) (by kernel_rfl) (by kernel_rfl) (Lib.laidMet.reads hL (.tail _ (.tail _ (.tail _ (.tail _ (.tail _ (.tail _ (.tail _ (.tail _ (.tail _ (.tail _ (.tail _ (.tail _ (.tail _ (.head _)))))))))))))))
  have f6 := field_reads (g := 6) (a := 148) (b := 8) (by kernel_rfl) (by kernel_rfl) (Lib.laidMet.reads hL (.tail _ (.tail _ (.tail _ (.tail _ (.tail _ (.tail _ (.head _))))))))
  have f7 := field_reads (g := 7) (a := 100) (b := 8) (by kernel_rfl) (by kernel_rfl) (Lib.laidMet.reads hL (.tail _ (.head _)))
  have f8 := field_reads (g := 8) (a := 108) (b := 8) (by kernel_rfl) (by kernel_rfl) (Lib.laidMet.reads hL (.tail _ (.tail _ (.head _))))
  have f9 := field_reads (g := 9) (a := 116) (b := 8) (by kernel_rfl) (by kernel_rfl) (Lib.laidMet.reads hL (.tail _ (.tail _ (.tail _ (.head _)))))
  have f10 := field_reads (g := 10) (a := 124) (b := 12) (by kernel_rfl) (by kernel_rfl) (Lib.laidMet.reads hL (.tail _ (.tail _ (.tail _ (.tail _ (.head _))))))
  have f11 := field_reads (g := 11) (a := 136) (b := 12) (by kernel_rfl) (by kernel_rfl) (Lib.laidMet.reads hL (.tail _ (.tail _ (.tail _ (.tail _ (.tail _ (.head _)))))))
  have f12 := field_reads (g := 12) (a := 329) (b := 8) (by kernel_rfl) (by kernel_rfl) (Lib.laidMet.reads hL (.tail _ (.tail _ (.tail _ (.tail _ (.tail _ (.tail _ (.tail _ (.tail _ (.tail _ (.tail _ (.tail _ (.head _)))))))))))))
  have f13 := field_reads (g := 13) (a := 337) (b := 8) (by kernel_rfl) (by kernel_rfl) (Lib.laidMet.reads hL (.tail _ (.tail _ (.tail _ (.tail _ (.tail _ (.tail _ (.tail _ (.tail _ (.tail _ (.tail _ (.tail _ (.tail _ (.head _))))))))))))))
  refine ⟨fun g hg => ?_, fun g hg => ?_, ?_⟩
  · match g, hg with
    | 0, _ => exact f0.1
    | 1, _ => exact f1.1
    | 2, _ => exact f2.1
    | 3, _ => exact f3.1
    | 4, _ => exact f4.1
    | 5, _ => exact f5.1
    | 6, _ => exact f6.1
    | 7, _ => exact f7.1
    | 8, _ => exact f8.1
    | 9, _ => exact f9.1
    | 10, _ => exact f10.1
    | 11, _ => exact f11.1
    | 12, _ => exact f12.1
    | 13, _ => exact f13.1
    | g + 14, hg => omega
  · match g, hg with
    | 0, _ => exact f0.2
    | 1, _ => exact f1.2
    | 2, _ => exact f2.2
    | 3, _ => exact f3.2
    | 4, _ => exact f4.2
    | 5, _ => exact f5.2
    | 6, _ => exact f6.2
    | 7, _ => exact f7.2
    | 8, _ => exact f8.2
    | 9, _ => exact f9.2
    | 10, _ => exact f10.2
    | 11, _ => exact f11.2
    | 12, _ => exact f12.2
    | 13, _ => exact f13.2
    | g + 14, hg => omega
  · have := f13.1
    rcases Nat.lt_or_ge 13 W.heap.size with h | h
    · omega
    · rw [World.cell?, Array.getElem?_eq_none h] at this
      cases this
end Go.Proofs.YtiioiikcjaiajaaDoor.My

/-
  DERIVED: THE SHELF's CONTRACTS AT THIS DUMP, IN PLAIN WORDS (tools/lay-plain.mjs out of 'TrydShelf.lean', which tools/lay-shelf.mjs wrote): THE SAME DECLARATIONS UNDER THE SAME NAMES: 'import', 'namespace', 'open', 'def', 'theorem' AND NOTHING ELSE: no command of the shelf's: FOR A HAND-IN. Each laying: the table of numbers ('.._ren') and one theorem, a field a fact of the dump's own or the kernel's comparison; each contract: ONE APPLICATION.
-/
namespace Go.Proofs
open Go.Shelf
def Tryd.lays120_ren : Go.Shelf.Ren := ⟨fun | 120 => 72 | n => n, fun | 5 => 5 | 4 => 4 | n => n, fun | n => n⟩
theorem Tryd.lays120 : Go.Proofs.Lays.n120 Tryd.prog Tryd.lays120_ren := {
  mixed := by kernel_rfl
  f120 := Tryd.func72.trans (congrArg some (by kernel_rfl))
  t4 := Tryd.underlying4
  a4 := Tryd.isAgg4
  z4 := Tryd.sizeOf4
  v4 := Tryd.zeroValue4
  t5 := Tryd.underlying5
  a5 := Tryd.isAgg5
  z5 := Tryd.sizeOf5
  v5 := Tryd.zeroValue5 }
/-- utf8.RuneStart: "RuneStart reports whether the byte could be the first byte of an encoded, possibly invalid rune. Second and subsequent bytes always have the top two bits set to 10.": IT RETURNS 'Lib.runeStart b'; the world is as it was. ('h0', 'h1': b is a byte: a caller has it of every byte that it was handed.) (LAID: no walk: one application.) -/
theorem Tryd.utf8_RuneStart (b : Int) (w : World) (h0 : 0 ≤ b) (h1 : b < 256) :
    Calls Tryd.prog 72 #[.int .u8 b] w fun e w' => e = .returned (.bool (Lib.runeStart b)) ∧ w' = w := Any.utf8_RuneStart Tryd.lays120 b w h0 h1
def Tryd.lays137_ren : Go.Shelf.Ren := ⟨fun | 137 => 43 | 217 => 59 | 266 => 65 | n => n, fun | 9 => 9 | 5 => 5 | 3 => 3 | n => n, fun | n => n⟩
theorem Tryd.lays137 : Go.Proofs.Lays.n137 Tryd.prog Tryd.lays137_ren := {
  mixed := by kernel_rfl
  f137 := Tryd.func43.trans (congrArg some (by kernel_rfl))
  f217 := Tryd.func59.trans (congrArg some (by kernel_rfl))
  f266 := Tryd.func65.trans (congrArg some (by kernel_rfl))
  t3 := Tryd.underlying3
  a3 := Tryd.isAgg3
  z3 := Tryd.sizeOf3
  v3 := Tryd.zeroValue3
  t5 := Tryd.underlying5
  a5 := Tryd.isAgg5
  z5 := Tryd.sizeOf5
  v5 := Tryd.zeroValue5
  t9 := Tryd.underlying9
  a9 := Tryd.isAgg9
  z9 := Tryd.sizeOf9
  v9 := Tryd.zeroValue9 }
open Go.RowKit in
/-- strings.IndexByte: "IndexByte returns the index of the first instance of c in s, or -1 if c is not present in s.": IT RETURNS 'Lib.indexByte s c'; the world is as it was. (LAID: no walk: one application.) -/
theorem Tryd.strings_IndexByte (s : ByteArray) (c : Int) (w : World) :
    Calls Tryd.prog 43 #[.string s, .int .u8 c] w fun e w' => e = .returned (.int .i64 (Lib.indexByte s.data.toList c.toNat.toUInt8)) ∧ w' = w := Any.strings_IndexByte Tryd.lays137 s c w
def Tryd.lays217_ren : Go.Shelf.Ren := ⟨fun | 217 => 59 | 266 => 65 | n => n, fun | 9 => 9 | 5 => 5 | 3 => 3 | n => n, fun | n => n⟩
theorem Tryd.lays217 : Go.Proofs.Lays.n217 Tryd.prog Tryd.lays217_ren := {
  mixed := by kernel_rfl
  f217 := Tryd.func59.trans (congrArg some (by kernel_rfl))
  f266 := Tryd.func65.trans (congrArg some (by kernel_rfl))
  t3 := Tryd.underlying3
  a3 := Tryd.isAgg3
  z3 := Tryd.sizeOf3
  v3 := Tryd.zeroValue3
  t5 := Tryd.underlying5
  a5 := Tryd.isAgg5
  z5 := Tryd.sizeOf5
  v5 := Tryd.zeroValue5
  t9 := Tryd.underlying9
  a9 := Tryd.isAgg9
  z9 := Tryd.sizeOf9
  v9 := Tryd.zeroValue9 }
open Go.RowKit Go.Lib in
/-- internal/stringslite.IndexByte (what strings.IndexByte calls): IT RETURNS 'Lib.indexByte s c'; the world is as it was. (LAID: no walk: one application.) -/
theorem Tryd.stringslite_IndexByte (s : ByteArray) (c : Int) (w : World) :
    Calls Tryd.prog 59 #[.string s, .int .u8 c] w fun e w' => e = .returned (.int .i64 (Lib.indexByte s.data.toList c.toNat.toUInt8)) ∧ w' = w := Any.stringslite_IndexByte Tryd.lays217 s c w
def Tryd.lays224_ren : Go.Shelf.Ren := ⟨fun | 224 => 69 | n => n, fun | 3 => 3 | n => n, fun | n => n⟩
theorem Tryd.lays224 : Go.Proofs.Lays.n224 Tryd.prog Tryd.lays224_ren := {
  mixed := by kernel_rfl
  f224 := Tryd.func69.trans (congrArg some (by kernel_rfl))
  t3 := Tryd.underlying3
  a3 := Tryd.isAgg3
  z3 := Tryd.sizeOf3
  v3 := Tryd.zeroValue3 }
open Go.RowKit Go.Lib in
/-- internal/bytealg.Cutover: "Cutover reports the number of failures of IndexByte we should tolerate before switching over to Index. n is the number of bytes processed so far.": on amd64: (n + 16) / 8. (LAID: no walk: one application.) -/
theorem Tryd.bytealg_Cutover (n : Int) (h0 : 0 ≤ n) (h1 : n < 4611686018427387904) (w : World) :
    Calls Tryd.prog 69 #[.int .i64 n] w fun e w' => e = .returned (.int .i64 ((n + 16) / 8)) ∧ w' = w := Any.bytealg_Cutover Tryd.lays224 n h0 h1 w
def Tryd.lays185_ren : Go.Shelf.Ren := ⟨fun | 185 => 60 | 187 => 66 | 115 => 67 | 253 => 68 | 224 => 69 | 254 => 70 | 255 => 73 | 291 => 74 | n => n, fun | 37 => 26 | 3 => 3 | 4 => 4 | 0 => 0 | 5 => 5 | 46 => 40 | 9 => 9 | 146 => 105 | 51 => 104 | n => n, fun | 1 => 14 | n => n⟩
theorem Tryd.lays185 : Go.Proofs.Lays.n185 Tryd.prog Tryd.lays185_ren := {
  mixed := by kernel_rfl
  f115 := Tryd.func67.trans (congrArg some (by kernel_rfl))
  f185 := Tryd.func60.trans (congrArg some (by kernel_rfl))
  f187 := Tryd.func66.trans (congrArg some (by kernel_rfl))
  f224 := Tryd.func69.trans (congrArg some (by kernel_rfl))
  f253 := Tryd.func68.trans (congrArg some (by kernel_rfl))
  f254 := Tryd.func70.trans (congrArg some (by kernel_rfl))
  f255 := Tryd.func73.trans (congrArg some (by kernel_rfl))
  f291 := Tryd.func74.trans (congrArg some (by kernel_rfl))
  t0 := Tryd.underlying0
  a0 := Tryd.isAgg0
  z0 := Tryd.sizeOf0
  v0 := Tryd.zeroValue0
  t3 := Tryd.underlying3
  a3 := Tryd.isAgg3
  z3 := Tryd.sizeOf3
  v3 := Tryd.zeroValue3
  t4 := Tryd.underlying4
  a4 := Tryd.isAgg4
  z4 := Tryd.sizeOf4
  v4 := Tryd.zeroValue4
  t5 := Tryd.underlying5
  a5 := Tryd.isAgg5
  z5 := Tryd.sizeOf5
  v5 := Tryd.zeroValue5
  t9 := Tryd.underlying9
  a9 := Tryd.isAgg9
  z9 := Tryd.sizeOf9
  v9 := Tryd.zeroValue9
  t37 := Tryd.underlying26
  a37 := Tryd.isAgg26
  z37 := Tryd.sizeOf26
  v37 := Tryd.zeroValue26
  t46 := Tryd.underlying40
  a46 := Tryd.isAgg40
  z46 := Tryd.sizeOf40
  v46 := Tryd.zeroValue40
  t51 := Tryd.underlying104
  a51 := Tryd.isAgg104
  z51 := Tryd.sizeOf104
  v51 := Tryd.zeroValue104
  t146 := Tryd.underlying105
  a146 := Tryd.isAgg105
  z146 := Tryd.sizeOf105
  v146 := Tryd.zeroValue105
  g1 := by kernel_rfl }
open Go.RowKit Go.Lib in
/-- bytes.Index at a separator of one byte: "Index returns the index of the first instance of sep in s, or -1 if sep is not present in s.": 'Lib.indexByte' of s's bytes and that byte; the world is as it was. 'xs': s's elements; 'cv': the separator's one byte. (LAID: no walk: one application.) -/
theorem Tryd.bytes_Index_one (b o n c b2 o2 d : Nat) (xs : List Int) (cv : Int) (w : World) (hx : xs.length = n) (hc : ∀ i, i < n → w.cell? ⟨b, o + i, none⟩ = some (.int .u8 (xs.getD i 0))) (hc2 : w.cell? ⟨b2, o2, none⟩ = some (.int .u8 cv)) :
    Calls Tryd.prog 60 #[.slice (some ⟨b, o, none⟩) n c, .slice (some ⟨b2, o2, none⟩) 1 d] w fun e w' => e = .returned (.int .i64 (Lib.indexByte (Lib.bytesOf xs) cv.toNat.toUInt8)) ∧ w' = w := Any.bytes_Index_one Tryd.lays185 b o n c b2 o2 d xs cv w hx hc hc2
open Go.RowKit Go.Lib in
/-- The same where s is nil: -1. (LAID: no walk: one application.) -/
theorem Tryd.bytes_Index_one_nil (b2 o2 d : Nat) (cv : Int) (w : World) (hc2 : w.cell? ⟨b2, o2, none⟩ = some (.int .u8 cv)) :
    Calls Tryd.prog 60 #[.slice none 0 0, .slice (some ⟨b2, o2, none⟩) 1 d] w fun e w' => e = .returned (.int .i64 (-1)) ∧ w' = w := Any.bytes_Index_one_nil Tryd.lays185 b2 o2 d cv w hc2
open Go.RowKit Go.Lib in
/-- bytes.Index at a separator of no byte (nil too): 0, whatever s. (LAID: no walk: one application.) -/
theorem Tryd.bytes_Index_none (p q : Option Addr) (n c d : Nat) (w : World) :
    Calls Tryd.prog 60 #[.slice p n c, .slice q 0 d] w fun e w' => e = .returned (.int .i64 0) ∧ w' = w := Any.bytes_Index_none Tryd.lays185 p q n c d w
open Go.RowKit Go.Lib in
/-- bytes.Index at a separator of two bytes or more that is longer than s: -1; no cell is read. (LAID: no walk: one application.) -/
theorem Tryd.bytes_Index_longer (p q : Option Addr) (n c m d : Nat) (w : World) (h2 : 2 ≤ m) (hnm : n < m) (hm : m ≤ 9223372036854775807) :
    Calls Tryd.prog 60 #[.slice p n c, .slice q m d] w fun e w' => e = .returned (.int .i64 (-1)) ∧ w' = w := Any.bytes_Index_longer Tryd.lays185 p q n c m d w h2 hnm hm
open Go.RowKit Go.Lib in
/-- bytes.Index at a separator of two bytes or more that is JUST AS LONG as s: 0 where the two hold the same bytes, else -1. (LAID: no walk: one application.) -/
theorem Tryd.bytes_Index_same (b o c b2 o2 d n : Nat) (xs ys : List Int) (w : World) (h2 : 2 ≤ n) (hm : n ≤ 9223372036854775807) (hx : xs.length = n) (hy : ys.length = n) (hc : ∀ i, i < n → w.cell? ⟨b, o + i, none⟩ = some (.int .u8 (xs.getD i 0))) (hc2 : ∀ i, i < n → w.cell? ⟨b2, o2 + i, none⟩ = some (.int .u8 (ys.getD i 0))) :
    Calls Tryd.prog 60 #[.slice (some ⟨b, o, none⟩) n c, .slice (some ⟨b2, o2, none⟩) n d] w fun e w' => e = .returned (.int .i64 (if Lib.bytesOf ys == Lib.bytesOf xs then 0 else -1)) ∧ w' = w := Any.bytes_Index_same Tryd.lays185 b o c b2 o2 d n xs ys w h2 hm hx hy hc hc2
def Tryd.lays187_ren : Go.Shelf.Ren := ⟨fun | 187 => 66 | 255 => 73 | n => n, fun | 37 => 26 | 5 => 5 | 3 => 3 | n => n, fun | n => n⟩
theorem Tryd.lays187 : Go.Proofs.Lays.n187 Tryd.prog Tryd.lays187_ren := {
  mixed := by kernel_rfl
  f187 := Tryd.func66.trans (congrArg some (by kernel_rfl))
  f255 := Tryd.func73.trans (congrArg some (by kernel_rfl))
  t3 := Tryd.underlying3
  a3 := Tryd.isAgg3
  z3 := Tryd.sizeOf3
  v3 := Tryd.zeroValue3
  t5 := Tryd.underlying5
  a5 := Tryd.isAgg5
  z5 := Tryd.sizeOf5
  v5 := Tryd.zeroValue5
  t37 := Tryd.underlying26
  a37 := Tryd.isAgg26
  z37 := Tryd.sizeOf26
  v37 := Tryd.zeroValue26 }
open Go.RowKit Go.Lib in
/-- bytes.IndexByte, b at whatever address: "IndexByte returns the index of the first instance of c in b, or -1 if c is not present in b." (LAID: no walk: one application.) -/
theorem Tryd.bytes_IndexByte_at (a : Addr) (n c : Nat) (xs : List Int) (cv : Int) (w : World) (hx : xs.length = n) (hc : ∀ i, i < n → w.cell? (a.add i) = some (.int .u8 (xs.getD i 0))) :
    Calls Tryd.prog 66 #[.slice (some a) n c, .int .u8 cv] w fun e w' => e = .returned (.int .i64 (Lib.indexByte (Lib.bytesOf xs) cv.toNat.toUInt8)) ∧ w' = w := Any.bytes_IndexByte_at Tryd.lays187 a n c xs cv w hx hc
open Go.RowKit Go.Lib in
/-- bytes.Index at a separator of one byte, s at whatever address. (LAID: no walk: one application.) -/
theorem Tryd.bytes_Index_one_at (a : Addr) (n c b2 o2 d : Nat) (xs : List Int) (cv : Int) (w : World) (hx : xs.length = n) (hc : ∀ i, i < n → w.cell? (a.add i) = some (.int .u8 (xs.getD i 0))) (hc2 : w.cell? ⟨b2, o2, none⟩ = some (.int .u8 cv)) :
    Calls Tryd.prog 60 #[.slice (some a) n c, .slice (some ⟨b2, o2, none⟩) 1 d] w fun e w' => e = .returned (.int .i64 (Lib.indexByte (Lib.bytesOf xs) cv.toNat.toUInt8)) ∧ w' = w := Any.bytes_Index_one_at Tryd.lays185 a n c b2 o2 d xs cv w hx hc hc2
open Go.Proofs Go.RowKit Go.Lib in
/-- bytes.IndexByte, the slice's bytes told by a ByteArray. (LAID: no walk: one application.) -/
theorem Tryd.bytes_IndexByte_bytes (b o cap : Nat) (t : ByteArray) (cv : Int) (w : World) (hc : Lib.Bytes w b o t) :
    Calls Tryd.prog 66 #[.slice (some ⟨b, o, none⟩) t.size cap, .int .u8 cv] w fun e w' => e = .returned (.int .i64 (Lib.indexByte t.data.toList cv.toNat.toUInt8)) ∧ w' = w := Any.bytes_IndexByte_bytes Tryd.lays187 b o cap t cv w hc
def Tryd.lays115_ren : Go.Shelf.Ren := ⟨fun | 115 => 67 | n => n, fun | 37 => 26 | 4 => 4 | 9 => 9 | 5 => 5 | n => n, fun | n => n⟩
theorem Tryd.lays115 : Go.Proofs.Lays.n115 Tryd.prog Tryd.lays115_ren := {
  mixed := by kernel_rfl
  f115 := Tryd.func67.trans (congrArg some (by kernel_rfl))
  t4 := Tryd.underlying4
  a4 := Tryd.isAgg4
  z4 := Tryd.sizeOf4
  v4 := Tryd.zeroValue4
  t9 := Tryd.underlying9
  a9 := Tryd.isAgg9
  z9 := Tryd.sizeOf9
  v9 := Tryd.zeroValue9
  t37 := Tryd.underlying26
  a37 := Tryd.isAgg26
  z37 := Tryd.sizeOf26
  v37 := Tryd.zeroValue26 }
open Go.Proofs Go.RowKit Go.Lib in
/-- bytes.Equal, each argument with what 'string(..)' of it gives. (LAID: no walk: one application.) -/
theorem Tryd.bytes_Equal_strs (v1 v2 : Value) (t1 t2 : ByteArray) (w : World) (h1 : (convert 26 9 v1).run Tryd.prog w = .ok (.string t1) w) (h2 : (convert 26 9 v2).run Tryd.prog w = .ok (.string t2) w) :
    Calls Tryd.prog 67 #[v1, v2] w fun e w' => e = .returned (.bool (t1.toList == t2.toList)) ∧ w' = w := Any.bytes_Equal_strs Tryd.lays115 v1 v2 t1 t2 w h1 h2
def Tryd.lays291_ren : Go.Shelf.Ren := ⟨fun | 291 => 74 | n => n, fun | 37 => 26 | 51 => 104 | 3 => 3 | 4 => 4 | 0 => 0 | 5 => 5 | 46 => 40 | n => n, fun | n => n⟩
theorem Tryd.lays291 : Go.Proofs.Lays.n291 Tryd.prog Tryd.lays291_ren := {
  mixed := by kernel_rfl
  f291 := Tryd.func74.trans (congrArg some (by kernel_rfl))
  t0 := Tryd.underlying0
  a0 := Tryd.isAgg0
  z0 := Tryd.sizeOf0
  v0 := Tryd.zeroValue0
  t3 := Tryd.underlying3
  a3 := Tryd.isAgg3
  z3 := Tryd.sizeOf3
  v3 := Tryd.zeroValue3
  t4 := Tryd.underlying4
  a4 := Tryd.isAgg4
  z4 := Tryd.sizeOf4
  v4 := Tryd.zeroValue4
  t5 := Tryd.underlying5
  a5 := Tryd.isAgg5
  z5 := Tryd.sizeOf5
  v5 := Tryd.zeroValue5
  t37 := Tryd.underlying26
  a37 := Tryd.isAgg26
  z37 := Tryd.sizeOf26
  v37 := Tryd.zeroValue26
  t46 := Tryd.underlying40
  a46 := Tryd.isAgg40
  z46 := Tryd.sizeOf40
  v46 := Tryd.zeroValue40
  t51 := Tryd.underlying104
  a51 := Tryd.isAgg104
  z51 := Tryd.sizeOf104
  v51 := Tryd.zeroValue104 }
open Go.RowKit Go.Lib in
/-- hashStr at []byte: "returns the hash and the appropriate multiplicative factor for use in Rabin-Karp algorithm": THE HASH OF ALL OF sep, AND 16777619 ^ len(sep), both in uint32. THE SLICE's BYTES ARE TOLD BY A ByteArray: cell i holds 'sep[i]': so the laws that were typed for strings (Derived/Lib/RabinKarpLaws.lean) serve as they lie. (LAID: no walk: one application.) -/
theorem Tryd.bytealg_hashStr_bytes (b o c : Nat) (sep : ByteArray) (hs : sep.size < 4294967281) (w : World) (hc : Lib.Bytes w b o sep) :
    Calls Tryd.prog 74 #[.slice (some ⟨b, o, none⟩) sep.size c] w fun e w' => e = .returned (.tuple #[.int .u32 (RK.H sep.data.toList % 4294967296), .int .u32 (16777619 ^ sep.size % 4294967296)]) ∧ w' = w := Any.bytealg_hashStr_bytes Tryd.lays291 b o c sep hs w hc
def Tryd.lays254_ren : Go.Shelf.Ren := ⟨fun | 254 => 70 | 291 => 74 | n => n, fun | 37 => 26 | 3 => 3 | 146 => 105 | 51 => 104 | 4 => 4 | 0 => 0 | 5 => 5 | 9 => 9 | 46 => 40 | n => n, fun | n => n⟩
theorem Tryd.lays254 : Go.Proofs.Lays.n254 Tryd.prog Tryd.lays254_ren := {
  mixed := by kernel_rfl
  f254 := Tryd.func70.trans (congrArg some (by kernel_rfl))
  f291 := Tryd.func74.trans (congrArg some (by kernel_rfl))
  t0 := Tryd.underlying0
  a0 := Tryd.isAgg0
  z0 := Tryd.sizeOf0
  v0 := Tryd.zeroValue0
  t3 := Tryd.underlying3
  a3 := Tryd.isAgg3
  z3 := Tryd.sizeOf3
  v3 := Tryd.zeroValue3
  t4 := Tryd.underlying4
  a4 := Tryd.isAgg4
  z4 := Tryd.sizeOf4
  v4 := Tryd.zeroValue4
  t5 := Tryd.underlying5
  a5 := Tryd.isAgg5
  z5 := Tryd.sizeOf5
  v5 := Tryd.zeroValue5
  t9 := Tryd.underlying9
  a9 := Tryd.isAgg9
  z9 := Tryd.sizeOf9
  v9 := Tryd.zeroValue9
  t37 := Tryd.underlying26
  a37 := Tryd.isAgg26
  z37 := Tryd.sizeOf26
  v37 := Tryd.zeroValue26
  t46 := Tryd.underlying40
  a46 := Tryd.isAgg40
  z46 := Tryd.sizeOf40
  v46 := Tryd.zeroValue40
  t51 := Tryd.underlying104
  a51 := Tryd.isAgg104
  z51 := Tryd.sizeOf104
  v51 := Tryd.zeroValue104
  t146 := Tryd.underlying105
  a146 := Tryd.isAgg105
  z146 := Tryd.sizeOf105
  v146 := Tryd.zeroValue105 }
open Go.RowKit Go.Lib in
/-- IndexRabinKarp at []byte: "IndexRabinKarp uses the Rabin-Karp search algorithm to return the index of the first occurrence of sep in s, or -1 if not present.": 'Lib.index' of the two lists of bytes; the world is as it was but for the count of draws (the test 'h == hashss && string(..) == string(sep)' draws its order). After a hand of the authors' house's 'Any.bytealg_IndexRabinKarp' (Derived/Shelf/Strings/Search1.lean): the invariants and the closings are that text's. (LAID: no walk: one application.) -/
theorem Tryd.bytealg_IndexRabinKarp_bytes (b1 o1 c1 b2 o2 c2 : Nat) (s sep : ByteArray) (h1 : 1 ≤ sep.size) (h2 : sep.size ≤ s.size) (hs : s.size < 4294967281) (w : World) (hc1 : Lib.Bytes w b1 o1 s) (hc2 : Lib.Bytes w b2 o2 sep) (hcap : s.size ≤ c1) :
    Calls Tryd.prog 70 #[.slice (some ⟨b1, o1, none⟩) s.size c1, .slice (some ⟨b2, o2, none⟩) sep.size c2] w fun e w' => e = .returned (.int .i64 (Lib.index s.data.toList sep.data.toList)) ∧ ∃ q, w' = w.drewN q := Any.bytealg_IndexRabinKarp_bytes Tryd.lays254 b1 o1 c1 b2 o2 c2 s sep h1 h2 hs w hc1 hc2 hcap
open Go.RowKit Go.Lib in
/-- bytes.Index: "Index returns the index of the first instance of sep in s, or -1 if sep is not present in s.": 'Lib.index' of the two lists of bytes. (LAID: no walk: one application.) -/
theorem Tryd.bytes_Index_search (b1 o1 c1 b2 o2 c2 : Nat) (s sub : ByteArray) (m : Int) (w : World) (hs : s.size < 4294967281) (hm : w.cell? ⟨14, 0, none⟩ = some (.int .i64 m)) (hc1 : Lib.Bytes w b1 o1 s) (hc2 : Lib.Bytes w b2 o2 sub) (hcap : s.size ≤ c1) (hn2 : 2 ≤ sub.size) (hls : sub.size < s.size) :
    Calls Tryd.prog 60 #[.slice (some ⟨b1, o1, none⟩) s.size c1, .slice (some ⟨b2, o2, none⟩) sub.size c2] w fun e w' => e = .returned (.int .i64 (Lib.index s.data.toList sub.data.toList)) ∧ ∃ q, w' = w.drewN q := Any.bytes_Index_search Tryd.lays185 b1 o1 c1 b2 o2 c2 s sub m w hs hm hc1 hc2 hcap hn2 hls
open Go.Proofs Go.RowKit Go.Lib in
/-- bytes.Index, WHOLE: "Index returns the index of the first instance of sep in s, or -1 if sep is not present in s.": 'Lib.index' of the two lists of bytes. (LAID: no walk: one application.) -/
theorem Tryd.bytes_Index_at (a1 a2 : Addr) (n c1 k c2 : Nat) (xs ys : List Int) (m : Int) (w : World) (hx : xs.length = n) (hy : ys.length = k) (hr1 : ∀ x ∈ xs, 0 ≤ x ∧ x < 256) (hr2 : ∀ y ∈ ys, 0 ≤ y ∧ y < 256) (hc1 : ∀ i, i < n → w.cell? (a1.add i) = some (.int .u8 (xs.getD i 0))) (hc2 : ∀ i, i < k → w.cell? (a2.add i) = some (.int .u8 (ys.getD i 0))) (hcap : n ≤ c1) (hs : n < 4294967281) (hk : k ≤ 9223372036854775807) (hm : w.cell? ⟨14, 0, none⟩ = some (.int .i64 m)) :
    Calls Tryd.prog 60 #[.slice (some a1) n c1, .slice (some a2) k c2] w fun e w' => e = .returned (.int .i64 (Lib.index (Lib.bytesOf xs) (Lib.bytesOf ys))) ∧ ∃ q, w' = w.drewN q := Any.bytes_Index_at Tryd.lays185 a1 a2 n c1 k c2 xs ys m w hx hy hr1 hr2 hc1 hc2 hcap hs hk hm
open Go.Proofs Go.RowKit Go.Lib in
/-- bytes.Index where s is nil: 0 at a separator of no byte, else -1. (LAID: no walk: one application.) -/
theorem Tryd.bytes_Index_nil (p2 : Option Addr) (k c2 : Nat) (w : World) (hk : k ≤ 9223372036854775807) (h1 : k = 1 → ∃ b2 o2 cv, p2 = some ⟨b2, o2, none⟩ ∧ w.cell? ⟨b2, o2, none⟩ = some (.int .u8 cv)) :
    Calls Tryd.prog 60 #[.slice none 0 0, .slice p2 k c2] w fun e w' => e = .returned (.int .i64 (if k = 0 then 0 else -1)) ∧ w' = w := Any.bytes_Index_nil Tryd.lays185 p2 k c2 w hk h1
def Tryd.laysM185_ren : Go.Shelf.Ren := ⟨fun | 185 => 60 | 187 => 66 | 115 => 67 | 253 => 68 | 224 => 69 | 254 => 70 | 255 => 73 | 291 => 74 | n => n, fun | 37 => 26 | 3 => 3 | 4 => 4 | 0 => 0 | 5 => 5 | 46 => 40 | 9 => 9 | 146 => 105 | 51 => 104 | n => n, fun | 1 => 14 | n => n⟩
theorem Tryd.laysM185 : Go.Proofs.LaysM.n185 Tryd.prog Tryd.laysM185_ren := {
  mixed := by kernel_rfl
  f115 := Tryd.func67.trans (congrArg some (by kernel_rfl))
  f185 := Tryd.func60.trans (congrArg some (by kernel_rfl))
  f187 := Tryd.func66.trans (congrArg some (by kernel_rfl))
  f224 := Tryd.func69.trans (congrArg some (by kernel_rfl))
  f253 := Tryd.func68.trans (congrArg some (by kernel_rfl))
  f254 := Tryd.func70.trans (congrArg some (by kernel_rfl))
  f255 := Tryd.func73.trans (congrArg some (by kernel_rfl))
  f291 := Tryd.func74.trans (congrArg some (by kernel_rfl))
  t0 := Tryd.underlying0
  a0 := Tryd.isAgg0
  z0 := Tryd.sizeOf0
  v0 := Tryd.zeroValue0
  t3 := Tryd.underlying3
  a3 := Tryd.isAgg3
  z3 := Tryd.sizeOf3
  v3 := Tryd.zeroValue3
  t4 := Tryd.underlying4
  a4 := Tryd.isAgg4
  z4 := Tryd.sizeOf4
  v4 := Tryd.zeroValue4
  t5 := Tryd.underlying5
  a5 := Tryd.isAgg5
  z5 := Tryd.sizeOf5
  v5 := Tryd.zeroValue5
  t9 := Tryd.underlying9
  a9 := Tryd.isAgg9
  z9 := Tryd.sizeOf9
  v9 := Tryd.zeroValue9
  t37 := Tryd.underlying26
  a37 := Tryd.isAgg26
  z37 := Tryd.sizeOf26
  v37 := Tryd.zeroValue26
  t46 := Tryd.underlying40
  a46 := Tryd.isAgg40
  z46 := Tryd.sizeOf40
  v46 := Tryd.zeroValue40
  t51 := Tryd.underlying104
  a51 := Tryd.isAgg104
  z51 := Tryd.sizeOf104
  v51 := Tryd.zeroValue104
  t146 := Tryd.underlying105
  a146 := Tryd.isAgg105
  z146 := Tryd.sizeOf105
  v146 := Tryd.zeroValue105
  g1 := by kernel_rfl
  i0 := by kernel_rfl
  i3 := by kernel_rfl
  i4 := by kernel_rfl
  i5 := by kernel_rfl
  i9 := by kernel_rfl
  i37 := by kernel_rfl
  i46 := by kernel_rfl
  i51 := by kernel_rfl
  i146 := by kernel_rfl
  m1 := by kernel_rfl
  s1_3 := fun w h => Go.Proofs.cell_of_shapedOpen_int (zero := #[.int .i64 0]) (t := 3) h (of_decide_eq_true (by kernel_rfl)) (by kernel_rfl) rfl (by kernel_rfl) (by kernel_rfl) Tryd.underlying3 }
open Go.Proofs Go.RowKit Go.Lib in
/-- .. AT A ROW's OWN FIRST WORLD: 'World.ShapedOpen P' in the place of the word on internal/bytealg.MaxLen's cell (after a hand of the authors' house's Derived/Shelf/Strings/Shaped.lean). ✋ BEHIND AN ALLOCATION (a separator typed as '[]byte("..")') the world is the first no more: take 'let ⟨m, hm⟩ := L.s1_3 W h' at the first world and carry the cell over ('Lib.cell?_alloc_marked'), then the form above. (LAID: no walk: one application.) -/
theorem Tryd.bytes_Index_at_shaped (a1 a2 : Addr) (n c1 k c2 : Nat) (xs ys : List Int) (w : World) (hx : xs.length = n) (hy : ys.length = k) (hr1 : ∀ x ∈ xs, 0 ≤ x ∧ x < 256) (hr2 : ∀ y ∈ ys, 0 ≤ y ∧ y < 256) (hc1 : ∀ i, i < n → w.cell? (a1.add i) = some (.int .u8 (xs.getD i 0))) (hc2 : ∀ i, i < k → w.cell? (a2.add i) = some (.int .u8 (ys.getD i 0))) (hcap : n ≤ c1) (hs : n < 4294967281) (hk : k ≤ 9223372036854775807) (h : w.ShapedOpen Tryd.prog) :
    Calls Tryd.prog 60 #[.slice (some a1) n c1, .slice (some a2) k c2] w fun e w' => e = .returned (.int .i64 (Lib.index (Lib.bytesOf xs) (Lib.bytesOf ys))) ∧ ∃ q, w' = w.drewN q := Any.bytes_Index_at_shaped Tryd.laysM185 a1 a2 n c1 k c2 xs ys w hx hy hr1 hr2 hc1 hc2 hcap hs hk h
def Tryd.laysnb115_ren : Go.Shelf.Ren := ⟨fun | 115 => 67 | n => n, fun | 37 => 26 | 4 => 4 | 9 => 9 | 5 => 5 | n => n, fun | n => n⟩
theorem Tryd.laysnb115 : Go.Proofs.Lays.nb115 Tryd.prog Tryd.laysnb115_ren := {
  mixed := by kernel_rfl
  f115 := Tryd.func67.trans (congrArg some (by kernel_rfl))
  t4 := Tryd.underlying4
  a4 := Tryd.isAgg4
  z4 := Tryd.sizeOf4
  v4 := Tryd.zeroValue4
  t9 := Tryd.underlying9
  a9 := Tryd.isAgg9
  z9 := Tryd.sizeOf9
  v9 := Tryd.zeroValue9
  t37 := Tryd.underlying26
  a37 := Tryd.isAgg26
  z37 := Tryd.sizeOf26
  v37 := Tryd.zeroValue26
  t5 := Tryd.underlying5
  a5 := Tryd.isAgg5
  z5 := Tryd.sizeOf5
  v5 := Tryd.zeroValue5 }
/-- bytes.Equal: WHOLE. (LAID: no walk: one application.) -/
theorem Tryd.bytes_Equal_all (p1 p2 : Option Addr) (n c m d : Nat) (xs ys : List Int) (w : World) (hx : xs.length = n) (hy : ys.length = m) (h1 : Lib.BytesIn w p1 n xs) (h2 : Lib.BytesIn w p2 m ys) :
    Calls Tryd.prog 67 #[.slice p1 n c, .slice p2 m d] w fun e w' => e = .returned (.bool (Lib.bytesOf xs == Lib.bytesOf ys)) ∧ w' = w := Any.bytes_Equal_all Tryd.laysnb115 p1 p2 n c m d xs ys w hx hy h1 h2
def Tryd.laysSlT4_ren : Go.Shelf.Ren := ⟨fun | 4 => 49 | 5 => 60 | 6 => 66 | 7 => 67 | 8 => 68 | 9 => 69 | 10 => 70 | 11 => 73 | 12 => 74 | n => n, fun | 22 => 26 | 4 => 4 | 3 => 3 | 0 => 0 | 5 => 5 | 29 => 40 | 9 => 9 | 31 => 105 | 30 => 104 | n => n, fun | 0 => 14 | n => n⟩
theorem Tryd.laysSlT4 : Go.Proofs.SlLaysT.n4 Tryd.prog Tryd.laysSlT4_ren := {
  mixed := by kernel_rfl
  f4 := Tryd.func49.trans (congrArg some (by kernel_rfl))
  f5 := Tryd.func60.trans (congrArg some (by kernel_rfl))
  f6 := Tryd.func66.trans (congrArg some (by kernel_rfl))
  f7 := Tryd.func67.trans (congrArg some (by kernel_rfl))
  f8 := Tryd.func68.trans (congrArg some (by kernel_rfl))
  f9 := Tryd.func69.trans (congrArg some (by kernel_rfl))
  f10 := Tryd.func70.trans (congrArg some (by kernel_rfl))
  f11 := Tryd.func73.trans (congrArg some (by kernel_rfl))
  f12 := Tryd.func74.trans (congrArg some (by kernel_rfl))
  t0 := Tryd.underlying0
  a0 := Tryd.isAgg0
  z0 := Tryd.sizeOf0
  v0 := Tryd.zeroValue0
  t3 := Tryd.underlying3
  a3 := Tryd.isAgg3
  z3 := Tryd.sizeOf3
  v3 := Tryd.zeroValue3
  t4 := Tryd.underlying4
  a4 := Tryd.isAgg4
  z4 := Tryd.sizeOf4
  v4 := Tryd.zeroValue4
  t5 := Tryd.underlying5
  a5 := Tryd.isAgg5
  z5 := Tryd.sizeOf5
  v5 := Tryd.zeroValue5
  t9 := Tryd.underlying9
  a9 := Tryd.isAgg9
  z9 := Tryd.sizeOf9
  v9 := Tryd.zeroValue9
  t22 := Tryd.underlying26
  a22 := Tryd.isAgg26
  z22 := Tryd.sizeOf26
  v22 := Tryd.zeroValue26
  t29 := Tryd.underlying40
  a29 := Tryd.isAgg40
  z29 := Tryd.sizeOf40
  v29 := Tryd.zeroValue40
  t30 := Tryd.underlying104
  a30 := Tryd.isAgg104
  z30 := Tryd.sizeOf104
  v30 := Tryd.zeroValue104
  t31 := Tryd.underlying105
  a31 := Tryd.isAgg105
  z31 := Tryd.sizeOf105
  v31 := Tryd.zeroValue105
  g0 := by kernel_rfl }
/-- THE WALK, bytes.Index's answer a premise: whatever the two slices' addresses. (LAID: no walk: one application.) -/
theorem Tryd.bytes_Cut_of (p1 p2 : Option Addr) (n c1 k c2 : Nat) (i : Int) (w : World) (hcap : n ≤ c1) (hlo : -1 ≤ i) (hroom : 0 ≤ i → i + k ≤ n) (hn : n ≤ 4611686018427387904) (hidx : Calls Tryd.prog 60 #[.slice p1 n c1, .slice p2 k c2] w fun e w' => e = .returned (.int .i64 i) ∧ ∃ q, w' = w.drewN q) :
    Calls Tryd.prog 49 #[.slice p1 n c1, .slice p2 k c2] w fun e w' => e = .returned (Lib.cutV p1 n c1 k i) ∧ ∃ q, w' = w.drewN q := Any.bytes_Cut_of Tryd.laysSlT4 p1 p2 n c1 k c2 i w hcap hlo hroom hn hidx
/-- **bytes.Cut, WHOLE UP TO THE MODEL's BOUND** ('hs': s shorter than 4294967281 bytes: bytes.Index's): each argument nil, or of no byte at whatever address, or at an address with its cells ('Lib.BytesIn': Derived/Shelf/Bytes/SlSmallAll.lean). 'hr1', 'hr2': each number a byte's (what '(Lit.int .u8 x).wf' says) · 'hm': internal/bytealg.MaxLen's cell holds some int, whatever · 'hp1': a nil slice has no capacity. (LAID: no walk: one application.) -/
theorem Tryd.bytes_Cut_all (p1 p2 : Option Addr) (n c1 k c2 : Nat) (xs ys : List Int) (m : Int) (w : World) (hx : xs.length = n) (hy : ys.length = k) (hr1 : ∀ x ∈ xs, 0 ≤ x ∧ x < 256) (hr2 : ∀ y ∈ ys, 0 ≤ y ∧ y < 256) (h1 : Lib.BytesIn w p1 n xs) (h2 : Lib.BytesIn w p2 k ys) (hp1 : p1 = none → c1 = 0) (hcap : n ≤ c1) (hs : n < 4294967281) (hk : k ≤ 9223372036854775807) (hm : w.cell? ⟨14, 0, none⟩ = some (.int .i64 m)) :
    Calls Tryd.prog 49 #[.slice p1 n c1, .slice p2 k c2] w fun e w' => e = .returned (Lib.cutV p1 n c1 k (Lib.index (Lib.bytesOf xs) (Lib.bytesOf ys))) ∧ ∃ q, w' = w.drewN q := Any.bytes_Cut_all Tryd.laysSlT4 p1 p2 n c1 k c2 xs ys m w hx hy hr1 hr2 h1 h2 hp1 hcap hs hk hm
/-- bytes.Equal: "Equal reports whether a and b are the same length and contain the same bytes. A nil argument is equivalent to an empty slice.": IT RETURNS 'the bytes of the one == the bytes of the other'; the world is as it was. THE TWO ARGUMENTS COME AS WHATEVER VALUES, each with the one fact that the walk wants of it: what 'string(..)' of it gives: for a slice whose cells you know: 'run_convert_bytes_arg' (Derived/Laws/BytesArg.lean) hands that fact; for a nil one: 'run_convert_bytes_nil' (with xs := []). (LAID: no walk: one application.) -/
theorem Tryd.bytes_Equal (v1 v2 : Value) (xs ys : List Int) (w : World) (h1 : (convert 26 9 v1).run Tryd.prog w = .ok (.string (strOfNums xs)) w) (h2 : (convert 26 9 v2).run Tryd.prog w = .ok (.string (strOfNums ys)) w) :
    Calls Tryd.prog 67 #[v1, v2] w fun e w' => e = .returned (.bool (Lib.bytesOf xs == Lib.bytesOf ys)) ∧ w' = w := Any.bytes_Equal Tryd.lays115 v1 v2 xs ys w h1 h2
/-- bytes.IndexByte: "IndexByte returns the index of the first instance of c in b, or -1 if c is not present in b.": IT RETURNS 'Lib.indexByte (the bytes of b) c'; the world is as it was. 'xs': the numbers that the slice's cells hold. (LAID: no walk: one application.) -/
theorem Tryd.bytes_IndexByte (b o n c : Nat) (xs : List Int) (cv : Int) (w : World) (hx : xs.length = n) (hc : ∀ i, i < n → w.cell? ⟨b, o + i, none⟩ = some (.int .u8 (xs.getD i 0))) :
    Calls Tryd.prog 66 #[.slice (some ⟨b, o, none⟩) n c, .int .u8 cv] w fun e w' => e = .returned (.int .i64 (Lib.indexByte (Lib.bytesOf xs) cv.toNat.toUInt8)) ∧ w' = w := Any.bytes_IndexByte Tryd.lays187 b o n c xs cv w hx hc
/-- bytes.IndexByte AT nil: -1. (LAID: no walk: one application.) -/
theorem Tryd.bytes_IndexByte_nil (cv : Int) (w : World) :
    Calls Tryd.prog 66 #[.slice none 0 0, .int .u8 cv] w fun e w' => e = .returned (.int .i64 (-1)) ∧ w' = w := Any.bytes_IndexByte_nil Tryd.lays187 cv w
end Go.Proofs

/- The walks of head.plain, head.Fits. -/
namespace Go.Proofs.YtiioiikcjaiajaaDoor.My
open Go.RowKit Go.Lib Go.Proofs.YtiioiikcjaiajaaDoorW.PrintWords
set_option maxRecDepth 100000
set_option linter.unusedVariables false
set_option linter.unusedSimpArgs false

/-- No byte is nought. -/
def noNought (s : ByteArray) : Bool := decide (Lib.indexByte s.data.toList 0 < 0)
theorem plain_calls (s : ByteArray) (w : World) : Calls Tryd.prog 34 #[.string s] w fun e w' => e = .returned (.bool (noNought s)) ∧ w = w' := by
  go_enter Tryd.func34, Tryd.ntmps34
  go_wp2_with (go_at_call 43; refine (Tryd.strings_IndexByte _ _ _).mono ?_; rintro e w' ⟨rfl, rfl⟩)
  go_ret
  exact ⟨rfl, rfl⟩
/-- A name's front and rest, as the program cuts it. -/
def cutI (s : ByteArray) : Int := (s.size : Int) - 101 + Lib.indexByte (s.extract (s.size - 100 - 1) s.size).data.toList 47
theorem cut_short (s : ByteArray) (w : World) (hg : Gl w) (h : s.size ≤ 100) : Calls Tryd.prog 24 #[.string s] w fun e w' => e = .returned (.tuple #[.string ⟨#[]⟩, .string s, .bool true]) ∧ w = w' := by
  have c0 : w.cell? ⟨0, 1, none⟩ = some (.int .i64 100) := hg.size 0 (by omega)
  have f1 : decide ((s.size : Int) ≤ 100) = true := decide_eq_true (by omega)
  clear hg
  go_enter Tryd.func24, Tryd.ntmps24
  go_wp2_with fail
  go_ret3
  exact ⟨rfl, rfl⟩
theorem idx_ge (c : UInt8) : ∀ l : List UInt8, -1 ≤ Lib.indexByte l c ∧ Lib.indexByte l c < l.length
  | [] => by simp [Lib.indexByte]
  | b :: l => by
    have := idx_ge c l
    rw [Lib.indexByte]
    simp only [List.length_cons]
    repeat' split
    all_goals omega
theorem cut_none (s : ByteArray) (w : World) (hg : Gl w) (h : 100 < s.size) (hs : s.size ≤ 100000) (hn : Lib.indexByte (s.extract (s.size - 100 - 1) s.size).data.toList 47 < 0) :
    Calls Tryd.prog 24 #[.string s] w fun e w' => e = .returned (.tuple #[.string ⟨#[]⟩, .string ⟨#[]⟩, .bool false]) ∧ w = w' := by
  have c0 : w.cell? ⟨0, 1, none⟩ = some (.int .i64 100) := hg.size 0 (by omega)
  have f1 : decide ((s.size : Int) ≤ 100) = false := decide_eq_false (by omega)
  have HI : Aside0 (∀ w, Calls Tryd.prog 43 #[.string (s.extract (s.size - 100 - 1) s.size), .int .u8 47] w fun e w' => e = .returned (.int .i64 (Lib.indexByte (s.extract (s.size - 100 - 1) s.size).data.toList 47)) ∧ w' = w) := ⟨fun w => Tryd.strings_IndexByte _ 47 w⟩
  generalize Lib.indexByte (s.extract (s.size - 100 - 1) s.size).data.toList 47 = ix at *

  have l0 : (0 : Int) ≤ (s.size : Int) - 100 - 1 := by omega
  have l1 : (s.size : Int) - 100 - 1 ≤ (s.size : Int) := by omega
  clear hg
  go_enter Tryd.func24, Tryd.ntmps24
  go_wp2_with (go_at_call 43; refine (HI.out _).mono ?_; rintro e w' ⟨rfl, rfl⟩)
  go_ret3
  exact ⟨rfl, rfl⟩
theorem cut_good (s : ByteArray) (w : World) (hg : Gl w) (h : 100 < s.size) (hs : s.size ≤ 100000) (ix : Int) (hix : Lib.indexByte (s.extract (s.size - 100 - 1) s.size).data.toList 47 = ix) (hn : 0 ≤ ix)
    (h0 : (s.size : Int) - 100 - 1 + ix ≠ 0) (h1 : (s.size : Int) - 100 - 1 + ix ≤ 155) (h2 : (s.size : Int) - 100 - 1 + ix < (s.size : Int) - 1) :
    Calls Tryd.prog 24 #[.string s] w fun e w' => ∃ c : Nat, (c : Int) = (s.size : Int) - 100 - 1 + ix ∧ e = .returned (.tuple #[.string (s.extract 0 c), .string (s.extract (c + 1) s.size), .bool true]) ∧ Drawn0 w w' := by
  have c0 : w.cell? ⟨0, 1, none⟩ = some (.int .i64 100) := hg.size 0 (by omega)
  have c5 : w.cell? ⟨5, 1, none⟩ = some (.int .i64 155) := hg.size 5 (by omega)
  have f1 : decide ((s.size : Int) ≤ 100) = false := decide_eq_false (by omega)
  have HI : Aside0 (∀ w, Calls Tryd.prog 43 #[.string (s.extract (s.size - 100 - 1) s.size), .int .u8 47] w fun e w' => e = .returned (.int .i64 ix) ∧ w' = w) := ⟨fun w => hix ▸ Tryd.strings_IndexByte _ 47 w⟩
  have l0 : (0 : Int) ≤ (s.size : Int) - 100 - 1 := by omega
  have l1 : (s.size : Int) - 100 - 1 ≤ (s.size : Int) := by omega
  have q0 : decide (ix < 0) = false := decide_eq_false (by omega)
  have q1 : ((s.size : Int) - 100 - 1 + ix == 0) = false := beq_eq_false_iff_ne.2 h0
  have q2 : decide (155 < (s.size : Int) - 100 - 1 + ix) = false := decide_eq_false (by omega)
  have q3 : ((s.size : Int) - 100 - 1 + ix == (s.size : Int) - 1) = false := beq_eq_false_iff_ne.2 (by omega)
  clear hg hix
  go_enter Tryd.func24, Tryd.ntmps24
  go_wp2_with (go_at_call 43; refine (HI.out _).mono ?_; rintro e w' ⟨rfl, rfl⟩)
  obtain ⟨c, hc⟩ : ∃ c : Nat, (c : Int) = (s.size : Int) - 100 - 1 + ix := ⟨((s.size : Int) - 100 - 1 + ix).toNat, by omega⟩
  rename_i w'
  have m0 : (0 : Int) ≤ (s.size : Int) - 100 - 1 + ix := by omega
  have m1 : (s.size : Int) - 100 - 1 + ix ≤ (s.size : Int) := by omega
  have m2 : (0 : Int) ≤ (s.size : Int) - 100 - 1 + ix + 1 := by omega
  have m3 : (s.size : Int) - 100 - 1 + ix + 1 ≤ (s.size : Int) := by omega
  have HC := Aside0.mk hc
  clear hc
  go_quiet (fail)
  go_wp2_with fail
  go_ret3
  refine ⟨c, HC.out, ?_, ⟨_, rfl⟩⟩
  have e1 : ((s.size : Int) - 100 - 1 + ix).toNat = c := by have := HC.out; omega
  have e2 : ((s.size : Int) - 100 - 1 + ix + 1).toNat = c + 1 := by have := HC.out; omega
  simp [e1, e2]
theorem cut_bad (s : ByteArray) (w : World) (hg : Gl w) (h : 100 < s.size) (hs : s.size ≤ 100000) (ix : Int) (hix : Lib.indexByte (s.extract (s.size - 100 - 1) s.size).data.toList 47 = ix) (hn : 0 ≤ ix) (hi : ix ≤ 200)
    (hb : (s.size : Int) - 100 - 1 + ix = 0 ∨ 155 < (s.size : Int) - 100 - 1 + ix ∨ (s.size : Int) - 100 - 1 + ix = (s.size : Int) - 1) :
    Calls Tryd.prog 24 #[.string s] w fun e w' => e = .returned (.tuple #[.string ⟨#[]⟩, .string ⟨#[]⟩, .bool false]) ∧ w = w' := by
  have c0 : w.cell? ⟨0, 1, none⟩ = some (.int .i64 100) := hg.size 0 (by omega)
  have c5 : w.cell? ⟨5, 1, none⟩ = some (.int .i64 155) := hg.size 5 (by omega)
  have f1 : decide ((s.size : Int) ≤ 100) = false := decide_eq_false (by omega)
  have HI : Aside0 (∀ w, Calls Tryd.prog 43 #[.string (s.extract (s.size - 100 - 1) s.size), .int .u8 47] w fun e w' => e = .returned (.int .i64 ix) ∧ w' = w) := ⟨fun w => hix ▸ Tryd.strings_IndexByte _ 47 w⟩
  have l0 : (0 : Int) ≤ (s.size : Int) - 100 - 1 := by omega
  have l1 : (s.size : Int) - 100 - 1 ≤ (s.size : Int) := by omega
  have q0 : decide (ix < 0) = false := decide_eq_false (by omega)
  clear hg hix
  by_cases b1 : (s.size : Int) - 100 - 1 + ix = 0
  · have q1 : ((s.size : Int) - 100 - 1 + ix == 0) = true := beq_iff_eq.2 b1
    clear b1 hb
    go_enter Tryd.func24, Tryd.ntmps24
    go_wp2_with (go_at_call 43; refine (HI.out _).mono ?_; rintro e w' ⟨rfl, rfl⟩)
    go_ret3
    exact ⟨rfl, rfl⟩
  · have q1 : ((s.size : Int) - 100 - 1 + ix == 0) = false := beq_eq_false_iff_ne.2 b1
    by_cases b2 : 155 < (s.size : Int) - 100 - 1 + ix
    · have q2 : decide (155 < (s.size : Int) - 100 - 1 + ix) = true := decide_eq_true b2
      clear b1 b2 hb
      go_enter Tryd.func24, Tryd.ntmps24
      go_wp2_with (go_at_call 43; refine (HI.out _).mono ?_; rintro e w' ⟨rfl, rfl⟩)
      go_ret3
      exact ⟨rfl, rfl⟩
    · have q2 : decide (155 < (s.size : Int) - 100 - 1 + ix) = false := decide_eq_false b2
      have q3 : ((s.size : Int) - 100 - 1 + ix == (s.size : Int) - 1) = true := beq_iff_eq.2 (by omega)
      clear b1 b2 hb
      go_enter Tryd.func24, Tryd.ntmps24
      go_wp2_with (go_at_call 43; refine (HI.out _).mono ?_; rintro e w' ⟨rfl, rfl⟩)
      go_ret3
      exact ⟨rfl, rfl⟩
end Go.Proofs.YtiioiikcjaiajaaDoor.My

/- Blocks of bytes known whole, and slices of bytes that are made. -/
namespace Go.Proofs.YtiioiikcjaiajaaDoor.My
open Go.RowKit Go.Proofs.YtiioiikcjaiajaaDoorW.PrintWords Go.Proofs.YtiioiikcjaiajaaDoorW.PrintLast Go.Proofs.YtiioiikcjaiajaaDoorW.PrintMore

/-- A block of bytes, known whole: none of its places is frozen. -/
structure Row (w : World) (g : Nat) (l : List Int) : Prop where mk :: (out : ∃ fr : Nat × Nat, w.heap[g]? = some (.cells (nums .u8 l).toArray 5 fr) ∧ (fr = (0, 0) ∨ l.length ≤ fr.1))
theorem Row.of {w : World} {g : Nat} {l : List Int} (h : w.heap[g]? = some (.cells (nums .u8 l).toArray 5 (0, 0))) : Row w g l := ⟨_, h, .inl rfl⟩
theorem Row.drewN {w : World} {g : Nat} {l : List Int} (h : Row w g l) (n : Nat) : Row (w.drewN n) g l := ⟨h.out⟩
theorem Row.drew {w : World} {g : Nat} {l : List Int} (h : Row w g l) : Row w.drew g l := ⟨h.out⟩
theorem Row.lt {w : World} {g : Nat} {l : List Int} (h : Row w g l) : g < w.heap.size := by obtain ⟨fr, h, _⟩ := h.out; exact blk_lt h
theorem Row.cell {w : World} {g : Nat} {l : List Int} (h : Row w g l) (i : Nat) (hi : i < l.length) : w.cell? ⟨g, i, none⟩ = some (.int .u8 (l.getD i 0)) := by
  obtain ⟨fr, h, _⟩ := h.out
  rw [World.cell?]
  simp [h, nums, hi]
theorem Row.frozen {w : World} {g : Nat} {l : List Int} (h : Row w g l) (i : Nat) (hi : i < l.length) : w.frozen? ⟨g, i, none⟩ = false := by
  obtain ⟨fr, h, hf⟩ := h.out
  rcases hf with rfl | hf
  · simp [World.frozen?, h]
  · simp [World.frozen?, h]; omega
theorem Row.set {w : World} {g : Nat} {l : List Int} (h : Row w g l) (i : Nat) (x : Int) : Row (w.setCell ⟨g, i, none⟩ (.int .u8 x)) g (l.set i x) := by
  obtain ⟨fr, h, hf⟩ := h.out
  refine ⟨fr, ?_, by simpa using hf⟩
  rw [setCell_eq_setRow w g i _ _ fr _ h, setRow_heap w g _ _ _ fr h]
  simp [nums, List.map_set]
theorem Row.grown {w w1 : World} {g : Nat} {l : List Int} {row : Option Nat} (h : Row w g l) (hg : w.grownBy w1 row) (hne : some g ≠ row) : Row w1 g l := by
  obtain ⟨fr, h, hf⟩ := h.out
  exact ⟨fr, blk_grown h hg hne, hf⟩
theorem Row.below {w w1 : World} {g : Nat} {l : List Int} (h : Row w g l) (hb : Below w.heap.size w w1) : Row w1 g l := h.grown (row := none) ⟨hb.os, hb.tape, hb.output, hb.size, fun k hk _ => hb.block k hk⟩ (by simp)
theorem Row.alloc {w : World} {g : Nat} {l : List Int} (h : Row w g l) (o : Obj) : Row (w.alloc o) g l := h.below (below_alloc (Below.refl _ _) o)
theorem Row.C {w : World} {g : Nat} {l : List Int} (h : Row w g l) (off n : Nat) (hn : off + n ≤ l.length) (hm : n ≤ 9223372036854775807) : (Kd.int .u8).C w (some ⟨g, off, none⟩) n ((l.drop off).take n) := by
  refine Kd.C_of_reads (d := 0) ⟨by rw [List.length_take, List.length_drop]; omega, hm, fun _ => ⟨_, rfl, fun j hj => ?_⟩⟩
  rw [add_at, h.cell _ (by omega)]
  simp [List.getD_eq_getElem?_getD, hj]
theorem Row.whole {w : World} {g : Nat} {l : List Int} (h : Row w g l) (hm : l.length ≤ 9223372036854775807) : (Kd.int .u8).C w (some ⟨g, 0, none⟩) l.length l := by
  have := h.C 0 l.length (by omega) hm
  simpa using this
/-- A block that the call has just made: a literal's, and one that 'make' made. -/
theorem Row.lit (w : World) (l : List Int) : Row (w.alloc (.cells (nums .u8 l).toArray 5)) w.heap.size l := Row.of (alloc_self _ _)
theorem Row.str (w : World) (l : List Int) : Row (w.alloc (.cells (nums .u8 l).toArray 5 (l.length, l.length + 1))) w.heap.size l := ⟨_, alloc_self _ _, .inr (Nat.le_refl _)⟩
theorem made_nums (k : IntKind) (m : Nat) : madeCells #[.int k 0] m = (nums k (List.replicate m 0)).toArray := by
  apply Array.ext'
  apply List.ext_getElem
  · simp [nums, madeCells]
  · intro i h1 h2
    simp [nums, madeCells, Nat.mod_one]
theorem Row.made (w : World) (m : Nat) : Row (w.alloc (.cells (madeCells #[.int .u8 0] m) 5)) w.heap.size (List.replicate m 0) := by
  rw [made_nums]
  exact Row.lit w _
theorem info_u8 : (Tryd.prog.info? 5).map (fun i => (i.zero, i.size, i.bytes)) = some (some (.int .u8 0), 1, 1) := by kernel_rfl
theorem make_bytes (n : Nat) (hn : n ≤ 16777216) (W : World) : (Instr.makeSlice 26 (.int .i64 n) (.int .i64 n)).run Tryd.prog W = .ok (.slice (some ⟨W.heap.size, 0, none⟩) n n) (W.alloc (.cells (madeCells #[.int .u8 0] n) 5)) := by
  obtain ⟨i0, hi, hz⟩ := Option.map_eq_some_iff.1 info_u8
  simp only [Prod.mk.injEq] at hz
  have h := run_makeSlice W (P := Tryd.prog) 26 5 i0 (.int .u8 0) Tryd.underlying26 hi hz.1 .i64 .i64 n n (by omega) (by omega) (by rw [hz.2.1]; omega) (by rw [hz.2.2]; omega) (by omega)
  rw [hz.2.1] at h
  simpa [Value.cells] using h
end Go.Proofs.YtiioiikcjaiajaaDoor.My

/- The walks of field.of, octal.PutText at a place of a block, guard.Pass of no error. -/
set_option maxRecDepth 100000
namespace Go.Proofs.YtiioiikcjaiajaaDoor.My
open Go.RowKit Go.Proofs.YtiioiikcjaiajaaDoor.Hd Go.Proofs.YtiioiikcjaiajaaDoorW.PrintWords Go.Proofs.YtiioiikcjaiajaaDoorW.PrintLast Go.Proofs.YtiioiikcjaiajaaDoorW.PrintMore
set_option linter.unusedVariables false
set_option linter.unusedSimpArgs false

theorem bs_cells (s : ByteArray) : Lib.byteCells s.data.toList = nums .u8 (bs s) := by unfold bs nums Lib.byteCells; rw [List.map_map]; rfl
/-- A block of bytes that the call made: none of its places is marked. -/
structure Row0 (w : World) (g : Nat) (l : List Int) : Prop where mk :: (out : w.heap[g]? = some (.cells (nums .u8 l).toArray 5 (0, 0)))
theorem Row0.row {w : World} {g : Nat} {l : List Int} (h : Row0 w g l) : Row w g l := Row.of h.out
theorem Row0.set {w : World} {g : Nat} {l : List Int} (h : Row0 w g l) (i : Nat) (x : Int) : Row0 (w.setCell ⟨g, i, none⟩ (.int .u8 x)) g (l.set i x) := by
  refine ⟨?_⟩
  rw [setCell_eq_setRow w g i _ _ (0, 0) _ h.out, setRow_heap w g _ _ _ (0, 0) h.out]
  simp [nums, List.map_set]
theorem Row0.below {w w1 : World} {g : Nat} {l : List Int} (h : Row0 w g l) (hb : Below w.heap.size w w1) : Row0 w1 g l := ⟨blk_below h.out hb⟩
theorem Row0.grown {w w1 : World} {g : Nat} {l : List Int} {row : Option Nat} (h : Row0 w g l) (hg : w.grownBy w1 row) (hne : some g ≠ row) : Row0 w1 g l := ⟨blk_grown h.out hg hne⟩
theorem Row0.drewN {w : World} {g : Nat} {l : List Int} (h : Row0 w g l) (n : Nat) : Row0 (w.drewN n) g l := ⟨h.out⟩
theorem Row0.drew {w : World} {g : Nat} {l : List Int} (h : Row0 w g l) : Row0 w.drew g l := ⟨h.out⟩
theorem Row0.made (w : World) (m : Nat) : Row0 (w.alloc (.cells (madeCells #[.int .u8 0] m) 5)) w.heap.size (List.replicate m 0) := by
  rw [made_nums]
  exact ⟨alloc_self _ _⟩
theorem setRow_grown (w : World) (g : Nat) (cs : Array Value) : w.grownBy (w.setRow g cs) (some g) :=
  ⟨rfl, rfl, rfl, by simp, fun k _ hk => setRow_other w g k cs (fun e => hk (by rw [e]))⟩
theorem info_u8' : (Tryd.prog.info? 5).map (·.size) = some 1 := by
  obtain ⟨i0, hi, hz⟩ := Option.map_eq_some_iff.1 info_u8
  simp only [Prod.mk.injEq] at hz
  rw [hi]
  simp [hz.2.1]
theorem slice_from (g off n c k : Nat) (hk : k ≤ n) (hc : n ≤ c) (W : World) : (Instr.slice 26 (.slice (some ⟨g, off, none⟩) n c) (some (.int .i64 k)) none none).run Tryd.prog W = .ok (.slice (if c = k then some ⟨g, off, none⟩ else some ⟨g, off + k, none⟩) (n - k) (c - k)) W := by
  obtain ⟨i0, hi, hz⟩ := Option.map_eq_some_iff.1 info_u8
  simp only [Prod.mk.injEq] at hz
  have hel : Tryd.prog.elem 26 = 5 := by simp [Program.elem, Tryd.underlying26]
  have hu : Tryd.prog.underlying 26 = some (.slice (Tryd.prog.elem 26)) := by rw [hel]; exact Tryd.underlying26
  rw [run_slice_l W 26 (some ⟨g, off, none⟩) n c hu .i64 k (by omega) (by omega), hel]
  simp [sizeOf, typeInfo, hi, hz.2.1, sliced, Result.andThen, add_at]
theorem setCells_row (w : World) (g : Nat) (fr : Nat × Nat) (e : TypeId) : ∀ (vs : List Value) (o : Nat) (cs : List Value), w.heap[g]? = some (.cells cs.toArray e fr) → o + vs.length ≤ cs.length → (w.setCells g o vs).heap[g]? = some (.cells (cs.take o ++ vs ++ cs.drop (o + vs.length)).toArray e fr) ∧ w.grownBy (w.setCells g o vs) (some g) := by
  intro vs
  induction vs generalizing w with
  | nil =>
    intro o cs h ho
    refine ⟨?_, World.grownBy.refl w _⟩
    show w.heap[g]? = _
    rw [h]
    simp
  | cons v vs ih =>
    intro o cs h ho
    have hset : (w.setCell ⟨g, o, none⟩ v).heap[g]? = some (.cells (cs.set o v).toArray e fr) := by
      rw [setCell_eq_setRow w g o _ _ fr _ h, setRow_heap w g _ _ _ fr h]
      simp
    obtain ⟨h1, h2⟩ := ih (w.setCell ⟨g, o, none⟩ v) (o + 1) (cs.set o v) hset (by simp at *; omega)
    refine ⟨?_, grown_trans (grown_set w g o v) h2⟩
    show ((w.setCell ⟨g, o, none⟩ v).setCells g (o + 1) vs).heap[g]? = _
    rw [h1]
    congr 3
    simp only [List.length_cons] at *
    have e1 : (cs.set o v).take (o + 1) = cs.take o ++ [v] := by
      rw [List.take_set, List.take_add_one]
      have hlt : o < cs.length := by omega
      rw [List.getElem?_eq_getElem hlt]
      simp only [Option.toList_some]
      rw [List.set_append_right _ _ (by simp; omega)]
      simp [Nat.min_eq_left (Nat.le_of_lt hlt)]
    have e2 : (cs.set o v).drop (o + 1 + vs.length) = cs.drop (o + (vs.length + 1)) := by
      rw [List.drop_set_of_lt (by omega)]
      congr 1
      omega
    rw [e1, e2]
    simp
theorem zero_u8 (w : World) : (zeroValue 5).run Tryd.prog w = .ok (.int .u8 0) w := by
  obtain ⟨i0, hi, hz⟩ := Option.map_eq_some_iff.1 info_u8
  simp only [Prod.mk.injEq] at hz
  simp [zeroValue, typeInfo, hi, hz.1]
theorem patch_two {l a b : List Int} {o : Nat} (h : o + (a.length + b.length) ≤ l.length) : patch (patch l o a) (o + a.length) b = patch l o (a ++ b) := by
  apply List.ext_getElem?
  intro i
  have h1 : (patch l o a).length = l.length := patch_length (by omega)
  rw [patch_get (by rw [h1]; omega), patch_get (by omega), patch_get (by rw [List.length_append]; omega), List.length_append]
  by_cases e1 : o + a.length ≤ i ∧ i < o + a.length + b.length
  · rw [if_pos e1, if_pos (by omega), List.getElem?_append_right (by omega)]
    congr 1
    omega
  · rw [if_neg e1]
    by_cases e2 : o ≤ i ∧ i < o + a.length
    · rw [if_pos e2, if_pos (by omega), List.getElem?_append_left (by omega)]
    · rw [if_neg e2, if_neg (by omega)]
theorem patch_cells (l b : List Int) (o m : Nat) (hm : b.length = m) : (nums .u8 l).take o ++ nums .u8 b ++ (nums .u8 l).drop (o + m) = nums .u8 (patch l o b) := by
  subst hm
  unfold patch nums
  simp [List.map_take, List.map_drop]
set_option maxHeartbeats 1000000 in
theorem putText_calls (w : World) (g off n c : Nat) (s : ByteArray) (l : List Int) (hn : n ≤ 1000000) (hc : n ≤ c) (hs : s.size ≤ n) (hl : off + n ≤ l.length) (hr : Row0 w g l) (hE : Lib.indexByte s.data.toList 0 < 0) :
    Calls Tryd.prog 26 #[.slice (some ⟨g, off, none⟩) n c, .string s] w fun r w' => r = .returned (errV none) ∧ Row0 w' g (patch l off (txt s n)) ∧ w.grownBy w' (some g) := by
  have HI : Aside0 (∀ w : World, Calls Tryd.prog 43 #[.string s, .int .u8 0] w fun e w' => e = .returned (.int .i64 (Lib.indexByte s.data.toList 0)) ∧ w' = w) := ⟨fun w => Tryd.strings_IndexByte s 0 w⟩
  have hlen : (nums .u8 l).toArray.size = l.length := by rw [List.size_toArray, nums_length]
  have hcp := fun ty => Lib.run_copy_row_string (P := Tryd.prog) w 26 9 ty 5 g off n c s (nums .u8 l).toArray 5 Tryd.underlying26 info_u8' hr.out hs (by rw [hlen]; omega)
  have hbl := bs_len s
  have hrow1 : (w.setRow g ((nums .u8 l).toArray.toList.take off ++ Lib.byteCells s.data.toList ++ (nums .u8 l).toArray.toList.drop (off + s.size)).toArray).heap[g]? = some (.cells (nums .u8 (patch l off (bs s))).toArray 5 (0, 0)) := by
    rw [setRow_heap w g _ _ 5 (0, 0) hr.out, bs_cells]
    rw [show (nums .u8 l).toArray.toList = nums .u8 l from rfl, patch_cells l (bs s) off s.size hbl]
  have hg1 := setRow_grown w g ((nums .u8 l).toArray.toList.take off ++ Lib.byteCells s.data.toList ++ (nums .u8 l).toArray.toList.drop (off + s.size)).toArray
  generalize w.setRow g ((nums .u8 l).toArray.toList.take off ++ Lib.byteCells s.data.toList ++ (nums .u8 l).toArray.toList.drop (off + s.size)).toArray = w1 at *
  have hsl := slice_from g off n c s.size hs hc
  have b1 : (s.size : Int) ≤ (n : Int) := by omega
  have b2 : Lib.indexByte s.data.toList 0 < 0 := by omega
  generalize Lib.indexByte s.data.toList 0 = q at *
  have hgo : goInt s.size = .int .i64 s.size := rfl
  rw [hgo] at hcp
  have hpl : (patch l off (bs s)).length = l.length := patch_length (by omega)
  have hcl : ∃ w2, (∀ ty, (Builtin.clear_ #[26] ty #[.slice (if c = s.size then some ⟨g, off, none⟩ else some ⟨g, off + s.size, none⟩) (n - s.size) (c - s.size)]).run Tryd.prog w1 = .ok (.tuple #[]) w2) ∧ Row0 w2 g (patch l off (txt s n)) ∧ w.grownBy w2 (some g) := by
    by_cases hk : n = s.size
    · refine ⟨w1, fun ty => ?_, ⟨?_⟩, hg1⟩
      · rw [hk, Nat.sub_self]
        by_cases hcs : c = s.size
        · rw [if_pos hcs]; simp [Builtin.clear_, run_underlying Tryd.underlying26, zero_u8]
        · rw [if_neg hcs]; simp [Builtin.clear_, run_underlying Tryd.underlying26, zero_u8]
      · rw [hrow1]
        unfold txt
        rw [hk, Nat.sub_self, List.replicate_zero, List.append_nil]
    · have hcell : ∀ j, j < n - s.size → (w1.cell? ⟨g, off + s.size + j, none⟩).isSome = true := by
        intro j hj
        rw [blk_cell hrow1]
        have : off + s.size + j < (nums .u8 (patch l off (bs s))).toArray.size := by rw [List.size_toArray, nums_length, hpl]; omega
        rw [Array.getElem?_eq_getElem this]
        rfl
      have hrun := fun ty => Lib.run_clear_slice (P := Tryd.prog) w1 26 5 ty (.int .u8 0) Tryd.underlying26 zero_u8 rfl rfl g (off + s.size) (n - s.size) (c - s.size) (by omega) hcell (fun j _ => blk_frozen hrow1 _)
      have hst := setCells_row w1 g (0, 0) 5 (List.replicate (n - s.size) (.int .u8 0)) (off + s.size) (nums .u8 (patch l off (bs s))) hrow1 (by rw [List.length_replicate, nums_length, hpl]; omega)
      refine ⟨_, fun ty => ?_, ⟨?_⟩, grown_trans hg1 hst.2⟩
      · rw [if_neg (by omega)]; exact hrun ty
      · rw [hst.1, List.length_replicate]
        have e0 : List.replicate (n - s.size) (Value.int .u8 0) = nums .u8 (List.replicate (n - s.size) 0) := by simp [nums]
        rw [e0, patch_cells _ (List.replicate (n - s.size) 0) (off + s.size) (n - s.size) (by rw [List.length_replicate])]
        have := patch_two (l := l) (a := bs s) (b := List.replicate (n - s.size) 0) (o := off) (by rw [hbl, List.length_replicate]; omega)
        rw [hbl] at this
        rw [this]
        rfl
  obtain ⟨w2, hcl, hr2, hg2⟩ := hcl
  have HR2 := Aside0.mk hr2
  have HG2 := Aside0.mk hg2
  generalize (if c = s.size then some (⟨g, off, none⟩ : Addr) else some ⟨g, off + s.size, none⟩) = A3 at *
  clear hr hrow1 hg1 hl hlen hgo hE hr2 hg2 hn hpl hbl hc hs
  go_enter Tryd.func26, Tryd.ntmps26
  go_wp2_with (go_at_call 43; refine (HI.out _).mono ?_; rintro e w' ⟨rfl, rfl⟩)
  go_ret
  exact ⟨rfl, HR2.out, HG2.out⟩
theorem pass_calls (w : World) : Calls Tryd.prog 25 #[errV none] w fun e w' => e = .returned (.tuple #[]) ∧ w = w' := by
  show Calls Tryd.prog 25 #[.nilIface] w _
  go_enter Tryd.func25, Tryd.ntmps25
  go_wp2
  go_end0
  exact ⟨rfl, rfl⟩
/-- b[at : at+size] of any slice of bytes. -/
theorem of_calls (A : Option Addr) (n c a sz : Nat) (h1 : a + sz ≤ n) (hc : n ≤ c) (hc9 : c ≤ 4611686018427387904) (w : World) :
    Calls Tryd.prog 27 #[.agg #[.int .i64 a, .int .i64 sz], .slice A n c] w fun e w' => e = .returned (.slice (if c = a then A else A.map (·.add a)) sz (c - a)) ∧ w' = w.alloc (.cells #[.int .i64 a, .int .i64 sz] 55) := by
  have hsl : ∀ W : World, (Instr.slice 26 (.slice A n c) (some (.int .i64 a)) (some (.int .i64 ((a : Int) + (sz : Int)))) none).run Tryd.prog W = .ok (.slice (if c = a then A else A.map (·.add a)) sz (c - a)) W := by
    intro W
    obtain ⟨i0, hi, hz⟩ := Option.map_eq_some_iff.1 info_u8
    simp only [Prod.mk.injEq] at hz
    have hel : Tryd.prog.elem 26 = 5 := by simp [Program.elem, Tryd.underlying26]
    have hu : Tryd.prog.underlying 26 = some (.slice (Tryd.prog.elem 26)) := by rw [hel]; exact Tryd.underlying26
    rw [run_slice_lh W 26 A n c hu .i64 .i64 a ((a : Int) + sz) (by omega) (by omega) (by omega), hel]
    have e1 : ((a : Int) + (sz : Int)).toNat = a + sz := by omega
    simp [sizeOf, typeInfo, hi, hz.2.1, sliced, Result.andThen, e1]
  generalize (if c = a then A else A.map (·.add a)) = A' at *
  have b1 : (a : Int) + (sz : Int) ≤ 4611686018427387904 := by omega
  clear h1 hc hc9
  go_enter Tryd.func27, Tryd.ntmps27
  go_wp2_with fail
  go_ret
  exact ⟨rfl, rfl⟩
end Go.Proofs.YtiioiikcjaiajaaDoor.My

/-
  DERIVED: THE SHELF's CONTRACTS AT THIS DUMP, IN PLAIN WORDS (tools/lay-plain.mjs out of 'TrydTrim.lean', which tools/lay-shelf.mjs wrote): THE SAME DECLARATIONS UNDER THE SAME NAMES: 'import', 'namespace', 'open', 'def', 'theorem' AND NOTHING ELSE: no command of the shelf's: FOR A HAND-IN. Each laying: the table of numbers ('.._ren') and one theorem, a field a fact of the dump's own or the kernel's comparison; each contract: ONE APPLICATION.
-/
namespace Go.Proofs
open Go.Shelf
def Tryd.laysTrim_ren : Go.Shelf.Ren := ⟨fun | 6 => 40 | 10 => 53 | 9 => 52 | 11 => 54 | 13 => 56 | 12 => 55 | 15 => 58 | 14 => 57 | 16 => 61 | 19 => 64 | 18 => 63 | 17 => 62 | 21 => 72 | 20 => 71 | n => n, fun | 22 => 26 | 9 => 9 | 3 => 3 | 4 => 4 | 5 => 5 | 28 => 92 | 27 => 91 | 0 => 0 | 31 => 95 | 21 => 21 | 33 => 99 | 36 => 107 | 37 => 40 | 40 => 110 | 39 => 109 | n => n, fun | 0 => 15 | 1 => 16 | n => n⟩
theorem Tryd.laysTrim : Go.Proofs.SlLaysV.n6 Tryd.prog Tryd.laysTrim_ren := {
  mixed := by kernel_rfl
  f6 := Tryd.func40.trans (congrArg some (by kernel_rfl))
  f9 := Tryd.func52.trans (congrArg some (by kernel_rfl))
  f10 := Tryd.func53.trans (congrArg some (by kernel_rfl))
  f11 := Tryd.func54.trans (congrArg some (by kernel_rfl))
  f12 := Tryd.func55.trans (congrArg some (by kernel_rfl))
  f13 := Tryd.func56.trans (congrArg some (by kernel_rfl))
  f14 := Tryd.func57.trans (congrArg some (by kernel_rfl))
  f15 := Tryd.func58.trans (congrArg some (by kernel_rfl))
  f16 := Tryd.func61.trans (congrArg some (by kernel_rfl))
  f17 := Tryd.func62.trans (congrArg some (by kernel_rfl))
  f18 := Tryd.func63.trans (congrArg some (by kernel_rfl))
  f19 := Tryd.func64.trans (congrArg some (by kernel_rfl))
  f20 := Tryd.func71.trans (congrArg some (by kernel_rfl))
  f21 := Tryd.func72.trans (congrArg some (by kernel_rfl))
  t0 := Tryd.underlying0
  a0 := Tryd.isAgg0
  z0 := Tryd.sizeOf0
  v0 := Tryd.zeroValue0
  t3 := Tryd.underlying3
  a3 := Tryd.isAgg3
  z3 := Tryd.sizeOf3
  v3 := Tryd.zeroValue3
  t4 := Tryd.underlying4
  a4 := Tryd.isAgg4
  z4 := Tryd.sizeOf4
  v4 := Tryd.zeroValue4
  t5 := Tryd.underlying5
  a5 := Tryd.isAgg5
  z5 := Tryd.sizeOf5
  v5 := Tryd.zeroValue5
  t9 := Tryd.underlying9
  a9 := Tryd.isAgg9
  z9 := Tryd.sizeOf9
  v9 := Tryd.zeroValue9
  t21 := Tryd.underlying21
  a21 := Tryd.isAgg21
  z21 := Tryd.sizeOf21
  v21 := Tryd.zeroValue21
  t22 := Tryd.underlying26
  a22 := Tryd.isAgg26
  z22 := Tryd.sizeOf26
  v22 := Tryd.zeroValue26
  t27 := Tryd.underlying91
  a27 := Tryd.isAgg91
  z27 := Tryd.sizeOf91
  t28 := Tryd.underlying92
  a28 := Tryd.isAgg92
  z28 := Tryd.sizeOf92
  v28 := Tryd.zeroValue92
  t31 := Tryd.underlying95
  a31 := Tryd.isAgg95
  z31 := Tryd.sizeOf95
  v31 := Tryd.zeroValue95
  t33 := Tryd.underlying99
  a33 := Tryd.isAgg99
  z33 := Tryd.sizeOf99
  v33 := Tryd.zeroValue99
  t36 := Tryd.underlying107
  a36 := Tryd.isAgg107
  z36 := Tryd.sizeOf107
  t37 := Tryd.underlying40
  a37 := Tryd.isAgg40
  z37 := Tryd.sizeOf40
  v37 := Tryd.zeroValue40
  t39 := Tryd.underlying109
  a39 := Tryd.isAgg109
  z39 := Tryd.sizeOf109
  v39 := Tryd.zeroValue109
  t40 := Tryd.underlying110
  a40 := Tryd.isAgg110
  z40 := Tryd.sizeOf110
  v40 := Tryd.zeroValue110 }
def Tryd.laysTrimLeft_ren : Go.Shelf.Ren := ⟨fun | 8 => 51 | 9 => 52 | 11 => 54 | 12 => 55 | 14 => 57 | 16 => 61 | 17 => 62 | 18 => 63 | 20 => 71 | n => n, fun | 22 => 26 | 9 => 9 | 3 => 3 | 4 => 4 | 5 => 5 | 28 => 92 | 27 => 91 | 0 => 0 | 31 => 95 | 33 => 99 | 21 => 21 | 36 => 107 | 37 => 40 | 40 => 110 | 39 => 109 | n => n, fun | 0 => 15 | 1 => 16 | n => n⟩
theorem Tryd.laysTrimLeft : Go.Proofs.SlLaysV.n8 Tryd.prog Tryd.laysTrimLeft_ren := {
  mixed := by kernel_rfl
  f8 := Tryd.func51.trans (congrArg some (by kernel_rfl))
  f9 := Tryd.func52.trans (congrArg some (by kernel_rfl))
  f11 := Tryd.func54.trans (congrArg some (by kernel_rfl))
  f12 := Tryd.func55.trans (congrArg some (by kernel_rfl))
  f14 := Tryd.func57.trans (congrArg some (by kernel_rfl))
  f16 := Tryd.func61.trans (congrArg some (by kernel_rfl))
  f17 := Tryd.func62.trans (congrArg some (by kernel_rfl))
  f18 := Tryd.func63.trans (congrArg some (by kernel_rfl))
  f20 := Tryd.func71.trans (congrArg some (by kernel_rfl))
  t0 := Tryd.underlying0
  a0 := Tryd.isAgg0
  z0 := Tryd.sizeOf0
  v0 := Tryd.zeroValue0
  t3 := Tryd.underlying3
  a3 := Tryd.isAgg3
  z3 := Tryd.sizeOf3
  v3 := Tryd.zeroValue3
  t4 := Tryd.underlying4
  a4 := Tryd.isAgg4
  z4 := Tryd.sizeOf4
  v4 := Tryd.zeroValue4
  t5 := Tryd.underlying5
  a5 := Tryd.isAgg5
  z5 := Tryd.sizeOf5
  v5 := Tryd.zeroValue5
  t9 := Tryd.underlying9
  a9 := Tryd.isAgg9
  z9 := Tryd.sizeOf9
  v9 := Tryd.zeroValue9
  t21 := Tryd.underlying21
  a21 := Tryd.isAgg21
  z21 := Tryd.sizeOf21
  v21 := Tryd.zeroValue21
  t22 := Tryd.underlying26
  a22 := Tryd.isAgg26
  z22 := Tryd.sizeOf26
  v22 := Tryd.zeroValue26
  t27 := Tryd.underlying91
  a27 := Tryd.isAgg91
  z27 := Tryd.sizeOf91
  t28 := Tryd.underlying92
  a28 := Tryd.isAgg92
  z28 := Tryd.sizeOf92
  v28 := Tryd.zeroValue92
  t31 := Tryd.underlying95
  a31 := Tryd.isAgg95
  z31 := Tryd.sizeOf95
  v31 := Tryd.zeroValue95
  t33 := Tryd.underlying99
  a33 := Tryd.isAgg99
  z33 := Tryd.sizeOf99
  v33 := Tryd.zeroValue99
  t36 := Tryd.underlying107
  a36 := Tryd.isAgg107
  z36 := Tryd.sizeOf107
  t37 := Tryd.underlying40
  a37 := Tryd.isAgg40
  z37 := Tryd.sizeOf40
  v37 := Tryd.zeroValue40
  t39 := Tryd.underlying109
  a39 := Tryd.isAgg109
  z39 := Tryd.sizeOf109
  v39 := Tryd.zeroValue109
  t40 := Tryd.underlying110
  a40 := Tryd.isAgg110
  z40 := Tryd.sizeOf110
  v40 := Tryd.zeroValue110 }
end Go.Proofs

/- The contracts of bytes.TrimLeft and bytes.Trim at what octal.Take asks of them. -/
namespace Go.Proofs.YtiioiikcjaiajaaDoor.My
open Go.RowKit Go.Proofs.YtiioiikcjaiajaaDoor.Oct Go.Proofs.YtiioiikcjaiajaaDoorW.PrintWords Go.Proofs.YtiioiikcjaiajaaDoorW.PrintLast Go.Proofs.YtiioiikcjaiajaaDoorW.PrintMore
set_option linter.unusedVariables false
set_option linter.unusedSimpArgs false

/-- A slice of bytes, read: where it may lie, how long, its bytes. -/
structure Fld (w : World) (A : Option Addr) (n c : Nat) (xs : List Int) : Prop where
  rd : ReadsOf (Value.int .u8) (0 : Int) w A n xs
  byte : ∀ x ∈ xs, 0 ≤ x ∧ x < 256
  cap : n ≤ c ∧ c ≤ 9223372036854775807
theorem Fld.below {w w1 : World} {A : Option Addr} {n c : Nat} {xs : List Int} (h : Fld w A n c xs) (hb : Below w.heap.size w w1) : Fld w1 A n c xs := ⟨h.rd.below hb, h.byte, h.cap⟩
theorem Fld.inn {w : World} {A : Option Addr} {n c : Nat} {xs : List Int} (h : Fld w A n c xs) : Lib.BytesIn w A n xs := by
  intro hn
  obtain ⟨ad, rfl, hc⟩ := h.rd.2.2 hn
  exact Lib.BytesIn.of_cells hc hn
theorem Fld.none (w : World) : Fld w none 0 0 [] := ⟨⟨rfl, by omega, fun h => absurd h (Nat.lt_irrefl 0)⟩, (fun x h => by cases h), by omega⟩
theorem bytes_dw (cs : List UInt8) (p : Int → Bool) : ∀ xs : List Int, (∀ x ∈ xs, cs.contains (UInt8.ofNat x.toNat) = p x) → Lib.trimLeftS (Lib.bytesOf xs) cs = Lib.bytesOf (xs.dropWhile p) := by
  intro xs
  induction xs with
  | nil => intro _; rfl
  | cons x xs ih =>
    intro h
    have hx := h x List.mem_cons_self
    have ih := ih (fun y hy => h y (List.mem_cons_of_mem _ hy))
    unfold Lib.trimLeftS at ih ⊢
    show ((UInt8.ofNat x.toNat) :: Lib.bytesOf xs).dropWhile _ = _
    cases hp : p x with
    | true =>
      rw [List.dropWhile_cons_of_pos (by rw [hx]; exact hp), List.dropWhile_cons_of_pos hp]
      exact ih
    | false =>
      rw [List.dropWhile_cons_of_neg (by rw [hx, hp]; simp), List.dropWhile_cons_of_neg (by rw [hp]; simp)]
      rfl
theorem dw_nil {α : Type} (p : α → Bool) : ∀ l : List α, l.dropWhile p = [] ↔ l.all p = true := by
  intro l
  induction l with
  | nil => simp
  | cons x l ih =>
    cases hp : p x with
    | true => rw [List.dropWhile_cons_of_pos hp, ih]; simp [hp]
    | false => rw [List.dropWhile_cons_of_neg (by simp [hp])]; simp [hp]
theorem trim_none (l cs : List UInt8) : Lib.trimS l cs = [] ↔ l.all (cs.contains ·) = true := by
  unfold Lib.trimS Lib.trimLeftS
  rw [dw_nil]
  unfold Lib.trimRightS
  rw [List.all_reverse]
  constructor
  · intro h
    have hh : (l.reverse.dropWhile (cs.contains ·)) = [] := by
      cases e : l.reverse.dropWhile (cs.contains ·) with
      | nil => rfl
      | cons b r =>
        have h1 := List.head_dropWhile_not (cs.contains ·) (l := l.reverse) (by rw [e]; simp)
        rw [e] at h
        simp only [e, List.head_cons] at h1
        simp only [List.all_cons, Bool.and_eq_true] at h
        rw [h.1] at h1
        cases h1
    rw [dw_nil, List.all_reverse] at hh
    exact hh
  · intro h
    have hh : (l.reverse.dropWhile (cs.contains ·)) = [] := by rw [dw_nil, List.all_reverse]; exact h
    rw [hh]; rfl
/-- What a piece of it is. -/
theorem left_piece {w : World} {A : Option Addr} {n c : Nat} {xs : List Int} (h : Fld w A n c xs) (j : Nat) (hj : j ≤ n) : ∃ A' c', Lib.leftV A n c j = .slice A' (n - j) c' ∧ Fld w A' (n - j) c' (xs.drop j) := by
  have hl := h.rd.1
  unfold Lib.leftV
  by_cases e : j = n
  · subst e
    rw [if_pos rfl, Nat.sub_self, List.drop_eq_nil_of_le (by omega)]
    exact ⟨_, _, rfl, Fld.none w⟩
  · rw [if_neg e]
    refine ⟨_, _, rfl, ⟨?_, fun x hx => h.byte x (List.mem_of_mem_drop hx), by have := h.cap; omega⟩⟩
    exact h.rd.drop_ j hj h.cap.1

theorem trimLeft_calls (cs : ByteArray) (p : Int → Bool) (hs : cs.size < 4294967281) (ha : ∀ (j : Nat) b, cs.data.toList[j]? = some b → b.toNat < 128) (hp : ∀ x : Int, 0 ≤ x → x < 256 → cs.data.toList.contains (UInt8.ofNat x.toNat) = p x)
    (w : World) (A : Option Addr) (n c : Nat) (xs : List Int) (h : Fld w A n c xs) :
    Calls Tryd.prog 51 #[.slice A n c, .string cs] w fun e w' => (∃ A' c', e = .returned (.slice A' (xs.dropWhile p).length c') ∧ Fld w' A' (xs.dropWhile p).length c' (xs.dropWhile p)) ∧ Below w.heap.size w w' := by
  refine (Any.bytes_TrimLeft_laid Tryd.laysTrimLeft (by kernel_rfl) A n c xs cs w h.rd.1 h.cap.1 h.cap.2 h.inn h.byte hs ha).mono ?_
  rintro e w1 ⟨rfl, hb⟩
  refine ⟨?_, hb⟩
  rw [bytes_dw _ p xs (fun x hx => hp x (h.byte x hx).1 (h.byte x hx).2), Lib.bytesOf_length]
  have hsuf : xs.dropWhile p <:+ xs := List.dropWhile_suffix p
  have hle := hsuf.length_le
  have hl := h.rd.1
  obtain ⟨A', c', e1, e2⟩ := left_piece h (n - (xs.dropWhile p).length) (by omega)
  have ed : xs.drop (n - (xs.dropWhile p).length) = xs.dropWhile p := by
    rw [List.suffix_iff_eq_drop.1 hsuf, ← hl]
    simp only [List.length_drop]
    congr 1
    omega
  rw [ed, show n - (n - (xs.dropWhile p).length) = (xs.dropWhile p).length from by omega] at e2
  rw [show n - (n - (xs.dropWhile p).length) = (xs.dropWhile p).length from by omega] at e1
  exact ⟨A', c', by rw [e1], e2.below hb⟩
theorem trim_calls (cs : ByteArray) (p : Int → Bool) (hs : cs.size < 4294967281) (ha : ∀ (j : Nat) b, cs.data.toList[j]? = some b → b.toNat < 128) (hp : ∀ x : Int, 0 ≤ x → x < 256 → cs.data.toList.contains (UInt8.ofNat x.toNat) = p x)
    (w : World) (A : Option Addr) (n c : Nat) (xs : List Int) (h : Fld w A n c xs) :
    Calls Tryd.prog 40 #[.slice A n c, .string cs] w fun e w' => (∃ A' n' c', e = .returned (.slice A' n' c') ∧ decide ((0 : Int) < n') = !xs.all p) ∧ Below w.heap.size w w' := by
  refine (Any.bytes_Trim_laid Tryd.laysTrim (by kernel_rfl) A n c xs cs w h.rd.1 h.cap.1 h.cap.2 h.inn h.byte hs ha).mono ?_
  rintro e w1 ⟨rfl, hb⟩
  refine ⟨?_, hb⟩
  have ht := trim_none (Lib.bytesOf xs) cs.data.toList
  have hall : (Lib.bytesOf xs).all (cs.data.toList.contains ·) = xs.all p := by
    unfold Lib.bytesOf
    rw [List.all_map]
    clear ht hb
    have hb := h.byte
    clear h
    induction xs with
    | nil => rfl
    | cons x xs ih =>
      have hx := hb x List.mem_cons_self
      simp only [List.all_cons, Function.comp_apply]
      rw [hp x hx.1 hx.2]
      congr 1
      exact ih (fun y hy => hb y (List.mem_cons_of_mem _ hy))
  rw [hall] at ht
  have hle : (Lib.trimS (Lib.bytesOf xs) cs.data.toList).length ≤ (Lib.trimRightS (Lib.bytesOf xs) cs.data.toList).length := (List.dropWhile_suffix _).length_le
  generalize (Lib.trimRightS (Lib.bytesOf xs) cs.data.toList).length = k at *
  generalize hr : Lib.trimS (Lib.bytesOf xs) cs.data.toList = r at *
  have hd : decide ((0 : Int) < (r.length : Int)) = !xs.all p := by
    cases r with
    | nil => rw [ht.1 rfl]; rfl
    | cons a r =>
      have : xs.all p = false := by
        cases hh : xs.all p with
        | false => rfl
        | true => exact absurd (ht.2 hh) (by simp)
      rw [this]
      exact decide_eq_true (by simp)
  unfold Lib.leftV
  by_cases e : k - r.length = k
  · rw [if_pos e]
    refine ⟨_, _, _, rfl, ?_⟩
    rw [← hd]
    have : r.length = 0 := by omega
    rw [this]
  · rw [if_neg e]
    refine ⟨_, _, _, rfl, ?_⟩
    rw [← hd, show k - (k - r.length) = r.length from by omega]
end Go.Proofs.YtiioiikcjaiajaaDoor.My

/- The walks of octal's binary and Take: any field. -/
namespace Go.Proofs.YtiioiikcjaiajaaDoor.My
open Go.RowKit Go.Proofs.YtiioiikcjaiajaaDoor.Oct Go.Proofs.YtiioiikcjaiajaaDoorW.PrintWords Go.Proofs.YtiioiikcjaiajaaDoorW.PrintLast Go.Proofs.YtiioiikcjaiajaaDoorW.PrintMore
set_option linter.unusedVariables false
set_option linter.unusedSimpArgs false

/-- What Take hands back. -/
def ansV (a : Option Int × Int) : Value := .tuple #[.int .i64 a.2, errV a.1]
theorem drop_cons (xs : List Int) (i : Nat) (h : i < xs.length) : xs.drop i = xs.getD i 0 :: xs.drop (i + 1) := by
  rw [List.drop_eq_getElem_cons h, List.getD_eq_getElem?_getD, List.getElem?_eq_getElem h]
  rfl
theorem top_range (b : Int) (h0 : 128 ≤ b) (h1 : b < 256) : -64 ≤ top b ∧ top b < 64 := by unfold top; split <;> omega
theorem w64 (x : Int) : wrap64 x = IntKind.i64.wrap x := by rw [IntKind.wrap_i64]; unfold wrap64; rfl
set_option maxHeartbeats 1000000 in
theorem binary_calls (w : World) (A : Option Addr) (n c : Nat) (xs : List Int) (h : Fld w A n c xs) (b0 : Int) (rest : List Int) (hx : xs = b0 :: rest) (hb0 : 128 ≤ b0) :
    Calls Tryd.prog 50 #[.slice A n c] w fun e w' => e = .returned (ansV (ans 1 (bin xs))) ∧ ∃ m, w' = w.drewN m := by
  have hl := h.rd.1
  have hc9 := h.cap
  have hpos : 0 < n := by rw [← hl, hx]; simp
  obtain ⟨ad, rfl, hc⟩ := h.rd.2.2 hpos
  have hb1 : b0 < 256 := (h.byte b0 (by rw [hx]; exact List.mem_cons_self)).2
  have hbin : bin xs = binr rest (top b0) := by rw [hx]; rfl
  have c0 : w.cell? ad = some (.int .u8 b0) := by
    have := hc 0 hpos
    rw [hx] at this
    simpa [Addr.add] using this
  have hand : Go.bits .and .u8 b0 64 = if b0 % 128 < 64 then 0 else 64 := (byte_bits b0 (by omega) hb1).2.1
  have HNot : Aside0 (Go.bits .andNot .u8 b0 128 = b0 % 128) := ⟨(byte_bits b0 (by omega) hb1).2.2⟩
  have HTop := Aside0.mk (top_or b0 hb0 hb1)
  have HRg := Aside0.mk (top_range b0 hb0 hb1)
  have HC : Aside0 (∀ j, j < n → w.cell? (ad.add j) = some (.int .u8 (xs.getD j 0))) := ⟨hc⟩
  have HX : Aside0 (xs = b0 :: rest ∧ xs.length = n ∧ (∀ x ∈ xs, 0 ≤ x ∧ x < 256)) := ⟨hx, hl, h.byte⟩
  have HBin := Aside0.mk hbin
  have hn9 : (n : Int) ≤ 9223372036854775807 := by omega
  clear h hc hx hl hbin hc9
  have hsg : ∃ sg : Int, (sg = 0 ∨ sg = -1) ∧ (Go.bits .and .u8 b0 64 != 0) = decide (sg = -1) ∧ Aside0 (sg * 128 = if b0 % 128 < 64 then 0 else -128) := by
    by_cases hs : b0 % 128 < 64
    · exact ⟨0, .inl rfl, by rw [hand, if_pos hs]; rfl, ⟨by rw [if_pos hs]; rfl⟩⟩
    · exact ⟨-1, .inr rfl, by rw [hand, if_neg hs]; rfl, ⟨by rw [if_neg hs]; rfl⟩⟩
  clear hand
  obtain ⟨sg, hsg, hbit, HS⟩ := hsg
  rcases hsg with rfl | rfl
  all_goals
    replace hbit := hbit.trans (show _ = _ from rfl)
    go_enter Tryd.func50, Tryd.ntmps50
    go_wp2_with fail
    go_loopg [4, 15] n (fun kq v4 v15 wr => ∃ (i : Nat) (x : Int), v4 = .int .i64 x ∧ v15 = .int .i64 i ∧ i ≤ n ∧ -9223372036854775808 ≤ x ∧ x ≤ 9223372036854775807 ∧ Aside0 (kq = n - i) ∧ Aside0 ((i = 0 ∧ (x * 128 = if b0 % 128 < 64 then 0 else -128) ∧ (x = 0 ∨ x = -1)) ∨ (0 < i ∧ binr (xs.drop i) x = binr rest (top b0))) ∧ wr = w)
    case atStart => exact ⟨0, _, rfl, rfl, Nat.zero_le _, by omega, by omega, ⟨rfl⟩, ⟨.inl ⟨rfl, HS.out, by omega⟩⟩, rfl⟩
    case round =>
      obtain ⟨i, x, rfl, rfl, hi, hx0, hx1, HK, HR, rfl⟩ := hrel
      by_cases hlt : i < n
      · have hlt' : (i : Int) < (n : Int) := by omega
        have hci := HC.out i hlt
        rcases HR.out with ⟨rfl, hx128, hxs⟩ | ⟨hi0, hR⟩
        · have hb : xs.getD 0 0 = b0 := by rw [HX.out.1]; rfl
          rw [hb] at hci
          have hN := HNot.out
          have HT2 : Aside0 (Go.bits .or .i64 (x * 128) (b0 % 128) = top b0) := ⟨by rw [hx128]; exact HTop.out⟩
          clear hx128 hb
          go_wp2_with fail
          rw [HT2.out]
          have hr := HRg.out
          go_roundg (n - 1)
          case measure => have := HK.out; omega
          case rel =>
            refine ⟨1, _, rfl, rfl, by omega, by omega, by omega, ⟨rfl⟩, ⟨.inr ⟨by omega, ?_⟩⟩, rfl⟩
            rw [HX.out.1]
            rfl
        · have hb := HX.out.2.2 (xs.getD i 0) (by rw [List.getD_eq_getElem?_getD, List.getElem?_eq_getElem (by rw [HX.out.2.1]; exact hlt)]; exact List.getElem_mem _)
          have HD := Aside0.mk (drop_cons xs i (by rw [HX.out.2.1]; exact hlt))
          generalize xs.getD i 0 = b at *
          have HRR := Aside0.mk hR
          clear hR
          have hor : Go.bits .or .i64 (wrap64 (x * 256)) b = wrap64 (x * 256 + b) := by
            have h1 := next_or x b hx0 hx1 hb.1 hb.2
            rw [← w64, ← w64] at h1
            exact h1
          by_cases hrg : -36028797018963968 ≤ x ∧ x < 36028797018963968
          · have hy := next_yes x b hb.1 hb.2 hrg
            rw [← w64] at hy
            have hor2 : Go.bits .or .i64 (wrap64 (x * 256)) b = 256 * x + b := hor.trans hy.1
            have hq : ((256 * x + b) / 256 != x) = false := by rw [hy.2]; simp
            clear hor hy
            have HRg2 := Aside0.mk hrg
            have HB2 := Aside0.mk hb
            clear hrg
            go_wp2_with fail
            have hb := HB2.out
            have hrg := HRg2.out
            have e1 : ((i : Int) + 1) = ((i + 1 : Nat) : Int) := by omega
            rw [e1]
            go_roundg (n - (i + 1))
            case measure => have := HK.out; omega
            case rel =>
              refine ⟨i + 1, _, rfl, rfl, by omega, by omega, by omega, ⟨rfl⟩, ⟨.inr ⟨by omega, ?_⟩⟩, rfl⟩
              rw [← HRR.out, HD.out]
              show _ = if _ then _ else _
              rw [if_pos hrg]
          · have hq0 := next_no x b hx0 hx1 hb.1 hb.2 hrg
            rw [← w64] at hq0
            have hq : (wrap64 (x * 256 + b) / 256 != x) = true := by simpa using hq0
            have HRg2 := Aside0.mk hrg
            clear hrg hq0
            go_wp2_with fail
            go_ret2
            refine ⟨?_, 0, (World.drewN_zero _).symm⟩
            rw [HBin.out, ← HRR.out, HD.out]
            show _ = Ending.returned (ansV (ans 1 (if _ then _ else _)))
            rw [if_neg HRg2.out]
            rfl
      · have hlt' : ¬ (i : Int) < (n : Int) := by omega
        have hR : binr rest (top b0) = some x := by
          rcases HR.out with ⟨rfl, _⟩ | ⟨_, hR⟩
          · omega
          · rw [List.drop_eq_nil_of_le (by rw [HX.out.2.1]; omega)] at hR
            exact hR.symm
        have HRR := Aside0.mk hR
        clear hR
        go_wp2
        go_ret2
        refine ⟨?_, 0, (World.drewN_zero _).symm⟩
        rw [HBin.out, HRR.out]
        rfl

theorem fin_sets : ∀ b : Fin 256, ([32] : List UInt8).contains (UInt8.ofNat b.val) = decide (b.val = 32) ∧ ([48, 49, 50, 51, 52, 53, 54, 55] : List UInt8).contains (UInt8.ofNat b.val) = decide (48 ≤ b.val ∧ b.val ≤ 55) ∧ ([32, 0] : List UInt8).contains (UInt8.ofNat b.val) = decide (b.val = 32 ∨ b.val = 0) := by decide +kernel
theorem sets (x : Int) (h0 : 0 ≤ x) (h1 : x < 256) : ([32] : List UInt8).contains (UInt8.ofNat x.toNat) = spc x ∧ ([48, 49, 50, 51, 52, 53, 54, 55] : List UInt8).contains (UInt8.ofNat x.toNat) = dig x ∧ ([32, 0] : List UInt8).contains (UInt8.ofNat x.toNat) = wht x := by
  obtain ⟨n, rfl⟩ := Int.eq_ofNat_of_zero_le h0
  obtain ⟨a1, a2, a3⟩ := fin_sets ⟨n, by omega⟩
  simp only [Int.toNat_natCast]
  refine ⟨a1.trans ?_, a2.trans ?_, a3.trans ?_⟩
  · exact decide_eq_decide.2 (by simp; omega)
  · exact decide_eq_decide.2 (by simp; omega)
  · exact decide_eq_decide.2 (by simp; omega)
theorem small_set (l : List UInt8) (h : ∀ b ∈ l, b.toNat < 128) : ∀ (j : Nat) b, l[j]? = some b → b.toNat < 128 := fun j b hb => h b (List.mem_of_getElem? hb)
theorem cut1 (w : World) (A : Option Addr) (n c : Nat) (xs : List Int) (cs : ByteArray) (hcs : cs = ⟨#[32]⟩) (h : Fld w A n c xs) :
    Calls Tryd.prog 51 #[.slice A n c, .string cs] w fun e w' => (∃ A' c', e = .returned (.slice A' (xs.dropWhile spc).length c') ∧ Fld w' A' (xs.dropWhile spc).length c' (xs.dropWhile spc)) ∧ Below w.heap.size w w' := by
  subst hcs
  exact trimLeft_calls ⟨#[32]⟩ spc (by decide) (small_set _ (by decide)) (fun x h0 h1 => (sets x h0 h1).1) w A n c xs h
theorem cut2 (w : World) (A : Option Addr) (n c : Nat) (xs : List Int) (cs : ByteArray) (hcs : cs = ⟨#[48, 49, 50, 51, 52, 53, 54, 55]⟩) (h : Fld w A n c xs) :
    Calls Tryd.prog 51 #[.slice A n c, .string cs] w fun e w' => (∃ A' c', e = .returned (.slice A' (xs.dropWhile dig).length c') ∧ Fld w' A' (xs.dropWhile dig).length c' (xs.dropWhile dig)) ∧ Below w.heap.size w w' := by
  subst hcs
  exact trimLeft_calls ⟨#[48, 49, 50, 51, 52, 53, 54, 55]⟩ dig (by decide) (small_set _ (by decide)) (fun x h0 h1 => (sets x h0 h1).2.1) w A n c xs h
theorem cut3 (w : World) (A : Option Addr) (n c : Nat) (xs : List Int) (cs : ByteArray) (hcs : cs = ⟨#[32, 0]⟩) (h : Fld w A n c xs) :
    Calls Tryd.prog 40 #[.slice A n c, .string cs] w fun e w' => (∃ A' n' c', e = .returned (.slice A' n' c') ∧ decide ((0 : Int) < n') = !xs.all wht) ∧ Below w.heap.size w w' := by
  subst hcs
  exact trim_calls ⟨#[32, 0]⟩ wht (by decide) (small_set _ (by decide)) (fun x h0 h1 => (sets x h0 h1).2.2) w A n c xs h
theorem tw_all (p : Int → Bool) : ∀ (l : List Int), ∀ b ∈ l.takeWhile p, p b = true := by
  intro l
  induction l with
  | nil => intro b h; cases h
  | cons x l ih =>
    intro b h
    cases hp : p x with
    | true =>
      rw [List.takeWhile_cons_of_pos hp] at h
      rcases List.mem_cons.1 h with rfl | h
      · exact hp
      · exact ih b h
    | false =>
      rw [List.takeWhile_cons_of_neg (by simp [hp])] at h
      cases h
/-- The two pieces of a text of figures. -/
theorem two_pieces {w : World} {A : Option Addr} {n c : Nat} {r : List Int} (h : Fld w A n c r) :
    (∃ A', (∀ W : World, (Instr.slice 26 (.slice A n c) (some (.int .i64 ((r.length : Int) - ((r.dropWhile dig).length : Int)))) none none).run Tryd.prog W = .ok (.slice A' (r.dropWhile dig).length (c - (r.takeWhile dig).length)) W) ∧
      (∀ w : World, Fld w A n c r → Fld w A' (r.dropWhile dig).length (c - (r.takeWhile dig).length) (r.dropWhile dig))) ∧
    (∀ W : World, (Instr.slice 26 (.slice A n c) none (some (.int .i64 ((r.length : Int) - ((r.dropWhile dig).length : Int)))) none).run Tryd.prog W = .ok (.slice A (r.takeWhile dig).length c) W) ∧
      (∀ w : World, Fld w A n c r → Fld w A (r.takeWhile dig).length c (r.takeWhile dig)) := by
  have hl := h.rd.1
  subst hl
  have hsum : (r.takeWhile dig).length + (r.dropWhile dig).length = r.length := by rw [← List.length_append, List.takeWhile_append_dropWhile]
  have e1 : r.drop (r.takeWhile dig).length = r.dropWhile dig := by
    have := List.drop_left (l₁ := r.takeWhile dig) (l₂ := r.dropWhile dig)
    rwa [List.takeWhile_append_dropWhile] at this
  have e2 : r.take (r.takeWhile dig).length = r.takeWhile dig := by
    have := List.take_left (l₁ := r.takeWhile dig) (l₂ := r.dropWhile dig)
    rwa [List.takeWhile_append_dropWhile] at this
  have ej : ((r.length : Int) - ((r.dropWhile dig).length : Int)) = ((r.takeWhile dig).length : Nat) := by omega
  obtain ⟨i0, hi, hz⟩ := Option.map_eq_some_iff.1 info_u8
  simp only [Prod.mk.injEq] at hz
  rw [ej]
  obtain ⟨A', a1, a2, a3⟩ := print_drop_of (P := Tryd.prog) (Value.int .u8) 0 26 5 .i64 Tryd.underlying26 hi hz.2.1 A c r ((r.takeWhile dig).length : Nat) (by omega) (by omega) h.cap.1
  obtain ⟨b1, b2, b3⟩ := print_take_of (P := Tryd.prog) (Value.int .u8) 0 26 5 .i64 Tryd.underlying26 hi hz.2.1 A c r ((r.takeWhile dig).length : Nat) (by omega) (by omega) h.cap.1
  rw [Int.toNat_natCast, e1] at a1 a2 a3
  rw [Int.toNat_natCast, e2] at b1 b2 b3
  exact ⟨⟨A', a1, fun w k => ⟨a2 w k.rd, fun x hx => k.byte x ((List.dropWhile_suffix _).mem hx), a3, by have := k.cap; omega⟩⟩, b1, fun w k => ⟨b2 w k.rd, fun x hx => k.byte x ((List.takeWhile_prefix _).mem hx), b3, k.cap.2⟩⟩

set_option maxHeartbeats 2000000 in
theorem take_calls (w : World) (A : Option Addr) (n c : Nat) (xs : List Int) (h : Fld w A n c xs) :
    Calls Tryd.prog 37 #[.slice A n c] w fun e w' => e = .returned (ansV (takeA xs)) ∧ Below w.heap.size w w' := by
  have hl := h.rd.1
  have hc9 := h.cap
  have hn9 : (n : Int) ≤ 9223372036854775807 := by omega
  have HF := Aside0.mk h
  cases hx : xs with
  | nil =>
    obtain rfl : n = 0 := by rw [← hl, hx]; rfl
    clear h hl
    go_enter Tryd.func37, Tryd.ntmps37
    go_wp2_with fail
    go_ret2
    exact ⟨rfl, Below.refl _ _⟩
  | cons b0 rest =>
    have hpos : 0 < n := by rw [← hl, hx]; simp
    obtain ⟨ad, rfl, hc⟩ := h.rd.2.2 hpos
    have hb0 := h.byte b0 (by rw [hx]; exact List.mem_cons_self)
    have c0 : w.cell? ad = some (.int .u8 b0) := by
      have := hc 0 hpos
      rw [hx] at this
      simpa [Addr.add] using this
    have hand : Go.bits .and .u8 b0 128 = if 128 ≤ b0 then 128 else 0 := (byte_bits b0 hb0.1 hb0.2).1
    rw [← hx]
    by_cases h1 : 128 ≤ b0
    · have hT : takeA xs = ans 1 (bin xs) := by rw [hx]; show (if _ then _ else _) = _; rw [if_pos h1]
      rw [hT]
      rw [if_pos h1] at hand
      have HB : Aside0 (Calls Tryd.prog 50 #[.slice (some ad) n c] w fun e w' => e = .returned (ansV (ans 1 (bin xs))) ∧ ∃ m, w' = w.drewN m) := ⟨binary_calls w _ n c xs h b0 rest hx h1⟩
      generalize ans 1 (bin xs) = a at HB ⊢
      obtain ⟨ae, av⟩ := a
      clear h hl hx hc h1 hT HF
      unfold ansV
      unfold ansV at HB
      simp only at HB ⊢
      go_enter Tryd.func37, Tryd.ntmps37
      go_wp2_with (go_at_call 50; refine (HB.out).mono ?_; rintro e w' ⟨rfl, m, rfl⟩)
      go_ret2
      exact ⟨rfl, rfl, rfl, rfl, Nat.le_refl _, fun _ _ => rfl⟩
    · rw [if_neg h1] at hand
      have hT : takeA xs = if ((xs.dropWhile spc).dropWhile dig).all wht then ans 1 (oct ((xs.dropWhile spc).takeWhile dig) 0) else (some 2, 0) := by rw [hx]; show (if _ then _ else _) = _; rw [if_neg h1]
      have HT := Aside0.mk hT
      have HW1 : Aside0 (∀ (w : World) (A : Option Addr) (n c : Nat) (xs : List Int) (cs : ByteArray) (hcs : cs = ⟨#[32]⟩) (h : Fld w A n c xs), Calls Tryd.prog 51 #[.slice A n c, .string cs] w fun e w' => (∃ A' c', e = .returned (.slice A' (xs.dropWhile spc).length c') ∧ Fld w' A' (xs.dropWhile spc).length c' (xs.dropWhile spc)) ∧ Below w.heap.size w w') := ⟨cut1⟩
      clear h hl hx hc h1 hT
      go_enter Tryd.func37, Tryd.ntmps37
      go_wp2_with fail
      refine (cut1 w (some ad) n c xs _ rfl HF.out).mono ?_
      rintro e w1 ⟨⟨A1, c1, rfl, hF1⟩, hb1⟩
      have HF1 := Aside0.mk hF1
      have HB1 := Aside0.mk hb1
      have hc1 := hF1.cap
      generalize xs.dropWhile spc = r at *
      clear hF1 hb1 hand c0
      obtain ⟨⟨A2, k2, p2⟩, k3, p3⟩ := two_pieces HF1.out
      have P2 := Aside0.mk p2
      have P3 := Aside0.mk p3
      clear p2 p3
      have hsum : (r.takeWhile dig).length + (r.dropWhile dig).length = r.length := by rw [← List.length_append, List.takeWhile_append_dropWhile]
      have hle : (r.dropWhile dig).length ≤ r.length := by omega
      have hr9 : (r.length : Int) ≤ 9223372036854775807 := by omega
      go_wp2_with fail
      refine (cut2 w1 A1 _ c1 r _ rfl HF1.out).mono ?_
      rintro e w2 ⟨⟨A3, c3, rfl, hF3⟩, hb2⟩
      have HB2 := Aside0.mk hb2
      have HF2 := Aside0.mk (HF1.out.below hb2)
      clear hF3 hb2 HF1
      go_wp2_with fail
      refine (cut3 w2 A2 _ _ (r.dropWhile dig) _ rfl (P2.out w2 HF2.out)).mono ?_
      rintro e w3 ⟨⟨A4, n4, c4, rfl, hall⟩, hb3⟩
      have HB : Aside0 (Below w.heap.size w w3) := ⟨below_then (below_then HB1.out HB1.out.size HB2.out) (Nat.le_trans HB1.out.size HB2.out.size) hb3⟩
      have HF3 := Aside0.mk (P3.out w3 (HF2.out.below hb3))
      clear hb3 HB1 HB2 HF2 P2 P3
      cases hw : (r.dropWhile dig).all wht with
      | false =>
        rw [hw] at hall
        have HT2 : Aside0 (takeA xs = (some 2, 0)) := ⟨by rw [HT.out, hw]; rfl⟩
        have h4 : (0 : Int) < n4 := of_decide_eq_true hall
        clear hw hall
        go_wp2_with fail
        go_ret2
        refine ⟨?_, HB.out⟩
        rw [HT2.out]
        rfl
      | true =>
        rw [hw] at hall
        have HT2 : Aside0 (takeA xs = ans 1 (oct (r.takeWhile dig) 0)) := ⟨by rw [HT.out, hw]; rfl⟩
        have h4 : ¬ (0 : Int) < n4 := of_decide_eq_false hall
        obtain rfl : n4 = 0 := by omega
        clear hw hall
        go_wp2_with fail
        have hdig : ∀ b ∈ r.takeWhile dig, 48 ≤ b ∧ b ≤ 55 := fun b hb => of_decide_eq_true (tw_all dig r b hb)
        have hl3 := HF3.out.rd.1
        have hm9 : ((r.takeWhile dig).length : Int) ≤ 9223372036854775807 := by omega
        generalize r.takeWhile dig = d at *
        have HDg := Aside0.mk hdig
        clear hdig hsum hle hr9 hl3 k2 k3 hc1
        go_loopg [6, 41] d.length (fun kq v6 v41 wr => ∃ (i : Nat) (x : Int), v6 = .int .i64 x ∧ v41 = .int .i64 i ∧ i ≤ d.length ∧ 0 ≤ x ∧ x ≤ 9223372036854775807 ∧ Aside0 (kq = d.length - i) ∧ Aside0 (oct (d.drop i) x = oct d 0) ∧ wr = w3)
        case atStart => exact ⟨0, 0, rfl, rfl, Nat.zero_le _, by omega, by omega, ⟨rfl⟩, ⟨rfl⟩, rfl⟩
        case round =>
          obtain ⟨i, x, rfl, rfl, hi, hx0, hx1, HK, HR, rfl⟩ := hrel
          by_cases hlt : i < d.length
          · have hlt' : (i : Int) < (d.length : Int) := by omega
            obtain ⟨ad1, rfl, hcd⟩ := HF3.out.rd.2.2 (by omega)
            have hci := hcd i hlt
            have hb := HDg.out (d.getD i 0) (by rw [List.getD_eq_getElem?_getD, List.getElem?_eq_getElem hlt]; exact List.getElem_mem _)
            have HD := Aside0.mk (drop_cons d i hlt)
            have HO : Aside0 (0 ≤ x → x ≤ 1152921504606846975 → Go.bits .or .i64 (x * 8) (d.getD i 0 - 48) = 8 * x + (d.getD i 0 - 48)) := ⟨fun h0 h1 => oct_or x _ h0 h1 hb.1 hb.2⟩
            clear hcd
            generalize d.getD i 0 = b at *
            by_cases hbig : 1152921504606846975 < x
            · have HBg := Aside0.mk hbig
              go_wp2_with fail
              go_ret2
              refine ⟨?_, HB.out⟩
              rw [HT2.out, ← HR.out, HD.out]
              show _ = Ending.returned (ansV (ans 1 (if _ then _ else _)))
              rw [if_pos HBg.out]
              rfl
            · have hor := HO.out hx0 (by omega)
              have HBg := Aside0.mk hbig
              go_wp2_with fail
              have e1 : ((i : Int) + 1) = ((i + 1 : Nat) : Int) := by omega
              rw [e1]
              have hbg := HBg.out
              go_roundg (d.length - (i + 1))
              case measure => have := HK.out; omega
              case rel =>
                refine ⟨i + 1, _, rfl, rfl, by omega, by omega, by omega, ⟨rfl⟩, ⟨?_⟩, rfl⟩
                rw [← HR.out, HD.out]
                show _ = if _ then _ else _
                rw [if_neg (by omega)]
          · have hlt' : ¬ (i : Int) < (d.length : Int) := by omega
            have hR : oct d 0 = some x := by
              have := HR.out
              rw [List.drop_eq_nil_of_le (by omega)] at this
              exact this.symm
            have HRR := Aside0.mk hR
            clear hR
            go_wp2
            go_ret2
            refine ⟨?_, HB.out⟩
            rw [HT2.out, HRR.out]
            rfl
end Go.Proofs.YtiioiikcjaiajaaDoor.My

/- The walks of head.cut (in one contract), head.Fits, head.Sum, (*Head).numbers. -/
set_option maxRecDepth 100000
namespace Go.Proofs.YtiioiikcjaiajaaDoor.My
open Go.RowKit Go.Proofs.YtiioiikcjaiajaaDoor.Hd Go.Proofs.YtiioiikcjaiajaaDoorW.PrintWords Go.Proofs.YtiioiikcjaiajaaDoorW.PrintLast Go.Proofs.YtiioiikcjaiajaaDoorW.PrintMore
set_option linter.unusedVariables false
set_option linter.unusedSimpArgs false

theorem Gl.drew {w : World} (h : Gl w) : Gl w.drew := h.next ⟨rfl, rfl, rfl, Nat.le_refl _, fun _ _ => rfl⟩
theorem below_same (w : World) : Below w.heap.size w w := Below.refl _ _
theorem cut_drawn (s : ByteArray) (w : World) (hg : Gl w) (hs : s.size ≤ 100000) :
    Calls Tryd.prog 24 #[.string s] w fun e w' => (∃ a r : ByteArray, e = .returned (.tuple #[.string a, .string r, .bool (cutOk s)]) ∧ (cutOk s = true → a = aheadOf s ∧ r = rest s)) ∧ Drawn0 w w' := by
  by_cases h : s.size ≤ 100
  · have e : cutOk s = true := by unfold cutOk; rw [decide_eq_true h]; rfl
    rw [e]
    refine (cut_short s w hg h).mono ?_
    rintro e w' ⟨rfl, rfl⟩
    refine ⟨⟨_, _, rfl, fun _ => ⟨?_, ?_⟩⟩, Drawn0.refl _⟩
    · unfold aheadOf; rw [if_pos h]
    · unfold rest; rw [if_pos h]
  · have h' : 100 < s.size := by omega
    have hge := idx_ge 47 (s.extract (s.size - 100 - 1) s.size).data.toList
    have hlen : (s.extract (s.size - 100 - 1) s.size).data.toList.length = 101 := by
      rw [Array.length_toList]
      show (s.extract (s.size - 100 - 1) s.size).size = 101
      rw [ByteArray.size_extract]; omega
    rw [hlen] at hge
    obtain ⟨ix, hix⟩ : ∃ ix, Lib.indexByte (s.extract (s.size - 100 - 1) s.size).data.toList 47 = ix := ⟨_, rfl⟩
    have hX : cutX s = ix := hix
    have hAt : cutAt s = (s.size : Int) - 100 - 1 + ix := by unfold cutAt; rw [hX]
    rw [hix] at hge
    have eok : cutOk s = decide (0 ≤ ix ∧ (s.size : Int) - 100 - 1 + ix ≠ 0 ∧ (s.size : Int) - 100 - 1 + ix ≤ 155 ∧ (s.size : Int) - 100 - 1 + ix < (s.size : Int) - 1) := by
      unfold cutOk; rw [decide_eq_false h, hX, hAt]; rfl
    by_cases hn : ix < 0
    · rw [show cutOk s = false from eok.trans (decide_eq_false (by omega))]
      refine (cut_none s w hg h' hs (by rw [hix]; exact hn)).mono ?_
      rintro e w' ⟨rfl, rfl⟩
      exact ⟨⟨_, _, rfl, fun h => by cases h⟩, Drawn0.refl _⟩
    · by_cases hb : (s.size : Int) - 100 - 1 + ix = 0 ∨ 155 < (s.size : Int) - 100 - 1 + ix ∨ (s.size : Int) - 100 - 1 + ix = (s.size : Int) - 1
      · rw [show cutOk s = false from eok.trans (decide_eq_false (by omega))]
        refine (cut_bad s w hg h' hs ix hix (by omega) (by omega) hb).mono ?_
        rintro e w' ⟨rfl, rfl⟩
        exact ⟨⟨_, _, rfl, fun h => by cases h⟩, Drawn0.refl _⟩
      · rw [show cutOk s = true from eok.trans (decide_eq_true (by omega))]
        refine (cut_good s w hg h' hs ix hix (by omega) (by omega) (by omega) (by omega)).mono ?_
        rintro e w' ⟨c, hc, rfl, hbl⟩
        have ec : (cutAt s).toNat = c := by rw [hAt, ← hc]; rfl
        refine ⟨⟨_, _, rfl, fun _ => ⟨?_, ?_⟩⟩, hbl⟩
        · unfold aheadOf; rw [if_neg h, ec]
        · unfold rest; rw [if_neg h, ec]
theorem cut_calls (s : ByteArray) (w : World) (hg : Gl w) (hs : s.size ≤ 100000) :
    Calls Tryd.prog 24 #[.string s] w fun e w' => (∃ a r : ByteArray, e = .returned (.tuple #[.string a, .string r, .bool (cutOk s)]) ∧ (cutOk s = true → a = aheadOf s ∧ r = rest s)) ∧ Below w.heap.size w w' :=
  (cut_drawn s w hg hs).mono fun _ _ h => ⟨h.1, h.2.below⟩
theorem idx_neg : ∀ l : List UInt8, decide (Lib.indexByte l 0 < 0) = (l.map fun b => (b.toNat : Int)).all nz
  | [] => rfl
  | b :: l => by
    have ih := idx_neg l
    have hge := idx_ge 0 l
    rw [Lib.indexByte]
    by_cases hb : b == 0
    · rw [if_pos hb]
      have : b = 0 := eq_of_beq hb
      subst this
      rfl
    · rw [if_neg hb]
      have hb0 : nz (b.toNat : Int) = true := by
        refine decide_eq_true ?_
        intro e
        apply hb
        have : b.toNat = 0 := by omega
        exact beq_iff_eq.2 (UInt8.toNat_inj.1 this)
      rw [List.map_cons, List.all_cons, hb0, Bool.true_and, ← ih]
      by_cases h2 : Lib.indexByte l 0 == -1
      · rw [if_pos h2]
        have := eq_of_beq h2
        rw [this]
      · rw [if_neg h2]
        have : Lib.indexByte l 0 ≠ -1 := fun e => h2 (by rw [e]; rfl)
        exact decide_eq_decide.2 (by omega)
theorem noNought_eq (s : ByteArray) : noNought s = noN s := idx_neg s.data.toList
theorem idx_of_noN {s : ByteArray} (h : noN s = true) : Lib.indexByte s.data.toList 0 < 0 := of_decide_eq_true ((idx_neg s.data.toList).trans h)
theorem fits_drawn (s : ByteArray) (w : World) (hg : Gl w) (hs : s.size ≤ 100000) :
    Calls Tryd.prog 13 #[.string s] w fun e w' => e = .returned (.bool (cutOk s && noN s)) ∧ Drawn0 w w' := by
  rw [← noNought_eq]
  have HC := Aside0.mk (cut_drawn s w hg hs)
  have HP : Aside0 (∀ w, Calls Tryd.prog 34 #[.string s] w fun e w' => e = .returned (.bool (noNought s)) ∧ w = w') := ⟨plain_calls s⟩
  generalize cutOk s = b at *
  generalize noNought s = c at *
  clear hg
  cases b with
  | true =>
    rw [Bool.true_and]
    go_enter Tryd.func13, Tryd.ntmps13
    go_wp2_with (first
      | (go_at_call 24; refine HC.out.mono ?_; rintro e w1 ⟨⟨a, r, rfl, _⟩, hb⟩; replace hb := Aside0.mk hb)
      | (go_at_call 34; refine (HP.out _).mono ?_; rintro e w' ⟨rfl, rfl⟩))
    go_ret
    exact ⟨rfl, hb.out⟩
  | false =>
    rw [Bool.false_and]
    go_enter Tryd.func13, Tryd.ntmps13
    go_wp2_with (first
      | (go_at_call 24; refine HC.out.mono ?_; rintro e w1 ⟨⟨a, r, rfl, _⟩, hb⟩; replace hb := Aside0.mk hb)
      | (go_at_call 34; refine (HP.out _).mono ?_; rintro e w' ⟨rfl, rfl⟩))
    go_ret
    exact ⟨rfl, hb.out⟩
theorem fits_head (s : ByteArray) (w : World) (hg : Gl w) (hs : s.size ≤ 100000) :
    Calls Tryd.prog 13 #[.string s] w fun e w' => e = .returned (.bool (cutOk s && noN s)) ∧ Below w.heap.size w w' :=
  (fits_drawn s w hg hs).mono fun _ _ h => ⟨h.1, h.2.below⟩
/-- A slice of bytes, at least so many, its beginning. -/
theorem slice_head (A : Option Addr) (n c : Nat) (h : 512 ≤ n) (hc : n ≤ c) (W : World) : (Instr.slice 26 (.slice A n c) none (some (.int .i64 512)) none).run Tryd.prog W = .ok (.slice A 512 c) W := by
  obtain ⟨i0, hi, hz⟩ := Option.map_eq_some_iff.1 info_u8
  simp only [Prod.mk.injEq] at hz
  obtain ⟨b1, _, _⟩ := print_take_of (P := Tryd.prog) (Value.int .u8) 0 26 5 .i64 Tryd.underlying26 hi hz.2.1 A c (List.replicate n (0 : Int)) 512 (by decide) (by rw [List.length_replicate]; omega) (by rw [List.length_replicate]; exact hc)
  have := b1 W
  rw [List.length_replicate] at this
  rw [List.length_take, List.length_replicate] at this
  rw [show min (512 : Int).toNat n = 512 from by show min 512 n = 512; omega] at this
  exact this
theorem sum_short (w : World) (A : Option Addr) (n c : Nat) (h : n < 512) : Calls Tryd.prog 18 #[.slice A n c] w fun e w' => e = .returned (.tuple #[.int .i64 0, errV (some 10)]) ∧ w = w' := by
  have f1 : (n : Int) < 512 := by omega
  clear h
  go_enter Tryd.func18, Tryd.ntmps18
  go_wp2_with fail
  go_ret2
  exact ⟨rfl, rfl⟩
set_option maxHeartbeats 1000000 in
theorem sum_calls (w : World) (hg : Gl w) (A : Option Addr) (n c : Nat) (xs : List Int) (h : Fld w A n c xs) (h512 : 512 ≤ n) :
    Calls Tryd.prog 18 #[.slice A n c] w fun e w' => e = .returned (.tuple #[.int .i64 (sumH xs), errV none]) ∧ w = w' := by
  have hl := h.rd.1
  obtain ⟨ad, rfl, hc⟩ := h.rd.2.2 (by omega)
  have hsl := slice_head (some ad) n c h512 h.cap.1
  have f0 : ¬ (n : Int) < 512 := by omega
  have HB := Aside0.mk h.byte
  have HC : Aside0 (∀ j, j < 512 → w.cell? (ad.add j) = some (.int .u8 (xs.getD j 0)) ∧ 0 ≤ xs.getD j 0 ∧ xs.getD j 0 < 256) := ⟨fun j hj => ⟨hc j (by omega), by
    refine h.byte _ ?_
    rw [List.getD_eq_getElem?_getD, List.getElem?_eq_getElem (by omega)]
    exact List.getElem_mem _⟩⟩
  have c1 : w.cell? ⟨6, 1, none⟩ = some (.int .i64 8) := hg.size 6 (by omega)
  have c0 : w.cell? ⟨6, 0, none⟩ = some (.int .i64 148) := hg.at_ 6 (by omega)
  unfold errV
  clear h hc hl hg h512
  go_enter Tryd.func18, Tryd.ntmps18
  go_wp2_with fail
  go_loopg [4, 17] 512 (fun kq v4 v17 wr => ∃ i : Nat, i ≤ 512 ∧ v17 = .int .i64 i ∧ v4 = .int .i64 (sumTo xs i) ∧ Aside0 (kq = 512 - i) ∧ wr = w)
  case atStart => exact ⟨0, by omega, rfl, rfl, ⟨rfl⟩, rfl⟩
  case round =>
    obtain ⟨i, hi, rfl, rfl, HK, rfl⟩ := hrel
    have hbd := sumTo_bd HB.out i
    by_cases hlt : i < 512
    · have hlt' : (i : Int) < 512 := by omega
      obtain ⟨hci, b0, b1⟩ := HC.out i hlt
      have HS : Aside0 (sumTo xs (i + 1) = sumTo xs i + if 148 ≤ i ∧ i < 156 then 0 else xs.getD i 0) := ⟨rfl⟩
      generalize xs.getD i 0 = b at *
      generalize sumTo xs i = q at *
      have q1 : q ≤ 256 + 255 * 512 := by omega
      have q0 := hbd.1
      clear hbd hi hlt
      by_cases i1 : (i : Int) < 148
      · have HI := Aside0.mk i1
        go_wp2_with fail
        have hi1 := HI.out
        go_roundg (512 - (i + 1))
        case measure => have := HK.out; omega
        case rel => exact ⟨i + 1, by omega, by go_num, by rw [HS.out, if_neg (by omega)], ⟨by have := HK.out; omega⟩, rfl⟩
      · by_cases i2 : (i : Int) < 156
        · have i1' : (148 : Int) ≤ i := by omega
          have HI := Aside0.mk (And.intro i1' i2)
          go_wp2_with fail
          have hi1 := HI.out
          go_roundg (512 - (i + 1))
          case measure => have := HK.out; omega
          case rel => exact ⟨i + 1, by omega, by go_num, by rw [HS.out, if_pos (by omega)]; go_num, ⟨by have := HK.out; omega⟩, rfl⟩
        · have i2' : (156 : Int) ≤ i := by omega
          have HI := Aside0.mk i2'
          go_wp2_with fail
          have hi1 := HI.out
          go_roundg (512 - (i + 1))
          case measure => have := HK.out; omega
          case rel => exact ⟨i + 1, by omega, by go_num, by rw [HS.out, if_neg (by omega)], ⟨by have := HK.out; omega⟩, rfl⟩
    · have hlt' : ¬ (i : Int) < 512 := by omega
      obtain rfl : i = 512 := by omega
      clear hbd hi hlt
      go_wp2_with fail
      go_ret2
      exact ⟨rfl, rfl⟩
end Go.Proofs.YtiioiikcjaiajaaDoor.My

/- The walk of (*Head).numbers. -/
set_option maxRecDepth 100000
namespace Go.Proofs.YtiioiikcjaiajaaDoor.My
open Go.RowKit Go.Proofs.YtiioiikcjaiajaaDoor.Hd Go.Proofs.YtiioiikcjaiajaaDoorW.PrintWords Go.Proofs.YtiioiikcjaiajaaDoorW.PrintLast Go.Proofs.YtiioiikcjaiajaaDoorW.PrintMore
set_option linter.unusedVariables false
set_option linter.unusedSimpArgs false

/-- A head as a value's cells; a head in a block. -/
def hv (h : Hd) : Array Value := #[.string h.nm, .int .i64 h.mo, .int .i64 h.ui, .int .i64 h.gi, .int .i64 h.si, .int .i64 h.ti, .int .u8 h.ki, .string h.li, .string h.us, .string h.gr, .int .i64 h.ma, .int .i64 h.mi]
structure Box (w : World) (g : Nat) (h : Hd) : Prop where mk :: (out : w.heap[g]? = some (.cells (hv h) 23 (0, 0)))
theorem Box.below {w w1 : World} {g : Nat} {h : Hd} (k : Box w g h) (hb : Below w.heap.size w w1) : Box w1 g h := ⟨blk_below k.out hb⟩
theorem Box.drew {w : World} {g : Nat} {h : Hd} (k : Box w g h) : Box w.drew g h := ⟨k.out⟩
theorem Box.grown {w w1 : World} {g : Nat} {h : Hd} {row : Option Nat} (k : Box w g h) (hg : w.grownBy w1 row) (hne : some g ≠ row) : Box w1 g h := ⟨blk_grown k.out hg hne⟩
/-- Where the i-th number lies in a head. -/
def nOff : Nat → Nat
  | 0 => 1
  | 1 => 2
  | 2 => 3
  | 3 => 4
  | 4 => 5
  | 5 => 10
  | _ => 11
/-- The list of the numbers of the head in the block g. -/
def nums7 (g : Nat) : Array Value := #[.int .i64 100, .int .i64 8, .pointer (some ⟨g, 1, none⟩), .int .i64 108, .int .i64 8, .pointer (some ⟨g, 2, none⟩), .int .i64 116, .int .i64 8, .pointer (some ⟨g, 3, none⟩), .int .i64 124, .int .i64 12, .pointer (some ⟨g, 4, none⟩), .int .i64 136, .int .i64 12, .pointer (some ⟨g, 5, none⟩), .int .i64 329, .int .i64 8, .pointer (some ⟨g, 10, none⟩), .int .i64 337, .int .i64 8, .pointer (some ⟨g, 11, none⟩)]
structure NumB (w : World) (gn g : Nat) : Prop where mk :: (out : w.heap[gn]? = some (.cells (nums7 g) 65 (0, 0)))
theorem numbers_calls (w : World) (g : Nat) (h : Hd) (hB : Box w g h) (hg : Gl w) :
    Calls Tryd.prog 28 #[.pointer (some ⟨g, 0, none⟩)] w fun e w' => e = .returned (.slice (some ⟨w.heap.size, 0, none⟩) 7 7) ∧ NumB w' w.heap.size g ∧ Below w.heap.size w w' := by
  have a7 : w.cell? ⟨7, 0, none⟩ = some (.int .i64 100) := hg.at_ 7 (by omega)
  have s7 : w.cell? ⟨7, 1, none⟩ = some (.int .i64 8) := hg.size 7 (by omega)
  have a8 : w.cell? ⟨8, 0, none⟩ = some (.int .i64 108) := hg.at_ 8 (by omega)
  have s8 : w.cell? ⟨8, 1, none⟩ = some (.int .i64 8) := hg.size 8 (by omega)
  have a9 : w.cell? ⟨9, 0, none⟩ = some (.int .i64 116) := hg.at_ 9 (by omega)
  have s9 : w.cell? ⟨9, 1, none⟩ = some (.int .i64 8) := hg.size 9 (by omega)
  have a10 : w.cell? ⟨10, 0, none⟩ = some (.int .i64 124) := hg.at_ 10 (by omega)
  have s10 : w.cell? ⟨10, 1, none⟩ = some (.int .i64 12) := hg.size 10 (by omega)
  have a11 : w.cell? ⟨11, 0, none⟩ = some (.int .i64 136) := hg.at_ 11 (by omega)
  have s11 : w.cell? ⟨11, 1, none⟩ = some (.int .i64 12) := hg.size 11 (by omega)
  have a12 : w.cell? ⟨12, 0, none⟩ = some (.int .i64 329) := hg.at_ 12 (by omega)
  have s12 : w.cell? ⟨12, 1, none⟩ = some (.int .i64 8) := hg.size 12 (by omega)
  have a13 : w.cell? ⟨13, 0, none⟩ = some (.int .i64 337) := hg.at_ 13 (by omega)
  have s13 : w.cell? ⟨13, 1, none⟩ = some (.int .i64 8) := hg.size 13 (by omega)
  have z0 : (w.cell? ⟨g, 0, none⟩).isSome = true := by rw [blk_cell hB.out]; rfl
  clear hg hB
  go_enter Tryd.func28, Tryd.ntmps28
  go_wp2_with fail
  go_still_tail 35, (by kernel_rfl)
  change wpList _ _ _ _ _ w.drew
  go_wp2_with fail
  go_ret
  refine ⟨rfl, ⟨?_⟩, ?_⟩
  · exact alloc_self w.drew _
  · exact (Below.refl _ _).drew.alloc (Nat.le_refl _) _
end Go.Proofs.YtiioiikcjaiajaaDoor.My

/- The walks of octal's Fits and Put. -/
namespace Go.Proofs.YtiioiikcjaiajaaDoor.My
open Go.RowKit Go.Proofs.YtiioiikcjaiajaaDoor.Oct Go.Proofs.YtiioiikcjaiajaaDoorW.PrintWords Go.Proofs.YtiioiikcjaiajaaDoorW.PrintLast Go.Proofs.YtiioiikcjaiajaaDoorW.PrintMore

theorem nar_false {n x : Int} (h : ¬ (0 < n ∧ 0 ≤ x ∧ (21 < n ∨ x / 2 ^ (3 * (n - 1)).toNat = 0))) : nar n x = false := decide_eq_false h
theorem nar_true {n x : Int} (h : 0 < n ∧ 0 ≤ x ∧ (21 < n ∨ x / 2 ^ (3 * (n - 1)).toNat = 0)) : nar n x = true := decide_eq_true h

theorem narrow_calls (n x : Int) (w : World) : Calls Tryd.prog 46 #[.int .i64 n, .int .i64 x] w fun e w' => e = .returned (.bool (nar n x)) ∧ w = w' := by
  by_cases h1 : 0 < n
  · by_cases h2 : 0 ≤ x
    · by_cases h3 : 21 < n
      · rw [nar_true ⟨h1, h2, .inl h3⟩]
        go_enter Tryd.func46, Tryd.ntmps46
        go_wp2
        go_ret
        exact ⟨rfl, rfl⟩
      · have h3' : n ≤ 21 := by omega
        have hw : IntKind.i64.wrap (3 * (n - 1)) = 3 * (n - 1) := by rw [IntKind.wrap_i64]; omega
        by_cases h4 : x / 2 ^ (3 * (n - 1)).toNat = 0
        · rw [nar_true ⟨h1, h2, .inr h4⟩]
          have h5 : (x / 2 ^ (3 * (n - 1)).toNat == 0) = true := beq_iff_eq.2 h4
          clear h4 hw
          go_enter Tryd.func46, Tryd.ntmps46
          go_wp2
          go_ret
          exact ⟨rfl, rfl⟩
        · rw [nar_false (fun h => h.2.2.elim h3 h4)]
          have h5 : (x / 2 ^ (3 * (n - 1)).toNat == 0) = false := beq_eq_false_iff_ne.2 h4
          clear h4 hw
          go_enter Tryd.func46, Tryd.ntmps46
          go_wp2
          go_ret
          exact ⟨rfl, rfl⟩
    · rw [nar_false (fun h => h2 h.2.1)]
      go_enter Tryd.func46, Tryd.ntmps46
      go_wp2
      go_ret
      exact ⟨rfl, rfl⟩
  · rw [nar_false (fun h => h1 h.1)]
    go_enter Tryd.func46, Tryd.ntmps46
    go_wp2
    go_ret
    exact ⟨rfl, rfl⟩

theorem fits_calls (n x : Int) (w : World) : Calls Tryd.prog 41 #[.int .i64 n, .int .i64 x] w fun e w' => e = .returned (.bool (fit n x)) ∧ w = w' := by
  obtain ⟨b, hb⟩ : ∃ b, nar n x = b := ⟨_, rfl⟩
  have HN : Aside0 (∀ w : World, Calls Tryd.prog 46 #[.int .i64 n, .int .i64 x] w fun e w' => e = .returned (.bool b) ∧ w = w') := ⟨fun w => hb ▸ narrow_calls n x w⟩
  cases b with
  | true =>
    have hf : fit n x = decide (0 < n) := by unfold fit; rw [hb]; rfl
    rw [hf]
    clear hf hb
    go_enter Tryd.func41, Tryd.ntmps41
    go_wp2_with (go_at_call 46; refine (HN.out _).mono ?_; rintro e w' ⟨rfl, rfl⟩)
    go_ret
    exact ⟨rfl, rfl⟩
  | false =>
    by_cases h9 : 9 ≤ n
    · have hf : fit n x = decide (0 < n) := by unfold fit; rw [hb, decide_eq_true h9]; rfl
      rw [hf]
      clear hf hb
      go_enter Tryd.func41, Tryd.ntmps41
      go_wp2_with (go_at_call 46; refine (HN.out _).mono ?_; rintro e w' ⟨rfl, rfl⟩)
      go_ret
      exact ⟨rfl, rfl⟩
    · by_cases h2 : n < 2
      · have hf : fit n x = false := by unfold fit; rw [hb, decide_eq_false h9, if_pos h2]; rfl
        rw [hf]
        clear hf hb
        go_enter Tryd.func41, Tryd.ntmps41
        go_wp2_with (go_at_call 46; refine (HN.out _).mono ?_; rintro e w' ⟨rfl, rfl⟩)
        go_ret
        exact ⟨rfl, rfl⟩
      · have hf : fit n x = decide (x / 2 ^ (8 * n - 2).toNat = 0 ∨ x / 2 ^ (8 * n - 2).toNat = -1) := by unfold fit; rw [hb, decide_eq_false h9, if_neg h2]; rfl
        have HF := Aside0.mk hf
        rw [hf]
        have h9' : n ≤ 8 := by omega
        have h2' : 2 ≤ n := by omega
        clear hf hb h9 h2
        generalize hq : x / 2 ^ (8 * n - 2).toNat = q
        have HQ := Aside0.mk hq
        by_cases hq0 : q = 0
        · have b1 : (x / 2 ^ (8 * n - 2).toNat == 0) = true := by rw [hq, hq0]; rfl
          subst hq0
          clear hq
          go_enter Tryd.func41, Tryd.ntmps41
          go_wp2_with (go_at_call 46; refine (HN.out _).mono ?_; rintro e w' ⟨rfl, rfl⟩)
          go_ret
          exact ⟨rfl, rfl⟩
        · have b1 : (x / 2 ^ (8 * n - 2).toNat == 0) = false := by rw [hq]; exact beq_eq_false_iff_ne.2 hq0
          have HD : Aside0 ((x / 2 ^ (8 * n - 2).toNat == -1) = decide (q = 0 ∨ q = -1)) := ⟨by rw [hq]; by_cases h : q = -1 <;> simp [h, hq0]⟩
          clear hq hq0
          go_enter Tryd.func41, Tryd.ntmps41
          go_wp2_with (go_at_call 46; refine (HN.out _).mono ?_; rintro e w' ⟨rfl, rfl⟩)
          go_ret
          exact ⟨congrArg (fun b => Ending.returned (.bool b)) HD.out, rfl⟩

theorem put_no (A : Option Addr) (n c : Nat) (x : Int) (w : World) (h : fit n x = false) :
    Calls Tryd.prog 29 #[.slice A n c, .int .i64 x] w fun e w' => e = .returned (errV (some 3)) ∧ w = w' := by
  have HF : Aside0 (∀ w : World, Calls Tryd.prog 41 #[.int .i64 n, .int .i64 x] w fun e w' => e = .returned (.bool false) ∧ w = w') := ⟨fun w => h ▸ fits_calls n x w⟩
  clear h
  go_enter Tryd.func29, Tryd.ntmps29
  go_wp2_with (go_at_call 41; refine (HF.out _).mono ?_; rintro e w' ⟨rfl, rfl⟩)
  go_ret
  exact ⟨rfl, rfl⟩

theorem fill_of_nar {n : Nat} {x : Int} (l : List Int) (off : Nat) (h : nar n x = true) (hn : 0 < n) (hl : off + n ≤ l.length) :
    fill g8 (· / 8) off (n - 1) x (l.set (off + (n - 1)) 0) = putAt l off n x := by
  unfold fill putAt putB
  rw [if_pos h, set_take _ _ _ _ (by omega), set_drop _ _ _ (by omega), show off + (n - 1) + 1 = off + n from by omega]
  simp
theorem fill_of_wide {n : Nat} {x : Int} (l : List Int) (off : Nat) (h : nar n x = false) (hn : 0 < n) (hl : off + n ≤ l.length) :
    (fill g256 (· / 256) off n x l).set off (Go.bits .or .u8 ((fill g256 (· / 256) off n x l).getD off 0) 128) = putAt l off n x := by
  unfold fill putAt putB
  rw [if_neg (by simp [h])]
  have hd := ds_length g256 (· / 256) n x
  generalize ds g256 (· / 256) n x = d at hd
  have ht : (l.take off).length = off := by rw [List.length_take]; omega
  rw [List.append_assoc, List.append_assoc]
  have hg : (l.take off ++ (d ++ l.drop (off + n))).getD off 0 = d.getD 0 0 := by
    rw [List.getD_eq_getElem?_getD, List.getElem?_append_right (by omega), ht, Nat.sub_self, List.getElem?_append_left (by omega), List.getD_eq_getElem?_getD]
  rw [hg, List.set_append_right _ _ (by omega), ht, Nat.sub_self, List.set_append_left _ _ (by omega)]

set_option maxHeartbeats 1000000 in
theorem put_yes (g off n c : Nat) (x : Int) (l : List Int) (w : World) (h : fit n x = true) (hn : 0 < n) (hn2 : n ≤ 1000000) (hl : off + n ≤ l.length) (hx0 : -9223372036854775808 ≤ x) (hx1 : x ≤ 9223372036854775807) (hr : Row w g l) :
    Calls Tryd.prog 29 #[.slice (some ⟨g, off, none⟩) n c, .int .i64 x] w fun e w' => e = .returned (errV none) ∧ w.grownBy w' (some g) ∧ Row w' g (putAt l off n x) := by
  have HF : Aside0 (∀ w : World, Calls Tryd.prog 41 #[.int .i64 n, .int .i64 x] w fun e w' => e = .returned (.bool true) ∧ w = w') := ⟨fun w => h ▸ fits_calls n x w⟩
  have hn1 : 1 ≤ n := hn
  cases hb : nar n x with
  | true =>
    have HN : Aside0 (∀ w : World, Calls Tryd.prog 46 #[.int .i64 n, .int .i64 x] w fun e w' => e = .returned (.bool true) ∧ w = w') := ⟨fun w => hb ▸ narrow_calls n x w⟩
    have HT := Aside0.mk (fill_of_nar l off hb hn hl)
    have hx := (of_decide_eq_true hb).2.1
    have hc := hr.cell (off + (n - 1)) (by omega)
    have hf := hr.frozen (off + (n - 1)) (by omega)
    have HR := Aside0.mk (hr.set (off + (n - 1)) 0)
    have HG := Aside0.mk (grown_set w g (off + (n - 1)) (.int .u8 0))
    have HL := Aside0.mk hl
    obtain ⟨m, rfl⟩ : ∃ m, n = m + 1 := ⟨n - 1, by omega⟩
    simp only [Nat.add_sub_cancel] at hc hf HR HG HT
    clear h hb hr hl hn hn1 hx0
    go_enter Tryd.func29, Tryd.ntmps29
    go_wp2_with (first
      | (go_at_call 41; refine (HF.out _).mono ?_; rintro e w' ⟨rfl, rfl⟩)
      | (go_at_call 46; refine (HN.out _).mono ?_; rintro e w' ⟨rfl, rfl⟩))
    go_loopg [1, 6] m (fun kq v1 v6 wr => ∃ (j : Nat) (xc : Int) (lc : List Int), v1 = .int .i64 xc ∧ v6 = .int .i64 ((j : Int) - 1) ∧ j ≤ m ∧ 0 ≤ xc ∧ xc ≤ 9223372036854775807 ∧ Aside0 (kq = j) ∧ Aside0 (fill g8 (· / 8) off j xc lc = putAt l off (m + 1) x ∧ lc.length = l.length) ∧ Row wr g lc ∧ Aside0 (w.grownBy wr (some g)))
    case atStart => exact ⟨m, x, _, rfl, by go_num, Nat.le_refl _, hx, hx1, ⟨rfl⟩, ⟨HT.out, by simp⟩, HR.out, HG⟩
    case round =>
      obtain ⟨j, xc, lc, rfl, rfl, hj, hc0, hc1, HK, HX, HRc, HGc⟩ := hrel
      cases j with
      | succ j =>
        have hlen : off + j < lc.length := by rw [HX.out.2]; have := HL.out; omega
        have hc := HRc.cell (off + j) hlen
        have hf := HRc.frozen (off + j) hlen
        have ha := and7 xc hc0 hc1
        have HS := Aside0.mk (HRc.set (off + j) (g8 xc))
        have HG1 := Aside0.mk (grown_trans HGc.out (grown_set wr g (off + j) (.int .u8 (g8 xc))))
        have HE := Aside0.mk (fill_step g8 (· / 8) off j xc lc hlen)
        have e1 : ((j + 1 : Nat) : Int) - 1 = (j : Int) := by omega
        rw [e1]
        clear hlen e1
        go_wp2
        go_roundg j
        case measure => have := HK.out; omega
        case rel =>
          refine ⟨j, xc / 8, lc.set (off + j) (g8 xc), rfl, by go_num, by omega, by omega, by omega, ⟨rfl⟩, ⟨?_, ?_⟩, ?_, ?_⟩
          rotate_left 2
          · exact HS.out
          · exact HG1
          · rw [← HE.out]; exact HX.out.1
          · simp [HX.out.2]
      | zero =>
        go_wp2
        go_ret
        have := HX.out.1
        rw [fill_zero] at this
        exact ⟨rfl, HGc.out, this ▸ HRc⟩
  | false =>
    have HN : Aside0 (∀ w : World, Calls Tryd.prog 46 #[.int .i64 n, .int .i64 x] w fun e w' => e = .returned (.bool false) ∧ w = w') := ⟨fun w => hb ▸ narrow_calls n x w⟩
    have HT := Aside0.mk (fill_of_wide l off hb hn hl)
    have HL := Aside0.mk hl
    have HR0 := Aside0.mk hr
    clear h hb hr hl
    go_enter Tryd.func29, Tryd.ntmps29
    go_wp2_with (first
      | (go_at_call 41; refine (HF.out _).mono ?_; rintro e w' ⟨rfl, rfl⟩)
      | (go_at_call 46; refine (HN.out _).mono ?_; rintro e w' ⟨rfl, rfl⟩))
    go_loopg [1, 7] n (fun kq v1 v7 wr => ∃ (j : Nat) (xc : Int) (lc : List Int), v1 = .int .i64 xc ∧ v7 = .int .i64 ((j : Int) - 1) ∧ j ≤ n ∧ -9223372036854775808 ≤ xc ∧ xc ≤ 9223372036854775807 ∧ Aside0 (kq = j) ∧ Aside0 (fill g256 (· / 256) off j xc lc = fill g256 (· / 256) off n x l ∧ lc.length = l.length) ∧ Row wr g lc ∧ Aside0 (w.grownBy wr (some g)))
    case atStart => exact ⟨n, x, l, rfl, by go_num, Nat.le_refl _, hx0, hx1, ⟨rfl⟩, ⟨rfl, rfl⟩, HR0.out, ⟨grown_refl _ _⟩⟩
    case round =>
      obtain ⟨j, xc, lc, rfl, rfl, hj, hc0, hc1, HK, HX, HRc, HGc⟩ := hrel
      cases j with
      | succ j =>
        have hlen : off + j < lc.length := by rw [HX.out.2]; have := HL.out; omega
        have hc := HRc.cell (off + j) hlen
        have hf := HRc.frozen (off + j) hlen
        have HS := Aside0.mk (HRc.set (off + j) (g256 xc))
        have HG1 := Aside0.mk (grown_trans HGc.out (grown_set wr g (off + j) (.int .u8 (g256 xc))))
        have HE := Aside0.mk (fill_step g256 (· / 256) off j xc lc hlen)
        have e1 : ((j + 1 : Nat) : Int) - 1 = (j : Int) := by omega
        rw [e1]
        clear hlen e1
        go_wp2
        go_roundg j
        case measure => have := HK.out; omega
        case rel =>
          refine ⟨j, xc / 256, lc.set (off + j) (g256 xc), rfl, by go_num, by omega, by omega, by omega, ⟨rfl⟩, ⟨?_, ?_⟩, ?_, ?_⟩
          rotate_left 2
          · exact HS.out
          · exact HG1
          · rw [← HE.out]; exact HX.out.1
          · simp [HX.out.2]
      | zero =>
        have hlen : off < lc.length := by rw [HX.out.2]; have := HL.out; omega
        have hc := HRc.cell off hlen
        have hf := HRc.frozen off hlen
        have HS := Aside0.mk (HRc.set off (Go.bits .or .u8 (lc.getD off 0) 128))
        have HG1 := Aside0.mk (grown_trans HGc.out (grown_set wr g off (.int .u8 (Go.bits .or .u8 (lc.getD off 0) 128))))
        have HE : Aside0 (lc.set off (Go.bits .or .u8 (lc.getD off 0) 128) = putAt l off n x) := ⟨by
          have h1 := HX.out.1
          rw [fill_zero] at h1
          rw [h1]; exact HT.out⟩
        clear hlen
        generalize lc.getD off 0 = y at hc HS HG1 HE
        go_wp2
        go_ret
        exact ⟨rfl, HG1.out, HE.out ▸ HS.out⟩
end Go.Proofs.YtiioiikcjaiajaaDoor.My

/- The walk of head.check: whether a head can be written. -/
set_option maxRecDepth 100000
namespace Go.Proofs.YtiioiikcjaiajaaDoor.My
open Go.RowKit Go.Proofs.YtiioiikcjaiajaaDoor.Hd Go.Proofs.YtiioiikcjaiajaaDoorW.PrintWords Go.Proofs.YtiioiikcjaiajaaDoorW.PrintLast Go.Proofs.YtiioiikcjaiajaaDoorW.PrintMore
set_option linter.unusedVariables false
set_option linter.unusedSimpArgs false

def tx (h : Hd) : Nat → ByteArray
  | 0 => h.nm
  | 1 => h.li
  | 2 => h.us
  | _ => h.gr
structure Small (h : Hd) : Prop where
  nm : h.nm.size ≤ 600
  li : h.li.size ≤ 600
  us : h.us.size ≤ 600
  gr : h.gr.size ≤ 600
  num : ∀ i, -9223372036854775808 ≤ h.num i ∧ h.num i ≤ 9223372036854775807
  ki : 0 ≤ h.ki ∧ h.ki < 256
theorem num_at {w : World} {gn g : Nat} (hN : NumB w gn g) (i : Nat) (hi : i < 7) :
    w.cell? ⟨gn, i * 3, none⟩ = some (.int .i64 (nAt i)) ∧ w.cell? ⟨gn, i * 3 + 1, none⟩ = some (.int .i64 (nSz i)) ∧ w.cell? ⟨gn, i * 3 + 2, none⟩ = some (.pointer (some ⟨g, nOff i, none⟩)) := by
  rw [blk_cell hN.out, blk_cell hN.out, blk_cell hN.out]
  match i, hi with
  | 0, _ => exact ⟨rfl, rfl, rfl⟩
  | 1, _ => exact ⟨rfl, rfl, rfl⟩
  | 2, _ => exact ⟨rfl, rfl, rfl⟩
  | 3, _ => exact ⟨rfl, rfl, rfl⟩
  | 4, _ => exact ⟨rfl, rfl, rfl⟩
  | 5, _ => exact ⟨rfl, rfl, rfl⟩
  | 6, _ => exact ⟨rfl, rfl, rfl⟩
theorem box_num {w : World} {g : Nat} {h : Hd} (hB : Box w g h) (i : Nat) (hi : i < 7) : w.cell? ⟨g, nOff i, none⟩ = some (.int .i64 (h.num i)) := by
  rw [blk_cell hB.out]
  match i, hi with
  | 0, _ => rfl
  | 1, _ => rfl
  | 2, _ => rfl
  | 3, _ => rfl
  | 4, _ => rfl
  | 5, _ => rfl
  | 6, _ => rfl
theorem NumB.below {w w1 : World} {gn g : Nat} (k : NumB w gn g) (hb : Below w.heap.size w w1) : NumB w1 gn g := ⟨blk_below k.out hb⟩
theorem NumB.grown {w w1 : World} {gn g : Nat} {row : Option Nat} (k : NumB w gn g) (hg : w.grownBy w1 row) (hne : some gn ≠ row) : NumB w1 gn g := ⟨blk_grown k.out hg hne⟩
theorem headE_nought (h : Hd) (i : Nat) (hi : i < 4) (hn : noN (tx h i) = false) : headE h = some 2 := by
  unfold headE
  match i, hi with
  | 0, _ => rw [show noN h.nm = false from hn]; rfl
  | 1, _ => rw [show noN h.li = false from hn]; simp
  | 2, _ => rw [show noN h.us = false from hn]; simp
  | 3, _ => rw [show noN h.gr = false from hn]; simp
theorem check_calls (h : Hd) (hS : Small h) (w : World) (hg : Gl w) :
    Calls Tryd.prog 21 #[.agg (hv h)] w fun e w' => e = .returned (errV (headE h)) ∧ Below w.heap.size w w' := by
  obtain ⟨W, hW⟩ : ∃ W, W = (w.alloc (.cells (hv h) 23)).alloc (.cells #[.string h.nm, .string h.li, .string h.us, .string h.gr] 9) := ⟨_, rfl⟩
  have hBW : Below w.heap.size w W := by rw [hW]; exact below_alloc (below_alloc (Below.refl _ _) _) _
  have hbox : Box W w.heap.size h := by rw [hW]; exact ⟨blk_alloc (alloc_self _ _) _⟩
  have hstr : ∀ i, i < 4 → W.cell? ⟨w.heap.size + 1, i, none⟩ = some (.string (tx h i)) := by
    intro i hi
    have hb : W.heap[w.heap.size + 1]? = some (.cells #[.string h.nm, .string h.li, .string h.us, .string h.gr] 9 (0, 0)) := by
      rw [hW]
      have := alloc_self (w.alloc (.cells (hv h) 23)) (.cells #[.string h.nm, .string h.li, .string h.us, .string h.gr] 9)
      rwa [show (w.alloc (.cells (hv h) 23)).heap.size = w.heap.size + 1 by simp] at this
    rw [blk_cell hb]
    match i, hi with
    | 0, _ => rfl
    | 1, _ => rfl
    | 2, _ => rfl
    | 3, _ => rfl
  have HBW := Aside0.mk hBW
  have HBox := Aside0.mk hbox
  have HStr := Aside0.mk hstr
  have HW := Aside0.mk hW
  have HG := Aside0.mk (hg.next hBW)
  clear hBW hbox hstr hg hW
  unfold hv at HW
  unfold hv
  go_enter Tryd.func21, Tryd.ntmps21
  go_wp2_with fail
  rw [← HW.out]
  go_loopg [17] 4 (fun kq v17 wr => ∃ i : Nat, i ≤ 4 ∧ v17 = .int .i64 i ∧ Aside0 (kq = 4 - i) ∧ Aside0 (∀ j, j < i → noN (tx h j) = true) ∧ wr = W)
  case atStart => exact ⟨0, by omega, rfl, ⟨rfl⟩, ⟨fun j hj => by omega⟩, rfl⟩
  case round =>
    obtain ⟨i, hi, rfl, HK, HJ, rfl⟩ := hrel
    by_cases hlt : i < 4
    · have hlt' : (i : Int) < 4 := by omega
      have hci := HStr.out i hlt
      have HP := Aside0.mk (plain_calls (tx h i) wr)
      rw [noNought_eq] at HP
      obtain ⟨b, hb⟩ : ∃ b, noN (tx h i) = b := ⟨_, rfl⟩
      have HBt : Aside0 ((b = true → noN (tx h i) = true) ∧ (b = false → headE h = some 2)) := ⟨fun e => hb.trans e, fun e => headE_nought h i hlt (hb.trans e)⟩
      rw [hb] at HP
      clear hb
      generalize tx h i = s at hci HP
      cases b with
      | true =>
        go_wp2_with (go_at_call 34; refine (HP.out).mono ?_; rintro e w' ⟨rfl, rfl⟩)
        go_roundg (4 - (i + 1))
        case measure => have := HK.out; omega
        case rel => exact ⟨i + 1, by omega, by go_num, ⟨rfl⟩, ⟨fun j hj => by
          by_cases e : j = i
          · rw [e]; exact HBt.out.1 (by trivial)
          · exact HJ.out j (by omega)⟩, rfl⟩
      | false =>
        go_wp2_with (go_at_call 34; refine (HP.out).mono ?_; rintro e w' ⟨rfl, rfl⟩)
        go_ret
        refine ⟨?_, HBW.out⟩
        rw [HBt.out.2 (by trivial)]
        rfl
    · have hlt' : ¬ (i : Int) < 4 := by omega
      obtain rfl : i = 4 := by omega
      have hN : (noN h.nm = true ∧ noN h.li = true ∧ noN h.us = true ∧ noN h.gr = true) := ⟨HJ.out 0 (by omega), HJ.out 1 (by omega), HJ.out 2 (by omega), HJ.out 3 (by omega)⟩
      have HN := Aside0.mk hN
      have HF := Aside0.mk (fits_head h.nm wr HG.out (by have := hS.nm; omega))
      rw [hN.1, Bool.and_true] at HF
      have l0 : wr.cell? ⟨w.heap.size, 0, none⟩ = some (.string h.nm) := by rw [blk_cell HBox.out.out]; rfl
      have HL : Aside0 (∀ w2, Below wr.heap.size wr w2 → w2.cell? ⟨w.heap.size, 7, none⟩ = some (.string h.li) ∧ w2.cell? ⟨w.heap.size, 8, none⟩ = some (.string h.us) ∧ w2.cell? ⟨w.heap.size, 9, none⟩ = some (.string h.gr) ∧ w2.cell? ⟨1, 1, none⟩ = some (.int .i64 100) ∧ w2.cell? ⟨3, 1, none⟩ = some (.int .i64 32) ∧ w2.cell? ⟨4, 1, none⟩ = some (.int .i64 32)) := ⟨fun w2 hb => by
        have k := (HBox.out.below hb).out
        have g2 := HG.out.next hb
        refine ⟨?_, ?_, ?_, g2.size 1 (by omega), g2.size 3 (by omega), g2.size 4 (by omega)⟩ <;> (rw [blk_cell k]; rfl)⟩
      have HCk : Aside0 (headE h = if !cutOk h.nm || decide (100 < h.li.size) || decide (32 < h.us.size) || decide (32 < h.gr.size) then some 3 else if (List.range 7).all (fitsN h) then none else some 1) := ⟨by
        unfold headE
        rw [hN.1, hN.2.1, hN.2.2.1, hN.2.2.2]
        rfl⟩
      have HS := Aside0.mk hS
      obtain ⟨b, hb⟩ : ∃ b, cutOk h.nm = b := ⟨_, rfl⟩
      have HBb := Aside0.mk hb
      rw [hb] at HF HCk
      clear hN hb hlt hlt' hi hS
      cases b with
      | false =>
        go_wp2_with (go_at_call 13; refine (HF.out).mono ?_; rintro e w2 ⟨rfl, hb2⟩; have HB2 := Aside0.mk hb2; clear hb2)
        go_ret
        refine ⟨?_, HBW.out.trans (HB2.out.mono HBW.out.size)⟩
        rw [HCk.out]
        rfl
      | true =>
        by_cases b1 : 100 < h.li.size
        · have b1' : (100 : Int) < (h.li.size : Int) := by omega
          have HB1 := Aside0.mk b1
          clear b1
          go_wp2_with (go_at_call 13; refine (HF.out).mono ?_; rintro e w2 ⟨rfl, hb2⟩; have HB2 := Aside0.mk hb2; obtain ⟨k7, k8, k9, z1, z3, z4⟩ := HL.out w2 hb2; clear hb2)
          go_ret
          refine ⟨?_, HBW.out.trans (HB2.out.mono HBW.out.size)⟩
          rw [HCk.out, decide_eq_true HB1.out]
          rfl
        · have b1' : ¬ (100 : Int) < (h.li.size : Int) := by omega
          have HB1 := Aside0.mk b1
          clear b1
          by_cases b2 : 32 < h.us.size
          · have b2' : (32 : Int) < (h.us.size : Int) := by omega
            have HB2' := Aside0.mk b2
            clear b2
            go_wp2_with (go_at_call 13; refine (HF.out).mono ?_; rintro e w2 ⟨rfl, hb2⟩; have HB2 := Aside0.mk hb2; obtain ⟨k7, k8, k9, z1, z3, z4⟩ := HL.out w2 hb2; clear hb2)
            go_ret
            refine ⟨?_, HBW.out.trans (HB2.out.mono HBW.out.size)⟩
            rw [HCk.out, decide_eq_true HB2'.out]
            simp [errV]
          · have b2' : ¬ (32 : Int) < (h.us.size : Int) := by omega
            have HB2' := Aside0.mk b2
            clear b2
            by_cases b3 : 32 < h.gr.size
            · have b3' : (32 : Int) < (h.gr.size : Int) := by omega
              have HB3 := Aside0.mk b3
              clear b3
              go_wp2_with (go_at_call 13; refine (HF.out).mono ?_; rintro e w2 ⟨rfl, hb2⟩; have HB2 := Aside0.mk hb2; obtain ⟨k7, k8, k9, z1, z3, z4⟩ := HL.out w2 hb2; clear hb2)
              go_ret
              refine ⟨?_, HBW.out.trans (HB2.out.mono HBW.out.size)⟩
              rw [HCk.out, decide_eq_true HB3.out]
              simp [errV]
            · have b3' : ¬ (32 : Int) < (h.gr.size : Int) := by omega
              have HB3 := Aside0.mk b3
              have HC3 : Aside0 (headE h = if (List.range 7).all (fitsN h) then none else some 1) := ⟨by
                rw [HCk.out, decide_eq_false HB1.out, decide_eq_false HB2'.out, decide_eq_false HB3.out]
                rfl⟩
              clear b3
              go_wp2_with (first
                | (go_at_call 13; refine (HF.out).mono ?_; rintro e w2 ⟨rfl, hb2⟩; have HB2 := Aside0.mk hb2; obtain ⟨k7, k8, k9, z1, z3, z4⟩ := HL.out w2 hb2; clear hb2)
                | (go_at_call 28; refine (numbers_calls w2 w.heap.size h (HBox.out.below HB2.out) (HG.out.next HB2.out)).mono ?_; rintro e w3 ⟨rfl, hN3, hb3⟩; have HN3 := Aside0.mk hN3; have HB3' := Aside0.mk hb3; clear hN3 hb3))
              have HB : Aside0 (Below w.heap.size w w3) := ⟨(HBW.out.trans (HB2.out.mono HBW.out.size)).trans (HB3'.out.mono (Nat.le_trans HBW.out.size HB2.out.size))⟩
              have HX : Aside0 (Box w3 w.heap.size h) := ⟨(HBox.out.below HB2.out).below HB3'.out⟩
              clear k7 k8 k9 z1 z3 z4 l0 b1' b2' b3' HF HL HCk HB2
              generalize w2.heap.size = gn at *
              go_loopg [57] 7 (fun kq v57 wr => ∃ i : Nat, i ≤ 7 ∧ v57 = .int .i64 i ∧ Aside0 (kq = 7 - i) ∧ Aside0 (∀ j, j < i → fitsN h j = true) ∧ Aside0 (Below w.heap.size w wr) ∧ Aside0 (NumB wr gn w.heap.size) ∧ Aside0 (Box wr w.heap.size h))
              case atStart => exact ⟨0, by omega, rfl, ⟨rfl⟩, ⟨fun j hj => by omega⟩, HB, HN3, HX⟩
              case round =>
                obtain ⟨i, hi, rfl, HK, HJ, HBr, HNr, HXr⟩ := hrel
                by_cases hlt : i < 7
                · have hlt' : (i : Int) < 7 := by omega
                  obtain ⟨n0, n1, n2⟩ := num_at HNr.out i hlt
                  have n3 := box_num HXr.out i hlt
                  have hz : w.heap.size < wr.heap.size := blk_lt HXr.out.out
                  obtain ⟨b, hb⟩ : ∃ b, fitsN h i = b := ⟨_, rfl⟩
                  have HBt := Aside0.mk hb
                  have HFt : Aside0 (∀ w : World, Calls Tryd.prog 41 #[.int .i64 (nSz i), .int .i64 (h.num i)] w fun e w' => e = .returned (.bool b) ∧ w = w') := ⟨fun w => hb ▸ fits_calls (nSz i) (h.num i) w⟩
                  clear hb
                  go_wp2_with fail
                  go_quiet ((go_at_call 41; exact Calls.quiet_of_same ((HFt.out _).mono (fun _ _ k => ⟨k.1, k.2.symm⟩))))
                  have hbel := ((HBr.out).trans ((below_alloc (Below.refl wr.heap.size wr) (.cells #[.int .i64 (nAt i), .int .i64 (nSz i), .pointer (some ⟨w.heap.size, nOff i, none⟩)] 65)).mono HBr.out.size))
                  have hbel2 := below_alloc (Below.refl wr.heap.size wr) (.cells #[.int .i64 (nAt i), .int .i64 (nSz i), .pointer (some ⟨w.heap.size, nOff i, none⟩)] 65)
                  have HBn : Aside0 (Below w.heap.size w (((wr.alloc (Obj.cells #[.int .i64 (nAt i), .int .i64 (nSz i), .pointer (some ⟨w.heap.size, nOff i, none⟩)] 65)).drewN nq)) ∧ NumB (((wr.alloc (Obj.cells #[.int .i64 (nAt i), .int .i64 (nSz i), .pointer (some ⟨w.heap.size, nOff i, none⟩)] 65)).drewN nq)) gn w.heap.size ∧ Box (((wr.alloc (Obj.cells #[.int .i64 (nAt i), .int .i64 (nSz i), .pointer (some ⟨w.heap.size, nOff i, none⟩)] 65)).drewN nq)) w.heap.size h) := ⟨hbel.trans ⟨rfl, rfl, rfl, Nat.le_refl _, fun _ _ => rfl⟩, ⟨(HNr.out.below hbel2).out⟩, ⟨(HXr.out.below hbel2).out⟩⟩
                  clear hbel hbel2 n0 n1 n2 n3 hz
                  cases b with
                  | true =>
                    go_wp2_with fail
                    go_roundg (7 - (i + 1))
                    case measure => have := HK.out; omega
                    case rel => exact ⟨i + 1, by omega, by go_num, ⟨rfl⟩, ⟨fun j hj => by
                      by_cases e : j = i
                      · rw [e]; exact HBt.out
                      · exact HJ.out j (by omega)⟩, ⟨HBn.out.1⟩, ⟨HBn.out.2.1⟩, ⟨HBn.out.2.2⟩⟩
                  | false =>
                    go_wp2_with fail
                    go_ret
                    refine ⟨?_, HBn.out.1⟩
                    rw [HC3.out, if_neg (fun e => by
                      have := List.all_eq_true.1 e i (List.mem_range.2 hlt)
                      rw [HBt.out] at this
                      cases this)]
                    rfl
                · have hlt' : ¬ (i : Int) < 7 := by omega
                  obtain rfl : i = 7 := by omega
                  go_wp2_with fail
                  go_ret
                  refine ⟨?_, HBr.out⟩
                  rw [HC3.out, if_pos (List.all_eq_true.2 fun j hj => HJ.out j (List.mem_range.1 hj))]
                  rfl
end Go.Proofs.YtiioiikcjaiajaaDoor.My

/- The walk of what head.Put hands to guard.Try: the texts and the numbers of a head are written. -/
set_option maxRecDepth 100000
namespace Go.Proofs.YtiioiikcjaiajaaDoor.My
open Go.RowKit Go.Proofs.YtiioiikcjaiajaaDoor.Hd Go.Proofs.YtiioiikcjaiajaaDoor.Oct Go.Proofs.YtiioiikcjaiajaaDoorW.PrintWords Go.Proofs.YtiioiikcjaiajaaDoorW.PrintLast Go.Proofs.YtiioiikcjaiajaaDoorW.PrintMore
set_option linter.unusedVariables false
set_option linter.unusedSimpArgs false

theorem of_row (gB a sz : Nat) (h1 : a + sz ≤ 512) (h2 : a < 512) (w : World) :
    Calls Tryd.prog 27 #[.agg #[.int .i64 a, .int .i64 sz], .slice (some ⟨gB, 0, none⟩) 512 512] w fun e w' => e = .returned (.slice (some ⟨gB, a, none⟩) sz (512 - a)) ∧ w' = w.alloc (.cells #[.int .i64 a, .int .i64 sz] 55) := by
  refine (of_calls (some ⟨gB, 0, none⟩) 512 512 a sz h1 (Nat.le_refl _) (by omega) w).mono ?_
  rintro e w' ⟨rfl, rfl⟩
  refine ⟨?_, rfl⟩
  rw [if_neg (by omega), Option.map_some, add_at, Nat.zero_add]
structure VarB (w : World) (gv gB : Nat) : Prop where mk :: (out : w.heap[gv]? = some (.cells #[.slice (some ⟨gB, 0, none⟩) 512 512] 26 (0, 0)))
def texts6 (h : Hd) : Array Value := #[.int .i64 0, .int .i64 100, .string (h.text 0), .int .i64 157, .int .i64 100, .string (h.text 1), .int .i64 257, .int .i64 6, .string (h.text 2), .int .i64 265, .int .i64 32, .string (h.text 3), .int .i64 297, .int .i64 32, .string (h.text 4), .int .i64 345, .int .i64 155, .string (h.text 5)]
structure TextB (w : World) (gt : Nat) (h : Hd) : Prop where mk :: (out : w.heap[gt]? = some (.cells (texts6 h) 56 (0, 0)))
theorem text_at {w : World} {gt : Nat} {h : Hd} (hN : TextB w gt h) (i : Nat) (hi : i < 6) :
    w.cell? ⟨gt, i * 3, none⟩ = some (.int .i64 (tAt i)) ∧ w.cell? ⟨gt, i * 3 + 1, none⟩ = some (.int .i64 (tSz i)) ∧ w.cell? ⟨gt, i * 3 + 2, none⟩ = some (.string (h.text i)) := by
  rw [blk_cell hN.out, blk_cell hN.out, blk_cell hN.out]
  match i, hi with
  | 0, _ => exact ⟨rfl, rfl, rfl⟩
  | 1, _ => exact ⟨rfl, rfl, rfl⟩
  | 2, _ => exact ⟨rfl, rfl, rfl⟩
  | 3, _ => exact ⟨rfl, rfl, rfl⟩
  | 4, _ => exact ⟨rfl, rfl, rfl⟩
  | 5, _ => exact ⟨rfl, rfl, rfl⟩
theorem keep_alloc {w : World} {p : Addr} {v : Value} (o : Obj) (h : w.cell? p = some v) : (w.alloc o).drew.cell? p = some v := by
  have hb : p.block < w.heap.size := by
    rcases Nat.lt_or_ge p.block w.heap.size with k | k
    · exact k
    · rw [World.cell?, Array.getElem?_eq_none k] at h
      cases h
  have := (below_alloc (Below.refl w.heap.size w) o).drew.cell (p := p) hb
  rw [this]
  exact h
/-- What stands while a field is written: all but the head's bytes is as it was. -/
structure QT (W : World) (gB : Nat) (l : List Int) (w : World) : Prop where
  row : Row0 w gB l
  gr : W.grownBy w (some gB)
theorem QT.cell {W w : World} {gB : Nat} {l : List Int} (q : QT W gB l w) {p : Addr} {v : Value} (h : W.cell? p = some v) (hne : p.block ≠ gB) : w.cell? p = some v := by
  have hb : p.block < W.heap.size := by
    rcases Nat.lt_or_ge p.block W.heap.size with k | k
    · exact k
    · rw [World.cell?, Array.getElem?_eq_none k] at h
      cases h
  have := q.gr.block p.block hb (by simpa using hne)
  rw [World.cell?, this]
  exact h
theorem QT.of_ {W w : World} {gB : Nat} {l : List Int} (q : QT W gB l w) (a sz : Nat) (h1 : a + sz ≤ 512) (h2 : a < 512) :
    Calls Tryd.prog 27 #[.agg #[.int .i64 a, .int .i64 sz], .slice (some ⟨gB, 0, none⟩) 512 512] w fun e w' => e = .returned (.slice (some ⟨gB, a, none⟩) sz (512 - a)) ∧ QT W gB l w' := by
  refine (of_row gB a sz h1 h2 w).mono ?_
  rintro e w' ⟨rfl, rfl⟩
  have hb := below_alloc (Below.refl w.heap.size w) (.cells #[.int .i64 a, .int .i64 sz] 55)
  exact ⟨rfl, q.row.below hb, grown_trans q.gr (grown_below hb _)⟩
theorem QT.put {W w : World} {gB : Nat} {l : List Int} (q : QT W gB l w) (a n c : Nat) (s : ByteArray) (hn : n ≤ 1000000) (hc : n ≤ c) (hs : s.size ≤ n) (hl : a + n ≤ l.length) (hE : noN s = true) :
    Calls Tryd.prog 26 #[.slice (some ⟨gB, a, none⟩) n c, .string s] w fun e w' => e = .returned (errV none) ∧ QT W gB (patch l a (txt s n)) w' := by
  refine (putText_calls w gB a n c s l hn hc hs hl q.row (idx_of_noN hE)).mono ?_
  rintro e w' ⟨rfl, h1, h2⟩
  exact ⟨rfl, h1, grown_trans q.gr h2⟩
theorem QT.pass {W w : World} {gB : Nat} {l : List Int} (q : QT W gB l w) : Calls Tryd.prog 25 #[errV none] w fun e w' => e = .returned (.tuple #[]) ∧ QT W gB l w' := by
  refine (pass_calls w).mono ?_
  rintro e w' ⟨rfl, rfl⟩
  exact ⟨rfl, q⟩
/-- .. and while numbers are written. -/
structure QR (W : World) (gB : Nat) (l : List Int) (w : World) : Prop where
  row : Row w gB l
  gr : W.grownBy w (some gB)
theorem QR.cell {W w : World} {gB : Nat} {l : List Int} (q : QR W gB l w) {p : Addr} {v : Value} (h : W.cell? p = some v) (hne : p.block ≠ gB) : w.cell? p = some v := by
  have hb : p.block < W.heap.size := by
    rcases Nat.lt_or_ge p.block W.heap.size with k | k
    · exact k
    · rw [World.cell?, Array.getElem?_eq_none k] at h
      cases h
  have := q.gr.block p.block hb (by simpa using hne)
  rw [World.cell?, this]
  exact h
theorem QR.of_ {W w : World} {gB : Nat} {l : List Int} (q : QR W gB l w) (a sz : Nat) (h1 : a + sz ≤ 512) (h2 : a < 512) :
    Calls Tryd.prog 27 #[.agg #[.int .i64 a, .int .i64 sz], .slice (some ⟨gB, 0, none⟩) 512 512] w fun e w' => e = .returned (.slice (some ⟨gB, a, none⟩) sz (512 - a)) ∧ QR W gB l w' := by
  refine (of_row gB a sz h1 h2 w).mono ?_
  rintro e w' ⟨rfl, rfl⟩
  have hb := below_alloc (Below.refl w.heap.size w) (.cells #[.int .i64 a, .int .i64 sz] 55)
  exact ⟨rfl, q.row.below hb, grown_trans q.gr (grown_below hb _)⟩
theorem QR.put {W w : World} {gB : Nat} {l : List Int} (q : QR W gB l w) (a n c : Nat) (x : Int) (h : fit n x = true) (hn : 0 < n) (hn2 : n ≤ 1000000) (hl : a + n ≤ l.length) (hx : -9223372036854775808 ≤ x ∧ x ≤ 9223372036854775807) :
    Calls Tryd.prog 29 #[.slice (some ⟨gB, a, none⟩) n c, .int .i64 x] w fun e w' => e = .returned (errV none) ∧ QR W gB (patch l a (putB n x)) w' := by
  refine (put_yes gB a n c x l w h hn hn2 hl hx.1 hx.2 q.row).mono ?_
  rintro e w' ⟨rfl, h1, h2⟩
  rw [putAt_patch hn] at h2
  exact ⟨rfl, h2, grown_trans q.gr h1⟩
theorem QR.pass {W w : World} {gB : Nat} {l : List Int} (q : QR W gB l w) : Calls Tryd.prog 25 #[errV none] w fun e w' => e = .returned (.tuple #[]) ∧ QR W gB l w' := by
  refine (pass_calls w).mono ?_
  rintro e w' ⟨rfl, rfl⟩
  exact ⟨rfl, q⟩
theorem nB : ∀ i, nAt i + nSz i ≤ 512 ∧ nAt i < 512 ∧ nSz i ≤ 512 ∧ 0 < nSz i
  | 0 => by decide
  | 1 => by decide
  | 2 => by decide
  | 3 => by decide
  | 4 => by decide
  | 5 => by decide
  | i + 6 => by show 337 + 8 ≤ 512 ∧ 337 < 512 ∧ 8 ≤ 512 ∧ 0 < 8; decide
theorem putN_len (h : Hd) (l : List Int) (hl : l.length = 512) : ∀ i, (putN h i l).length = 512
  | 0 => hl
  | i + 1 => by
    show (patch (putN h i l) _ _).length = 512
    have := nB i
    rw [patch_length (by rw [putN_len h l hl i, putB_length _ _ this.2.2.2]; omega), putN_len h l hl i]
theorem tB : ∀ i, tAt i + tSz i ≤ 512 ∧ tAt i < 512 ∧ tSz i ≤ 512
  | 0 => by decide
  | 1 => by decide
  | 2 => by decide
  | 3 => by decide
  | 4 => by decide
  | i + 5 => by show 345 + 155 ≤ 512 ∧ 345 < 512 ∧ 155 ≤ 512; decide
theorem putT_len (h : Hd) (ht : ∀ i, (h.text i).size ≤ tSz i) (l : List Int) (hl : l.length = 512) : ∀ i, (putT h i l).length = 512
  | 0 => hl
  | i + 1 => by
    show (patch (putT h i l) _ _).length = 512
    have := tB i
    rw [patch_length (by rw [putT_len h ht l hl i, txt_len (ht i)]; omega), putT_len h ht l hl i]
theorem noN_ustar : noN ustar = true := by decide +kernel
theorem noN_extract (s : ByteArray) (a b : Nat) (h : noN s = true) : noN (s.extract a b) = true := by
  unfold noN bs at *
  rw [List.all_eq_true] at *
  intro x hx
  obtain ⟨y, hy, rfl⟩ := List.mem_map.1 hx
  refine h _ (List.mem_map.2 ⟨y, ?_, rfl⟩)
  rw [show (s.extract a b).data.toList = (s.data.extract a b).toList by rw [ByteArray.data_extract]] at hy
  rw [Array.toList_extract] at hy
  exact List.mem_of_mem_drop (List.mem_of_mem_take hy)
theorem headE_none {h : Hd} (hE : headE h = none) : (noN h.nm = true ∧ noN h.li = true ∧ noN h.us = true ∧ noN h.gr = true) ∧ cutOk h.nm = true ∧ h.li.size ≤ 100 ∧ h.us.size ≤ 32 ∧ h.gr.size ≤ 32 ∧ ∀ i, i < 7 → fitsN h i = true := by
  unfold headE at hE
  split at hE
  · cases hE
  · rename_i h1
    split at hE
    · cases hE
    · rename_i h2
      split at hE
      · rename_i h3
        simp at h1 h2
        exact ⟨⟨h1.1.1.1, h1.1.1.2, h1.1.2, h1.2⟩, h2.1.1.1, by omega, by omega, by omega, fun i hi => List.all_eq_true.1 h3 i (List.mem_range.2 hi)⟩
      · cases hE
theorem cut_sizes {s : ByteArray} (h : cutOk s = true) : (rest s).size ≤ 100 ∧ (aheadOf s).size ≤ 155 := by
  unfold rest aheadOf
  by_cases hs : s.size ≤ 100
  · rw [if_pos hs, if_pos hs]; exact ⟨hs, by decide⟩
  · rw [if_neg hs, if_neg hs]
    unfold cutOk at h
    rw [decide_eq_false hs, Bool.false_or] at h
    obtain ⟨h1, h2, h3, h4⟩ := of_decide_eq_true h
    have e : cutAt s = (s.size : Int) - 100 - 1 + cutX s := rfl
    rw [ByteArray.size_extract, ByteArray.size_extract]
    omega
theorem text_ok (h : Hd) (hS : Small h) (hE : headE h = none) : ∀ i, (h.text i).size ≤ tSz i ∧ noN (h.text i) = true := by
  obtain ⟨⟨n1, n2, n3, n4⟩, hc, h1, h2, h3, _⟩ := headE_none hE
  obtain ⟨c1, c2⟩ := cut_sizes hc
  have r1 : noN (rest h.nm) = true := by unfold rest; split; exact n1; exact noN_extract _ _ _ n1
  have r2 : noN (aheadOf h.nm) = true := by unfold aheadOf; split; decide +kernel; exact noN_extract _ _ _ n1
  intro i
  match i with
  | 0 => exact ⟨c1, r1⟩
  | 1 => exact ⟨h1, n2⟩
  | 2 => exact ⟨show ustar.size ≤ 6 by decide, noN_ustar⟩
  | 3 => exact ⟨h2, n3⟩
  | 4 => exact ⟨h3, n4⟩
  | i + 5 => exact ⟨c2, r2⟩
set_option maxHeartbeats 2000000 in
theorem put_body (w : World) (gh gv gB : Nat) (h : Hd) (hg : Gl w) (hB : Box w gh h) (hV : VarB w gv gB) (hR : Row0 w gB nought) (hS : Small h) (hE : headE h = none) (hlow : 14 ≤ gB) :
    Calls Tryd.prog 23 #[.pointer (some ⟨gh, 0, none⟩), .pointer (some ⟨gv, 0, none⟩)] w fun e w' => e = .returned (.tuple #[]) ∧ Row w' gB (putN h 7 (putT h 6 nought)) ∧ w.grownBy w' (some gB) := by
  have HC := Aside0.mk (cut_calls h.nm w hg (by have := hS.nm; omega))
  have l0 : w.cell? ⟨gh, 0, none⟩ = some (.string h.nm) := by rw [blk_cell hB.out]; rfl
  have HW := Aside0.mk (And.intro hB (And.intro hV (And.intro hR hg)))
  have HLow := Aside0.mk hlow
  clear hlow
  clear hB hV hR hg
  go_enter Tryd.func23, Tryd.ntmps23
  go_wp2_with (go_at_call 24; refine HC.out.mono ?_; rintro e w1 ⟨⟨a, r, rfl, har⟩, hb⟩; replace hb := Aside0.mk hb; replace har := Aside0.mk har)
  have hok : cutOk h.nm = true := by
    cases hc : cutOk h.nm with
    | true => rfl
    | false =>
      have := hE
      unfold headE at this
      rw [hc] at this
      split at this
      · cases this
      · simp at this
  obtain ⟨rfl, rfl⟩ := har.out hok
  rw [hok]
  have hW1 : Box w1 gh h ∧ VarB w1 gv gB ∧ Row0 w1 gB nought ∧ Gl w1 := ⟨HW.out.1.below hb.out, ⟨blk_below HW.out.2.1.out hb.out⟩, HW.out.2.2.1.below hb.out, HW.out.2.2.2.next hb.out⟩
  have HW1 := Aside0.mk hW1
  have k7 : w1.cell? ⟨gh, 7, none⟩ = some (.string h.li) := by rw [blk_cell hW1.1.out]; rfl
  have k8 : w1.cell? ⟨gh, 8, none⟩ = some (.string h.us) := by rw [blk_cell hW1.1.out]; rfl
  have k9 : w1.cell? ⟨gh, 9, none⟩ = some (.string h.gr) := by rw [blk_cell hW1.1.out]; rfl
  have a0 : w1.cell? ⟨0, 0, none⟩ = some (.int .i64 0) := hW1.2.2.2.at_ 0 (by omega)
  have a1 : w1.cell? ⟨1, 0, none⟩ = some (.int .i64 157) := hW1.2.2.2.at_ 1 (by omega)
  have a2 : w1.cell? ⟨2, 0, none⟩ = some (.int .i64 257) := hW1.2.2.2.at_ 2 (by omega)
  have a3 : w1.cell? ⟨3, 0, none⟩ = some (.int .i64 265) := hW1.2.2.2.at_ 3 (by omega)
  have a4 : w1.cell? ⟨4, 0, none⟩ = some (.int .i64 297) := hW1.2.2.2.at_ 4 (by omega)
  have a5 : w1.cell? ⟨5, 0, none⟩ = some (.int .i64 345) := hW1.2.2.2.at_ 5 (by omega)
  have s0 : w1.cell? ⟨0, 1, none⟩ = some (.int .i64 100) := hW1.2.2.2.size 0 (by omega)
  have s1 : w1.cell? ⟨1, 1, none⟩ = some (.int .i64 100) := hW1.2.2.2.size 1 (by omega)
  have s2 : w1.cell? ⟨2, 1, none⟩ = some (.int .i64 6) := hW1.2.2.2.size 2 (by omega)
  have s3 : w1.cell? ⟨3, 1, none⟩ = some (.int .i64 32) := hW1.2.2.2.size 3 (by omega)
  have s4 : w1.cell? ⟨4, 1, none⟩ = some (.int .i64 32) := hW1.2.2.2.size 4 (by omega)
  have s5 : w1.cell? ⟨5, 1, none⟩ = some (.int .i64 155) := hW1.2.2.2.size 5 (by omega)
  have hus : (⟨#[117, 115, 116, 97, 114, 0]⟩ : ByteArray).extract 0 5 = ustar := by decide +kernel
  clear hW1 l0 HC
  go_region_held3 (fun w' => w'.cell? ⟨gh, 7, none⟩ = some (.string h.li) ∧ w'.cell? ⟨gh, 8, none⟩ = some (.string h.us) ∧ w'.cell? ⟨gh, 9, none⟩ = some (.string h.gr) ∧
      w'.cell? ⟨0, 0, none⟩ = some (.int .i64 0) ∧ w'.cell? ⟨1, 0, none⟩ = some (.int .i64 157) ∧ w'.cell? ⟨2, 0, none⟩ = some (.int .i64 257) ∧ w'.cell? ⟨3, 0, none⟩ = some (.int .i64 265) ∧ w'.cell? ⟨4, 0, none⟩ = some (.int .i64 297) ∧ w'.cell? ⟨5, 0, none⟩ = some (.int .i64 345) ∧
      w'.cell? ⟨0, 1, none⟩ = some (.int .i64 100) ∧ w'.cell? ⟨1, 1, none⟩ = some (.int .i64 100) ∧ w'.cell? ⟨2, 1, none⟩ = some (.int .i64 6) ∧ w'.cell? ⟨3, 1, none⟩ = some (.int .i64 32) ∧ w'.cell? ⟨4, 1, none⟩ = some (.int .i64 32) ∧ w'.cell? ⟨5, 1, none⟩ = some (.int .i64 155)) ((refine ⟨?_, ?_, ?_, ?_, ?_, ?_, ?_, ?_, ?_, ?_, ?_, ?_, ?_, ?_, ?_⟩ <;> first | assumption | exact keep_alloc _ (by assumption))) (fail)
  rename_i hh
  clear hh a0 a1 a2 a3 a4 a5 s0 s1 s2 s3 s4 s5 k7 k8 k9 hus
  have hWl : TextB (w1.alloc (.cells (texts6 h) 56)).drew w1.heap.size h := ⟨alloc_self w1 _⟩
  have hbl : Below w1.heap.size w1 (w1.alloc (.cells (texts6 h) 56)).drew := (below_alloc (Below.refl _ _) _).drew
  change Exit.then _ _ _ _ (w1.alloc (.cells (texts6 h) 56)).drew
  obtain ⟨gt, hgt⟩ : ∃ gt, gt = w1.heap.size := ⟨_, rfl⟩
  rw [← hgt] at hWl ⊢
  have hne : gt ≠ gB := by
    intro e
    have := blk_lt HW1.out.2.2.1.out
    omega
  generalize (w1.alloc (.cells (texts6 h) 56)).drew = W at *
  have HI : Aside0 (Box W gh h ∧ VarB W gv gB ∧ Row0 W gB nought ∧ TextB W gt h ∧ Gl W ∧ w.grownBy W (some gB)) := ⟨HW1.out.1.below hbl, ⟨blk_below HW1.out.2.1.out hbl⟩, HW1.out.2.2.1.below hbl, hWl, HW1.out.2.2.2.next hbl, grown_below (hb.out.trans (hbl.mono hb.out.size)) _⟩
  have HNe := Aside0.mk hne
  have HE := Aside0.mk hE
  clear hbl hWl hgt hb har HW1 HW hok hne hE
  go_wp2_with fail
  go_loopg [39] 6 (fun kq v39 wr => ∃ i : Nat, i ≤ 6 ∧ v39 = .int .i64 i ∧ Aside0 (kq = 6 - i) ∧ Aside0 (Row0 wr gB (putT h i nought)) ∧ Aside0 (W.grownBy wr (some gB)))
  case atStart => exact ⟨0, by omega, rfl, ⟨rfl⟩, ⟨HI.out.2.2.1⟩, ⟨grown_refl _ _⟩⟩
  case round =>
    obtain ⟨i, hi, rfl, HK, HR, HG⟩ := hrel
    by_cases hlt : i < 6
    · have hlt' : (i : Int) < 6 := by omega
      have hT : TextB wr gt h := ⟨blk_grown HI.out.2.2.2.1.out HG.out (by simpa using HNe.out)⟩
      obtain ⟨n0, n1, n2⟩ := text_at hT i hlt
      go_upto_region 4 with fail
      have hbx : Below wr.heap.size wr (wr.alloc (.cells #[.int .i64 (tAt i), .int .i64 (tSz i), .string (h.text i)] 56)) := below_alloc (Below.refl _ _) _
      have hcx : ∀ j, (wr.alloc (.cells #[.int .i64 (tAt i), .int .i64 (tSz i), .string (h.text i)] 56)).cell? ⟨wr.heap.size, j, none⟩ = (#[.int .i64 (tAt i), .int .i64 (tSz i), .string (h.text i)] : Array Value)[j]? := fun j => blk_cell (alloc_self _ _) j
      have hxl : wr.heap.size < (wr.alloc (.cells #[.int .i64 (tAt i), .int .i64 (tSz i), .string (h.text i)] 56)).heap.size := by simp
      have hxB : wr.heap.size ≠ gB := by have := blk_lt HR.out.out; omega
      have hvB : gv ≠ gB := by
        intro e
        have k1 := HI.out.2.1.out
        have k2 := HI.out.2.2.1.out
        rw [e, k2] at k1
        simp at k1
      obtain ⟨gx, hgx⟩ : ∃ gx, gx = wr.heap.size := ⟨_, rfl⟩
      rw [← hgx] at hcx hxl hxB ⊢
      generalize (wr.alloc (.cells #[.int .i64 (tAt i), .int .i64 (tSz i), .string (h.text i)] 56)) = X at *
      have hQ : QT X gB (putT h i nought) X.drew := ⟨(HR.out.below hbx).drew, grown_drew (grown_refl _ _)⟩
      have hv : X.cell? ⟨gv, 0, none⟩ = some (.slice (some ⟨gB, 0, none⟩) 512 512) := by
        have := blk_grown HI.out.2.1.out HG.out (by simpa using hvB)
        rw [blk_cell (blk_below this hbx)]
        rfl
      have HSK : Aside0 (∀ l w', QT X gB l w' → w'.cell? ⟨gx, 0, none⟩ = some (.int .i64 (tAt i)) ∧ w'.cell? ⟨gx, 1, none⟩ = some (.int .i64 (tSz i)) ∧ w'.cell? ⟨gx, 2, none⟩ = some (.string (h.text i)) ∧ w'.cell? ⟨gv, 0, none⟩ = some (.slice (some ⟨gB, 0, none⟩) 512 512)) := ⟨fun l w' q =>
        ⟨q.cell (hcx 0) hxB, q.cell (hcx 1) hxB, q.cell (hcx 2) hxB, q.cell hv hvB⟩⟩
      have ht := text_ok h hS HE.out
      have hTB := tB i
      have hLen := putT_len h (fun i => (ht i).1) nought (by simp [nought]) i
      have HOf : Aside0 (∀ w', QT X gB (putT h i nought) w' → Calls Tryd.prog 27 #[.agg #[.int .i64 (tAt i), .int .i64 (tSz i)], .slice (some ⟨gB, 0, none⟩) 512 512] w' fun e w' => e = .returned (.slice (some ⟨gB, tAt i, none⟩) (tSz i) (512 - tAt i)) ∧ QT X gB (putT h i nought) w') := ⟨fun w' q => q.of_ _ _ hTB.1 hTB.2.1⟩
      have HPt : Aside0 (∀ w', QT X gB (putT h i nought) w' → Calls Tryd.prog 26 #[.slice (some ⟨gB, tAt i, none⟩) (tSz i) (512 - tAt i), .string (h.text i)] w' fun e w' => e = .returned (errV none) ∧ QT X gB (putT h (i + 1) nought) w') := ⟨fun w' q => q.put _ _ _ _ (by omega) (by omega) (ht i).1 (by rw [hLen]; exact hTB.1) (ht i).2⟩
      have HGX : Aside0 (W.grownBy X (some gB)) := ⟨grown_trans HG.out (grown_below hbx _)⟩
      clear hbx hcx hxl hxB hvB hgx hv ht hTB hLen n0 n1 n2 hT HR HG
      generalize h.text i = s at *
      generalize tAt i = ta at *
      generalize tSz i = ts at *
      obtain ⟨l1, hl1⟩ : ∃ l1, l1 = putT h (i + 1) nought := ⟨_, rfl⟩
      have Hl1 := Aside0.mk hl1
      rw [← hl1] at HPt
      clear hl1
      generalize putT h i nought = l0 at *
      go_region_held3 (fun w' => w'.cell? ⟨gx, 0, none⟩ = some (.int .i64 ta) ∧ w'.cell? ⟨gx, 1, none⟩ = some (.int .i64 ts) ∧ w'.cell? ⟨gx, 2, none⟩ = some (.string s) ∧ w'.cell? ⟨gv, 0, none⟩ = some (.slice (some ⟨gB, 0, none⟩) 512 512)) (exact HSK.out _ _ (by assumption))
        (first
          | (go_at_call 27; refine (HOf.out _ (by assumption)).mono ?_; rintro e w2 ⟨rfl, q2⟩)
          | (go_at_call 26; refine (HPt.out _ (by assumption)).mono ?_; rintro e w3 ⟨rfl, q3⟩)
          | (go_at_call 25; refine (QT.pass (by assumption)).mono ?_; rintro e w4 ⟨rfl, q4⟩))
      rename_i w2 q2 w3 q3 w4 q4 hh
      clear hh q2 q3 HOf HPt HSK hQ
      have HQ4 : Aside0 (Row0 w4 gB l1 ∧ W.grownBy w4 (some gB)) := ⟨q4.row, grown_trans HGX.out q4.gr⟩
      clear q4
      go_wp2_with fail
      go_roundg (6 - (i + 1))
      case measure => have := HK.out; omega
      case rel => exact ⟨i + 1, by omega, by go_num, ⟨rfl⟩, ⟨by rw [← Hl1.out]; exact HQ4.out.1⟩, ⟨HQ4.out.2⟩⟩
    · have hlt' : ¬ (i : Int) < 6 := by omega
      obtain rfl : i = 6 := by omega
      have hlenT := putT_len h (fun i => (text_ok h hS HE.out i).1) nought (by simp [nought]) 6
      have HJ : Aside0 (Box wr gh h ∧ VarB wr gv gB ∧ Row wr gB (putT h 6 nought) ∧ Gl wr ∧ w.grownBy wr (some gB)) := ⟨by
        have hvB : gv ≠ gB := by
          intro e
          have k1 := HI.out.2.1.out
          have k2 := HI.out.2.2.1.out
          rw [e, k2] at k1
          simp at k1
        have hhB : gh ≠ gB := by
          intro e
          have k1 := HI.out.1.out
          have k2 := HI.out.2.2.1.out
          rw [e, k2] at k1
          simp at k1
        refine ⟨HI.out.1.grown HG.out (by simpa using hhB), ⟨blk_grown HI.out.2.1.out HG.out (by simpa using hvB)⟩, HR.out.row, ?_, grown_trans HI.out.2.2.2.2.2 HG.out⟩
        have hB14 : 14 ≤ gB := HLow.out
        have hG := HI.out.2.2.2.2.1
        exact ⟨fun g hg => by
          have := HG.out.block g (by have := hG.low; omega) (by simp; omega)
          rw [World.cell?, this]; exact hG.at_ g hg, fun g hg => by
          have := HG.out.block g (by have := hG.low; omega) (by simp; omega)
          rw [World.cell?, this]; exact hG.size g hg, Nat.le_trans hG.low HG.out.size⟩⟩
      clear HR HG hlt hi
      obtain ⟨lT, hlT⟩ : ∃ lT, lT = putT h 6 nought := ⟨_, rfl⟩
      rw [← hlT] at HJ hlenT
      have HlT := Aside0.mk hlT
      clear hlT
      go_wp2_with (go_at_call 28; refine (numbers_calls wr gh h HJ.out.1 HJ.out.2.2.2.1).mono ?_; rintro e w3 ⟨rfl, hN3, hb3⟩; have HN3 := Aside0.mk hN3; have HB3' := Aside0.mk hb3; clear hN3 hb3)
      have HM : Aside0 (Box w3 gh h ∧ VarB w3 gv gB ∧ Row w3 gB lT ∧ NumB w3 wr.heap.size gh ∧ w.grownBy w3 (some gB)) := ⟨HJ.out.1.below HB3'.out, ⟨blk_below HJ.out.2.1.out HB3'.out⟩, HJ.out.2.2.1.below HB3'.out, HN3.out, grown_trans HJ.out.2.2.2.2 (grown_below HB3'.out _)⟩
      have HNe2 : Aside0 (wr.heap.size ≠ gB) := ⟨by have := HJ.out.2.2.1.lt; omega⟩
      clear HN3 HB3' HJ
      generalize wr.heap.size = gn at *
      go_loopg [54] 7 (fun kq v54 wr => ∃ i : Nat, i ≤ 7 ∧ v54 = .int .i64 i ∧ Aside0 (kq = 7 - i) ∧ Aside0 (Row wr gB (putN h i lT)) ∧ Aside0 (w3.grownBy wr (some gB)))
      case atStart => exact ⟨0, by omega, rfl, ⟨rfl⟩, ⟨HM.out.2.2.1⟩, ⟨grown_refl _ _⟩⟩
      case round =>
        obtain ⟨i, hi, rfl, HK, HR, HG⟩ := hrel
        by_cases hlt : i < 7
        · have hlt' : (i : Int) < 7 := by omega
          have hT : NumB wr gn gh := HM.out.2.2.2.1.grown HG.out (by simpa using HNe2.out)
          obtain ⟨n0, n1, n2⟩ := num_at hT i hlt
          go_upto_region 9 with fail
          have hbx : Below wr.heap.size wr (wr.alloc (.cells #[.int .i64 (nAt i), .int .i64 (nSz i), .pointer (some ⟨gh, nOff i, none⟩)] 65)) := below_alloc (Below.refl _ _) _
          have hcx : ∀ j, (wr.alloc (.cells #[.int .i64 (nAt i), .int .i64 (nSz i), .pointer (some ⟨gh, nOff i, none⟩)] 65)).cell? ⟨wr.heap.size, j, none⟩ = (#[.int .i64 (nAt i), .int .i64 (nSz i), .pointer (some ⟨gh, nOff i, none⟩)] : Array Value)[j]? := fun j => blk_cell (alloc_self _ _) j
          have hxB : wr.heap.size ≠ gB := by have := HR.out.lt; omega
          have hvB : gv ≠ gB := by
            intro e
            have k1 := HM.out.2.1.out
            obtain ⟨fr, k2, _⟩ := HM.out.2.2.1.out
            rw [e, k2] at k1
            simp at k1
          have hhB : gh ≠ gB := by
            intro e
            have k1 := HM.out.1.out
            obtain ⟨fr, k2, _⟩ := HM.out.2.2.1.out
            rw [e, k2] at k1
            simp at k1
          obtain ⟨gx, hgx⟩ : ∃ gx, gx = wr.heap.size := ⟨_, rfl⟩
          rw [← hgx] at hcx hxB ⊢
          generalize (wr.alloc (.cells #[.int .i64 (nAt i), .int .i64 (nSz i), .pointer (some ⟨gh, nOff i, none⟩)] 65)) = X at *
          have hQ : QR X gB (putN h i lT) X.drew := ⟨(HR.out.below hbx).drew, grown_drew (grown_refl _ _)⟩
          have hv : X.cell? ⟨gv, 0, none⟩ = some (.slice (some ⟨gB, 0, none⟩) 512 512) := by
            have := blk_grown HM.out.2.1.out HG.out (by simpa using hvB)
            rw [blk_cell (blk_below this hbx)]
            rfl
          have hn := box_num ((HM.out.1.grown HG.out (by simpa using hhB)).below hbx) i hlt
          have HSK : Aside0 (∀ l w', QR X gB l w' → w'.cell? ⟨gx, 0, none⟩ = some (.int .i64 (nAt i)) ∧ w'.cell? ⟨gx, 1, none⟩ = some (.int .i64 (nSz i)) ∧ w'.cell? ⟨gx, 2, none⟩ = some (.pointer (some ⟨gh, nOff i, none⟩)) ∧ w'.cell? ⟨gv, 0, none⟩ = some (.slice (some ⟨gB, 0, none⟩) 512 512) ∧ w'.cell? ⟨gh, nOff i, none⟩ = some (.int .i64 (h.num i))) := ⟨fun l w' q =>
            ⟨q.cell (hcx 0) hxB, q.cell (hcx 1) hxB, q.cell (hcx 2) hxB, q.cell hv hvB, q.cell hn hhB⟩⟩
          have hF := (headE_none HE.out).2.2.2.2.2 i hlt
          have hTB := nB i
          have hLen := putN_len h lT hlenT i
          have HOf : Aside0 (∀ w', QR X gB (putN h i lT) w' → Calls Tryd.prog 27 #[.agg #[.int .i64 (nAt i), .int .i64 (nSz i)], .slice (some ⟨gB, 0, none⟩) 512 512] w' fun e w' => e = .returned (.slice (some ⟨gB, nAt i, none⟩) (nSz i) (512 - nAt i)) ∧ QR X gB (putN h i lT) w') := ⟨fun w' q => q.of_ _ _ hTB.1 hTB.2.1⟩
          have HPt : Aside0 (∀ w', QR X gB (putN h i lT) w' → Calls Tryd.prog 29 #[.slice (some ⟨gB, nAt i, none⟩) (nSz i) (512 - nAt i), .int .i64 (h.num i)] w' fun e w' => e = .returned (errV none) ∧ QR X gB (putN h (i + 1) lT) w') := ⟨fun w' q => q.put _ _ _ _ hF hTB.2.2.2 (by omega) (by rw [hLen]; exact hTB.1) (hS.num i)⟩
          have HGX : Aside0 (w3.grownBy X (some gB)) := ⟨grown_trans HG.out (grown_below hbx _)⟩
          clear hbx hcx hxB hvB hhB hgx hv hF hn hTB hLen n0 n1 n2 hT HR HG
          generalize h.num i = s at *
          generalize nAt i = ta at *
          generalize nSz i = ts at *
          generalize nOff i = tn at *
          obtain ⟨l1, hl1⟩ : ∃ l1, l1 = putN h (i + 1) lT := ⟨_, rfl⟩
          have Hl1 := Aside0.mk hl1
          rw [← hl1] at HPt
          clear hl1
          generalize putN h i lT = l0 at *
          go_region_held3 (fun w' => w'.cell? ⟨gx, 0, none⟩ = some (.int .i64 ta) ∧ w'.cell? ⟨gx, 1, none⟩ = some (.int .i64 ts) ∧ w'.cell? ⟨gx, 2, none⟩ = some (.pointer (some ⟨gh, tn, none⟩)) ∧ w'.cell? ⟨gv, 0, none⟩ = some (.slice (some ⟨gB, 0, none⟩) 512 512) ∧ w'.cell? ⟨gh, tn, none⟩ = some (.int .i64 s)) (exact HSK.out _ _ (by assumption))
            (first
              | (go_at_call 27; refine (HOf.out _ (by assumption)).mono ?_; rintro e w2 ⟨rfl, q2⟩)
              | (go_at_call 29; refine (HPt.out _ (by assumption)).mono ?_; rintro e w3 ⟨rfl, q3⟩)
              | (go_at_call 25; refine (QR.pass (by assumption)).mono ?_; rintro e w4 ⟨rfl, q4⟩))
          rename_i w2 q2 w3 q3 w4 q4 hh
          clear hh q2 q3 HOf HPt HSK hQ
          have HQ4 : Aside0 (Row w4 gB l1 ∧ _) := ⟨q4.row, grown_trans HGX.out q4.gr⟩
          clear q4
          go_wp2_with fail
          go_roundg (7 - (i + 1))
          case measure => have := HK.out; omega
          case rel => exact ⟨i + 1, by omega, by go_num, ⟨rfl⟩, ⟨by rw [← Hl1.out]; exact HQ4.out.1⟩, ⟨HQ4.out.2⟩⟩
        · have hlt' : ¬ (i : Int) < 7 := by omega
          obtain rfl : i = 7 := by omega
          go_wp2_with fail
          go_end0
          exact ⟨rfl, HlT.out ▸ HR.out, grown_trans HM.out.2.2.2.2 HG.out⟩
end Go.Proofs.YtiioiikcjaiajaaDoor.My

/- The walks of guard: faults that are thrown, and caught. -/
set_option maxRecDepth 100000
namespace Go.Proofs.YtiioiikcjaiajaaDoor.My
open Go.RowKit Go.Proofs.YtiioiikcjaiajaaDoorW.PrintWords Go.Proofs.YtiioiikcjaiajaaDoorW.PrintLast Go.Proofs.YtiioiikcjaiajaaDoorW.PrintMore

/-- A fault as an error; what lies behind it. -/
abbrev fltV (g : Nat) : Value := .iface 77 (.pointer (some ⟨g, 0, none⟩))
structure Flt (w : World) (g : Nat) (c : Int) (s : ByteArray) : Prop where mk :: (out : w.heap[g]? = some (.cells #[.int .i64 c, .string s] 83 (0, 0)))
theorem Flt.below {w w1 : World} {g : Nat} {c : Int} {s : ByteArray} (h : Flt w g c s) (hb : Below w.heap.size w w1) : Flt w1 g c s := ⟨(hb.block g (blk_lt h.out)).trans h.out⟩
theorem Flt.drewN {w : World} {g : Nat} {c : Int} {s : ByteArray} (h : Flt w g c s) (n : Nat) : Flt (w.drewN n) g c s := ⟨h.out⟩
theorem Flt.grown {w w1 : World} {g : Nat} {c : Int} {s : ByteArray} {row : Option Nat} (h : Flt w g c s) (hg : w.grownBy w1 row) (hne : some g ≠ row) : Flt w1 g c s := ⟨blk_grown h.out hg hne⟩

theorem post_panic {P : Program} {fn : Func} {R : Ending → World → Prop} {chain : List PanicEntry} {a : Act} {w : World} (hd : a.defers = []) (h : R (.panicked chain) w) : bodyPost P fn R (.panic chain) a w := ⟨hd, h⟩
theorem throw_calls (c : Int) (s : ByteArray) (w : World) :
    Calls Tryd.prog 44 #[.int .i64 c, .string s] w fun e w' => e = .panicked [{ v := fltV w.heap.size, recovered := false }] ∧ w' = w.alloc (.cells #[.int .i64 c, .string s] 83) := by
  go_enter Tryd.func44, Tryd.ntmps44
  go_wp2
  exact post_panic rfl ⟨rfl, rfl⟩
/-- A nil fault as an error; an error of a number. -/
abbrev fltN : Value := .iface 77 (.pointer none)
abbrev numV (c : Int) : Value := .iface 42 (.int .i64 c)
theorem code_nil (w : World) : Calls Tryd.prog 30 #[.nilIface] w fun e w' => e = .returned (.int .i64 0) ∧ w = w' := by
  go_enter Tryd.func30, Tryd.ntmps30
  go_wp2
  go_ret
  exact ⟨rfl, rfl⟩
theorem code_flt (g : Nat) (c : Int) (s : ByteArray) (w : World) (h : Flt w g c s) : Calls Tryd.prog 30 #[fltV g] w fun e w' => e = .returned (.int .i64 c) ∧ w = w' := by
  have c0 : w.cell? ⟨g, 0, none⟩ = some (.int .i64 c) := by rw [blk_cell h.out]; rfl
  have hta : ∀ (v : Value) (W : World), (Instr.typeAssert (.iface 77 v) 28 77 true).run Tryd.prog W = .ok (.tuple #[v, .bool true]) W := fun _ _ => rfl
  clear h
  show Calls Tryd.prog 30 #[.iface 77 (.pointer (some ⟨g, 0, none⟩))] w _
  go_enter Tryd.func30, Tryd.ntmps30
  go_wp2
  go_ret
  exact ⟨rfl, rfl⟩
theorem code_err (c : Int) (w : World) : Calls Tryd.prog 30 #[numV c] w fun e w' => e = .returned (.int .i64 c) ∧ w = w' := by
  have htb : ∀ (v : Value) (W : World), (Instr.typeAssert (.iface 42 v) 28 77 true).run Tryd.prog W = .ok (.tuple #[.pointer none, .bool false]) W := fun _ _ => rfl
  have htc : ∀ (v : Value) (W : World), (Instr.typeAssert (.iface 42 v) 28 42 true).run Tryd.prog W = .ok (.tuple #[v, .bool true]) W := fun _ _ => rfl
  show Calls Tryd.prog 30 #[.iface 42 (.int .i64 c)] w _
  go_enter Tryd.func30, Tryd.ntmps30
  go_wp2
  go_ret
  exact ⟨rfl, rfl⟩
theorem code_fltN (w : World) : Calls Tryd.prog 30 #[fltN] w fun e w' => e = .returned (.int .i64 11) ∧ w = w' := by
  have hta : ∀ (v : Value) (W : World), (Instr.typeAssert (.iface 77 v) 28 77 true).run Tryd.prog W = .ok (.tuple #[v, .bool true]) W := fun _ _ => rfl
  have htd : ∀ (v : Value) (W : World), (Instr.typeAssert (.iface 77 v) 28 42 true).run Tryd.prog W = .ok (.tuple #[.int .i64 0, .bool false]) W := fun _ _ => rfl
  show Calls Tryd.prog 30 #[.iface 77 (.pointer none)] w _
  go_enter Tryd.func30, Tryd.ntmps30
  go_wp2
  go_ret
  exact ⟨rfl, rfl⟩
theorem where_nil (w : World) : Calls Tryd.prog 45 #[.nilIface] w fun e w' => e = .returned (.string ⟨#[]⟩) ∧ w = w' := by
  have htn : ∀ (W : World), (Instr.typeAssert .nilIface 28 77 true).run Tryd.prog W = .ok (.tuple #[.pointer none, .bool false]) W := fun _ => rfl
  show Calls Tryd.prog 45 #[.nilIface] w _
  go_enter Tryd.func45, Tryd.ntmps45
  go_wp2
  go_ret
  exact ⟨rfl, rfl⟩
theorem where_err (c : Int) (w : World) : Calls Tryd.prog 45 #[numV c] w fun e w' => e = .returned (.string ⟨#[]⟩) ∧ w = w' := by
  have htb : ∀ (v : Value) (W : World), (Instr.typeAssert (.iface 42 v) 28 77 true).run Tryd.prog W = .ok (.tuple #[.pointer none, .bool false]) W := fun _ _ => rfl
  have htc : ∀ (v : Value) (W : World), (Instr.typeAssert (.iface 42 v) 28 42 true).run Tryd.prog W = .ok (.tuple #[v, .bool true]) W := fun _ _ => rfl
  show Calls Tryd.prog 45 #[.iface 42 (.int .i64 c)] w _
  go_enter Tryd.func45, Tryd.ntmps45
  go_wp2
  go_ret
  exact ⟨rfl, rfl⟩
theorem where_fltN (w : World) : Calls Tryd.prog 45 #[fltN] w fun e w' => e = .returned (.string ⟨#[]⟩) ∧ w = w' := by
  have hta : ∀ (v : Value) (W : World), (Instr.typeAssert (.iface 77 v) 28 77 true).run Tryd.prog W = .ok (.tuple #[v, .bool true]) W := fun _ _ => rfl
  show Calls Tryd.prog 45 #[.iface 77 (.pointer none)] w _
  go_enter Tryd.func45, Tryd.ntmps45
  go_wp2
  go_ret
  exact ⟨rfl, rfl⟩
theorem where_flt (g : Nat) (c : Int) (s : ByteArray) (w : World) (h : Flt w g c s) : Calls Tryd.prog 45 #[fltV g] w fun e w' => e = .returned (.string s) ∧ w = w' := by
  have c1 : w.cell? ⟨g, 1, none⟩ = some (.string s) := by rw [blk_cell h.out]; rfl
  clear h
  have hta : ∀ (v : Value) (W : World), (Instr.typeAssert (.iface 77 v) 28 77 true).run Tryd.prog W = .ok (.tuple #[v, .bool true]) W := fun _ _ => rfl
  show Calls Tryd.prog 45 #[.iface 77 (.pointer (some ⟨g, 0, none⟩))] w _
  go_enter Tryd.func45, Tryd.ntmps45
  go_wp2
  go_ret
  exact ⟨rfl, rfl⟩
end Go.Proofs.YtiioiikcjaiajaaDoor.My

/- The walk of guard.Try: a fault is caught. -/
set_option maxRecDepth 100000
namespace Go.Proofs.YtiioiikcjaiajaaDoor.My
open Go.RowKit Go.Proofs.YtiioiikcjaiajaaDoorW.PrintWords Go.Proofs.YtiioiikcjaiajaaDoorW.PrintLast Go.Proofs.YtiioiikcjaiajaaDoorW.PrintMore

theorem catch_flt (b : Nat) (x : Value) (g : Nat) (older : List PanicEntry) (w : World) (hc : w.cell? ⟨b, 0, none⟩ = some x) (hz : w.frozen? ⟨b, 0, none⟩ = false) :
    CallsD Tryd.prog 42 #[.pointer (some ⟨b, 0, none⟩)] (.panicking ({ v := fltV g, recovered := false } :: older)) w fun e u' w' =>
      e = .returned (.tuple #[]) ∧ u' = .panicking ({ v := fltV g, recovered := true } :: older) ∧ w' = w.setCell ⟨b, 0, none⟩ (fltV g) := by
  have hta : ∀ (v : Value) (W : World), (Instr.typeAssert (.iface 77 v) 20 77 true).run Tryd.prog W = .ok (.tuple #[v, .bool true]) W := fun _ _ => rfl
  unfold fltV
  refine callsD_of_wpS Tryd.func42 rfl fun c₀ cs hu => ?_
  apply wpS_seq
  apply wpS_region
  simp [wpOpsS, go_sem, recoverD, hu, Tryd.ntmps42, Exit.thenS]
  rw [show ∀ (p v : Value), #[p] ++ (Array.replicate 11 undef).setIfInBounds 3 v = #[p, undef, undef, undef, v, undef, undef, undef, undef, undef, undef, undef] from fun _ _ => rfl]
  refine wpS_of_wp ?_
  clear hu
  go_wp2
  simp [bodyPostS, results, Tryd.results42]
theorem catch_idle (b : Nat) (w : World) :
    CallsD Tryd.prog 42 #[.pointer (some ⟨b, 0, none⟩)] .returning w fun e u' w' => e = .returned (.tuple #[]) ∧ u' = .returning ∧ w' = w := by
  refine callsD_of_wpS Tryd.func42 rfl fun c₀ cs hu => ?_
  apply wpS_seq
  apply wpS_region
  simp [wpOpsS, go_sem, recoverD, hu, Tryd.ntmps42, Exit.thenS]
  rw [show ∀ (p v : Value), #[p] ++ (Array.replicate 11 undef).setIfInBounds 3 v = #[p, undef, undef, undef, v, undef, undef, undef, undef, undef, undef, undef] from fun _ _ => rfl]
  refine wpS_of_wp ?_
  have HU := Aside0.mk hu
  clear hu
  go_wp2
  have hu := HU.out
  cases c₀
  simp_all [bodyPostS, results, Tryd.results42]
/-- What isn't a fault goes on: it is panicked with anew. -/
theorem catch_int (b : Nat) (n : Int) (older : List PanicEntry) (w : World) :
    CallsD Tryd.prog 42 #[.pointer (some ⟨b, 0, none⟩)] (.panicking ({ v := .iface 3 (.int .i64 n), recovered := false } :: older)) w fun e u' w' =>
      e = .panicked [{ v := .iface 3 (.int .i64 n), recovered := false }] ∧ u' = .panicking ({ v := .iface 3 (.int .i64 n), recovered := true } :: older) ∧ w' = w := by
  have hta : ∀ (v : Value) (W : World), (Instr.typeAssert (.iface 3 v) 20 77 true).run Tryd.prog W = .ok (.tuple #[.pointer none, .bool false]) W := fun _ _ => rfl
  refine callsD_of_wpS Tryd.func42 rfl fun c₀ cs hu => ?_
  apply wpS_seq
  apply wpS_region
  simp [wpOpsS, go_sem, recoverD, hu, Tryd.ntmps42, Exit.thenS]
  rw [show ∀ (p v : Value), #[p] ++ (Array.replicate 11 undef).setIfInBounds 3 v = #[p, undef, undef, undef, v, undef, undef, undef, undef, undef, undef, undef] from fun _ _ => rfl]
  refine wpS_of_wp ?_
  clear hu
  go_wp2
  simp [bodyPostS]
/-- What a function does that is handed to Try: it ends, or it throws a fault; the variable that Try has made stays as it is. -/
def Ends (k : Nat) (D : World → Prop) (T : Nat → World → Prop) (e : Ending) (w : World) : Prop :=
  w.heap[k]? = some (.cells #[.nilIface] 28 (0, 0)) ∧ ((∃ v, e = .returned v ∧ D w) ∨ (∃ g, e = .panicked [{ v := fltV g, recovered := false }] ∧ T g w))
/-- What Try answers then. -/
def Tried (k : Nat) (D : World → Prop) (T : Nat → World → Prop) (e : Ending) (w : World) : Prop :=
  (e = .returned .nilIface ∧ ∃ w1, D w1 ∧ w = w1.setCell ⟨k, 0, none⟩ .nilIface) ∨ (∃ g, e = .returned (fltV g) ∧ ∃ w1, T g w1 ∧ w = w1.setCell ⟨k, 0, none⟩ (fltV g))
theorem try_fun (F : FuncId) (cap : Array Value) (w : World) (D : World → Prop) (T : Nat → World → Prop)
    (hcf : ∀ W : World, (callFunc F cap).run Tryd.prog W = .ok (.enter F cap) W)
    (hR : Calls Tryd.prog F cap (w.alloc (.cells #[.nilIface] 28)) (Ends w.heap.size D T)) :
    Calls Tryd.prog 22 #[.func (.func F) #[] cap] w (Tried w.heap.size D T) := by
  have hmf : ∀ (fn : Fn) (first cap : Array Value) (w : World), (Instr.makeFunc fn first cap).run Tryd.prog w = .ok (.func fn first cap) w := fun _ _ _ _ => rfl
  have hnf : ∀ (fn : Fn) (first cap : Array Value) (W : World), (Go.binOp .eql 1 (Value.func fn first cap) Value.nilFunc).run Tryd.prog W = .ok (.bool false) W := fun _ _ _ _ => rfl
  have HR := Aside0.mk hR
  clear hR
  go_enter_defers Tryd.func22, Tryd.ntmps22
  go_wp2_with fail
  refine HR.out.mono ?_
  rintro e w1 ⟨hb, ⟨v, rfl, hD⟩ | ⟨g, rfl, hT⟩⟩
  · have hc : w1.cell? ⟨w.heap.size, 0, none⟩ = some .nilIface := by rw [blk_cell hb]; rfl
    have hz : w1.frozen? ⟨w.heap.size, 0, none⟩ = false := blk_frozen hb 0
    have HD := Aside0.mk hD
    have HB := Aside0.mk hb
    clear hD hb
    go_wp2
    refine leaves_cons (f := 42) (args := #[.pointer (some ⟨w.heap.size, 0, none⟩)]) (by simp) (by simp [go_sem]) ?_
    refine (catch_idle w.heap.size _).mono ?_
    rintro e u' w'' ⟨rfl, rfl, rfl⟩
    have hb' := blk_set HB.out 0 .nilIface
    simp [Leaves, settle, results, Tryd.results22, go_sem, hc]
    exact .inl ⟨rfl, w1, HD.out, rfl⟩
  · have hc : w1.cell? ⟨w.heap.size, 0, none⟩ = some .nilIface := by rw [blk_cell hb]; rfl
    have hz : w1.frozen? ⟨w.heap.size, 0, none⟩ = false := blk_frozen hb 0
    have HT := Aside0.mk hT
    have HB := Aside0.mk hb
    clear hT hb
    go_wp2
    refine leaves_cons (f := 42) (args := #[.pointer (some ⟨w.heap.size, 0, none⟩)]) (by simp) (by simp [go_sem]) ?_
    refine (catch_flt w.heap.size .nilIface g [] _ hc hz).mono ?_
    rintro e u' w'' ⟨rfl, rfl, rfl⟩
    simp [Leaves, settle, results, Tryd.results22, go_sem, hc]
    exact .inr ⟨g, rfl, w1, HT.out, rfl⟩
end Go.Proofs.YtiioiikcjaiajaaDoor.My

/- The walk of head.Put: any head's bytes. -/
set_option maxRecDepth 100000
namespace Go.Proofs.YtiioiikcjaiajaaDoor.My
open Go.RowKit Go.Proofs.YtiioiikcjaiajaaDoor.Hd Go.Proofs.YtiioiikcjaiajaaDoor.Oct Go.Proofs.YtiioiikcjaiajaaDoorW.PrintWords Go.Proofs.YtiioiikcjaiajaaDoorW.PrintLast Go.Proofs.YtiioiikcjaiajaaDoorW.PrintMore
set_option linter.unusedVariables false
set_option linter.unusedSimpArgs false

/-- A piece of a block of bytes, as a field that is read. -/
theorem row_fld {w : World} {g : Nat} {l : List Int} (hr : Row w g l) (hb : ∀ b ∈ l, 0 ≤ b ∧ b < 256) (off n c : Nat) (hn : off + n ≤ l.length) (hc : n ≤ c) (hc9 : c ≤ 1000000000) : Fld w (some ⟨g, off, none⟩) n c (fld l off n) := by
  have hC := reads_of_C (hr.C off n hn (by omega))
  exact ⟨hC, fun b h => hb b (List.mem_of_mem_drop (List.mem_of_mem_take h)), by omega⟩
theorem byte_patch {l b : List Int} {o : Nat} (h : ∀ x ∈ l, 0 ≤ x ∧ x < 256) (h2 : ∀ x ∈ b, 0 ≤ x ∧ x < 256) : ∀ x ∈ patch l o b, 0 ≤ x ∧ x < 256 := by
  intro x hx
  unfold patch at hx
  rcases List.mem_append.1 hx with hx | hx
  · rcases List.mem_append.1 hx with hx | hx
    · exact h x (List.mem_of_mem_take hx)
    · exact h2 x hx
  · exact h x (List.mem_of_mem_drop hx)
theorem byte_set {l : List Int} {i : Nat} {v : Int} (h : ∀ x ∈ l, 0 ≤ x ∧ x < 256) (h2 : 0 ≤ v ∧ v < 256) : ∀ x ∈ l.set i v, 0 ≤ x ∧ x < 256 := by
  intro x hx
  rcases List.mem_or_eq_of_mem_set hx with hx | rfl
  · exact h x hx
  · exact h2
theorem byte_T (h : Hd) : ∀ i, ∀ x ∈ putT h i nought, 0 ≤ x ∧ x < 256
  | 0 => fun x hx => by
    have := List.eq_of_mem_replicate hx
    omega
  | i + 1 => byte_patch (byte_T h i) (txt_byte _ _)
theorem byte_N (h : Hd) (l : List Int) (hl : ∀ x ∈ l, 0 ≤ x ∧ x < 256) : ∀ i, ∀ x ∈ putN h i l, 0 ≤ x ∧ x < 256
  | 0 => hl
  | i + 1 => byte_patch (byte_N h l hl i) (putB_byte _ _ (nB i).2.2.2)
theorem body_byte (h : Hd) (hS : Small h) : ∀ x ∈ body h, 0 ≤ x ∧ x < 256 :=
  byte_set (byte_set (byte_set (byte_N h _ (byte_T h 6) 7) hS.ki) (by omega)) (by omega)
theorem body_len (h : Hd) (hS : Small h) (hE : headE h = none) : (body h).length = 512 := by
  unfold body
  rw [List.length_set, List.length_set, List.length_set]
  exact putN_len h _ (putT_len h (fun i => (text_ok h hS hE i).1) nought (by simp [nought]) 6) 7
theorem sum_fit (n : Int) (h0 : 256 ≤ n) (h1 : n ≤ 130816) : fit ((7 : Nat) : Int) n = true := by
  have : nar ((7 : Nat) : Int) n = true := decide_eq_true ⟨by decide, by omega, .inr (by
    show n / 2 ^ 18 = 0
    omega)⟩
  unfold fit
  rw [this]
  rfl
/-- Where the bytes have been put. -/
def PutR (w : World) (l : List Int) (e : Ending) (w' : World) : Prop := ∃ gB, e = .returned (.tuple #[.slice (some ⟨gB, 0, none⟩) 512 512, errV none]) ∧ Row w' gB l ∧ w.heap.size ≤ gB ∧ Below w.heap.size w w'
theorem putH_no (h : Hd) (hS : Small h) (w : World) (hg : Gl w) (c : Int) (hE : headE h = some c) :
    Calls Tryd.prog 9 #[.agg (hv h)] w fun e w' => e = .returned (.tuple #[.slice none 0 0, errV (some c)]) ∧ Below w.heap.size w w' := by
  obtain ⟨W, hW⟩ : ∃ W, W = w.alloc (.cells (hv h) 23) := ⟨_, rfl⟩
  have hBW : Below w.heap.size w W := by rw [hW]; exact below_alloc (Below.refl _ _) _
  have hC := check_calls h hS W (hg.next hBW)
  rw [hE, show errV (some c) = .iface 42 (.int .i64 c) from rfl] at hC
  rw [show errV (some c) = .iface 42 (.int .i64 c) from rfl]
  have HC := Aside0.mk hC
  have HB := Aside0.mk hBW
  have HW := Aside0.mk hW
  have u1 := Tryd.underlying28
  clear hC hBW hW hg hE hS
  unfold hv at HW HC
  unfold hv
  go_enter Tryd.func9, Tryd.ntmps9
  go_wp2_with fail
  rw [← HW.out]
  refine HC.out.mono ?_
  rintro e w2 ⟨rfl, hb2⟩
  have HB2 := Aside0.mk (HB.out.trans (hb2.mono HB.out.size))
  clear hb2
  go_wp2_with fail
  go_ret2
  exact ⟨rfl, HB2.out⟩
theorem grown_set_new {W w1 : World} {row : Option Nat} {k : Nat} (h : W.grownBy w1 row) (hk : W.heap.size ≤ k) (i : Nat) (v : Value) : W.grownBy (w1.setCell ⟨k, i, none⟩ v) row :=
  ⟨h.os, h.tape, h.output, by have := h.size; simpa [World.setCell] using this, fun j hj hr => (Below.heap_setCell w1 ⟨k, i, none⟩ v j (by show j ≠ k; omega)).trans (h.block j hj hr)⟩
theorem try_put (W : World) (gh gv gB : Nat) (h : Hd) (hg : Gl W) (hB : Box W gh h) (hV : VarB W gv gB) (hR : Row0 W gB nought) (hS : Small h) (hE : headE h = none) (hlow : 14 ≤ gB) :
    Calls Tryd.prog 22 #[.func (.func 23) #[] #[.pointer (some ⟨gh, 0, none⟩), .pointer (some ⟨gv, 0, none⟩)]] W fun e w' => e = .returned .nilIface ∧ Row w' gB (putN h 7 (putT h 6 nought)) ∧ W.grownBy w' (some gB) := by
  have hb := below_alloc (Below.refl W.heap.size W) (.cells #[.nilIface] 28)
  have hne : W.heap.size ≠ gB := by have := blk_lt hR.out; omega
  have hbody := put_body (W.alloc (.cells #[.nilIface] 28)) gh gv gB h (hg.next hb) (hB.below hb) ⟨blk_below hV.out hb⟩ (hR.below hb) hS hE hlow
  refine (try_fun 23 #[.pointer (some ⟨gh, 0, none⟩), .pointer (some ⟨gv, 0, none⟩)] W
    (fun w1 => Row w1 gB (putN h 7 (putT h 6 nought)) ∧ (W.alloc (.cells #[.nilIface] 28)).grownBy w1 (some gB)) (fun _ _ => False) (fun _ => rfl) (hbody.mono ?_)).mono ?_
  · rintro e w' ⟨rfl, h1, h2⟩
    refine ⟨?_, .inl ⟨_, rfl, h1, h2⟩⟩
    exact blk_grown (alloc_self _ _) h2 (by simpa using hne)
  · rintro e w' (⟨rfl, w1, ⟨h1, h2⟩, rfl⟩ | ⟨g, rfl, w1, hF, rfl⟩)
    · have h3 := grown_trans (grown_below hb (some gB)) h2
      exact ⟨rfl, h1.grown (grown_set w1 W.heap.size 0 .nilIface) (by simpa using fun e => hne e.symm), grown_set_new h3 (Nat.le_refl _) _ _⟩
    · exact hF.elim
theorem putH_yes (h : Hd) (hS : Small h) (w : World) (hg : Gl w) (hE : headE h = none) :
    Calls Tryd.prog 9 #[.agg (hv h)] w (PutR w (headB h)) := by
  obtain ⟨W, hW⟩ : ∃ W, W = w.alloc (.cells (hv h) 23) := ⟨_, rfl⟩
  have hBW : Below w.heap.size w W := by rw [hW]; exact below_alloc (Below.refl _ _) _
  have hbox : Box W w.heap.size h := by rw [hW]; exact ⟨alloc_self _ _⟩
  have hC := check_calls h hS W (hg.next hBW)
  rw [hE, show errV none = .nilIface from rfl] at hC
  have HC := Aside0.mk hC
  have HB := Aside0.mk hBW
  have HX := Aside0.mk hbox
  have HW := Aside0.mk hW
  have HG := Aside0.mk (hg.next hBW)
  have HE := Aside0.mk (And.intro hE hS)
  have HLo := Aside0.mk hg.low
  have hmk : ∀ W : World, (Instr.makeSlice 26 (.int .i64 512) (.int .i64 512)).run Tryd.prog W = .ok (.slice (some ⟨W.heap.size, 0, none⟩) 512 512) (W.alloc (.cells (madeCells #[.int .u8 0] 512) 5)) := fun W => make_bytes 512 (by omega) W
  clear hC hBW hW hg hE hS hbox
  unfold hv at HW HC
  unfold hv
  go_enter Tryd.func9, Tryd.ntmps9
  go_wp2_with fail
  rw [← HW.out]
  refine HC.out.mono ?_
  rintro e w2 ⟨rfl, hb2⟩
  have HB2 := Aside0.mk hb2
  clear hb2
  have hL2 : Box w2 w.heap.size h := HX.out.below HB2.out
  have hG2 := HG.out.next HB2.out
  obtain ⟨W2, hW2⟩ : ∃ W2, W2 = (w2.alloc (.cells (madeCells #[.int .u8 0] 512) 5)).alloc (.cells #[.slice (some ⟨w2.heap.size, 0, none⟩) 512 512] 26) := ⟨_, rfl⟩
  have hbb : Below w2.heap.size w2 W2 := by rw [hW2]; exact below_alloc (below_alloc (Below.refl _ _) _) _
  have hr0 : Row0 W2 w2.heap.size nought := by
    rw [hW2]
    exact (Row0.made w2 512).below (below_alloc (Below.refl _ _) _)
  have hv0 : VarB W2 (w2.heap.size + 1) w2.heap.size := by
    rw [hW2]
    have := alloc_self (w2.alloc (.cells (madeCells #[.int .u8 0] 512) 5)) (.cells #[.slice (some ⟨w2.heap.size, 0, none⟩) 512 512] 26)
    rw [show (w2.alloc (.cells (madeCells #[.int .u8 0] 512) 5)).heap.size = w2.heap.size + 1 by simp] at this
    exact ⟨this⟩
  have hlow : 14 ≤ w2.heap.size := hG2.low
  have HT := Aside0.mk (try_put W2 w.heap.size (w2.heap.size + 1) w2.heap.size h (hG2.next hbb) (hL2.below hbb) hv0 hr0 HE.out.2 HE.out.1 hlow)
  have HV : Aside0 (∀ w', W2.grownBy w' (some w2.heap.size) → VarB w' (w2.heap.size + 1) w2.heap.size ∧ Box w' w.heap.size h ∧ Gl w' ∧ w2.heap.size + 1 < w'.heap.size ∧ Below w.heap.size w w') := ⟨fun w' k => by
    refine ⟨⟨blk_grown hv0.out k (by simp)⟩, (hL2.below hbb).grown k (by have := blk_lt HX.out.out; have := HB2.out.size; simp; omega), ?_, ?_, ?_⟩
    · have hGG := hG2.next hbb
      exact ⟨fun g hg => by
        have := k.block g (by have := hGG.low; omega) (by simp; omega)
        rw [World.cell?, this]; exact hGG.at_ g hg, fun g hg => by
        have := k.block g (by have := hGG.low; omega) (by simp; omega)
        rw [World.cell?, this]; exact hGG.size g hg, Nat.le_trans hGG.low k.size⟩
    · have := k.size
      rw [hW2] at this
      simp at this
      omega
    · have hbw2 := HB.out.trans (HB2.out.mono HB.out.size)
      have hle : w.heap.size ≤ w2.heap.size := hbw2.size
      exact below_grown (hbw2.trans (hbb.mono hle)) k (Nat.le_trans hle hbb.size) hle⟩
  have HLw : Aside0 (w.heap.size ≤ w2.heap.size) := ⟨(HB.out.trans (HB2.out.mono HB.out.size)).size⟩
  have HW2 := Aside0.mk hW2
  have HLow : Aside0 (14 ≤ w.heap.size) := ⟨HLo.out⟩
  have HHead : Aside0 (headB h = patch ((body h).set 155 32) 148 (putB 7 (sumH (body h)))) := ⟨rfl⟩
  clear hL2 hG2 hW2 hbb hr0 hv0 hlow HB2 HB HX HG HC HW
  go_wp2_with fail
  rw [← HW2.out]
  refine HT.out.mono ?_
  rintro e w3 ⟨rfl, hR3, hg3⟩
  obtain ⟨hv3, hx3, hG3, hs3, hb3⟩ := HV.out w3 hg3
  clear HW2 HT HV hmk
  have HE3 := Aside0.mk (And.intro hv3 (And.intro hx3 (And.intro hG3 hb3)))
  have hlT := putN_len h _ (putT_len h (fun i => (text_ok h HE.out.2 HE.out.1 i).1) nought (by simp [nought]) 6) 7
  have HBody : Aside0 (body h = (((putN h 7 (putT h 6 nought)).set 156 h.ki).set 263 48).set 264 48) := ⟨rfl⟩
  have HBl := Aside0.mk (And.intro (body_len h HE.out.2 HE.out.1) (body_byte h HE.out.2))
  have v0 : w3.cell? ⟨w2.heap.size + 1, 0, none⟩ = some (.slice (some ⟨w2.heap.size, 0, none⟩) 512 512) := by rw [blk_cell hv3.out]; rfl
  have x6 : w3.cell? ⟨w.heap.size, 6, none⟩ = some (.int .u8 h.ki) := by rw [blk_cell hx3.out]; rfl
  generalize putN h 7 (putT h 6 nought) = lT at *
  have d0 := hR3.cell 156 (by omega)
  have d1 := hR3.frozen 156 (by omega)
  have HR3 := Aside0.mk hR3
  clear hv3 hx3 hG3 hb3 hR3 hg3 hs3
  go_upto_region 9 with fail
  have hg3 := grown_set w3 w2.heap.size 156 (.int .u8 h.ki)
  have hr4 := HR3.out.set 156 h.ki
  have v0' : (w3.setCell ⟨w2.heap.size, 156, none⟩ (.int .u8 h.ki)).cell? ⟨w2.heap.size + 1, 0, none⟩ = some (.slice (some ⟨w2.heap.size, 0, none⟩) 512 512) := by
    rw [blk_cell (blk_grown HE3.out.1.out hg3 (by simp))]; rfl
  generalize w3.setCell ⟨w2.heap.size, 156, none⟩ (.int .u8 h.ki) = W3 at *
  have hl4 : (lT.set 156 h.ki).length = 512 := by rw [List.length_set, hlT]
  generalize lT.set 156 h.ki = l4 at *
  have c1 := hr4.cell 263 (by omega)
  have f1 := hr4.frozen 263 (by omega)
  have c2 := hr4.cell 264 (by omega)
  have f2 := hr4.frozen 264 (by omega)
  have HR4 := Aside0.mk hr4
  have HG3 := Aside0.mk hg3
  clear hr4 hg3 v0 x6 d0 d1
  go_region
  have hr5 := ((HR4.out.set 263 48).set 264 48).drew
  have hg5 := grown_drew (grown_trans HG3.out (grown_trans (grown_set W3 w2.heap.size 263 (.int .u8 48)) (grown_set _ w2.heap.size 264 (.int .u8 48))))
  rw [← HBody.out] at hr5
  change Exit.then _ _ _ _ ((W3.setCell ⟨w2.heap.size, 263, none⟩ (.int .u8 48)).setCell ⟨w2.heap.size, 264, none⟩ (.int .u8 48)).drew
  have hlow : 14 ≤ w2.heap.size := Nat.le_trans HLow.out HLw.out
  have hG5 : ∀ w', w3.grownBy w' (some w2.heap.size) → Gl w' := fun w' k => by
    have hGG := HE3.out.2.2.1
    exact ⟨fun g hg => by
      have := k.block g (by have := hGG.low; omega) (by simp; omega)
      rw [World.cell?, this]; exact hGG.at_ g hg, fun g hg => by
      have := k.block g (by have := hGG.low; omega) (by simp; omega)
      rw [World.cell?, this]; exact hGG.size g hg, Nat.le_trans hGG.low k.size⟩
  have HV5 : Aside0 (∀ w', w3.grownBy w' (some w2.heap.size) → w'.cell? ⟨w2.heap.size + 1, 0, none⟩ = some (.slice (some ⟨w2.heap.size, 0, none⟩) 512 512) ∧ Gl w' ∧ Below w.heap.size w w') := ⟨fun w' k => by
    refine ⟨?_, hG5 w' k, below_grown HE3.out.2.2.2 k HE3.out.2.2.2.size HLw.out⟩
    rw [blk_cell (blk_grown HE3.out.1.out k (by simp))]; rfl⟩
  generalize ((W3.setCell ⟨w2.heap.size, 263, none⟩ (.int .u8 48)).setCell ⟨w2.heap.size, 264, none⟩ (.int .u8 48)).drew = W5 at *
  clear hG5 c1 c2 f1 f2 v0' hlow HBody HR4 HG3 HR3
  have HLb := HBl.out
  generalize body h = lb at *
  have hfl : fld lb 0 512 = lb := by
    unfold fld
    rw [List.drop_zero, List.take_of_length_le (by omega)]
  have hF5 := row_fld hr5 HLb.2 0 512 512 (by omega) (by omega) (by omega)
  rw [hfl] at hF5
  obtain ⟨v5, hG5, hb5⟩ := HV5.out W5 hg5
  have HS5 := Aside0.mk (sum_calls W5 hG5 _ 512 512 lb hF5 (by omega))
  rw [show errV none = .nilIface from rfl] at HS5
  have p0 : W5.cell? ⟨6, 0, none⟩ = some (.int .i64 148) := hG5.at_ 6 (by omega)
  have p1 : W5.cell? ⟨6, 1, none⟩ = some (.int .i64 8) := hG5.size 6 (by omega)
  have HR5 := Aside0.mk (And.intro hr5 hg5)
  have hsb := sumTo_bd HLb.2 512
  have HSb := Aside0.mk hsb
  have HHd : Aside0 (headB h = patch (lb.set 155 32) 148 (putB 7 (sumH lb))) := ⟨HHead.out⟩
  clear hF5 hfl hr5 hg5 hG5 hb5 hsb HHead
  generalize w2.heap.size = gB at *
  have HOf := Aside0.mk (of_row gB 148 8 (by omega) (by omega) W5)
  go_upto_region 14 with (first
    | (go_at_call 18; refine HS5.out.mono ?_; rintro e w' ⟨rfl, rfl⟩)
    | (go_at_call 27; refine HOf.out.mono ?_; rintro e w' ⟨rfl, rfl⟩))
  have hbx : Below W5.heap.size W5 (W5.alloc (.cells #[.int .i64 148, .int .i64 8] 55)) := below_alloc (Below.refl _ _) _
  have hr6 := HR5.out.1.below hbx
  have hg6 := grown_trans HR5.out.2 (grown_below hbx (some gB))
  generalize W5.alloc (.cells #[.int .i64 148, .int .i64 8] 55) = W6 at *
  have q0 : W6.cell? ⟨6, 1, none⟩ = some (.int .i64 8) := (HV5.out W6 hg6).2.1.size 6 (by omega)
  have c0 := hr6.cell 155 (by omega)
  have f0 := hr6.frozen 155 (by omega)
  have HR6 := Aside0.mk (And.intro hr6 hg6)
  clear hr6 hg6 hbx v5 p0 p1 HS5 HOf HR5
  go_upto_region 15 with fail
  have hr7 := HR6.out.1.set 155 32
  have hg7 := grown_trans HR6.out.2 (grown_set W6 gB 155 (.int .u8 32))
  generalize W6.setCell ⟨gB, 155, none⟩ (.int .u8 32) = W7 at *
  have hlen : (lb.set 155 32).length = 512 := by rw [List.length_set]; exact HLb.1
  have hsf := sum_fit (sumH lb) HSb.out.1 (by have := HSb.out.2; unfold sumH; omega)
  have hsb : -9223372036854775808 ≤ sumH lb ∧ sumH lb ≤ 9223372036854775807 := by have := HSb.out; unfold sumH; omega
  have HPt : Aside0 (∀ w', QR w3 gB (lb.set 155 32) w' → Calls Tryd.prog 29 #[.slice (some ⟨gB, 148, none⟩) 7 364, .int .i64 (sumH lb)] w' fun e w' => e = .returned (errV none) ∧ QR w3 gB (headB h) w') := ⟨fun w' q => by
    rw [HHd.out]
    exact q.put 148 7 364 (sumH lb) hsf (by omega) (by omega) (by rw [hlen]; omega) hsb⟩
  have HSK : Aside0 (∀ l w', QR w3 gB l w' → w'.cell? ⟨gB + 1, 0, none⟩ = some (.slice (some ⟨gB, 0, none⟩) 512 512) ∧ w'.cell? ⟨6, 1, none⟩ = some (.int .i64 8)) := ⟨fun l w' q =>
    ⟨(HV5.out w' q.gr).1, (HV5.out w' q.gr).2.1.size 6 (by omega)⟩⟩
  have hQ : QR w3 gB (lb.set 155 32) W7.drew := ⟨hr7.drew, grown_drew hg7⟩
  clear hr7 hg7 hlen hsf hsb q0 c0 f0 HR6 HSb
  generalize sumH lb = sm at *
  generalize lb.set 155 32 = l7 at *
  have kw : IntKind.i64.wrap 7 = 7 := by decide
  go_region_held3 (fun w' => w'.cell? ⟨gB + 1, 0, none⟩ = some (.slice (some ⟨gB, 0, none⟩) 512 512) ∧ w'.cell? ⟨6, 1, none⟩ = some (.int .i64 8)) (exact HSK.out _ _ (by assumption))
    (first
      | (go_at_call 29; refine (HPt.out _ (by assumption)).mono ?_; rintro e w8 ⟨rfl, q8⟩))
  rename_i hh
  have HQ8 := Aside0.mk (And.intro q8.row (HV5.out w8 q8.gr).2.2)
  clear hh HPt HSK hQ q8 kw
  go_wp2_with fail
  go_ret2
  exact ⟨gB, rfl, HQ8.out.1, HLw.out, HQ8.out.2⟩
end Go.Proofs.YtiioiikcjaiajaaDoor.My

/- How a law's arguments come in: a slice of numbers as the words of the print have it. No program in sight. -/
namespace Go.Proofs.YtiioiikcjaiajaaDoor.My
open Go.RowKit Go.Proofs.YtiioiikcjaiajaaDoorW.PrintWords

def IsRow (k : IntKind) (w : World) (a : Option Addr) (len cap : Nat) (zs : List Int) : Prop :=
  (a = none ∧ len = 0 ∧ cap = 0 ∧ zs = []) ∨
  ∃ x, a = some x ∧ len ≤ cap ∧ cap ≤ maxLen ∧ zs.length = cap ∧ (∀ i, i < zs.length → w.cell? (x.add i) = some (.int k (zs.getD i 0))) ∧ ∀ n ∈ zs, (Lit.int k n).wf = true

theorem row_C {k : IntKind} {w : World} {a : Option Addr} {len cap : Nat} {zs : List Int} (h : IsRow k w a len cap zs) :
    ∃ l : List Int, l.length = len ∧ len ≤ cap ∧ (Kd.int k).C w a l.length l ∧ ∀ n ∈ l, (Lit.int k n).wf = true := by
  rcases h with ⟨rfl, rfl, rfl, rfl⟩ | ⟨x, rfl, h1, h2, h3, h4, h5⟩
  · exact ⟨[], rfl, Nat.le_refl _, Kd.C_nil _ _, fun n hn => by simp at hn⟩
  · have hl : (zs.take len).length = len := by rw [List.length_take]; omega
    refine ⟨zs.take len, hl, h1, Kd.C_of_reads (d := 0) ⟨rfl, by unfold maxLen at h2; omega, fun hn => ⟨x, rfl, fun j hj => ?_⟩⟩, fun n hn => h5 n (List.mem_of_mem_take hn)⟩
    have hj' : j < len := by omega
    rw [h4 j (by omega)]
    simp [List.getD_eq_getElem?_getD, hj']
theorem strs_C {w : World} {x : Addr} {len cap : Nat} {ss : List ByteArray} (hl : len ≤ cap) (hm : cap ≤ maxLen) (hz : ss.length = cap)
    (hc : ∀ i, i < ss.length → w.cell? (x.add i) = some (.string (ss.getD i ByteArray.empty))) : ∃ l : List ByteArray, l.length = len ∧ len ≤ cap ∧ Kd.string.C w (some x) l.length l := by
  have h : (ss.take len).length = len := by rw [List.length_take]; omega
  refine ⟨ss.take len, h, hl, Kd.C_of_reads (d := ByteArray.empty) ⟨rfl, by unfold maxLen at hm; omega, fun hn => ⟨x, rfl, fun j hj => ?_⟩⟩⟩
  have hj' : j < len := by omega
  rw [hc j (by omega)]
  simp [List.getD_eq_getElem?_getD, hj']
end Go.Proofs.YtiioiikcjaiajaaDoor.My
