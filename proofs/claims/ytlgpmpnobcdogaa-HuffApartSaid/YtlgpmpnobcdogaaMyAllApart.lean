/- MyDocC, MyDocD, MyNumE, MyHuffA, MyGrow, MyConcat, MyRepeat, MyFixed, MyInts, MyTakeHP, MyShort, MyWriter, MyBitsP, MyPut, MyWput, MyClone, MyPeek, MyReader, MyNewR, MyRevP, MyTakeW, MyWtext, MyRev, MyCode, MyPutW, MyNum, MyW6, MyNone, MyApartL: laid into one text by merge.py. -/
import Derived.Test.YtlgpmpnobcdogaaPHuffCodesx2
import Derived.Test.YtlgpmpnobcdogaaMyAllDoc
import Derived.Test.YtlgpmpnobcdogaaMyAllA
import Derived.Lib.RabinKarpLaws
import Derived.Lib.AppendZerosOnto
import Derived.Lib.SliceRun
import Derived.Lib.Walk
import Derived.RegionTactic
import Derived.Laws.CopyOwn
import Derived.Deep.RegionLaw
import Derived.Laws.Rows
import Derived.BigQuiet
import Derived.Laws.Bits64
import Derived.Test.YtlgpmpnobcdogaaMyLen32

/- The document's codes, plainly: its rows of bits, and what it answers to which lengths. -/
namespace Go.Proofs.Ytlgpmpnobcdogaa.My
open Go.RowKit Go.Proofs.Ytlgpmpnobcdogaa.Huf Go.Proofs.Ytlgpmpnobcdogaa.PHuffCodes Go.Proofs.Ytlgpmpnobcdogaa.MyDocCodes Go.Proofs.YtlgpmpnobcdogaaW.PrintWords Go.Proofs.YtlgpmpnobcdogaaW.PrintLast Go.Proofs.YtlgpmpnobcdogaaW.PrintMore
set_option linter.unusedVariables false
set_option linter.unusedSimpArgs false

theorem wn (x : Int) (h0 : -9223372036854775808 ≤ x) (h : x ≤ 9223372036854775807) : wrap64 x = x := by unfold wrap64; omega
theorem un (x : Int) (h0 : 0 ≤ x) (h : x ≤ 18446744073709551615) : IntKind.u64.wrap x = x := IntWalk.u64_in x ⟨h0, h⟩
/-- A bit as a digit. -/
def bitc (x i : Nat) : ByteArray := if x / 2 ^ i % 2 = 1 then ⟨#[49]⟩ else ⟨#[48]⟩
theorem bitc_size (x i : Nat) : (bitc x i).size = 1 := by unfold bitc; split <;> rfl
/-- So many bits, behind a text. -/
def rowF (x : Nat) : Nat → ByteArray → ByteArray
  | 0, acc => acc
  | j + 1, acc => rowF x j (acc ++ bitc x j)
theorem shr_nat (x j : Nat) (h : j ≤ 60) : shr .i64 (x : Int) (IntKind.u64.wrap (j : Int)) = ((x / 2 ^ j : Nat) : Int) := by
  rw [un (j : Int) (by omega) (by omega)]
  show (x : Int) / 2 ^ min (j : Int).toNat 64 = _
  rw [Nat.min_eq_left (by omega)]
  simp
theorem size_app (a b : ByteArray) : (a ++ b).size = a.size + b.size := ByteArray.size_append
theorem rowD_run (x : Nat) : ∀ (j k : Nat) (acc : ByteArray), j ≤ 60 → acc.size + j ≤ 1000 → crossdockref07_row.l0 (k + j + 1) x acc ((j : Int) - 1) = some (rowF x j acc)
  | 0, k, acc, _, _ => by
    simp only [crossdockref07_row.l0, rowF]
    rw [if_neg (by omega)]
  | j + 1, k, acc, hj, hs => by
    rw [show k + (j + 1) + 1 = (k + j + 1) + 1 from rfl]
    simp only [crossdockref07_row.l0, rowF]
    rw [if_pos (by omega), show (((j + 1 : Nat) : Int) - 1) = (j : Int) from by omega, if_pos (by rw [un (j : Int) (by omega) (by omega)]; omega), shr_nat x j (by omega)]
    rw [wn ((j : Int) - 1) (by omega) (by omega)]
    have ih := rowD_run x j k (acc ++ bitc x j) (by omega) (by rw [size_app, bitc_size]; omega)
    unfold bitc at ih ⊢
    have ht : Int.tmod ((x / 2 ^ j : Nat) : Int) 2 = ((x / 2 ^ j % 2 : Nat) : Int) := by rw [Int.tmod_eq_emod_of_nonneg (Int.natCast_nonneg _)]; exact (Int.natCast_emod _ _).symm
    rw [ht]
    generalize x / 2 ^ j % 2 = q at *
    by_cases hb : q = 1
    · rw [if_pos hb] at ih ⊢
      rw [if_pos (by omega), if_pos (by omega)]
      exact ih
    · rw [if_neg hb] at ih ⊢
      rw [if_neg (by omega), if_pos (by omega)]
      exact ih
theorem rowD (x n k : Nat) (h : n ≤ 60) : crossdockref07_row.f (k + n + 1) x n = some (rowF x n ⟨#[]⟩) := by
  unfold crossdockref07_row.f
  rw [wn _ (by omega) (by omega)]
  exact rowD_run x n k _ h (by show 0 + n ≤ 1000; omega)
theorem digit (x j : Nat) (hx : x < 9223372036854775808) : strOfNums [wrap64 (48 + Go.bits .and .i64 ((x / 2 ^ j : Nat) : Int) 1) % 256] = bitc x j := by
  have h1 : x / 2 ^ j < 9223372036854775808 := Nat.lt_of_le_of_lt (Nat.div_le_self _ _) hx
  rw [Go.Proofs.and_one _ h1]
  unfold bitc
  have h2 : x / 2 ^ j % 2 < 2 := Nat.mod_lt _ (by decide)
  by_cases hb : x / 2 ^ j % 2 = 1
  · rw [if_pos hb, hb]; decide +kernel
  · rw [if_neg hb, show x / 2 ^ j % 2 = 0 by omega]; decide +kernel
theorem rowL_run (x : Nat) (hx : x < 9223372036854775808) : ∀ (j k : Nat) (acc : ByteArray), j ≤ 60 → acc.size + j ≤ 1000 → crossdocklaw07_row.l0 (k + j + 1) x acc ((j : Int) - 1) = some (rowF x j acc)
  | 0, k, acc, _, _ => by
    simp only [crossdocklaw07_row.l0, rowF]
    rw [if_neg (by omega)]
  | j + 1, k, acc, hj, hs => by
    rw [show k + (j + 1) + 1 = (k + j + 1) + 1 from rfl]
    simp only [crossdocklaw07_row.l0, rowF]
    rw [if_pos (by omega), show (((j + 1 : Nat) : Int) - 1) = (j : Int) from by omega, if_pos (by rw [un (j : Int) (by omega) (by omega)]; omega), shr_nat x j (by omega)]
    rw [wn ((j : Int) - 1) (by omega) (by omega)]
    rw [Option.bind_some, digit x j hx, if_pos (by rw [bitc_size]; omega)]
    exact rowL_run x hx j k (acc ++ bitc x j) (by omega) (by rw [size_app, bitc_size]; omega)
theorem rowL (x n k : Nat) (hx : x < 9223372036854775808) (h : n ≤ 60) : crossdocklaw07_row.f (k + n + 1) x n = some (rowF x n ⟨#[]⟩) := by
  unfold crossdocklaw07_row.f
  rw [wn _ (by omega) (by omega)]
  exact rowL_run x hx n k _ h (by show 0 + n ≤ 1000; omega)
end Go.Proofs.Ytlgpmpnobcdogaa.My

/- The document's Codes answers what New does. -/
namespace Go.Proofs.Ytlgpmpnobcdogaa.My
open Go.RowKit Go.Proofs.Ytlgpmpnobcdogaa.Huf Go.Proofs.Ytlgpmpnobcdogaa.PHuffCodes Go.Proofs.Ytlgpmpnobcdogaa.MyDocCodes Go.Proofs.YtlgpmpnobcdogaaW.PrintWords Go.Proofs.YtlgpmpnobcdogaaW.PrintLast Go.Proofs.YtlgpmpnobcdogaaW.PrintMore
set_option linter.unusedVariables false
set_option linter.unusedSimpArgs false

def rowOf (L : List Int) (u : Nat) : ByteArray := rowF (code L u) (L.getD u 0).toNat ⟨#[]⟩
/-- All codes as rows of bits. -/
def wantL (L : List Int) : List ByteArray := (List.range L.length).map (rowOf L)
/-- Those that are laid so far: all of lengths below n, and of length n those ahead of t. -/
def outL (L : List Int) (n t : Nat) : List ByteArray := (List.range L.length).map fun u => if L.getD u 0 ≠ 0 ∧ (L.getD u 0 < (n : Int) ∨ L.getD u 0 = (n : Int) ∧ u < t) then rowOf L u else ⟨#[]⟩
theorem outL_len (L : List Int) (n t : Nat) : (outL L n t).length = L.length := by simp [outL]
theorem map_range_congr {α : Type} (n : Nat) (f g : Nat → α) (h : ∀ u, u < n → f u = g u) : (List.range n).map f = (List.range n).map g := by
  apply List.map_congr_left
  intro u hu
  exact h u (List.mem_range.1 hu)
theorem outL_skip (L : List Int) (n s : Nat) (h : L.getD s 0 ≠ (n : Int)) : outL L n (s + 1) = outL L n s := map_range_congr _ _ _ fun u hu => by
  have : (L.getD u 0 ≠ 0 ∧ (L.getD u 0 < (n : Int) ∨ L.getD u 0 = (n : Int) ∧ u < s + 1)) ↔ (L.getD u 0 ≠ 0 ∧ (L.getD u 0 < (n : Int) ∨ L.getD u 0 = (n : Int) ∧ u < s)) := by
    by_cases e : u = s
    · subst e
      exact ⟨fun ⟨a, b⟩ => ⟨a, b.elim .inl fun c => absurd c.1 h⟩, fun ⟨a, b⟩ => ⟨a, b.elim .inl fun c => absurd c.1 h⟩⟩
    · exact ⟨fun ⟨a, b⟩ => ⟨a, b.elim .inl fun c => .inr ⟨c.1, by omega⟩⟩, fun ⟨a, b⟩ => ⟨a, b.elim .inl fun c => .inr ⟨c.1, by omega⟩⟩⟩
  simp only [this]
theorem outL_set (L : List Int) (n s : Nat) (hn : n ≠ 0) (h : L.getD s 0 = (n : Int)) : (outL L n s).set s (rowOf L s) = outL L n (s + 1) := by
  apply List.ext_getElem
  · simp [outL]
  · intro u a b
    rw [List.getElem_set]
    simp only [outL, List.getElem_map, List.getElem_range]
    split
    · next e =>
      subst e
      rw [if_pos ⟨by rw [h]; omega, .inr ⟨h, by omega⟩⟩]
    · next e =>
      have : (L.getD u 0 ≠ 0 ∧ (L.getD u 0 < (n : Int) ∨ L.getD u 0 = (n : Int) ∧ u < s + 1)) ↔ (L.getD u 0 ≠ 0 ∧ (L.getD u 0 < (n : Int) ∨ L.getD u 0 = (n : Int) ∧ u < s)) :=
        ⟨fun ⟨a, b⟩ => ⟨a, b.elim .inl fun c => .inr ⟨c.1, by omega⟩⟩, fun ⟨a, b⟩ => ⟨a, b.elim .inl fun c => .inr ⟨c.1, by omega⟩⟩⟩
      simp only [this]
theorem outL_next (L : List Int) (n : Nat) : outL L n L.length = outL L (n + 1) 0 := map_range_congr _ _ _ fun u hu => by
  have : (L.getD u 0 ≠ 0 ∧ (L.getD u 0 < (n : Int) ∨ L.getD u 0 = (n : Int) ∧ u < L.length)) ↔ (L.getD u 0 ≠ 0 ∧ (L.getD u 0 < ((n + 1 : Nat) : Int) ∨ L.getD u 0 = ((n + 1 : Nat) : Int) ∧ u < 0)) :=
    ⟨fun ⟨a, b⟩ => ⟨a, b.elim (fun c => .inl (by omega)) fun c => .inl (by omega)⟩, fun ⟨a, b⟩ => ⟨a, b.elim (fun c => by by_cases e : L.getD u 0 = (n : Int); exact .inr ⟨e, hu⟩; exact .inl (by omega)) fun c => by omega⟩⟩
  simp only [this]
theorem getD_ok (L : List Int) (hok : okL L = true) (u : Nat) (hu : u < L.length) : 0 ≤ L.getD u 0 ∧ L.getD u 0 ≤ 15 := by
  have hmem : L.getD u 0 ∈ L := by rw [List.getD_eq_getElem?_getD, List.getElem?_eq_getElem hu]; exact List.getElem_mem _
  have := List.all_eq_true.1 hok _ hmem
  simpa using this
theorem outL_all (L : List Int) (hok : okL L = true) : outL L 16 0 = wantL L := map_range_congr _ _ _ fun u hu => by
  have h := getD_ok L hok u hu
  by_cases e : L.getD u 0 = 0
  · rw [if_neg (fun c => c.1 e)]
    unfold rowOf
    rw [e]
    rfl
  · rw [if_pos ⟨e, .inl (by omega)⟩]
theorem outL_none (L : List Int) (hok : okL L = true) : List.replicate L.length (⟨#[]⟩ : ByteArray) = outL L 1 0 := by
  apply List.ext_getElem
  · simp [outL]
  · intro u a b
    have hu : u < L.length := by simpa using a
    have h := getD_ok L hok u hu
    simp only [outL, List.getElem_replicate, List.getElem_map, List.getElem_range]
    rw [if_neg (fun c => by rcases c.2 with d | d <;> omega)]
theorem shl_one (n : Nat) (h : n ≤ 40) : shl .i64 1 (IntKind.u64.wrap (n : Int)) = ((2 ^ n : Nat) : Int) := by
  rw [un (n : Int) (by omega) (by omega)]
  have h1 : 2 ^ n ≤ 2 ^ 40 := Nat.pow_le_pow_right (by decide) h
  show IntKind.i64.wrap (1 * 2 ^ min (n : Int).toNat 64) = _
  rw [Nat.min_eq_left (by omega), Int.toNat_natCast, Int.one_mul, show ((2 : Int) ^ n) = ((2 ^ n : Nat) : Int) by push_cast; rfl, IntKind.wrap_i64]
  generalize 2 ^ n = q at *
  omega
def onesF (L : List Int) (n s : Nat) : Nat := if n = 1 then cn (L.take s) 1 else cn L 1
theorem step_mul (a b q : Nat) : (a + (b + 1)) * q = (a + b) * q + q := by rw [← Nat.add_assoc]; exact Nat.succ_mul _ _
theorem wr2 (a b n : Nat) (h15 : n ≤ 15) (hle : a + b ≤ 2 ^ n) : wrap64 ((((a + b) * 2 ^ (15 - n) : Nat) : Int) + ((2 ^ (15 - n) : Nat) : Int)) = (((a + (b + 1)) * 2 ^ (15 - n) : Nat) : Int) := by
  have hu : 2 ^ n * 2 ^ (15 - n) = 2 ^ 15 := by rw [← Nat.pow_add]; congr 1; omega
  have hu2 : (a + b) * 2 ^ (15 - n) ≤ 2 ^ 15 := by rw [← hu]; exact Nat.mul_le_mul_right _ hle
  have hu3 : 2 ^ (15 - n) ≤ 2 ^ 15 := Nat.pow_le_pow_right (by decide) (by omega)
  rw [step_mul]
  clear hu hle
  generalize (a + b) * 2 ^ (15 - n) = q1 at *
  generalize 2 ^ (15 - n) = q2 at *
  have h1 : q1 ≤ 32768 := hu2
  have h2 : q2 ≤ 32768 := hu3
  clear hu2 hu3
  rw [wn _ (by omega) (by omega)]
  omega
theorem wr1 (x : Nat) (h : x ≤ 1000000) : wrap64 ((x : Int) + 1) = ((x + 1 : Nat) : Int) := by rw [wn _ (by omega) (by omega)]; omega
theorem beg_le2 (L : List Int) (hl : L.length ≤ 320) (n s : Nat) (h15 : n ≤ 15) : beg L n + cn (L.take s) n ≤ 1000000 := by
  have h4 := beg_le L n
  have h5 := cn_take_le L s n
  have h6 := cn_le L n
  have h7 : n * L.length ≤ 15 * 320 := Nat.mul_le_mul h15 hl
  omega
theorem ones_le (L : List Int) (hl : L.length ≤ 320) (n s : Nat) : onesF L n s ≤ 1000000 := by
  unfold onesF
  split
  · have := cn_take_le L s 1; have := cn_le L 1; omega
  · have := cn_le L 1; omega
theorem pow15 (n x : Nat) (h15 : n ≤ 15) (h : x ≤ 2 ^ n) : x ≤ 1000000 := by
  have h1 : 2 ^ n ≤ 2 ^ 15 := Nat.pow_le_pow_right (by decide) h15
  exact Nat.le_trans h (Nat.le_trans h1 (by decide))
theorem l2_run (L : List Int) (lone : Bool) (hl : L.length ≤ 320) (n : Nat) (h1 : 1 ≤ n) (h15 : n ≤ 15) (k : Nat) (hk : 17 ≤ k) : ∀ d s, s + d = L.length → fst L n + cn (L.take s) n ≤ 2 ^ n →
    crossdockref07_Codes.l2 (k + 1 + d) L lone (outL L n s) ((fst L n + cn (L.take s) n : Nat) : Int) (((fst L n + cn (L.take s) n) * 2 ^ (15 - n) : Nat) : Int) ((beg L n + cn (L.take s) n : Nat) : Int) ((onesF L n s : Nat) : Int) (n : Int) (s : Int) =
      if over L n then some ([], 14) else crossdockref07_Codes.l1 k L lone (outL L n L.length) ((fst L n + cn L n : Nat) : Int) (((fst L n + cn L n) * 2 ^ (15 - n) : Nat) : Int) ((beg L n + cn L n : Nat) : Int) ((onesF L n L.length : Nat) : Int) ((n + 1 : Nat) : Int)
  | 0, s, hs, hle => by
    have : s = L.length := by omega
    subst this
    rw [List.take_length] at hle ⊢
    rw [Nat.add_zero, show k + 1 = Nat.succ k from rfl]
    simp only [crossdockref07_Codes.l2]
    rw [if_neg (by omega), wn _ (by omega) (by omega), if_neg (show ¬ over L n = true by unfold over; simpa using hle)]
    rfl
  | d + 1, s, hs, hle => by
    have hlt : s < L.length := by omega
    have hx := getD_some L s hlt
    have ih := l2_run L lone hl n h1 h15 k hk d (s + 1) (by omega)
    rw [show k + 1 + (d + 1) = Nat.succ (k + 1 + d) from rfl]
    simp only [crossdockref07_Codes.l2]
    rw [if_pos (by omega), if_pos (by omega), show rd L (s : Int) = L.getD s 0 from by unfold rd; rw [Int.toNat_natCast]]
    rw [cn_take L s n _ hx] at ih
    have hs1 : wrap64 ((s : Int) + 1) = ((s + 1 : Nat) : Int) := by rw [wn _ (by omega) (by omega)]; omega
    by_cases e : L.getD s 0 = (n : Int)
    · rw [if_pos e, if_pos (by rw [un _ (by omega) (by omega)]; omega), shl_one n (by omega)]
      rw [if_pos e] at ih
      have hcl := cn_take_le L (s + 1) n
      rw [cn_take L s n _ hx, if_pos e] at hcl
      by_cases hov : fst L n + cn (L.take s) n = 2 ^ n
      · rw [if_pos (by omega), if_pos (show over L n = true by unfold over; exact decide_eq_true (by omega))]
      · rw [if_neg (by omega), show k + 1 + d = (k + d - n) + n + 1 by omega, rowD _ n _ (by omega), Option.bind_some, if_pos (by rw [outL_len]; omega), Option.bind_some]
        have hcode : rowF (fst L n + cn (L.take s) n) n ⟨#[]⟩ = rowOf L s := by
          unfold rowOf code
          rw [e]
          simp only [Int.toNat_natCast]
          rw [if_neg (by omega)]
        rw [hcode, Int.toNat_natCast, outL_set L n s (by omega) e]
        have h15n : wrap64 (15 - (n : Int)) = ((15 - n : Nat) : Int) := by rw [wn _ (by omega) (by omega)]; omega
        rw [h15n, if_pos (by rw [un _ (by omega) (by omega)]; omega), shl_one (15 - n) (by omega)]
        have w1 : wrap64 (((fst L n + cn (L.take s) n : Nat) : Int) + 1) = ((fst L n + (cn (L.take s) n + 1) : Nat) : Int) := wr1 _ (pow15 n _ h15 hle)
        have w2 := wr2 (fst L n) (cn (L.take s) n) n h15 hle
        have w3 : wrap64 (((beg L n + cn (L.take s) n : Nat) : Int) + 1) = ((beg L n + (cn (L.take s) n + 1) : Nat) : Int) := wr1 _ (beg_le2 L hl n s h15)
        have w4 : wrap64 (((onesF L n s : Nat) : Int) + 1) = ((onesF L n s + 1 : Nat) : Int) := wr1 _ (ones_le L hl n s)
        have hle1 : fst L n + (cn (L.take s) n + 1) ≤ 2 ^ n := Nat.succ_le_of_lt (Nat.lt_of_le_of_ne hle hov)
        have hkk : k + d - n + n + 1 = k + 1 + d := by clear w1 w2 w3 w4 ih hle hov hle1; omega
        have hn1i : n = 1 → ((n : Int) = 1) := fun e => by rw [e]; rfl
        have hn1j : n ≠ 1 → ¬ ((n : Int) = 1) := fun e e2 => e (by clear w1 w2 w3 w4 ih hle hov hle1; omega)
        replace ih := ih hle1
        rw [hkk, w1, w2, w3, w4, hs1]
        by_cases hn1 : n = 1
        · rw [if_pos (hn1i hn1), ← ih]
          have : onesF L n (s + 1) = onesF L n s + 1 := by
            unfold onesF
            subst hn1
            rw [if_pos rfl, if_pos rfl, cn_take L s 1 _ hx, if_pos e]
          rw [this]
        · rw [if_neg (hn1j hn1), ← ih]
          have : onesF L n (s + 1) = onesF L n s := by unfold onesF; rw [if_neg hn1, if_neg hn1]
          rw [this]
    · rw [if_neg e, hs1]
      rw [if_neg e, Nat.add_zero, outL_skip L n s e] at ih
      rw [← ih hle]
      have : onesF L n (s + 1) = onesF L n s := by
        unfold onesF
        split
        · next hn1 => subst hn1; rw [cn_take L s 1 _ hx, if_neg e]; rfl
        · rfl
      rw [this]
/-- How many codes there are up to a length, of that length. -/
def pre (L : List Int) (n : Nat) : Nat := fst L (n - 1) + c0 L (n - 1)
def doneR (L : List Int) (lone : Bool) (b : Bool) : List ByteArray × Int :=
  if b = true then ([], 14) else if fst L 15 + cn L 15 = 32768 then (wantL L, 0) else if lone = true ∧ aloneL L = true then (wantL L, 0) else ([], 2)
theorem pre_succ (L : List Int) (n : Nat) (h1 : 1 ≤ n) : pre L (n + 1) = fst L n + cn L n := by
  unfold pre
  rw [Nat.add_sub_cancel]
  unfold c0
  rw [if_neg (by omega)]
theorem fst_pre (L : List Int) (n : Nat) (h1 : 1 ≤ n) : fst L n = pre L n * 2 := by
  obtain ⟨m, rfl⟩ : ∃ m, n = m + 1 := ⟨n - 1, by omega⟩
  rw [fst]
  unfold pre
  rw [Nat.add_sub_cancel, Nat.mul_comm]
theorem used_pre (L : List Int) (n : Nat) (h1 : 1 ≤ n) (h15 : n ≤ 15) : pre L n * 2 ^ (16 - n) = fst L n * 2 ^ (15 - n) := by
  rw [fst_pre L n h1, Nat.mul_assoc, show 16 - n = (15 - n) + 1 by omega, Nat.pow_succ, Nat.mul_comm 2 (2 ^ (15 - n))]
theorem beg_succ (L : List Int) (n : Nat) (h1 : 1 ≤ n) : beg L (n + 1) = beg L n + cn L n := by rw [beg]; unfold c0; rw [if_neg (by omega)]
theorem aloneL_iff (L : List Int) : aloneL L = true ↔ (beg L 16 = 0 ∨ beg L 16 = 1 ∧ cn L 1 = 1) := by
  unfold aloneL c0
  simp
theorem l1_run (L : List Int) (lone : Bool) (hok : okL L = true) (hl : L.length ≤ 320) (k : Nat) (hk : 17 ≤ k) : ∀ j n, n + j = 16 → 1 ≤ n → (∀ i, 1 ≤ i → i < n → over L i = false) →
    crossdockref07_Codes.l1 (k + (L.length + 2) * j + 1) L lone (outL L n 0) ((pre L n : Nat) : Int) ((pre L n * 2 ^ (16 - n) : Nat) : Int) ((beg L n : Nat) : Int) ((if n = 1 then 0 else cn L 1 : Nat) : Int) (n : Int) = some (doneR L lone (anyOver L j n))
  | 0, n, hn, h1, ho => by
    have : n = 16 := by omega
    subst this
    simp only [crossdockref07_Codes.l1]
    rw [if_neg (by omega), pre_succ L 15 (by omega), outL_all L hok]
    have e0 : (fst L 15 + cn L 15) * 2 ^ (16 - 16) = fst L 15 + cn L 15 := Nat.mul_one _
    rw [e0, show anyOver L 0 16 = false from rfl]
    unfold doneR
    rw [if_neg (show ¬ (false = true) by decide)]
    have ha := aloneL_iff L
    have e1 : (if 16 = 1 then 0 else cn L 1) = cn L 1 := if_neg (by decide)
    rw [e1]
    by_cases c : fst L 15 + cn L 15 = 32768
    · rw [if_pos (by omega), if_pos c]
    · rw [if_neg (by omega), if_neg c]
      cases lone with
      | false => rw [if_neg (by decide), if_neg (fun h => absurd h.1 (by decide))]
      | true =>
        rw [if_pos rfl]
        by_cases b0 : beg L 16 = 0
        · rw [if_pos (by omega), if_pos ⟨rfl, ha.2 (.inl b0)⟩]
        · rw [if_neg (by omega)]
          by_cases b1 : beg L 16 = 1
          · rw [if_pos (by omega)]
            by_cases b2 : cn L 1 = 1
            · rw [if_pos (by omega), if_pos ⟨rfl, ha.2 (.inr ⟨b1, b2⟩)⟩]
            · rw [if_neg (by omega), if_neg (fun h => (ha.1 h.2).elim b0 (fun h => b2 h.2))]
          · rw [if_neg (by omega), if_neg (fun h => (ha.1 h.2).elim b0 (fun h => b1 h.1))]
  | j + 1, n, hn, h1, ho => by
    have h15 : n ≤ 15 := by omega
    have hf := fst_le L n ho
    have hfuel : k + (L.length + 2) * (j + 1) + 1 = Nat.succ ((k + (L.length + 2) * j + 1) + 1 + L.length) := by rw [Nat.mul_succ]; omega
    rw [hfuel]
    simp only [crossdockref07_Codes.l1]
    rw [if_pos (by omega)]
    have hp := fst_pre L n h1
    have hpl := pow15 n _ h15 hf
    have w0 : wrap64 (((pre L n : Nat) : Int) * 2) = ((fst L n : Nat) : Int) := by rw [wn _ (by omega) (by omega)]; omega
    rw [w0, used_pre L n h1 h15]
    have h2 := l2_run L lone hl n h1 h15 (k + (L.length + 2) * j + 1) (by omega) L.length 0 (by omega) (by simpa [cn] using hf)
    have e0 : cn (L.take 0) n = 0 := by simp [cn]
    have e1 : onesF L n 0 = if n = 1 then 0 else cn L 1 := by unfold onesF; simp [cn]
    rw [e0, Nat.add_zero, Nat.add_zero, e1] at h2
    refine h2.trans ?_
    rw [anyOver]
    by_cases hov : over L n = true
    · rw [if_pos hov, hov, Bool.true_or]
      unfold doneR
      rw [if_pos rfl]
    · have hov' : over L n = false := by simpa using hov
      rw [if_neg hov, hov', Bool.false_or]
      have ih := l1_run L lone hok hl k hk j (n + 1) (by omega) (by omega) (fun i hi1 hi2 => by
        by_cases e : i = n
        · rw [e]; exact hov'
        · exact ho i hi1 (by omega))
      rw [pre_succ L n h1, beg_succ L n h1, show 16 - (n + 1) = 15 - n by omega, if_neg (by omega), ← outL_next L n] at ih
      have e2 : onesF L n L.length = cn L 1 := by
        unfold onesF
        split
        · rw [List.take_length]
        · rfl
      rw [e2]
      exact ih
theorem l0_run (L : List Int) (lone : Bool) (hl : L.length ≤ 320) (k : Nat) : ∀ d s, s + d = L.length → (∀ u, u < s → 0 ≤ L.getD u 0 ∧ L.getD u 0 ≤ 15) →
    crossdockref07_Codes.l0 (k + d + 1) L lone L (L.length : Int) (s : Int) = if okL L = true then crossdockref07_Codes.l1 k L lone (List.replicate L.length ⟨#[]⟩) 0 0 0 0 1 else some ([], 1)
  | 0, s, hs, ho => by
    simp only [crossdockref07_Codes.l0]
    have hok : okL L = true := all_true L (fun i x hx => by
      have hi := (List.getElem?_eq_some_iff.1 hx).1
      have := ho i (by omega)
      rw [List.getD_eq_getElem?_getD, hx] at this
      exact this)
    rw [if_neg (by omega), if_pos (by omega), if_pos (by omega), if_pos hok, Int.toNat_natCast]
  | d + 1, s, hs, ho => by
    rw [show k + (d + 1) + 1 = (k + d + 1) + 1 by omega]
    simp only [crossdockref07_Codes.l0]
    rw [if_pos (by omega), if_pos (by omega), if_pos (by omega), show rd L (s : Int) = L.getD s 0 from by unfold rd; rw [Int.toNat_natCast]]
    have hx := getD_some L s (by omega)
    have hbad := all_take L s _ hx
    by_cases c1 : L.getD s 0 < 0
    · rw [if_pos c1, if_neg (by rw [hbad (by omega)]; decide)]
    · rw [if_neg c1]
      by_cases c2 : L.getD s 0 > 15
      · rw [if_pos c2, if_neg (by rw [hbad (by omega)]; decide)]
      · rw [if_neg c2, wr1 s (by omega)]
        exact l0_run L lone hl k d (s + 1) (by omega) (fun u hu => by
          by_cases e : u = s
          · subst e; omega
          · exact ho u (by omega))
/-- The document's answer. -/
def docR (L : List Int) (lone : Bool) : List ByteArray × Int := match newR L lone with | none => (wantL L, 0) | some c => ([], c)
theorem doc_codes (L : List Int) (lone : Bool) : ∃ k, crossdockref07_Codes.f k L lone = some (docR L lone) := by
  refine ⟨(17 + (L.length + 2) * 15 + 1) + L.length + 1, ?_⟩
  unfold crossdockref07_Codes.f docR newR
  by_cases h320 : 320 < L.length
  · rw [if_pos (by omega), if_pos h320]
  · rw [if_neg (by omega), if_neg h320]
    have h0 := l0_run L lone (by omega) (17 + (L.length + 2) * 15 + 1) L.length 0 (by omega) (fun u hu => by omega)
    refine h0.trans ?_
    by_cases hok : okL L = true
    · rw [if_pos hok, if_neg (by rw [hok]; decide)]
      have h1 := l1_run L lone hok (by omega) 17 (Nat.le_refl _) 15 1 (by omega) (by omega) (fun i h1 h2 => by omega)
      rw [← outL_none L hok] at h1
      have hp : pre L 1 = 0 := by unfold pre; simp [fst, c0]
      have hb : beg L 1 = 0 := by simp [beg, c0]
      rw [hp, hb, if_pos rfl, Nat.zero_mul] at h1
      refine h1.trans ?_
      unfold doneR numR
      by_cases hov : anyOver L 15 1 = true
      · rw [if_pos hov, if_pos hov, if_pos (by decide)]
      · rw [if_neg hov, if_neg hov]
        have hov' : anyOver L 15 1 = false := by simpa using hov
        have h15 := over_all L 15 1 hov' 15 (by omega) (by omega)
        have h16 : fst L 15 + cn L 15 ≤ 32768 := by
          unfold over at h15
          have h17 := of_decide_eq_false h15
          rw [show 2 ^ 15 = 32768 from rfl] at h17
          omega
        rw [if_neg (show ¬ (32768 - ((fst L 15 + cn L 15 : Nat) : Int) < 0) by omega)]
        by_cases c : fst L 15 + cn L 15 = 32768
        · rw [if_pos c, if_neg (show ¬ (0 < 32768 - ((fst L 15 + cn L 15 : Nat) : Int) ∧ ¬ (lone = true ∧ aloneL L = true)) by omega)]
        · rw [if_neg c]
          by_cases c2 : lone = true ∧ aloneL L = true
          · rw [if_pos c2, if_neg (fun h => h.2 c2)]
          · rw [if_neg c2, if_pos ⟨by omega, c2⟩]
    · rw [if_neg hok, if_pos (by simpa using hok)]
end Go.Proofs.Ytlgpmpnobcdogaa.My

/- The walk of crossdocknum's Num. -/
namespace Go.Proofs.Ytlgpmpnobcdogaa.My
open Go.RowKit Go.Proofs.YtlgpmpnobcdogaaW.PrintWords Go.Proofs.YtlgpmpnobcdogaaW.PrintLast Go.Proofs.YtlgpmpnobcdogaaW.PrintMore

def numE : Option Int → Int
  | none => 0
  | some c => c
theorem num_calls (e : Option Int) (w : World) (h : ∀ c, e = some c → c ≠ 0) : Calls Try.prog 11 #[errV e] w fun r w' => r = .returned (.int .i64 (numE e)) ∧ w = w' := by
  cases e with
  | none =>
    show Calls Try.prog 11 #[.nilIface] w _
    go_enter Try.func11, Try.ntmps11
    go_wp2
    go_ret
    exact ⟨rfl, rfl⟩
  | some c =>
    have h1 : (c == 0) = false := beq_eq_false_iff_ne.2 (h c rfl)
    have h2 : (c != 0) = true := bne_iff_ne.2 (h c rfl)
    have hta : ∀ (v : Value) (W : World), (Instr.typeAssert (.iface 52 v) 26 52 true).run Try.prog W = .ok (.tuple #[v, .bool true]) W := fun v W => by rfl
    clear h
    show Calls Try.prog 11 #[.iface 52 (.int .i64 c)] w _
    have u1 := Try.underlying26
    have u2 := Try.underlying52
    go_enter Try.func11, Try.ntmps11
    go_wp2
    go_ret
    exact ⟨rfl, rfl⟩
end Go.Proofs.Ytlgpmpnobcdogaa.My

/- A Code that lives, and what New refuses. -/
namespace Go.Proofs.Ytlgpmpnobcdogaa.My
open Go.RowKit Go.Proofs.Ytlgpmpnobcdogaa.Huf Go.Proofs.YtlgpmpnobcdogaaW.PrintWords Go.Proofs.YtlgpmpnobcdogaaW.PrintLast Go.Proofs.YtlgpmpnobcdogaaW.PrintMore
set_option linter.unusedVariables false
set_option linter.unusedSimpArgs false

theorem alive_new : newR [2, 1, 3, 3] false = none := by decide +kernel
theorem alive_code : code [2, 1, 3, 3] 2 = 6 := by decide +kernel
set_option maxHeartbeats 1000000 in
theorem alive_calls (w : World) : Calls Try.prog 7 #[] w fun e w' => e = .returned (.bool true) ∧ Below w.heap.size w w' := by
  have HN : Aside0 (Calls Try.prog 8 #[.slice (some ⟨w.heap.size, 0, none⟩) 4 4, .bool false] (w.alloc (.cells (nums .i64 [2, 1, 3, 3]).toArray 3)) fun e w' => ∃ g, e = .returned (.tuple #[.pointer (some ⟨g, 0, none⟩), .nilIface]) ∧ Below (w.alloc (.cells (nums .i64 [2, 1, 3, 3]).toArray 3)).heap.size (w.alloc (.cells (nums .i64 [2, 1, 3, 3]).toArray 3)) w' ∧
      CodeAt w' (w.alloc (.cells (nums .i64 [2, 1, 3, 3]).toArray 3)).heap.size w'.heap.size g [2, 1, 3, 3]) := ⟨by
    have h : IRow (w.alloc (.cells (nums .i64 [2, 1, 3, 3]).toArray 3)) w.heap.size 3 [2, 1, 3, 3] := alloc_self _ _
    refine (new_calls _ (some ⟨w.heap.size, 0, none⟩) 4 4 [2, 1, 3, 3] false (h.reads (by decide)) (by decide) rfl (fun h => by cases h)).mono ?_
    rintro e w' ⟨v, rfl, hb, _, h2⟩
    obtain ⟨g, rfl, hc⟩ := h2 alive_new
    exact ⟨g, by rw [alive_new]; rfl, hb, hc⟩⟩
  go_enter Try.func7, Try.ntmps7
  go_wp2_with fail
  refine (HN.out).mono ?_
  rintro e w2 ⟨g, rfl, hb, hc⟩
  have HO := Aside0.mk (of_calls w2 _ _ g _ hc (by decide) 2 (by decide))
  have HB := Aside0.mk (below_then (below_alloc (Below.refl _ _) _) (by rw [alloc_size]; omega) hb)
  clear hb hc
  go_wp2_with fail
  refine (HO.out).mono ?_
  rintro e w3 ⟨rfl, hb3⟩
  rw [alive_code]
  have HB3 := Aside0.mk (below_then HB.out HB.out.size hb3)
  clear hb3
  have e3 : List.getD [(2 : Int), 1, 3, 3] 2 0 = 3 := rfl
  rw [e3]
  go_wp2_with fail
  go_ret
  exact ⟨rfl, HB3.out⟩
theorem own_none {w : World} {base n c : Nat} {e : TypeId} {size : Nat} {A : Option Addr} {xs : List Value} (h : w.ownsRow base e size (.slice A n c) n xs) : A = none → n = 0 ∧ c = 0 := by
  rintro rfl
  rcases h.2 with ⟨h1, h2⟩ | ⟨g, cap, cur, h1, _⟩
  · injection h1 with _ _ h3
    exact ⟨h2, h3⟩
  · injection h1 with h1
    cases h1
theorem newR_ne (L : List Int) (lone : Bool) (c : Int) (h : newR L lone = some c) : c ≠ 0 := by
  unfold newR at h
  split at h
  · cases h; decide
  · split at h
    · cases h; decide
    · split at h
      · cases h; decide
      · split at h
        · cases h; decide
        · cases h
theorem newR_none (L : List Int) (lone : Bool) (h : newR L lone = none) : L.length ≤ 320 ∧ okL L = true := by
  unfold newR at h
  split at h
  · cases h
  · split at h
    · cases h
    · next h1 h2 => exact ⟨by omega, by simpa using h2⟩
theorem newR_over (L : List Int) (lone : Bool) (h : newR L lone = none) : anyOver L 15 1 = false := by
  cases hov : anyOver L 15 1 with
  | false => rfl
  | true =>
    unfold newR at h
    split at h
    · cases h
    · split at h
      · cases h
      · rw [if_pos (by unfold numR; rw [if_pos hov]; decide)] at h
        cases h
theorem code_lt (L : List Int) (lone : Bool) (h : newR L lone = none) (s : Nat) (hs : s < L.length) : code L s < 1000000 := by
  obtain ⟨h1, h2⟩ := newR_none L lone h
  have h3 := newR_over L lone h
  have h4 := getD_ok L h2 s hs
  obtain ⟨n, hn⟩ := Int.eq_ofNat_of_zero_le h4.1
  unfold code
  rw [hn, Int.toNat_natCast]
  show (if n = 0 then 0 else fst L n + cn (L.take s) n) < 1000000
  split
  · decide
  · have h5 := fst_le L n (fun j h1 h2 => over_all L 15 1 h3 j h1 (by omega))
    have h6 := pow15 n _ (by omega) h5
    have h7 := cn_take_le L s n
    have h8 := cn_le L n
    have h9 : 2 ^ n ≤ 2 ^ 15 := Nat.pow_le_pow_right (by decide) (by omega)
    have h10 : (2 : Nat) ^ 15 = 32768 := rfl
    omega
theorem wantL_len (L : List Int) : (wantL L).length = L.length := by simp [wantL]
theorem wantL_get (L : List Int) (s : Nat) (h : s < L.length) : rdOf ByteArray.empty (wantL L) (s : Int) = rowOf L s := by
  unfold rdOf wantL
  simp [List.getD_eq_getElem?_getD, h]
end Go.Proofs.Ytlgpmpnobcdogaa.My

/- The walk of slices.Grow of numbers, at nil. -/
namespace Go.Proofs.Ytlgpmpnobcdogaa.My
open Go.RowKit Go.Lib Go.Proofs.YtlgpmpnobcdogaaW.PrintWords Go.Proofs.YtlgpmpnobcdogaaW.PrintLast Go.Proofs.YtlgpmpnobcdogaaW.PrintMore
set_option linter.unusedVariables false
set_option linter.unusedSimpArgs false

set_option maxHeartbeats 2000000 in
theorem grow_calls (w : World) (n : Nat) (h0 : 0 < n) (hn : n ≤ 1000000) :
    Calls Try.prog 45 #[.slice none 0 0, .int .i64 n] w fun e w' => ∃ v, e = .returned v ∧ w'.ownsRow w.heap.size 3 1 v 0 (nums .i64 []) ∧ Below w.heap.size w w' := by
  obtain ⟨i0, hi0, hz⟩ := Option.map_eq_some_iff.1 info_i64
  simp only [Prod.mk.injEq] at hz
  have hold : (Builtin.firstCells i0.size 0 (.slice none 0 0)).run Try.prog w.drew = .ok ([] : List Value).toArray w.drew := run_firstCells_none w.drew i0.size 0 0 0
  have hrz : ∀ ty, (Builtin.append_ #[22, 3] ty #[.slice none 0 0, .int .i64 (n : Int)]).run Try.prog w =
      .ok (.slice (some ⟨w.heap.size, 0, none⟩) n (grownCap w n 0 3)) (w.drew.alloc (.cells (([] : List Value).toArray ++ Builtin.zeroCells (Value.int .i64 0).cells n ++ Builtin.zeroCells (Value.int .i64 0).cells (grownCap w n 0 3 - n)) 3)) := fun ty => by
    have h := Lib.run_append_grow_zeros w 22 3 ty 3 i0 (.int .i64 0) .i64 .i64 Try.underlying22 Try.underlying3 hi0 hz.1 none 0 0 [] hold n h0 (by rw [hz.2.1]; omega) (by omega) (by omega) (by rw [hz.2.2]; omega)
      (by rw [Nat.zero_add]; exact growslice_fits h0 (by rw [hz.2.2]; omega))
    rw [Nat.zero_add] at h
    exact h
  have hGn : n ≤ grownCap w n 0 3 := grownCap_ge w _ _ _
  have hG63 := grownCap_le_maxLen w n 0 3 (by unfold maxLen; omega)
  obtain ⟨G, hG⟩ : ∃ G, G = grownCap w n 0 3 := ⟨_, rfl⟩
  rw [← hG] at hrz hGn hG63
  have HG1 := Aside0.mk hGn
  have HG2 := Aside0.mk hG63
  have hG64 : G ≤ 9223372036854775807 := by unfold maxLen at hG63; exact hG63
  have hni : (n : Int) ≤ 1000000 := by omega
  have hn0 : (0 : Int) < (n : Int) := by omega
  clear hold hG hz hG63
  go_enter Try.func45, Try.ntmps45
  go_wp2_with (at_builtin; refine Lib.wpList_append_run _ rfl _ _ _ _ rfl _ _ rfl rfl _ _ (hrz _) ?_)
  all_goals go_ret
  all_goals
    refine ⟨_, rfl, ⟨by simp [nums], .inr ⟨w.heap.size, G, _, rfl, Nat.le_refl _, alloc_self w _, Nat.zero_le _, HG2.out, ?_, by simp [nums]⟩⟩, below_drew (below_alloc (Below.refl _ _) _)⟩
    rw [Array.size_append, size_zeroCells, size_zeroCells]
    have := HG1.out
    show n * 1 + (G - n) * 1 = G * 1
    omega
end Go.Proofs.Ytlgpmpnobcdogaa.My

/- The walk of slices.Concat of numbers. -/
namespace Go.Proofs.Ytlgpmpnobcdogaa.My
open Go.RowKit Go.Proofs.YtlgpmpnobcdogaaW.PrintWords Go.Proofs.YtlgpmpnobcdogaaW.PrintLast Go.Proofs.YtlgpmpnobcdogaaW.PrintMore
set_option linter.unusedVariables false
set_option linter.unusedSimpArgs false

/-- The first so many of them, behind one another. -/
def cat (xs : List (List Int)) (i : Nat) : List Int := (xs.take i).flatten
theorem cat_succ (xs : List (List Int)) (i : Nat) (h : i < xs.length) : cat xs (i + 1) = cat xs i ++ xs.getD i [] := by
  unfold cat
  rw [List.take_add_one, List.getElem?_eq_getElem h, List.flatten_append, List.getD_eq_getElem?_getD, List.getElem?_eq_getElem h]
  simp
theorem cat_all (xs : List (List Int)) : cat xs xs.length = xs.flatten := by unfold cat; rw [List.take_length]
theorem cat_le (xs : List (List Int)) : ∀ d i, i + d = xs.length → (cat xs i).length ≤ xs.flatten.length
  | 0, i, h => by rw [show i = xs.length by omega, cat_all]; exact Nat.le_refl _
  | d + 1, i, h => by
    have := cat_le xs d (i + 1) (by omega)
    rw [cat_succ xs i (by omega), List.length_append] at this
    omega
set_option maxHeartbeats 4000000 in
set_option maxRecDepth 100000 in
theorem concat_calls (w : World) (gA : Nat) (n : Nat) (xs : List (List Int)) (F : List Int) (hF : xs.flatten = F) (hl : xs.length = n) (hn : n ≤ 1000) (ht : F.length ≤ 100000) (h0 : 0 < F.length)
    (hA : ∀ i, i < n → ∃ A c, w.cell? ⟨gA, i, none⟩ = some (.slice A (xs.getD i []).length c) ∧ (Kd.int .i64).C w A (xs.getD i []).length (xs.getD i [])) :
    Calls Try.prog 40 #[.slice (some ⟨gA, 0, none⟩) n n] w fun e w' => ∃ v, e = .returned v ∧ w'.ownsRow w.heap.size 3 1 v F.length (nums .i64 F) ∧ Below w.heap.size w w' := by
  have HG : Aside0 (∀ wx, Calls Try.prog 45 #[.slice none 0 0, .int .i64 (F.length : Nat)] wx fun e w' => ∃ v, e = .returned v ∧ w'.ownsRow wx.heap.size 3 1 v 0 (nums .i64 []) ∧ Below wx.heap.size wx w') := ⟨fun wx => grow_calls wx _ h0 (by omega)⟩
  have HA := Aside0.mk hA
  have HL := Aside0.mk hl
  have HT := Aside0.mk ht
  have HF := Aside0.mk hF
  have hni : (n : Int) ≤ 1000 := by omega
  clear hA hl ht h0 hF
  go_enter Try.func40, Try.ntmps40
  go_wp2_with fail
  go_loopg [3, 11] n (fun kq v3 v11 wr => ∃ i : Nat, v3 = .int .i64 ((cat xs i).length : Nat) ∧ v11 = .int .i64 i ∧ i ≤ n ∧ Aside0 (kq = n - i) ∧ Aside0 (wr = w))
  case atStart => exact ⟨0, rfl, rfl, Nat.zero_le _, ⟨rfl⟩, ⟨rfl⟩⟩
  case round =>
    obtain ⟨i, rfl, rfl, hi, HK, HW⟩ := hrel
    have hw := HW.out.symm
    subst hw
    by_cases hlt : i < n
    · have hlt' : (i : Int) < (n : Int) := by omega
      obtain ⟨A1, c1, hc1, _⟩ := HA.out i hlt
      have hs := cat_succ xs i (by rw [HL.out]; exact hlt)
      have hle := cat_le xs (xs.length - (i + 1)) (i + 1) (by rw [HL.out]; omega)
      have hlen : (cat xs (i + 1)).length = (cat xs i).length + (xs.getD i []).length := by rw [hs, List.length_append]
      have HLen := Aside0.mk hlen
      have b1 : (((cat xs i).length : Nat) : Int) ≤ 100000 := by have h1 := HT.out; rw [← HF.out] at h1; omega
      have b2 : (((xs.getD i []).length : Nat) : Int) ≤ 100000 := by have h1 := HT.out; rw [← HF.out] at h1; omega
      clear hs hle hlen
      generalize (cat xs i).length = a at *
      generalize hm : (xs.getD i []).length = m at *
      clear hm
      go_wp2_with fail
      have e1 : ((i : Int) + 1) = ((i + 1 : Nat) : Int) := by omega
      rw [e1]
      go_roundg (n - (i + 1))
      case measure => have := HK.out; omega
      case rel => exact ⟨i + 1, by rw [HLen.out]; rfl, rfl, hlt, ⟨rfl⟩, ⟨rfl⟩⟩
    · have hin : i = n := by omega
      subst hin
      have hlt' : ¬ (i : Int) < (i : Int) := by omega
      have hca : (cat xs i).length = F.length := by rw [← HL.out, cat_all, HF.out]
      rw [hca]
      have b1 : ((F.length : Nat) : Int) ≤ 100000 := by have := HT.out; omega
      clear hlt hca
      go_wp2_with (go_at_call 45; refine (HG.out _).mono ?_; rintro e w2 ⟨v2, rfl, ho2, hb2⟩; obtain ⟨A2, c2, rfl⟩ := own_slice ho2; replace ho2 := Aside0.mk ho2; replace hb2 := Aside0.mk hb2)
      go_loopg [6, 27] i (fun kq v6 v27 wx => ∃ (j : Nat) (A6 : Option Addr) (c6 : Nat), v6 = .slice A6 (cat xs j).length c6 ∧ v27 = .int .i64 j ∧ j ≤ i ∧ Aside0 (kq = i - j) ∧ Aside0 (wx.ownsRow w.heap.size 3 1 (.slice A6 (cat xs j).length c6) (cat xs j).length (nums .i64 (cat xs j))) ∧ Aside0 (Below w.heap.size w wx))
      case atStart => exact ⟨0, A2, c2, rfl, rfl, Nat.zero_le _, ⟨rfl⟩, ho2, hb2⟩
      case round =>
        obtain ⟨j, A6, c6, rfl, rfl, hj, HK2, HO, HB⟩ := hrel
        by_cases hlt : j < i
        · have hlt' : (j : Int) < (i : Int) := by omega
          obtain ⟨A1, c1, hc1, hC1⟩ := HA.out j hlt
          have hcx := pw_cell_below HB.out hc1
          have hs := cat_succ xs j (by rw [HL.out]; exact hlt)
          have hle := cat_le xs (xs.length - (j + 1)) (j + 1) (by rw [HL.out]; omega)
          rw [hs, List.length_append, HF.out] at hle
          have HH := Aside0.mk (And.intro (Kd.C_below hC1 HB.out) (Nat.le_trans hle HT.out))
          have HS := Aside0.mk hs
          clear hs hle hC1 hc1
          generalize xs.getD j [] = X at *
          generalize cat xs j = C at *
          go_wp2_with ((with_reducible refine gate_dst (N := 33) rfl ?_); refine print_append_row (w0 := w) w.heap.size rfl (.tmp 31) (.tmp 32) 22 3 .i64 8 rfl Try.underlying22 info_i64 (by decide) _ C X A1 _ c1 rfl rfl HO.out (reads_of_C HH.out.1) HB.out HB.out.size (by have := HH.out.2; omega) ?_; intro v7 w7 ho7 hb7 hg7 hk7; rw [← HS.out] at ho7; obtain ⟨A9, c9, rfl⟩ := own_slice ho7; replace ho7 := Aside0.mk ho7; replace hb7 := Aside0.mk hb7; clear hg7 hk7)
          have e1 : ((j : Int) + 1) = ((j + 1 : Nat) : Int) := by omega
          rw [e1]
          go_roundg (i - (j + 1))
          case measure => have := HK2.out; omega
          case rel => exact ⟨j + 1, A9, c9, rfl, rfl, hlt, ⟨rfl⟩, ho7, hb7⟩
        · have hji : j = i := by omega
          have hlt' : ¬ (j : Int) < (i : Int) := by omega
          have hcf : cat xs j = F := by rw [hji, ← HL.out, cat_all, HF.out]
          have HO2 : Aside0 (wr.ownsRow w.heap.size 3 1 (.slice A6 (cat xs j).length c6) F.length (nums .i64 F)) := ⟨by rw [← hcf]; exact HO.out⟩
          clear hcf hji
          go_wp2_with fail
          go_ret
          exact ⟨_, rfl, HO2.out, HB.out⟩
end Go.Proofs.Ytlgpmpnobcdogaa.My

/- The walk of slices.Repeat of one number. -/
namespace Go.Proofs.Ytlgpmpnobcdogaa.My
open Go.RowKit Go.Lib Go.Proofs.Ytlgpmpnobcdogaa.MyDocMul Go.Proofs.YtlgpmpnobcdogaaW.PrintWords Go.Proofs.YtlgpmpnobcdogaaW.PrintLast Go.Proofs.YtlgpmpnobcdogaaW.PrintMore
set_option linter.unusedVariables false
set_option linter.unusedSimpArgs false

/-- So many of one number, the others noughts. -/
def rep (v : Int) (k n : Nat) : List Int := List.replicate k v ++ List.replicate (n - k) 0
theorem rep_len (v : Int) (k n : Nat) (h : k ≤ n) : (rep v k n).length = n := by simp [rep]; omega
theorem rep_splice (v : Int) (k c n : Nat) (h : k + c ≤ n) : splice (nums .i64 (rep v k n)) k (nums .i64 (List.replicate c v)) = nums .i64 (rep v (k + c) n) := by
  unfold splice rep nums
  simp only [List.map_append, List.map_replicate, List.length_replicate]
  rw [List.take_left' (by simp), ← List.append_assoc, List.replicate_append_replicate]
  congr 1
  rw [List.drop_append, List.length_replicate, List.drop_eq_nil_of_le (by simp), List.nil_append, List.drop_replicate]
  congr 1
  omega
theorem add_zero' (a : Addr) : a.add 0 = a := by
  unfold Addr.add
  split <;> simp_all
set_option maxHeartbeats 2000000 in
theorem repeat_calls (w : World) (ad : Addr) (c : Nat) (v : Int) (n : Nat) (hx : w.cell? ad = some (.int .i64 v)) (h0 : 0 < n) (hn : n ≤ 1000000) (hm : bits_Mul.f 1 n = some (0, (n : Int))) :
    Calls Try.prog 41 #[.slice (some ad) 1 c, .int .i64 n] w fun e w' => ∃ g, e = .returned (.slice (some ⟨g, 0, none⟩) n n) ∧ w.heap.size ≤ g ∧ IRow w' g 3 (List.replicate n v) ∧ Below w.heap.size w w' := by
  have HM : Aside0 (∀ wx, Calls Try.prog 46 #[.int .u64 1, .int .u64 n] wx fun e w' => e = .returned (.tuple #[.int .u64 0, .int .u64 n]) ∧ Drawn0 wx w') := ⟨fun wx => bits_Mul.calls 1 n 0 n wx hm⟩
  have hni : (n : Int) ≤ 1000000 := by omega
  have hn0 : (0 : Int) < (n : Int) := by omega
  have mk : ∀ W : World, (Instr.makeSlice 22 (.int .i64 n) (.int .i64 n)).run Try.prog W = .ok (.slice (some ⟨W.heap.size, 0, none⟩) n n) (W.alloc (.cells (madeCells #[.int .i64 0] n) 3)) := fun W => make_ints n (by omega) W
  have HX := Aside0.mk hx
  clear hx hm
  go_enter Try.func41, Try.ntmps41
  have hsz : (Try.prog.info? 3).map (·.size) = some 1 := by
    obtain ⟨i0, hi, hz⟩ := Option.map_eq_some_iff.1 info_i64
    rw [hi]
    simp only [Prod.mk.injEq] at hz
    rw [Option.map_some, hz.2.1]
  have HSZ := Aside0.mk hsz
  have HMade : Aside0 (∀ W : World, (W.alloc (.cells (madeCells #[.int .i64 0] n) 3)).heap[W.heap.size]? = some (.cells (nums .i64 (rep v 0 n)).toArray 3 (0, 0))) := ⟨fun W => by
    rw [made_nums, alloc_self]
    simp [rep]⟩
  clear hsz
  go_upto_region 7 with (go_at_call 46; refine (HM.out _).mono ?_; rintro e w1 ⟨rfl, ⟨m1, rfl⟩⟩)
  have hrow := HMade.out (w.drewN m1)
  have hbel : Below w.heap.size w ((w.drewN m1).alloc (.cells (madeCells #[.int .i64 0] n) 3)) := below_alloc (pw_below_drewN (Below.refl _ _) m1) _
  have hcx := pw_cell_below hbel HX.out
  have hgg : (w.drewN m1).heap.size = w.heap.size := rfl
  rw [hgg] at hrow
  generalize (w.drewN m1).alloc (.cells (madeCells #[.int .i64 0] n) 3) = w2 at *
  have hfit : 0 + [Value.int .i64 v].length ≤ (nums .i64 (rep v 0 n)).length := by rw [nums_length, rep_len v 0 n (Nat.zero_le _)]; simp; omega
  have hmin : [Value.int .i64 v].length = Nat.min 1 n := by show 1 = Nat.min 1 n; simp [Nat.min_def]; omega
  have hone : ∀ x ∈ [Value.int .i64 v], x.oneCell' = true := by simp [Value.oneCell']
  have hsrc : ∀ (j : Nat) (x : Value), [Value.int .i64 v][j]? = some x → w2.cell? (ad.add j) = some x := by
    intro j x hj
    cases j with
    | zero => simp at hj; subst hj; rw [add_zero']; exact hcx
    | succ j => simp at hj
  have HH := Aside0.mk (And.intro hrow (And.intro hbel (And.intro hfit (And.intro hmin (And.intro hone hsrc)))))
  have HSp := Aside0.mk (rep_splice v 0 1 n (by omega))
  clear hrow hbel hcx hfit hmin hone hsrc hgg HMade mk
  generalize hg : w.heap.size = g at *
  have HG := Aside0.mk hg
  clear hg
  go_wp2_with ((with_reducible refine gate_dst (N := 33) rfl ?_); refine wpList_copy_splice rfl (.tmp 31) (.tmp 32) 22 22 rfl 3 Try.underlying22 HSZ.out (some ⟨g, 0, none⟩) (some ad) n n 1 c rfl rfl g 0 (nums .i64 (rep v 0 n)) 3 HH.out.1 [.int .i64 v] HH.out.2.2.2.1 (fun _ => ⟨rfl, ad, rfl, HH.out.2.2.2.2.2⟩) HH.out.2.2.1 HH.out.2.2.2.2.1 g w HH.out.2.1 (Nat.le_refl _) ?_; intro w3 hr3 hb3; have HR3 := Aside0.mk hr3; have HB3 := Aside0.mk hb3; clear hr3 hb3)
  have HR4 : Aside0 (w3.heap[g]? = some (.cells (nums .i64 (rep v 1 n)).toArray 3 (0, 0))) := ⟨by
    have h : w3.heap[g]? = some (.cells (splice (nums .i64 (rep v 0 n)) 0 [.int .i64 v]).toArray 3 (0, 0)) := HR3.out
    have h2 := HSp.out
    rw [Nat.zero_add] at h2
    rw [← h2]
    exact h⟩
  clear HR3 HH HSp
  go_loopg [8] n (fun kq v8 wr => ∃ k : Nat, v8 = .int .i64 k ∧ 1 ≤ k ∧ k ≤ n ∧ Aside0 (kq = n - k + 1) ∧ Aside0 (wr.heap[g]? = some (.cells (nums .i64 (rep v k n)).toArray 3 (0, 0))) ∧ Aside0 (Below g w wr))
  case atStart => exact ⟨1, rfl, Nat.le_refl _, h0, ⟨by omega⟩, HR4, HB3⟩
  case round =>
    obtain ⟨k, rfl, hk1, hk, HK, HR, HB⟩ := hrel
    by_cases hlt : k < n
    · have hlt' : (k : Int) < (n : Int) := by omega
      obtain ⟨q, hq⟩ : ∃ q, q = Nat.min k (n - k) := ⟨_, rfl⟩
      have hq1 : k + q ≤ n := by rw [hq]; simp only [Nat.min_def]; split <;> omega
      have hq2 : 1 ≤ q := by rw [hq]; simp only [Nat.min_def]; split <;> omega
      have hq3 : q ≤ k := by rw [hq]; simp only [Nat.min_def]; split <;> omega
      have hqi : (q : Int) ≤ 1000000 := by omega
      have hfit : k + (nums .i64 (List.replicate q v)).length ≤ (nums .i64 (rep v k n)).length := by rw [nums_length, nums_length, rep_len v k n hk, List.length_replicate]; exact hq1
      have hmin : (nums .i64 (List.replicate q v)).length = Nat.min k (n - k) := by rw [nums_length, List.length_replicate]; exact hq
      have hone : ∀ x ∈ nums .i64 (List.replicate q v), x.oneCell' = true := by
        intro x hx
        unfold nums at hx
        obtain ⟨y, _, rfl⟩ := List.mem_map.1 hx
        rfl
      have hsrc : ∀ (j : Nat) (x : Value), (nums .i64 (List.replicate q v))[j]? = some x → wr.cell? ((⟨g, 0, none⟩ : Addr).add j) = some x := by
        intro j x hj
        have hjl := (List.getElem?_eq_some_iff.1 hj).1
        rw [nums_length, List.length_replicate] at hjl
        rw [add_plain]
        have hrw : IRow wr g 3 (rep v k n) := HR.out
        rw [hrw.cell j (by rw [rep_len v k n hk]; omega)]
        rw [nums_at _ j (by rw [List.length_replicate]; exact hjl)] at hj
        rw [← hj]
        congr 2
        unfold rep
        rw [List.getD_eq_getElem?_getD, List.getElem?_append_left (by rw [List.length_replicate]; omega), List.getD_eq_getElem?_getD, List.getElem?_replicate, List.getElem?_replicate, if_pos (by omega), if_pos hjl]
      have HH := Aside0.mk (And.intro hfit (And.intro hmin (And.intro hone hsrc)))
      have HSp := Aside0.mk (rep_splice v k q n hq1)
      have HQ1 := Aside0.mk hq1
      have HQ2 := Aside0.mk hq2
      have HQL : Aside0 ((nums .i64 (List.replicate q v)).length = q) := ⟨by rw [nums_length, List.length_replicate]⟩
      clear hfit hmin hone hsrc hq hq1 hq2 hq3
      go_upto_region 9 with fail
      go_region_law (refine step_copy_splice rfl (.tmp 41) (.tmp 44) 22 22 rfl 3 Try.underlying22 HSZ.out (some ⟨g, k, none⟩) (some ⟨g, 0, none⟩) (n - k) (n - k) k n (by first | (simp [Act.eval, Act.put]; done) | (simp [Act.eval, Act.put]; omega)) (by first | (simp [Act.eval, Act.put]; done) | (simp [Act.eval, Act.put]; omega)) g k (nums .i64 (rep v k n)) 3 HR.out (nums .i64 (List.replicate q v)) HH.out.2.1 (fun _ => ⟨rfl, ⟨g, 0, none⟩, rfl, HH.out.2.2.2⟩) HH.out.1 HH.out.2.2.1 g w (below_drew HB.out) (Nat.le_refl _) ?_; intro w4 hr4 hb4; have HR5 := Aside0.mk hr4; have HB5 := Aside0.mk hb4; clear hr4 hb4)
      all_goals (go_wp2_with fail)
      all_goals
        have e1 : IntKind.i64.wrap ((k : Int) + ((nums .i64 (List.replicate q v)).length : Nat)) = ((k + q : Nat) : Int) := by rw [HQL.out, IntKind.wrap_i64]; have := HQ1.out; omega
        rw [e1]
        go_roundg (n - (k + q) + 1)
        case measure => have h1 := HK.out; have h2 := HQ1.out; have h3 := HQ2.out; omega
        case rel =>
          refine ⟨k + q, rfl, by have := HQ2.out; omega, HQ1.out, ⟨rfl⟩, ⟨?_⟩, HB5⟩
          have h : w4.heap[g]? = some (.cells (splice (nums .i64 (rep v k n)) k (nums .i64 (List.replicate q v))).toArray 3 (0, 0)) := HR5.out
          rw [HSp.out] at h
          exact h
    · have hkn : k = n := by omega
      have hlt' : ¬ (k : Int) < (n : Int) := by omega
      have HF : Aside0 (IRow wr g 3 (List.replicate n v)) := ⟨by
        have h := HR.out
        rw [hkn] at h
        have e : rep v n n = List.replicate n v := by unfold rep; simp
        rw [e] at h
        exact h⟩
      clear hkn
      go_wp2_with fail
      go_ret
      exact ⟨g, rfl, by rw [HG.out]; exact Nat.le_refl _, HF.out, by rw [HG.out]; exact HB.out⟩
end Go.Proofs.Ytlgpmpnobcdogaa.My

/- The walk of huff.Fixed, and the document's. -/
namespace Go.Proofs.Ytlgpmpnobcdogaa.My
open Go.RowKit Go.Proofs.Ytlgpmpnobcdogaa.MyDocMul Go.Proofs.Ytlgpmpnobcdogaa.MyDocFix Go.Proofs.YtlgpmpnobcdogaaW.PrintWords Go.Proofs.YtlgpmpnobcdogaaW.PrintLast Go.Proofs.YtlgpmpnobcdogaaW.PrintMore
set_option linter.unusedVariables false
set_option linter.unusedSimpArgs false

def letters : List Int := List.replicate 144 8 ++ (List.replicate 112 9 ++ (List.replicate 24 7 ++ List.replicate 8 8))
def dists : List Int := List.replicate 30 5
def letV (u : Nat) : Int := if 144 ≤ u ∧ u < 256 then 9 else if 256 ≤ u ∧ u < 280 then 7 else 8
def upTo (v : Nat → Int) (n i : Nat) : List Int := (List.range n).map fun u => if u < i then v u else 0
theorem upTo_len (v : Nat → Int) (n i : Nat) : (upTo v n i).length = n := by simp [upTo]
theorem upTo_set (v : Nat → Int) (n i : Nat) (x : Int) (hx : x = v i) : (upTo v n i).set i x = upTo v n (i + 1) := by
  apply List.ext_getElem
  · simp [upTo]
  · intro j a b
    rw [List.getElem_set]
    simp only [upTo, List.getElem_map, List.getElem_range]
    split
    · next e => subst e; rw [if_pos (by omega), hx]
    · next e =>
      by_cases h : j < i
      · rw [if_pos h, if_pos (by omega)]
      · rw [if_neg h, if_neg (by omega)]
theorem upTo_more (v : Nat → Int) (n i : Nat) (h : n ≤ i) : upTo v n (i + 1) = upTo v n i := by
  unfold upTo
  apply List.map_congr_left
  intro u hu
  have := List.mem_range.1 hu
  rw [if_pos (by omega), if_pos (by omega)]
theorem fix_step (k i : Nat) (hi : i < 288) : crossdockref07_Fixed.l0 (k + 4) (upTo letV 288 i) (upTo (fun _ => 5) 30 i) (i : Int) = crossdockref07_Fixed.l0 k (upTo letV 288 (i + 1)) (upTo (fun _ => 5) 30 (i + 1)) ((i + 1 : Nat) : Int) := by
  have w1 : wrap64 ((i : Int) + 1) = ((i + 1 : Nat) : Int) := by unfold wrap64; omega
  have h3 : ∀ (X : List Int), X.length = 288 → ∀ b : Bool, (b = true → X.set i 7 = upTo letV 288 (i + 1)) → (b = false → X = upTo letV 288 (i + 1)) → crossdockref07_Fixed.j3 (k + 1) X (upTo (fun _ => 5) 30 i) (i : Int) b = crossdockref07_Fixed.l0 k (upTo letV 288 (i + 1)) (upTo (fun _ => 5) 30 (i + 1)) ((i + 1 : Nat) : Int) := by
    intro X hX b h1 h2
    simp only [crossdockref07_Fixed.j3, upTo_len, hX, Int.toNat_natCast, Option.bind_some, w1]
    by_cases h30 : i < 30
    · cases b with
      | true => rw [if_pos rfl, if_pos (by omega), if_pos (by omega), if_pos (by omega), if_pos (by omega), h1 rfl, upTo_set _ _ _ _ rfl]
      | false => rw [if_neg (by decide), if_pos (by omega), if_pos (by omega), if_pos (by omega), h2 rfl, upTo_set _ _ _ _ rfl]
    · cases b with
      | true => rw [if_pos rfl, if_pos (by omega), if_pos (by omega), if_neg (by omega), h1 rfl, upTo_more (fun _ => 5) 30 i (by omega)]
      | false => rw [if_neg (by decide), if_neg (by omega), h2 rfl, upTo_more (fun _ => 5) 30 i (by omega)]
  have h0 : ∀ k', crossdockref07_Fixed.l0 (k' + 1) (upTo letV 288 i) (upTo (fun _ => 5) 30 i) (i : Int) = crossdockref07_Fixed.j1 k' ((upTo letV 288 i).set i 8) (upTo (fun _ => 5) 30 i) (i : Int) (decide (144 ≤ i ∧ i < 256)) := by
    intro k'
    simp only [crossdockref07_Fixed.l0, upTo_len, Int.toNat_natCast, Option.bind_some]
    rw [if_pos (by omega), if_pos (by omega), if_pos (by omega)]
    by_cases h : 144 ≤ i
    · rw [if_pos (by omega), show decide ((i : Int) < 256) = decide (144 ≤ i ∧ i < 256) from decide_eq_decide.2 (by omega)]
    · rw [if_neg (by omega), show decide (144 ≤ i ∧ i < 256) = false from decide_eq_false (by omega)]
  rw [show k + 4 = (k + 3) + 1 from rfl, h0, show k + 3 = (k + 2) + 1 from rfl]
  have h1 : ∀ k', crossdockref07_Fixed.j1 (k' + 1) ((upTo letV 288 i).set i 8) (upTo (fun _ => 5) 30 i) (i : Int) (decide (144 ≤ i ∧ i < 256)) = crossdockref07_Fixed.j2 k' ((upTo letV 288 i).set i (if 144 ≤ i ∧ i < 256 then 9 else 8)) (upTo (fun _ => 5) 30 i) (i : Int) := by
    intro k'
    simp only [crossdockref07_Fixed.j1, List.length_set, upTo_len, Int.toNat_natCast, List.set_set]
    by_cases h : 144 ≤ i ∧ i < 256
    · rw [decide_eq_true h, if_pos rfl, if_pos (by omega), if_pos (by omega), if_pos h]
    · rw [decide_eq_false h, if_neg (by decide), if_neg h]
  rw [h1, show k + 2 = (k + 1) + 1 from rfl]
  simp only [crossdockref07_Fixed.j2]
  by_cases h256 : 256 ≤ i
  · rw [if_pos (by omega)]
    refine h3 _ (by simp [upTo_len]) _ (fun hb => ?_) (fun hb => ?_)
    · have := of_decide_eq_true hb
      rw [List.set_set]
      exact upTo_set _ _ _ _ (by unfold letV; rw [if_neg (by omega), if_pos (by omega)])
    · have := of_decide_eq_false hb
      rw [if_neg (by omega)]
      exact upTo_set _ _ _ _ (by unfold letV; rw [if_neg (by omega), if_neg (by omega)])
  · rw [if_neg (by omega)]
    refine h3 _ (by simp [upTo_len]) _ (fun hb => by cases hb) (fun hb => ?_)
    by_cases h : 144 ≤ i
    · rw [if_pos (by omega)]
      exact upTo_set _ _ _ _ (by unfold letV; rw [if_pos (by omega)])
    · rw [if_neg (by omega)]
      exact upTo_set _ _ _ _ (by unfold letV; rw [if_neg (by omega), if_neg (by omega)])
theorem fix_run (k : Nat) : ∀ d i, i + d = 288 → crossdockref07_Fixed.l0 (k + 4 * d + 1) (upTo letV 288 i) (upTo (fun _ => 5) 30 i) (i : Int) = some (upTo letV 288 288, upTo (fun _ => 5) 30 288)
  | 0, i, h => by
    obtain rfl : i = 288 := by omega
    simp only [crossdockref07_Fixed.l0]
    rw [if_neg (by decide)]
  | d + 1, i, h => by
    rw [show k + 4 * (d + 1) + 1 = (k + 4 * d + 1) + 4 by omega, fix_step _ i (by omega)]
    exact fix_run k d (i + 1) (by omega)
theorem letters_eq : upTo letV 288 288 = letters := by decide +kernel
theorem dists_eq : upTo (fun _ => 5) 30 288 = dists := by decide +kernel
theorem doc_fixed : crossdockref07_Fixed.f (0 + 4 * 288 + 1) = some (letters, dists) := by
  unfold crossdockref07_Fixed.f
  rw [if_pos (by decide), if_pos (by decide), ← letters_eq, ← dists_eq]
  have h := fix_run 0 288 0 rfl
  have e1 : upTo letV 288 0 = List.replicate 288 0 := by decide +kernel
  have e2 : upTo (fun _ => 5) 30 0 = List.replicate 30 0 := by decide +kernel
  rw [e1, e2] at h
  exact h
theorem mul144 : bits_Mul.f 1 ((144 : Nat) : Int) = some (0, ((144 : Nat) : Int)) := by decide +kernel
theorem mul112 : bits_Mul.f 1 ((112 : Nat) : Int) = some (0, ((112 : Nat) : Int)) := by decide +kernel
theorem mul24 : bits_Mul.f 1 ((24 : Nat) : Int) = some (0, ((24 : Nat) : Int)) := by decide +kernel
theorem mul8 : bits_Mul.f 1 ((8 : Nat) : Int) = some (0, ((8 : Nat) : Int)) := by decide +kernel
theorem mul30 : bits_Mul.f 1 ((30 : Nat) : Int) = some (0, ((30 : Nat) : Int)) := by decide +kernel
/-- Repeat of a number just laid. -/
theorem rep_calls (w : World) (v : Int) (n : Nat) (h0 : 0 < n) (hn : n ≤ 1000000) (hm : bits_Mul.f 1 n = some (0, (n : Int))) :
    Calls Try.prog 41 #[.slice (some ⟨w.heap.size, 0, none⟩) 1 1, .int .i64 n] (w.alloc (.cells #[.int .i64 v] 3)) fun e w' => ∃ g, e = .returned (.slice (some ⟨g, 0, none⟩) n n) ∧ w.heap.size ≤ g ∧ IRow w' g 3 (List.replicate n v) ∧ Below w.heap.size w w' := by
  have hb : Below w.heap.size w (w.alloc (.cells #[.int .i64 v] 3)) := below_alloc (Below.refl _ _) _
  refine (repeat_calls (w.alloc (.cells #[.int .i64 v] 3)) ⟨w.heap.size, 0, none⟩ 1 v n ?_ h0 hn hm).mono ?_
  · have h : IRow (w.alloc (.cells #[.int .i64 v] 3)) w.heap.size 3 [v] := alloc_self _ _
    exact h.cell 0 (by simp)
  · rintro e w' ⟨g, rfl, h1, h2, h3⟩
    exact ⟨g, rfl, Nat.le_trans hb.size h1, h2, below_then hb hb.size h3⟩
set_option maxHeartbeats 4000000 in
set_option maxRecDepth 100000 in
theorem fixed_calls (w : World) : Calls Try.prog 26 #[] w fun e w' => ∃ (A1 A2 : Option Addr) (c1 c2 : Nat), e = .returned (.tuple #[.slice A1 288 c1, .slice A2 30 c2]) ∧ (Kd.int .i64).C w' A1 288 letters ∧ (Kd.int .i64).C w' A2 30 dists ∧ 288 ≤ c1 ∧ 30 ≤ c2 ∧ Below w.heap.size w w' := by
  have H1 : Aside0 (∀ wx, Calls Try.prog 41 #[.slice (some ⟨wx.heap.size, 0, none⟩) 1 1, .int .i64 144] (wx.alloc (.cells #[.int .i64 8] 3)) fun e w' => ∃ g, e = .returned (.slice (some ⟨g, 0, none⟩) 144 144) ∧ wx.heap.size ≤ g ∧ IRow w' g 3 (List.replicate 144 8) ∧ Below wx.heap.size wx w') := ⟨fun wx => rep_calls wx 8 144 (by decide) (by decide) mul144⟩
  have H2 : Aside0 (∀ wx, Calls Try.prog 41 #[.slice (some ⟨wx.heap.size, 0, none⟩) 1 1, .int .i64 112] (wx.alloc (.cells #[.int .i64 9] 3)) fun e w' => ∃ g, e = .returned (.slice (some ⟨g, 0, none⟩) 112 112) ∧ wx.heap.size ≤ g ∧ IRow w' g 3 (List.replicate 112 9) ∧ Below wx.heap.size wx w') := ⟨fun wx => rep_calls wx 9 112 (by decide) (by decide) mul112⟩
  have H3 : Aside0 (∀ wx, Calls Try.prog 41 #[.slice (some ⟨wx.heap.size, 0, none⟩) 1 1, .int .i64 24] (wx.alloc (.cells #[.int .i64 7] 3)) fun e w' => ∃ g, e = .returned (.slice (some ⟨g, 0, none⟩) 24 24) ∧ wx.heap.size ≤ g ∧ IRow w' g 3 (List.replicate 24 7) ∧ Below wx.heap.size wx w') := ⟨fun wx => rep_calls wx 7 24 (by decide) (by decide) mul24⟩
  have H4 : Aside0 (∀ wx, Calls Try.prog 41 #[.slice (some ⟨wx.heap.size, 0, none⟩) 1 1, .int .i64 8] (wx.alloc (.cells #[.int .i64 8] 3)) fun e w' => ∃ g, e = .returned (.slice (some ⟨g, 0, none⟩) 8 8) ∧ wx.heap.size ≤ g ∧ IRow w' g 3 (List.replicate 8 8) ∧ Below wx.heap.size wx w') := ⟨fun wx => rep_calls wx 8 8 (by decide) (by decide) mul8⟩
  have H5 : Aside0 (∀ wx, Calls Try.prog 41 #[.slice (some ⟨wx.heap.size, 0, none⟩) 1 1, .int .i64 30] (wx.alloc (.cells #[.int .i64 5] 3)) fun e w' => ∃ g, e = .returned (.slice (some ⟨g, 0, none⟩) 30 30) ∧ wx.heap.size ≤ g ∧ IRow w' g 3 (List.replicate 30 5) ∧ Below wx.heap.size wx w') := ⟨fun wx => rep_calls wx 5 30 (by decide) (by decide) mul30⟩
  go_enter Try.func26, Try.ntmps26
  go_wp2_with fail
  refine (H1.out _).mono ?_
  rintro e w1 ⟨g1, rfl, hg1, hr1, hb1⟩
  go_wp2_with fail
  refine (H2.out _).mono ?_
  rintro e w2 ⟨g2, rfl, hg2, hr2, hb2⟩
  go_wp2_with fail
  refine (H3.out _).mono ?_
  rintro e w3 ⟨g3, rfl, hg3, hr3, hb3⟩
  go_wp2_with fail
  refine (H4.out _).mono ?_
  rintro e w4 ⟨g4, rfl, hg4, hr4, hb4⟩
  have q1 := ((hr1.below hb2).below hb3).below hb4
  have q2 := (hr2.below hb3).below hb4
  have q3 := hr3.below hb4
  have HB := Aside0.mk (below_then (below_then (below_then hb1 hb1.size hb2) (Nat.le_trans hb1.size hb2.size) hb3) (Nat.le_trans (Nat.le_trans hb1.size hb2.size) hb3.size) hb4)
  have HQ := Aside0.mk (And.intro q1 (And.intro q2 (And.intro q3 hr4)))
  clear hr1 hr2 hr3 hr4 hb1 hb2 hb3 hb4 q1 q2 q3 hg1 hg2 hg3 hg4
  have HA : Aside0 (∀ i, i < 4 → ∃ (A : Option Addr) (c : Nat), (w4.alloc (.cells #[.slice (some ⟨g1, 0, none⟩) 144 144, .slice (some ⟨g2, 0, none⟩) 112 112, .slice (some ⟨g3, 0, none⟩) 24 24, .slice (some ⟨g4, 0, none⟩) 8 8] 22)).cell? ⟨w4.heap.size, i, none⟩ = some (.slice A ([List.replicate 144 8, List.replicate 112 9, List.replicate 24 7, List.replicate 8 (8 : Int)].getD i []).length c) ∧ (Kd.int .i64).C (w4.alloc (.cells #[.slice (some ⟨g1, 0, none⟩) 144 144, .slice (some ⟨g2, 0, none⟩) 112 112, .slice (some ⟨g3, 0, none⟩) 24 24, .slice (some ⟨g4, 0, none⟩) 8 8] 22)) A ([List.replicate 144 8, List.replicate 112 9, List.replicate 24 7, List.replicate 8 (8 : Int)].getD i []).length ([List.replicate 144 8, List.replicate 112 9, List.replicate 24 7, List.replicate 8 (8 : Int)].getD i [])) := ⟨fun i hi => by
    have hbe := below_alloc (Below.refl w4.heap.size w4) (.cells #[.slice (some ⟨g1, 0, none⟩) 144 144, .slice (some ⟨g2, 0, none⟩) 112 112, .slice (some ⟨g3, 0, none⟩) 24 24, .slice (some ⟨g4, 0, none⟩) 8 8] 22)
    have hc := blk_cell (alloc_self w4 (.cells #[.slice (some ⟨g1, 0, none⟩) 144 144, .slice (some ⟨g2, 0, none⟩) 112 112, .slice (some ⟨g3, 0, none⟩) 24 24, .slice (some ⟨g4, 0, none⟩) 8 8] 22))
    have : i = 0 ∨ i = 1 ∨ i = 2 ∨ i = 3 := by omega
    rcases this with rfl | rfl | rfl | rfl
    · exact ⟨_, _, hc 0, by have := (HQ.out.1.below hbe).reads (by simp); exact this⟩
    · exact ⟨_, _, hc 1, by have := (HQ.out.2.1.below hbe).reads (by simp); exact this⟩
    · exact ⟨_, _, hc 2, by have := (HQ.out.2.2.1.below hbe).reads (by simp); exact this⟩
    · exact ⟨_, _, hc 3, by have := (HQ.out.2.2.2.below hbe).reads (by simp); exact this⟩⟩
  have HC := Aside0.mk (concat_calls _ w4.heap.size 4 [List.replicate 144 8, List.replicate 112 9, List.replicate 24 7, List.replicate 8 (8 : Int)] letters rfl rfl (by decide) (by decide +kernel) (by decide +kernel) HA.out)
  have hll : letters.length = 288 := by decide +kernel
  have HB4 := Aside0.mk (below_then HB.out HB.out.size (below_alloc (Below.refl w4.heap.size w4) (.cells #[.slice (some ⟨g1, 0, none⟩) 144 144, .slice (some ⟨g2, 0, none⟩) 112 112, .slice (some ⟨g3, 0, none⟩) 24 24, .slice (some ⟨g4, 0, none⟩) 8 8] 22)))
  rw [hll] at HC
  clear hll HA HQ H1 H2 H3 H4
  go_wp2_with fail
  refine (HC.out).mono ?_
  rintro e w5 ⟨v5, rfl, ho5, hb5⟩
  obtain ⟨A5, c5, rfl, hc5, hC5⟩ := own_slice' ho5
  have HB5 := Aside0.mk (below_then HB4.out HB4.out.size hb5)
  have HC5 := Aside0.mk hC5
  clear ho5 hb5 hC5
  go_wp2_with fail
  refine (H5.out _).mono ?_
  rintro e w6 ⟨g6, rfl, hg6, hr6, hb6⟩
  have HB6 := Aside0.mk (below_then HB5.out HB5.out.size hb6)
  have HC6 := Aside0.mk (And.intro (Kd.C_below HC5.out hb6) hr6)
  have HH := Aside0.mk hc5
  clear hg6 hr6 hb6 hc5
  go_wp2_with fail
  go_ret2
  exact ⟨A5, _, c5, 30, rfl, HC6.out.1, by have := HC6.out.2.reads (by simp); exact this, HH.out, Nat.le_refl _, HB6.out⟩
end Go.Proofs.Ytlgpmpnobcdogaa.My

/- crossdocknum's Ints at the same numbers. -/
namespace Go.Proofs.Ytlgpmpnobcdogaa.My
open Go.RowKit Go.Proofs.Ytlgpmpnobcdogaa.Huf Go.Proofs.Ytlgpmpnobcdogaa.MyDocCodes Go.Proofs.YtlgpmpnobcdogaaW.PrintWords Go.Proofs.YtlgpmpnobcdogaaW.PrintLast Go.Proofs.YtlgpmpnobcdogaaW.PrintMore
set_option linter.unusedVariables false
set_option linter.unusedSimpArgs false

theorem ints_same (L : List Int) (hl : L.length ≤ 1000000) : ∀ d k s, s + d = L.length → crossdocknum_Ints.l0 (k + d + 1) L L (L.length : Int) (s : Int) = some true
  | 0, k, s, hs => by
    simp only [crossdocknum_Ints.l0]
    rw [if_neg (by omega)]
  | d + 1, k, s, hs => by
    have ih := ints_same L hl d k (s + 1) (by omega)
    rw [show k + (d + 1) + 1 = (k + d + 1) + 1 by omega]
    generalize k + d + 1 = q at *
    simp only [crossdocknum_Ints.l0]
    rw [if_pos (by omega), if_pos (by omega), if_pos (by omega), if_pos (by omega), if_pos trivial, wr1 s (by omega)]
    exact ih
theorem ints_equal (w : World) (A0 A1 : Option Addr) (c0 c1 n : Nat) (L : List Int) (hl : L.length = n) (hn : n ≤ 1000000) (h0 : (Kd.int .i64).C w A0 n L) (h1 : (Kd.int .i64).C w A1 n L) (h2 : n ≤ c0) (h3 : n ≤ c1) :
    Calls Try.prog 10 #[.slice A0 n c0, .slice A1 n c1] w fun e w' => e = .returned (.bool true) ∧ Below w.heap.size w w' := by
  subst hl
  refine (crossdocknum_Ints.calls (0 + L.length + 1) A0 c0 L A1 c1 L true w h0 h2 h1 h3 ?_).mono ?_
  · unfold crossdocknum_Ints.f
    rw [if_pos rfl]
    exact ints_same L hn L.length 0 0 (by omega)
  · rintro e w' ⟨rfl, hd⟩
    exact ⟨rfl, hd.below⟩
end Go.Proofs.Ytlgpmpnobcdogaa.My

/- Taking a sign off bits, plainly. No program in sight. -/
namespace Go.Proofs.Ytlgpmpnobcdogaa.Huf
set_option linter.unusedVariables false
set_option linter.unusedSimpArgs false

/-- A bit of a number, and so many bits from a bit on, the first one the highest. -/
def bv (V i : Nat) : Nat := V / 2 ^ i % 2
def cd (V a : Nat) : Nat → Nat
  | 0 => 0
  | n + 1 => 2 * cd V a n + bv V (a + n)
theorem bv_lt (V i : Nat) : bv V i < 2 := Nat.mod_lt _ (by decide)
theorem cd_lt (V a : Nat) : ∀ n, cd V a n < 2 ^ n
  | 0 => by simp [cd]
  | n + 1 => by
    have := cd_lt V a n
    have := bv_lt V (a + n)
    rw [cd, Nat.pow_succ]
    omega
theorem cd_div (V a n : Nat) : ∀ k, cd V a (n + k) / 2 ^ k = cd V a n
  | 0 => by simp
  | k + 1 => by
    rw [← Nat.add_assoc, cd, Nat.pow_succ, Nat.mul_comm (2 ^ k) 2, ← Nat.div_div_eq_div_mul]
    have := bv_lt V (a + (n + k))
    rw [show (2 * cd V a (n + k) + bv V (a + (n + k))) / 2 = cd V a (n + k) by omega]
    exact cd_div V a n k
/-- A sign with so many ahead of it of its length. -/
theorem sign_at (L : List Int) (n q : Nat) : ∀ i, i ≤ L.length → q < cn (L.take i) n → ∃ s, s < i ∧ L.getD s 0 = (n : Int) ∧ cn (L.take s) n = q
  | 0, _, h => by simp [cn] at h
  | i + 1, hi, h => by
    have hx : L[i]? = some (L.getD i 0) := by rw [List.getD_eq_getElem?_getD, List.getElem?_eq_getElem (by omega)]; rfl
    rw [cn_take L i n _ hx] at h
    by_cases h1 : q < cn (L.take i) n
    · obtain ⟨s, a, b, c⟩ := sign_at L n q i (by omega) h1
      exact ⟨s, by omega, b, c⟩
    · by_cases e : L.getD i 0 = (n : Int)
      · rw [if_pos e] at h
        exact ⟨i, by omega, e, by omega⟩
      · rw [if_neg e] at h
        omega
/-- Is this the sign's length? -/
def Has (L : List Int) (s n : Nat) : Prop := s < L.length ∧ n ≠ 0 ∧ L.getD s 0 = (n : Int)
theorem code_has (L : List Int) (s n : Nat) (h : Has L s n) : code L s = fst L n + cn (L.take s) n := by
  unfold code
  rw [h.2.2, Int.toNat_natCast]
  exact if_neg h.2.1
theorem has_range (L : List Int) (s n : Nat) (h : Has L s n) : fst L n ≤ code L s ∧ code L s < fst L n + cn L n := by
  rw [code_has L s n h]
  have := pos_lt L s h.1 n h.2.2 h.2.1
  omega
theorem range_has (L : List Int) (n c : Nat) (h0 : n ≠ 0) (h1 : fst L n ≤ c) (h2 : c < fst L n + cn L n) : ∃ s, Has L s n ∧ code L s = c := by
  obtain ⟨s, a, b, e⟩ := sign_at L n (c - fst L n) L.length (Nat.le_refl _) (by rw [List.take_length]; omega)
  have h : Has L s n := ⟨a, h0, b⟩
  exact ⟨s, h, by rw [code_has L s n h, e]; omega⟩
theorem fst_grow (L : List Int) (n : Nat) (h0 : n ≠ 0) : ∀ k, (fst L n + cn L n) * 2 ^ (k + 1) ≤ fst L (n + (k + 1))
  | 0 => by
    rw [fst]
    unfold c0
    rw [if_neg h0]
    omega
  | k + 1 => by
    have h := fst_grow L n h0 k
    rw [show n + (k + 1 + 1) = (n + (k + 1)) + 1 by omega, fst, Nat.pow_succ, ← Nat.mul_assoc]
    omega
/-- No code begins with another one. -/
theorem apart (L : List Int) (s t n m : Nat) (hs : Has L s n) (ht : Has L t m) (hnm : n < m) : code L t / 2 ^ (m - n) ≠ code L s := by
  obtain ⟨k, rfl⟩ : ∃ k, m = n + (k + 1) := ⟨m - n - 1, by omega⟩
  have h1 := fst_grow L n hs.2.1 k
  have h2 := has_range L s n hs
  have h3 := has_range L t _ ht
  rw [show n + (k + 1) - n = k + 1 by omega]
  intro e
  have h4 : (code L s + 1) * 2 ^ (k + 1) ≤ (fst L n + cn L n) * 2 ^ (k + 1) := Nat.mul_le_mul_right _ (by omega)
  have h5 : code L t < (code L s + 1) * 2 ^ (k + 1) := by
    rw [← e, Nat.add_mul, Nat.one_mul]
    exact Nat.lt_div_mul_add (Nat.two_pow_pos _)
  omega
theorem cn_step (L : List Int) (s t n : Nat) (hs : Has L s n) (h : s < t) (ht : t ≤ L.length) : cn (L.take s) n < cn (L.take t) n := by
  have hx : L[s]? = some (L.getD s 0) := by rw [List.getD_eq_getElem?_getD, List.getElem?_eq_getElem hs.1]; rfl
  have h1 := cn_take L s n _ hx
  rw [if_pos hs.2.2] at h1
  obtain ⟨k, rfl⟩ : ∃ k, t = (s + 1) + k := ⟨t - (s + 1), by omega⟩
  have := cn_mono L n (s + 1) k
  omega
/-- Signs of a length have codes of their own. -/
theorem code_inj (L : List Int) (s t n : Nat) (hs : Has L s n) (ht : Has L t n) (e : code L s = code L t) : s = t := by
  rw [code_has L s n hs, code_has L t n ht] at e
  rcases Nat.lt_trichotomy s t with h | h | h
  · have := cn_step L s t n hs h (Nat.le_of_lt ht.1); omega
  · exact h
  · have := cn_step L t s n ht h (Nat.le_of_lt hs.1); omega
/-- The bits begin with the sign's code; or they end within it. -/
def Fits (L : List Int) (V a left s n : Nat) : Prop := Has L s n ∧ n ≤ left ∧ code L s = cd V a n
def Cuts (L : List Int) (V a left s n : Nat) : Prop := Has L s n ∧ left < n ∧ code L s / 2 ^ (n - left) = cd V a left
theorem fits_one (L : List Int) (V a left s t n m : Nat) (h : Fits L V a left s n) (k : Fits L V a left t m) : s = t ∧ n = m := by
  rcases Nat.lt_trichotomy n m with c | c | c
  · obtain ⟨d, rfl⟩ : ∃ d, m = n + d := ⟨m - n, by omega⟩
    exact absurd (by rw [k.2.2, h.2.2, show n + d - n = d by omega]; exact cd_div V a n d) (apart L s t n (n + d) h.1 k.1 c)
  · subst c
    exact ⟨code_inj L s t n h.1 k.1 (by rw [h.2.2, k.2.2]), rfl⟩
  · obtain ⟨d, rfl⟩ : ∃ d, n = m + d := ⟨n - m, by omega⟩
    exact absurd (by rw [h.2.2, k.2.2, show m + d - m = d by omega]; exact cd_div V a m d) (apart L t s m (m + d) k.1 h.1 c)
/-- The middle numbers of a length: is there one that begins with these bits? -/
def meets (L : List Int) (c len n : Nat) : Bool := decide (0 < cn L n) && (decide (fst L n < (c + 1) * 2 ^ (n - len)) && decide (c * 2 ^ (n - len) < fst L n + cn L n))
theorem meets_iff (L : List Int) (c len n : Nat) (h0 : n ≠ 0) : meets L c len n = true ↔ ∃ s, Has L s n ∧ code L s / 2 ^ (n - len) = c := by
  unfold meets
  generalize n - len = k
  constructor
  · intro h
    simp only [Bool.and_eq_true, decide_eq_true_eq] at h
    obtain ⟨h1, h2, h3⟩ := h
    have hp := Nat.two_pow_pos k
    have h5 : (c + 1) * 2 ^ k = c * 2 ^ k + 2 ^ k := Nat.succ_mul _ _
    by_cases hm : fst L n ≤ c * 2 ^ k
    · obtain ⟨s, hs, e⟩ := range_has L n (c * 2 ^ k) h0 hm h3
      exact ⟨s, hs, by rw [e]; exact Nat.mul_div_cancel _ hp⟩
    · obtain ⟨s, hs, e⟩ := range_has L n (fst L n) h0 (Nat.le_refl _) (by omega)
      refine ⟨s, hs, ?_⟩
      rw [e]
      apply Nat.div_eq_of_lt_le
      · omega
      · exact h2
  · rintro ⟨s, hs, e⟩
    have h := has_range L s n hs
    have hp := Nat.two_pow_pos k
    have h5 : (c + 1) * 2 ^ k = c * 2 ^ k + 2 ^ k := Nat.succ_mul _ _
    have h6 : c * 2 ^ k ≤ code L s := by rw [← e]; exact Nat.div_mul_le_self _ _
    have h7 : code L s < c * 2 ^ k + 2 ^ k := by rw [← e]; exact Nat.lt_div_mul_add hp
    simp only [Bool.and_eq_true, decide_eq_true_eq]
    omega
/-- Bits that end: one of so many lengths, from n on, has a code that begins with them. -/
def anyMeets (L : List Int) (c len : Nat) : Nat → Nat → Bool
  | 0, _ => false
  | k + 1, n => meets L c len n || anyMeets L c len k (n + 1)
theorem anyMeets_iff (L : List Int) (c len : Nat) : ∀ k n, anyMeets L c len k n = true ↔ ∃ m, n ≤ m ∧ m < n + k ∧ meets L c len m = true
  | 0, n => by simp [anyMeets]; intro m h1 h2; omega
  | k + 1, n => by
    rw [anyMeets, Bool.or_eq_true, anyMeets_iff L c len k (n + 1)]
    constructor
    · rintro (h | ⟨m, h1, h2, h3⟩)
      · exact ⟨n, Nat.le_refl _, by omega, h⟩
      · exact ⟨m, by omega, by omega, h3⟩
    · rintro ⟨m, h1, h2, h3⟩
      by_cases e : m = n
      · subst e; exact .inl h3
      · exact .inr ⟨m, by omega, by omega, h3⟩
/-- What Take answers: a sign and how many bits it took, or an error. -/
inductive TakeR (L : List Int) (V a left : Nat) : Int → Nat → Option Int → Prop
  | sign (s n : Nat) (h : Fits L V a left s n) : TakeR L V a left (s : Int) n none
  | ends (h : ∀ s n, ¬ Fits L V a left s n) (s n : Nat) (h1 : Cuts L V a left s n) : TakeR L V a left 0 0 (some 10)
  | form (h : ∀ s n, ¬ Fits L V a left s n) (h1 : ∀ s n, ¬ Cuts L V a left s n) : TakeR L V a left 0 0 (some 2)
theorem takeR_one {L : List Int} {V a left : Nat} {x y : Int} {n m : Nat} {e f : Option Int} (h : TakeR L V a left x n e) (k : TakeR L V a left y m f) : x = y ∧ n = m ∧ e = f := by
  cases h with
  | sign s n h =>
    cases k with
    | sign t m k => obtain ⟨rfl, rfl⟩ := fits_one L V a left s t n m h k; exact ⟨rfl, rfl, rfl⟩
    | ends k => exact absurd h (k _ _)
    | form k => exact absurd h (k _ _)
  | ends h s n h1 =>
    cases k with
    | sign t m k => exact absurd k (h _ _)
    | ends => exact ⟨rfl, rfl, rfl⟩
    | form _ k => exact absurd h1 (k _ _)
  | form h h1 =>
    cases k with
    | sign t m k => exact absurd k (h _ _)
    | ends _ s n k => exact absurd k (h1 _ _)
    | form => exact ⟨rfl, rfl, rfl⟩
end Go.Proofs.Ytlgpmpnobcdogaa.Huf

/- The walk of huff.Code's short. -/
namespace Go.Proofs.Ytlgpmpnobcdogaa.My
open Go.RowKit Go.Proofs.Ytlgpmpnobcdogaa.Huf Go.Proofs.YtlgpmpnobcdogaaW.PrintWords Go.Proofs.YtlgpmpnobcdogaaW.PrintLast Go.Proofs.YtlgpmpnobcdogaaW.PrintMore
set_option linter.unusedVariables false
set_option linter.unusedSimpArgs false

theorem wr_lo (c len n : Nat) (hc : c < 2 ^ len) (h : len ≤ n) (h15 : n ≤ 15) : wrap64 ((c : Int) * 2 ^ (n - len)) = ((c * 2 ^ (n - len) : Nat) : Int) ∧ c * 2 ^ (n - len) ≤ 32768 := by
  have h1 : c * 2 ^ (n - len) ≤ 2 ^ len * 2 ^ (n - len) := Nat.mul_le_mul_right _ (Nat.le_of_lt hc)
  rw [← Nat.pow_add, show len + (n - len) = n by omega] at h1
  have h2 : 2 ^ n ≤ 2 ^ 15 := Nat.pow_le_pow_right (by decide) h15
  have h3 : c * 2 ^ (n - len) ≤ 32768 := Nat.le_trans h1 h2
  have e : (c : Int) * 2 ^ (n - len) = ((c * 2 ^ (n - len) : Nat) : Int) := by push_cast; rfl
  rw [e]
  clear h1 h2 e
  generalize c * 2 ^ (n - len) = q at *
  exact ⟨by unfold wrap64; omega, h3⟩
theorem wr_one (n : Nat) (h15 : n ≤ 15) : wrap64 (2 ^ n) = ((2 ^ n : Nat) : Int) ∧ 2 ^ n ≤ 32768 := by
  have h2 : 2 ^ n ≤ 2 ^ 15 := Nat.pow_le_pow_right (by decide) h15
  have h3 : 2 ^ n ≤ 32768 := h2
  have e : (2 : Int) ^ n = ((2 ^ n : Nat) : Int) := by push_cast; rfl
  rw [e]
  clear h2 e
  generalize 2 ^ n = q at *
  exact ⟨by unfold wrap64; omega, h3⟩
theorem wr_hi (a b : Nat) (h1 : a ≤ 32768) (h2 : b ≤ 32768) : wrap64 ((a : Int) + (b : Int)) = ((a + b : Nat) : Int) := by unfold wrap64; omega
theorem meets_eq (L : List Int) (c len n : Nat) : meets L c len n = (decide (0 < cn L n) && (decide (fst L n < c * 2 ^ (n - len) + 2 ^ (n - len)) && decide (c * 2 ^ (n - len) < fst L n + cn L n))) := by
  unfold meets
  rw [Nat.succ_mul]
set_option maxHeartbeats 4000000 in
set_option maxRecDepth 100000 in
theorem short_calls (w : World) (lo hi g : Nat) (L : List Int) (k : CodeAt w lo hi g L) (hl : L.length ≤ 1000000) (hov : anyOver L 15 1 = false) (c len : Nat) (hc : c < 2 ^ len) (hlen : len ≤ 15) :
    Calls Try.prog 38 #[.pointer (some ⟨g, 0, none⟩), .int .i64 c, .int .i64 len] w fun e w' => e = .returned (errV (some (if anyMeets L c len (15 - len) (len + 1) then 10 else 2))) ∧ ∃ m, w' = w.drewN m := by
  obtain ⟨r, hr⟩ : ∃ r : Int, r = if anyMeets L c len (15 - len) (len + 1) then 10 else 2 := ⟨_, rfl⟩
  rw [← hr]
  have HR := Aside0.mk hr
  obtain ⟨A, A1, A2, c0, c1, c2, S, k, r0, r1, r2, hS, h1, h2⟩ := k.out
  have HK0 := Aside0.mk k
  have HOv := Aside0.mk hov
  have HLn := Aside0.mk hl
  have hlen2 : (len : Int) ≤ 15 := by omega
  have HC := Aside0.mk hc
  clear k r0 r1 r2 hS hov hl hc hr
  go_enter Try.func38, Try.ntmps38
  go_wp2_with fail
  go_loopg [7] 16 (fun kq v7 wr => ∃ d : Nat, v7 = .int .i64 ((len : Int) + 1 + d) ∧ len + 1 + d ≤ 16 ∧ Aside0 (kq = 16 - d) ∧ Aside0 (∃ m, wr = w.drewN m) ∧ Aside0 (anyMeets L c len (15 - len - d) (len + 1 + d) = anyMeets L c len (15 - len) (len + 1)))
  case atStart => exact ⟨0, by simp, by omega, ⟨rfl⟩, ⟨0, rfl⟩, ⟨rfl⟩⟩
  case round =>
    obtain ⟨d, rfl, hd, HK, HW, HA⟩ := hrel
    obtain ⟨m, rfl⟩ := HW.out
    by_cases hlt : len + 1 + d ≤ 15
    · have hlt' : (len : Int) + 1 + (d : Int) ≤ 15 := by omega
      go_upto_region 6 with fail
      obtain ⟨w1, b1⟩ := wr_lo c len (len + 1 + d) HC.out (by omega) hlt
      obtain ⟨w2, b2⟩ := wr_one (len + 1 + d - len) (by omega)
      rw [w1, w2, wr_hi _ _ b1 b2]
      have hme := meets_eq L c len (len + 1 + d)
      have hov := over_all L 15 1 HOv.out
      have hF := pow15 (len + 1 + d) _ hlt (fst_le L (len + 1 + d) (fun j h1 h2 => hov j h1 (by omega)))
      have hC := Nat.le_trans (cn_le L (len + 1 + d)) HLn.out
      have cf := HK0.out.cf (len + 1 + d) (by omega)
      rw [upto_get _ _ (len + 1 + d) (by omega) (by omega)] at cf
      have cm := HK0.out.cm (len + 1 + d) (by omega)
      rw [tab_get _ (len + 1 + d) (by omega), show Huf.c0 L (len + 1 + d) = cn L (len + 1 + d) by unfold Huf.c0; rw [if_neg (by omega)]] at cm
      have hany : anyMeets L c len (15 - len - d) (len + 1 + d) = (meets L c len (len + 1 + d) || anyMeets L c len (15 - len - (d + 1)) (len + 1 + (d + 1))) := by
        rw [show 15 - len - d = (15 - len - (d + 1)) + 1 by omega]
        rfl
      have HAny := Aside0.mk hany
      have hFi : ((fst L (len + 1 + d) : Nat) : Int) ≤ 1000000 := by omega
      have hCi : ((cn L (len + 1 + d) : Nat) : Int) ≤ 1000000 := by omega
      have HN15 := Aside0.mk hlt
      clear w1 w2 hov hF hC hany
      generalize c * 2 ^ (len + 1 + d - len) = X at *
      generalize 2 ^ (len + 1 + d - len) = Y at *
      generalize fst L (len + 1 + d) = F at *
      generalize cn L (len + 1 + d) = N at *
      have bx : ((X + Y : Nat) : Int) ≤ 65536 := by omega
      by_cases q1 : 0 < N
      · have q1' : (0 : Int) < (N : Int) := by omega
        by_cases q2 : F < X + Y
        · have q2' : (F : Int) < ((X + Y : Nat) : Int) := by omega
          by_cases q3 : X < F + N
          · have q3' : (X : Int) < (F : Int) + (N : Int) := by omega
            have HM : Aside0 (r = 10) := ⟨by
              have h1 : meets L c len (len + 1 + d) = true := by rw [hme]; simp [q1, q2, q3]
              have h2 := HAny.out
              rw [h1, Bool.true_or, HA.out] at h2
              rw [HR.out, if_pos h2]⟩
            clear hme HAny
            generalize X + Y = Z at *
            go_quiet (fail)
            go_wp2_with fail
            go_ret
            have hr2 := HM.out
            subst hr2
            exact ⟨rfl, _, rfl⟩
          · have q3' : ¬ (X : Int) < (F : Int) + (N : Int) := by omega
            have HM : Aside0 (anyMeets L c len (15 - len - (d + 1)) (len + 1 + (d + 1)) = anyMeets L c len (15 - len) (len + 1)) := ⟨by
              have h1 : meets L c len (len + 1 + d) = false := by rw [hme]; simp; omega
              have h2 := HAny.out
              rw [h1, Bool.false_or, HA.out] at h2
              exact h2.symm⟩
            clear hme HAny
            generalize X + Y = Z at *
            go_quiet (fail)
            go_wp2_with fail
            have e1 : (len : Int) + 1 + (d : Int) + 1 = (len : Int) + 1 + ((d + 1 : Nat) : Int) := by omega
            rw [e1]
            go_roundg (16 - (d + 1))
            case measure => have := HK.out; omega
            case rel => exact ⟨d + 1, rfl, by have := HN15.out; omega, ⟨rfl⟩, ⟨_, rfl⟩, HM⟩
        · have q2' : ¬ (F : Int) < ((X + Y : Nat) : Int) := by omega
          have HM : Aside0 (anyMeets L c len (15 - len - (d + 1)) (len + 1 + (d + 1)) = anyMeets L c len (15 - len) (len + 1)) := ⟨by
            have h1 : meets L c len (len + 1 + d) = false := by rw [hme]; simp; omega
            have h2 := HAny.out
            rw [h1, Bool.false_or, HA.out] at h2
            exact h2.symm⟩
          clear hme HAny
          generalize X + Y = Z at *
          go_quiet (fail)
          go_wp2_with fail
          have e1 : (len : Int) + 1 + (d : Int) + 1 = (len : Int) + 1 + ((d + 1 : Nat) : Int) := by omega
          rw [e1]
          go_roundg (16 - (d + 1))
          case measure => have := HK.out; omega
          case rel => exact ⟨d + 1, rfl, by have := HN15.out; omega, ⟨rfl⟩, ⟨_, rfl⟩, HM⟩
      · have q1' : ¬ (0 : Int) < (N : Int) := by omega
        have HM : Aside0 (anyMeets L c len (15 - len - (d + 1)) (len + 1 + (d + 1)) = anyMeets L c len (15 - len) (len + 1)) := ⟨by
          have h1 : meets L c len (len + 1 + d) = false := by rw [hme]; simp; omega
          have h2 := HAny.out
          rw [h1, Bool.false_or, HA.out] at h2
          exact h2.symm⟩
        clear hme HAny
        generalize X + Y = Z at *
        go_quiet (fail)
        go_wp2_with fail
        have e1 : (len : Int) + 1 + (d : Int) + 1 = (len : Int) + 1 + ((d + 1 : Nat) : Int) := by omega
        rw [e1]
        go_roundg (16 - (d + 1))
        case measure => have := HK.out; omega
        case rel => exact ⟨d + 1, rfl, by have := HN15.out; omega, ⟨rfl⟩, ⟨_, rfl⟩, HM⟩
    · have hlt' : ¬ (len : Int) + 1 + (d : Int) ≤ 15 := by omega
      have HM : Aside0 (anyMeets L c len (15 - len) (len + 1) = false) := ⟨by rw [← HA.out, show 15 - len - d = 0 by omega]; rfl⟩
      go_wp2_with fail
      go_ret
      have hr2 := HR.out
      rw [HM.out] at hr2
      subst hr2
      exact ⟨rfl, m, rfl⟩
end Go.Proofs.Ytlgpmpnobcdogaa.My

/- The walks of bits.Writer. -/
namespace Go.Proofs.Ytlgpmpnobcdogaa.My
open Go.RowKit Go.Proofs.YtlgpmpnobcdogaaW.PrintWords Go.Proofs.YtlgpmpnobcdogaaW.PrintLast Go.Proofs.YtlgpmpnobcdogaaW.PrintMore

/-- A writer at a block: its text's slice, the text, what is held, how many bits that is. -/
structure Wr (w : World) (B g : Nat) (v : Value) (t : List Int) (h m : Nat) : Prop where
  blk : w.heap[g]? = some (.cells #[v, .int .u64 h, .int .i64 m] 74 (0, 0))
  row : w.ownsRow B 5 1 v t.length (nums .u8 t)
  bg : B ≤ g
/-- What a call on a writer has turned: its block, its text's row. -/
structure Grew (w w' : World) (g : Nat) (v v' : Value) : Prop where
  os : w'.os = w.os
  tape : w'.tape = w.tape
  output : w'.output = w.output
  keep : KeepBut w w' g v.ownBlock
  at_ : v'.ownBlock = v.ownBlock ∨ ∃ b, v'.ownBlock = some b ∧ w.heap.size ≤ b
theorem Grew.refl (w : World) (g : Nat) (v : Value) : Grew w w g v v := ⟨rfl, rfl, rfl, KeepBut.refl _ _ _, .inl rfl⟩
theorem Grew.trans {w w1 w2 : World} {g : Nat} {v v1 v2 : Value} (h : Grew w w1 g v v1) (k : Grew w1 w2 g v1 v2) : Grew w w2 g v v2 :=
  ⟨k.os.trans h.os, k.tape.trans h.tape, k.output.trans h.output, h.keep.trans k.keep h.at_, by
    rcases k.at_ with e | ⟨b, e, hb⟩
    · rw [e]; exact h.at_
    · exact .inr ⟨b, e, Nat.le_trans h.keep.1 hb⟩⟩
theorem Grew.drewN {w w1 : World} {g : Nat} {v v1 : Value} (h : Grew w w1 g v v1) (n : Nat) : Grew w (w1.drewN n) g v v1 := ⟨h.os, h.tape, h.output, ⟨h.keep.1, h.keep.2⟩, h.at_⟩
theorem Grew.cut {w w1 : World} {g : Nat} {v v1 : Value} (h : Grew w.drew w1 g v v1) : Grew w w1 g v v1 := ⟨h.os, h.tape, h.output, ⟨h.keep.1, h.keep.2⟩, h.at_⟩
theorem Grew.drew {w w1 : World} {g : Nat} {v v1 : Value} (h : Grew w w1 g v v1) : Grew w w1.drew g v v1 := ⟨h.os, h.tape, h.output, ⟨h.keep.1, h.keep.2⟩, h.at_⟩
theorem Grew.set {w w1 : World} {g : Nat} {v v1 : Value} (h : Grew w w1 g v v1) (j : Nat) (u : Value) : Grew w (w1.setCell ⟨g, j, none⟩ u) g v v1 := ⟨h.os, h.tape, h.output, h.keep.set_ j u, h.at_⟩
theorem Wr.drewN {w : World} {B g : Nat} {v : Value} {t : List Int} {h m : Nat} (k : Wr w B g v t h m) (n : Nat) : Wr (w.drewN n) B g v t h m := ⟨k.blk, pw_own_below k.row (pw_below_drewN (Below.refl _ _) n), k.bg⟩
theorem Wr.drew {w : World} {B g : Nat} {v : Value} {t : List Int} {h m : Nat} (k : Wr w B g v t h m) : Wr w.drew B g v t h m := ⟨k.blk, pw_own_below k.row (below_drew (Below.refl _ _)), k.bg⟩
theorem Wr.ne {w : World} {B g : Nat} {v : Value} {t : List Int} {h m : Nat} (k : Wr w B g v t h m) : some g ≠ v.ownBlock := own_ne k.row k.blk (by decide)
/-- held and many are written. -/
theorem Wr.set1 {w : World} {B g : Nat} {v : Value} {t : List Int} {h m : Nat} (k : Wr w B g v t h m) (h' : Nat) : Wr (w.setCell ⟨g, 1, none⟩ (.int .u64 h')) B g v t h' m :=
  ⟨by have := blk_set k.blk 1 (.int .u64 h'); simpa using this, own_setCell k.row k.ne _, k.bg⟩
theorem Wr.set2 {w : World} {B g : Nat} {v : Value} {t : List Int} {h m : Nat} (k : Wr w B g v t h m) (m' : Nat) : Wr (w.setCell ⟨g, 2, none⟩ (.int .i64 m')) B g v t h m' :=
  ⟨by have := blk_set k.blk 2 (.int .i64 m'); simpa using this, own_setCell k.row k.ne _, k.bg⟩
end Go.Proofs.Ytlgpmpnobcdogaa.My

/- Bits as a number: what a writer holds, what a reader takes. No program in sight. -/
namespace Go.Proofs.Ytlgpmpnobcdogaa.My
open Go.RowKit

/-- The bytes of a number, the lowest one first. -/
def leB (V k : Nat) : List Int := (List.range k).map fun i => ((V / 2 ^ (8 * i) % 256 : Nat) : Int)
@[simp] theorem leB_len (V k : Nat) : (leB V k).length = k := by simp [leB]
theorem leB_succ (V k : Nat) : leB V (k + 1) = leB V k ++ [((V / 2 ^ (8 * k) % 256 : Nat) : Int)] := by simp [leB, List.range_succ]
theorem leB_congr {V V' k : Nat} (h : V % 2 ^ (8 * k) = V' % 2 ^ (8 * k)) : leB V k = leB V' k := by
  have aux : ∀ U i, i < k → U / 2 ^ (8 * i) % 256 = U % 2 ^ (8 * k) / 2 ^ (8 * i) % 256 := by
    intro U i hi
    have e : 2 ^ (8 * k) = 2 ^ (8 * i) * 2 ^ (8 * (k - i)) := by rw [← Nat.pow_add]; congr 1; omega
    rw [e, Nat.mod_mul_right_div_self]
    exact (Nat.mod_mod_of_dvd _ (Nat.pow_dvd_pow (m := 8) 2 (by omega))).symm
  unfold leB
  refine List.map_congr_left fun i hi => ?_
  rw [aux V i (List.mem_range.1 hi), h, ← aux V' i (List.mem_range.1 hi)]
theorem leB_add (V x N k : Nat) (h : 8 * k ≤ N) : leB (V + x * 2 ^ N) k = leB V k := by
  refine leB_congr ?_
  rw [show 2 ^ N = 2 ^ (N - 8 * k) * 2 ^ (8 * k) by rw [← Nat.pow_add]; congr 1; omega, ← Nat.mul_assoc, Nat.add_mul_mod_self_right]
theorem held_add (V x N q : Nat) (h : 8 * q ≤ N) : (V + x * 2 ^ N) / 2 ^ (8 * q) = V / 2 ^ (8 * q) + x * 2 ^ (N - 8 * q) := by
  rw [show 2 ^ N = 2 ^ (N - 8 * q) * 2 ^ (8 * q) by rw [← Nat.pow_add]; congr 1; omega, ← Nat.mul_assoc, Nat.add_mul_div_right _ _ (Nat.two_pow_pos _)]
theorem held_lt {V N : Nat} (h : V < 2 ^ N) (q : Nat) (hq : 8 * q ≤ N) : V / 2 ^ (8 * q) < 2 ^ (N - 8 * q) := by
  rw [Nat.div_lt_iff_lt_mul (Nat.two_pow_pos _), ← Nat.pow_add]
  rwa [show N - 8 * q + 8 * q = N by omega]
theorem held_div (V q : Nat) : V / 2 ^ (8 * q) / 256 = V / 2 ^ (8 * (q + 1)) := by
  rw [Nat.div_div_eq_div_mul, show (256 : Nat) = 2 ^ 8 from rfl, ← Nat.pow_add]
  congr 2
theorem held_end {V N : Nat} (h : V < 2 ^ N) : V < 2 ^ (N + 0) := h
theorem val_lt {V x N n : Nat} (h : V < 2 ^ N) (hx : x < 2 ^ n) : V + x * 2 ^ N < 2 ^ (N + n) := by
  have h1 : (x + 1) * 2 ^ N ≤ 2 ^ n * 2 ^ N := Nat.mul_le_mul_right _ hx
  rw [Nat.pow_add, Nat.mul_comm (2 ^ N) (2 ^ n)]
  rw [Nat.add_mul, Nat.one_mul] at h1
  omega
theorem or_low (h x m : Nat) (hh : h < 2 ^ m) : h ||| x * 2 ^ m = h + x * 2 ^ m := by
  rw [Nat.or_comm, Nat.mul_comm x, ← Nat.two_pow_add_eq_or_of_lt hh]
  omega
theorem or_nat64 (a b : Nat) (ha : a < 2 ^ 64) (hb : b < 2 ^ 64) : Go.bits .or .u64 a b = ((a ||| b : Nat) : Int) := by
  have hl : a ||| b < 2 ^ 64 := Nat.or_lt_two_pow ha hb
  show IntKind.u64.wrap ((BitVec.ofInt 64 (a : Int) ||| BitVec.ofInt 64 (b : Int)).toNat : Int) = _
  rw [BitVec.ofInt_natCast, BitVec.ofInt_natCast, BitVec.toNat_or, BitVec.toNat_ofNat, BitVec.toNat_ofNat, Nat.mod_eq_of_lt ha, Nat.mod_eq_of_lt hb, IntKind.wrap_u64]
  omega
/-- What the writer's first step makes of what it holds. -/
theorem or_put (h x m n : Nat) (hh : h < 2 ^ m) (hx : x < 2 ^ n) (hm : m < 8) (hn : n ≤ 32) :
    Go.bits .or .u64 (h : Int) (IntKind.u64.wrap (IntKind.u64.wrap (x : Int) * 2 ^ m)) = ((h + x * 2 ^ m : Nat) : Int) ∧ h + x * 2 ^ m < 2 ^ 40 := by
  have hl : h + x * 2 ^ m < 2 ^ 40 := Nat.lt_of_lt_of_le (val_lt hh hx) (Nat.pow_le_pow_right (by decide) (by omega))
  have hx2 : x < 2 ^ 32 := Nat.lt_of_lt_of_le hx (Nat.pow_le_pow_right (by decide) hn)
  have e0 : IntKind.u64.wrap (x : Int) = x := by rw [IntKind.wrap_u64]; omega
  have e : ((x : Int) * 2 ^ m) = ((x * 2 ^ m : Nat) : Int) := by simp
  have e1 : IntKind.u64.wrap ((x * 2 ^ m : Nat) : Int) = ((x * 2 ^ m : Nat) : Int) := by rw [IntKind.wrap_u64]; omega
  refine ⟨?_, hl⟩
  rw [e0, e, e1, or_nat64 h (x * 2 ^ m) (by omega) (by omega), or_low h x m hh]

theorem leB_getD (V k j : Nat) (h : j < k) : (leB V k).getD j 0 = ((V / 2 ^ (8 * j) % 256 : Nat) : Int) := by simp [leB, List.getD_eq_getElem?_getD, h]
/-- One more byte ahead of what is held. -/
theorem peek_step (V i m : Nat) : V / 2 ^ (8 * i) % 2 ^ (8 * (m + 1)) = V / 2 ^ (8 * (i + 1)) % 2 ^ (8 * m) * 256 + V / 2 ^ (8 * i) % 256 := by
  rw [← held_div, show 8 * (m + 1) = 8 + 8 * m by omega, Nat.pow_add, Nat.mod_mul, show (2 : Nat) ^ 8 = 256 from rfl, Nat.mul_comm]
  omega
theorem peek_or (h b : Nat) (hh : h < 2 ^ 32) (hb : b < 256) : Go.bits .or .u64 ((h : Int) * 256) (b : Int) = ((h * 256 + b : Nat) : Int) := by
  rw [show (h : Int) * 256 = ((h * 256 : Nat) : Int) by simp, or_nat64 _ _ (by omega) (by omega), Nat.or_comm, show h * 256 = h * 2 ^ 8 from rfl, or_low b h 8 hb]
  congr 1
  omega
theorem and_nat64 (a b : Nat) (ha : a < 2 ^ 64) (hb : b < 2 ^ 64) : Go.bits .and .u64 a b = ((a &&& b : Nat) : Int) := by
  have hl : a &&& b < 2 ^ 64 := Nat.and_lt_two_pow _ hb
  show IntKind.u64.wrap ((BitVec.ofInt 64 (a : Int) &&& BitVec.ofInt 64 (b : Int)).toNat : Int) = _
  rw [BitVec.ofInt_natCast, BitVec.ofInt_natCast, BitVec.toNat_and, BitVec.toNat_ofNat, BitVec.toNat_ofNat, Nat.mod_eq_of_lt ha, Nat.mod_eq_of_lt hb, IntKind.wrap_u64]
  omega
theorem peek_end (V a p r k q : Nat) (ha : a = 8 * p + r) (hk : r + k ≤ 8 * (q - p)) : V / 2 ^ (8 * p) % 2 ^ (8 * (q - p)) / 2 ^ r % 2 ^ k = V / 2 ^ a % 2 ^ k := by
  rw [show 8 * (q - p) = r + (8 * (q - p) - r) by omega, Nat.pow_add, Nat.mod_mul_right_div_self, Nat.div_div_eq_div_mul, ← Nat.pow_add, ← ha]
  exact Nat.mod_mod_of_dvd _ (Nat.pow_dvd_pow 2 (by omega))
theorem peek_mask (h r k : Nat) (hh : h < 2 ^ 64) (hk : k ≤ 32) : Go.bits .and .u64 ((h : Int) / 2 ^ r) ((2 : Int) ^ k - 1) = ((h / 2 ^ r % 2 ^ k : Nat) : Int) := by
  have h1 : (2 : Nat) ^ k ≤ 2 ^ 32 := Nat.pow_le_pow_right (by decide) hk
  have h0 : 0 < (2 : Nat) ^ k := Nat.two_pow_pos _
  have e1 : ((2 : Int) ^ k - 1) = ((2 ^ k - 1 : Nat) : Int) := by rw [Int.natCast_sub h0]; simp
  have e2 : (h : Int) / 2 ^ r = ((h / 2 ^ r : Nat) : Int) := by simp
  rw [e1, e2, and_nat64 _ _ (Nat.lt_of_le_of_lt (Nat.div_le_self _ _) hh) (by omega), Nat.and_two_pow_sub_one_eq_mod]
/-- The number of bytes. -/
def ofB : List Int → Nat
  | [] => 0
  | z :: t => z.toNat + 256 * ofB t
theorem ofB_lt : ∀ l : List Int, (∀ z ∈ l, 0 ≤ z ∧ z < 256) → ofB l < 2 ^ (8 * l.length)
  | [], _ => by simp [ofB]
  | z :: t, h => by
    have h1 := ofB_lt t fun y hy => h y (by simp [hy])
    have h2 := h z (by simp)
    simp only [ofB, List.length_cons]
    rw [show 8 * (t.length + 1) = 8 + 8 * t.length by omega, Nat.pow_add, show (2 : Nat) ^ 8 = 256 from rfl]
    omega
theorem leB_zero (V : Nat) : leB V 0 = [] := rfl
theorem leB_app : ∀ (l : List Int) (V q : Nat), (∀ z ∈ l, 0 ≤ z ∧ z < 256) → V < 2 ^ (8 * q) → leB (V + ofB l * 2 ^ (8 * q)) (q + l.length) = leB V q ++ l
  | [], V, q, _, _ => by simp [ofB]
  | z :: t, V, q, h, hV => by
    have h2 := h z (by simp)
    have hz : V + z.toNat * 2 ^ (8 * q) < 2 ^ (8 * (q + 1)) := by
      have := val_lt (n := 8) (x := z.toNat) hV (by omega)
      rwa [show 8 * q + 8 = 8 * (q + 1) by omega] at this
    have e := leB_app t (V + z.toNat * 2 ^ (8 * q)) (q + 1) (fun y hy => h y (by simp [hy])) hz
    have e1 : V + z.toNat * 2 ^ (8 * q) + ofB t * 2 ^ (8 * (q + 1)) = V + ofB (z :: t) * 2 ^ (8 * q) := by
      simp only [ofB]
      rw [show 8 * (q + 1) = 8 + 8 * q by omega, Nat.pow_add, show (2 : Nat) ^ 8 = 256 from rfl, Nat.add_mul, ← Nat.mul_assoc, Nat.mul_comm (ofB t) 256]
      omega
    rw [e1, show q + 1 + t.length = q + (z :: t).length by simp; omega] at e
    rw [e, leB_succ, leB_add V _ _ _ (Nat.le_refl _)]
    have e2 : (V + z.toNat * 2 ^ (8 * q)) / 2 ^ (8 * q) % 256 = z.toNat := by
      rw [Nat.add_mul_div_right _ _ (Nat.two_pow_pos _), Nat.div_eq_of_lt hV]
      omega
    rw [e2]
    simp
    omega
theorem leB_ofB (l : List Int) (h : ∀ z ∈ l, 0 ≤ z ∧ z < 256) : leB (ofB l) l.length = l := by
  have := leB_app l 0 0 h (by decide)
  simpa [leB_zero] using this
theorem mask_wrap (k : Nat) (hk : k ≤ 32) : IntKind.u64.wrap (IntKind.u64.wrap ((2 : Int) ^ k) - 1) = (2 : Int) ^ k - 1 := by
  have h1 : (2 : Nat) ^ k ≤ 2 ^ 32 := Nat.pow_le_pow_right (by decide) hk
  have h0 : 0 < (2 : Nat) ^ k := Nat.two_pow_pos _
  rw [show (2 : Int) ^ k = ((2 ^ k : Nat) : Int) by simp, IntKind.wrap_u64, IntKind.wrap_u64]
  omega
end Go.Proofs.Ytlgpmpnobcdogaa.My

/- The walk of bits.Writer.put. -/
namespace Go.Proofs.Ytlgpmpnobcdogaa.My
open Go.RowKit Go.Proofs.YtlgpmpnobcdogaaW.PrintWords Go.Proofs.YtlgpmpnobcdogaaW.PrintLast Go.Proofs.YtlgpmpnobcdogaaW.PrintMore

/-- A writer that has written N bits, the number V. -/
structure Writ (w : World) (B g : Nat) (v : Value) (V N : Nat) : Prop where
  wr : Wr w B g v (leB V (N / 8)) (V / 2 ^ (8 * (N / 8))) (N % 8)
  lt : V < 2 ^ N

theorem cells_of {w : World} {g : Nat} {v : Value} {h m : Nat} (k : w.heap[g]? = some (.cells #[v, .int .u64 h, .int .i64 m] 74 (0, 0))) : w.cell? ⟨g, 0, none⟩ = some v ∧ w.cell? ⟨g, 1, none⟩ = some (.int .u64 h) ∧ w.cell? ⟨g, 2, none⟩ = some (.int .i64 m) ∧
    w.frozen? ⟨g, 0, none⟩ = false ∧ w.frozen? ⟨g, 1, none⟩ = false ∧ w.frozen? ⟨g, 2, none⟩ = false := by
  refine ⟨?_, ?_, ?_, ?_, ?_, ?_⟩ <;> first | (rw [blk_cell k]; rfl) | exact blk_frozen k _
theorem Wr.cells {w : World} {B g : Nat} {v : Value} {t : List Int} {h m : Nat} (k : Wr w B g v t h m) : w.cell? ⟨g, 0, none⟩ = some v ∧ w.cell? ⟨g, 1, none⟩ = some (.int .u64 h) ∧ w.cell? ⟨g, 2, none⟩ = some (.int .i64 m) ∧
    w.frozen? ⟨g, 0, none⟩ = false ∧ w.frozen? ⟨g, 1, none⟩ = false ∧ w.frozen? ⟨g, 2, none⟩ = false := cells_of k.blk
theorem Wr.appended {w w1 : World} {B g : Nat} {v v1 : Value} {t t1 : List Int} {h m : Nat} (k : Wr w B g v t h m) (ho : w1.ownsRow B 5 1 v1 t1.length (nums .u8 t1)) (hg : w.grownBy w1 v.ownBlock)
    (ha : v1.ownBlock = v.ownBlock ∨ ∃ b, v1.ownBlock = some b ∧ w.heap.size ≤ b) : w1.heap[g]? = some (.cells #[v, .int .u64 h, .int .i64 m] 74 (0, 0)) ∧ Wr (w1.setCell ⟨g, 0, none⟩ v1) B g v1 t1 h m ∧ Grew w (w1.setCell ⟨g, 0, none⟩ v1) g v v1 := by
  have hb : w1.heap[g]? = some (.cells #[v, .int .u64 h, .int .i64 m] 74 (0, 0)) := (hg.block g (blk_lt k.blk) k.ne).trans k.blk
  have hne : some g ≠ v1.ownBlock := own_ne ho hb (by decide)
  refine ⟨hb, ⟨?_, own_setCell ho hne _, k.bg⟩, ⟨hg.os, hg.tape, hg.output, (KeepBut.of_grown hg g).set_ 0 v1, ha⟩⟩
  have := blk_set hb 0 v1
  simpa using this

/-- One byte is put behind the text. -/
theorem Wr.byte {w w1 : World} {B g q : Nat} {v v1 : Value} {U h m : Nat} (k : Wr w B g v (leB U q) h m) (ho : w1.ownsRow B 5 1 v1 ((leB U q).length + 1) (nums .u8 (leB U q) ++ [.int .u8 (IntKind.u8.wrap (h : Int))])) (hh : h = U / 2 ^ (8 * q)) (hg : w.grownBy w1 v.ownBlock)
    (ha : v1.ownBlock = v.ownBlock ∨ ∃ b, v1.ownBlock = some b ∧ w.heap.size ≤ b) : Wr (w1.setCell ⟨g, 0, none⟩ v1) B g v1 (leB U (q + 1)) h m ∧ Grew w (w1.setCell ⟨g, 0, none⟩ v1) g v v1 := by
  refine (k.appended (t1 := leB U (q + 1)) ?_ hg ha).2
  have e : IntKind.u8.wrap (h : Int) = ((U / 2 ^ (8 * q) % 256 : Nat) : Int) := by rw [IntKind.wrap_u8, hh]; omega
  rw [leB_len, leB_succ]
  rw [e] at ho
  simpa [nums] using ho

theorem putw_calls (w : World) (B g : Nat) (v : Value) (V N x n : Nat) (hB : B ≤ w.heap.size) (hw : Writ w B g v V N) (hx : x < 2 ^ n) (hn : n ≤ 32) (hN : N ≤ 1000000000000000) :
    Calls Try.prog 43 #[.pointer (some ⟨g, 0, none⟩), .int .u32 x, .int .i64 n] w fun e w' => e = .returned (.tuple #[]) ∧ ∃ v', Writ w' B g v' (V + x * 2 ^ N) (N + n) ∧ Grew w w' g v v' := by
  obtain ⟨U, hU⟩ : ∃ U, U = V + x * 2 ^ N := ⟨_, rfl⟩
  rw [← hU]
  have HUlt : Aside0 (U < 2 ^ (N + n)) := ⟨hU ▸ val_lt hw.lt hx⟩
  have HU := Aside0.mk hU
  clear hU
  obtain ⟨hW, hV⟩ := hw
  have hor := or_put (V / 2 ^ (8 * (N / 8))) x (N % 8) n (by have := held_lt hV (N / 8) (by omega); rwa [show N - 8 * (N / 8) = N % 8 by omega] at this) hx (by omega) hn
  obtain ⟨c0, c1, c2, f0, f1, f2⟩ := hW.cells
  have hm : N % 8 < 8 := Nat.mod_lt _ (by decide)
  generalize hh : V / 2 ^ (8 * (N / 8)) = h at *
  generalize hmm : N % 8 = m at *
  have HW := Aside0.mk hW
  have hh0 := hor.1
  have HH := Aside0.mk hor.2
  have H1 := Aside0.mk hx
  have H2 := Aside0.mk hN
  have H3 := Aside0.mk hh
  have H4 := Aside0.mk hmm
  clear hor hx hN hh hmm hW
  go_enter Try.func43, Try.ntmps43
  go_wp2_with fail
  go_region
  go_wp2_with fail
  go_loopg [] ((N + n) / 8 - N / 8) (fun kq wr => ∃ (q : Nat) (A : Option Addr) (c : Nat), Aside0 (8 * q ≤ N + n ∧ N / 8 ≤ q ∧ kq = (N + n) / 8 - q) ∧ Aside0 (Wr wr B g (.slice A q c) (leB U q) (U / 2 ^ (8 * q)) (N + n - 8 * q)) ∧ Aside0 (Grew w wr g v (.slice A q c)) ∧ B ≤ wr.heap.size)
  case atStart =>
    obtain ⟨A, c, rfl⟩ := own_slice HW.out.row
    have k := ((HW.out.set1 (h + x * 2 ^ m)).set2 (m + n)).drew
    have k2 := ((Grew.refl w g (.slice A (leB V (N / 8)).length c)).set 1 (.int .u64 (h + x * 2 ^ m : Nat))).set 2 (.int .i64 (m + n : Nat))
    have p1 : ((h + x * 2 ^ m : Nat) : Int) = ↑h + ↑x * 2 ^ m := by simp
    have p2 : ((m + n : Nat) : Int) = ↑m + ↑n := by simp
    rw [leB_len, p1, p2] at *
    have e1 : leB U (N / 8) = leB V (N / 8) := by rw [HU.out]; exact leB_add _ _ _ _ (by omega)
    have e2 : U / 2 ^ (8 * (N / 8)) = h + x * 2 ^ m := by rw [HU.out, held_add _ _ _ _ (by omega), H3.out, show N - 8 * (N / 8) = m by have := H4.out; omega]
    have e3 : N + n - 8 * (N / 8) = m + n := by have := H4.out; omega
    refine ⟨N / 8, A, c, ⟨by omega, by omega, by omega⟩, ⟨?_⟩, ⟨k2.drew⟩, ?_⟩
    · rw [e1, e2, e3]; exact k
    · simpa using hB
  case round =>
    obtain ⟨q, A, c, HQ, HWq, HG, hBq⟩ := hrel
    by_cases hge : 8 * q + 8 ≤ N + n
    · obtain ⟨d0, d1, d2, e0, e1, e2⟩ := HWq.out.cells
      have b1 : (8 : Int) ≤ ((N + n - 8 * q : Nat) : Int) := by omega
      generalize hM : N + n - 8 * q = M at *
      generalize hH : U / 2 ^ (8 * q) = H at *
      have HM := Aside0.mk hM
      have HHq := Aside0.mk hH
      have b2 : (M : Int) ≤ 100 := by have := HQ.out; have := HM.out; omega
      clear hM hH
      go_wp2_with fail
      have hrow := HWq.out.drew.row
      have d3 := (cells_of (blk_alloc HWq.out.blk (.cells #[.int .u8 (IntKind.u8.wrap (H : Int))] 5))).1
      have hnb := Aside0.mk HWq.out.drew
      have hq1 : ((leB U q).length + 1) * 1 ≤ 140737488355328 := by rw [leB_len]; have := HQ.out; have := H2.out; omega
      go_region_law (refine step_append_cells (W := wr.drew) (w0 := wr.drew) B rfl (.tmp 44) (.tmp 50) 39 5 (.int .u8 0) 1 1 rfl Try.underlying39 info_u8 rfl (by decide) (by decide) _ _ _ [.int .u8 (IntKind.u8.wrap (H : Int))] rfl rfl rfl (by simp [Value.oneCell']) hrow (Below.refl _ _) hBq hq1 ?_; intro v1 w1 HO1 _ HG1 HA1; obtain ⟨A1, c1, rfl⟩ := own_slice HO1; obtain ⟨p0, p1, p2, q0, q1, q2⟩ := cells_of ((HG1.block g (blk_lt hnb.out.blk) hnb.out.ne).trans hnb.out.blk); have HY := Aside0.mk (hnb.out.byte HO1 HHq.out.symm HG1 HA1); have HZ := Aside0.mk (Nat.le_trans hBq HG1.size); clear HO1 HG1 HA1)
      go_wp2_with fail
      all_goals
        go_roundg (gk - 1)
        case measure => have := HQ.out; omega
        case rel =>
          have k := ((HY.out.1.set1 (H / 256)).set2 (M - 8))
          have k2 := (((HG.out.trans (HY.out.2.cut)).set 1 (.int .u64 (H / 256 : Nat))).set 2 (.int .i64 (M - 8 : Nat)))
          have p1 : ((H / 256 : Nat) : Int) = ↑H / 256 := by omega
          have p2 : ((M - 8 : Nat) : Int) = ↑M - 8 := by omega
          rw [leB_len, p1, p2] at k k2
          have e2 : U / 2 ^ (8 * (q + 1)) = H / 256 := by rw [← HHq.out]; exact (held_div U q).symm
          have e3 : N + n - 8 * (q + 1) = M - 8 := by have := HM.out; omega
          refine ⟨q + 1, A1, c1, ⟨by omega, by have := HQ.out; omega, by have := HQ.out; omega⟩, ⟨?_⟩, ⟨k2⟩, ?_⟩
          · rw [e2, e3]; exact k
          · simpa using HZ.out
    · obtain ⟨d0, d1, d2, e0, e1, e2⟩ := HWq.out.cells
      have b1 : ((N + n - 8 * q : Nat) : Int) < 8 := by omega
      generalize hM : N + n - 8 * q = M at *
      have HM := Aside0.mk hM
      clear hM
      go_wp2
      refine bodyPost_end (results_none rfl _ _ _) rfl ?_
      have eq : q = (N + n) / 8 := by have := HQ.out; omega
      have eM : M = (N + n) % 8 := by have := HM.out; omega
      have k := HWq.out
      have kU := HUlt.out
      have kG := HG.out
      rw [eq, eM] at k
      rw [eq] at kG
      first
        | exact ⟨rfl, _, ⟨k, kU⟩, kG⟩
        | exact ⟨rfl, _, ⟨k.drew, kU⟩, kG.drew⟩
end Go.Proofs.Ytlgpmpnobcdogaa.My

/- The walks of bits.Writer: fits, asks, Put, NewWriter, Align, Len. -/
namespace Go.Proofs.Ytlgpmpnobcdogaa.My
open Go.RowKit Go.Proofs.YtlgpmpnobcdogaaW.PrintWords Go.Proofs.YtlgpmpnobcdogaaW.PrintLast Go.Proofs.YtlgpmpnobcdogaaW.PrintMore

theorem bitLenAux_le : ∀ f n x : Nat, x < 2 ^ f → (Lib.bitLenAux f x ≤ n ↔ x < 2 ^ n)
  | 0, n, x, h => by simp at h; subst h; simp [Lib.bitLenAux, Nat.two_pow_pos]
  | f + 1, n, x, h => by
    unfold Lib.bitLenAux
    by_cases h0 : x = 0
    · subst h0; simp [Nat.two_pow_pos]
    · rw [if_neg h0]
      cases n with
      | zero => constructor <;> intro h1 <;> simp at h1 ⊢ <;> omega
      | succ n =>
        have := bitLenAux_le f n (x / 2) (by rw [Nat.pow_succ] at h; omega)
        rw [Nat.pow_succ 2 n]
        constructor
        · intro h1; have := this.1 (by omega); omega
        · intro h1; have := this.2 (by omega); omega
theorem bitLen_le (x n : Nat) (h : x < 4294967296) : (Lib.bitLen x ≤ n ↔ x < 2 ^ n) := bitLenAux_le 64 n x (by omega)

/-- So many bits are a number's. -/
def inW (n : Int) : Bool := decide (0 ≤ n ∧ n ≤ 32)
/-- A number has so many bits. -/
def okW (x : Nat) (n : Int) : Bool := decide (0 ≤ n ∧ n ≤ 32 ∧ x < 2 ^ n.toNat)
theorem okW_iff (x : Nat) (n : Int) (h : x < 4294967296) : okW x n = (inW n && decide ((Lib.bitLen x : Int) ≤ n)) := by
  unfold okW inW
  by_cases h0 : 0 ≤ n
  · obtain ⟨m, rfl⟩ := Int.eq_ofNat_of_zero_le h0
    have := bitLen_le x m h
    by_cases h1 : (m : Int) ≤ 32
    · simp [h1, ← this]
    · simp [h1]
  · simp [h0]

theorem fitsw_calls (n : Int) (w : World) : Calls Try.prog 35 #[.int .i64 n] w fun e w' => e = .returned (.bool (inW n)) ∧ w = w' := by
  by_cases h1 : 0 ≤ n
  · by_cases h2 : n ≤ 32
    · rw [show inW n = true from decide_eq_true ⟨h1, h2⟩]
      go_enter Try.func35, Try.ntmps35
      go_wp2
      go_ret
      exact ⟨rfl, rfl⟩
    · rw [show inW n = false from decide_eq_false fun h => h2 h.2]
      go_enter Try.func35, Try.ntmps35
      go_wp2
      go_ret
      exact ⟨rfl, rfl⟩
  · rw [show inW n = false from decide_eq_false fun h => h1 h.1]
    go_enter Try.func35, Try.ntmps35
    go_wp2
    go_ret
    exact ⟨rfl, rfl⟩

/-- What asks answers. -/
def askE (x : Nat) (n : Int) : Option Int := if okW x n then none else some 1
theorem asks_calls (g x : Nat) (n : Int) (w : World) (hx : x < 4294967296) :
    Calls Try.prog 42 #[.pointer (some ⟨g, 0, none⟩), .int .u32 x, .int .i64 n] w fun e w' => e = .returned (errV (askE x n)) ∧ w = w' := by
  have HL : Aside0 (∀ w : World, Calls Try.prog 47 #[.int .u32 x] w fun e w' => e = .returned (.int .i64 (Lib.bitLen x)) ∧ w = w') :=
    ⟨fun w => (Try.bits_Len32 x w (by omega) (by omega)).mono fun e w' h => ⟨by rw [h.1]; rfl, h.2.symm⟩⟩
  have HE := Aside0.mk (okW_iff x n hx)
  obtain ⟨b, hb⟩ : ∃ b, inW n = b := ⟨_, rfl⟩
  have HF : Aside0 (∀ w : World, Calls Try.prog 35 #[.int .i64 n] w fun e w' => e = .returned (.bool b) ∧ w = w') := ⟨fun w => hb ▸ fitsw_calls n w⟩
  rw [hb] at HE
  clear hb
  generalize Lib.bitLen x = L at *
  have u1 := Try.underlying26
  cases b with
  | false =>
    have he : askE x n = some 1 := by unfold askE; rw [HE.out]; rfl
    rw [he]
    clear he HE hx
    go_enter Try.func42, Try.ntmps42
    go_wp2_with (first
      | (go_at_call 35; refine (HF.out _).mono ?_; rintro e w' ⟨rfl, rfl⟩)
      | (go_at_call 47; refine (HL.out _).mono ?_; rintro e w' ⟨rfl, rfl⟩))
    go_ret
    exact ⟨rfl, rfl⟩
  | true =>
    by_cases hl : (L : Int) ≤ n
    · have he : askE x n = none := by unfold askE; rw [HE.out]; simp [hl]
      rw [he]
      clear he HE hx
      go_enter Try.func42, Try.ntmps42
      go_wp2_with (first
        | (go_at_call 35; refine (HF.out _).mono ?_; rintro e w' ⟨rfl, rfl⟩)
        | (go_at_call 47; refine (HL.out _).mono ?_; rintro e w' ⟨rfl, rfl⟩))
      go_ret
      exact ⟨rfl, rfl⟩
    · have he : askE x n = some 1 := by unfold askE; rw [HE.out]; simp [hl]
      rw [he]
      clear he HE hx
      go_enter Try.func42, Try.ntmps42
      go_wp2_with (first
        | (go_at_call 35; refine (HF.out _).mono ?_; rintro e w' ⟨rfl, rfl⟩)
        | (go_at_call 47; refine (HL.out _).mono ?_; rintro e w' ⟨rfl, rfl⟩))
      go_ret
      exact ⟨rfl, rfl⟩

theorem newWriter_calls (w : World) : Calls Try.prog 22 #[] w fun e w' => e = .returned (.pointer (some ⟨w.heap.size, 0, none⟩)) ∧ w' = w.alloc (.cells #[.slice none 0 0, .int .u64 0, .int .i64 0] 74) := by
  go_enter Try.func22, Try.ntmps22
  go_wp2
  go_ret
  exact ⟨rfl, rfl⟩
theorem Writ.new (w : World) (B : Nat) (hB : B ≤ w.heap.size) : Writ (w.alloc (.cells #[.slice none 0 0, .int .u64 0, .int .i64 0] 74)) B w.heap.size (.slice none 0 0) 0 0 :=
  ⟨⟨alloc_self _ _, own_nil _ _ _ _, hB⟩, by decide⟩

theorem wlen_calls (w : World) (B g : Nat) (v : Value) (V N : Nat) (hw : Writ w B g v V N) (hN : N ≤ 1000000000000000) :
    Calls Try.prog 25 #[.pointer (some ⟨g, 0, none⟩)] w fun e w' => e = .returned (.int .i64 N) ∧ ∃ m, w' = w.drewN m := by
  obtain ⟨c0, c1, c2, f0, f1, f2⟩ := hw.wr.cells
  obtain ⟨A, c, rfl⟩ := own_slice hw.wr.row
  rw [leB_len] at c0
  have e : (N : Int) = 8 * ((N / 8 : Nat) : Int) + ((N % 8 : Nat) : Int) := by omega
  have h1 : ((N / 8 : Nat) : Int) ≤ 1000000000000000 := by omega
  have h2 : ((N % 8 : Nat) : Int) ≤ 8 := by omega
  rw [e]
  clear e hw
  generalize N / 8 = q at *
  generalize N % 8 = m at *
  go_enter Try.func25, Try.ntmps25
  go_wp2_with fail
  first | go_region | skip
  first | go_wp2_with fail | skip
  go_ret
  first
    | exact ⟨rfl, 0, (World.drewN_zero _).symm⟩
    | exact ⟨rfl, _, rfl⟩
    | exact ⟨rfl, 1, rfl⟩
end Go.Proofs.Ytlgpmpnobcdogaa.My

/- The walk of slices.Clone of bytes. -/
namespace Go.Proofs.Ytlgpmpnobcdogaa.My
open Go.RowKit Go.Proofs.YtlgpmpnobcdogaaW.PrintWords Go.Proofs.YtlgpmpnobcdogaaW.PrintLast Go.Proofs.YtlgpmpnobcdogaaW.PrintMore

theorem clone_calls (A : Option Addr) (n c : Nat) (xs : List Int) (w : World) (hx : (Kd.int .u8).C w A n xs) (hn : n ≤ 140737488355328) (hl : xs.length = n) (hcap : A = none → n = 0 ∧ c = 0) :
    Calls Try.prog 34 #[.slice A n c] w fun e w' => ∃ v', e = .returned v' ∧ w'.ownsRow w.heap.size 5 1 v' xs.length (nums .u8 xs) ∧ Below w.heap.size w w' := by
  cases A with
  | none =>
    obtain ⟨rfl, rfl⟩ := hcap rfl
    have : xs = [] := List.eq_nil_of_length_eq_zero hl
    subst this
    clear hx hl hcap hn
    have i1 : ∀ w : World, (binOp .eql 39 (.slice none 0 0) (.slice none 0 0)).run Try.prog w = .ok (.bool true) w := fun w => by rfl
    go_enter Try.func34, Try.ntmps34
    go_wp2
    go_ret
    exact ⟨_, rfl, own_nil _ _ _ _, Below.refl _ _⟩
  | some ad =>
    have HX := Aside0.mk hx
    have HL := Aside0.mk hl
    clear hx hcap hl
    have i1 : ∀ w : World, (binOp .eql 39 (.slice (some ad) n c) (.slice none 0 0)).run Try.prog w = .ok (.bool false) w := fun w => by rfl
    go_enter Try.func34, Try.ntmps34
    go_wp2_with ((with_reducible refine gate_dst (N := 7) rfl ?_); refine print_append_row (w0 := w) w.heap.size rfl (.tmp 5) (.tmp 6) 39 5 .u8 1 rfl Try.underlying39 info_u8 (by decide) _ [] xs (some ad) _ c rfl rfl (own_lit w w.heap.size 5 .u8 [] (Nat.le_refl _) (by decide)) (reads_of_C (Kd.C_alloc HX.out _)) (below_alloc (Below.refl _ _) _) (by simp) (by simp; omega) ?_; intro v1 w2 ho hb hg hk; clear hg hk; rw [List.nil_append] at ho; have HB2 := Aside0.mk hb; have HO := Aside0.mk ho; clear hb ho)
    go_ret
    exact ⟨_, rfl, HO.out, HB2.out⟩
end Go.Proofs.Ytlgpmpnobcdogaa.My

/- The walk of bits.Reader.Peek, and the readers' small ones. -/
namespace Go.Proofs.Ytlgpmpnobcdogaa.My
open Go.RowKit Go.Proofs.YtlgpmpnobcdogaaW.PrintWords Go.Proofs.YtlgpmpnobcdogaaW.PrintLast Go.Proofs.YtlgpmpnobcdogaaW.PrintMore

/-- A reader of L bytes, the number V, that is at a bit. -/
structure Rdr (w : World) (B g : Nat) (v : Value) (V L at_ : Nat) : Prop where
  blk : w.heap[g]? = some (.cells #[v, .int .i64 at_] 67 (0, 0))
  row : w.ownsRow B 5 1 v L (nums .u8 (leB V L))
  lt : V < 2 ^ (8 * L)
  le : at_ ≤ 8 * L
  bg : B ≤ g
theorem Rdr.cells {w : World} {B g : Nat} {v : Value} {V L a : Nat} (k : Rdr w B g v V L a) : w.cell? ⟨g, 0, none⟩ = some v ∧ w.cell? ⟨g, 1, none⟩ = some (.int .i64 a) ∧ w.frozen? ⟨g, 1, none⟩ = false := by
  refine ⟨?_, ?_, ?_⟩ <;> first | (rw [blk_cell k.blk]; rfl) | exact blk_frozen k.blk _
theorem Rdr.drewN {w : World} {B g : Nat} {v : Value} {V L a : Nat} (k : Rdr w B g v V L a) (n : Nat) : Rdr (w.drewN n) B g v V L a := ⟨k.blk, pw_own_below k.row (pw_below_drewN (Below.refl _ _) n), k.lt, k.le, k.bg⟩
theorem Rdr.drew {w : World} {B g : Nat} {v : Value} {V L a : Nat} (k : Rdr w B g v V L a) : Rdr w.drew B g v V L a := ⟨k.blk, pw_own_below k.row (below_drew (Below.refl _ _)), k.lt, k.le, k.bg⟩
theorem Rdr.ne {w : World} {B g : Nat} {v : Value} {V L a : Nat} (k : Rdr w B g v V L a) : some g ≠ v.ownBlock := own_ne k.row k.blk (by decide)
theorem Rdr.set {w : World} {B g : Nat} {v : Value} {V L a : Nat} (k : Rdr w B g v V L a) (a' : Nat) (h : a' ≤ 8 * L) : Rdr (w.setCell ⟨g, 1, none⟩ (.int .i64 a')) B g v V L a' :=
  ⟨by have := blk_set k.blk 1 (.int .i64 a'); simpa using this, own_setCell k.row k.ne _, k.lt, h, k.bg⟩

theorem left_calls (w : World) (B g : Nat) (v : Value) (V L a : Nat) (hr : Rdr w B g v V L a) (hL : L ≤ 100000000000000) :
    Calls Try.prog 36 #[.pointer (some ⟨g, 0, none⟩)] w fun e w' => e = .returned (.int .i64 (8 * L - a : Nat)) ∧ ∃ m, w' = w.drewN m := by
  obtain ⟨c0, c1, f1⟩ := hr.cells
  obtain ⟨A, c, rfl⟩ := own_slice hr.row
  have hle := hr.le
  have e : ((8 * L - a : Nat) : Int) = 8 * (L : Int) - (a : Int) := by omega
  rw [e]
  have h1 : (a : Int) ≤ 8 * (L : Int) := by omega
  have h2 : (L : Int) ≤ 100000000000000 := by omega
  clear e hr
  go_enter Try.func36, Try.ntmps36
  go_wp2_with fail
  first | go_region | skip
  first | go_wp2_with fail | skip
  go_ret
  first
    | exact ⟨rfl, 0, (World.drewN_zero _).symm⟩
    | exact ⟨rfl, 1, rfl⟩
    | exact ⟨rfl, _, rfl⟩

set_option maxRecDepth 100000 in
theorem peek_calls (w : World) (B g : Nat) (v : Value) (V L a : Nat) (n : Nat) (hn : n ≤ 32) (hr : Rdr w B g v V L a) (hL : L ≤ 100000000000000) :
    Calls Try.prog 37 #[.pointer (some ⟨g, 0, none⟩), .int .i64 n] w fun e w' => e = .returned (.tuple #[.int .u32 (V / 2 ^ a % 2 ^ (min n (8 * L - a)) : Nat), .int .i64 (min n (8 * L - a) : Nat)]) ∧ ∃ m, w' = w.drewN m := by
  have HF : Aside0 (∀ w : World, Calls Try.prog 35 #[.int .i64 n] w fun e w' => e = .returned (.bool true) ∧ w = w') := ⟨fun w => (show inW n = true from decide_eq_true ⟨by omega, by omega⟩) ▸ fitsw_calls n w⟩
  have HLf : Aside0 (Calls Try.prog 36 #[.pointer (some ⟨g, 0, none⟩)] w fun e w' => e = .returned (.int .i64 (8 * L - a : Nat)) ∧ ∃ m, w' = w.drewN m) := ⟨left_calls w B g v V L a hr hL⟩
  obtain ⟨c0, c1, f1⟩ := hr.cells
  obtain ⟨A, c, rfl⟩ := own_slice hr.row
  obtain ⟨A', c', e', hcc, hC⟩ := own_slice' hr.row
  cases e'
  have hle := hr.le
  have HC := Aside0.mk hC
  obtain ⟨k, hk⟩ : ∃ k, k = min n (8 * L - a) := ⟨_, rfl⟩
  have hmin : min (n : Int) ((8 * L - a : Nat) : Int) = (k : Int) := by omega
  have hk32 : (k : Int) ≤ 32 := by omega
  rw [← hk]
  have HK := Aside0.mk (show a + k ≤ 8 * L by omega)
  obtain ⟨p, hp⟩ : ∃ p, p = a / 8 := ⟨_, rfl⟩
  obtain ⟨r, hr8⟩ : ∃ r, r = a % 8 := ⟨_, rfl⟩
  obtain ⟨q, hq⟩ : ∃ q, q = min (p + 5) L := ⟨_, rfl⟩
  have hd : (a : Int) / 8 = (p : Int) := by omega
  have hm : (a : Int).tmod 8 = (r : Int) := by rw [Int.tmod_eq_emod_of_nonneg (by omega)]; omega
  have hmin2 : min ((p : Int) + 5) (L : Int) = (q : Int) := by omega
  have hpq := Aside0.mk (show p ≤ q ∧ q ≤ L ∧ q ≤ p + 5 ∧ a = 8 * p + r ∧ r < 8 ∧ r + k ≤ 8 * (q - p) by omega)
  have hqL : (q : Int) ≤ 100000000000000 := by omega
  have hpL : (p : Int) ≤ 100000000000000 := by omega
  have h1 : (a : Int) ≤ 8 * (L : Int) := by omega
  have h2 : (L : Int) ≤ 100000000000000 := by omega
  generalize hlf : 8 * L - a = lf at *
  clear hr hC hk hle hlf hp hr8 hq
  obtain ⟨res, hres⟩ : ∃ res, res = V / 2 ^ a % 2 ^ k := ⟨_, rfl⟩
  have HE : Aside0 (res < 4294967296) := ⟨hres ▸ Nat.lt_of_lt_of_le (Nat.mod_lt _ (Nat.two_pow_pos _)) (Nat.pow_le_pow_right (n := 2) (by decide) (show k ≤ 32 by omega))⟩
  rw [← hres]
  have HRES := Aside0.mk hres
  clear hres
  go_enter Try.func37, Try.ntmps37
  go_wp2_with (first
    | (go_at_call 35; refine (HF.out _).mono ?_; rintro e w' ⟨rfl, rfl⟩)
    | (go_at_call 36; refine HLf.out.mono ?_; rintro e w' ⟨rfl, m1, rfl⟩))
  go_loopg [8, 9] (q - p) (fun kq v8 v9 wr => ∃ (i h : Nat), v8 = .int .u64 h ∧ v9 = .int .i64 ((i : Int) - 1) ∧ i ≤ q ∧ p ≤ i ∧ Aside0 (kq = i - p ∧ h = V / 2 ^ (8 * i) % 2 ^ (8 * (q - i))) ∧ Aside0 (∃ m, wr = w.drewN m))
  case atStart => exact ⟨q, 0, rfl, rfl, Nat.le_refl _, hpq.out.1, ⟨rfl, by simp [Nat.mod_one]⟩, ⟨_, rfl⟩⟩
  case round =>
    obtain ⟨i, h, rfl, rfl, hi, hpi, HI, HWr⟩ := hrel
    obtain ⟨m, rfl⟩ := HWr.out
    by_cases hgt : p < i
    · obtain ⟨j, rfl⟩ : ∃ j, i = j + 1 := ⟨i - 1, by omega⟩
      obtain ⟨ad, rfl, hcell⟩ := Kd.at_int HC.out (j : Int) (by omega) (by have := hpq.out; omega)
      rw [Int.toNat_natCast] at hcell
      have hx : rd (leB V L) (j : Int) = ((V / 2 ^ (8 * j) % 256 : Nat) : Int) := by unfold rd; rw [Int.toNat_natCast]; exact leB_getD _ _ _ (by have := hpq.out; omega)
      rw [hx] at hcell
      have hst := peek_step V j (q - (j + 1))
      rw [show q - (j + 1) + 1 = q - j by omega, ← HI.out.2] at hst
      have hx256 : V / 2 ^ (8 * j) % 256 < 256 := Nat.mod_lt _ (by decide)
      have hh32 : h < 2 ^ 32 := by
        rw [HI.out.2]
        exact Nat.lt_of_lt_of_le (Nat.mod_lt _ (Nat.two_pow_pos _)) (Nat.pow_le_pow_right (by decide) (by have := hpq.out; omega))
      generalize V / 2 ^ (8 * j) % 256 = x at *
      have hor := peek_or h x hh32 hx256
      have e1 : ((j + 1 : Nat) : Int) - 1 = (j : Int) := by omega
      have b1 : (p : Int) ≤ (j : Int) := by omega
      have b2 : (j : Int) < (L : Int) := by have := hpq.out; omega
      have b3 : (h : Int) < 4294967296 := by omega
      have b4 : (x : Int) < 256 := by omega
      have HS := Aside0.mk hst
      have HJ := Aside0.mk (show j ≤ q ∧ p ≤ j by omega)
      rw [e1]
      clear hx hst hh32 hx256 e1 hgt hpi hi
      go_wp2
      go_roundg (gk - 1)
      case measure => have := HI.out.1; omega
      case rel => exact ⟨j, h * 256 + x, by simp, rfl, HJ.out.1, HJ.out.2, ⟨by have := HI.out.1; omega, HS.out.symm⟩, HWr⟩
    · have ei : i = p := by omega
      subst ei
      have hh := HI.out.2
      have hend := peek_end V a i r k q hpq.out.2.2.2.1 hpq.out.2.2.2.2.2
      rw [← hh] at hend
      have hlt : h < 2 ^ 64 := by
        rw [hh]
        exact Nat.lt_of_lt_of_le (Nat.mod_lt _ (Nat.two_pow_pos _)) (Nat.pow_le_pow_right (by decide) (by have := hpq.out; omega))
      have hmask := peek_mask h r k hlt (by omega)
      rw [hend] at hmask
      rw [← HRES.out] at hmask
      have b1 : ((i : Int) - 1) < (i : Int) := by omega
      have br : (r : Int) < 8 := by have := hpq.out; omega
      clear hh hend hlt hgt hi hpi HI
      go_wp2_with fail
      go_region
      go_wp2_with fail
      go_ret2
      refine ⟨?_, _, rfl⟩
      show Ending.returned (.tuple #[.int .u32 (bits .and .u64 ((h : Int) / 2 ^ r) (IntKind.u64.wrap (IntKind.u64.wrap (2 ^ k) - 1)) % 4294967296), .int .i64 (k : Int)]) = _
      rw [mask_wrap k (by omega), hmask, show (res : Int) % 4294967296 = res by have := HE.out; omega]
end Go.Proofs.Ytlgpmpnobcdogaa.My

/- The walks of bits.Reader: NewReader, At, Align, Bits. -/
namespace Go.Proofs.Ytlgpmpnobcdogaa.My
open Go.RowKit Go.Proofs.YtlgpmpnobcdogaaW.PrintWords Go.Proofs.YtlgpmpnobcdogaaW.PrintLast Go.Proofs.YtlgpmpnobcdogaaW.PrintMore

/-- What a call on a reader has turned: its block alone. -/
structure Gone (w w' : World) (g : Nat) : Prop where
  os : w'.os = w.os
  tape : w'.tape = w.tape
  output : w'.output = w.output
  keep : KeepBut w w' g none
theorem Gone.refl (w : World) (g : Nat) : Gone w w g := ⟨rfl, rfl, rfl, KeepBut.refl _ _ _⟩
theorem Gone.trans {w w1 w2 : World} {g : Nat} (h : Gone w w1 g) (k : Gone w1 w2 g) : Gone w w2 g :=
  ⟨k.os.trans h.os, k.tape.trans h.tape, k.output.trans h.output, h.keep.trans k.keep (.inl rfl)⟩
theorem Gone.drewN {w w1 : World} {g : Nat} (h : Gone w w1 g) (n : Nat) : Gone w (w1.drewN n) g := ⟨h.os, h.tape, h.output, ⟨h.keep.1, h.keep.2⟩⟩
theorem Gone.drew {w w1 : World} {g : Nat} (h : Gone w w1 g) : Gone w w1.drew g := ⟨h.os, h.tape, h.output, ⟨h.keep.1, h.keep.2⟩⟩
theorem Gone.set {w w1 : World} {g : Nat} (h : Gone w w1 g) (j : Nat) (u : Value) : Gone w (w1.setCell ⟨g, j, none⟩ u) g := ⟨h.os, h.tape, h.output, h.keep.set_ j u⟩
theorem Gone.below {w0 w w1 : World} {B g : Nat} (h : Gone w w1 g) (hb : Below B w0 w) (hB : B ≤ w.heap.size) (hg : B ≤ g) : Below B w0 w1 :=
  ⟨h.os.trans hb.os, h.tape.trans hb.tape, h.output.trans hb.output, Nat.le_trans hb.size h.keep.1, fun k hk =>
    (h.keep.2 k (by omega) (by omega) (fun e => by cases e)).trans (hb.block k hk)⟩

theorem at_calls (w : World) (B g : Nat) (v : Value) (V L a : Nat) (hr : Rdr w B g v V L a) :
    Calls Try.prog 20 #[.pointer (some ⟨g, 0, none⟩)] w fun e w' => e = .returned (.int .i64 a) ∧ w' = w := by
  obtain ⟨c0, c1, f1⟩ := hr.cells
  clear hr
  go_enter Try.func20, Try.ntmps20
  go_wp2
  go_ret
  exact ⟨rfl, rfl⟩

theorem peekx_calls (g : Nat) (n : Int) (w : World) (h : inW n = false) :
    Calls Try.prog 37 #[.pointer (some ⟨g, 0, none⟩), .int .i64 n] w fun e w' => e = .returned (.tuple #[.int .u32 0, .int .i64 0]) ∧ w' = w := by
  have HF : Aside0 (∀ w : World, Calls Try.prog 35 #[.int .i64 n] w fun e w' => e = .returned (.bool false) ∧ w = w') := ⟨fun w => h ▸ fitsw_calls n w⟩
  clear h
  go_enter Try.func37, Try.ntmps37
  go_wp2_with (go_at_call 35; refine (HF.out _).mono ?_; rintro e w' ⟨rfl, rfl⟩)
  go_ret2
  exact ⟨rfl, rfl⟩

/-- What Bits answers. -/
def bitsE (n : Int) (l : Nat) : Option Int := if inW n then (if n ≤ l then none else some 10) else some 1
def bitsX (V a l : Nat) (n : Int) : Nat := if (bitsE n l).isNone then V / 2 ^ a % 2 ^ n.toNat else 0
theorem rbits_calls (w : World) (B g : Nat) (v : Value) (V L a : Nat) (n : Int) (hr : Rdr w B g v V L a) (hL : L ≤ 100000000000000) :
    Calls Try.prog 17 #[.pointer (some ⟨g, 0, none⟩), .int .i64 n] w fun e w' => e = .returned (.tuple #[.int .u32 (bitsX V a (8 * L - a) n), errV (bitsE n (8 * L - a))]) ∧
      Rdr w' B g v V L (if (bitsE n (8 * L - a)).isNone then a + n.toNat else a) ∧ Gone w w' g := by
  have HLf : Aside0 (Calls Try.prog 36 #[.pointer (some ⟨g, 0, none⟩)] w fun e w' => e = .returned (.int .i64 (8 * L - a : Nat)) ∧ ∃ m, w' = w.drewN m) := ⟨left_calls w B g v V L a hr hL⟩
  have HF : Aside0 (∀ w : World, Calls Try.prog 35 #[.int .i64 n] w fun e w' => e = .returned (.bool (inW n)) ∧ w = w') := ⟨fun w => fitsw_calls n w⟩
  cases hf : inW n with
  | false =>
    have e1 : bitsE n (8 * L - a) = some 1 := by unfold bitsE; rw [hf]; rfl
    have e2 : bitsX V a (8 * L - a) n = 0 := by unfold bitsX; rw [e1]; rfl
    rw [e1, e2]
    have HR := Aside0.mk hr
    have HF : Aside0 (∀ w : World, Calls Try.prog 35 #[.int .i64 n] w fun e w' => e = .returned (.bool false) ∧ w = w') := ⟨fun w => hf ▸ fitsw_calls n w⟩
    clear hr e1 e2 hf
    go_enter Try.func17, Try.ntmps17
    go_wp2_with (go_at_call 35; refine (HF.out _).mono ?_; rintro e w' ⟨rfl, rfl⟩)
    go_ret2
    exact ⟨rfl, HR.out, Gone.refl _ _⟩
  | true =>
    have HF : Aside0 (∀ w : World, Calls Try.prog 35 #[.int .i64 n] w fun e w' => e = .returned (.bool true) ∧ w = w') := ⟨fun w => hf ▸ fitsw_calls n w⟩
    have hin : 0 ≤ n ∧ n ≤ 32 := of_decide_eq_true hf
    obtain ⟨k, rfl⟩ := Int.eq_ofNat_of_zero_le hin.1
    rw [Int.toNat_natCast]
    by_cases hl : k ≤ 8 * L - a
    · have e1 : bitsE (k : Int) (8 * L - a) = none := by unfold bitsE; rw [hf, if_pos rfl, if_pos (by omega)]
      have e2 : bitsX V a (8 * L - a) (k : Int) = V / 2 ^ a % 2 ^ k := by unfold bitsX; rw [e1]; rfl
      rw [e1, e2]
      have hp := peek_calls w B g v V L a k (by omega) hr hL
      rw [Nat.min_eq_left hl] at hp
      have HP : Aside0 (∀ m, Calls Try.prog 37 #[.pointer (some ⟨g, 0, none⟩), .int .i64 k] (w.drewN m) fun e w' => e = .returned (.tuple #[.int .u32 (V / 2 ^ a % 2 ^ k : Nat), .int .i64 k]) ∧ ∃ m', w' = w.drewN m') := by
        refine ⟨fun m => ?_⟩
        have hp := peek_calls (w.drewN m) B g v V L a k (by omega) (hr.drewN m) hL
        rw [Nat.min_eq_left hl] at hp
        refine hp.mono ?_
        rintro e w' ⟨rfl, m', rfl⟩
        exact ⟨rfl, m + m', by simp⟩
      obtain ⟨c0, c1, f1⟩ := hr.cells
      have hle := hr.le
      have h0 : ((k : Nat) : Int) ≤ ((8 * L - a : Nat) : Int) := by omega
      have HR : Aside0 (∀ m, Rdr ((w.drewN m).setCell ⟨g, 1, none⟩ (.int .i64 ((a : Int) + (k : Int)))) B g v V L (a + k)) := ⟨fun m => by
        have := (hr.drewN m).set (a + k) (by omega)
        rwa [show ((a + k : Nat) : Int) = (a : Int) + (k : Int) by omega] at this⟩
      have HG := Aside0.mk (Gone.refl w g)
      have h1 : (a : Int) ≤ 800000000000000 := by omega
      have h2 : (k : Int) ≤ 32 := by omega
      generalize V / 2 ^ a % 2 ^ k = res at *
      generalize 8 * L - a = l at *
      clear hr hle hf e1 e2 hp hin hl
      go_enter Try.func17, Try.ntmps17
      go_wp2_with (first
        | (go_at_call 35; refine (HF.out _).mono ?_; rintro e w' ⟨rfl, rfl⟩)
        | (go_at_call 36; refine HLf.out.mono ?_; rintro e w' ⟨rfl, m1, rfl⟩)
        | (go_at_call 37; refine (HP.out _).mono ?_; rintro e w' ⟨rfl, m2, rfl⟩))
      go_ret2
      first
        | exact ⟨rfl, HR.out _, (HG.out.drewN _).set _ _⟩
        | exact ⟨rfl, (HR.out _).drew, ((HG.out.drewN _).set _ _).drew⟩
    · have e1 : bitsE (k : Int) (8 * L - a) = some 10 := by unfold bitsE; rw [hf, if_pos rfl, if_neg (by omega)]
      have e2 : bitsX V a (8 * L - a) (k : Int) = 0 := by unfold bitsX; rw [e1]; rfl
      rw [e1, e2]
      have HR := Aside0.mk hr
      have h0 : ((8 * L - a : Nat) : Int) < ((k : Nat) : Int) := by omega
      generalize 8 * L - a = l at *
      clear hr hf e1 e2 hin hl
      go_enter Try.func17, Try.ntmps17
      go_wp2_with (first
        | (go_at_call 35; refine (HF.out _).mono ?_; rintro e w' ⟨rfl, rfl⟩)
        | (go_at_call 36; refine HLf.out.mono ?_; rintro e w' ⟨rfl, m1, rfl⟩))
      go_ret2
      exact ⟨rfl, HR.out.drewN _, (Gone.refl _ _).drewN _⟩
end Go.Proofs.Ytlgpmpnobcdogaa.My

/- The walk of bits.NewReader, and of bits.Reader.Bytes. -/
namespace Go.Proofs.Ytlgpmpnobcdogaa.My
open Go.RowKit Go.Proofs.YtlgpmpnobcdogaaW.PrintWords Go.Proofs.YtlgpmpnobcdogaaW.PrintLast Go.Proofs.YtlgpmpnobcdogaaW.PrintMore

theorem newReader_calls (A : Option Addr) (n c V : Nat) (w : World) (hx : (Kd.int .u8).C w A n (leB V n)) (hV : V < 2 ^ (8 * n)) (hn : n ≤ 100000000000000) (hcap : A = none → n = 0 ∧ c = 0) :
    Calls Try.prog 16 #[.slice A n c] w fun e w' => ∃ g v, e = .returned (.pointer (some ⟨g, 0, none⟩)) ∧ Rdr w' w.heap.size g v V n 0 ∧ Below w.heap.size w w' := by
  have HC := Aside0.mk (clone_calls A n c (leB V n) w hx (by omega) (leB_len _ _) hcap)
  have HV := Aside0.mk hV
  clear hx hV hcap
  go_enter Try.func16, Try.ntmps16
  go_wp2_with (go_at_call 34; refine HC.out.mono ?_; rintro e w1 ⟨v1, rfl, HO, HB⟩; rw [leB_len] at HO; obtain ⟨A1, c1, rfl⟩ := own_slice HO; replace HO := Aside0.mk HO; replace HB := Aside0.mk HB)
  go_ret
  exact ⟨w1.heap.size, _, rfl, ⟨alloc_self _ _, HO.out.alloc _, HV.out, Nat.zero_le _, HB.out.size⟩, below_alloc HB.out _⟩
end Go.Proofs.Ytlgpmpnobcdogaa.My

/- Bits turned round, as Go's library does it: plain. -/
namespace Go.Proofs.Ytlgpmpnobcdogaa.My
open Go.RowKit

theorem or_nat32 (a b : Nat) (ha : a < 2 ^ 32) (hb : b < 2 ^ 32) : Go.bits .or .u32 a b = ((a ||| b : Nat) : Int) := by
  have hl : a ||| b < 2 ^ 32 := Nat.or_lt_two_pow ha hb
  show IntKind.u32.wrap ((BitVec.ofInt 32 (a : Int) ||| BitVec.ofInt 32 (b : Int)).toNat : Int) = _
  rw [BitVec.ofInt_natCast, BitVec.ofInt_natCast, BitVec.toNat_or, BitVec.toNat_ofNat, BitVec.toNat_ofNat, Nat.mod_eq_of_lt ha, Nat.mod_eq_of_lt hb, IntKind.wrap_u32]
  omega
theorem and_nat32 (a b : Nat) (ha : a < 2 ^ 32) (hb : b < 2 ^ 32) : Go.bits .and .u32 a b = ((a &&& b : Nat) : Int) := by
  have hl : a &&& b < 2 ^ 32 := Nat.and_lt_two_pow _ hb
  show IntKind.u32.wrap ((BitVec.ofInt 32 (a : Int) &&& BitVec.ofInt 32 (b : Int)).toNat : Int) = _
  rw [BitVec.ofInt_natCast, BitVec.ofInt_natCast, BitVec.toNat_and, BitVec.toNat_ofNat, BitVec.toNat_ofNat, Nat.mod_eq_of_lt ha, Nat.mod_eq_of_lt hb, IntKind.wrap_u32]
  omega
/-- One step: every second group of bits changes its place with the next one. -/
def sw (m d x : Int) : Int := bits .or .u32 (bits .and .u32 (x / d) m) (bits .and .u32 x m * d % 4294967296)
def half (x : Int) : Int := bits .or .u32 (x / 65536) (x * 65536 % 4294967296)
def swB (m : Nat) (k : Nat) (b : BitVec 32) : BitVec 32 := ((b >>> k) &&& BitVec.ofNat 32 m) ||| ((b &&& BitVec.ofNat 32 m) <<< k)
def halfB (b : BitVec 32) : BitVec 32 := (b >>> 16) ||| (b <<< 16)
theorem sw_eq (m k : Nat) (b : BitVec 32) (hm : m < 2 ^ 32) (d : Int) (hd : d = ((2 ^ k : Nat) : Int)) : sw m d b.toNat = (swB m k b).toNat := by
  have hb : b.toNat < 2 ^ 32 := b.isLt
  have h1 : b.toNat / 2 ^ k < 2 ^ 32 := Nat.lt_of_le_of_lt (Nat.div_le_self _ _) hb
  have h2 : b.toNat / 2 ^ k &&& m < 2 ^ 32 := Nat.and_lt_two_pow _ hm
  have h3 : (b.toNat &&& m) * 2 ^ k % 4294967296 < 2 ^ 32 := Nat.mod_lt _ (by decide)
  unfold sw
  rw [hd, show ((b.toNat : Int) / ((2 ^ k : Nat) : Int)) = ((b.toNat / 2 ^ k : Nat) : Int) from rfl, and_nat32 _ m h1 hm, and_nat32 _ m hb hm]
  rw [show (((b.toNat &&& m : Nat) : Int) * ((2 ^ k : Nat) : Int) % 4294967296) = (((b.toNat &&& m) * 2 ^ k % 4294967296 : Nat) : Int) by rw [← Int.natCast_mul]; rfl]
  rw [or_nat32 _ _ h2 h3]
  congr 1
  simp only [swB, BitVec.toNat_or, BitVec.toNat_and, BitVec.toNat_ushiftRight, BitVec.toNat_shiftLeft, BitVec.toNat_ofNat, Nat.shiftRight_eq_div_pow, Nat.shiftLeft_eq, Nat.mod_eq_of_lt hm]
theorem half_eq (b : BitVec 32) : half b.toNat = (halfB b).toNat := by
  have hb : b.toNat < 2 ^ 32 := b.isLt
  unfold half
  rw [show ((b.toNat : Int) / 65536) = ((b.toNat / 65536 : Nat) : Int) from rfl, show ((b.toNat : Int) * 65536 % 4294967296) = ((b.toNat * 65536 % 4294967296 : Nat) : Int) from rfl,
    or_nat32 _ _ (by omega) (by omega)]
  congr 1
  simp only [halfB, BitVec.toNat_or, BitVec.toNat_ushiftRight, BitVec.toNat_shiftLeft, Nat.shiftRight_eq_div_pow, Nat.shiftLeft_eq]
theorem rev_all (b : BitVec 32) : halfB (swB 16711935 8 (swB 252645135 4 (swB 858993459 2 (swB 1431655765 1 b)))) = b.reverse := by
  apply BitVec.eq_of_getLsbD_eq
  intro i hi
  rw [BitVec.getLsbD_reverse]
  unfold halfB swB
  rcases i with _|_|_|_|_|_|_|_|_|_|_|_|_|_|_|_|_|_|_|_|_|_|_|_|_|_|_|_|_|_|_|_|i
  all_goals first
    | (exfalso; omega)
    | simp [BitVec.getMsbD]

/-- The lowest n bits of a number, turned round. -/
def rv (x n : Nat) : Nat := (BitVec.ofNat 32 x).reverse.toNat / 2 ^ (32 - n)
theorem rv_bit (x n i : Nat) (hn : n ≤ 32) : (rv x n).testBit i = (decide (i < n) && x.testBit (n - 1 - i)) := by
  unfold rv
  rw [← Nat.shiftRight_eq_div_pow, Nat.testBit_shiftRight]
  show (BitVec.reverse (BitVec.ofNat 32 x)).getLsbD (32 - n + i) = _
  rw [BitVec.getLsbD_reverse, BitVec.getMsbD_eq_getLsbD, BitVec.getLsbD_ofNat]
  by_cases h : i < n
  · rw [show 32 - 1 - (32 - n + i) = n - 1 - i by omega]
    simp [h, show n - 1 - i < 32 by omega, show 32 - n + i < 32 by omega]
  · simp [h, show ¬ 32 - n + i < 32 by omega]
theorem rv_lt (x n : Nat) (hn : n ≤ 32) : rv x n < 2 ^ n := by
  refine Nat.lt_pow_two_of_testBit _ fun i hi => ?_
  rw [rv_bit x n i hn]
  simp [show ¬ i < n by omega]
end Go.Proofs.Ytlgpmpnobcdogaa.My

/- The walk of huff.Code's Take. -/
namespace Go.Proofs.Ytlgpmpnobcdogaa.My
open Go.RowKit Go.Proofs.Ytlgpmpnobcdogaa.Huf Go.Proofs.YtlgpmpnobcdogaaW.PrintWords Go.Proofs.YtlgpmpnobcdogaaW.PrintLast Go.Proofs.YtlgpmpnobcdogaaW.PrintMore
set_option linter.unusedVariables false
set_option linter.unusedSimpArgs false

theorem has_le (L : List Int) (hok : okL L = true) (s n : Nat) (h : Has L s n) : n ≤ 15 := by
  have h1 := h.1
  have hmem : L.getD s 0 ∈ L := by rw [List.getD_eq_getElem?_getD, List.getElem?_eq_getElem h1]; exact List.getElem_mem _
  have h2 := List.all_eq_true.1 hok _ hmem
  have h3 : 0 ≤ L.getD s 0 ∧ L.getD s 0 ≤ 15 := by simpa using h2
  rw [h.2.2] at h3
  omega
theorem takeR_short (L : List Int) (hok : okL L = true) (V a d : Nat) (hno : ∀ s n, n ≤ d → ¬ Fits L V a d s n) : TakeR L V a d 0 0 (some (if anyMeets L (cd V a d) d (15 - d) (d + 1) then 10 else 2)) := by
  have hno' : ∀ s n, ¬ Fits L V a d s n := fun s n h => hno s n h.2.1 h
  by_cases h : anyMeets L (cd V a d) d (15 - d) (d + 1) = true
  · rw [if_pos h]
    obtain ⟨m, h1, h2, h3⟩ := (anyMeets_iff L (cd V a d) d (15 - d) (d + 1)).1 h
    obtain ⟨s, hs, e⟩ := (meets_iff L (cd V a d) d m (by omega)).1 h3
    exact .ends hno' s m ⟨hs, by omega, e⟩
  · rw [if_neg h]
    refine .form hno' fun s n hc => h ((anyMeets_iff L (cd V a d) d (15 - d) (d + 1)).2 ⟨n, hc.2.1, ?_, (meets_iff L (cd V a d) d n hc.1.2.1).2 ⟨s, hc.1, hc.2.2⟩⟩)
    have := has_le L hok s n hc.1
    omega
theorem takeR_form (L : List Int) (hok : okL L = true) (V a left : Nat) (hl : 15 ≤ left) (hno : ∀ s n, n ≤ 15 → ¬ Fits L V a left s n) : TakeR L V a left 0 0 (some 2) :=
  .form (fun s n h => hno s n (has_le L hok s n h.1) h) (fun s n h => by have := has_le L hok s n h.1; have := h.2.1; omega)
theorem Gone.grown {w w1 : World} {g : Nat} (h : Gone w w1 g) : w.grownBy w1 (some g) := ⟨h.os, h.tape, h.output, h.keep.1, fun i hi hr => h.keep.2 i hi (fun e => hr (by rw [e])) (by simp)⟩
theorem or_nat63 (a b : Nat) (ha : a < 2 ^ 62) (hb : b < 2 ^ 62) : Go.bits .or .i64 a b = ((a ||| b : Nat) : Int) := by
  have hl : a ||| b < 2 ^ 62 := Nat.or_lt_two_pow ha hb
  show IntKind.i64.wrap ((BitVec.ofInt 64 (a : Int) ||| BitVec.ofInt 64 (b : Int)).toNat : Int) = _
  rw [BitVec.ofInt_natCast, BitVec.ofInt_natCast, BitVec.toNat_or, BitVec.toNat_ofNat, BitVec.toNat_ofNat, Nat.mod_eq_of_lt (by omega), Nat.mod_eq_of_lt (by omega), IntKind.wrap_i64]
  omega
theorem next_bit (c b : Nat) (hc : c ≤ 32768) (hb : b < 2) : Go.bits .or .i64 ((c : Int) * 2) (b : Int) = ((2 * c + b : Nat) : Int) := by
  have h := or_nat63 (2 * c) b (by omega) (by omega)
  rw [show ((2 * c : Nat) : Int) = (c : Int) * 2 by omega] at h
  rw [h, Nat.or_comm, show 2 * c = c * 2 ^ 1 by omega, or_low b c 1 (by omega), Nat.add_comm]
theorem held_bit (V a th d : Nat) (hd : d < th) (h15 : th ≤ 15) : Go.bits .and .u32 (((V / 2 ^ a % 2 ^ th : Nat) : Int) / 2 ^ d) 1 = ((bv V (a + d) : Nat) : Int) := by
  have h1 : V / 2 ^ a % 2 ^ th < 2 ^ th := Nat.mod_lt _ (Nat.two_pow_pos _)
  have h2 : 2 ^ th ≤ 2 ^ 15 := Nat.pow_le_pow_right (by decide) h15
  have h3 : V / 2 ^ a % 2 ^ th / 2 ^ d < 2 ^ 32 := Nat.lt_of_le_of_lt (Nat.div_le_self _ _) (Nat.lt_of_lt_of_le h1 (Nat.le_trans h2 (by decide)))
  rw [show ((V / 2 ^ a % 2 ^ th : Nat) : Int) / 2 ^ d = ((V / 2 ^ a % 2 ^ th / 2 ^ d : Nat) : Int) by simp, show (1 : Int) = ((1 : Nat) : Int) from rfl, and_nat32 _ 1 h3 (by decide), Nat.and_one_is_mod]
  congr 1
  unfold bv
  obtain ⟨e, rfl⟩ : ∃ e, th = d + (1 + e) := ⟨th - d - 1, by omega⟩
  rw [Nat.pow_add 2 d, Nat.mod_mul_right_div_self, Nat.pow_add 2 a d, ← Nat.div_div_eq_div_mul, Nat.pow_add, Nat.mod_mul_right_mod]
set_option maxHeartbeats 4000000 in
set_option maxRecDepth 100000 in
theorem take_calls (w : World) (lo hi g : Nat) (L : List Int) (k : CodeAt w lo hi g L) (hl : L.length ≤ 320) (hok : okL L = true) (hov : anyOver L 15 1 = false) (B gr : Nat) (v : Value) (V lb a : Nat) (hr : Rdr w B gr v V lb a) (hlb : lb ≤ 1000000) (hgr : gr < lo ∨ hi ≤ gr) :
    Calls Try.prog 19 #[.pointer (some ⟨g, 0, none⟩), .pointer (some ⟨gr, 0, none⟩)] w fun e w' => ∃ x n er, TakeR L V a (8 * lb - a) x n er ∧ e = .returned (.tuple #[.int .i64 x, errV er]) ∧ Rdr w' B gr v V lb (a + n) ∧ Gone w w' gr := by
  have HP : Aside0 (Calls Try.prog 37 #[.pointer (some ⟨gr, 0, none⟩), .int .i64 15] w fun e w' => e = .returned (.tuple #[.int .u32 (V / 2 ^ a % 2 ^ (min 15 (8 * lb - a)) : Nat), .int .i64 (min 15 (8 * lb - a) : Nat)]) ∧ ∃ m, w' = w.drewN m) := ⟨peek_calls w B gr v V lb a 15 (by omega) hr (by omega)⟩
  have HB : Aside0 (∀ (wx : World) (n : Nat), Rdr wx B gr v V lb a → Calls Try.prog 17 #[.pointer (some ⟨gr, 0, none⟩), .int .i64 n] wx fun e w' => e = .returned (.tuple #[.int .u32 (bitsX V a (8 * lb - a) n), errV (bitsE n (8 * lb - a))]) ∧ Rdr w' B gr v V lb (if (bitsE n (8 * lb - a)).isNone then a + n else a) ∧ Gone wx w' gr) := ⟨fun wx n h => rbits_calls wx B gr v V lb a n h (by omega)⟩
  have HS : Aside0 (∀ (m c len : Nat), c < 2 ^ len → len ≤ 15 → Calls Try.prog 38 #[.pointer (some ⟨g, 0, none⟩), .int .i64 c, .int .i64 len] (w.drewN m) fun e w' => e = .returned (errV (some (if anyMeets L c len (15 - len) (len + 1) then 10 else 2))) ∧ ∃ m', w' = (w.drewN m).drewN m') := ⟨fun m c len h1 h2 => short_calls _ lo hi g L (k.drewN m) (by omega) hov c len h1 h2⟩
  have HK := Aside0.mk k
  have HR := Aside0.mk hr
  have HOk := Aside0.mk hok
  have HOv := Aside0.mk hov
  have HGr := Aside0.mk hgr
  have HLe := Aside0.mk hr.le
  obtain ⟨A, A1, A2, c, c1, c2, S, kc, r0, r1, r2, hS, h1, h2⟩ := k.out
  have HC := Aside0.mk kc
  have HLn := Aside0.mk hl
  clear kc r0 r1 r2 hS k hr hok hov hgr hl
  obtain ⟨left, hleft⟩ : ∃ left, left = 8 * lb - a := ⟨_, rfl⟩
  rw [← hleft] at HP HB ⊢
  have HLeft := Aside0.mk hleft
  obtain ⟨th, hth⟩ : ∃ th, th = min 15 left := ⟨_, rfl⟩
  rw [← hth] at HP
  have HTh := Aside0.mk hth
  obtain ⟨held, hheld⟩ : ∃ held, held = V / 2 ^ a % 2 ^ th := ⟨_, rfl⟩
  rw [← hheld] at HP
  have HHeld := Aside0.mk hheld
  have t15 : (th : Int) ≤ 15 := by omega
  clear hleft hth hheld
  go_enter Try.func19, Try.ntmps19
  go_wp2_with (go_at_call 37; refine (HP.out).mono ?_; rintro e w1 ⟨rfl, m1, rfl⟩)
  go_loopg [8, 9] 15 (fun kq v8 v9 wr => ∃ d : Nat, v9 = .int .i64 ((d : Int) + 1) ∧ v8 = .int .i64 ((cd V a d : Nat) : Int) ∧ d ≤ 15 ∧ Aside0 (kq = 15 - d) ∧ Aside0 (d ≤ th) ∧ Aside0 (∃ m, wr = w.drewN m) ∧ Aside0 (∀ s n, n ≤ d → ¬ Fits L V a left s n))
  case atStart => exact ⟨0, rfl, rfl, by omega, ⟨rfl⟩, ⟨Nat.zero_le _⟩, ⟨m1, rfl⟩, ⟨fun s n hn h => h.1.2.1 (by omega)⟩⟩
  case round =>
    obtain ⟨d, rfl, rfl, hd, HKq, HDt, HW, HNo⟩ := hrel
    obtain ⟨m, rfl⟩ := HW.out
    by_cases hlt : d < 15
    · have hlt' : (d : Int) + 1 ≤ 15 := by omega
      by_cases hth : d < th
      · have hth' : (d : Int) + 1 ≤ (th : Int) := by omega
        have hcd := cd_lt V a d
        have h2d : 2 ^ d ≤ 2 ^ 15 := Nat.pow_le_pow_right (by decide) hd
        have h32 : cd V a d ≤ 32768 := Nat.le_trans (Nat.le_of_lt hcd) h2d
        have hcdi : ((cd V a d : Nat) : Int) ≤ 32768 := by omega
        have HCd := Aside0.mk hcd
        have hnext : Go.bits .or .i64 ((cd V a d : Int) * 2) (wrap64 (Go.bits .and .u32 ((held : Int) / 2 ^ d) 1)) = ((cd V a (d + 1) : Nat) : Int) := by
          have hb := bv_lt V (a + d)
          rw [HHeld.out, held_bit V a th d hth (by omega), wn _ (by omega) (by omega), next_bit _ _ h32 hb, cd]
        have hcd1 := cd_lt V a (d + 1)
        have h2d1 : 2 ^ (d + 1) ≤ 2 ^ 15 := Nat.pow_le_pow_right (by decide) hlt
        have h321 : cd V a (d + 1) ≤ 32768 := Nat.le_trans (Nat.le_of_lt hcd1) h2d1
        have hcdi1 : ((cd V a (d + 1) : Nat) : Int) ≤ 32768 := by omega
        have p1 : (0 : Int) ≤ ((cd V a (d + 1) : Nat) : Int) := by omega
        clear hcd h2d h32 hcd1 h2d1 h321
        go_upto_region 11 with fail
        clear hnext hcdi HCd
        have hF := pow15 (d + 1) _ (by omega) (fst_le L (d + 1) (fun j h1 h2 => over_all L 15 1 HOv.out j h1 (by omega)))
        have hN := Nat.le_trans (cn_le L (d + 1)) HLn.out
        have cf := HC.out.cf (d + 1) (by omega)
        rw [upto_get _ _ (d + 1) (by omega) (by omega)] at cf
        have cm := HC.out.cm (d + 1) (by omega)
        rw [tab_get _ (d + 1) (by omega), show Huf.c0 L (d + 1) = cn L (d + 1) by unfold Huf.c0; rw [if_neg (by omega)]] at cm
        have bF : ((fst L (d + 1) : Nat) : Int) ≤ 1000000 := by omega
        have bN : ((cn L (d + 1) : Nat) : Int) ≤ 320 := by omega
        have hit := range_has L (d + 1) (cd V a (d + 1)) (by omega)
        have HHit := Aside0.mk hit
        have hmiss : ∀ s n, n ≤ d + 1 → ¬ (fst L (d + 1) ≤ cd V a (d + 1) ∧ cd V a (d + 1) < fst L (d + 1) + cn L (d + 1)) → ¬ Fits L V a left s n := fun s n hn hno h => by
          by_cases e : n = d + 1
          · subst e
            have := has_range L s (d + 1) h.1
            rw [h.2.2] at this
            exact hno this
          · exact HNo.out s n (by omega) h
        have HMiss := Aside0.mk hmiss
        have HTHD := Aside0.mk hth
        clear hF hN hit hmiss
        generalize hXe : cd V a (d + 1) = X at *
        generalize hFe : fst L (d + 1) = F at *
        generalize hNe : cn L (d + 1) = N at *
        have HXe := Aside0.mk hXe
        have HFe := Aside0.mk hFe
        have HNe := Aside0.mk hNe
        clear hXe hFe hNe
        by_cases q1 : F ≤ X
        · have q1' : (0 : Int) ≤ (X : Int) - (F : Int) := by omega
          by_cases q2 : X < F + N
          · have q2' : (X : Int) - (F : Int) < (N : Int) := by omega
            obtain ⟨s, hs, hsc⟩ := range_has L (d + 1) X (by omega) (by rw [HFe.out]; exact q1) (by rw [HFe.out, HNe.out]; exact q2)
            have hfit : Fits L V a left s (d + 1) := ⟨hs, by have := HTh.out; have := HTHD.out; omega, by rw [hsc, HXe.out]⟩
            have HFit := Aside0.mk hfit
            have hcs := code_has L s (d + 1) hs
            rw [hsc, HFe.out] at hcs
            have hps := pos_eq L s (d + 1) hs.2.2
            have hpin := pos_in L s (d + 1) hs.1 (by omega) hlt hs.2.2
            rw [← hps] at hpin
            have HB1 : Aside0 (Calls Try.prog 17 #[.pointer (some ⟨gr, 0, none⟩), .int .i64 ((d : Int) + 1)] (w.drewN m) fun e w' => ∃ x, e = .returned (.tuple #[.int .u32 x, .nilIface]) ∧ Rdr w' B gr v V lb (a + (d + 1)) ∧ Gone (w.drewN m) w' gr) := ⟨by
              have h := HB.out (w.drewN m) (d + 1) (HR.out.drewN m)
              have hE : bitsE ((d + 1 : Nat) : Int) left = none := by
                unfold bitsE inW
                rw [if_pos (by simp; omega), if_pos (by have := hfit.2.1; omega)]
              rw [hE] at h
              rw [show ((d + 1 : Nat) : Int) = (d : Int) + 1 by omega] at h
              refine h.mono ?_
              rintro e w' ⟨rfl, h1, h2⟩
              exact ⟨_, rfl, h1, h2⟩⟩
            have hidx : ((beg L (d + 1) : Nat) : Int) + ((X : Int) - (F : Int)) = ((pos L s : Nat) : Int) := by omega
            have HPin := Aside0.mk hpin
            have HHs := Aside0.mk hs
            clear hfit hcs hps hpin hsc hs
            go_wp2_with fail
            refine (HB1.out).mono ?_
            rintro e w2 ⟨xb, rfl, hr2, hg2⟩
            have k2 := (HK.out.drewN m).grown hg2.grown (fun r e => by cases e; exact HGr.out)
            obtain ⟨A', A1', A2', c', c1', c2', S', kc2, r02, r12, r22, hS2, _, _⟩ := k2.out
            have d4 := kc2.c4
            have db := kc2.cb (d + 1) (by omega)
            rw [upto_get _ _ (d + 1) (by omega) (by omega)] at db
            obtain ⟨a1, rfl, e1⟩ := rb_at r12 (pos L s) HPin.out
            rw [hS2.2 s HHs.out.1 (by rw [HHs.out.2.2]; omega)] at e1
            have hpT : ((pos L s : Nat) : Int) < ((beg L 16 : Nat) : Int) := by have := HPin.out; omega
            have hT6 : ((beg L 16 : Nat) : Int) ≤ 320 := by have := beg_all L HOk.out 16; have := HLn.out; omega
            have hbg : ((beg L (d + 1) : Nat) : Int) ≤ 320 := by have := beg_all L HOk.out (d + 1); have := HLn.out; omega
            have HR2 := Aside0.mk hr2
            have HG2 := Aside0.mk hg2
            clear k2 kc2 r02 r12 r22 hS2 hr2 hg2
            generalize pos L s = P at *
            generalize beg L (d + 1) = Bg at *
            generalize beg L 16 = T at *
            go_wp2_with fail
            go_quiet (fail)
            go_wp2_with fail
            go_ret2
            exact ⟨_, _, none, .sign s (d + 1) HFit.out, rfl, HR2.out.drewN _, ((Gone.refl w gr).drewN m).trans (HG2.out.drewN _)⟩
          · have q2' : ¬ (X : Int) - (F : Int) < (N : Int) := by omega
            have HNo1 : Aside0 (∀ s n, n ≤ d + 1 → ¬ Fits L V a left s n) := ⟨fun s n hn => HMiss.out s n hn (fun h => q2 h.2)⟩
            go_wp2_with fail
            have e1 : (d : Int) + 1 + 1 = ((d + 1 : Nat) : Int) + 1 := by omega
            rw [e1]
            go_roundg (15 - (d + 1))
            case measure => have := HKq.out; omega
            case rel => exact ⟨d + 1, rfl, by rw [HXe.out], hlt, ⟨rfl⟩, ⟨HTHD.out⟩, ⟨_, rfl⟩, HNo1⟩
        · have q1' : ¬ (0 : Int) ≤ (X : Int) - (F : Int) := by omega
          have HNo1 : Aside0 (∀ s n, n ≤ d + 1 → ¬ Fits L V a left s n) := ⟨fun s n hn => HMiss.out s n hn (fun h => q1 h.1)⟩
          go_wp2_with fail
          have e1 : (d : Int) + 1 + 1 = ((d + 1 : Nat) : Int) + 1 := by omega
          rw [e1]
          go_roundg (15 - (d + 1))
          case measure => have := HKq.out; omega
          case rel => exact ⟨d + 1, rfl, by rw [HXe.out], hlt, ⟨rfl⟩, ⟨HTHD.out⟩, ⟨_, rfl⟩, HNo1⟩
      · have hdt : d = th := by have := HDt.out; omega
        have hdl : left = d := by have := HTh.out; omega
        have hth' : (th : Int) < (d : Int) + 1 := by omega
        have HT : Aside0 (TakeR L V a left 0 0 (some (if anyMeets L (cd V a d) d (15 - d) (d + 1) then 10 else 2))) := ⟨by
          rw [hdl]
          exact takeR_short L HOk.out V a d (fun s n hn => by have := HNo.out s n hn; rw [hdl] at this; exact this)⟩
        have HS1 := Aside0.mk (HS.out m (cd V a d) d (cd_lt V a d) hd)
        obtain ⟨r, hr⟩ : ∃ r : Int, r = if anyMeets L (cd V a d) d (15 - d) (d + 1) then 10 else 2 := ⟨_, rfl⟩
        rw [← hr] at HS1 HT
        have hcd := cd_lt V a d
        have h2d : 2 ^ d ≤ 2 ^ 15 := Nat.pow_le_pow_right (by decide) hd
        have h32 : cd V a d ≤ 32768 := Nat.le_trans (Nat.le_of_lt hcd) h2d
        clear hr hdl hdt hcd h2d h32
        generalize cd V a d = X at *
        go_wp2_with fail
        refine (HS1.out).mono ?_
        rintro e w2 ⟨rfl, m2, rfl⟩
        simp only [errV]
        go_wp2_with fail
        go_ret2
        exact ⟨_, _, _, HT.out, rfl, (HR.out.drewN _).drewN _, ((Gone.refl w gr).drewN m).drewN _⟩
    · have hd15 : d = 15 := by omega
      have HT : Aside0 (TakeR L V a left 0 0 (some 2)) := ⟨takeR_form L HOk.out V a left (by have := HTh.out; have := HDt.out; omega) (fun s n hn => HNo.out s n (by omega))⟩
      have hlt' : ¬ (d : Int) + 1 ≤ 15 := by omega
      go_wp2_with fail
      go_ret2
      exact ⟨_, _, _, HT.out, rfl, HR.out.drewN _, (Gone.refl w gr).drewN m⟩
theorem taken_calls (w : World) (v : Value) : Calls Try.prog 19 #[.pointer none, v] w fun e w' => e = .returned (.tuple #[.int .i64 0, errV (some 4)]) ∧ w = w' := by
  go_enter Try.func19, Try.ntmps19
  go_wp2
  go_ret2
  exact ⟨rfl, rfl⟩
theorem takeg_calls (w : World) (a : Addr) : Calls Try.prog 19 #[.pointer (some a), .pointer none] w fun e w' => e = .returned (.tuple #[.int .i64 0, errV (some 4)]) ∧ w = w' := by
  go_enter Try.func19, Try.ntmps19
  go_wp2
  go_ret2
  exact ⟨rfl, rfl⟩
end Go.Proofs.Ytlgpmpnobcdogaa.My

/- The walk of bits.Writer.Text. -/
namespace Go.Proofs.Ytlgpmpnobcdogaa.My
open Go.RowKit Go.Proofs.YtlgpmpnobcdogaaW.PrintWords Go.Proofs.YtlgpmpnobcdogaaW.PrintLast Go.Proofs.YtlgpmpnobcdogaaW.PrintMore

theorem own_cap {w : World} {B n : Nat} {e : TypeId} {A : Option Addr} {m c : Nat} {xs : List Value} (h : w.ownsRow B e 1 (.slice A m c) n xs) : A = none → m = 0 ∧ c = 0 := by
  intro hA
  rcases h.2 with ⟨h1, h2⟩ | ⟨g, cap, cur, h1, _⟩
  · cases h1; exact ⟨rfl, rfl⟩
  · subst hA; cases h1
theorem wtext_calls (w : World) (B g : Nat) (v : Value) (V N : Nat) (hw : Writ w B g v V N) (hN : N ≤ 1000000000000000) :
    Calls Try.prog 24 #[.pointer (some ⟨g, 0, none⟩)] w fun e w' => ∃ v', e = .returned v' ∧ w'.ownsRow w.heap.size 5 1 v' ((N + 7) / 8) (nums .u8 (leB V ((N + 7) / 8))) ∧ Below w.heap.size w w' := by
  obtain ⟨c0, c1, c2, f0, f1, f2⟩ := hw.wr.cells
  obtain ⟨A, cc, rfl⟩ := own_slice hw.wr.row
  obtain ⟨A', c', e', hcc, hC⟩ := own_slice' hw.wr.row
  cases e'
  have hcap := own_cap hw.wr.row
  rw [leB_len] at c0 hC hcap
  have hcl := Aside0.mk (clone_calls A (N / 8) cc (leB V (N / 8)) w hC (by omega) (leB_len _ _) hcap)
  have hblk := Aside0.mk hw.wr.blk
  have hV := Aside0.mk hw.lt
  have hm8 : N % 8 < 8 := Nat.mod_lt _ (by decide)
  have HD := Aside0.mk (show N = 8 * (N / 8) + N % 8 by omega)
  by_cases hm : N % 8 = 0
  · have e1 : (N + 7) / 8 = N / 8 := by omega
    rw [hm] at c2
    rw [e1]
    clear hw hC hm e1 HD
    go_enter Try.func24, Try.ntmps24
    go_wp2_with (go_at_call 34; refine hcl.out.mono ?_; rintro e w' ⟨v', rfl, HO, HB⟩; rw [leB_len] at HO; obtain ⟨A2, k2, rfl⟩ := own_slice HO; have p2 := pw_cell_below HB c2; replace HO := Aside0.mk HO; replace HB := Aside0.mk HB)
    go_ret
    exact ⟨_, rfl, HO.out, HB.out⟩
  · have e1 : (N + 7) / 8 = N / 8 + 1 := by omega
    have hm0 : (0 : Int) < ((N % 8 : Nat) : Int) := by omega
    rw [e1]
    clear hw hC hm e1
    generalize hh : V / 2 ^ (8 * (N / 8)) = h at *
    have HH := Aside0.mk hh
    clear hh
    generalize N % 8 = m at *
    go_enter Try.func24, Try.ntmps24
    go_wp2_with (first
      | (go_at_call 34; refine hcl.out.mono ?_; rintro e w' ⟨v', rfl, HO, HB⟩; rw [leB_len] at HO; obtain ⟨A2, k2, rfl⟩ := own_slice HO; have p2 := pw_cell_below HB c2; have p1 := pw_cell_below HB c1; replace HO := Aside0.mk HO; replace HB := Aside0.mk HB)
      | ((with_reducible refine gate_dst (N := 23) rfl ?_); refine print_append_num (w0 := w) w.heap.size rfl (.tmp 16) (.tmp 22) 39 5 .u8 1 rfl Try.underlying39 info_u8 (by decide) _ (leB V (N / 8)) _ rfl rfl (by rw [leB_len]; exact HO.out) HB.out HB.out.size (by rw [leB_len]; omega) ?_; intro v1 w2 ho hb hg hk; clear hg hk; have HB2 := Aside0.mk hb; have HO2 := Aside0.mk ho; clear hb ho))
    go_ret
    have k := HO2.out
    have e2 : (h : Int) % 256 = ((V / 2 ^ (8 * (N / 8)) % 256 : Nat) : Int) := by rw [HH.out]; omega
    rw [e2, ← leB_succ, leB_len] at k
    exact ⟨_, rfl, k, HB2.out⟩
end Go.Proofs.Ytlgpmpnobcdogaa.My

/- The walk of bits.Reverse32. -/
namespace Go.Proofs.Ytlgpmpnobcdogaa.My
open Go.RowKit Go.Proofs.YtlgpmpnobcdogaaW.PrintWords Go.Proofs.YtlgpmpnobcdogaaW.PrintLast Go.Proofs.YtlgpmpnobcdogaaW.PrintMore

theorem revb_calls (x : Int) (w : World) : Calls Try.prog 48 #[.int .u32 x] w fun e w' => e = .returned (.int .u32 (half (sw 16711935 256 x))) ∧ w = w' := by
  go_enter Try.func48, Try.ntmps48
  go_wp2
  go_ret
  exact ⟨rfl, rfl⟩
theorem rev_calls (x : Nat) (w : World) (hx : x < 4294967296) : Calls Try.prog 44 #[.int .u32 x] w fun e w' => e = .returned (.int .u32 (BitVec.ofNat 32 x).reverse.toNat) ∧ w = w' := by
  have HE : Aside0 (half (sw 16711935 256 (sw 252645135 16 (sw 858993459 4 (sw 1431655765 2 x)))) = ((BitVec.ofNat 32 x).reverse.toNat : Int)) := by
    refine ⟨?_⟩
    have e0 : x = (BitVec.ofNat 32 x).toNat := by rw [BitVec.toNat_ofNat]; omega
    rw [← rev_all, ← half_eq, ← sw_eq _ 8 _ (by decide) 256 rfl, ← sw_eq _ 4 _ (by decide) 16 rfl, ← sw_eq _ 2 _ (by decide) 4 rfl, ← sw_eq _ 1 _ (by decide) 2 rfl, ← e0]
    rfl
  rw [← HE.out]
  clear HE hx
  go_enter Try.func44, Try.ntmps44
  go_wp2_with (go_at_call 48; refine (revb_calls _ _).mono ?_; rintro e w' ⟨rfl, rfl⟩)
  go_ret
  exact ⟨rfl, rfl⟩
end Go.Proofs.Ytlgpmpnobcdogaa.My

/- The walks of bits.Writer: Code, Bytes; and of a nil one. -/
namespace Go.Proofs.Ytlgpmpnobcdogaa.My
open Go.RowKit Go.Proofs.YtlgpmpnobcdogaaW.PrintWords Go.Proofs.YtlgpmpnobcdogaaW.PrintLast Go.Proofs.YtlgpmpnobcdogaaW.PrintMore

theorem code_calls' (w : World) (B g : Nat) (v : Value) (V N x : Nat) (n : Int) (hB : B ≤ w.heap.size) (hw : Writ w B g v V N) (hx : x < 4294967296) (hN : N ≤ 1000000000000000) :
    Calls Try.prog 39 #[.pointer (some ⟨g, 0, none⟩), .int .u32 x, .int .i64 n] w fun e w' => e = .returned (errV (askE x n)) ∧
      ((okW x n = false ∧ w' = w) ∨ (okW x n = true ∧ ∃ v', Writ w' B g v' (V + rv x n.toNat * 2 ^ N) (N + n.toNat) ∧ Grew w w' g v v')) := by
  have u1 := Try.underlying26
  cases ho : okW x n with
  | false =>
    have e0 : askE x n = some 1 := by unfold askE; rw [ho]; rfl
    have HA : Aside0 (∀ w : World, Calls Try.prog 42 #[.pointer (some ⟨g, 0, none⟩), .int .u32 x, .int .i64 n] w fun e w' => e = .returned (errV (some 1)) ∧ w = w') := ⟨fun w => e0 ▸ asks_calls g x n w hx⟩
    rw [e0]
    clear hw e0 ho
    go_enter Try.func39, Try.ntmps39
    go_wp2_with (go_at_call 42; refine (HA.out _).mono ?_; rintro e w' ⟨rfl, rfl⟩; unfold errV)
    go_ret
    exact ⟨rfl, .inl ⟨by trivial, rfl⟩⟩
  | true =>
    have e0 : askE x n = none := by unfold askE; rw [ho]; rfl
    have HA : Aside0 (∀ w : World, Calls Try.prog 42 #[.pointer (some ⟨g, 0, none⟩), .int .u32 x, .int .i64 n] w fun e w' => e = .returned (errV none) ∧ w = w') := ⟨fun w => e0 ▸ asks_calls g x n w hx⟩
    rw [e0]
    have hk : 0 ≤ n ∧ n ≤ 32 ∧ x < 2 ^ n.toNat := of_decide_eq_true ho
    obtain ⟨k, rfl⟩ := Int.eq_ofNat_of_zero_le hk.1
    rw [Int.toNat_natCast] at *
    have hk32 : k ≤ 32 := by omega
    have HP := Aside0.mk (putw_calls w B g v V N (rv x k) k hB hw (rv_lt x k hk32) hk32 hN)
    have hr32 : ((BitVec.ofNat 32 x).reverse.toNat : Int) < 4294967296 := by have := (BitVec.ofNat 32 x).reverse.isLt; omega
    have HR := Aside0.mk (show rv x k = (BitVec.ofNat 32 x).reverse.toNat / 2 ^ (32 - k) from rfl)
    have HRV : Aside0 (∀ w : World, Calls Try.prog 44 #[.int .u32 x] w fun e w' => e = .returned (.int .u32 (BitVec.ofNat 32 x).reverse.toNat) ∧ w = w') := ⟨fun w => rev_calls x w hx⟩
    generalize (BitVec.ofNat 32 x).reverse.toNat = r at *
    have HQ : Aside0 ((r : Int) / 2 ^ (32 - k) % 4294967296 = ((rv x k : Nat) : Int)) := by
      refine ⟨?_⟩
      rw [HR.out, show (r : Int) / 2 ^ (32 - k) = ((r / 2 ^ (32 - k) : Nat) : Int) by simp]
      have : r / 2 ^ (32 - k) ≤ r := Nat.div_le_self _ _
      generalize r / 2 ^ (32 - k) = q at *
      omega
    have h32k : (32 : Int) - (k : Int) = ((32 - k : Nat) : Int) := by omega
    have hkk : (k : Int) ≤ 32 := by omega
    clear hw e0 ho hk hx
    go_enter Try.func39, Try.ntmps39
    go_wp2_with (first
      | (go_at_call 42; refine (HA.out _).mono ?_; rintro e w' ⟨rfl, rfl⟩; unfold errV)
      | (go_at_call 44; refine (HRV.out _).mono ?_; rintro e w' ⟨rfl, rfl⟩)
      | (go_at_call 43; rw [HQ.out]; refine HP.out.mono ?_; rintro e w' ⟨rfl, v', HV⟩; replace HV := Aside0.mk HV))
    go_ret
    exact ⟨rfl, .inr ⟨by trivial, v', HV.out⟩⟩

/-! ### A nil one -/
theorem coden_calls (x n : Int) (w : World) : Calls Try.prog 39 #[.pointer none, .int .u32 x, .int .i64 n] w fun e w' => e = .returned (errV (some 4)) ∧ w = w' := by
  have u1 := Try.underlying26
  have HA : Aside0 (∀ w : World, Calls Try.prog 42 #[.pointer none, .int .u32 x, .int .i64 n] w fun e w' => e = .returned (errV (some 4)) ∧ w = w') := by
    refine ⟨fun w => ?_⟩
    go_enter Try.func42, Try.ntmps42
    go_wp2
    go_ret
    exact ⟨rfl, rfl⟩
  go_enter Try.func39, Try.ntmps39
  go_wp2_with (go_at_call 42; refine (HA.out _).mono ?_; rintro e w' ⟨rfl, rfl⟩; unfold errV)
  go_ret
  exact ⟨rfl, rfl⟩
theorem lenn_calls (w : World) : Calls Try.prog 25 #[.pointer none] w fun e w' => e = .returned (.int .i64 0) ∧ w = w' := by
  go_enter Try.func25, Try.ntmps25
  go_wp2
  go_ret
  exact ⟨rfl, rfl⟩
theorem textn_calls (w : World) : Calls Try.prog 24 #[.pointer none] w fun e w' => e = .returned (.slice none 0 0) ∧ w = w' := by
  go_enter Try.func24, Try.ntmps24
  go_wp2
  go_ret
  exact ⟨rfl, rfl⟩
end Go.Proofs.Ytlgpmpnobcdogaa.My

/- The walk of huff.Code's Put. -/
namespace Go.Proofs.Ytlgpmpnobcdogaa.My
open Go.RowKit Go.Proofs.Ytlgpmpnobcdogaa.Huf Go.Proofs.YtlgpmpnobcdogaaW.PrintWords Go.Proofs.YtlgpmpnobcdogaaW.PrintLast Go.Proofs.YtlgpmpnobcdogaaW.PrintMore
set_option linter.unusedVariables false
set_option linter.unusedSimpArgs false

/-- A sign without a code. -/
theorem putx_calls (w : World) (lo hi g gw : Nat) (L : List Int) (k : CodeAt w lo hi g L) (hl : L.length ≤ 1000000) (s : Int) (hs : s < 0 ∨ (L.length : Int) ≤ s ∨ ∃ m : Nat, s = m ∧ m < L.length ∧ L.getD m 0 = 0) :
    Calls Try.prog 23 #[.pointer (some ⟨g, 0, none⟩), .pointer (some ⟨gw, 0, none⟩), .int .i64 s] w fun e w' => e = .returned (errV (some 1)) ∧ Below w.heap.size w w' := by
  have HO : Aside0 (Calls Try.prog 12 #[.pointer (some ⟨g, 0, none⟩), .int .i64 s] w fun e w' => ∃ x : Int, e = .returned (.tuple #[.int .i64 x, .int .i64 0]) ∧ Below w.heap.size w w') := ⟨by
    rcases hs with h | h | ⟨m, rfl, h1, h2⟩
    · exact (of_out_calls w lo hi g L k hl s (.inl h)).mono fun e w' h => ⟨0, h.1, by rw [h.2]; exact Below.refl _ _⟩
    · exact (of_out_calls w lo hi g L k hl s (.inr h)).mono fun e w' h => ⟨0, h.1, by rw [h.2]; exact Below.refl _ _⟩
    · have h3 := of_calls w lo hi g L k hl m h1
      rw [h2] at h3
      exact h3.mono fun e w' h => ⟨_, h.1, h.2⟩⟩
  clear k hs
  go_enter Try.func23, Try.ntmps23
  go_wp2_with fail
  refine (HO.out).mono ?_
  rintro e w1 ⟨x, rfl, hb⟩
  go_wp2_with fail
  go_ret
  exact ⟨rfl, hb⟩
theorem putn_calls (w : World) (v : Value) (s : Int) : Calls Try.prog 23 #[.pointer none, v, .int .i64 s] w fun e w' => e = .returned (errV (some 4)) ∧ w' = w := by
  have HO : Aside0 (Calls Try.prog 12 #[.pointer none, .int .i64 s] w fun e w' => e = .returned (.tuple #[.int .i64 0, .int .i64 0]) ∧ w' = w) := ⟨of_nil_calls w s⟩
  go_enter Try.func23, Try.ntmps23
  go_wp2_with fail
  refine (HO.out).mono ?_
  rintro e w1 ⟨rfl, rfl⟩
  go_wp2_with fail
  go_ret
  exact ⟨rfl, rfl⟩
/-- A sign that has a code. -/
theorem putc_calls (w : World) (lo hi g : Nat) (L : List Int) (k : CodeAt w lo hi g L) (hl : L.length ≤ 1000000) (B gw : Nat) (v : Value) (V N : Nat) (hB : B ≤ w.heap.size) (hw : Writ w B gw v V N) (hN : N ≤ 1000000) (s n : Nat) (hs : Has L s n) (hc : code L s < 2 ^ n) (h15 : n ≤ 15) :
    Calls Try.prog 23 #[.pointer (some ⟨g, 0, none⟩), .pointer (some ⟨gw, 0, none⟩), .int .i64 s] w fun e w' => e = .returned .nilIface ∧ ∃ w1 v', Below w.heap.size w w1 ∧ Writ w' B gw v' (V + rv (code L s) n * 2 ^ N) (N + n) ∧ Grew w1 w' gw v v' := by
  have h15' : code L s < 32768 := Nat.lt_of_lt_of_le hc (Nat.pow_le_pow_right (by decide) h15)
  have HO : Aside0 (Calls Try.prog 12 #[.pointer (some ⟨g, 0, none⟩), .int .i64 s] w fun e w' => e = .returned (.tuple #[.int .i64 (code L s : Nat), .int .i64 n]) ∧ Below w.heap.size w w') := ⟨by
    have h := of_calls w lo hi g L k hl s hs.1
    rw [hs.2.2] at h
    exact h⟩
  have HC : Aside0 (∀ w1, Below w.heap.size w w1 → Calls Try.prog 39 #[.pointer (some ⟨gw, 0, none⟩), .int .u32 (code L s : Nat), .int .i64 n] w1 fun e w' => e = .returned .nilIface ∧ ∃ v', Writ w' B gw v' (V + rv (code L s) n * 2 ^ N) (N + n) ∧ Grew w1 w' gw v v') := ⟨fun w1 hb => by
    have hw1 : Writ w1 B gw v V N := ⟨⟨blk_below hw.wr.blk hb, pw_own_below hw.wr.row hb, hw.wr.bg⟩, hw.lt⟩
    have h := code_calls' w1 B gw v V N (code L s) n (Nat.le_trans hB hb.size) hw1 (by omega) (by omega)
    have hok : okW (code L s) n = true := decide_eq_true ⟨by omega, by omega, by simpa using hc⟩
    refine h.mono ?_
    rintro e w' ⟨rfl, h2⟩
    rcases h2 with ⟨h3, _⟩ | ⟨_, v', h3, h4⟩
    · rw [hok] at h3; cases h3
    · refine ⟨?_, v', by simpa using h3, h4⟩
      unfold askE
      rw [hok]
      rfl⟩
  have hn0 := hs.2.1
  have hn0' : ((n : Int) == 0) = false := by simp; exact hn0
  have hci : ((code L s : Nat) : Int) < 32768 := by omega
  clear k hs hc hw
  generalize code L s = x at *
  go_enter Try.func23, Try.ntmps23
  go_wp2_with fail
  refine (HO.out).mono ?_
  rintro e w1 ⟨rfl, hb⟩
  go_wp2_with fail
  refine (HC.out _ hb).mono ?_
  rintro e w2 ⟨rfl, v', h1, h2⟩
  go_wp2_with fail
  go_ret
  exact ⟨rfl, w1, v', hb, h1, h2⟩
end Go.Proofs.Ytlgpmpnobcdogaa.My

/- The walks of crossdocknum's Num and Bytes. -/
namespace Go.Proofs.Ytlgpmpnobcdogaa.My
open Go.RowKit Go.Proofs.YtlgpmpnobcdogaaW.PrintWords Go.Proofs.YtlgpmpnobcdogaaW.PrintLast Go.Proofs.YtlgpmpnobcdogaaW.PrintMore

def Byts (l : List Int) : Prop := ∀ x ∈ l, 0 ≤ x ∧ x < 256
/-- The text of byte values. -/
def byts (l : List Int) : List UInt8 := l.map fun n => UInt8.ofNat n.toNat
theorem str_toList (l : List Int) : (strOfNums l).toList = byts l := by rw [ByteArray.toList_eq]; rfl
theorem byts_inj {a b : List Int} (ha : Byts a) (hb : Byts b) (h1 : byts a = byts b) : a = b := by
  have hi : ∀ (x y : Int), 0 ≤ x ∧ x < 256 → 0 ≤ y ∧ y < 256 → UInt8.ofNat x.toNat = UInt8.ofNat y.toNat → x = y := by
    intro x y hx hy he
    have := congrArg UInt8.toNat he
    simp only [UInt8.toNat_ofNat'] at this
    omega
  unfold byts at h1
  induction a generalizing b with
  | nil => cases b with
    | nil => rfl
    | cons y b => simp at h1
  | cons x a ih =>
    cases b with
    | nil => simp at h1
    | cons y b =>
      simp only [List.map_cons, List.cons.injEq] at h1
      rw [hi x y (ha x (by simp)) (hb y (by simp)) h1.1, ih (fun z hz => ha z (by simp [hz])) (fun z hz => hb z (by simp [hz])) h1.2]
end Go.Proofs.Ytlgpmpnobcdogaa.My

/- Layer 6: alive. -/
namespace Go.Proofs.Ytlgpmpnobcdogaa.My
open Go.RowKit Go.Proofs.YtlgpmpnobcdogaaW.PrintWords Go.Proofs.YtlgpmpnobcdogaaW.PrintLast Go.Proofs.YtlgpmpnobcdogaaW.PrintMore

theorem Grew.below {w0 w w1 : World} {B g : Nat} {v v1 : Value} (h : Grew w w1 g v v1) (hb : Below B w0 w) (hB : B ≤ w.heap.size) (hg : B ≤ g) (hv : ∀ k, v.ownBlock = some k → B ≤ k) : Below B w0 w1 :=
  ⟨h.os.trans hb.os, h.tape.trans hb.tape, h.output.trans hb.output, Nat.le_trans hb.size h.keep.1, fun k hk =>
    (h.keep.2 k (by omega) (by omega) (fun e => by have := hv k e.symm; omega)).trans (hb.block k hk)⟩
theorem Writ.base {w : World} {B g : Nat} {v : Value} {V N : Nat} (k : Writ w B g v V N) : ∀ j, v.ownBlock = some j → B ≤ j := own_base k.wr.row
end Go.Proofs.Ytlgpmpnobcdogaa.My

/- BitsNone: nil readers and nil writers. -/
namespace Go.Proofs.Ytlgpmpnobcdogaa.My
open Go.RowKit Go.Proofs.YtlgpmpnobcdogaaW.PrintWords Go.Proofs.YtlgpmpnobcdogaaW.PrintLast Go.Proofs.YtlgpmpnobcdogaaW.PrintMore

theorem is_calls (e : Option Int) (c : Int) (w : World) (h : ∀ c, e = some c → c ≠ 0) : Calls Try.prog 21 #[errV e, .int .i64 c] w fun r w' => r = .returned (.bool (numE e == c)) ∧ w = w' := by
  have HN : Aside0 (∀ w : World, Calls Try.prog 11 #[errV e] w fun r w' => r = .returned (.int .i64 (numE e)) ∧ w = w') := ⟨fun w => num_calls e w h⟩
  clear h
  generalize numE e = n at *
  generalize errV e = v at *
  go_enter Try.func21, Try.ntmps21
  go_wp2_with (go_at_call 11; refine (HN.out _).mono ?_; rintro e w' ⟨rfl, rfl⟩)
  go_ret
  exact ⟨rfl, rfl⟩
theorem rbitsn_calls (n : Int) (w : World) : Calls Try.prog 17 #[.pointer none, .int .i64 n] w fun e w' => e = .returned (.tuple #[.int .u32 0, errV (some 4)]) ∧ w = w' := by
  go_enter Try.func17, Try.ntmps17
  go_wp2
  go_ret2
  exact ⟨rfl, rfl⟩
theorem rpeekn_calls (n : Int) (w : World) : Calls Try.prog 37 #[.pointer none, .int .i64 n] w fun e w' => e = .returned (.tuple #[.int .u32 0, .int .i64 0]) ∧ w = w' := by
  go_enter Try.func37, Try.ntmps37
  go_wp2
  go_ret2
  exact ⟨rfl, rfl⟩
theorem ratn_calls (w : World) : Calls Try.prog 20 #[.pointer none] w fun e w' => e = .returned (.int .i64 0) ∧ w = w' := by
  go_enter Try.func20, Try.ntmps20
  go_wp2
  go_ret
  exact ⟨rfl, rfl⟩
theorem rleftn_calls (w : World) : Calls Try.prog 36 #[.pointer none] w fun e w' => e = .returned (.int .i64 0) ∧ w = w' := by
  go_enter Try.func36, Try.ntmps36
  go_wp2
  go_ret
  exact ⟨rfl, rfl⟩

theorem below_from {W w1 : World} {o : Obj} (h : Below (W.alloc o).heap.size (W.alloc o) w1) : Below W.heap.size W w1 :=
  below_then (below_alloc (Below.refl _ _) o) (by simp) h
theorem kept_new {W w1 : World} {o : Obj} (h : Below (W.alloc o).heap.size (W.alloc o) w1) : w1.heap[W.heap.size]? = some o := by
  rw [h.block W.heap.size (by simp)]
  exact alloc_self W o
end Go.Proofs.Ytlgpmpnobcdogaa.My

/- The law HuffApart: its walk. -/
namespace Go.Proofs.Ytlgpmpnobcdogaa.My
open Go.RowKit Go.Proofs.Ytlgpmpnobcdogaa.Huf Go.Proofs.Ytlgpmpnobcdogaa.MyDocFix Go.Proofs.YtlgpmpnobcdogaaW.PrintWords Go.Proofs.YtlgpmpnobcdogaaW.PrintLast Go.Proofs.YtlgpmpnobcdogaaW.PrintMore
set_option linter.unusedVariables false
set_option linter.unusedSimpArgs false

def ofc (L : List Int) (s : Int) : Nat := if 0 ≤ s ∧ s < (L.length : Int) then code L s.toNat else 0
def ofn (L : List Int) (s : Int) : Nat := if 0 ≤ s ∧ s < (L.length : Int) then (L.getD s.toNat 0).toNat else 0
theorem of_any (w : World) (lo hi g : Nat) (L : List Int) (k : CodeAt w lo hi g L) (hl : L.length ≤ 1000000) (hok : okL L = true) (s : Int) :
    Calls Try.prog 12 #[.pointer (some ⟨g, 0, none⟩), .int .i64 s] w fun e w' => e = .returned (.tuple #[.int .i64 (ofc L s : Nat), .int .i64 (ofn L s : Nat)]) ∧ Below w.heap.size w w' := by
  unfold ofc ofn
  by_cases h : 0 ≤ s ∧ s < (L.length : Int)
  · rw [if_pos h, if_pos h]
    obtain ⟨m, rfl⟩ := Int.eq_ofNat_of_zero_le h.1
    rw [Int.toNat_natCast]
    have hm : m < L.length := by omega
    have h2 := of_calls w lo hi g L k hl m hm
    have h3 := getD_ok L hok m hm
    rw [Int.toNat_of_nonneg h3.1]
    exact h2
  · rw [if_neg h, if_neg h]
    refine (of_out_calls w lo hi g L k hl s (by omega)).mono fun e w' h => ⟨h.1, by rw [h.2]; exact Below.refl _ _⟩
theorem lencn_calls (w : World) : Calls Try.prog 14 #[.pointer none] w fun e w' => e = .returned (.int .i64 0) ∧ w' = w := by
  go_enter Try.func14, Try.ntmps14
  go_wp2_with fail
  go_ret
  exact ⟨rfl, rfl⟩
/-- Of two signs' codes none begins with the other. -/
theorem apart_any (L : List Int) (a b : Int) (hab : a ≠ b) (hn : ofn L a ≠ 0) (hk : ofn L a ≤ ofn L b) : ofc L b / 2 ^ (ofn L b - ofn L a) ≠ ofc L a := by
  have hina : 0 ≤ a ∧ a < (L.length : Int) := by
    by_cases h : 0 ≤ a ∧ a < (L.length : Int)
    · exact h
    · unfold ofn at hn; rw [if_neg h] at hn; exact absurd rfl hn
  have hinb : 0 ≤ b ∧ b < (L.length : Int) := by
    by_cases h : 0 ≤ b ∧ b < (L.length : Int)
    · exact h
    · have : ofn L b = 0 := by unfold ofn; rw [if_neg h]
      omega
  obtain ⟨s, rfl⟩ := Int.eq_ofNat_of_zero_le hina.1
  obtain ⟨t, rfl⟩ := Int.eq_ofNat_of_zero_le hinb.1
  have e1 : ofn L (s : Int) = (L.getD s 0).toNat := by unfold ofn; rw [if_pos hina, Int.toNat_natCast]
  have e2 : ofn L (t : Int) = (L.getD t 0).toNat := by unfold ofn; rw [if_pos hinb, Int.toNat_natCast]
  have e3 : ofc L (s : Int) = code L s := by unfold ofc; rw [if_pos hina, Int.toNat_natCast]
  have e4 : ofc L (t : Int) = code L t := by unfold ofc; rw [if_pos hinb, Int.toNat_natCast]
  have hs : Has L s (ofn L (s : Int)) := ⟨by omega, hn, by rw [e1]; omega⟩
  have ht : Has L t (ofn L (t : Int)) := ⟨by omega, by omega, by rw [e2]; omega⟩
  rw [e3, e4]
  by_cases e : ofn L (s : Int) = ofn L (t : Int)
  · rw [e, Nat.sub_self, Nat.pow_zero, Nat.div_one]
    intro h
    rw [e] at hs
    have := code_inj L t s _ ht hs h
    omega
  · exact Huf.apart L s t _ _ hs ht (by omega)
set_option maxHeartbeats 40000000 in
set_option maxRecDepth 100000 in
theorem apart_walk (A : Option Addr) (len cap : Nat) (zs : List Int) (a b : Int) (w : World) (hrow : IsRow .i64 w A len cap zs) (_hcb : len * 8 ≤ 140737488351232) (ha : (Lit.int .i64 a).wf = true) (hb : (Lit.int .i64 b).wf = true) :
    Calls Try.prog 6 #[.slice A len cap, .int .i64 a, .int .i64 b] w fun e w' => e = .returned (.bool true) ∧ Below w.heap.size w w' := by
  have HA : Aside0 (∀ w : World, Calls Try.prog 7 #[] w fun e w' => e = .returned (.bool true) ∧ Below w.heap.size w w') := ⟨alive_calls⟩
  obtain ⟨L, hzl, hzc, hzC, hzw⟩ := row_C hrow
  rw [hzl] at hzC
  have HC := Aside0.mk hzC
  have HL := Aside0.mk hzl
  have hcapA : A = none → len = 0 ∧ cap = 0 := by
    rcases hrow with ⟨h1, h2, h3, _⟩ | ⟨x, h1, _⟩
    · exact fun _ => ⟨h2, h3⟩
    · intro h; rw [h1] at h; cases h
  have HCapA := Aside0.mk hcapA
  clear hrow hzw hzl hzC hzc hcapA ha hb
  by_cases h1 : len ≤ 330
  · have b1 : (len : Int) ≤ 330 := by omega
    have HLB := Aside0.mk h1
    clear h1
    have HNew : Aside0 (∀ w1, Below w.heap.size w w1 → Calls Try.prog 8 #[.slice A len cap, .bool true] w1 fun e w' => ∃ v, e = .returned (.tuple #[v, errV (newR L true)]) ∧ Below w1.heap.size w1 w' ∧ (newR L true ≠ none → v = .pointer none) ∧
        (newR L true = none → ∃ g, v = .pointer (some ⟨g, 0, none⟩) ∧ CodeAt w' w1.heap.size w'.heap.size g L)) := ⟨fun w1 hb => new_calls w1 A len cap L true (Kd.C_below HC.out hb) (by have := HLB.out; omega) HL.out HCapA.out⟩
    have hll : letters.length = 288 := by decide +kernel
    have hdl : dists.length = 30 := by decide +kernel
    have HFix : Aside0 (∀ wx, Calls Try.prog 26 #[] wx fun e w' => ∃ (A1 A2 : Option Addr) (c1 c2 : Nat), e = .returned (.tuple #[.slice A1 288 c1, .slice A2 30 c2]) ∧ (Kd.int .i64).C w' A1 288 letters ∧ (Kd.int .i64).C w' A2 30 dists ∧ 288 ≤ c1 ∧ 30 ≤ c2 ∧ Below wx.heap.size wx w') := ⟨fixed_calls⟩
    have HDoc : Aside0 (∀ wx, Calls Try.prog 27 #[] wx fun e w' => ∃ (A1 A2 : Option Addr) (c1 c2 : Nat), e = .returned (.tuple #[.slice A1 288 c1, .slice A2 30 c2]) ∧ (Kd.int .i64).C w' A1 288 letters ∧ (Kd.int .i64).C w' A2 30 dists ∧ 288 ≤ c1 ∧ 30 ≤ c2 ∧ Below wx.heap.size wx w') := ⟨fun wx => by
      refine (crossdockref07_Fixed.calls _ letters dists wx doc_fixed).mono ?_
      rintro e w' ⟨v0, v1, rfl, hR0, hR1, hb⟩
      obtain ⟨A1, c1, rfl, h1, h2⟩ := Kd.R_reads hR0
      obtain ⟨A2, c2, rfl, h3, h4⟩ := Kd.R_reads hR1
      rw [hll] at h1 h2
      rw [hdl] at h3 h4
      exact ⟨A1, A2, c1, c2, by rw [hll, hdl], h2, h4, h1, h3, hb⟩⟩
    have HI1 : Aside0 (∀ wx A0 A1 c0 c1, (Kd.int .i64).C wx A0 288 letters → (Kd.int .i64).C wx A1 288 letters → 288 ≤ c0 → 288 ≤ c1 → Calls Try.prog 10 #[.slice A0 288 c0, .slice A1 288 c1] wx fun e w' => e = .returned (.bool true) ∧ Below wx.heap.size wx w') := ⟨fun wx A0 A1 c0 c1 h0 h1 h2 h3 => ints_equal wx A0 A1 c0 c1 288 letters hll (by decide) h0 h1 h2 h3⟩
    have HI2 : Aside0 (∀ wx A0 A1 c0 c1, (Kd.int .i64).C wx A0 30 dists → (Kd.int .i64).C wx A1 30 dists → 30 ≤ c0 → 30 ≤ c1 → Calls Try.prog 10 #[.slice A0 30 c0, .slice A1 30 c1] wx fun e w' => e = .returned (.bool true) ∧ Below wx.heap.size wx w') := ⟨fun wx A0 A1 c0 c1 h0 h1 h2 h3 => ints_equal wx A0 A1 c0 c1 30 dists hdl (by decide) h0 h1 h2 h3⟩
    have HRd : Aside0 (∀ w1, Calls Try.prog 16 #[.slice none 0 0] w1 fun e w' => ∃ v, e = .returned v ∧ Below w1.heap.size w1 w') := ⟨fun w1 => (newReader_calls none 0 0 0 w1 (Kd.C_nil _ _) (by decide) (by decide) (fun _ => ⟨rfl, rfl⟩)).mono fun e w' ⟨g, v, h1, h2, h3⟩ => ⟨_, h1, h3⟩⟩
    have HTn : Aside0 (∀ wx v, Calls Try.prog 19 #[.pointer none, v] wx fun e w' => e = .returned (.tuple #[.int .i64 0, .iface 52 (.int .i64 4)]) ∧ wx = w') := ⟨fun wx v => taken_calls wx v⟩
    have HPn : Aside0 (∀ wx v, Calls Try.prog 23 #[.pointer none, v, .int .i64 0] wx fun e w' => e = .returned (.iface 52 (.int .i64 4)) ∧ w' = wx) := ⟨fun wx v => putn_calls wx v 0⟩
    have HLn : Aside0 (∀ wx, Calls Try.prog 14 #[.pointer none] wx fun e w' => e = .returned (.int .i64 0) ∧ w' = wx) := ⟨fun wx => lencn_calls wx⟩
    have HIs : Aside0 (∀ wx, Calls Try.prog 21 #[.iface 52 (.int .i64 4), .int .i64 4] wx fun r w' => r = .returned (.bool true) ∧ wx = w') := ⟨fun wx => is_calls (some 4) 4 wx (fun c h => by cases h; decide)⟩
    clear hll hdl
    go_enter Try.func6, Try.ntmps6
    go_upto_region 7 with (first
      | (go_at_call 7; refine (HA.out _).mono ?_; rintro e w1 ⟨rfl, hb⟩; replace hb := Aside0.mk hb)
      | (go_at_call 26; refine (HFix.out _).mono ?_; rintro e w2 ⟨A1, A2, c1, c2, rfl, hC1, hC2, hc1, hc2, hb2⟩; have hF := Aside0.mk (And.intro hC1 (And.intro hC2 (And.intro hc1 hc2))); have hB2 := Aside0.mk (below_then hb.out hb.out.size hb2); clear hC1 hC2 hc1 hc2 hb2)
      | (go_at_call 27; refine (HDoc.out _).mono ?_; rintro e w3 ⟨A3, A4, c3, c4, rfl, hC1, hC2, hc1, hc2, hb3⟩; have hG := Aside0.mk (And.intro hC1 (And.intro hC2 (And.intro hc1 hc2))); have hB3 := Aside0.mk (below_then hB2.out hB2.out.size hb3); replace hb3 := Aside0.mk hb3; clear hC1 hC2 hc1 hc2))
    have HIa := Aside0.mk (HI1.out w3 A1 A3 c1 c3 (Kd.C_below hF.out.1 hb3.out) hG.out.1 hF.out.2.2.1 hG.out.2.2.1)
    have HIb : Aside0 (∀ wx, Below w3.heap.size w3 wx → Calls Try.prog 10 #[.slice A2 30 c2, .slice A4 30 c4] wx fun e w' => e = .returned (.bool true) ∧ Below wx.heap.size wx w') := ⟨fun wx hb => HI2.out wx A2 A4 c2 c4 (Kd.C_below (Kd.C_below hF.out.2.1 hb3.out) hb) (Kd.C_below hG.out.2.1 hb) hF.out.2.2.2 hG.out.2.2.2⟩
    clear HI1 HI2 HFix HDoc HA
    go_wp2_with fail
    refine (HIa.out).mono ?_
    rintro e w4 ⟨rfl, hb4⟩
    have HB4 := Aside0.mk (below_then hB3.out hB3.out.size hb4)
    have HIc := Aside0.mk (HIb.out w4 hb4)
    clear HIa HIb hb4
    go_wp2_with fail
    refine (HIc.out).mono ?_
    rintro e w5 ⟨rfl, hb5⟩
    have HB5 := Aside0.mk (below_then HB4.out HB4.out.size hb5)
    clear HIc hb5 HB4
    go_wp2_with fail
    refine (HRd.out _).mono ?_
    rintro e w6 ⟨v6, rfl, hb6⟩
    have HB6 := Aside0.mk (below_then HB5.out HB5.out.size hb6)
    clear HB5 hb6 HRd
    go_wp2_with fail
    refine (HTn.out _ v6).mono ?_
    rintro e w7 ⟨rfl, rfl⟩
    go_wp2_with fail
    refine (HLn.out _).mono ?_
    rintro e w8 ⟨rfl, rfl⟩
    go_wp2_with fail
    refine (HIs.out _).mono ?_
    rintro e w9 ⟨rfl, rfl⟩
    go_wp2_with fail
    refine (newWriter_calls _).mono ?_
    rintro e w10 ⟨rfl, rfl⟩
    have HB7 := Aside0.mk (below_alloc HB6.out (.cells #[.slice none 0 0, .int .u64 0, .int .i64 0] 74))
    clear HB6
    go_wp2_with fail
    refine (HPn.out _ _).mono ?_
    rintro e w11 ⟨rfl, rfl⟩
    go_wp2_with fail
    refine (HIs.out _).mono ?_
    rintro e w12 ⟨rfl, rfl⟩
    have HN2 := Aside0.mk (HNew.out _ HB7.out)
    clear HNew HTn HLn HIs HPn
    cases hnew : newR L true with
    | some cc =>
      rw [hnew] at HN2
      simp only [errV] at HN2
      go_wp2_with fail
      refine (HN2.out).mono ?_
      rintro e w13 ⟨v13, rfl, hb13, hv1, hv2⟩
      obtain rfl := hv1 (by simp)
      have HB13 := Aside0.mk (below_then HB7.out HB7.out.size hb13)
      clear hv1 hv2 hb13
      go_wp2_with fail
      go_ret
      exact ⟨rfl, HB13.out⟩
    | none =>
      rw [hnew] at HN2
      simp only [errV] at HN2
      have HOK := Aside0.mk (newR_none L true hnew)
      go_wp2_with fail
      refine (HN2.out).mono ?_
      rintro e w13 ⟨v13, rfl, hb13, hv1, hv2⟩
      obtain ⟨g, rfl, hca⟩ := hv2 trivial
      have HB13 := Aside0.mk (below_then HB7.out HB7.out.size hb13)
      have HCA := Aside0.mk hca
      have HO1 := Aside0.mk (of_any w13 _ _ g L hca (by have := HOK.out.1; omega) HOK.out.2 a)
      clear hv1 hv2 hb13 hca HN2 HB7
      go_wp2_with fail
      refine (HO1.out).mono ?_
      rintro e w14 ⟨rfl, hb14⟩
      have HB14 := Aside0.mk (below_then HB13.out HB13.out.size hb14)
      have HO2 := Aside0.mk (of_any w14 _ _ g L (HCA.out.below hb14) (by have := HOK.out.1; omega) HOK.out.2 b)
      clear hb14 HO1 HB13
      go_wp2_with fail
      refine (HO2.out).mono ?_
      rintro e w15 ⟨rfl, hb15⟩
      have HB15 := Aside0.mk (below_then HB14.out HB14.out.size hb15)
      have HAp := Aside0.mk (apart_any L a b)
      have HBn : Aside0 (ofn L a ≤ 15 ∧ ofn L b ≤ 15) := ⟨by
        have aux : ∀ s : Int, ofn L s ≤ 15 := fun s => by
          unfold ofn
          split
          · next h =>
            have := getD_ok L HOK.out.2 s.toNat (by omega)
            omega
          · omega
        exact ⟨aux a, aux b⟩⟩
      have hn15 : ((ofn L a : Nat) : Int) ≤ 15 := by have := HBn.out; omega
      have hk15 : ((ofn L b : Nat) : Int) ≤ 15 := by have := HBn.out; omega
      clear hb15 HO2 HB14 HBn
      generalize ofn L a = n at *
      generalize ofn L b = k at *
      generalize ofc L a = x at *
      generalize ofc L b = y at *
      by_cases q1 : a = b
      · have q1' : (a == b) = true := by simpa using q1
        clear HAp
        subst q1
        go_wp2_with fail
        go_ret
        exact ⟨rfl, HB15.out⟩
      · have q1' : (a == b) = false := by simpa using q1
        by_cases q2 : n = 0
        · subst q2
          go_wp2_with fail
          go_ret
          exact ⟨rfl, HB15.out⟩
        · have q2' : ((n : Int) == 0) = false := by simp; exact q2
          by_cases q3 : k < n
          · have q3' : (k : Int) < (n : Int) := by omega
            go_wp2_with fail
            go_ret
            exact ⟨rfl, HB15.out⟩
          · have q3' : ¬ (k : Int) < (n : Int) := by omega
            have q4 : (n : Int) ≤ (k : Int) := by omega
            have HZ := Aside0.mk (HAp.out q1 q2 (by omega))
            go_wp2_with fail
            have hz : ((y : Int) / 2 ^ (k - n) != (x : Int)) = true := by
              rw [bne_iff_ne]
              intro h
              refine HZ.out ?_
              have h2 : ((y / 2 ^ (k - n) : Nat) : Int) = (x : Int) := by rw [← h]; push_cast; rfl
              omega
            go_ret
            refine ⟨?_, HB15.out⟩
            show Ending.returned (.bool ((y : Int) / 2 ^ (k - n) != (x : Int))) = _
            rw [hz]
  · have b3 : (330 : Int) < len := by omega
    go_enter Try.func6, Try.ntmps6
    go_wp2_with (go_at_call 7; refine (HA.out _).mono ?_; rintro e w1 ⟨rfl, hb⟩; replace hb := Aside0.mk hb)
    go_ret
    exact ⟨rfl, hb.out⟩
end Go.Proofs.Ytlgpmpnobcdogaa.My
