/- The document's codes, plainly: its rows of bits, and what it answers to which lengths. -/
import Derived.Test.YtlgpmpnobcdogaaPHuffCodesx2
import Derived.Test.YtlgpmpnobcdogaaMyDocCodes
import Derived.Test.YtlgpmpnobcdogaaMyCodeAt
import Derived.Lib.RabinKarpLaws
namespace Go.Proofs.Ytlgpmpnobcdogaa.My
open Go.RowKit Go.Proofs.Ytlgpmpnobcdogaa.Huf Go.Proofs.Ytlgpmpnobcdogaa.PHuffCodes Go.Proofs.Ytlgpmpnobcdogaa.MyDocCodes Go.Proofs.YtlgpmpnobcdogaaW.PrintWords Go.Proofs.YtlgpmpnobcdogaaW.PrintLast Go.Proofs.YtlgpmpnobcdogaaW.PrintMore
set_option linter.unusedVariables false
set_option linter.unusedSimpArgs false

theorem wn (x : Int) (h0 : -9223372036854775808 ≤ x) (h : x ≤ 9223372036854775807) : wrap64 x = x := by unfold wrap64; omega
theorem un (x : Int) (h0 : 0 ≤ x) (h : x ≤ 18446744073709551615) : IntKind.u64.wrap x = x := IntWalk.u64_in x ⟨h0, h⟩
/-- A bit as a digit. -/
def bitc (x i : Nat) : ByteArray := if x / 2 ^ i % 2 = 1 then ⟨#[49]⟩ else ⟨#[48]⟩
theorem bitc_size (x i : Nat) : (bitc x i).size = 1 := by unfold bitc; split <;> rfl
/-- So many bits, behind a text. -/
def rowF (x : Nat) : Nat → ByteArray → ByteArray
  | 0, acc => acc
  | j + 1, acc => rowF x j (acc ++ bitc x j)
theorem shr_nat (x j : Nat) (h : j ≤ 60) : shr .i64 (x : Int) (IntKind.u64.wrap (j : Int)) = ((x / 2 ^ j : Nat) : Int) := by
  rw [un (j : Int) (by omega) (by omega)]
  show (x : Int) / 2 ^ min (j : Int).toNat 64 = _
  rw [Nat.min_eq_left (by omega)]
  simp
theorem size_app (a b : ByteArray) : (a ++ b).size = a.size + b.size := ByteArray.size_append
theorem rowD_run (x : Nat) : ∀ (j k : Nat) (acc : ByteArray), j ≤ 60 → acc.size + j ≤ 1000 → crossdockref07_row.l0 (k + j + 1) x acc ((j : Int) - 1) = some (rowF x j acc)
  | 0, k, acc, _, _ => by
    simp only [crossdockref07_row.l0, rowF]
    rw [if_neg (by omega)]
  | j + 1, k, acc, hj, hs => by
    rw [show k + (j + 1) + 1 = (k + j + 1) + 1 from rfl]
    simp only [crossdockref07_row.l0, rowF]
    rw [if_pos (by omega), show (((j + 1 : Nat) : Int) - 1) = (j : Int) from by omega, if_pos (by rw [un (j : Int) (by omega) (by omega)]; omega), shr_nat x j (by omega)]
    rw [wn ((j : Int) - 1) (by omega) (by omega)]
    have ih := rowD_run x j k (acc ++ bitc x j) (by omega) (by rw [size_app, bitc_size]; omega)
    unfold bitc at ih ⊢
    have ht : Int.tmod ((x / 2 ^ j : Nat) : Int) 2 = ((x / 2 ^ j % 2 : Nat) : Int) := by rw [Int.tmod_eq_emod_of_nonneg (Int.natCast_nonneg _)]; exact (Int.natCast_emod _ _).symm
    rw [ht]
    generalize x / 2 ^ j % 2 = q at *
    by_cases hb : q = 1
    · rw [if_pos hb] at ih ⊢
      rw [if_pos (by omega), if_pos (by omega)]
      exact ih
    · rw [if_neg hb] at ih ⊢
      rw [if_neg (by omega), if_pos (by omega)]
      exact ih
theorem rowD (x n k : Nat) (h : n ≤ 60) : crossdockref07_row.f (k + n + 1) x n = some (rowF x n ⟨#[]⟩) := by
  unfold crossdockref07_row.f
  rw [wn _ (by omega) (by omega)]
  exact rowD_run x n k _ h (by show 0 + n ≤ 1000; omega)
theorem digit (x j : Nat) (hx : x < 9223372036854775808) : strOfNums [wrap64 (48 + Go.bits .and .i64 ((x / 2 ^ j : Nat) : Int) 1) % 256] = bitc x j := by
  have h1 : x / 2 ^ j < 9223372036854775808 := Nat.lt_of_le_of_lt (Nat.div_le_self _ _) hx
  rw [Go.Proofs.and_one _ h1]
  unfold bitc
  have h2 : x / 2 ^ j % 2 < 2 := Nat.mod_lt _ (by decide)
  by_cases hb : x / 2 ^ j % 2 = 1
  · rw [if_pos hb, hb]; decide +kernel
  · rw [if_neg hb, show x / 2 ^ j % 2 = 0 by omega]; decide +kernel
theorem rowL_run (x : Nat) (hx : x < 9223372036854775808) : ∀ (j k : Nat) (acc : ByteArray), j ≤ 60 → acc.size + j ≤ 1000 → crossdocklaw07_row.l0 (k + j + 1) x acc ((j : Int) - 1) = some (rowF x j acc)
  | 0, k, acc, _, _ => by
    simp only [crossdocklaw07_row.l0, rowF]
    rw [if_neg (by omega)]
  | j + 1, k, acc, hj, hs => by
    rw [show k + (j + 1) + 1 = (k + j + 1) + 1 from rfl]
    simp only [crossdocklaw07_row.l0, rowF]
    rw [if_pos (by omega), show (((j + 1 : Nat) : Int) - 1) = (j : Int) from by omega, if_pos (by rw [un (j : Int) (by omega) (by omega)]; omega), shr_nat x j (by omega)]
    rw [wn ((j : Int) - 1) (by omega) (by omega)]
    rw [Option.bind_some, digit x j hx, if_pos (by rw [bitc_size]; omega)]
    exact rowL_run x hx j k (acc ++ bitc x j) (by omega) (by rw [size_app, bitc_size]; omega)
theorem rowL (x n k : Nat) (hx : x < 9223372036854775808) (h : n ≤ 60) : crossdocklaw07_row.f (k + n + 1) x n = some (rowF x n ⟨#[]⟩) := by
  unfold crossdocklaw07_row.f
  rw [wn _ (by omega) (by omega)]
  exact rowL_run x hx n k _ h (by show 0 + n ≤ 1000; omega)
end Go.Proofs.Ytlgpmpnobcdogaa.My
