/- utf.Bad, plainly: the place of the first wrong byte, by the model's own decode. No program in sight. -/
import Derived.Lib.DecodeN
import Derived.Lib.IndexBytes
import Derived.Laws.RangeAny
import Derived.Shelf.Unicode.DecodeSlow
namespace Go.Proofs.YtojhbioljpamhaaDoor.My
open Go.Lib
set_option linter.unusedVariables false
set_option linter.unusedSimpArgs false

theorem get_list (s : ByteArray) (i : Nat) : s.get! i = s.data.toList.getD i 0 := by
  show s.data[i]! = _
  rw [getElem!_def, List.getD_eq_getElem?_getD, Array.getElem?_toList]
  cases s.data[i]? with
  | none => rfl
  | some e => rfl
theorem get_extract (s : ByteArray) (i k : Nat) : (s.extract i s.size).get! k = s.get! (i + k) := by
  rw [get_list, get_list, extract_to_end]
  simp [List.getD_eq_getElem?_getD, List.getElem?_drop]
theorem decode_extract (s : ByteArray) (i : Nat) (h : i < s.size) : decodeGo (s.extract i s.size) = Utf8.decode s i := by
  have hz : (s.extract i s.size).size = s.size - i := by
    rw [ByteArray.size_extract]; omega
  unfold decodeGo
  rw [if_neg (by omega), decode_at, decode_at, hz]
  simp only [get_extract, Nat.zero_add, Nat.add_zero, Nat.sub_zero]
theorem width_pos (s : ByteArray) (pos : Nat) (h : pos < s.size) : 1 ≤ (Utf8.decode s pos).2 := by
  by_cases ha : (s[pos]'h).toNat < 128
  · rw [decode_ascii s pos h ha]
    exact Nat.le_refl _
  · exact (decode_high s pos h (by omega)).2

def badF (s : ByteArray) : Nat → Nat → Int
  | 0, _ => -1
  | f + 1, pos => if pos < s.size then (if (Utf8.decode s pos).1 = 65533 ∧ (Utf8.decode s pos).2 = 1 then (pos : Int) else badF s f (pos + (Utf8.decode s pos).2)) else -1
def badU (s : ByteArray) : Int := badF s s.size 0
theorem badF_end (s : ByteArray) (f pos : Nat) (h : ¬ pos < s.size) : badF s f pos = -1 := by
  cases f with
  | zero => rfl
  | succ f => simp [badF, h]
theorem badF_hit (s : ByteArray) (f pos : Nat) (h : pos < s.size) (h1 : (Utf8.decode s pos).1 = 65533) (h2 : (Utf8.decode s pos).2 = 1) : badF s (f + 1) pos = pos := by
  rw [badF, if_pos h, if_pos ⟨h1, h2⟩]
theorem badF_on (s : ByteArray) (f pos : Nat) (h : pos < s.size) (h1 : ¬ ((Utf8.decode s pos).1 = 65533 ∧ (Utf8.decode s pos).2 = 1)) : badF s (f + 1) pos = badF s f (pos + (Utf8.decode s pos).2) := by
  rw [badF, if_pos h, if_neg h1]
end Go.Proofs.YtojhbioljpamhaaDoor.My
