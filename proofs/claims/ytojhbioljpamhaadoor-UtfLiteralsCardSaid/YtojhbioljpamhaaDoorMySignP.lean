/- The document's Sign, plainly, and that it is the model's decode. No program in sight. -/
import Derived.Test.YtojhbioljpamhaaDoorMyUtfP
namespace Go.Proofs.YtojhbioljpamhaaDoor.My
open Go.Lib
set_option linter.unusedVariables false
set_option linter.unusedSimpArgs false

/-- What can't become a right sign: the numbers from lo to hi. -/
def chk (lo hi least : Int) : Bool := decide (hi < least ∨ lo > 1114111 ∨ (lo ≥ 55296 ∧ hi ≤ 57343))
/-- d bytes more are wanted, of m in all; n bytes there are. -/
def sgR (n : Int) (b : Nat → Int) (m least : Int) : Nat → Int → Int → Int × Int
  | 0, x, _ => if chk x x least = true then (0, 0) else (x, m)
  | d + 1, x, i => if chk (x * 64 ^ (d + 1)) (x * 64 ^ (d + 1) + (64 ^ (d + 1) - 1)) least = true then (0, 0) else if n ≤ i then (0, -1) else
      if b i.toNat < 128 ∨ 192 ≤ b i.toNat then (0, 0) else sgR n b m least d (x * 64 + b i.toNat - 128) (i + 1)
def signN (n : Int) (b : Nat → Int) : Int × Int :=
  if n = 0 then (0, -1) else if b 0 < 128 then (b 0, 1) else if 192 ≤ b 0 ∧ b 0 < 224 then sgR n b 2 128 1 (b 0 - 192) 1
  else if 224 ≤ b 0 ∧ b 0 < 240 then sgR n b 3 2048 2 (b 0 - 224) 1
  else if 240 ≤ b 0 ∧ b 0 < 248 then sgR n b 4 65536 3 (b 0 - 240) 1
  else (0, 0)
/-- The byte at a place, as a number; 0 beyond the end. -/
def gb (s : ByteArray) (i : Nat) : Int := ((s.get! i).toNat : Int)
def signP (s : ByteArray) (i : Nat) : Int × Int := signN ((s.size - i : Nat) : Int) fun k => gb s (i + k)


/-- What the document says of what the model decodes. -/
def Agree (r w : Nat) (p : Int × Int) : Prop :=
  (r = 65533 ∧ w = 1 → p.1 = 0 ∧ (p.2 = 0 ∨ p.2 = -1)) ∧ (¬ (r = 65533 ∧ w = 1) → p = ((r : Int), (w : Int)))
theorem agree_bad {p : Int × Int} (h1 : p.1 = 0) (h2 : p.2 = 0 ∨ p.2 = -1) : Agree 65533 1 p := ⟨fun _ => ⟨h1, h2⟩, fun h => absurd ⟨rfl, rfl⟩ h⟩
theorem agree_ok {r w : Nat} {p : Int × Int} (h1 : p.1 = r) (h2 : p.2 = w) (h : ¬ (r = 65533 ∧ w = 1)) : Agree r w p := ⟨fun k => absurd k h, fun _ => Prod.ext h1 h2⟩

section
variable (n b0 b1 b2 b3 : Nat) (b : Nat → Int) (hn : 1 ≤ n) (h0 : b0 < 256) (h1 : b1 < 256) (h2 : b2 < 256) (h3 : b3 < 256) (e0 : b 0 = b0) (e1 : b 1 = b1) (e2 : b 2 = b2) (e3 : b 3 = b3)
theorem agree_1 (hn : 1 ≤ n) (e0 : b 0 = b0) (c : b0 < 128) : Agree (decodeN n b0 b1 b2 b3).1 (decodeN n b0 b1 b2 b3).2 (signN n b) := by
  have hd : decodeN n b0 b1 b2 b3 = (b0, 1) := by rw [decodeN, if_pos c]
  have hs : signN n b = ((b0 : Int), 1) := by rw [signN, if_neg (by omega), if_pos (by omega), e0]
  rw [hd, hs]
  exact agree_ok rfl rfl (by omega)
theorem agree_0 (hn : 1 ≤ n) (e0 : b 0 = b0) (h0 : b0 < 256) (c : (128 ≤ b0 ∧ b0 < 192) ∨ 248 ≤ b0) : Agree (decodeN n b0 b1 b2 b3).1 (decodeN n b0 b1 b2 b3).2 (signN n b) := by
  have hd : decodeN n b0 b1 b2 b3 = (65533, 1) := by rw [decodeN, if_neg (by omega), if_neg (by omega), if_neg (by omega), if_neg (by omega)]
  have hs : signN n b = (0, 0) := by rw [signN, if_neg (by omega), if_neg (by omega), if_neg (by omega), if_neg (by omega), if_neg (by omega)]
  rw [hd, hs]
  exact agree_bad rfl (.inl rfl)
theorem agree_2 (hn : 1 ≤ n) (e0 : b 0 = b0) (e1 : b 1 = b1) (h1 : b1 < 256) (c : 192 ≤ b0 ∧ b0 < 224) : Agree (decodeN n b0 b1 b2 b3).1 (decodeN n b0 b1 b2 b3).2 (signN n b) := by
  have hs : signN n b = sgR n b 2 128 1 ((b0 : Int) - 192) 1 := by rw [signN, if_neg (by omega), if_neg (by omega), if_pos (by omega), e0]
  rw [hs]
  simp only [sgR, chk, decide_eq_true_eq, show (64 : Int) ^ (0 + 1) = 64 from rfl, show (1 : Int).toNat = 1 from rfl, e1]
  by_cases d : b0 / 32 = 6 ∧ (1 < n ∧ b1 / 64 = 2)
  · by_cases d2 : b0 % 32 * 64 + b1 % 64 ≥ 128
    · have hd : decodeN n b0 b1 b2 b3 = (b0 % 32 * 64 + b1 % 64, 2) := by rw [decodeN, if_neg (by omega), if_pos d, if_pos d2]
      rw [hd, if_neg (by omega), if_neg (by omega), if_neg (by omega), if_neg (by omega)]
      exact agree_ok (by simp only; omega) rfl (by omega)
    · have hd : decodeN n b0 b1 b2 b3 = (65533, 1) := by rw [decodeN, if_neg (by omega), if_pos d, if_neg d2]
      rw [hd, if_pos (by omega)]
      exact agree_bad rfl (.inl rfl)
  · have hd : decodeN n b0 b1 b2 b3 = (65533, 1) := by rw [decodeN, if_neg (by omega), if_neg d, if_neg (by omega), if_neg (by omega)]
    rw [hd]
    apply agree_bad
    · repeat' split
      all_goals first | rfl | omega
    · repeat' split
      all_goals first | (left; rfl) | (right; rfl) | omega
theorem agree_3 (hn : 1 ≤ n) (e0 : b 0 = b0) (e1 : b 1 = b1) (e2 : b 2 = b2) (h1 : b1 < 256) (h2 : b2 < 256) (c : 224 ≤ b0 ∧ b0 < 240) : Agree (decodeN n b0 b1 b2 b3).1 (decodeN n b0 b1 b2 b3).2 (signN n b) := by
  have hs : signN n b = sgR n b 3 2048 2 ((b0 : Int) - 224) 1 := by rw [signN, if_neg (by omega), if_neg (by omega), if_neg (by omega), if_pos (by omega), e0]
  rw [hs]
  simp only [sgR, chk, decide_eq_true_eq, show (64 : Int) ^ (0 + 1) = 64 from rfl, show (64 : Int) ^ (1 + 1) = 4096 from rfl, show (1 : Int).toNat = 1 from rfl, show ((1 : Int) + 1).toNat = 2 from rfl, e1, e2]
  by_cases d : b0 / 16 = 14 ∧ (1 < n ∧ b1 / 64 = 2) ∧ (2 < n ∧ b2 / 64 = 2)
  · by_cases d2 : b0 % 16 * 4096 + b1 % 64 * 64 + b2 % 64 ≥ 2048 ∧ (b0 % 16 * 4096 + b1 % 64 * 64 + b2 % 64 < 55296 ∨ (57344 ≤ b0 % 16 * 4096 + b1 % 64 * 64 + b2 % 64 ∧ b0 % 16 * 4096 + b1 % 64 * 64 + b2 % 64 ≤ 1114111))
    · have hd : decodeN n b0 b1 b2 b3 = (b0 % 16 * 4096 + b1 % 64 * 64 + b2 % 64, 3) := by rw [decodeN, if_neg (by omega), if_neg (by omega), if_pos d, if_pos d2]
      rw [hd, if_neg (by omega), if_neg (by omega), if_neg (by omega), if_neg (by omega), if_neg (by omega), if_neg (by omega), if_neg (by omega)]
      exact agree_ok (by simp only; omega) rfl (by omega)
    · have hd : decodeN n b0 b1 b2 b3 = (65533, 1) := by rw [decodeN, if_neg (by omega), if_neg (by omega), if_pos d, if_neg d2]
      rw [hd]
      apply agree_bad
      · repeat' split
        all_goals first | rfl | omega
      · repeat' split
        all_goals first | (left; rfl) | (right; rfl) | omega
  · have hd : decodeN n b0 b1 b2 b3 = (65533, 1) := by rw [decodeN, if_neg (by omega), if_neg (by omega), if_neg d, if_neg (by omega)]
    rw [hd]
    apply agree_bad
    · repeat' split
      all_goals first | rfl | omega
    · repeat' split
      all_goals first | (left; rfl) | (right; rfl) | omega
set_option maxHeartbeats 4000000 in
theorem agree_4 (hn : 1 ≤ n) (e0 : b 0 = b0) (e1 : b 1 = b1) (e2 : b 2 = b2) (e3 : b 3 = b3) (h1 : b1 < 256) (h2 : b2 < 256) (h3 : b3 < 256) (c : 240 ≤ b0 ∧ b0 < 248) : Agree (decodeN n b0 b1 b2 b3).1 (decodeN n b0 b1 b2 b3).2 (signN n b) := by
  have hs : signN n b = sgR n b 4 65536 3 ((b0 : Int) - 240) 1 := by rw [signN, if_neg (by omega), if_neg (by omega), if_neg (by omega), if_neg (by omega), if_pos (by omega), e0]
  rw [hs]
  simp only [sgR, chk, decide_eq_true_eq, show (64 : Int) ^ (0 + 1) = 64 from rfl, show (64 : Int) ^ (1 + 1) = 4096 from rfl, show (64 : Int) ^ (2 + 1) = 262144 from rfl, show (1 : Int).toNat = 1 from rfl, show ((1 : Int) + 1).toNat = 2 from rfl, show ((1 : Int) + 1 + 1).toNat = 3 from rfl, e1, e2, e3]
  by_cases d : b0 / 8 = 30 ∧ (1 < n ∧ b1 / 64 = 2) ∧ (2 < n ∧ b2 / 64 = 2) ∧ (3 < n ∧ b3 / 64 = 2)
  · by_cases d2 : b0 % 8 * 262144 + b1 % 64 * 4096 + b2 % 64 * 64 + b3 % 64 ≥ 65536 ∧ (b0 % 8 * 262144 + b1 % 64 * 4096 + b2 % 64 * 64 + b3 % 64 < 55296 ∨ (57344 ≤ b0 % 8 * 262144 + b1 % 64 * 4096 + b2 % 64 * 64 + b3 % 64 ∧ b0 % 8 * 262144 + b1 % 64 * 4096 + b2 % 64 * 64 + b3 % 64 ≤ 1114111))
    · have hd : decodeN n b0 b1 b2 b3 = (b0 % 8 * 262144 + b1 % 64 * 4096 + b2 % 64 * 64 + b3 % 64, 4) := by rw [decodeN, if_neg (by omega), if_neg (by omega), if_neg (by omega), if_pos d, if_pos d2]
      rw [hd, if_neg (by omega), if_neg (by omega), if_neg (by omega), if_neg (by omega), if_neg (by omega), if_neg (by omega), if_neg (by omega), if_neg (by omega), if_neg (by omega), if_neg (by omega)]
      exact agree_ok (by simp only; omega) rfl (by omega)
    · have hd : decodeN n b0 b1 b2 b3 = (65533, 1) := by rw [decodeN, if_neg (by omega), if_neg (by omega), if_neg (by omega), if_pos d, if_neg d2]
      rw [hd]
      apply agree_bad
      · repeat' split
        all_goals first | rfl | omega
      · repeat' split
        all_goals first | (left; rfl) | (right; rfl) | omega
  · have hd : decodeN n b0 b1 b2 b3 = (65533, 1) := by rw [decodeN, if_neg (by omega), if_neg (by omega), if_neg (by omega), if_neg d]
    rw [hd]
    apply agree_bad
    · repeat' split
      all_goals first | rfl | omega
    · repeat' split
      all_goals first | (left; rfl) | (right; rfl) | omega
end
theorem agree_at (s : ByteArray) (i : Nat) (h : i < s.size) : Agree (Utf8.decode s i).1 (Utf8.decode s i).2 (signP s i) := by
  have hb : ∀ k, ((s.get! k).toNat : Int) = gb s k := fun _ => rfl
  have hl : ∀ k, (s.get! k).toNat < 256 := fun k => UInt8.toNat_lt _
  rw [decode_at, signP]
  have l0 := hl i
  have l1 := hl (i + 1)
  have l2 := hl (i + 2)
  have l3 := hl (i + 3)
  by_cases c1 : (s.get! i).toNat < 128
  · exact agree_1 _ _ _ _ _ _ (by omega) rfl c1
  · by_cases c2 : 192 ≤ (s.get! i).toNat ∧ (s.get! i).toNat < 224
    · exact agree_2 _ _ _ _ _ _ (by omega) rfl rfl l1 c2
    · by_cases c3 : 224 ≤ (s.get! i).toNat ∧ (s.get! i).toNat < 240
      · exact agree_3 _ _ _ _ _ _ (by omega) rfl rfl rfl l1 l2 c3
      · by_cases c4 : 240 ≤ (s.get! i).toNat ∧ (s.get! i).toNat < 248
        · exact agree_4 _ _ _ _ _ _ (by omega) rfl rfl rfl rfl l1 l2 l3 c4
        · exact agree_0 _ _ _ _ _ _ (by omega) rfl l0 (by omega)
end Go.Proofs.YtojhbioljpamhaaDoor.My
