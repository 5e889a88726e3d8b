/- MyUtfA, MySignF, MySgn, MyRead, MyUnqW, MyUnqD, MyJoinsP, MyUnqE, MyLitL: laid into one text by merge.py. -/
import Derived.Test.YtojhbioljpamhaaDoorMyQuote
import Derived.Test.YtojhbioljpamhaaDoorMyNumE
import Derived.Test.YtojhbioljpamhaaDoorMySign
import Derived.Test.YtojhbioljpamhaaDoorMyFull
import Derived.Test.YtojhbioljpamhaaDoorMyEsc
import Derived.Test.YtojhbioljpamhaaDoorMyMeth
import Derived.Test.YtojhbioljpamhaaDoorMyDocFig
import Derived.Test.YtojhbioljpamhaaDoorMyDocUnq

/- The walks of utf.Quote, utf.Narrow, crossdocknum.Is, the law's alive. -/
namespace Go.Proofs.YtojhbioljpamhaaDoor.My
open Go.RowKit Go.Lib Go.Proofs.YtojhbioljpamhaaDoorW.PrintWords
set_option linter.unusedVariables false
set_option linter.unusedSimpArgs false

theorem is_calls (e : Option Int) (c : Int) (w : World) (h : ∀ c, e = some c → c ≠ 0) : Calls Tryd.prog 14 #[errV e, .int .i64 c] w fun r w' => r = .returned (.bool (numE e == c)) ∧ w = w' := by
  have HN : Aside0 (∀ w : World, Calls Tryd.prog 17 #[errV e] w fun r w' => r = .returned (.int .i64 (numE e)) ∧ w = w') := ⟨fun w => num_calls e w h⟩
  clear h
  generalize errV e = v at *
  go_enter Tryd.func14, Tryd.ntmps14
  go_wp2_with (go_at_call 17; refine (HN.out _).mono ?_; rintro e w' ⟨rfl, rfl⟩)
  go_ret
  exact ⟨rfl, rfl⟩
theorem bad_ok (s : ByteArray) (w0 w : World) (h : Ok w0 w) (hs : s.size ≤ 1000000) :
    Calls Tryd.prog 9 #[.string s] w fun e w' => e = .returned (.int .i64 (badU s)) ∧ Ok w0 w' :=
  (bad_calls s w h.gl hs).mono fun e w' ⟨h1, h2⟩ => ⟨h1, h.next h2⟩
/-- What Quote and Narrow answer: a text and an error. -/
def quoT (s : ByteArray) (e0 : Int) : ByteArray := if badU s < 0 then strOfNums (quoL s e0) else ⟨#[]⟩
def quoE (s : ByteArray) : Option Int := if badU s < 0 then none else some 9
theorem quote_calls (s : ByteArray) (e0 : Int) (w0 w : World) (h : Ok w0 w) (hs : s.size ≤ 1000000) (he0 : 0 ≤ e0) (he1 : e0 ≤ 2000000) :
    Calls Tryd.prog 20 #[.string s, .int .i32 e0] w fun e w' => e = .returned (.tuple #[.string (quoT s e0), errV (quoE s)]) ∧ Ok w0 w' := by
  by_cases hv : badU s < 0
  · exact quote_ok s e0 w0 w h hs hv he0 he1
  · exact quote_bad s e0 w0 w h hs hv
theorem Quote_ok (s : ByteArray) (w0 w : World) (h : Ok w0 w) (hs : s.size ≤ 1000000) :
    Calls Tryd.prog 11 #[.string s] w fun e w' => e = .returned (.tuple #[.string (quoT s 1114112), errV (quoE s)]) ∧ Ok w0 w' := by
  have HQ := Aside0.mk (quote_calls s 1114112)
  go_enter Tryd.func11, Tryd.ntmps11
  go_wp2_with (go_at_call 20; refine (HQ.out _ _ h hs (by decide) (by decide)).mono ?_; rintro e w1 ⟨rfl, h1⟩)
  go_ret2
  exact ⟨rfl, h1⟩
theorem Narrow_ok (s : ByteArray) (w0 w : World) (h : Ok w0 w) (hs : s.size ≤ 1000000) :
    Calls Tryd.prog 12 #[.string s] w fun e w' => e = .returned (.tuple #[.string (quoT s 127), errV (quoE s)]) ∧ Ok w0 w' := by
  have HQ := Aside0.mk (quote_calls s 127)
  go_enter Tryd.func12, Tryd.ntmps12
  go_wp2_with (go_at_call 20; refine (HQ.out _ _ h hs (by decide) (by decide)).mono ?_; rintro e w1 ⟨rfl, h1⟩)
  go_ret2
  exact ⟨rfl, h1⟩
abbrev exS : ByteArray := ⟨#[97, 10, 195, 169]⟩
theorem ex_bad : badU exS < 0 := by decide +kernel
theorem ex_quote : quoT exS 1114112 = ⟨#[34, 97, 92, 110, 195, 169, 34]⟩ := by
  rw [quoT, if_pos ex_bad]
  decide +kernel
theorem ex_narrow : quoT exS 127 = ⟨#[34, 97, 92, 110, 92, 117, 48, 48, 101, 57, 34]⟩ := by
  rw [quoT, if_pos ex_bad]
  decide +kernel
theorem ex_err : quoE exS = none := by rw [quoE, if_pos ex_bad]
theorem alive_ok (w0 w : World) (h : Ok w0 w) : Calls Tryd.prog 7 #[] w fun e w' => e = .returned (.bool true) ∧ Ok w0 w' := by
  have H1 : Aside0 (∀ w, Ok w0 w → Calls Tryd.prog 11 #[.string exS] w fun e w' => e = .returned (.tuple #[.string ⟨#[34, 97, 92, 110, 195, 169, 34]⟩, errV none]) ∧ Ok w0 w') := ⟨fun w h => by
    have := Quote_ok exS w0 w h (by decide)
    rw [ex_quote, ex_err] at this
    exact this⟩
  have H2 : Aside0 (∀ w, Ok w0 w → Calls Tryd.prog 12 #[.string exS] w fun e w' => e = .returned (.tuple #[.string ⟨#[34, 97, 92, 110, 92, 117, 48, 48, 101, 57, 34]⟩, errV none]) ∧ Ok w0 w') := ⟨fun w h => by
    have := Narrow_ok exS w0 w h (by decide)
    rw [ex_narrow, ex_err] at this
    exact this⟩
  rw [show errV none = .nilIface from rfl] at H1 H2
  go_enter Tryd.func7, Tryd.ntmps7
  go_wp2_with (first
    | (go_at_call 11; refine (H1.out _ h).mono ?_; rintro e w1 ⟨rfl, h1⟩)
    | (go_at_call 12; refine (H2.out _ h1).mono ?_; rintro e w2 ⟨rfl, h2⟩))
  go_ret
  exact ⟨rfl, h2⟩
end Go.Proofs.YtojhbioljpamhaaDoor.My

/- What the document's Sign says of a sign that is none: whether it may be a beginning. -/
namespace Go.Proofs.YtojhbioljpamhaaDoor.My
open Go.RowKit Go.Lib Go.Proofs.YtojhbioljpamhaaDoorW.PrintWords
set_option linter.unusedVariables false
set_option linter.unusedSimpArgs false
set_option maxHeartbeats 2000000

def fullP (x n b1 b2 : Nat) : Prop := x % 8 ≤ n ∨ (1 < n ∧ (b1 < accLo (x / 16) ∨ accHi (x / 16) < b1)) ∨ (2 < n ∧ (b2 < 128 ∨ 191 < b2))
theorem fullX_iff (x n b1 b2 : Nat) : fullX x n b1 b2 = true ↔ fullP x n b1 b2 := by
  unfold fullX fullP
  by_cases h1 : x % 8 ≤ n
  · rw [if_pos h1]; exact ⟨fun _ => .inl h1, fun _ => rfl⟩
  · rw [if_neg h1]
    by_cases h2 : 1 < n ∧ (b1 < accLo (x / 16) ∨ accHi (x / 16) < b1)
    · rw [if_pos h2]; exact ⟨fun _ => .inr (.inl h2), fun _ => rfl⟩
    · rw [if_neg h2, decide_eq_true_iff]
      exact ⟨fun h => .inr (.inr h), fun h => by rcases h with h | h | h; exact absurd h h1; exact absurd h h2; exact h⟩
theorem full_241' (n b1 b2 : Nat) (h : 1 ≤ n) : fullP 241 n b1 b2 ↔ 1 ≤ n := ⟨fun _ => h, fun _ => .inl (by omega)⟩
theorem fullP_2 (n b1 b2 : Nat) : fullP 2 n b1 b2 ↔ 2 ≤ n := by simp [fullP, accLo, accHi]; omega
theorem fullP_19 (n b1 b2 : Nat) : fullP 19 n b1 b2 ↔ (3 ≤ n ∨ (1 < n ∧ (b1 < 160 ∨ 191 < b1))) := by simp [fullP, accLo, accHi]; omega
theorem fullP_3 (n b1 b2 : Nat) : fullP 3 n b1 b2 ↔ (3 ≤ n ∨ (1 < n ∧ (b1 < 128 ∨ 191 < b1))) := by simp [fullP, accLo, accHi]; omega
theorem fullP_35 (n b1 b2 : Nat) : fullP 35 n b1 b2 ↔ (3 ≤ n ∨ (1 < n ∧ (b1 < 128 ∨ 159 < b1))) := by simp [fullP, accLo, accHi]; omega
theorem fullP_52 (n b1 b2 : Nat) : fullP 52 n b1 b2 ↔ (4 ≤ n ∨ (1 < n ∧ (b1 < 144 ∨ 191 < b1)) ∨ (2 < n ∧ (b2 < 128 ∨ 191 < b2))) := by simp [fullP, accLo, accHi]
theorem fullP_4 (n b1 b2 : Nat) : fullP 4 n b1 b2 ↔ (4 ≤ n ∨ (1 < n ∧ (b1 < 128 ∨ 191 < b1)) ∨ (2 < n ∧ (b2 < 128 ∨ 191 < b2))) := by simp [fullP, accLo, accHi]
theorem fullP_68 (n b1 b2 : Nat) : fullP 68 n b1 b2 ↔ (4 ≤ n ∨ (1 < n ∧ (b1 < 128 ∨ 143 < b1)) ∨ (2 < n ∧ (b2 < 128 ∨ 191 < b2))) := by simp [fullP, accLo, accHi]
def Fits (q : Int) (p : Prop) : Prop := q ≤ 0 → (q = 0 ∧ p) ∨ (q = -1 ∧ ¬ p)
section
variable (n b0 b1 b2 b3 : Nat) (b : Nat → Int)
theorem fits_2 (hn : 1 ≤ n) (e0 : b 0 = b0) (e1 : b 1 = b1) (h1 : b1 < 256) (c : 192 ≤ b0 ∧ b0 < 224) : Fits (signN n b).2 (fullP (firstT b0) n b1 b2) := by
  have hs : signN n b = sgR n b 2 128 1 ((b0 : Int) - 192) 1 := by rw [signN, if_neg (by omega), if_neg (by omega), if_pos (by omega), e0]
  rw [hs]
  simp only [sgR, chk, decide_eq_true_eq, show (64 : Int) ^ (0 + 1) = 64 from rfl, show (1 : Int).toNat = 1 from rfl, e1]
  unfold Fits
  by_cases k : b0 < 194
  · have hf : firstT b0 = 241 := by unfold firstT; rw [if_neg (by omega), if_pos k]
    rw [hf, full_241' _ _ _ hn]
    repeat' split
    all_goals (intro hq; first | (exact .inl ⟨rfl, by omega⟩) | (exact .inr ⟨rfl, by omega⟩) | (exact absurd hq (by decide)) | (exfalso; omega))
  · have hf : firstT b0 = 2 := by unfold firstT; rw [if_neg (by omega), if_neg k, if_pos (by omega)]
    rw [hf, fullP_2]
    repeat' split
    all_goals (intro hq; first | (exact .inl ⟨rfl, by omega⟩) | (exact .inr ⟨rfl, by omega⟩) | (exact absurd hq (by decide)) | (exfalso; omega))
theorem fits_3 (hn : 1 ≤ n) (e0 : b 0 = b0) (e1 : b 1 = b1) (e2 : b 2 = b2) (h1 : b1 < 256) (h2 : b2 < 256) (c : 224 ≤ b0 ∧ b0 < 240) : Fits (signN n b).2 (fullP (firstT b0) n b1 b2) := by
  have hs : signN n b = sgR n b 3 2048 2 ((b0 : Int) - 224) 1 := by rw [signN, if_neg (by omega), if_neg (by omega), if_neg (by omega), if_pos (by omega), e0]
  rw [hs]
  simp only [sgR, chk, decide_eq_true_eq, show (64 : Int) ^ (0 + 1) = 64 from rfl, show (64 : Int) ^ (1 + 1) = 4096 from rfl, show (1 : Int).toNat = 1 from rfl, show ((1 : Int) + 1).toNat = 2 from rfl, e1, e2]
  unfold Fits
  by_cases k : b0 = 224
  · have hf : firstT b0 = 19 := by subst k; rfl
    rw [hf, fullP_19]
    repeat' split
    all_goals (intro hq; first | (exact .inl ⟨rfl, by omega⟩) | (exact .inr ⟨rfl, by omega⟩) | (exact absurd hq (by decide)) | (exfalso; omega))
  · by_cases k2 : b0 = 237
    · have hf : firstT b0 = 35 := by subst k2; rfl
      rw [hf, fullP_35]
      repeat' split
      all_goals (intro hq; first | (exact .inl ⟨rfl, by omega⟩) | (exact .inr ⟨rfl, by omega⟩) | (exact absurd hq (by decide)) | (exfalso; omega))
    · have hf : firstT b0 = 3 := by
        unfold firstT
        rw [if_neg (by omega), if_neg (by omega), if_neg (by omega), if_neg k]
        by_cases k3 : b0 < 237
        · rw [if_pos k3]
        · rw [if_neg k3, if_neg k2, if_pos (by omega)]
      rw [hf, fullP_3]
      repeat' split
      all_goals (intro hq; first | (exact .inl ⟨rfl, by omega⟩) | (exact .inr ⟨rfl, by omega⟩) | (exact absurd hq (by decide)) | (exfalso; omega))
theorem fits_4 (hn : 1 ≤ n) (e0 : b 0 = b0) (e1 : b 1 = b1) (e2 : b 2 = b2) (e3 : b 3 = b3) (h1 : b1 < 256) (h2 : b2 < 256) (h3 : b3 < 256) (c : 240 ≤ b0 ∧ b0 < 248) : Fits (signN n b).2 (fullP (firstT b0) n b1 b2) := by
  have hs : signN n b = sgR n b 4 65536 3 ((b0 : Int) - 240) 1 := by rw [signN, if_neg (by omega), if_neg (by omega), if_neg (by omega), if_neg (by omega), if_pos (by omega), e0]
  rw [hs]
  simp only [sgR, chk, decide_eq_true_eq, show (64 : Int) ^ (0 + 1) = 64 from rfl, show (64 : Int) ^ (1 + 1) = 4096 from rfl, show (64 : Int) ^ (2 + 1) = 262144 from rfl, show (1 : Int).toNat = 1 from rfl, show ((1 : Int) + 1).toNat = 2 from rfl, show ((1 : Int) + 1 + 1).toNat = 3 from rfl, e1, e2, e3]
  unfold Fits
  by_cases k : b0 = 240
  · have hf : firstT b0 = 52 := by subst k; rfl
    rw [hf, fullP_52]
    repeat' split
    all_goals (intro hq; first | (exact .inl ⟨rfl, by omega⟩) | (exact .inr ⟨rfl, by omega⟩) | (exact absurd hq (by decide)) | (exfalso; omega))
  · by_cases k2 : b0 = 244
    · have hf : firstT b0 = 68 := by subst k2; rfl
      rw [hf, fullP_68]
      repeat' split
      all_goals (intro hq; first | (exact .inl ⟨rfl, by omega⟩) | (exact .inr ⟨rfl, by omega⟩) | (exact absurd hq (by decide)) | (exfalso; omega))
    · by_cases k3 : b0 < 244
      · have hf : firstT b0 = 4 := by
          unfold firstT
          rw [if_neg (by omega), if_neg (by omega), if_neg (by omega), if_neg (by omega), if_neg (by omega), if_neg (by omega), if_neg (by omega), if_neg k, if_pos k3]
        rw [hf, fullP_4]
        repeat' split
        all_goals (intro hq; first | (exact .inl ⟨rfl, by omega⟩) | (exact .inr ⟨rfl, by omega⟩) | (exact absurd hq (by decide)) | (exfalso; omega))
      · have hf : firstT b0 = 241 := by
          unfold firstT
          rw [if_neg (by omega), if_neg (by omega), if_neg (by omega), if_neg (by omega), if_neg (by omega), if_neg (by omega), if_neg (by omega), if_neg k, if_neg k3, if_neg k2]
        rw [hf, full_241' _ _ _ hn]
        repeat' split
        all_goals (intro hq; first | (exact .inl ⟨rfl, by omega⟩) | (exact .inr ⟨rfl, by omega⟩) | (exact absurd hq (by decide)) | (exfalso; omega))
theorem fits_0 (hn : 1 ≤ n) (e0 : b 0 = b0) (h0 : b0 < 256) (c : b0 < 192 ∨ 248 ≤ b0) : Fits (signN n b).2 (fullP (firstT b0) n b1 b2) := by
  unfold Fits
  by_cases k : b0 < 128
  · have hs : signN n b = ((b0 : Int), 1) := by rw [signN, if_neg (by omega), if_pos (by omega), e0]
    rw [hs]
    intro h
    exact absurd (show (1 : Int) ≤ 0 from h) (by decide)
  · have hs : signN n b = (0, 0) := by rw [signN, if_neg (by omega), if_neg (by omega), if_neg (by omega), if_neg (by omega), if_neg (by omega)]
    have hf : firstT b0 = 241 := by
      unfold firstT
      rw [if_neg k]
      repeat' split
      all_goals omega
    rw [hs, hf, full_241' _ _ _ hn]
    exact fun _ => .inl ⟨rfl, hn⟩
end
theorem fits_at (s : ByteArray) (i : Nat) (h : i < s.size) : Fits (signP s i).2 (fullP (firstT (s.get! i).toNat) (s.size - i) (s.get! (i + 1)).toNat (s.get! (i + 2)).toNat) := by
  have hl : ∀ k, (s.get! k).toNat < 256 := fun k => UInt8.toNat_lt _
  rw [signP]
  have l0 := hl i
  have l1 := hl (i + 1)
  have l2 := hl (i + 2)
  have l3 := hl (i + 3)
  by_cases c2 : 192 ≤ (s.get! i).toNat ∧ (s.get! i).toNat < 224
  · exact fits_2 _ _ _ _ _ (by omega) rfl rfl l1 c2
  · by_cases c3 : 224 ≤ (s.get! i).toNat ∧ (s.get! i).toNat < 240
    · exact fits_3 _ _ _ _ _ (by omega) rfl rfl rfl l1 l2 c3
    · by_cases c4 : 240 ≤ (s.get! i).toNat ∧ (s.get! i).toNat < 248
      · exact fits_4 _ _ _ _ _ _ (by omega) rfl rfl rfl rfl l1 l2 l3 c4
      · exact fits_0 _ _ _ _ _ (by omega) rfl l0 (by omega)
end Go.Proofs.YtojhbioljpamhaaDoor.My

/- The walk of literal.sign. -/
namespace Go.Proofs.YtojhbioljpamhaaDoor.My
open Go.RowKit Go.Lib Go.Proofs.YtojhbioljpamhaaDoorW.PrintWords Go.Proofs.YtojhbioljpamhaaDoorW.PrintLast Go.Proofs.YtojhbioljpamhaaDoorW.PrintMore
set_option maxRecDepth 100000
set_option linter.unusedVariables false
set_option linter.unusedSimpArgs false
section
variable {B g : Nat} {s : ByteArray} {i : Nat} {out : List Int}
theorem cell_kept {w w1 : World} {b : Nat} (h : w1.heap[b]? = w.heap[b]?) (o : Nat) : w1.cell? ⟨b, o, none⟩ = w.cell? ⟨b, o, none⟩ := by
  simp only [World.cell?, h]
theorem Gl.kp {w w1 : World} (h : Gl w) (k : Kp B g w w1) (hB : 2 ≤ B) (hg : 2 ≤ g) : Gl w1 := by
  have h0 := k.low 0 (by omega) (by have := h.low; omega) (by omega)
  have h1 := k.low 1 (by omega) (by have := h.low; omega) (by omega)
  obtain ⟨⟨t1, t2⟩, hl⟩ := h
  exact ⟨⟨fun c hc => (cell_kept h0 c).trans (t1 c hc), fun i hi => ⟨(cell_kept h1 _).trans (t2 i hi).1, (cell_kept h1 _).trans (t2 i hi).2⟩⟩, Nat.le_trans hl k.size⟩
theorem sign_calls (w : World) (h : Lit w B g s i out) (hg : Gl w) (hs : s.size ≤ 1000000) (hi : i < s.size) (ho : out.length ≤ 100000000) :
    Calls Tryd.prog 39 #[.pointer (some ⟨g, 0, none⟩)] w fun e w' =>
      (∃ p j, signR s i = .ok (p, j) ∧ e = .returned (.tuple #[]) ∧ i < j ∧ j ≤ s.size ∧ Lit w' B g s j (out ++ p) ∧ Kp B g w w') ∨ (∃ c, signR s i = .error c ∧ Thr B g w c e w') := by
  obtain ⟨c, v, hb⟩ := h
  have c0 : w.cell? ⟨g, 0, none⟩ = some (.string s) := by rw [blk_cell hb.blk]; rfl
  have c1 : w.cell? ⟨g, 1, none⟩ = some (.int .i64 (i : Int)) := by rw [blk_cell hb.blk]; rfl
  have HB := Aside0.mk hb
  have l0 : (0 : Int) ≤ (i : Int) := by omega
  have l1 : (i : Int) ≤ (s.size : Int) := by omega
  have hrs : (s.extract i s.size).size = s.size - i := by rw [ByteArray.size_extract]; omega
  have HD : Aside0 (∀ w, Gl w → Calls Tryd.prog 19 #[.string (s.extract i s.size)] w fun e w' => e = .returned (.tuple #[.int .i32 ((Utf8.decode s i).1 : Int), .int .i64 ((Utf8.decode s i).2 : Int)]) ∧ Below w.heap.size w w') := ⟨fun w hg => by
    have := Tryd.utf8_DecodeRuneInString (s.extract i s.size) w hg.tabs
    rwa [decode_extract s i hi] at this⟩
  clear hb
  by_cases hbad : (Utf8.decode s i).1 = 65533 ∧ (Utf8.decode s i).2 = 1
  · have HU : Aside0 (signR s i = if fullX (firstT (s.get! i).toNat) (s.size - i) (s.get! (i + 1)).toNat (s.get! (i + 2)).toNat = true then .error 9 else .error 10) := ⟨by rw [signR, if_pos hbad]⟩
    have HFull : Aside0 (∀ w, Gl w → Calls Tryd.prog 49 #[.string (s.extract i s.size)] w fun e w' => e = .returned (.bool (fullX (firstT (s.get! i).toNat) (s.size - i) (s.get! (i + 1)).toNat (s.get! (i + 2)).toNat)) ∧ Below w.heap.size w w') := ⟨fun w hg => by
      have := full_calls (s.extract i s.size) w hg (by omega)
      rwa [hrs, get_extract, get_extract, get_extract, Nat.add_zero] at this⟩
    rw [hbad.1, hbad.2] at HD
    cases hfu : fullX (firstT (s.get! i).toNat) (s.size - i) (s.get! (i + 1)).toNat (s.get! (i + 2)).toNat with
    | true =>
      have HE : Aside0 (signR s i = .error 9) := ⟨by rw [HU.out, if_pos hfu]⟩
      rw [hfu] at HFull
      clear HU hfu hbad
      go_enter Tryd.func39, Tryd.ntmps39
      go_wp2
      go_quiet (fail)
      rename_i nq
      have hg1 : Gl (w.drewN nq) := hg.next (below_drewN w nq)
      have HK := Aside0.mk (Kp.of_below (B := B) (g := g) (below_drewN w nq))
      go_wp2_with (first
        | (go_at_call 19; refine (HD.out _ hg1).mono ?_; rintro e w2 ⟨rfl, hb2⟩; have hg2 := hg1.next hb2; replace HK := Aside0.mk (HK.out.below hb2); clear hb2)
        | (go_at_call 49; refine (HFull.out _ hg2).mono ?_; rintro e w3 ⟨rfl, hb3⟩; replace HK := Aside0.mk (HK.out.below hb3); clear hb3)
        | (go_at_call 35; refine (must_yes _ _ _).mono ?_; rintro e w' ⟨rfl, rfl⟩)
        | (go_at_call 38; refine (throw_calls _ _ _).mono ?_; rintro e w' ⟨rfl, rfl⟩))
      exact post_panic rfl (.inr ⟨9, HE.out, Thr.after HK.out (thr_new 9 _)⟩)
    | false =>
      have HE : Aside0 (signR s i = .error 10) := ⟨by rw [HU.out, if_neg (by rw [hfu]; decide)]⟩
      rw [hfu] at HFull
      clear HU hfu hbad
      go_enter Tryd.func39, Tryd.ntmps39
      go_wp2
      go_quiet (fail)
      rename_i nq
      have hg1 : Gl (w.drewN nq) := hg.next (below_drewN w nq)
      have HK := Aside0.mk (Kp.of_below (B := B) (g := g) (below_drewN w nq))
      go_wp2_with (first
        | (go_at_call 19; refine (HD.out _ hg1).mono ?_; rintro e w2 ⟨rfl, hb2⟩; have hg2 := hg1.next hb2; replace HK := Aside0.mk (HK.out.below hb2); clear hb2)
        | (go_at_call 49; refine (HFull.out _ hg2).mono ?_; rintro e w3 ⟨rfl, hb3⟩; replace HK := Aside0.mk (HK.out.below hb3); clear hb3)
        | (go_at_call 35; refine (must_no _ _ _).mono ?_; rintro e w' ⟨rfl, rfl⟩))
      exact post_panic rfl (.inr ⟨10, HE.out, Thr.after HK.out (thr_new 10 _)⟩)
  · have HE : Aside0 (signR s i = .ok (bytesOf (s.extract i (i + (Utf8.decode s i).2)), i + (Utf8.decode s i).2)) := ⟨by rw [signR, if_neg hbad]⟩
    obtain ⟨hw1, hw2⟩ := width_in s i hi hbad
    have hex : (s.extract i s.size).extract 0 (Utf8.decode s i).2 = s.extract i (i + (Utf8.decode s i).2) := by
      apply ByteArray.ext
      rw [ByteArray.data_extract, ByteArray.data_extract, ByteArray.data_extract, Array.extract_extract]
      congr 1
      omega
    have hz : (s.extract i (i + (Utf8.decode s i).2)).size ≤ 1000000 := by rw [ByteArray.size_extract]; omega
    have f1 : (((Utf8.decode s i).1 : Int) == 65533 && ((Utf8.decode s i).2 : Int) == 1) = false := by
      rw [Bool.eq_false_iff]
      intro e
      rw [Bool.and_eq_true, beq_iff_eq, beq_iff_eq] at e
      exact hbad ⟨by omega, by omega⟩
    have hww : ((Utf8.decode s i).2 : Int) ≤ ((s.extract i s.size).size : Int) := by rw [hrs]; omega
    have hww2 : ((Utf8.decode s i).2 : Int) ≤ ((s.size - i : Nat) : Int) := by omega
    have hww3 : (Utf8.decode s i).2 ≤ s.size - i := by omega
    clear hrs
    generalize (Utf8.decode s i).2 = wd at *
    generalize (Utf8.decode s i).1 = r at *
    have w0' : (0 : Int) ≤ (wd : Int) := by omega
    have w1' : (i : Int) + (wd : Int) ≤ 1000000 := by omega
    by_cases hr : (r : Int) = 65533
    · have f2 : ((r : Int) == 65533) = true := beq_iff_eq.2 hr
      have f3 : ((wd : Int) == 1) = false := by rw [f2] at f1; simpa using f1
      clear hr f1 hbad
      go_enter Tryd.func39, Tryd.ntmps39
      go_wp2
      go_quiet (fail)
      rename_i nq
      have hg1 : Gl (w.drewN nq) := hg.next (below_drewN w nq)
      have HK := Aside0.mk (below_drewN w nq)
      go_wp2_with (go_at_call 19; refine (HD.out _ hg1).mono ?_; rintro e w2 ⟨rfl, hb2⟩; replace HK := Aside0.mk (HK.out.trans (hb2.mono HK.out.size)); clear hb2)
      go_still_tail 6, (by kernel_rfl)
      change wpList _ _ _ _ _ w2.drew
      have H2 : Aside0 (Bld w2.drew B g 2 51 (lc s i c v) v out ∧ Kp B g w w2.drew) := ⟨HB.out.below (HK.out.drew), Kp.of_below HK.out.drew⟩
      generalize w2.drew = w3 at *
      go_wp2_with fail
      refine (wstring_calls (s.extract i (i + wd)) w3 H2.out.1 (by omega) (by omega)).mono ?_
      rintro e w4 ⟨rfl, v', hb4, hK4⟩
      change Bld w4 B g 2 51 (lc s i (.pointer (some ⟨g, 2, none⟩)) v') v' _ at hb4
      have k1 : w4.cell? ⟨g, 1, none⟩ = some (.int .i64 (i : Int)) := by rw [blk_cell hb4.blk]; rfl
      have hf := blk_frozen hb4.blk 1
      have H4 := Aside0.mk (And.intro hb4 (H2.out.2.trans hK4))
      clear hb4 hK4
      go_wp2_with fail
      go_end0
      refine .inl ⟨_, _, HE.out, rfl, by omega, hw2, ?_, H4.out.2.set _ _⟩
      have := H4.out.1.setAt (j := i + wd)
      rw [show ((i + wd : Nat) : Int) = (i : Int) + (wd : Int) by omega] at this
      exact ⟨_, _, this⟩
    · have f2 : ((r : Int) == 65533) = false := beq_eq_false_iff_ne.2 hr
      clear hr f1 hbad
      go_enter Tryd.func39, Tryd.ntmps39
      go_wp2
      go_quiet (fail)
      rename_i nq
      have hg1 : Gl (w.drewN nq) := hg.next (below_drewN w nq)
      have HK := Aside0.mk (below_drewN w nq)
      go_wp2_with (go_at_call 19; refine (HD.out _ hg1).mono ?_; rintro e w2 ⟨rfl, hb2⟩; replace HK := Aside0.mk (HK.out.trans (hb2.mono HK.out.size)); clear hb2)
      go_still_tail 6, (by kernel_rfl)
      change wpList _ _ _ _ _ w2.drew
      have H2 : Aside0 (Bld w2.drew B g 2 51 (lc s i c v) v out ∧ Kp B g w w2.drew) := ⟨HB.out.below (HK.out.drew), Kp.of_below HK.out.drew⟩
      generalize w2.drew = w3 at *
      go_wp2_with fail
      refine (wstring_calls (s.extract i (i + wd)) w3 H2.out.1 (by omega) (by omega)).mono ?_
      rintro e w4 ⟨rfl, v', hb4, hK4⟩
      change Bld w4 B g 2 51 (lc s i (.pointer (some ⟨g, 2, none⟩)) v') v' _ at hb4
      have k1 : w4.cell? ⟨g, 1, none⟩ = some (.int .i64 (i : Int)) := by rw [blk_cell hb4.blk]; rfl
      have hf := blk_frozen hb4.blk 1
      have H4 := Aside0.mk (And.intro hb4 (H2.out.2.trans hK4))
      clear hb4 hK4
      go_wp2_with fail
      go_end0
      refine .inl ⟨_, _, HE.out, rfl, by omega, hw2, ?_, H4.out.2.set _ _⟩
      have := H4.out.1.setAt (j := i + wd)
      rw [show ((i + wd : Nat) : Int) = (i : Int) + (wd : Int) by omega] at this
      exact ⟨_, _, this⟩
end
end Go.Proofs.YtojhbioljpamhaaDoor.My

/- The walk of literal.read. -/
namespace Go.Proofs.YtojhbioljpamhaaDoor.My
open Go.RowKit Go.Lib Go.Proofs.YtojhbioljpamhaaDoorW.PrintWords Go.Proofs.YtojhbioljpamhaaDoorW.PrintLast Go.Proofs.YtojhbioljpamhaaDoorW.PrintMore
set_option maxRecDepth 100000
set_option linter.unusedVariables false
set_option linter.unusedSimpArgs false

def readF (s : ByteArray) : Nat → Nat → List Int → Except Int (List Int × Nat)
  | 0, _, _ => .error 10
  | f + 1, i, out =>
    if h : i < s.size then
      if byteI s i h = 34 then .ok (out, i + 1) else
      if byteI s i h = 92 then (match escR s (i + 1) with
        | .error c => .error c
        | .ok (p, j) => readF s f j (out ++ p))
      else if byteI s i h < 32 then .error 2 else (match signR s i with
        | .error c => .error c
        | .ok (p, j) => readF s f j (out ++ p))
    else .error 10
/-- What a literal comes to, and its place behind. -/
def unqR (s : ByteArray) : Except Int (List Int × Nat) :=
  if h : 0 < s.size then if byteI s 0 h = 34 then readF s s.size 1 [] else .error 2 else .error 10
def atOf (w : World) (g : Nat) : Nat := match w.cell? ⟨g, 1, none⟩ with | some (.int _ n) => n.toNat | _ => 0
theorem escR_len {s : ByteArray} {i j : Nat} {p : List Int} (h : escR s i = .ok (p, j)) : p.length ≤ 4 := by
  unfold escR at h
  split at h
  · split at h
    · split at h
      · cases h
      · cases h; exact enc_le _
    · split at h
      · cases h
      · cases h; simp
  · cases h
theorem signR_len {s : ByteArray} {i j : Nat} {p : List Int} (hi : i < s.size) (h : signR s i = .ok (p, j)) : p.length ≤ 4 := by
  unfold signR at h
  split at h
  · split at h <;> cases h
  · rename_i hb
    cases h
    have := enc_at s i hi hb
    rw [← this]
    exact enc_le _
section
variable {B g : Nat} {s : ByteArray} {i : Nat} {out : List Int}
theorem Lit.atOf {w : World} (h : Lit w B g s i out) : atOf w g = i := by
  obtain ⟨c, v, hb⟩ := h
  have c1 : w.cell? ⟨g, 1, none⟩ = some (.int .i64 (i : Int)) := by rw [blk_cell hb.blk]; rfl
  unfold My.atOf
  rw [c1]
  simp
theorem read_calls (w : World) (h : Lit w B g s 0 []) (hg : Gl w) (hB : 2 ≤ B) (hg2 : 2 ≤ g) (hs : s.size ≤ 1000000) :
    Calls Tryd.prog 23 #[.pointer (some ⟨g, 0, none⟩)] w fun e w' =>
      (∃ p j, unqR s = .ok (p, j) ∧ e = .returned (.tuple #[]) ∧ j ≤ s.size ∧ 2 ≤ j ∧ p.length ≤ 4 * j ∧ Lit w' B g s j p ∧ Kp B g w w') ∨ (∃ c, unqR s = .error c ∧ Thr B g w c e w') := by
  have HN := Aside0.mk (next_calls w h hs (Nat.zero_le _))
  clear h
  go_enter Tryd.func23, Tryd.ntmps23
  go_wp2_with fail
  refine HN.out.mono ?_
  rintro e w1 (⟨hlt, rfl, hL1, hK1⟩ | ⟨hge, hT⟩)
  · have H1 := Aside0.mk (And.intro hL1 (And.intro (hK1 B) (hg.kp (hK1 B) hB hg2)))
    clear hL1 hK1 HN hg
    by_cases e0 : byteI s 0 hlt = 34
    · have f1 : (byteI s 0 hlt == 34) = true := beq_iff_eq.2 e0
      have HU : Aside0 (unqR s = readF s s.size 1 []) := ⟨by rw [unqR, dif_pos hlt, if_pos e0]⟩
      clear e0
      generalize byteI s 0 hlt = b0 at *
      go_wp2_with (go_at_call 35; refine (must_yes _ _ _).mono ?_; rintro e w' ⟨rfl, rfl⟩)
      go_loopw [2] (fun _ wr => ∃ (i f : Nat) (out : List Int), 1 ≤ i ∧ i ≤ s.size ∧ s.size ≤ i + f ∧ Aside0 (out.length ≤ 4 * i ∧ unqR s = readF s (f + 1) i out) ∧ Aside0 (Lit wr B g s i out ∧ Kp B g w wr ∧ Gl wr)) (fun _ wr => s.size - atOf wr g)
      case atStart => exact ⟨1, s.size - 1, [], by omega, by omega, by omega, ⟨by simp, by rw [HU.out, show s.size - 1 + 1 = s.size by omega]⟩, ⟨H1.out.1, H1.out.2.1, H1.out.2.2⟩⟩
      case round =>
        obtain ⟨i, f, out, hi1, hi2, hf, HR, HL⟩ := hrel
        have HAt := Aside0.mk HL.out.1.atOf
        have HN := Aside0.mk (next_calls wr HL.out.1 hs hi2)
        have HFin : Aside0 (∀ (w9 : World) (p : List Int) (j : Nat), i < j → j ≤ s.size → p.length ≤ 4 → unqR s = readF s f j (out ++ p) → Lit w9 B g s j (out ++ p) → Kp B g wr w9 →
            ∃ (i' f' : Nat) (out' : List Int), 1 ≤ i' ∧ i' ≤ s.size ∧ s.size ≤ i' + f' ∧ Aside0 (out'.length ≤ 4 * i' ∧ unqR s = readF s (f' + 1) i' out') ∧ Aside0 (Lit w9 B g s i' out' ∧ Kp B g w w9 ∧ Gl w9)) := ⟨fun w9 p j h1 h2 h3 h4 h5 h6 => by
          obtain ⟨f, rfl⟩ : ∃ e, f = e + 1 := ⟨f - 1, by omega⟩
          exact ⟨j, f, out ++ p, by omega, h2, by omega, ⟨by have := HR.out.1; rw [List.length_append]; omega, h4⟩, ⟨h5, HL.out.2.1.trans h6, HL.out.2.2.kp h6 hB hg2⟩⟩⟩
        have HMes : Aside0 (∀ (w9 : World) (j : Nat) (p : List Int), i < j → j ≤ s.size → Lit w9 B g s j p → s.size - atOf w9 g < s.size - atOf wr g) := ⟨fun w9 j p h1 h2 h3 => by rw [h3.atOf, HAt.out]; omega⟩
        go_wp2_with fail
        refine HN.out.mono ?_
        rintro e w2 (⟨hl, rfl, hL2, hK2⟩ | ⟨hge, hT⟩)
        · have H2 := Aside0.mk (And.intro hL2 (And.intro (hK2 B) (HL.out.2.2.kp (hK2 B) hB hg2)))
          clear hL2 hK2 HN
          have hl4 : out.length ≤ 100000000 := by have := HR.out.1; omega
          by_cases c34 : byteI s i hl = 34
          · have f1 : (byteI s i hl == 34) = true := beq_iff_eq.2 c34
            have HE : Aside0 (unqR s = .ok (out, i + 1)) := ⟨by rw [HR.out.2, readF, dif_pos hl, if_pos c34]⟩
            clear c34
            generalize byteI s i hl = b1 at *
            go_wp2_with fail
            exact bodyPost_ret (results_none rfl _ _ _) rfl (.inl ⟨out, i + 1, HE.out, rfl, by omega, by omega, by have := HR.out.1; omega, H2.out.1, HL.out.2.1.trans H2.out.2.1⟩)
          · by_cases c92 : byteI s i hl = 92
            · have f1 : (byteI s i hl == 34) = false := beq_eq_false_iff_ne.2 c34
              have f2 : (byteI s i hl == 92) = true := beq_iff_eq.2 c92
              have HS : Aside0 (unqR s = match escR s (i + 1) with
                | .error c => .error c
                | .ok (p, j) => readF s f j (out ++ p)) := ⟨by rw [HR.out.2, readF, dif_pos hl, if_neg c34, if_pos c92]⟩
              have HC := Aside0.mk (escape_calls w2 H2.out.1 hs (by omega) hl4)
              clear c34 c92
              generalize byteI s i hl = b1 at *
              go_wp2_with fail
              refine HC.out.mono ?_
              rintro e w3 (⟨p, j, hp, rfl, hj0, hj1, hL3, hK3⟩ | ⟨c, hc, hT⟩)
              · have H3 := Aside0.mk (And.intro hL3 (H2.out.2.1.trans hK3))
                have HS2 : Aside0 (unqR s = readF s f j (out ++ p)) := ⟨by rw [HS.out, hp]⟩
                have hpl := escR_len hp
                clear hL3 hK3 hp HS
                go_wp2_with fail
                go_roundw
                case rel => exact HFin.out _ p j (by omega) hj1 hpl HS2.out H3.out.1 H3.out.2
                case measure => exact HMes.out _ j _ (by omega) hj1 H3.out.1
              · have HT := Aside0.mk (Thr.after HL.out.2.1 (Thr.after H2.out.2.1 hT))
                obtain ⟨j, rfl, hT2⟩ := hT
                clear hT2
                go_wp2_with fail
                exact post_panic rfl (.inr ⟨c, by rw [HS.out, hc], HT.out⟩)
            · have f1 : (byteI s i hl == 34) = false := beq_eq_false_iff_ne.2 c34
              have f2 : (byteI s i hl == 92) = false := beq_eq_false_iff_ne.2 c92
              by_cases c32 : byteI s i hl < 32
              · have HS : Aside0 (unqR s = .error 2) := ⟨by rw [HR.out.2, readF, dif_pos hl, if_neg c34, if_neg c92, if_pos c32]⟩
                have f3 : decide (byteI s i hl < 32) = true := decide_eq_true c32
                clear c34 c92
                generalize byteI s i hl = b1 at *
                go_wp2_with (go_at_call 38; refine (throw_calls _ _ _).mono ?_; rintro e w' ⟨rfl, rfl⟩)
                exact post_panic rfl (.inr ⟨2, HS.out, Thr.after (HL.out.2.1.trans H2.out.2.1) (thr_new 2 _)⟩)
              · have HS : Aside0 (unqR s = match signR s i with
                  | .error c => .error c
                  | .ok (p, j) => readF s f j (out ++ p)) := ⟨by rw [HR.out.2, readF, dif_pos hl, if_neg c34, if_neg c92, if_neg c32]⟩
                have f3 : decide (byteI s i hl < 32) = false := decide_eq_false c32
                clear c34 c92
                generalize byteI s i hl = b1 at *
                obtain ⟨c, v, hb2⟩ := H2.out.1
                have k1 : w2.cell? ⟨g, 1, none⟩ = some (.int .i64 ((i : Int) + 1)) := by rw [blk_cell hb2.blk, show (i : Int) + 1 = ((i + 1 : Nat) : Int) by omega]; rfl
                have hfz := blk_frozen hb2.blk 1
                have e1 : (i : Int) + 1 - 1 = (i : Int) := by omega
                have H3 : Aside0 (Lit (w2.setCell ⟨g, 1, none⟩ (.int .i64 (i : Int))) B g s i out ∧ Kp B g wr (w2.setCell ⟨g, 1, none⟩ (.int .i64 (i : Int))) ∧ Gl (w2.setCell ⟨g, 1, none⟩ (.int .i64 (i : Int)))) := ⟨⟨c, v, hb2.setAt⟩, H2.out.2.1.set _ _, H2.out.2.2.kp ((Kp.refl B g w2).set 1 _) hB hg2⟩
                have HC := Aside0.mk (sign_calls _ H3.out.1 H3.out.2.2 hs hl hl4)
                clear hb2
                go_wp2_with fail
                refine HC.out.mono ?_
                rintro e w3 (⟨p, j, hp, rfl, hj0, hj1, hL3, hK3⟩ | ⟨c, hc, hT⟩)
                · have H4 := Aside0.mk (And.intro hL3 (H3.out.2.1.trans hK3))
                  have HS2 : Aside0 (unqR s = readF s f j (out ++ p)) := ⟨by rw [HS.out, hp]⟩
                  have hpl := signR_len hl hp
                  clear hL3 hK3 hp HS
                  go_wp2_with fail
                  go_roundw
                  case rel => exact HFin.out _ p j (by omega) hj1 hpl HS2.out H4.out.1 H4.out.2
                  case measure => exact HMes.out _ j _ (by omega) hj1 H4.out.1
                · have HT := Aside0.mk (Thr.after HL.out.2.1 (Thr.after H3.out.2.1 hT))
                  obtain ⟨j, rfl, hT2⟩ := hT
                  clear hT2
                  go_wp2_with fail
                  exact post_panic rfl (.inr ⟨c, by rw [HS.out, hc], HT.out⟩)
        · have HT := Aside0.mk (Thr.after HL.out.2.1 hT)
          obtain ⟨j, rfl, hT2⟩ := hT
          clear hT2
          go_wp2_with fail
          exact post_panic rfl (.inr ⟨10, by rw [HR.out.2, readF, dif_neg (by omega)], HT.out⟩)
    · have f1 : (byteI s 0 hlt == 34) = false := beq_eq_false_iff_ne.2 e0
      have HU : Aside0 (unqR s = .error 2) := ⟨by rw [unqR, dif_pos hlt, if_neg e0]⟩
      clear e0
      generalize byteI s 0 hlt = b0 at *
      go_wp2_with (go_at_call 35; refine (must_no _ _ _).mono ?_; rintro e w' ⟨rfl, rfl⟩)
      exact post_panic rfl (.inr ⟨2, HU.out, Thr.after H1.out.2.1 (thr_new 2 _)⟩)
  · have HT := Aside0.mk hT
    obtain ⟨j, rfl, hT2⟩ := hT
    clear hT2
    go_wp2_with fail
    exact post_panic rfl (.inr ⟨10, by rw [unqR, dif_neg (by omega)], HT.out⟩)
end
end Go.Proofs.YtojhbioljpamhaaDoor.My

/- The walk of utf.Unquote. -/
namespace Go.Proofs.YtojhbioljpamhaaDoor.My
open Go.RowKit Go.Lib Go.Proofs.YtojhbioljpamhaaDoorW.PrintWords Go.Proofs.YtojhbioljpamhaaDoorW.PrintLast Go.Proofs.YtojhbioljpamhaaDoorW.PrintMore
set_option maxRecDepth 100000
set_option linter.unusedVariables false
set_option linter.unusedSimpArgs false

def unqT (s : ByteArray) : ByteArray := match unqR s with | .ok (p, _) => strOfNums p | .error _ => ⟨#[]⟩
def unqN (s : ByteArray) : Int := match unqR s with | .ok (_, j) => (j : Int) | .error _ => 0
def unqE (s : ByteArray) : Option Int := match unqR s with | .ok _ => none | .error c => some c
section
variable {B g : Nat} {s : ByteArray} {i : Nat} {out : List Int}
theorem Lit.setOther {w : World} {k : Nat} {cs : Array Value} (h : Lit w B g s i out) (hk : w.heap[k]? = some (.cells cs 26 (0, 0))) (v : Value) : Lit (w.setCell ⟨k, 0, none⟩ v) B g s i out := by
  obtain ⟨c, u, hb⟩ := h
  have hne : g ≠ k := by
    rintro rfl
    rw [hb.blk] at hk
    cases hk
  exact ⟨c, u, ⟨(Below.heap_setCell _ _ _ _ hne).trans hb.blk, hb.c0, hb.c1, own_setCell hb.row (by have := own_ne hb.row hk (by decide); simpa using this) _, hb.lies, hb.ne, by have := hb.bs_; simpa [World.setCell] using this⟩⟩
theorem escR_byte {s : ByteArray} {i j : Nat} {p : List Int} (h : escR s i = .ok (p, j)) : ∀ x ∈ p, 0 ≤ x ∧ x < 256 := by
  unfold escR at h
  split at h
  · split at h
    · split at h
      · cases h
      · cases h; exact Lib.encodeRuneZ_byte _
    · split at h
      · cases h
      · cases h
        intro x hx
        rw [List.mem_singleton.1 hx]
        have key : ∀ n : Nat, 0 ≤ sgL.getD n 0 ∧ sgL.getD n 0 < 256 := by
          intro n
          by_cases hn : n < 8
          · have : ∀ n : Fin 8, 0 ≤ sgL.getD n.1 0 ∧ sgL.getD n.1 0 < 256 := by decide
            exact this ⟨n, hn⟩
          · rw [List.getD_eq_getElem?_getD, List.getElem?_eq_none (by simp [sgL]; omega)]
            decide
        exact key _
  · cases h
theorem bytesOf_byte (s : ByteArray) : ∀ x ∈ bytesOf s, 0 ≤ x ∧ x < 256 := by
  intro x hx
  obtain ⟨b, _, rfl⟩ := List.mem_map.1 hx
  have := b.toNat_lt
  omega
theorem signR_byte {s : ByteArray} {i j : Nat} {p : List Int} (h : signR s i = .ok (p, j)) : ∀ x ∈ p, 0 ≤ x ∧ x < 256 := by
  unfold signR at h
  split at h
  · split at h <;> cases h
  · cases h; exact bytesOf_byte _
theorem readF_byte {s : ByteArray} : ∀ {f i j : Nat} {out p : List Int}, (∀ x ∈ out, 0 ≤ x ∧ x < 256) → readF s f i out = .ok (p, j) → ∀ x ∈ p, 0 ≤ x ∧ x < 256
  | 0, i, j, out, p, ho, h => by cases h
  | f + 1, i, j, out, p, ho, h => by
    rw [readF] at h
    split at h
    · split at h
      · cases h; exact ho
      · split at h
        · split at h
          · cases h
          · rename_i q j' he
            exact readF_byte (by intro x hx; rcases List.mem_append.1 hx with hx | hx; exact ho x hx; exact escR_byte he x hx) h
        · split at h
          · cases h
          · split at h
            · cases h
            · rename_i q j' he
              exact readF_byte (by intro x hx; rcases List.mem_append.1 hx with hx | hx; exact ho x hx; exact signR_byte he x hx) h
    · cases h
theorem unqR_byte {s : ByteArray} {j : Nat} {p : List Int} (h : unqR s = .ok (p, j)) : ∀ x ∈ p, 0 ≤ x ∧ x < 256 := by
  unfold unqR at h
  split at h
  · split at h
    · exact readF_byte (by intro x hx; cases hx) h
    · cases h
  · cases h
theorem lit_new (w : World) (s : ByteArray) : Lit (w.alloc (.cells #[.string s, .int .i64 0, .pointer none, .slice none 0 0] 51)) w.heap.size w.heap.size s 0 [] :=
  ⟨.pointer none, .slice none 0 0, ⟨alloc_self _ _, .inl rfl, rfl, ⟨rfl, .inl ⟨rfl, rfl⟩⟩, by kernel_rfl, by decide, by simp⟩⟩
theorem try_read {V : World} (w : World) (h : Lit w g g s 0 []) (hgl : Gl w) (hg : 2 ≤ g) (hs : s.size ≤ 1000000) (hb : Below V.heap.size V w) (hV : V.heap.size ≤ g) :
    Calls Tryd.prog 22 #[.func (.func 23) #[.pointer (some ⟨g, 0, none⟩)] #[]] w fun e w' =>
      (∃ p j, unqR s = .ok (p, j) ∧ e = .returned .nilIface ∧ j ≤ s.size ∧ p.length ≤ 4 * j ∧ Lit w' g g s j p ∧ Below V.heap.size V w') ∨ (∃ c k, unqR s = .error c ∧ e = .returned (fltV k) ∧ Flt w' k c ⟨#[]⟩ ∧ Below V.heap.size V w') := by
  have hcf : ∀ W : World, (callFunc 23 #[.pointer (some ⟨g, 0, none⟩)]).run Tryd.prog W = .ok (.enter 23 #[.pointer (some ⟨g, 0, none⟩)]) W := fun _ => rfl
  have hlt : g < w.heap.size := by
    obtain ⟨c, v, hb⟩ := h
    exact blk_lt hb.blk
  have hal : Below w.heap.size w (w.alloc (.cells #[.nilIface] 26)) := below_alloc (Below.refl _ _) _
  have hR := read_calls (w.alloc (.cells #[.nilIface] 26)) (h.below hal) (hgl.next hal) hg hg hs
  have hb1 : Below V.heap.size V (w.alloc (.cells #[.nilIface] 26)) := hb.trans (hal.mono hb.size)
  have hkeep : ∀ w', Kp g g (w.alloc (.cells #[.nilIface] 26)) w' → w'.heap[w.heap.size]? = some (.cells #[.nilIface] 26 (0, 0)) := fun w' hk => hk.oth _ _ (alloc_self _ _) (by omega) (fun _ _ e => by cases e)
  have hfin : ∀ w' v, Kp g g (w.alloc (.cells #[.nilIface] 26)) w' → Below V.heap.size V (w'.setCell ⟨w.heap.size, 0, none⟩ v) := fun w' v hk =>
    ((Kp.refl V.heap.size w.heap.size w').set 0 v).under (hk.under hb1 hV hV) (by omega) (Nat.le_refl _)
  refine (try_meth _ _ w (fun w1 => ∃ p j, unqR s = .ok (p, j) ∧ j ≤ s.size ∧ p.length ≤ 4 * j ∧ Lit w1 g g s j p ∧ Kp g g (w.alloc (.cells #[.nilIface] 26)) w1) (fun k w1 => ∃ c, unqR s = .error c ∧ Flt w1 k c ⟨#[]⟩ ∧ Kp g g (w.alloc (.cells #[.nilIface] 26)) w1) hcf (hR.mono ?_)).mono ?_
  · rintro e w' (⟨p, j, h1, rfl, h2, _, h3, h4, h5⟩ | ⟨c, h1, k, rfl, h2, h3⟩)
    · exact ⟨hkeep _ h5, .inl ⟨_, rfl, p, j, h1, h2, h3, h4, h5⟩⟩
    · exact ⟨hkeep _ h3, .inr ⟨k, rfl, c, h1, h2, h3⟩⟩
  · rintro e w' (⟨rfl, w1, ⟨p, j, h1, h2, h3, h4, h5⟩, rfl⟩ | ⟨k, rfl, w1, ⟨c, h1, h2, h3⟩, rfl⟩)
    · exact .inl ⟨p, j, h1, rfl, h2, h3, h4.setOther (hkeep _ h5) _, hfin _ _ h5⟩
    · refine .inr ⟨c, k, h1, rfl, ⟨?_⟩, hfin _ _ h3⟩
      have hne : k ≠ w.heap.size := by
        rintro rfl
        have := hkeep _ h3
        rw [h2.out] at this
        cases this
      exact (Below.heap_setCell _ _ _ _ hne).trans h2.out
theorem unquote_ok (s : ByteArray) (w0 w : World) (h : Ok w0 w) (hs : s.size ≤ 1000000) :
    Calls Tryd.prog 15 #[.string s] w fun e w' => e = .returned (.tuple #[.string (unqT s), .int .i64 (unqN s), errV (unqE s)]) ∧ Ok w0 w' := by
  have hba : Below w.heap.size w (w.alloc (.cells #[.string s, .int .i64 0, .pointer none, .slice none 0 0] 51)) := below_alloc (Below.refl _ _) _
  have HT := Aside0.mk (try_read (V := w) _ (lit_new w s) (h.gl.next hba) h.gl.low hs hba (Nat.le_refl _))
  have HOk := Aside0.mk h
  clear hba h
  go_enter Tryd.func15, Tryd.ntmps15
  go_wp2_with fail
  refine HT.out.mono ?_
  rintro e w2 (⟨p, j, hu, rfl, hj, hp, hL, hb⟩ | ⟨c, k, hu, rfl, hF, hb⟩)
  · have HE : Aside0 (unqT s = strOfNums p ∧ unqN s = (j : Int) ∧ unqE s = none) := ⟨by unfold unqT; rw [hu], by unfold unqN; rw [hu], by unfold unqE; rw [hu]⟩
    have hby := unqR_byte hu
    clear hu
    obtain ⟨c, v, hbl⟩ := hL
    have hbd := hbl.drew
    have k1 : w2.drew.cell? ⟨w.heap.size, 1, none⟩ = some (.int .i64 (j : Int)) := by rw [blk_cell hbd.blk]; rfl
    have H2 := Aside0.mk (And.intro hbd hb.drew)
    have HC : Aside0 (Calls Tryd.prog 25 #[.pointer (some ⟨w.heap.size, 2, none⟩)] w2.drew fun e w3 => e = .returned (.string (strOfNums p)) ∧ w3.cell? ⟨w.heap.size, 1, none⟩ = some (.int .i64 (j : Int)) ∧ Below w.heap.size w w3) := ⟨(string_calls w2.drew hbd (by omega) hby).mono fun e w3 ⟨he, hk3⟩ => ⟨he, by
      have hg3 := (hk3 (w.heap.size + 1)).oth _ _ H2.out.1.blk (by omega) (fun _ _ e => by cases e)
      rw [blk_cell hg3]; rfl, (hk3 w.heap.size).under H2.out.2 (Nat.le_refl _) (Nat.le_refl _)⟩⟩
    clear hbl hbd hb hby
    go_wp2_with fail
    go_region_with (go_at_call 25; refine HC.out.mono ?_; rintro e w3 ⟨rfl, k3, hb3⟩)
    all_goals go_wp2_with fail
    all_goals (go_ret3; exact ⟨by rw [HE.out.1, HE.out.2.1, HE.out.2.2]; rfl, HOk.out.next (by assumption)⟩)
  · have HE : Aside0 (unqT s = ⟨#[]⟩ ∧ unqN s = 0 ∧ unqE s = some c) := ⟨by unfold unqT; rw [hu], by unfold unqN; rw [hu], by unfold unqE; rw [hu]⟩
    have H2 := Aside0.mk (And.intro hF hb)
    clear hu hF hb
    go_wp2_with (go_at_call 24; refine (code_flt k c ⟨#[]⟩ _ H2.out.1).mono ?_; rintro e w3 ⟨rfl, rfl⟩)
    go_ret3
    exact ⟨by rw [HE.out.1, HE.out.2.1, HE.out.2.2]; rfl, HOk.out.next H2.out.2⟩
end
end Go.Proofs.YtojhbioljpamhaaDoor.My

/- The document's Unquote, as the walk of utf.Unquote tells it. -/
namespace Go.Proofs.YtojhbioljpamhaaDoor.My
open Go.RowKit Go.Lib Go.Proofs.YtojhbioljpamhaaDoorW.PrintWords Go.Proofs.YtojhbioljpamhaaDoor.MyDocSign Go.Proofs.YtojhbioljpamhaaDoor.MyDocFig Go.Proofs.YtojhbioljpamhaaDoor.MyDocUnq
set_option linter.unusedVariables false
set_option linter.unusedSimpArgs false

theorem value_f (k : Nat) (c : Int) (h0 : 0 ≤ c) (h1 : c < 256) : crossdockref11_value.f (k + 2) c = some (hexV c) := by
  have hj1 : ∀ b : Bool, (b = true ↔ 97 ≤ c ∧ c ≤ 102) → ¬ (48 ≤ c ∧ c ≤ 57) → crossdockref11_value.j1 (k + 1) c b = some (hexV c) := by
    intro b hb hn
    rw [crossdockref11_value.j1]
    unfold hexV
    rw [if_neg hn]
    by_cases h2 : 97 ≤ c ∧ c ≤ 102
    · rw [if_pos (hb.2 h2), if_pos h2]; congr 1; omega
    · rw [if_neg (fun h => h2 (hb.1 h)), if_neg h2]
      by_cases h3 : c ≥ 65
      · rw [if_pos h3]
        by_cases h4 : c ≤ 70
        · rw [if_pos h4, if_pos ⟨h3, h4⟩]; congr 1; omega
        · rw [if_neg h4, if_neg (by omega)]
      · rw [if_neg h3, if_neg (by omega)]
  have hj0 : ∀ b : Bool, (b = true ↔ 48 ≤ c ∧ c ≤ 57) → crossdockref11_value.j0 (k + 2) c b = some (hexV c) := by
    intro b hb
    rw [show k + 2 = (k + 1) + 1 from rfl, crossdockref11_value.j0]
    by_cases h2 : 48 ≤ c ∧ c ≤ 57
    · rw [if_pos (hb.2 h2)]; unfold hexV; rw [if_pos h2]; congr 1; omega
    · rw [if_neg (fun h => h2 (hb.1 h))]
      by_cases h3 : c ≥ 97
      · rw [if_pos h3]; exact hj1 _ (by rw [decide_eq_true_iff]; omega) h2
      · rw [if_neg h3]; exact hj1 _ (by simp; omega) h2
  unfold crossdockref11_value.f
  by_cases h2 : c ≥ 48
  · rw [if_pos h2]; exact hj0 _ (by rw [decide_eq_true_iff]; omega)
  · rw [if_neg h2]; exact hj0 _ (by simp; omega)
theorem bt_byte (s : ByteArray) (i : Nat) (h : i < s.size) : bt s (i : Int) = byteI s i h := by
  simp only [bt, Int.toNat_natCast, h, dite_true]
theorem byte_range (s : ByteArray) (i : Nat) (h : i < s.size) : 0 ≤ byteI s i h ∧ byteI s i h < 256 := by
  have := (s[i]'h).toNat_lt
  show 0 ≤ (((s[i]'h).toNat : Nat) : Int) ∧ (((s[i]'h).toNat : Nat) : Int) < 256
  omega
def bnd : Nat → Int
  | 0 => 65536
  | 1 => 4096
  | 2 => 256
  | 3 => 16
  | _ => 1
theorem bnd_step (n : Nat) (hn : n < 4) (x v : Int) (h : x < bnd (n + 1)) (hv : v < 16) : x * 16 + v < bnd n := by
  rcases (by omega : n = 0 ∨ n = 1 ∨ n = 2 ∨ n = 3) with rfl | rfl | rfl | rfl <;> simp only [bnd] at h ⊢ <;> omega
theorem bnd_le (n : Nat) : bnd n ≤ 65536 := by
  rcases n with _ | _ | _ | _ | n <;> simp only [bnd] <;> omega
def figT (r : Except Int Int) : Int × Int := match r with | .ok y => (y, 0) | .error c => (0, c)
theorem figR_range {s : ByteArray} {wrong : Int} : ∀ {n i : Nat} {x y : Int}, n ≤ 4 → 0 ≤ x → x < bnd n → figR s wrong n i x = .ok y → 0 ≤ y ∧ y < 65536
  | 0, i, x, y, hn, h0, h1, h => by rw [figR] at h; cases h; exact ⟨h0, h1⟩
  | n + 1, i, x, y, hn, h0, h1, h => by
    rw [figR] at h
    split at h
    · split at h
      · cases h
      · rename_i hv
        have hr := hexV_range (byteI s i (by assumption))
        exact figR_range (by omega) (by omega) (bnd_step n (by omega) _ _ h1 hr.2) h
    · cases h
theorem fig_run (s : ByteArray) (hs : s.size ≤ 1000) (a : Nat) (ha : a ≤ 1000) (wrong : Int) : ∀ (n i k : Nat) (x : Int), n ≤ 4 → i + n = a + 4 → 0 ≤ x → x < bnd n →
    crossdockref11_figures.l0 (k + n + 3) s (a : Int) wrong x (i : Int) = some (figT (figR s wrong n i x))
  | 0, i, k, x, hn, hi, h0, h1 => by
    rw [show k + 0 + 3 = (k + 2) + 1 from rfl, crossdockref11_figures.l0, w64 _ (by omega) (by omega), if_neg (by omega), figR]
    rfl
  | n + 1, i, k, x, hn, hi, h0, h1 => by
    have hb := bnd_le (n + 1)
    rw [show k + (n + 1) + 3 = (k + n + 3) + 1 by omega, crossdockref11_figures.l0, w64 _ (by omega) (by omega), if_pos (by omega), figR]
    by_cases hlt : i < s.size
    · have hr := byte_range s i hlt
      have hv := hexV_range (byteI s i hlt)
      rw [if_neg (by omega), if_pos (by omega), if_pos (by omega), bt_byte s i hlt, show k + n + 3 = (k + n + 1) + 2 from rfl, value_f _ _ hr.1 hr.2, Option.bind_some, dif_pos hlt]
      by_cases hneg : hexV (byteI s i hlt) < 0
      · rw [if_pos hneg, if_pos hneg]; rfl
      · rw [if_neg hneg, if_neg hneg, Option.bind_some, w64 (x * 16) (by omega) (by omega), w64 _ (by omega) (by omega), w64 ((i : Int) + 1) (by omega) (by omega)]
        have := fig_run s hs a ha wrong n (i + 1) k (x * 16 + hexV (byteI s i hlt)) (by omega) (by omega) (by omega) (bnd_step n (by omega) _ _ h1 hv.2)
        rw [show k + n + 1 + 2 = k + n + 3 from rfl]
        exact this
    · rw [if_pos (by omega), dif_neg hlt]; rfl
theorem figures_f (s : ByteArray) (hs : s.size ≤ 1000) (a : Nat) (ha : a ≤ 1000) (wrong : Int) (k : Nat) : crossdockref11_figures.f (k + 7) s (a : Int) wrong = some (figT (figR s wrong 4 a 0)) :=
  fig_run s hs a ha wrong 4 a k 0 (by omega) rfl (by omega) (by decide)
theorem put_f (x : Int) (h : (0 ≤ x ∧ x < 55296) ∨ (57344 ≤ x ∧ x ≤ 1114111)) : crossdockref11_Put.f x = some (enc x) := by
  have td : ∀ b : Int, Int.tdiv x b = x / b := fun b => tdiv_nn x b (by omega)
  unfold crossdockref11_Put.f
  by_cases h1 : x < 128
  · rw [if_pos h1, enc, encodeRuneZ_one (by omega) (by omega)]; congr 2; omega
  · rw [if_neg h1]
    by_cases h2 : x < 2048
    · rw [if_pos h2, enc, encodeRuneZ_two (by omega) (by omega), td, tmod_nn _ _ (by omega), w64 (x / 64) (by omega) (by omega), w64 (192 + x / 64) (by omega) (by omega), w64 (128 + x % 64) (by omega) (by omega)]
      rw [show (192 + x / 64) % 256 = 192 + x / 64 by omega, show (128 + x % 64) % 256 = 128 + x % 64 by omega]
    · rw [if_neg h2]
      by_cases h3 : x < 65536
      · rw [if_pos h3, enc, encodeRuneZ_three (by omega), td, td, tmod_nn x _ (by omega), w64 (x / 64) (by omega) (by omega), tmod_nn _ _ (by omega), w64 (x / 4096) (by omega) (by omega), w64 (224 + x / 4096) (by omega) (by omega), w64 (128 + x / 64 % 64) (by omega) (by omega), w64 (128 + x % 64) (by omega) (by omega)]
        rw [show (224 + x / 4096) % 256 = 224 + x / 4096 by omega, show (128 + x / 64 % 64) % 256 = 128 + x / 64 % 64 by omega, show (128 + x % 64) % 256 = 128 + x % 64 by omega]
      · rw [if_neg h3, enc, encodeRuneZ_four (by omega) (by omega), td, td, td, tmod_nn x _ (by omega), w64 (x / 64) (by omega) (by omega), w64 (x / 4096) (by omega) (by omega), tmod_nn (x / 64) _ (by omega), tmod_nn (x / 4096) _ (by omega), w64 (x / 262144) (by omega) (by omega), w64 (240 + x / 262144) (by omega) (by omega), w64 (128 + x / 4096 % 64) (by omega) (by omega), w64 (128 + x / 64 % 64) (by omega) (by omega), w64 (128 + x % 64) (by omega) (by omega)]
        rw [show (240 + x / 262144) % 256 = 240 + x / 262144 by omega, show (128 + x / 4096 % 64) % 256 = 128 + x / 4096 % 64 by omega, show (128 + x / 64 % 64) % 256 = 128 + x / 64 % 64 by omega, show (128 + x % 64) % 256 = 128 + x % 64 by omega]
end Go.Proofs.YtojhbioljpamhaaDoor.My

/- UtfJoins, in plain Lean: what is unquoted is right; texts behind one another. -/
namespace Go.Proofs.YtojhbioljpamhaaDoor.My
open Go.RowKit Go.Lib Go.Proofs.YtojhbioljpamhaaDoorW.PrintWords
set_option linter.unusedVariables false
set_option linter.unusedSimpArgs false

abbrev tb (xs : List Int) : List UInt8 := xs.map fun n => UInt8.ofNat n.toNat
theorem str_data (xs : List Int) : (strOfNums xs).data.toList = tb xs := rfl
theorem tb_nat (z : Int) (h0 : 0 ≤ z) (h1 : z < 256) : (UInt8.ofNat z.toNat).toNat = z.toNat := by
  rw [UInt8.toNat_ofNat']; exact Nat.mod_eq_of_lt (by omega)
theorem sgn_one (a : UInt8) (t : List UInt8) : sgn (a :: t) = decodeN (t.length + 1) a.toNat (t.getD 0 0).toNat (t.getD 1 0).toNat (t.getD 2 0).toNat := rfl
theorem sgn_two (a b : UInt8) (t : List UInt8) : sgn (a :: b :: t) = decodeN (t.length + 2) a.toNat b.toNat (t.getD 0 0).toNat (t.getD 1 0).toNat := rfl
theorem sgn_three (a b c : UInt8) (t : List UInt8) : sgn (a :: b :: c :: t) = decodeN (t.length + 3) a.toNat b.toNat c.toNat (t.getD 0 0).toNat := rfl
theorem sgn_four (a b c d : UInt8) (t : List UInt8) : sgn (a :: b :: c :: d :: t) = decodeN (t.length + 4) a.toNat b.toNat c.toNat d.toNat := rfl
/-- A sign's bytes are the sign's, whatever stands behind. -/
theorem enc_sgn (r : Int) (t : List UInt8) : good (tb (enc r) ++ t) ∧ (sgn (tb (enc r) ++ t)).2 = (tb (enc r)).length ∧
    ((0 ≤ r ∧ r < 55296) ∨ (57343 < r ∧ r ≤ 1114111) → ((sgn (tb (enc r) ++ t)).1 : Int) = r) := by
  by_cases h1 : 0 ≤ r ∧ r ≤ 127
  · rw [enc, encodeRuneZ_one h1.1 h1.2]
    have hs : sgn (tb [r] ++ t) = (r.toNat, 1) := by
      show sgn (UInt8.ofNat r.toNat :: t) = _
      rw [sgn_one, tb_nat r (by omega) (by omega), decodeN, if_pos (by omega)]
    unfold good
    rw [hs]
    refine ⟨?_, rfl, fun _ => ?_⟩
    · simp only; omega
    · simp only; omega
  by_cases h2 : 128 ≤ r ∧ r ≤ 2047
  · rw [enc, encodeRuneZ_two h2.1 h2.2]
    have hs : sgn (tb [192 + r / 64, 128 + r % 64] ++ t) = (r.toNat, 2) := by
      show sgn (UInt8.ofNat (192 + r / 64).toNat :: UInt8.ofNat (128 + r % 64).toNat :: t) = _
      rw [sgn_two, tb_nat (192 + r / 64) (by omega) (by omega), tb_nat (128 + r % 64) (by omega) (by omega)]
      unfold decodeN
      rw [if_neg (by omega), if_pos (by omega), if_pos (by omega)]
      congr 1; omega
    unfold good
    rw [hs]
    refine ⟨?_, rfl, fun _ => ?_⟩
    · simp only; omega
    · simp only; omega
  by_cases h3 : (2048 ≤ r ∧ r < 55296) ∨ (57343 < r ∧ r ≤ 65535)
  · rw [enc, encodeRuneZ_three h3]
    have hs : sgn (tb [224 + r / 4096, 128 + r / 64 % 64, 128 + r % 64] ++ t) = (r.toNat, 3) := by
      show sgn (UInt8.ofNat (224 + r / 4096).toNat :: UInt8.ofNat (128 + r / 64 % 64).toNat :: UInt8.ofNat (128 + r % 64).toNat :: t) = _
      rw [sgn_three, tb_nat (224 + r / 4096) (by omega) (by omega), tb_nat (128 + r / 64 % 64) (by omega) (by omega), tb_nat (128 + r % 64) (by omega) (by omega)]
      have e : ∀ m : Nat, (224 + r / 4096).toNat % 16 * 4096 + (128 + r / 64 % 64).toNat % 64 * 64 + (128 + r % 64).toNat % 64 = r.toNat := fun _ => by omega
      unfold decodeN
      rw [if_neg (by omega), if_neg (by omega), if_pos (by omega), e 0, if_pos (by omega)]
    unfold good
    rw [hs]
    refine ⟨?_, rfl, fun _ => ?_⟩
    · simp only; omega
    · simp only; omega
  by_cases h4 : 65536 ≤ r ∧ r ≤ 1114111
  · rw [enc, encodeRuneZ_four h4.1 h4.2]
    have hs : sgn (tb [240 + r / 262144, 128 + r / 4096 % 64, 128 + r / 64 % 64, 128 + r % 64] ++ t) = (r.toNat, 4) := by
      show sgn (UInt8.ofNat (240 + r / 262144).toNat :: UInt8.ofNat (128 + r / 4096 % 64).toNat :: UInt8.ofNat (128 + r / 64 % 64).toNat :: UInt8.ofNat (128 + r % 64).toNat :: t) = _
      rw [sgn_four, tb_nat (240 + r / 262144) (by omega) (by omega), tb_nat (128 + r / 4096 % 64) (by omega) (by omega), tb_nat (128 + r / 64 % 64) (by omega) (by omega), tb_nat (128 + r % 64) (by omega) (by omega)]
      have e : ∀ m : Nat, (240 + r / 262144).toNat % 8 * 262144 + (128 + r / 4096 % 64).toNat % 64 * 4096 + (128 + r / 64 % 64).toNat % 64 * 64 + (128 + r % 64).toNat % 64 = r.toNat := fun _ => by omega
      unfold decodeN
      rw [if_neg (by omega), if_neg (by omega), if_neg (by omega), if_pos (by omega), e 0, if_pos (by omega)]
    unfold good
    rw [hs]
    refine ⟨?_, rfl, fun _ => ?_⟩
    · simp only; omega
    · simp only; omega
  · rw [enc, encodeRuneZ_bad (by omega)]
    have hs : sgn (tb [239, 191, 189] ++ t) = (65533, 3) := by
      show sgn (239 :: 191 :: 189 :: t) = _
      rw [sgn_three]
      unfold decodeN
      rw [if_neg (by decide), if_neg (by rintro ⟨h, _⟩; exact absurd h (by decide)), if_pos ⟨by decide, ⟨by omega, by decide⟩, by omega, by decide⟩, if_pos ⟨by decide, by decide⟩]
      rfl
    unfold good
    rw [hs]
    exact ⟨fun h => absurd h.2 (by decide), rfl, fun h => by omega⟩
theorem V_enc (r : Int) : V (tb (enc r)) := by
  obtain ⟨h1, h2, _⟩ := enc_sgn r []
  rw [List.append_nil] at h1 h2
  have hl := (Lib.encodeRuneZ_length r).1
  refine V.cons _ ?_ h1 ?_
  · intro e
    have := congrArg List.length e
    rw [List.length_map] at this
    have h3 : (Lib.encodeRuneZ r).length = 0 := this
    omega
  · rw [h2, List.drop_length]; exact V.nil
theorem tb_app (a b : List Int) : tb (a ++ b) = tb a ++ tb b := List.map_append
theorem escR_V {s : ByteArray} {i j : Nat} {p : List Int} (h : escR s i = .ok (p, j)) : V (tb p) := by
  unfold escR at h
  split at h
  · split at h
    · split at h
      · cases h
      · cases h; exact V_enc _
    · split at h
      · cases h
      · cases h
        have key : ∀ n : Nat, 0 ≤ sgL.getD n 0 ∧ sgL.getD n 0 < 128 := by
          intro n
          by_cases hn : n < 8
          · have : ∀ n : Fin 8, 0 ≤ sgL.getD n.1 0 ∧ sgL.getD n.1 0 < 128 := by decide
            exact this ⟨n, hn⟩
          · rw [List.getD_eq_getElem?_getD, List.getElem?_eq_none (by simp [sgL]; omega)]
            decide
        have hk := key (shI (byteI s i (by assumption))).toNat
        refine V_ascii ?_ V.nil
        rw [tb_nat _ hk.1 (by omega)]
        omega
  · cases h
theorem signR_V {s : ByteArray} {i j : Nat} {p : List Int} (hi : i < s.size) (h : signR s i = .ok (p, j)) : V (tb p) := by
  unfold signR at h
  split at h
  · split at h <;> cases h
  · rename_i hb
    cases h
    rw [← enc_at s i hi hb]
    exact V_enc _
theorem readF_V {s : ByteArray} : ∀ {f i j : Nat} {out p : List Int}, V (tb out) → readF s f i out = .ok (p, j) → V (tb p)
  | 0, i, j, out, p, ho, h => by cases h
  | f + 1, i, j, out, p, ho, h => by
    rw [readF] at h
    split at h
    · rename_i hi
      split at h
      · cases h; exact ho
      · split at h
        · split at h
          · cases h
          · rename_i q j' he
            exact readF_V (by rw [tb_app]; exact V_app ho (escR_V he)) h
        · split at h
          · cases h
          · split at h
            · cases h
            · rename_i q j' he
              exact readF_V (by rw [tb_app]; exact V_app ho (signR_V hi he)) h
    · cases h
theorem unqR_V {s : ByteArray} {j : Nat} {p : List Int} (h : unqR s = .ok (p, j)) : badU (strOfNums p) < 0 := by
  rw [badU_V, str_data]
  unfold unqR at h
  split at h
  · split at h
    · exact readF_V (out := []) V.nil h
    · cases h
  · cases h
/-! ### where it ends -/
theorem figR_place {s : ByteArray} {wrong : Int} : ∀ {n i : Nat} {x y : Int}, i ≤ s.size → figR s wrong n i x = .ok y → i + n ≤ s.size
  | 0, i, x, y, hi, h => hi
  | n + 1, i, x, y, hi, h => by
    rw [figR] at h
    split at h
    · split at h
      · cases h
      · have := figR_place (by omega) h
        omega
    · cases h
theorem lowR_place {s : ByteArray} {i j : Nat} {x y : Int} (h : lowR s i x = .ok (y, j)) : i < j ∧ j ≤ s.size := by
  unfold lowR at h
  split at h
  · split at h
    · cases h
    · split at h
      · split at h
        · cases h
        · split at h
          · cases h
          · rename_i h0 _ h1 _ z hz
            have := figR_place (by omega) hz
            split at h
            · cases h; omega
            · cases h
      · cases h
  · cases h
theorem uniR_place {s : ByteArray} {i j : Nat} {x : Int} (hi : i ≤ s.size) (h : uniR s i = .ok (x, j)) : i < j ∧ j ≤ s.size := by
  unfold uniR at h
  split at h
  · cases h
  · rename_i y hy
    have := figR_place hi hy
    split at h
    · cases h; omega
    · split at h
      · cases h
      · have := lowR_place h
        omega
theorem escR_place {s : ByteArray} {i j : Nat} {p : List Int} (h : escR s i = .ok (p, j)) : i < j ∧ j ≤ s.size := by
  unfold escR at h
  split at h
  · split at h
    · split at h
      · cases h
      · rename_i x j' hx
        have := uniR_place (by omega) hx
        cases h; omega
    · split at h
      · cases h
      · cases h; omega
  · cases h
theorem signR_place {s : ByteArray} {i j : Nat} {p : List Int} (hi : i < s.size) (h : signR s i = .ok (p, j)) : i < j ∧ j ≤ s.size := by
  unfold signR at h
  split at h
  · split at h <;> cases h
  · rename_i hb
    have := width_in s i hi hb
    cases h; omega
theorem readF_place {s : ByteArray} : ∀ {f i j : Nat} {out p : List Int}, out.length ≤ 4 * i → readF s f i out = .ok (p, j) → i < j ∧ j ≤ s.size ∧ p.length ≤ 4 * j
  | 0, i, j, out, p, ho, h => by cases h
  | f + 1, i, j, out, p, ho, h => by
    rw [readF] at h
    split at h
    · rename_i hi
      split at h
      · cases h; omega
      · split at h
        · split at h
          · cases h
          · rename_i q j' he
            have h1 := escR_place he
            have h2 := escR_len he
            have := readF_place (by rw [List.length_append]; omega) h
            omega
        · split at h
          · cases h
          · split at h
            · cases h
            · rename_i q j' he
              have h1 := signR_place hi he
              have h2 := signR_len hi he
              have := readF_place (by rw [List.length_append]; omega) h
              omega
    · cases h
theorem str_size (xs : List Int) : (strOfNums xs).size = xs.length := by
  rw [← data_length, str_data, List.length_map]
theorem unqR_len {s : ByteArray} {j : Nat} {p : List Int} (hs : s.size ≤ 3000) (h : unqR s = .ok (p, j)) : (2 : Int) ≤ (j : Int) ∧ (j : Int) ≤ s.size ∧ (strOfNums p).size ≤ 100000 := by
  rw [str_size]
  unfold unqR at h
  split at h
  · split at h
    · have := readF_place (out := []) (by simp) h
      omega
    · cases h
  · cases h
/-! ### texts behind one another -/
theorem badF_lt (s : ByteArray) : ∀ f i, badF s f i < s.size
  | 0, i => by rw [badF]; omega
  | f + 1, i => by
    rw [badF]
    split
    · split
      · omega
      · exact badF_lt s f _
    · omega
theorem badF_shift (s t : ByteArray) : ∀ (f p q : Nat), s.data.toList.drop p = t.data.toList.drop q → p ≤ s.size → q ≤ t.size → badF s f p = if badF t f q < 0 then -1 else badF t f q - q + p
  | 0, p, q, h, hp, hq => by rw [badF, badF, if_pos (by decide)]
  | f + 1, p, q, h, hp, hq => by
    have hls : s.data.toList.length = s.size := by rw [Array.length_toList]; rfl
    have hlt : t.data.toList.length = t.size := by rw [Array.length_toList]; rfl
    have hl := congrArg List.length h
    rw [List.length_drop, List.length_drop, hls, hlt] at hl
    have hd : Utf8.decode s p = Utf8.decode t q := by rw [sgn_at, sgn_at, h]
    by_cases hps : p < s.size
    · have hqt : q < t.size := by omega
      by_cases hb : (Utf8.decode t q).1 = 65533 ∧ (Utf8.decode t q).2 = 1
      · rw [badF_hit s f p hps (by rw [hd]; exact hb.1) (by rw [hd]; exact hb.2), badF_hit t f q hqt hb.1 hb.2, if_neg (by omega)]
        omega
      · have hw := width_in t q hqt hb
        rw [badF_on s f p hps (by rw [hd]; exact hb), badF_on t f q hqt hb, hd, badF_shift s t f (p + (Utf8.decode t q).2) (q + (Utf8.decode t q).2) (by rw [← List.drop_drop, ← List.drop_drop, h]) (by omega) (by omega)]
        split
        · rfl
        · omega
    · rw [badF_end s _ p hps, badF_end t _ q (by omega), if_pos (by omega)]
theorem badF_behind (s b : ByteArray) : ∀ (n : Nat) (l : List UInt8) (f p : Nat), l.length ≤ n → V l → s.data.toList.drop p = l ++ b.data.toList → p ≤ s.size → s.size ≤ p + f →
    badF s f p = if badU b < 0 then -1 else (p : Int) + l.length + badU b
  | n, [], f, p, hn, hv, hd, hp, hf => by
    have hls : s.data.toList.length = s.size := by rw [Array.length_toList]; rfl
    have hlb : b.data.toList.length = b.size := by rw [Array.length_toList]; rfl
    have hl := congrArg List.length hd
    rw [List.length_drop, List.nil_append, hls, hlb] at hl
    rw [badF_shift s b f p 0 (by rw [hd]; rfl) hp (Nat.zero_le _), badF_more b b.size 0 (by omega) f (by omega)]
    show (if badU b < 0 then (-1 : Int) else badU b - ((0 : Nat) : Int) + p) = _
    split
    · rfl
    · simp; omega
  | 0, c :: l, f, p, hn, hv, hd, hp, hf => by simp at hn
  | n + 1, c :: l, f, p, hn, hv, hd, hp, hf => by
    have hls : s.data.toList.length = s.size := by rw [Array.length_toList]; rfl
    have hne : c :: l ≠ [] := by simp
    obtain ⟨hg, h2⟩ := V_inv hv hne
    obtain ⟨w1, w2, w3⟩ := sgn_good hne hg
    have hl := congrArg List.length hd
    rw [List.length_drop, hls, List.length_append] at hl
    have hps : p < s.size := by rw [List.length_cons] at hl; omega
    have hdec : Utf8.decode s p = sgn (c :: l) := by rw [sgn_at, hd, sgn_app _ hne hg]
    obtain ⟨f, rfl⟩ : ∃ e, f = e + 1 := ⟨f - 1, by omega⟩
    rw [badF_on s f p hps (by rw [hdec]; exact hg), hdec,
      badF_behind s b n ((c :: l).drop (sgn (c :: l)).2) f (p + (sgn (c :: l)).2) (by rw [List.length_drop]; omega) h2 (by rw [← List.drop_drop, hd, List.drop_append_of_le_length w2]) (by omega) (by omega)]
    split
    · rfl
    · rw [List.length_drop]; omega
theorem badU_app (a b : ByteArray) (ha : badU a < 0) : badU (a ++ b) = if badU b < 0 then -1 else (a.size : Int) + badU b := by
  have hla : a.data.toList.length = a.size := by rw [Array.length_toList]; rfl
  have := badF_behind (a ++ b) b a.size a.data.toList (a ++ b).size 0 (by omega) ((badU_V a).1 ha) (by rw [List.drop_zero, ByteArray.data_append, Array.toList_append]) (Nat.zero_le _) (by omega)
  rw [hla] at this
  show badF _ _ _ = _
  rw [this]
  split
  · rfl
  · omega
end Go.Proofs.YtojhbioljpamhaaDoor.My

/- The document's Unquote is unqR. -/
namespace Go.Proofs.YtojhbioljpamhaaDoor.My
open Go.RowKit Go.Lib Go.Proofs.YtojhbioljpamhaaDoorW.PrintWords Go.Proofs.YtojhbioljpamhaaDoor.MyDocSign Go.Proofs.YtojhbioljpamhaaDoor.MyDocFig Go.Proofs.YtojhbioljpamhaaDoor.MyDocUnq
set_option linter.unusedVariables false
set_option linter.unusedSimpArgs false

abbrev nmB : ByteArray := ⟨#[34, 92, 47, 98, 102, 110, 114, 116]⟩
abbrev byL : List Int := [34, 92, 47, 8, 12, 10, 13, 9]
/-- The last of the names that is b, from a place on. -/
def lastF (b : Int) : Nat → Int → Int → Int
  | 0, _, sh => sh
  | n + 1, j, sh => lastF b n (j + 1) (if bt nmB j = b then j else sh)
theorem lastF_sh (b : Int) (h0 : 0 ≤ b) (h1 : b < 256) : lastF b 8 0 (-1) = shI b := by
  have key : ∀ n : Fin 256, lastF (n.1 : Int) 8 0 (-1) = shI (n.1 : Int) := by decide +kernel
  have := key ⟨b.toNat, by omega⟩
  rw [show ((⟨b.toNat, by omega⟩ : Fin 256).1 : Int) = b from by show ((b.toNat : Nat) : Int) = b; omega] at this
  exact this
theorem l1_run (s : ByteArray) (hs : s.size ≤ 1000) (q : Nat) (hq : q + 1 < s.size) (out : List Int) : ∀ (n k : Nat) (j sh : Int), j + n = 8 → 0 ≤ j →
    crossdockref11_Unquote.l1 (k + n) s out (q : Int) nmB byL sh j = crossdockref11_Unquote.l1 k s out (q : Int) nmB byL (lastF (byteI s (q + 1) hq) n j sh) 8
  | 0, k, j, sh, hj, h0 => by rw [show j = 8 by omega]; rfl
  | n + 1, k, j, sh, hj, h0 => by
    have hz : ((nmB.size : Nat) : Int) = 8 := rfl
    have hb : bt s ((q : Int) + 1) = byteI s (q + 1) hq := by rw [show (q : Int) + 1 = ((q + 1 : Nat) : Int) by omega, bt_byte s _ hq]
    rw [show k + (n + 1) = (k + n) + 1 by omega, crossdockref11_Unquote.l1, hz, if_pos (by omega), if_pos h0, w64 _ (by omega) (by omega), if_pos (by omega), if_pos (by omega), hb, w64 (j + 1) (by omega) (by omega), lastF]
    by_cases h : bt nmB j = byteI s (q + 1) hq
    · rw [if_pos h, if_pos h, l1_run s hs q hq out n k (j + 1) j (by omega) (by omega)]
    · rw [if_neg h, if_neg h, l1_run s hs q hq out n k (j + 1) sh (by omega) (by omega)]
def fin (r : Except Int (List Int × Nat)) : ByteArray × Int × Int := match r with | .ok (p, j) => (strOfNums p, (j : Int), 0) | .error c => (⟨#[]⟩, 0, c)
theorem figR_err {s : ByteArray} {wrong : Int} (hw : wrong ≠ 0) : ∀ {n i : Nat} {x c : Int}, figR s wrong n i x = .error c → c ≠ 0
  | 0, i, x, c, h => by rw [figR] at h; cases h
  | n + 1, i, x, c, h => by
    rw [figR] at h
    split at h
    · split at h
      · cases h; exact hw
      · exact figR_err hw h
    · cases h; decide
/-- The second half. -/
theorem low_run (s : ByteArray) (hs : s.size ≤ 1000) (q : Nat) (hq : q ≤ s.size) (out : List Int) (ho : out.length ≤ 4000) (x : Int) (hx : 55296 ≤ x) (hx2 : x < 56320) (k : Nat) (R : Option (ByteArray × Int × Int))
    (hE : ∀ c, lowR s q x = .error c → R = some (⟨#[]⟩, 0, c))
    (hR : ∀ y j k', lowR s q x = .ok (y, j) → k + 2 ≤ k' → crossdockref11_Unquote.l0 k' s (out ++ enc y) (j : Int) = R) :
    crossdockref11_Unquote.l2 (k + 20) s out (q : Int) x [92, 117] 2 0 = R := by
  have hz : ((([92, 117] : List Int).length : Nat) : Int) = 2 := rfl
  rw [show k + 20 = (k + 19) + 1 from rfl, crossdockref11_Unquote.l2, if_pos (by decide), if_pos (by decide), if_pos (by rw [hz]; decide), w64 ((q : Int) + 0) (by omega) (by omega), Int.add_zero]
  by_cases h0 : q < s.size
  · rw [if_neg (by omega), if_pos (by omega), if_pos (by omega), bt_byte s q h0, show rd ([92, 117] : List Int) 0 = 92 from rfl]
    by_cases e0 : byteI s q h0 = 92
    · rw [if_pos e0, show wrap64 ((0 : Int) + 1) = 1 from w64 _ (by decide) (by decide), show k + 19 = (k + 18) + 1 from rfl, crossdockref11_Unquote.l2, if_pos (by decide), if_pos (by decide), if_pos (by rw [hz]; decide), w64 ((q : Int) + 1) (by omega) (by omega)]
      by_cases h1 : q + 1 < s.size
      · have hb : bt s ((q : Int) + 1) = byteI s (q + 1) h1 := by rw [show (q : Int) + 1 = ((q + 1 : Nat) : Int) by omega, bt_byte s _ h1]
        rw [if_neg (by omega), if_pos (by omega), if_pos (by omega), hb, show rd ([92, 117] : List Int) 1 = 117 from rfl]
        by_cases e1 : byteI s (q + 1) h1 = 117
        · have hl : lowR s q x = match figR s 9 4 (q + 2) 0 with
              | .error c => .error c
              | .ok y => if 56320 ≤ y ∧ y < 57344 then .ok (65536 + (x - 55296) * 1024 + (y - 56320), q + 6) else .error 9 := by
            rw [lowR, dif_pos h0, if_neg (by simpa using e0), dif_pos h1, if_neg (by simpa using e1)]
            rfl
          rw [if_pos e1, show wrap64 ((1 : Int) + 1) = 2 from w64 _ (by decide) (by decide), show k + 18 = (k + 17) + 1 from rfl, crossdockref11_Unquote.l2, if_neg (by decide), w64 ((q : Int) + 2) (by omega) (by omega), show (q : Int) + 2 = ((q + 2 : Nat) : Int) by omega,
            show k + 17 = (k + 10) + 7 from rfl, figures_f s hs (q + 2) (by omega) 9, Option.bind_some]
          cases hf : figR s 9 4 (q + 2) 0 with
          | error c =>
            have hc := figR_err (by decide) hf
            rw [hf] at hl
            rw [hE c hl]
            show (if c = 0 then _ else some ((⟨#[]⟩ : ByteArray), (0 : Int), c)) = _
            rw [if_neg hc]
          | ok y =>
            have hy := figR_range (by omega) (by omega) (by decide) hf
            rw [hf] at hl
            simp only at hl
            show (if (0 : Int) = 0 then (if y < 56320 then (some ((⟨#[]⟩ : ByteArray), (0 : Int), (9 : Int))) else (if y ≥ 57344 then (some ((⟨#[]⟩ : ByteArray), 0, 9)) else ((crossdockref11_Put.f (wrap64 ((wrap64 ((wrap64 (65536 + (wrap64 ((wrap64 (x - 55296)) * 1024)))) + y)) - 56320))).bind fun t175 => (if out.length + t175.length < 140737488355328 then (crossdockref11_Unquote.l0 (k + 10 + 7) s (out ++ t175) (wrap64 ((q : Int) + 6))) else (none))))) else _) = R
            rw [if_pos rfl]
            by_cases y1 : y < 56320
            · rw [if_pos y1, hE 9 (by rw [hl, if_neg (by omega)])]
            · rw [if_neg y1]
              by_cases y2 : y ≥ 57344
              · rw [if_pos y2, hE 9 (by rw [hl, if_neg (by omega)])]
              · rw [if_neg y2, w64 (x - 55296) (by omega) (by omega), w64 ((x - 55296) * 1024) (by omega) (by omega), w64 (65536 + (x - 55296) * 1024) (by omega) (by omega), w64 (65536 + (x - 55296) * 1024 + y) (by omega) (by omega), w64 (65536 + (x - 55296) * 1024 + y - 56320) (by omega) (by omega),
                  put_f _ (by omega), Option.bind_some, if_pos (by have := enc_le (65536 + (x - 55296) * 1024 + y - 56320); omega), w64 ((q : Int) + 6) (by omega) (by omega), show (q : Int) + 6 = ((q + 6 : Nat) : Int) by omega]
                rw [show 65536 + (x - 55296) * 1024 + y - 56320 = 65536 + (x - 55296) * 1024 + (y - 56320) by omega]
                exact hR _ _ _ (by rw [hl, if_pos (by omega)]) (by omega)
        · rw [if_neg e1, hE 9 (by rw [lowR, dif_pos h0, if_neg (by simpa using e0), dif_pos h1, if_pos (by simpa using e1)])]
      · rw [if_pos (by omega), hE 10 (by rw [lowR, dif_pos h0, if_neg (by simpa using e0), dif_neg h1])]
    · rw [if_neg e0, hE 9 (by rw [lowR, dif_pos h0, if_pos (by simpa using e0)])]
  · rw [if_pos (by omega), hE 10 (by rw [lowR, dif_neg h0])]
theorem esc_run (s : ByteArray) (hs : s.size ≤ 1000) (q : Nat) (hq : q + 1 < s.size) (out : List Int) (ho : out.length ≤ 4000) (k : Nat) (R : Option (ByteArray × Int × Int))
    (hE : ∀ c, escR s (q + 1) = .error c → R = some (⟨#[]⟩, 0, c))
    (hR : ∀ p j k', escR s (q + 1) = .ok (p, j) → k + 2 ≤ k' → crossdockref11_Unquote.l0 k' s (out ++ p) (j : Int) = R) :
    crossdockref11_Unquote.l1 (k + 40) s out (q : Int) nmB byL (-1) 0 = R := by
  have hr := byte_range s (q + 1) hq
  have hsr := shI_range (byteI s (q + 1) hq)
  have hz : ((nmB.size : Nat) : Int) = 8 := rfl
  have hz2 : ((byL.length : Nat) : Int) = 8 := rfl
  have hb : bt s ((q : Int) + 1) = byteI s (q + 1) hq := by rw [show (q : Int) + 1 = ((q + 1 : Nat) : Int) by omega, bt_byte s _ hq]
  rw [show k + 40 = (k + 32) + 8 from rfl, l1_run s hs q hq out 8 (k + 32) 0 (-1) (by decide) (by decide), lastF_sh _ hr.1 hr.2, show k + 32 = (k + 31) + 1 from rfl, crossdockref11_Unquote.l1, hz, if_neg (by decide)]
  have hesc : escR s (q + 1) = if byteI s (q + 1) hq = 117 then (match uniR s (q + 1 + 1) with | .error c => .error c | .ok (x, j) => .ok (enc x, j)) else if shI (byteI s (q + 1) hq) < 0 then .error 2 else .ok ([sgL.getD (shI (byteI s (q + 1) hq)).toNat 0], q + 1 + 1) := by
    rw [escR, dif_pos hq]
    rfl
  by_cases h0 : shI (byteI s (q + 1) hq) ≥ 0
  · have n117 : byteI s (q + 1) hq ≠ 117 := by
      intro e
      rw [e] at h0
      exact absurd h0 (by decide)
    rw [if_pos h0, if_pos h0, hz2, if_pos hsr.2, if_pos (by omega), w64 ((q : Int) + 2) (by omega) (by omega), show (q : Int) + 2 = ((q + 2 : Nat) : Int) by omega]
    exact hR [rd byL (shI (byteI s (q + 1) hq))] (q + 2) _ (by rw [hesc, if_neg n117, if_neg (by omega)]; rfl) (by omega)
  · rw [if_neg h0, w64 ((q : Int) + 1) (by omega) (by omega), if_pos (by omega), if_pos (by omega), hb]
    by_cases e1 : byteI s (q + 1) hq = 117
    · rw [if_pos e1, w64 ((q : Int) + 2) (by omega) (by omega), show (q : Int) + 2 = ((q + 2 : Nat) : Int) by omega, show k + 31 = (k + 24) + 7 from rfl, figures_f s hs (q + 2) (by omega) 2, Option.bind_some]
      rw [if_pos e1] at hesc
      have hu : uniR s (q + 1 + 1) = match figR s 2 4 (q + 2) 0 with
        | .error c => .error c
        | .ok x => if x < 55296 ∨ 57344 ≤ x then .ok (x, q + 6) else if 56320 ≤ x then .error 9 else lowR s (q + 6) x := rfl
      cases hf : figR s 2 4 (q + 2) 0 with
      | error c =>
        have hc := figR_err (by decide) hf
        rw [hf] at hu
        rw [hu] at hesc
        rw [hE c hesc]
        show (if c = 0 then _ else some ((⟨#[]⟩ : ByteArray), (0 : Int), c)) = _
        rw [if_neg hc]
      | ok x =>
        have hy := figR_range (by omega) (by omega) (by decide) hf
        have hpl := figR_place (by omega) hf
        rw [hf] at hu
        simp only at hu
        show (if (0 : Int) = 0 then (if x ≥ 56320 then (crossdockref11_Unquote.j2 (k + 24 + 7) s out (wrap64 ((q : Int) + 6)) x (decide (x < 57344))) else (crossdockref11_Unquote.j2 (k + 24 + 7) s out (wrap64 ((q : Int) + 6)) x false)) else _) = R
        rw [if_pos rfl, w64 ((q : Int) + 6) (by omega) (by omega), show (q : Int) + 6 = ((q + 6 : Nat) : Int) by omega]
        have hput : (x < 55296 ∨ 57344 ≤ x) → crossdockref11_Unquote.j3 (k + 30) s out ((q + 6 : Nat) : Int) x false = R := by
          intro hx
          rw [if_pos hx] at hu
          rw [hu] at hesc
          rw [show k + 30 = (k + 29) + 1 from rfl, crossdockref11_Unquote.j3, if_neg (by decide), put_f _ (by omega), Option.bind_some, if_pos (by have := enc_le x; omega)]
          exact hR _ _ _ hesc (by omega)
        have hj2 : (x < 55296 ∨ 57344 ≤ x ∨ x < 56320) → crossdockref11_Unquote.j2 (k + 31) s out ((q + 6 : Nat) : Int) x false = R := by
          intro hx
          rw [show k + 31 = (k + 30) + 1 from rfl, crossdockref11_Unquote.j2, if_neg (by decide)]
          by_cases h1 : x ≥ 55296
          · rw [if_pos h1]
            by_cases h2 : x < 56320
            · rw [if_neg (by omega), if_neg (by omega)] at hu
              rw [decide_eq_true h2, show k + 30 = (k + 29) + 1 from rfl, crossdockref11_Unquote.j3, if_pos rfl, Option.bind_some]
              show crossdockref11_Unquote.l2 (k + 29) s out ((q + 6 : Nat) : Int) x [92, 117] 2 0 = R
              rw [show k + 29 = (k + 9) + 20 from rfl]
              refine low_run s hs (q + 6) (by omega) out ho x h1 h2 (k + 9) R (fun c hc => hE c (by rw [hesc, hu, hc])) (fun y j k' hy hk => hR _ _ _ (by rw [hesc, hu, hy]) (by omega))
            · rw [decide_eq_false h2]
              exact hput (by omega)
          · rw [if_neg h1]
            exact hput (by omega)
        show (if x ≥ 56320 then crossdockref11_Unquote.j2 (k + 31) s out ((q + 6 : Nat) : Int) x (decide (x < 57344)) else crossdockref11_Unquote.j2 (k + 31) s out ((q + 6 : Nat) : Int) x false) = R
        by_cases h1 : x ≥ 56320
        · rw [if_pos h1]
          by_cases h2 : x < 57344
          · rw [if_neg (by omega), if_pos h1] at hu
            rw [hu] at hesc
            rw [decide_eq_true h2, show k + 31 = (k + 30) + 1 from rfl, crossdockref11_Unquote.j2, if_pos rfl, hE 9 hesc]
          · rw [decide_eq_false h2]
            exact hj2 (by omega)
        · rw [if_neg h1]
          exact hj2 (by omega)
    · rw [if_neg e1, hE 2 (by rw [hesc, if_neg e1, if_pos (by omega)])]
theorem unq_run (s : ByteArray) (hs : s.size ≤ 1000) : ∀ (f i k : Nat) (out : List Int), s.size ≤ i + f → i ≤ s.size → 1 ≤ i → out.length ≤ 4 * i → 60 * f + 60 ≤ k →
    crossdockref11_Unquote.l0 k s out (i : Int) = some (fin (readF s (f + 1) i out))
  | f, i, k, out, hf, hi, h1, ho, hk => by
    obtain ⟨k, rfl⟩ : ∃ e, k = e + 50 := ⟨k - 50, by omega⟩
    rw [show k + 50 = (k + 49) + 1 from rfl, crossdockref11_Unquote.l0]
    by_cases hlt : i < s.size
    · obtain ⟨f, rfl⟩ : ∃ e, f = e + 1 := ⟨f - 1, by omega⟩
      rw [if_pos (by omega), if_pos (by omega), bt_byte s i hlt, readF, dif_pos hlt]
      by_cases c34 : byteI s i hlt = 34
      · rw [if_pos c34, if_pos c34, w64 ((i : Int) + 1) (by omega) (by omega), show (i : Int) + 1 = ((i + 1 : Nat) : Int) by omega]
        rfl
      · rw [if_neg c34, if_neg c34]
        by_cases c92 : byteI s i hlt = 92
        · rw [if_neg (by omega), if_pos c92, if_pos c92, w64 ((i : Int) + 1) (by omega) (by omega)]
          by_cases h2 : i + 1 < s.size
          · rw [if_neg (by omega), show k + 49 = (k + 9) + 40 from rfl]
            refine esc_run s hs i h2 out (by omega) (k + 9) _ (fun c hc => by rw [hc]; rfl) (fun p j k' hp hk' => ?_)
            have hpl := escR_place hp
            have hpn := escR_len hp
            rw [hp]
            exact unq_run s hs f j k' (out ++ p) (by omega) hpl.2 (by omega) (by rw [List.length_append]; omega) (by omega)
          · rw [if_pos (by omega), escR, dif_neg h2]
            rfl
        · rw [if_neg c92]
          by_cases c32 : byteI s i hlt < 32
          · rw [if_pos c32, if_neg c92, if_pos c32]; rfl
          · rw [if_neg c32, if_neg c92, if_neg c32, if_pos (by omega), show k + 49 = (k + 29) + 20 from rfl, sign_f, Int.toNat_natCast, signP_extract, Option.bind_some]
            have hag := agree_at s i hlt
            have hfit := fits_at s i hlt
            by_cases hbad : (Utf8.decode s i).1 = 65533 ∧ (Utf8.decode s i).2 = 1
            · obtain ⟨b1, b2⟩ := hag.1 hbad
              rw [signR, if_pos hbad]
              rcases hfit (by omega) with ⟨q0, q1⟩ | ⟨q0, q1⟩
              · rw [if_neg (by omega), if_pos q0, if_pos ((fullX_iff _ _ _ _).2 q1)]
                rfl
              · rw [if_pos q0, if_neg (fun h => q1 ((fullX_iff _ _ _ _).1 h))]
                rfl
            · have hw := width_in s i hlt hbad
              have hsign : signR s i = .ok (bytesOf (s.extract i (i + (Utf8.decode s i).2)), i + (Utf8.decode s i).2) := by rw [signR, if_neg hbad]
              have hpn := signR_len hlt hsign
              rw [hag.2 hbad, hsign]
              simp only
              generalize (Utf8.decode s i).2 = wd at *
              have hz : (s.extract i (i + wd)).size ≤ 4 := by rw [← bytesOf_length]; exact hpn
              rw [if_neg (by omega), if_neg (by omega), w64 ((i : Int) + (wd : Int)) (by omega) (by omega), if_pos (by omega), if_pos (by omega), show (i : Int) + (wd : Int) = ((i + wd : Nat) : Int) by omega, Int.toNat_natCast, if_pos (by omega)]
              exact unq_run s hs f (i + wd) (k + 29 + 20) _ (by omega) hw.2 (by omega) (by rw [List.length_append]; omega) (by omega)
    · rw [if_neg (by omega), readF, dif_neg hlt]; rfl
/-- An error's number. -/
def unqB (s : ByteArray) : Int := match unqR s with | .ok _ => 0 | .error c => c
theorem refUnq_f (s : ByteArray) (hs : s.size ≤ 1000) : crossdockref11_Unquote.f (60 * s.size + 60) s = some (unqT s, unqN s, unqB s) := by
  have hfin : ∀ r : Except Int (List Int × Nat), unqR s = r → fin r = (unqT s, unqN s, unqB s) := by
    intro r hr
    unfold unqT unqN unqB
    rw [hr]
    cases r with
    | error c => rfl
    | ok q => rfl
  unfold crossdockref11_Unquote.f
  by_cases h : s.size = 0
  · rw [if_pos (by omega), ← hfin (.error 10) (by rw [unqR, dif_neg (by omega)])]
    rfl
  · have hlt : 0 < s.size := by omega
    rw [if_neg (by omega), if_pos (by omega), show (0 : Int) = ((0 : Nat) : Int) from rfl, bt_byte s 0 hlt]
    by_cases h2 : byteI s 0 hlt = 34
    · rw [if_pos h2]
      have := unq_run s hs (s.size - 1) 1 (60 * s.size + 60) [] (by omega) (by omega) (by omega) (by simp) (by omega)
      rw [show s.size - 1 + 1 = s.size by omega] at this
      rw [← hfin (readF s s.size 1 []) (by rw [unqR, dif_pos hlt, if_pos h2])]
      exact this
    · rw [if_neg h2, ← hfin (.error 2) (by rw [unqR, dif_pos hlt, if_neg h2])]
      rfl
end Go.Proofs.YtojhbioljpamhaaDoor.My

/- UtfLiterals: the law's walk. -/
namespace Go.Proofs.YtojhbioljpamhaaDoor.My
open Go.RowKit Go.Lib Go.Proofs.YtojhbioljpamhaaDoorW.PrintWords Go.Proofs.YtojhbioljpamhaaDoorW.PrintLast Go.Proofs.YtojhbioljpamhaaDoorW.PrintMore Go.Proofs.YtojhbioljpamhaaDoor.MyDocUnq
set_option maxRecDepth 100000
set_option linter.unusedVariables false
set_option linter.unusedSimpArgs false

theorem lowR_err {s : ByteArray} {i : Nat} {x c : Int} (h : lowR s i x = .error c) : c ≠ 0 := by
  unfold lowR at h
  split at h
  · split at h
    · cases h; decide
    · split at h
      · split at h
        · cases h; decide
        · split at h
          · rename_i hz
            cases h; exact figR_err (by decide) hz
          · split at h
            · cases h
            · cases h; decide
      · cases h; decide
  · cases h; decide
theorem escR_err {s : ByteArray} {i : Nat} {c : Int} (h : escR s i = .error c) : c ≠ 0 := by
  unfold escR at h
  split at h
  · split at h
    · split at h
      · rename_i hu
        cases h
        unfold uniR at hu
        split at hu
        · rename_i hz
          cases hu; exact figR_err (by decide) hz
        · split at hu
          · cases hu
          · split at hu
            · cases hu; decide
            · exact lowR_err hu
      · cases h
    · split at h
      · cases h; decide
      · cases h
  · cases h; decide
theorem readF_err {s : ByteArray} : ∀ {f i : Nat} {out : List Int} {c : Int}, readF s f i out = .error c → c ≠ 0
  | 0, i, out, c, h => by rw [readF] at h; cases h; decide
  | f + 1, i, out, c, h => by
    rw [readF] at h
    split at h
    · split at h
      · cases h
      · split at h
        · split at h
          · rename_i he
            cases h; exact escR_err he
          · exact readF_err h
        · split at h
          · cases h; decide
          · split at h
            · rename_i he
              cases h
              unfold signR at he
              split at he
              · split at he
                · cases he; decide
                · cases he; decide
              · cases he
            · exact readF_err h
    · cases h; decide
theorem unqE_ne {s : ByteArray} : ∀ c, unqE s = some c → c ≠ 0 := by
  intro c h
  unfold unqE at h
  cases hu : unqR s with
  | ok q => rw [hu] at h; cases h
  | error d =>
    rw [hu] at h
    cases h
    unfold unqR at hu
    split at hu
    · split at hu
      · exact readF_err hu
      · cases hu; decide
    · cases hu; decide
theorem unqE_num (s : ByteArray) : numE (unqE s) = unqB s := by
  unfold unqE unqB
  cases unqR s with
  | ok q => rfl
  | error c => rfl
theorem lits_ok (s : ByteArray) (w0 w : World) (h : Ok w0 w) (hs : s.size ≤ 300) :
    Calls Tryd.prog 4 #[.string s] w fun e w' => e = .returned (.bool true) ∧ Ok w0 w' := by
  have HU : Aside0 (∀ w, Ok w0 w → Calls Tryd.prog 15 #[.string s] w fun e w' => e = .returned (.tuple #[.string (unqT s), .int .i64 (unqN s), errV (unqE s)]) ∧ Ok w0 w') := ⟨fun w h => unquote_ok s w0 w h (by omega)⟩
  have HD : Aside0 (∀ w, Calls Tryd.prog 16 #[.string s] w fun e w' => e = .returned (.tuple #[.string (unqT s), .int .i64 (unqN s), .int .i64 (unqB s)]) ∧ Below w.heap.size w w') := ⟨fun w => crossdockref11_Unquote.calls _ s _ _ _ w (refUnq_f s (by omega))⟩
  have HN : Aside0 (∀ w, Calls Tryd.prog 17 #[errV (unqE s)] w fun e w' => e = .returned (.int .i64 (unqB s)) ∧ w = w') := ⟨fun w => unqE_num s ▸ num_calls (unqE s) w unqE_ne⟩
  generalize errV (unqE s) = ev at *
  generalize unqT s = tx at *
  generalize unqN s = nx at *
  generalize unqB s = bx at *
  have a1 : (tx.toList == tx.toList) = true := by simp
  go_enter Tryd.func4, Tryd.ntmps4
  go_wp2_with (first
    | (go_at_call 7; refine (alive_ok w0 _ h).mono ?_; rintro e w1 ⟨rfl, h1⟩)
    | (go_at_call 15; refine (HU.out _ h1).mono ?_; rintro e w2 ⟨rfl, h2⟩)
    | (go_at_call 16; refine (HD.out _).mono ?_; rintro e w3 ⟨rfl, hb3⟩; have h3 := h2.next hb3; clear hb3)
    | (go_at_call 17; (with_reducible refine (HN.out _).mono ?_); rintro e w4 ⟨rfl, rfl⟩))
  go_ret
  exact ⟨rfl, h3⟩
theorem lits_long (s : ByteArray) (w0 w : World) (h : Ok w0 w) (hl : 300 < s.size) (h1 : s.size ≤ 140737488351232) :
    Calls Tryd.prog 4 #[.string s] w fun e w' => e = .returned (.bool true) ∧ Ok w0 w' := by
  go_enter Tryd.func4, Tryd.ntmps4
  go_wp2_with (go_at_call 7; refine (alive_ok w0 _ h).mono ?_; rintro e w1 ⟨rfl, h1⟩)
  go_ret
  exact ⟨rfl, by assumption⟩
theorem lits_walk (s : ByteArray) (w : World) (hs : s.size ≤ 140737488351232)
    (hL : laidMetH Tryd.prog Rows.utfLiteralsRow.laid w) :
    Calls Tryd.prog 4 #[.string s] w fun e w' => e = .returned (.bool true) ∧ Below w.heap.size w w' := by
  have hg := Ok.start (gl_of hL)
  by_cases h : 300 < s.size
  · exact (lits_long s w w hg h hs).mono fun e w' ⟨h1, h2⟩ => ⟨h1, h2.bel⟩
  · exact (lits_ok s w w hg (by omega)).mono fun e w' ⟨h1, h2⟩ => ⟨h1, h2.bel⟩
end Go.Proofs.YtojhbioljpamhaaDoor.My
