/- The walk of literal.figures. -/
import Derived.Test.YtojhbioljpamhaaDoorMyLit
import Derived.Laws.BitsAllLaws
import Derived.Laws.ShiftsVarLaws
namespace Go.Proofs.YtojhbioljpamhaaDoor.My
open Go.RowKit Go.Lib Go.Proofs.YtojhbioljpamhaaDoorW.PrintWords Go.Proofs.YtojhbioljpamhaaDoorW.PrintLast Go.Proofs.YtojhbioljpamhaaDoorW.PrintMore
set_option maxRecDepth 100000
set_option linter.unusedVariables false
set_option linter.unusedSimpArgs false

/-- What a figure tells; -1: none. -/
def hexV (c : Int) : Int := if 48 ≤ c ∧ c ≤ 57 then c - 48 else if 97 ≤ c ∧ c ≤ 102 then c - 87 else if 65 ≤ c ∧ c ≤ 70 then c - 55 else -1
theorem hexV_range (c : Int) : -1 ≤ hexV c ∧ hexV c < 16 := by
  unfold hexV
  repeat' split
  all_goals omega
def figR (s : ByteArray) (wrong : Int) : Nat → Nat → Int → Except Int Int
  | 0, _, x => .ok x
  | n + 1, i, x => if h : i < s.size then (if hexV (byteI s i h) < 0 then .error wrong else figR s wrong n (i + 1) (x * 16 + hexV (byteI s i h))) else .error 10
theorem hex_idx (c : UInt8) : max (Lib.indexByte [48, 49, 50, 51, 52, 53, 54, 55, 56, 57, 97, 98, 99, 100, 101, 102] c) (Lib.indexByte [48, 49, 50, 51, 52, 53, 54, 55, 56, 57, 65, 66, 67, 68, 69, 70] c) = hexV (c.toNat : Int) := by
  have key : ∀ n : Fin 256, max (Lib.indexByte [48, 49, 50, 51, 52, 53, 54, 55, 56, 57, 97, 98, 99, 100, 101, 102] n.1.toUInt8) (Lib.indexByte [48, 49, 50, 51, 52, 53, 54, 55, 56, 57, 65, 66, 67, 68, 69, 70] n.1.toUInt8) = hexV (n.1 : Int) := by decide +kernel
  have := key ⟨c.toNat, c.toNat_lt⟩
  simpa using this
theorem i32_or (x y : Int) (h0 : 0 ≤ x) (h1 : x < 65536) (h2 : 0 ≤ y) (h3 : y < 16) : bits .or .i32 (x * 16) y = x * 16 + y := by
  obtain ⟨a, rfl⟩ := Int.eq_ofNat_of_zero_le h0
  obtain ⟨b, rfl⟩ := Int.eq_ofNat_of_zero_le h2
  have e1 : (BitVec.ofInt 32 ((a : Int) * 16)).toNat = 2 ^ 4 * a := by
    rw [show (a : Int) * 16 = ((2 ^ 4 * a : Nat) : Int) by omega, BitVec.ofInt_natCast, BitVec.toNat_ofNat]; exact Nat.mod_eq_of_lt (by omega)
  have e2 : (BitVec.ofInt 32 (b : Int)).toNat = b := by
    rw [BitVec.ofInt_natCast, BitVec.toNat_ofNat]; exact Nat.mod_eq_of_lt (by omega)
  show IntKind.i32.wrap ((BitVec.ofInt 32 ((a : Int) * 16) ||| BitVec.ofInt 32 (b : Int)).toNat : Int) = _
  rw [BitVec.toNat_or, e1, e2, ← Nat.two_pow_add_eq_or_of_lt (by omega), IntKind.wrap_i32]
  omega
section
variable {B g : Nat} {s : ByteArray} {i : Nat} {out : List Int}
theorem figures_calls (wrong : Int) (w : World) (h : Lit w B g s i out) (hs : s.size ≤ 1000000) (hi : i ≤ s.size) :
    Calls Tryd.prog 53 #[.pointer (some ⟨g, 0, none⟩), .int .i64 wrong] w fun e w' =>
      (∃ x, figR s wrong 4 i 0 = .ok x ∧ e = .returned (.int .i32 x) ∧ 0 ≤ x ∧ x < 65536 ∧ i + 4 ≤ s.size ∧ Lit w' B g s (i + 4) out ∧ Kp B g w w') ∨ (∃ c, figR s wrong 4 i 0 = .error c ∧ Thr B g w c e w') := by
  have H := Aside0.mk h
  clear h
  go_enter Tryd.func53, Tryd.ntmps53
  go_wp2_with fail
  go_loopw [5, 8] (fun v5 v8 wr => ∃ (k : Nat) (x : Int), v5 = .int .i32 x ∧ v8 = .int .i64 (k : Int) ∧ k ≤ 4 ∧ 0 ≤ x ∧ Aside0 (x < 16 ^ k ∧ i + k ≤ s.size ∧ figR s wrong 4 i 0 = figR s wrong (4 - k) (i + k) x) ∧ Aside0 (Lit wr B g s (i + k) out ∧ Kp B g w wr)) (fun _ v8 _ => 4 - (Go.RowKit.intOf v8).toNat)
  case atStart => exact ⟨0, 0, rfl, rfl, by omega, by omega, ⟨by decide, by omega, rfl⟩, ⟨H.out, Kp.refl _ _ _⟩⟩
  case round =>
    obtain ⟨k, x, rfl, rfl, hk, hx0, HX, HL⟩ := hrel
    by_cases h4 : k < 4
    · have HN := Aside0.mk (next_calls wr HL.out.1 hs HX.out.2.1)
      have hx1 : x < 65536 := by
        have := HX.out.1
        have : (16 : Int) ^ k ≤ 16 ^ 3 := by
          rcases (by omega : k = 0 ∨ k = 1 ∨ k = 2 ∨ k = 3) with rfl | rfl | rfl | rfl <;> decide
        omega
      go_wp2_with fail
      refine HN.out.mono ?_
      rintro e w1 (⟨hlt, rfl, hL1, hK⟩ | ⟨hge, hT⟩)
      · have HB := Aside0.mk (hex_idx (s[i + k]'hlt))
        have hK1 := hK B
        clear hK
        have H1 := Aside0.mk (And.intro hL1 hK1)
        have hr := hexV_range (byteI s (i + k) hlt)
        have HS : Aside0 (figR s wrong (4 - k) (i + k) x = if hexV (byteI s (i + k) hlt) < 0 then .error wrong else figR s wrong (4 - (k + 1)) (i + (k + 1)) (x * 16 + hexV (byteI s (i + k) hlt))) := ⟨by
          rw [show 4 - k = (4 - (k + 1)) + 1 by omega, figR, dif_pos hlt]; rfl⟩
        have HP : Aside0 (x * 16 + hexV (byteI s (i + k) hlt) < 16 ^ (k + 1)) := ⟨by
          have := HX.out.1
          rw [Int.pow_succ]; omega⟩
        clear hL1 hK1
        have HI1 : Aside0 (∀ w, Calls Tryd.prog 42 #[.string ⟨#[48, 49, 50, 51, 52, 53, 54, 55, 56, 57, 97, 98, 99, 100, 101, 102]⟩, .int .u8 (byteI s (i + k) hlt)] w fun e w' => e = .returned (.int .i64 (Lib.indexByte [48, 49, 50, 51, 52, 53, 54, 55, 56, 57, 97, 98, 99, 100, 101, 102] (s[i + k]'hlt))) ∧ w' = w) := ⟨fun w => by
          have := Tryd.strings_IndexByte ⟨#[48, 49, 50, 51, 52, 53, 54, 55, 56, 57, 97, 98, 99, 100, 101, 102]⟩ (byteI s (i + k) hlt) w
          rwa [show (byteI s (i + k) hlt).toNat.toUInt8 = s[i + k]'hlt by simp [byteI]] at this⟩
        have HI2 : Aside0 (∀ w, Calls Tryd.prog 42 #[.string ⟨#[48, 49, 50, 51, 52, 53, 54, 55, 56, 57, 65, 66, 67, 68, 69, 70]⟩, .int .u8 (byteI s (i + k) hlt)] w fun e w' => e = .returned (.int .i64 (Lib.indexByte [48, 49, 50, 51, 52, 53, 54, 55, 56, 57, 65, 66, 67, 68, 69, 70] (s[i + k]'hlt))) ∧ w' = w) := ⟨fun w => by
          have := Tryd.strings_IndexByte ⟨#[48, 49, 50, 51, 52, 53, 54, 55, 56, 57, 65, 66, 67, 68, 69, 70]⟩ (byteI s (i + k) hlt) w
          rwa [show (byteI s (i + k) hlt).toNat.toUInt8 = s[i + k]'hlt by simp [byteI]] at this⟩
        have hmax := HB.out
        change _ = hexV (byteI s (i + k) hlt) at hmax
        clear HB
        generalize Lib.indexByte [48, 49, 50, 51, 52, 53, 54, 55, 56, 57, 97, 98, 99, 100, 101, 102] (s[i + k]'hlt) = a1 at *
        generalize Lib.indexByte [48, 49, 50, 51, 52, 53, 54, 55, 56, 57, 65, 66, 67, 68, 69, 70] (s[i + k]'hlt) = a2 at *
        generalize hexV (byteI s (i + k) hlt) = hv at *
        generalize byteI s (i + k) hlt = bc at *
        clear HN
        by_cases hneg : hv < 0
        · have f1 : decide ((0 : Int) ≤ hv) = false := decide_eq_false (by omega)
          go_wp2_with (first
            | (go_at_call 42; (with_reducible refine (HI1.out _).mono ?_); rintro e w' ⟨rfl, rfl⟩)
            | (go_at_call 42; (with_reducible refine (HI2.out _).mono ?_); rintro e w' ⟨rfl, rfl⟩; try rw [hmax])
            | (go_at_call 35; refine (must_no _ _ _).mono ?_; rintro e w' ⟨rfl, rfl⟩))
          exact post_panic rfl (.inr ⟨wrong, by rw [HX.out.2.2, HS.out, if_pos hneg], Thr.after (HL.out.2.trans H1.out.2) (thr_new wrong _)⟩)
        · have f1 : decide ((0 : Int) ≤ hv) = true := decide_eq_true (by omega)
          have hor := i32_or x hv hx0 hx1 (by omega) (by omega)
          go_wp2_with (first
            | (go_at_call 42; (with_reducible refine (HI1.out _).mono ?_); rintro e w' ⟨rfl, rfl⟩)
            | (go_at_call 42; (with_reducible refine (HI2.out _).mono ?_); rintro e w' ⟨rfl, rfl⟩)
            | (go_at_call 35; refine (must_yes _ _ _).mono ?_; rintro e w' ⟨rfl, rfl⟩))
          go_roundw
          case rel => exact ⟨k + 1, x * 16 + hv, by go_num, by go_num, by omega, by omega, ⟨HP.out, by omega, by rw [HX.out.2.2, HS.out, if_neg (by omega)]⟩, ⟨H1.out.1, HL.out.2.trans H1.out.2⟩⟩
          case measure => simp [Go.RowKit.intOf]; omega
      · have HT := Aside0.mk (Thr.after HL.out.2 hT)
        obtain ⟨j, rfl, hT2⟩ := hT
        have HT2 := Aside0.mk hT2
        clear hT2
        go_wp2_with fail
        exact post_panic rfl (.inr ⟨10, by rw [HX.out.2.2, show 4 - k = (4 - (k + 1)) + 1 by omega, figR, dif_neg (by omega)], HT.out⟩)
    · obtain rfl : k = 4 := by omega
      go_wp2_with fail
      go_ret
      exact .inl ⟨x, HX.out.2.2, rfl, hx0, by have := HX.out.1; omega, HX.out.2.1, HL.out.1, HL.out.2⟩
end
end Go.Proofs.YtojhbioljpamhaaDoor.My
