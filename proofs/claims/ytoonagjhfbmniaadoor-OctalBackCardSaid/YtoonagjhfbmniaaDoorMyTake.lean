/- The walks of octal's binary and Take: any field. -/
import Derived.Test.YtoonagjhfbmniaaDoorMyTakeT
import Derived.Test.YtoonagjhfbmniaaDoorMyTakeL
namespace Go.Proofs.YtoonagjhfbmniaaDoor.My
open Go.RowKit Go.Proofs.YtoonagjhfbmniaaDoor.Oct Go.Proofs.YtoonagjhfbmniaaDoorW.PrintWords Go.Proofs.YtoonagjhfbmniaaDoorW.PrintLast Go.Proofs.YtoonagjhfbmniaaDoorW.PrintMore
set_option linter.unusedVariables false
set_option linter.unusedSimpArgs false

/-- What Take hands back. -/
def ansV (a : Option Int × Int) : Value := .tuple #[.int .i64 a.2, errV a.1]
theorem drop_cons (xs : List Int) (i : Nat) (h : i < xs.length) : xs.drop i = xs.getD i 0 :: xs.drop (i + 1) := by
  rw [List.drop_eq_getElem_cons h, List.getD_eq_getElem?_getD, List.getElem?_eq_getElem h]
  rfl
theorem top_range (b : Int) (h0 : 128 ≤ b) (h1 : b < 256) : -64 ≤ top b ∧ top b < 64 := by unfold top; split <;> omega
theorem w64 (x : Int) : wrap64 x = IntKind.i64.wrap x := by rw [IntKind.wrap_i64]; unfold wrap64; rfl
set_option maxHeartbeats 1000000 in
theorem binary_calls (w : World) (A : Option Addr) (n c : Nat) (xs : List Int) (h : Fld w A n c xs) (b0 : Int) (rest : List Int) (hx : xs = b0 :: rest) (hb0 : 128 ≤ b0) :
    Calls Tryd.prog 9 #[.slice A n c] w fun e w' => e = .returned (ansV (ans 1 (bin xs))) ∧ ∃ m, w' = w.drewN m := by
  have hl := h.rd.1
  have hc9 := h.cap
  have hpos : 0 < n := by rw [← hl, hx]; simp
  obtain ⟨ad, rfl, hc⟩ := h.rd.2.2 hpos
  have hb1 : b0 < 256 := (h.byte b0 (by rw [hx]; exact List.mem_cons_self)).2
  have hbin : bin xs = binr rest (top b0) := by rw [hx]; rfl
  have c0 : w.cell? ad = some (.int .u8 b0) := by
    have := hc 0 hpos
    rw [hx] at this
    simpa [Addr.add] using this
  have hand : Go.bits .and .u8 b0 64 = if b0 % 128 < 64 then 0 else 64 := (byte_bits b0 (by omega) hb1).2.1
  have HNot : Aside0 (Go.bits .andNot .u8 b0 128 = b0 % 128) := ⟨(byte_bits b0 (by omega) hb1).2.2⟩
  have HTop := Aside0.mk (top_or b0 hb0 hb1)
  have HRg := Aside0.mk (top_range b0 hb0 hb1)
  have HC : Aside0 (∀ j, j < n → w.cell? (ad.add j) = some (.int .u8 (xs.getD j 0))) := ⟨hc⟩
  have HX : Aside0 (xs = b0 :: rest ∧ xs.length = n ∧ (∀ x ∈ xs, 0 ≤ x ∧ x < 256)) := ⟨hx, hl, h.byte⟩
  have HBin := Aside0.mk hbin
  have hn9 : (n : Int) ≤ 9223372036854775807 := by omega
  clear h hc hx hl hbin hc9
  have hsg : ∃ sg : Int, (sg = 0 ∨ sg = -1) ∧ (Go.bits .and .u8 b0 64 != 0) = decide (sg = -1) ∧ Aside0 (sg * 128 = if b0 % 128 < 64 then 0 else -128) := by
    by_cases hs : b0 % 128 < 64
    · exact ⟨0, .inl rfl, by rw [hand, if_pos hs]; rfl, ⟨by rw [if_pos hs]; rfl⟩⟩
    · exact ⟨-1, .inr rfl, by rw [hand, if_neg hs]; rfl, ⟨by rw [if_neg hs]; rfl⟩⟩
  clear hand
  obtain ⟨sg, hsg, hbit, HS⟩ := hsg
  rcases hsg with rfl | rfl
  all_goals
    replace hbit := hbit.trans (show _ = _ from rfl)
    go_enter Tryd.func9, Tryd.ntmps9
    go_wp2_with fail
    go_loopg [4, 15] n (fun kq v4 v15 wr => ∃ (i : Nat) (x : Int), v4 = .int .i64 x ∧ v15 = .int .i64 i ∧ i ≤ n ∧ -9223372036854775808 ≤ x ∧ x ≤ 9223372036854775807 ∧ Aside0 (kq = n - i) ∧ Aside0 ((i = 0 ∧ (x * 128 = if b0 % 128 < 64 then 0 else -128) ∧ (x = 0 ∨ x = -1)) ∨ (0 < i ∧ binr (xs.drop i) x = binr rest (top b0))) ∧ wr = w)
    case atStart => exact ⟨0, _, rfl, rfl, Nat.zero_le _, by omega, by omega, ⟨rfl⟩, ⟨.inl ⟨rfl, HS.out, by omega⟩⟩, rfl⟩
    case round =>
      obtain ⟨i, x, rfl, rfl, hi, hx0, hx1, HK, HR, rfl⟩ := hrel
      by_cases hlt : i < n
      · have hlt' : (i : Int) < (n : Int) := by omega
        have hci := HC.out i hlt
        rcases HR.out with ⟨rfl, hx128, hxs⟩ | ⟨hi0, hR⟩
        · have hb : xs.getD 0 0 = b0 := by rw [HX.out.1]; rfl
          rw [hb] at hci
          have hN := HNot.out
          have HT2 : Aside0 (Go.bits .or .i64 (x * 128) (b0 % 128) = top b0) := ⟨by rw [hx128]; exact HTop.out⟩
          clear hx128 hb
          go_wp2_with fail
          rw [HT2.out]
          have hr := HRg.out
          go_roundg (n - 1)
          case measure => have := HK.out; omega
          case rel =>
            refine ⟨1, _, rfl, rfl, by omega, by omega, by omega, ⟨rfl⟩, ⟨.inr ⟨by omega, ?_⟩⟩, rfl⟩
            rw [HX.out.1]
            rfl
        · have hb := HX.out.2.2 (xs.getD i 0) (by rw [List.getD_eq_getElem?_getD, List.getElem?_eq_getElem (by rw [HX.out.2.1]; exact hlt)]; exact List.getElem_mem _)
          have HD := Aside0.mk (drop_cons xs i (by rw [HX.out.2.1]; exact hlt))
          generalize xs.getD i 0 = b at *
          have HRR := Aside0.mk hR
          clear hR
          have hor : Go.bits .or .i64 (wrap64 (x * 256)) b = wrap64 (x * 256 + b) := by
            have h1 := next_or x b hx0 hx1 hb.1 hb.2
            rw [← w64, ← w64] at h1
            exact h1
          by_cases hrg : -36028797018963968 ≤ x ∧ x < 36028797018963968
          · have hy := next_yes x b hb.1 hb.2 hrg
            rw [← w64] at hy
            have hor2 : Go.bits .or .i64 (wrap64 (x * 256)) b = 256 * x + b := hor.trans hy.1
            have hq : ((256 * x + b) / 256 != x) = false := by rw [hy.2]; simp
            clear hor hy
            have HRg2 := Aside0.mk hrg
            have HB2 := Aside0.mk hb
            clear hrg
            go_wp2_with fail
            have hb := HB2.out
            have hrg := HRg2.out
            have e1 : ((i : Int) + 1) = ((i + 1 : Nat) : Int) := by omega
            rw [e1]
            go_roundg (n - (i + 1))
            case measure => have := HK.out; omega
            case rel =>
              refine ⟨i + 1, _, rfl, rfl, by omega, by omega, by omega, ⟨rfl⟩, ⟨.inr ⟨by omega, ?_⟩⟩, rfl⟩
              rw [← HRR.out, HD.out]
              show _ = if _ then _ else _
              rw [if_pos hrg]
          · have hq0 := next_no x b hx0 hx1 hb.1 hb.2 hrg
            rw [← w64] at hq0
            have hq : (wrap64 (x * 256 + b) / 256 != x) = true := by simpa using hq0
            have HRg2 := Aside0.mk hrg
            clear hrg hq0
            go_wp2_with fail
            go_ret2
            refine ⟨?_, 0, (World.drewN_zero _).symm⟩
            rw [HBin.out, ← HRR.out, HD.out]
            show _ = Ending.returned (ansV (ans 1 (if _ then _ else _)))
            rw [if_neg HRg2.out]
            rfl
      · have hlt' : ¬ (i : Int) < (n : Int) := by omega
        have hR : binr rest (top b0) = some x := by
          rcases HR.out with ⟨rfl, _⟩ | ⟨_, hR⟩
          · omega
          · rw [List.drop_eq_nil_of_le (by rw [HX.out.2.1]; omega)] at hR
            exact hR.symm
        have HRR := Aside0.mk hR
        clear hR
        go_wp2
        go_ret2
        refine ⟨?_, 0, (World.drewN_zero _).symm⟩
        rw [HBin.out, HRR.out]
        rfl

theorem fin_sets : ∀ b : Fin 256, ([32] : List UInt8).contains (UInt8.ofNat b.val) = decide (b.val = 32) ∧ ([48, 49, 50, 51, 52, 53, 54, 55] : List UInt8).contains (UInt8.ofNat b.val) = decide (48 ≤ b.val ∧ b.val ≤ 55) ∧ ([32, 0] : List UInt8).contains (UInt8.ofNat b.val) = decide (b.val = 32 ∨ b.val = 0) := by decide +kernel
theorem sets (x : Int) (h0 : 0 ≤ x) (h1 : x < 256) : ([32] : List UInt8).contains (UInt8.ofNat x.toNat) = spc x ∧ ([48, 49, 50, 51, 52, 53, 54, 55] : List UInt8).contains (UInt8.ofNat x.toNat) = dig x ∧ ([32, 0] : List UInt8).contains (UInt8.ofNat x.toNat) = wht x := by
  obtain ⟨n, rfl⟩ := Int.eq_ofNat_of_zero_le h0
  obtain ⟨a1, a2, a3⟩ := fin_sets ⟨n, by omega⟩
  simp only [Int.toNat_natCast]
  refine ⟨a1.trans ?_, a2.trans ?_, a3.trans ?_⟩
  · exact decide_eq_decide.2 (by simp; omega)
  · exact decide_eq_decide.2 (by simp; omega)
  · exact decide_eq_decide.2 (by simp; omega)
theorem small_set (l : List UInt8) (h : ∀ b ∈ l, b.toNat < 128) : ∀ (j : Nat) b, l[j]? = some b → b.toNat < 128 := fun j b hb => h b (List.mem_of_getElem? hb)
theorem cut1 (w : World) (A : Option Addr) (n c : Nat) (xs : List Int) (cs : ByteArray) (hcs : cs = ⟨#[32]⟩) (h : Fld w A n c xs) :
    Calls Tryd.prog 10 #[.slice A n c, .string cs] w fun e w' => (∃ A' c', e = .returned (.slice A' (xs.dropWhile spc).length c') ∧ Fld w' A' (xs.dropWhile spc).length c' (xs.dropWhile spc)) ∧ Below w.heap.size w w' := by
  subst hcs
  exact trimLeft_calls ⟨#[32]⟩ spc (by decide) (small_set _ (by decide)) (fun x h0 h1 => (sets x h0 h1).1) w A n c xs h
theorem cut2 (w : World) (A : Option Addr) (n c : Nat) (xs : List Int) (cs : ByteArray) (hcs : cs = ⟨#[48, 49, 50, 51, 52, 53, 54, 55]⟩) (h : Fld w A n c xs) :
    Calls Tryd.prog 10 #[.slice A n c, .string cs] w fun e w' => (∃ A' c', e = .returned (.slice A' (xs.dropWhile dig).length c') ∧ Fld w' A' (xs.dropWhile dig).length c' (xs.dropWhile dig)) ∧ Below w.heap.size w w' := by
  subst hcs
  exact trimLeft_calls ⟨#[48, 49, 50, 51, 52, 53, 54, 55]⟩ dig (by decide) (small_set _ (by decide)) (fun x h0 h1 => (sets x h0 h1).2.1) w A n c xs h
theorem cut3 (w : World) (A : Option Addr) (n c : Nat) (xs : List Int) (cs : ByteArray) (hcs : cs = ⟨#[32, 0]⟩) (h : Fld w A n c xs) :
    Calls Tryd.prog 11 #[.slice A n c, .string cs] w fun e w' => (∃ A' n' c', e = .returned (.slice A' n' c') ∧ decide ((0 : Int) < n') = !xs.all wht) ∧ Below w.heap.size w w' := by
  subst hcs
  exact trim_calls ⟨#[32, 0]⟩ wht (by decide) (small_set _ (by decide)) (fun x h0 h1 => (sets x h0 h1).2.2) w A n c xs h
theorem tw_all (p : Int → Bool) : ∀ (l : List Int), ∀ b ∈ l.takeWhile p, p b = true := by
  intro l
  induction l with
  | nil => intro b h; cases h
  | cons x l ih =>
    intro b h
    cases hp : p x with
    | true =>
      rw [List.takeWhile_cons_of_pos hp] at h
      rcases List.mem_cons.1 h with rfl | h
      · exact hp
      · exact ih b h
    | false =>
      rw [List.takeWhile_cons_of_neg (by simp [hp])] at h
      cases h
/-- The two pieces of a text of figures. -/
theorem two_pieces {w : World} {A : Option Addr} {n c : Nat} {r : List Int} (h : Fld w A n c r) :
    (∃ A', (∀ W : World, (Instr.slice 24 (.slice A n c) (some (.int .i64 ((r.length : Int) - ((r.dropWhile dig).length : Int)))) none none).run Tryd.prog W = .ok (.slice A' (r.dropWhile dig).length (c - (r.takeWhile dig).length)) W) ∧
      (∀ w : World, Fld w A n c r → Fld w A' (r.dropWhile dig).length (c - (r.takeWhile dig).length) (r.dropWhile dig))) ∧
    (∀ W : World, (Instr.slice 24 (.slice A n c) none (some (.int .i64 ((r.length : Int) - ((r.dropWhile dig).length : Int)))) none).run Tryd.prog W = .ok (.slice A (r.takeWhile dig).length c) W) ∧
      (∀ w : World, Fld w A n c r → Fld w A (r.takeWhile dig).length c (r.takeWhile dig)) := by
  have hl := h.rd.1
  subst hl
  have hsum : (r.takeWhile dig).length + (r.dropWhile dig).length = r.length := by rw [← List.length_append, List.takeWhile_append_dropWhile]
  have e1 : r.drop (r.takeWhile dig).length = r.dropWhile dig := by
    have := List.drop_left (l₁ := r.takeWhile dig) (l₂ := r.dropWhile dig)
    rwa [List.takeWhile_append_dropWhile] at this
  have e2 : r.take (r.takeWhile dig).length = r.takeWhile dig := by
    have := List.take_left (l₁ := r.takeWhile dig) (l₂ := r.dropWhile dig)
    rwa [List.takeWhile_append_dropWhile] at this
  have ej : ((r.length : Int) - ((r.dropWhile dig).length : Int)) = ((r.takeWhile dig).length : Nat) := by omega
  obtain ⟨i0, hi, hz⟩ := Option.map_eq_some_iff.1 info_u8
  simp only [Prod.mk.injEq] at hz
  rw [ej]
  obtain ⟨A', a1, a2, a3⟩ := print_drop_of (P := Tryd.prog) (Value.int .u8) 0 24 5 .i64 Tryd.underlying24 hi hz.2.1 A c r ((r.takeWhile dig).length : Nat) (by omega) (by omega) h.cap.1
  obtain ⟨b1, b2, b3⟩ := print_take_of (P := Tryd.prog) (Value.int .u8) 0 24 5 .i64 Tryd.underlying24 hi hz.2.1 A c r ((r.takeWhile dig).length : Nat) (by omega) (by omega) h.cap.1
  rw [Int.toNat_natCast, e1] at a1 a2 a3
  rw [Int.toNat_natCast, e2] at b1 b2 b3
  exact ⟨⟨A', a1, fun w k => ⟨a2 w k.rd, fun x hx => k.byte x ((List.dropWhile_suffix _).mem hx), a3, by have := k.cap; omega⟩⟩, b1, fun w k => ⟨b2 w k.rd, fun x hx => k.byte x ((List.takeWhile_prefix _).mem hx), b3, k.cap.2⟩⟩

set_option maxHeartbeats 2000000 in
theorem take_calls (w : World) (A : Option Addr) (n c : Nat) (xs : List Int) (h : Fld w A n c xs) :
    Calls Tryd.prog 7 #[.slice A n c] w fun e w' => e = .returned (ansV (takeA xs)) ∧ Below w.heap.size w w' := by
  have hl := h.rd.1
  have hc9 := h.cap
  have hn9 : (n : Int) ≤ 9223372036854775807 := by omega
  have HF := Aside0.mk h
  cases hx : xs with
  | nil =>
    obtain rfl : n = 0 := by rw [← hl, hx]; rfl
    clear h hl
    go_enter Tryd.func7, Tryd.ntmps7
    go_wp2_with fail
    go_ret2
    exact ⟨rfl, Below.refl _ _⟩
  | cons b0 rest =>
    have hpos : 0 < n := by rw [← hl, hx]; simp
    obtain ⟨ad, rfl, hc⟩ := h.rd.2.2 hpos
    have hb0 := h.byte b0 (by rw [hx]; exact List.mem_cons_self)
    have c0 : w.cell? ad = some (.int .u8 b0) := by
      have := hc 0 hpos
      rw [hx] at this
      simpa [Addr.add] using this
    have hand : Go.bits .and .u8 b0 128 = if 128 ≤ b0 then 128 else 0 := (byte_bits b0 hb0.1 hb0.2).1
    rw [← hx]
    by_cases h1 : 128 ≤ b0
    · have hT : takeA xs = ans 1 (bin xs) := by rw [hx]; show (if _ then _ else _) = _; rw [if_pos h1]
      rw [hT]
      rw [if_pos h1] at hand
      have HB : Aside0 (Calls Tryd.prog 9 #[.slice (some ad) n c] w fun e w' => e = .returned (ansV (ans 1 (bin xs))) ∧ ∃ m, w' = w.drewN m) := ⟨binary_calls w _ n c xs h b0 rest hx h1⟩
      generalize ans 1 (bin xs) = a at HB ⊢
      obtain ⟨ae, av⟩ := a
      clear h hl hx hc h1 hT HF
      unfold ansV
      unfold ansV at HB
      simp only at HB ⊢
      go_enter Tryd.func7, Tryd.ntmps7
      go_wp2_with (go_at_call 9; refine (HB.out).mono ?_; rintro e w' ⟨rfl, m, rfl⟩)
      go_ret2
      exact ⟨rfl, rfl, rfl, rfl, Nat.le_refl _, fun _ _ => rfl⟩
    · rw [if_neg h1] at hand
      have hT : takeA xs = if ((xs.dropWhile spc).dropWhile dig).all wht then ans 1 (oct ((xs.dropWhile spc).takeWhile dig) 0) else (some 2, 0) := by rw [hx]; show (if _ then _ else _) = _; rw [if_neg h1]
      have HT := Aside0.mk hT
      have HW1 : Aside0 (∀ (w : World) (A : Option Addr) (n c : Nat) (xs : List Int) (cs : ByteArray) (hcs : cs = ⟨#[32]⟩) (h : Fld w A n c xs), Calls Tryd.prog 10 #[.slice A n c, .string cs] w fun e w' => (∃ A' c', e = .returned (.slice A' (xs.dropWhile spc).length c') ∧ Fld w' A' (xs.dropWhile spc).length c' (xs.dropWhile spc)) ∧ Below w.heap.size w w') := ⟨cut1⟩
      clear h hl hx hc h1 hT
      go_enter Tryd.func7, Tryd.ntmps7
      go_wp2_with fail
      refine (cut1 w (some ad) n c xs _ rfl HF.out).mono ?_
      rintro e w1 ⟨⟨A1, c1, rfl, hF1⟩, hb1⟩
      have HF1 := Aside0.mk hF1
      have HB1 := Aside0.mk hb1
      have hc1 := hF1.cap
      generalize xs.dropWhile spc = r at *
      clear hF1 hb1 hand c0
      obtain ⟨⟨A2, k2, p2⟩, k3, p3⟩ := two_pieces HF1.out
      have P2 := Aside0.mk p2
      have P3 := Aside0.mk p3
      clear p2 p3
      have hsum : (r.takeWhile dig).length + (r.dropWhile dig).length = r.length := by rw [← List.length_append, List.takeWhile_append_dropWhile]
      have hle : (r.dropWhile dig).length ≤ r.length := by omega
      have hr9 : (r.length : Int) ≤ 9223372036854775807 := by omega
      go_wp2_with fail
      refine (cut2 w1 A1 _ c1 r _ rfl HF1.out).mono ?_
      rintro e w2 ⟨⟨A3, c3, rfl, hF3⟩, hb2⟩
      have HB2 := Aside0.mk hb2
      have HF2 := Aside0.mk (HF1.out.below hb2)
      clear hF3 hb2 HF1
      go_wp2_with fail
      refine (cut3 w2 A2 _ _ (r.dropWhile dig) _ rfl (P2.out w2 HF2.out)).mono ?_
      rintro e w3 ⟨⟨A4, n4, c4, rfl, hall⟩, hb3⟩
      have HB : Aside0 (Below w.heap.size w w3) := ⟨below_then (below_then HB1.out HB1.out.size HB2.out) (Nat.le_trans HB1.out.size HB2.out.size) hb3⟩
      have HF3 := Aside0.mk (P3.out w3 (HF2.out.below hb3))
      clear hb3 HB1 HB2 HF2 P2 P3
      cases hw : (r.dropWhile dig).all wht with
      | false =>
        rw [hw] at hall
        have HT2 : Aside0 (takeA xs = (some 2, 0)) := ⟨by rw [HT.out, hw]; rfl⟩
        have h4 : (0 : Int) < n4 := of_decide_eq_true hall
        clear hw hall
        go_wp2_with fail
        go_ret2
        refine ⟨?_, HB.out⟩
        rw [HT2.out]
        rfl
      | true =>
        rw [hw] at hall
        have HT2 : Aside0 (takeA xs = ans 1 (oct (r.takeWhile dig) 0)) := ⟨by rw [HT.out, hw]; rfl⟩
        have h4 : ¬ (0 : Int) < n4 := of_decide_eq_false hall
        obtain rfl : n4 = 0 := by omega
        clear hw hall
        go_wp2_with fail
        have hdig : ∀ b ∈ r.takeWhile dig, 48 ≤ b ∧ b ≤ 55 := fun b hb => of_decide_eq_true (tw_all dig r b hb)
        have hl3 := HF3.out.rd.1
        have hm9 : ((r.takeWhile dig).length : Int) ≤ 9223372036854775807 := by omega
        generalize r.takeWhile dig = d at *
        have HDg := Aside0.mk hdig
        clear hdig hsum hle hr9 hl3 k2 k3 hc1
        go_loopg [6, 41] d.length (fun kq v6 v41 wr => ∃ (i : Nat) (x : Int), v6 = .int .i64 x ∧ v41 = .int .i64 i ∧ i ≤ d.length ∧ 0 ≤ x ∧ x ≤ 9223372036854775807 ∧ Aside0 (kq = d.length - i) ∧ Aside0 (oct (d.drop i) x = oct d 0) ∧ wr = w3)
        case atStart => exact ⟨0, 0, rfl, rfl, Nat.zero_le _, by omega, by omega, ⟨rfl⟩, ⟨rfl⟩, rfl⟩
        case round =>
          obtain ⟨i, x, rfl, rfl, hi, hx0, hx1, HK, HR, rfl⟩ := hrel
          by_cases hlt : i < d.length
          · have hlt' : (i : Int) < (d.length : Int) := by omega
            obtain ⟨ad1, rfl, hcd⟩ := HF3.out.rd.2.2 (by omega)
            have hci := hcd i hlt
            have hb := HDg.out (d.getD i 0) (by rw [List.getD_eq_getElem?_getD, List.getElem?_eq_getElem hlt]; exact List.getElem_mem _)
            have HD := Aside0.mk (drop_cons d i hlt)
            have HO : Aside0 (0 ≤ x → x ≤ 1152921504606846975 → Go.bits .or .i64 (x * 8) (d.getD i 0 - 48) = 8 * x + (d.getD i 0 - 48)) := ⟨fun h0 h1 => oct_or x _ h0 h1 hb.1 hb.2⟩
            clear hcd
            generalize d.getD i 0 = b at *
            by_cases hbig : 1152921504606846975 < x
            · have HBg := Aside0.mk hbig
              go_wp2_with fail
              go_ret2
              refine ⟨?_, HB.out⟩
              rw [HT2.out, ← HR.out, HD.out]
              show _ = Ending.returned (ansV (ans 1 (if _ then _ else _)))
              rw [if_pos HBg.out]
              rfl
            · have hor := HO.out hx0 (by omega)
              have HBg := Aside0.mk hbig
              go_wp2_with fail
              have e1 : ((i : Int) + 1) = ((i + 1 : Nat) : Int) := by omega
              rw [e1]
              have hbg := HBg.out
              go_roundg (d.length - (i + 1))
              case measure => have := HK.out; omega
              case rel =>
                refine ⟨i + 1, _, rfl, rfl, by omega, by omega, by omega, ⟨rfl⟩, ⟨?_⟩, rfl⟩
                rw [← HR.out, HD.out]
                show _ = if _ then _ else _
                rw [if_neg (by omega)]
          · have hlt' : ¬ (i : Int) < (d.length : Int) := by omega
            have hR : oct d 0 = some x := by
              have := HR.out
              rw [List.drop_eq_nil_of_le (by omega)] at this
              exact this.symm
            have HRR := Aside0.mk hR
            clear hR
            go_wp2
            go_ret2
            refine ⟨?_, HB.out⟩
            rw [HT2.out, HRR.out]
            rfl
end Go.Proofs.YtoonagjhfbmniaaDoor.My
