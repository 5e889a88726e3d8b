/- The walks of octal's Fits and Put. -/
import Derived.Test.YtoonagjhfbmniaaDoorMyBytes
import Derived.Test.YtoonagjhfbmniaaDoorMyOctP
namespace Go.Proofs.YtoonagjhfbmniaaDoor.My
open Go.RowKit Go.Proofs.YtoonagjhfbmniaaDoor.Oct Go.Proofs.YtoonagjhfbmniaaDoorW.PrintWords Go.Proofs.YtoonagjhfbmniaaDoorW.PrintLast Go.Proofs.YtoonagjhfbmniaaDoorW.PrintMore

theorem nar_false {n x : Int} (h : ¬ (0 < n ∧ 0 ≤ x ∧ (21 < n ∨ x / 2 ^ (3 * (n - 1)).toNat = 0))) : nar n x = false := decide_eq_false h
theorem nar_true {n x : Int} (h : 0 < n ∧ 0 ≤ x ∧ (21 < n ∨ x / 2 ^ (3 * (n - 1)).toNat = 0)) : nar n x = true := decide_eq_true h

theorem narrow_calls (n x : Int) (w : World) : Calls Tryd.prog 8 #[.int .i64 n, .int .i64 x] w fun e w' => e = .returned (.bool (nar n x)) ∧ w = w' := by
  by_cases h1 : 0 < n
  · by_cases h2 : 0 ≤ x
    · by_cases h3 : 21 < n
      · rw [nar_true ⟨h1, h2, .inl h3⟩]
        go_enter Tryd.func8, Tryd.ntmps8
        go_wp2
        go_ret
        exact ⟨rfl, rfl⟩
      · have h3' : n ≤ 21 := by omega
        have hw : IntKind.i64.wrap (3 * (n - 1)) = 3 * (n - 1) := by rw [IntKind.wrap_i64]; omega
        by_cases h4 : x / 2 ^ (3 * (n - 1)).toNat = 0
        · rw [nar_true ⟨h1, h2, .inr h4⟩]
          have h5 : (x / 2 ^ (3 * (n - 1)).toNat == 0) = true := beq_iff_eq.2 h4
          clear h4 hw
          go_enter Tryd.func8, Tryd.ntmps8
          go_wp2
          go_ret
          exact ⟨rfl, rfl⟩
        · rw [nar_false (fun h => h.2.2.elim h3 h4)]
          have h5 : (x / 2 ^ (3 * (n - 1)).toNat == 0) = false := beq_eq_false_iff_ne.2 h4
          clear h4 hw
          go_enter Tryd.func8, Tryd.ntmps8
          go_wp2
          go_ret
          exact ⟨rfl, rfl⟩
    · rw [nar_false (fun h => h2 h.2.1)]
      go_enter Tryd.func8, Tryd.ntmps8
      go_wp2
      go_ret
      exact ⟨rfl, rfl⟩
  · rw [nar_false (fun h => h1 h.1)]
    go_enter Tryd.func8, Tryd.ntmps8
    go_wp2
    go_ret
    exact ⟨rfl, rfl⟩

theorem fits_calls (n x : Int) (w : World) : Calls Tryd.prog 5 #[.int .i64 n, .int .i64 x] w fun e w' => e = .returned (.bool (fit n x)) ∧ w = w' := by
  obtain ⟨b, hb⟩ : ∃ b, nar n x = b := ⟨_, rfl⟩
  have HN : Aside0 (∀ w : World, Calls Tryd.prog 8 #[.int .i64 n, .int .i64 x] w fun e w' => e = .returned (.bool b) ∧ w = w') := ⟨fun w => hb ▸ narrow_calls n x w⟩
  cases b with
  | true =>
    have hf : fit n x = decide (0 < n) := by unfold fit; rw [hb]; rfl
    rw [hf]
    clear hf hb
    go_enter Tryd.func5, Tryd.ntmps5
    go_wp2_with (go_at_call 8; refine (HN.out _).mono ?_; rintro e w' ⟨rfl, rfl⟩)
    go_ret
    exact ⟨rfl, rfl⟩
  | false =>
    by_cases h9 : 9 ≤ n
    · have hf : fit n x = decide (0 < n) := by unfold fit; rw [hb, decide_eq_true h9]; rfl
      rw [hf]
      clear hf hb
      go_enter Tryd.func5, Tryd.ntmps5
      go_wp2_with (go_at_call 8; refine (HN.out _).mono ?_; rintro e w' ⟨rfl, rfl⟩)
      go_ret
      exact ⟨rfl, rfl⟩
    · by_cases h2 : n < 2
      · have hf : fit n x = false := by unfold fit; rw [hb, decide_eq_false h9, if_pos h2]; rfl
        rw [hf]
        clear hf hb
        go_enter Tryd.func5, Tryd.ntmps5
        go_wp2_with (go_at_call 8; refine (HN.out _).mono ?_; rintro e w' ⟨rfl, rfl⟩)
        go_ret
        exact ⟨rfl, rfl⟩
      · have hf : fit n x = decide (x / 2 ^ (8 * n - 2).toNat = 0 ∨ x / 2 ^ (8 * n - 2).toNat = -1) := by unfold fit; rw [hb, decide_eq_false h9, if_neg h2]; rfl
        have HF := Aside0.mk hf
        rw [hf]
        have h9' : n ≤ 8 := by omega
        have h2' : 2 ≤ n := by omega
        clear hf hb h9 h2
        generalize hq : x / 2 ^ (8 * n - 2).toNat = q
        have HQ := Aside0.mk hq
        by_cases hq0 : q = 0
        · have b1 : (x / 2 ^ (8 * n - 2).toNat == 0) = true := by rw [hq, hq0]; rfl
          subst hq0
          clear hq
          go_enter Tryd.func5, Tryd.ntmps5
          go_wp2_with (go_at_call 8; refine (HN.out _).mono ?_; rintro e w' ⟨rfl, rfl⟩)
          go_ret
          exact ⟨rfl, rfl⟩
        · have b1 : (x / 2 ^ (8 * n - 2).toNat == 0) = false := by rw [hq]; exact beq_eq_false_iff_ne.2 hq0
          have HD : Aside0 ((x / 2 ^ (8 * n - 2).toNat == -1) = decide (q = 0 ∨ q = -1)) := ⟨by rw [hq]; by_cases h : q = -1 <;> simp [h, hq0]⟩
          clear hq hq0
          go_enter Tryd.func5, Tryd.ntmps5
          go_wp2_with (go_at_call 8; refine (HN.out _).mono ?_; rintro e w' ⟨rfl, rfl⟩)
          go_ret
          exact ⟨congrArg (fun b => Ending.returned (.bool b)) HD.out, rfl⟩

theorem put_no (A : Option Addr) (n c : Nat) (x : Int) (w : World) (h : fit n x = false) :
    Calls Tryd.prog 6 #[.slice A n c, .int .i64 x] w fun e w' => e = .returned (errV (some 3)) ∧ w = w' := by
  have HF : Aside0 (∀ w : World, Calls Tryd.prog 5 #[.int .i64 n, .int .i64 x] w fun e w' => e = .returned (.bool false) ∧ w = w') := ⟨fun w => h ▸ fits_calls n x w⟩
  clear h
  go_enter Tryd.func6, Tryd.ntmps6
  go_wp2_with (go_at_call 5; refine (HF.out _).mono ?_; rintro e w' ⟨rfl, rfl⟩)
  go_ret
  exact ⟨rfl, rfl⟩

theorem fill_of_nar {n : Nat} {x : Int} (l : List Int) (off : Nat) (h : nar n x = true) (hn : 0 < n) (hl : off + n ≤ l.length) :
    fill g8 (· / 8) off (n - 1) x (l.set (off + (n - 1)) 0) = putAt l off n x := by
  unfold fill putAt putB
  rw [if_pos h, set_take _ _ _ _ (by omega), set_drop _ _ _ (by omega), show off + (n - 1) + 1 = off + n from by omega]
  simp
theorem fill_of_wide {n : Nat} {x : Int} (l : List Int) (off : Nat) (h : nar n x = false) (hn : 0 < n) (hl : off + n ≤ l.length) :
    (fill g256 (· / 256) off n x l).set off (Go.bits .or .u8 ((fill g256 (· / 256) off n x l).getD off 0) 128) = putAt l off n x := by
  unfold fill putAt putB
  rw [if_neg (by simp [h])]
  have hd := ds_length g256 (· / 256) n x
  generalize ds g256 (· / 256) n x = d at hd
  have ht : (l.take off).length = off := by rw [List.length_take]; omega
  rw [List.append_assoc, List.append_assoc]
  have hg : (l.take off ++ (d ++ l.drop (off + n))).getD off 0 = d.getD 0 0 := by
    rw [List.getD_eq_getElem?_getD, List.getElem?_append_right (by omega), ht, Nat.sub_self, List.getElem?_append_left (by omega), List.getD_eq_getElem?_getD]
  rw [hg, List.set_append_right _ _ (by omega), ht, Nat.sub_self, List.set_append_left _ _ (by omega)]

set_option maxHeartbeats 1000000 in
theorem put_yes (g off n c : Nat) (x : Int) (l : List Int) (w : World) (h : fit n x = true) (hn : 0 < n) (hn2 : n ≤ 1000000) (hl : off + n ≤ l.length) (hx0 : -9223372036854775808 ≤ x) (hx1 : x ≤ 9223372036854775807) (hr : Row w g l) :
    Calls Tryd.prog 6 #[.slice (some ⟨g, off, none⟩) n c, .int .i64 x] w fun e w' => e = .returned (errV none) ∧ w.grownBy w' (some g) ∧ Row w' g (putAt l off n x) := by
  have HF : Aside0 (∀ w : World, Calls Tryd.prog 5 #[.int .i64 n, .int .i64 x] w fun e w' => e = .returned (.bool true) ∧ w = w') := ⟨fun w => h ▸ fits_calls n x w⟩
  have hn1 : 1 ≤ n := hn
  cases hb : nar n x with
  | true =>
    have HN : Aside0 (∀ w : World, Calls Tryd.prog 8 #[.int .i64 n, .int .i64 x] w fun e w' => e = .returned (.bool true) ∧ w = w') := ⟨fun w => hb ▸ narrow_calls n x w⟩
    have HT := Aside0.mk (fill_of_nar l off hb hn hl)
    have hx := (of_decide_eq_true hb).2.1
    have hc := hr.cell (off + (n - 1)) (by omega)
    have hf := hr.frozen (off + (n - 1)) (by omega)
    have HR := Aside0.mk (hr.set (off + (n - 1)) 0)
    have HG := Aside0.mk (grown_set w g (off + (n - 1)) (.int .u8 0))
    have HL := Aside0.mk hl
    obtain ⟨m, rfl⟩ : ∃ m, n = m + 1 := ⟨n - 1, by omega⟩
    simp only [Nat.add_sub_cancel] at hc hf HR HG HT
    clear h hb hr hl hn hn1 hx0
    go_enter Tryd.func6, Tryd.ntmps6
    go_wp2_with (first
      | (go_at_call 5; refine (HF.out _).mono ?_; rintro e w' ⟨rfl, rfl⟩)
      | (go_at_call 8; refine (HN.out _).mono ?_; rintro e w' ⟨rfl, rfl⟩))
    go_loopg [1, 6] m (fun kq v1 v6 wr => ∃ (j : Nat) (xc : Int) (lc : List Int), v1 = .int .i64 xc ∧ v6 = .int .i64 ((j : Int) - 1) ∧ j ≤ m ∧ 0 ≤ xc ∧ xc ≤ 9223372036854775807 ∧ Aside0 (kq = j) ∧ Aside0 (fill g8 (· / 8) off j xc lc = putAt l off (m + 1) x ∧ lc.length = l.length) ∧ Row wr g lc ∧ Aside0 (w.grownBy wr (some g)))
    case atStart => exact ⟨m, x, _, rfl, by go_num, Nat.le_refl _, hx, hx1, ⟨rfl⟩, ⟨HT.out, by simp⟩, HR.out, HG⟩
    case round =>
      obtain ⟨j, xc, lc, rfl, rfl, hj, hc0, hc1, HK, HX, HRc, HGc⟩ := hrel
      cases j with
      | succ j =>
        have hlen : off + j < lc.length := by rw [HX.out.2]; have := HL.out; omega
        have hc := HRc.cell (off + j) hlen
        have hf := HRc.frozen (off + j) hlen
        have ha := and7 xc hc0 hc1
        have HS := Aside0.mk (HRc.set (off + j) (g8 xc))
        have HG1 := Aside0.mk (grown_trans HGc.out (grown_set wr g (off + j) (.int .u8 (g8 xc))))
        have HE := Aside0.mk (fill_step g8 (· / 8) off j xc lc hlen)
        have e1 : ((j + 1 : Nat) : Int) - 1 = (j : Int) := by omega
        rw [e1]
        clear hlen e1
        go_wp2
        go_roundg j
        case measure => have := HK.out; omega
        case rel =>
          refine ⟨j, xc / 8, lc.set (off + j) (g8 xc), rfl, by go_num, by omega, by omega, by omega, ⟨rfl⟩, ⟨?_, ?_⟩, ?_, ?_⟩
          rotate_left 2
          · exact HS.out
          · exact HG1
          · rw [← HE.out]; exact HX.out.1
          · simp [HX.out.2]
      | zero =>
        go_wp2
        go_ret
        have := HX.out.1
        rw [fill_zero] at this
        exact ⟨rfl, HGc.out, this ▸ HRc⟩
  | false =>
    have HN : Aside0 (∀ w : World, Calls Tryd.prog 8 #[.int .i64 n, .int .i64 x] w fun e w' => e = .returned (.bool false) ∧ w = w') := ⟨fun w => hb ▸ narrow_calls n x w⟩
    have HT := Aside0.mk (fill_of_wide l off hb hn hl)
    have HL := Aside0.mk hl
    have HR0 := Aside0.mk hr
    clear h hb hr hl
    go_enter Tryd.func6, Tryd.ntmps6
    go_wp2_with (first
      | (go_at_call 5; refine (HF.out _).mono ?_; rintro e w' ⟨rfl, rfl⟩)
      | (go_at_call 8; refine (HN.out _).mono ?_; rintro e w' ⟨rfl, rfl⟩))
    go_loopg [1, 7] n (fun kq v1 v7 wr => ∃ (j : Nat) (xc : Int) (lc : List Int), v1 = .int .i64 xc ∧ v7 = .int .i64 ((j : Int) - 1) ∧ j ≤ n ∧ -9223372036854775808 ≤ xc ∧ xc ≤ 9223372036854775807 ∧ Aside0 (kq = j) ∧ Aside0 (fill g256 (· / 256) off j xc lc = fill g256 (· / 256) off n x l ∧ lc.length = l.length) ∧ Row wr g lc ∧ Aside0 (w.grownBy wr (some g)))
    case atStart => exact ⟨n, x, l, rfl, by go_num, Nat.le_refl _, hx0, hx1, ⟨rfl⟩, ⟨rfl, rfl⟩, HR0.out, ⟨grown_refl _ _⟩⟩
    case round =>
      obtain ⟨j, xc, lc, rfl, rfl, hj, hc0, hc1, HK, HX, HRc, HGc⟩ := hrel
      cases j with
      | succ j =>
        have hlen : off + j < lc.length := by rw [HX.out.2]; have := HL.out; omega
        have hc := HRc.cell (off + j) hlen
        have hf := HRc.frozen (off + j) hlen
        have HS := Aside0.mk (HRc.set (off + j) (g256 xc))
        have HG1 := Aside0.mk (grown_trans HGc.out (grown_set wr g (off + j) (.int .u8 (g256 xc))))
        have HE := Aside0.mk (fill_step g256 (· / 256) off j xc lc hlen)
        have e1 : ((j + 1 : Nat) : Int) - 1 = (j : Int) := by omega
        rw [e1]
        clear hlen e1
        go_wp2
        go_roundg j
        case measure => have := HK.out; omega
        case rel =>
          refine ⟨j, xc / 256, lc.set (off + j) (g256 xc), rfl, by go_num, by omega, by omega, by omega, ⟨rfl⟩, ⟨?_, ?_⟩, ?_, ?_⟩
          rotate_left 2
          · exact HS.out
          · exact HG1
          · rw [← HE.out]; exact HX.out.1
          · simp [HX.out.2]
      | zero =>
        have hlen : off < lc.length := by rw [HX.out.2]; have := HL.out; omega
        have hc := HRc.cell off hlen
        have hf := HRc.frozen off hlen
        have HS := Aside0.mk (HRc.set off (Go.bits .or .u8 (lc.getD off 0) 128))
        have HG1 := Aside0.mk (grown_trans HGc.out (grown_set wr g off (.int .u8 (Go.bits .or .u8 (lc.getD off 0) 128))))
        have HE : Aside0 (lc.set off (Go.bits .or .u8 (lc.getD off 0) 128) = putAt l off n x) := ⟨by
          have h1 := HX.out.1
          rw [fill_zero] at h1
          rw [h1]; exact HT.out⟩
        clear hlen
        generalize lc.getD off 0 = y at hc HS HG1 HE
        go_wp2
        go_ret
        exact ⟨rfl, HG1.out, HE.out ▸ HS.out⟩
end Go.Proofs.YtoonagjhfbmniaaDoor.My
