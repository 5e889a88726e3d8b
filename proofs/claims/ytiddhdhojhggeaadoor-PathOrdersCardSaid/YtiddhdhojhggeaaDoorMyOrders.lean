/- PathOrders: the law's walk. -/
import Derived.Test.YtiddhdhojhggeaaDoorMyPathA
namespace Go.Proofs.YtiddhdhojhggeaaDoor.My
open Go.RowKit Go.Lib Go.Proofs.YtiddhdhojhggeaaDoorW.PrintWords
set_option linter.unusedVariables false
set_option linter.unusedSimpArgs false

theorem lessP_irrefl (a : List UInt8) : lessP a a = false := ltP_irrefl _
theorem lessP_trans {a b c : List UInt8} (h : lessP a b = true) (k : lessP b c = true) : lessP a c = true := ltP_trans _ _ _ h k
theorem lessP_total (a b : List UInt8) : a = b ∨ lessP a b = true ∧ lessP b a = false ∨ lessP b a = true ∧ lessP a b = false := by
  rcases ltP_total (parts a) (parts b) with h | h | h
  · exact .inl (parts_inj h)
  · exact .inr (.inl ⟨h, ltP_asymm h⟩)
  · exact .inr (.inr ⟨h, ltP_asymm h⟩)

section
variable {w0 : World} {a b c : ByteArray}
def LessAll (w0 : World) : Prop := ∀ (x y : ByteArray) (w : World), Ok w0 w → x.size ≤ 1000000 → y.size ≤ 1000000 → Calls Tryd.prog 8 #[.string x, .string y] w fun e w' => e = .returned (.bool (lessP x.data.toList y.data.toList)) ∧ Ok w0 w'
theorem orders_ok (w : World) (h : Ok w0 w) (ha : a.size ≤ 600) (hb : b.size ≤ 600) (hc : c.size ≤ 600) :
    Calls Tryd.prog 3 #[.string a, .string b, .string c] w fun e w' => e = .returned (.bool true) ∧ Ok w0 w' := by
  have HL : Aside0 (LessAll w0) := ⟨fun x y w h hx hy => less_ok x y w0 w h hx hy⟩
  have HS : Aside0 (a.size ≤ 1000000 ∧ b.size ≤ 1000000 ∧ c.size ≤ 1000000) := ⟨by omega⟩
  have HW : Aside0 (∀ (s d : ByteArray) (w : World), d.size ≤ 1000000 → Calls Tryd.prog 9 #[.string s, .string d] w fun e w' => e = .returned (.bool (withinP s.data.toList d.data.toList)) ∧ w = w') := ⟨fun s d w h => within_calls s d w (by omega)⟩
  go_enter Tryd.func3, Tryd.ntmps3
  go_upto_region 5 with (go_at_call 7; refine (alive_ok w0 _ h).mono ?_; rintro e w1 ⟨rfl, h1⟩)
  clear ha hb hc
  go_cut [67] from 22 to 67 (fun v67 wx => v67 = .bool false ∧ Aside0 (Ok w0 wx))
  case first =>
    have q0 := lessP_irrefl a.data.toList
    rcases lessP_total a.data.toList b.data.toList with e | ⟨q1, q2⟩ | ⟨q1, q2⟩
    · have e1 : (a.toList == b.toList) = true := by rw [ByteArray.toList_eq, ByteArray.toList_eq, e]; simp
      have e2 : (!a.toList == b.toList) = false := by rw [e1]; rfl
      have q1 : lessP a.data.toList b.data.toList = false := by rw [← e]; exact q0
      have q2 : lessP b.data.toList a.data.toList = false := by rw [← e]; exact q0
      clear e
      go_wp2_with (go_at_call 8; refine (HL.out _ _ _ (by assumption) (by first | exact HS.out.1 | exact HS.out.2.1 | exact HS.out.2.2) (by first | exact HS.out.1 | exact HS.out.2.1 | exact HS.out.2.2)).mono ?_; rintro e w' ⟨rfl, h⟩)
      go_meet
      case rel => exact ⟨rfl, ⟨by assumption⟩⟩
    · have e1 : (a.toList == b.toList) = false := by
        rw [ByteArray.toList_eq, ByteArray.toList_eq, beq_eq_false_iff_ne]
        intro e
        rw [e, lessP_irrefl] at q1
        cases q1
      have e2 : (!a.toList == b.toList) = true := by rw [e1]; rfl
      cases q3 : lessP b.data.toList c.data.toList with
      | true =>
        have q4 := lessP_trans q1 q3
        go_wp2_with (go_at_call 8; refine (HL.out _ _ _ (by assumption) (by first | exact HS.out.1 | exact HS.out.2.1 | exact HS.out.2.2) (by first | exact HS.out.1 | exact HS.out.2.1 | exact HS.out.2.2)).mono ?_; rintro e w' ⟨rfl, h⟩)
        go_meet
        case rel => exact ⟨rfl, ⟨by assumption⟩⟩
      | false =>
        go_wp2_with (go_at_call 8; refine (HL.out _ _ _ (by assumption) (by first | exact HS.out.1 | exact HS.out.2.1 | exact HS.out.2.2) (by first | exact HS.out.1 | exact HS.out.2.1 | exact HS.out.2.2)).mono ?_; rintro e w' ⟨rfl, h⟩)
        go_meet
        case rel => exact ⟨rfl, ⟨by assumption⟩⟩
    · have e1 : (a.toList == b.toList) = false := by
        rw [ByteArray.toList_eq, ByteArray.toList_eq, beq_eq_false_iff_ne]
        intro e
        rw [e, lessP_irrefl] at q1
        cases q1
      have e2 : (!a.toList == b.toList) = true := by rw [e1]; rfl
      go_wp2_with (go_at_call 8; refine (HL.out _ _ _ (by assumption) (by first | exact HS.out.1 | exact HS.out.2.1 | exact HS.out.2.2) (by first | exact HS.out.1 | exact HS.out.2.1 | exact HS.out.2.2)).mono ?_; rintro e w' ⟨rfl, h⟩)
      go_meet
      case rel => exact ⟨rfl, ⟨by assumption⟩⟩
  case rest =>
    obtain ⟨rfl, h2⟩ := hcut
    have H2 := h2.out
    clear h2
    cases k0 : a.toList with
    | nil =>
      have f1 : (a.toList == []) = true := by rw [k0]; rfl
      have f2 : a.toList.isEmpty = true := by rw [k0]; rfl
      clear k0
      go_wp2_with fail
      go_ret
      exact ⟨rfl, H2⟩
    | cons x r =>
      have f1 : (a.toList == []) = false := by rw [k0]; rfl
      have f2 : a.toList.isEmpty = false := by rw [k0]; rfl
      have hne : a.data.toList ≠ [] := by rw [← ByteArray.toList_eq, k0]; simp
      have HNE := Aside0.mk hne
      clear k0 hne
      have HWB := HW.out b a
      cases q5 : withinP b.data.toList a.data.toList with
      | false =>
        rw [q5] at HWB
        have HWB' := Aside0.mk HWB
        clear HWB q5
        go_wp2_with (go_at_call 9; refine (HWB'.out _ HS.out.1).mono ?_; rintro e w' ⟨rfl, rfl⟩)
        go_ret
        exact ⟨rfl, H2⟩
      | true =>
        have q1 : lessP a.data.toList b.data.toList = true := less_within HNE.out q5
        cases q4 : lessP a.data.toList c.data.toList with
        | false =>
          go_wp2_with (first
            | (go_at_call 8; refine (HL.out _ _ _ (by assumption) (by first | exact HS.out.1 | exact HS.out.2.1 | exact HS.out.2.2) (by first | exact HS.out.1 | exact HS.out.2.1 | exact HS.out.2.2)).mono ?_; rintro e w' ⟨rfl, h⟩)
            | (go_at_call 9; refine (HW.out _ _ _ HS.out.1).mono ?_; rintro e w' ⟨rfl, rfl⟩))
          go_ret
          exact ⟨rfl, by assumption⟩
        | true =>
          have q7 := less_between HNE.out q5 q4
          cases q6 : withinP c.data.toList a.data.toList with
          | true =>
            clear q7
            go_wp2_with (first
              | (go_at_call 8; refine (HL.out _ _ _ (by assumption) (by first | exact HS.out.1 | exact HS.out.2.1 | exact HS.out.2.2) (by first | exact HS.out.1 | exact HS.out.2.1 | exact HS.out.2.2)).mono ?_; rintro e w' ⟨rfl, h⟩)
              | (go_at_call 9; refine (HW.out _ _ _ HS.out.1).mono ?_; rintro e w' ⟨rfl, rfl⟩))
            go_ret
            exact ⟨rfl, by assumption⟩
          | false =>
            have q3 : lessP b.data.toList c.data.toList = true := by
              rcases q7 with q | q
              · rw [q] at q6; cases q6
              · exact q
            clear q7
            go_wp2_with (first
              | (go_at_call 8; refine (HL.out _ _ _ (by assumption) (by first | exact HS.out.1 | exact HS.out.2.1 | exact HS.out.2.2) (by first | exact HS.out.1 | exact HS.out.2.1 | exact HS.out.2.2)).mono ?_; rintro e w' ⟨rfl, h⟩)
              | (go_at_call 9; refine (HW.out _ _ _ HS.out.1).mono ?_; rintro e w' ⟨rfl, rfl⟩))
            go_ret
            exact ⟨rfl, by assumption⟩
end
theorem orders_long (a b c : ByteArray) (w0 w : World) (h : Ok w0 w) (hl : 600 < a.size ∨ 600 < b.size ∨ 600 < c.size) (h1 : a.size ≤ 140737488351232) (h2 : b.size ≤ 140737488351232) (h3 : c.size ≤ 140737488351232) :
    Calls Tryd.prog 3 #[.string a, .string b, .string c] w fun e w' => e = .returned (.bool true) ∧ Ok w0 w' := by
  have HA : Aside0 (∀ w, Ok w0 w → Calls Tryd.prog 7 #[] w fun e w' => e = .returned (.bool true) ∧ Ok w0 w') := ⟨fun w h => alive_ok w0 w h⟩
  by_cases ca : 600 < a.size
  · clear hl
    go_enter Tryd.func3, Tryd.ntmps3
    go_wp2_with (go_at_call 7; refine (HA.out _ h).mono ?_; rintro e w1 ⟨rfl, h1⟩)
    go_ret
    exact ⟨rfl, by assumption⟩
  · by_cases cb : 600 < b.size
    · clear hl
      go_enter Tryd.func3, Tryd.ntmps3
      go_wp2_with (go_at_call 7; refine (HA.out _ h).mono ?_; rintro e w1 ⟨rfl, h1⟩)
      go_ret
      exact ⟨rfl, by assumption⟩
    · have cc : 600 < c.size := by omega
      clear hl
      go_enter Tryd.func3, Tryd.ntmps3
      go_wp2_with (go_at_call 7; refine (HA.out _ h).mono ?_; rintro e w1 ⟨rfl, h1⟩)
      go_ret
      exact ⟨rfl, by assumption⟩
theorem orders_walk (a b c : ByteArray) (w : World) (ha : a.size ≤ 140737488351232) (hb : b.size ≤ 140737488351232) (hc : c.size ≤ 140737488351232)
    (hL : laidMetH Tryd.prog Rows.pathOrdersRow.laid w) (hs : w.ShapedOpen Tryd.prog) :
    Calls Tryd.prog 3 #[.string a, .string b, .string c] w fun e w' => e = .returned (.bool true) ∧ Below w.heap.size w w' := by
  have hg := Ok.start (gl_of hL hs)
  by_cases h : 600 < a.size ∨ 600 < b.size ∨ 600 < c.size
  · exact (orders_long a b c w w hg h ha hb hc).mono fun e w' ⟨h1, h2⟩ => ⟨h1, h2.bel⟩
  · exact (orders_ok w hg (by omega) (by omega) (by omega)).mono fun e w' ⟨h1, h2⟩ => ⟨h1, h2.bel⟩
end Go.Proofs.YtiddhdhojhggeaaDoor.My
