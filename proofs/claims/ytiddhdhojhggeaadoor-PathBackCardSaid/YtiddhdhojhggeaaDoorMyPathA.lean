/- The walks of path.Within, crossdocknum.Is, the law's alive. -/
import Derived.Test.YtiddhdhojhggeaaDoorMyClean
namespace Go.Proofs.YtiddhdhojhggeaaDoor.My
open Go.RowKit Go.Lib Go.Proofs.YtiddhdhojhggeaaDoorW.PrintWords
set_option linter.unusedVariables false
set_option linter.unusedSimpArgs false

theorem is_calls (e : Option Int) (c : Int) (w : World) (h : ∀ c, e = some c → c ≠ 0) : Calls Tryd.prog 23 #[errV e, .int .i64 c] w fun r w' => r = .returned (.bool (numE e == c)) ∧ w = w' := by
  have HN : Aside0 (∀ w : World, Calls Tryd.prog 14 #[errV e] w fun r w' => r = .returned (.int .i64 (numE e)) ∧ w = w') := ⟨fun w => num_calls e w h⟩
  clear h
  generalize errV e = v at *
  go_enter Tryd.func23, Tryd.ntmps23
  go_wp2_with (go_at_call 14; refine (HN.out _).mono ?_; rintro e w' ⟨rfl, rfl⟩)
  go_ret
  exact ⟨rfl, rfl⟩
theorem within_calls (s d : ByteArray) (w : World) (hd : d.size ≤ 140737488351232) :
    Calls Tryd.prog 9 #[.string s, .string d] w fun e w' => e = .returned (.bool (withinP s.data.toList d.data.toList)) ∧ w = w' := by
  by_cases h : d.data.toList = []
  · have f1 : (d.toList == []) = true := by rw [ByteArray.toList_eq, h]; rfl
    have f2 : d.toList.isEmpty = true := by rw [ByteArray.toList_eq, h]; rfl
    have f3 : d.toList = [] := by rw [ByteArray.toList_eq, h]
    have hv : withinP s.data.toList d.data.toList = (s.toList != []) := by
      unfold withinP
      rw [if_pos h, ByteArray.toList_eq]
      by_cases k : s.data.toList = [] <;> simp [k]
    rw [hv]
    clear h hv f3
    cases k : s.toList with
    | nil =>
      have g1 : (s.toList == []) = true := by rw [k]; rfl
      have g2 : s.toList.isEmpty = true := by rw [k]; rfl
      have g3 : (s.toList != []) = false := by rw [k]; rfl
      rw [show (([] : List UInt8) != []) = false from rfl]
      clear k
      go_enter Tryd.func9, Tryd.ntmps9
      go_wp2
      go_ret
      exact ⟨rfl, rfl⟩
    | cons c r =>
      have g1 : (s.toList == []) = false := by rw [k]; rfl
      have g2 : s.toList.isEmpty = false := by rw [k]; rfl
      have g3 : (s.toList != []) = true := by rw [k]; rfl
      rw [show (c :: r != []) = true from rfl]
      clear k
      go_enter Tryd.func9, Tryd.ntmps9
      go_wp2
      go_ret
      exact ⟨rfl, rfl⟩
  · have f1 : (d.toList == []) = false := by rw [ByteArray.toList_eq]; exact beq_eq_false_iff_ne.2 h
    have f2 : d.toList.isEmpty = false := by rw [ByteArray.toList_eq]; cases k : d.data.toList with
      | nil => exact absurd k h
      | cons a b => rfl
    have hv : withinP s.data.toList d.data.toList = Lib.hasPrefix s.data.toList (d ++ ⟨#[47]⟩ : ByteArray).data.toList := by
      unfold withinP
      rw [if_neg h]
      simp [Lib.hasPrefix]
    rw [hv]
    have hsz : d.size + 1 ≤ 9223372036854775807 := by omega
    clear h hv
    go_enter Tryd.func9, Tryd.ntmps9
    go_wp2_with (go_at_call 26; refine (Tryd.strings_HasPrefix _ _ _).mono ?_; rintro e w' ⟨rfl, rfl⟩)
    go_ret
    exact ⟨rfl, rfl⟩

/-! ### alive -/
theorem badU_ascii (s : ByteArray) (h : ∀ i (hi : i < s.size), (s[i]'hi).toNat < 128) : badU s = -1 := by
  have key : ∀ f pos, badF s f pos = -1 := by
    intro f
    induction f with
    | zero => intro pos; rfl
    | succ f ih =>
      intro pos
      by_cases hp : pos < s.size
      · have hd := decode_ascii s pos hp (h pos hp)
        rw [badF_on s f pos hp (by rw [hd]; intro k; have := h pos hp; have := k.1; simp at this; omega)]
        exact ih _
      · exact badF_end s _ _ hp
  exact key _ _
theorem alive_a : cleanA ⟨#[47, 97, 47, 46, 47, 98, 47, 46, 46, 47, 99, 47]⟩ = ([97, 47, 99], none) := by
  have hb : badU ⟨#[47, 97, 47, 46, 47, 98, 47, 46, 46, 47, 99, 47]⟩ = -1 := badU_ascii _ (by decide +kernel)
  have hr : rightP ⟨#[47, 97, 47, 46, 47, 98, 47, 46, 46, 47, 99, 47]⟩ = true := by
    rw [rightP, hb]; decide +kernel
  rw [cleanA, if_pos hr]
  decide +kernel
theorem alive_b : cleanA ⟨#[46, 46, 47, 97]⟩ = ([], some 13) := by
  have hb : badU ⟨#[46, 46, 47, 97]⟩ = -1 := badU_ascii _ (by decide +kernel)
  have hr : rightP ⟨#[46, 46, 47, 97]⟩ = true := by
    rw [rightP, hb]; decide +kernel
  rw [cleanA, if_pos hr]
  decide +kernel
theorem alive_c : lessP [97, 47, 98] [97, 45, 98] = true := by decide +kernel
theorem alive_ok (w0 w : World) (h : Ok w0 w) : Calls Tryd.prog 7 #[] w fun e w' => e = .returned (.bool true) ∧ Ok w0 w' := by
  have HC1 : Aside0 (∀ w, Ok w0 w → Calls Tryd.prog 10 #[.string ⟨#[47, 97, 47, 46, 47, 98, 47, 46, 46, 47, 99, 47]⟩] w fun e w' => e = .returned (.tuple #[.string ⟨#[97, 47, 99]⟩, .nilIface]) ∧ Ok w0 w') := ⟨fun w h => by
    refine (clean_ok _ w0 w h (by decide +kernel)).mono ?_
    rintro e w' ⟨r, rfl, h1, h2⟩
    rw [alive_a] at h1 ⊢
    have hr : r = ⟨#[97, 47, 99]⟩ := by
      cases r with
      | mk d => cases d with
        | mk l => simp only at h1; rw [h1]
    rw [hr]
    exact ⟨rfl, h2⟩⟩
  have HC2 : Aside0 (∀ w, Ok w0 w → Calls Tryd.prog 10 #[.string ⟨#[46, 46, 47, 97]⟩] w fun e w' => e = .returned (.tuple #[.string ⟨#[]⟩, .iface 41 (.int .i64 13)]) ∧ Ok w0 w') := ⟨fun w h => by
    refine (clean_ok _ w0 w h (by decide +kernel)).mono ?_
    rintro e w' ⟨r, rfl, h1, h2⟩
    rw [alive_b] at h1 ⊢
    have hr : r = ⟨#[]⟩ := by
      cases r with
      | mk d => cases d with
        | mk l => simp only at h1; rw [h1]
    rw [hr]
    exact ⟨rfl, h2⟩⟩
  have HL : Aside0 (∀ w, Ok w0 w → Calls Tryd.prog 8 #[.string ⟨#[97, 47, 98]⟩, .string ⟨#[97, 45, 98]⟩] w fun e w' => e = .returned (.bool true) ∧ Ok w0 w') := ⟨fun w h => by
    have := less_ok ⟨#[97, 47, 98]⟩ ⟨#[97, 45, 98]⟩ w0 w h (by decide +kernel) (by decide +kernel)
    rw [show lessP (⟨#[97, 47, 98]⟩ : ByteArray).data.toList (⟨#[97, 45, 98]⟩ : ByteArray).data.toList = true from alive_c] at this
    exact this⟩
  have HI : Aside0 (∀ w : World, Calls Tryd.prog 23 #[.iface 41 (.int .i64 13), .int .i64 13] w fun e w' => e = .returned (.bool true) ∧ w = w') := ⟨fun w => is_calls (some 13) 13 w (by simp)⟩
  have f1 : ((⟨#[97, 47, 99]⟩ : ByteArray).toList == [97, 47, 99]) = true := by decide +kernel
  go_enter Tryd.func7, Tryd.ntmps7
  go_wp2_with fail
  refine (HC1.out _ h).mono ?_
  rintro e w1 ⟨rfl, h1⟩
  go_wp2_with fail
  refine (HC2.out _ h1).mono ?_
  rintro e w2 ⟨rfl, h2⟩
  go_wp2_with (first
    | (go_at_call 23; refine (HI.out _).mono ?_; rintro e w3 ⟨rfl, rfl⟩)
    | (go_at_call 8; refine (HL.out _ h2).mono ?_; rintro e w4 ⟨rfl, h4⟩))
  go_ret
  exact ⟨rfl, h4⟩
end Go.Proofs.YtiddhdhojhggeaaDoor.My
