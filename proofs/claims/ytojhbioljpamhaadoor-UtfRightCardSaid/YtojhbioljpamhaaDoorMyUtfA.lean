/- The walks of utf.Quote, utf.Narrow, crossdocknum.Is, the law's alive. -/
import Derived.Test.YtojhbioljpamhaaDoorMyQuote
import Derived.Test.YtojhbioljpamhaaDoorMyNumE
namespace Go.Proofs.YtojhbioljpamhaaDoor.My
open Go.RowKit Go.Lib Go.Proofs.YtojhbioljpamhaaDoorW.PrintWords
set_option linter.unusedVariables false
set_option linter.unusedSimpArgs false

theorem is_calls (e : Option Int) (c : Int) (w : World) (h : ∀ c, e = some c → c ≠ 0) : Calls Tryd.prog 14 #[errV e, .int .i64 c] w fun r w' => r = .returned (.bool (numE e == c)) ∧ w = w' := by
  have HN : Aside0 (∀ w : World, Calls Tryd.prog 17 #[errV e] w fun r w' => r = .returned (.int .i64 (numE e)) ∧ w = w') := ⟨fun w => num_calls e w h⟩
  clear h
  generalize errV e = v at *
  go_enter Tryd.func14, Tryd.ntmps14
  go_wp2_with (go_at_call 17; refine (HN.out _).mono ?_; rintro e w' ⟨rfl, rfl⟩)
  go_ret
  exact ⟨rfl, rfl⟩
theorem bad_ok (s : ByteArray) (w0 w : World) (h : Ok w0 w) (hs : s.size ≤ 1000000) :
    Calls Tryd.prog 9 #[.string s] w fun e w' => e = .returned (.int .i64 (badU s)) ∧ Ok w0 w' :=
  (bad_calls s w h.gl hs).mono fun e w' ⟨h1, h2⟩ => ⟨h1, h.next h2⟩
/-- What Quote and Narrow answer: a text and an error. -/
def quoT (s : ByteArray) (e0 : Int) : ByteArray := if badU s < 0 then strOfNums (quoL s e0) else ⟨#[]⟩
def quoE (s : ByteArray) : Option Int := if badU s < 0 then none else some 9
theorem quote_calls (s : ByteArray) (e0 : Int) (w0 w : World) (h : Ok w0 w) (hs : s.size ≤ 1000000) (he0 : 0 ≤ e0) (he1 : e0 ≤ 2000000) :
    Calls Tryd.prog 20 #[.string s, .int .i32 e0] w fun e w' => e = .returned (.tuple #[.string (quoT s e0), errV (quoE s)]) ∧ Ok w0 w' := by
  by_cases hv : badU s < 0
  · exact quote_ok s e0 w0 w h hs hv he0 he1
  · exact quote_bad s e0 w0 w h hs hv
theorem Quote_ok (s : ByteArray) (w0 w : World) (h : Ok w0 w) (hs : s.size ≤ 1000000) :
    Calls Tryd.prog 11 #[.string s] w fun e w' => e = .returned (.tuple #[.string (quoT s 1114112), errV (quoE s)]) ∧ Ok w0 w' := by
  have HQ := Aside0.mk (quote_calls s 1114112)
  go_enter Tryd.func11, Tryd.ntmps11
  go_wp2_with (go_at_call 20; refine (HQ.out _ _ h hs (by decide) (by decide)).mono ?_; rintro e w1 ⟨rfl, h1⟩)
  go_ret2
  exact ⟨rfl, h1⟩
theorem Narrow_ok (s : ByteArray) (w0 w : World) (h : Ok w0 w) (hs : s.size ≤ 1000000) :
    Calls Tryd.prog 12 #[.string s] w fun e w' => e = .returned (.tuple #[.string (quoT s 127), errV (quoE s)]) ∧ Ok w0 w' := by
  have HQ := Aside0.mk (quote_calls s 127)
  go_enter Tryd.func12, Tryd.ntmps12
  go_wp2_with (go_at_call 20; refine (HQ.out _ _ h hs (by decide) (by decide)).mono ?_; rintro e w1 ⟨rfl, h1⟩)
  go_ret2
  exact ⟨rfl, h1⟩
abbrev exS : ByteArray := ⟨#[97, 10, 195, 169]⟩
theorem ex_bad : badU exS < 0 := by decide +kernel
theorem ex_quote : quoT exS 1114112 = ⟨#[34, 97, 92, 110, 195, 169, 34]⟩ := by
  rw [quoT, if_pos ex_bad]
  decide +kernel
theorem ex_narrow : quoT exS 127 = ⟨#[34, 97, 92, 110, 92, 117, 48, 48, 101, 57, 34]⟩ := by
  rw [quoT, if_pos ex_bad]
  decide +kernel
theorem ex_err : quoE exS = none := by rw [quoE, if_pos ex_bad]
theorem alive_ok (w0 w : World) (h : Ok w0 w) : Calls Tryd.prog 7 #[] w fun e w' => e = .returned (.bool true) ∧ Ok w0 w' := by
  have H1 : Aside0 (∀ w, Ok w0 w → Calls Tryd.prog 11 #[.string exS] w fun e w' => e = .returned (.tuple #[.string ⟨#[34, 97, 92, 110, 195, 169, 34]⟩, errV none]) ∧ Ok w0 w') := ⟨fun w h => by
    have := Quote_ok exS w0 w h (by decide)
    rw [ex_quote, ex_err] at this
    exact this⟩
  have H2 : Aside0 (∀ w, Ok w0 w → Calls Tryd.prog 12 #[.string exS] w fun e w' => e = .returned (.tuple #[.string ⟨#[34, 97, 92, 110, 92, 117, 48, 48, 101, 57, 34]⟩, errV none]) ∧ Ok w0 w') := ⟨fun w h => by
    have := Narrow_ok exS w0 w h (by decide)
    rw [ex_narrow, ex_err] at this
    exact this⟩
  rw [show errV none = .nilIface from rfl] at H1 H2
  go_enter Tryd.func7, Tryd.ntmps7
  go_wp2_with (first
    | (go_at_call 11; refine (H1.out _ h).mono ?_; rintro e w1 ⟨rfl, h1⟩)
    | (go_at_call 12; refine (H2.out _ h1).mono ?_; rintro e w2 ⟨rfl, h2⟩))
  go_ret
  exact ⟨rfl, h2⟩
end Go.Proofs.YtojhbioljpamhaaDoor.My
