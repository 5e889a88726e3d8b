/- UtfRight: the law's walk. -/
import Derived.Test.YtojhbioljpamhaaDoorMyUtfA
import Derived.Test.YtojhbioljpamhaaDoorMyQuoteD
namespace Go.Proofs.YtojhbioljpamhaaDoor.My
open Go.RowKit Go.Lib Go.Proofs.YtojhbioljpamhaaDoorW.PrintWords Go.Proofs.YtojhbioljpamhaaDoorW.PrintLast Go.Proofs.YtojhbioljpamhaaDoorW.PrintMore Go.Proofs.YtojhbioljpamhaaDoor.MyDocSign Go.Proofs.YtojhbioljpamhaaDoor.MyDocClean Go.Proofs.YtojhbioljpamhaaDoor.MyDocQuote
set_option maxRecDepth 100000
set_option linter.unusedVariables false
set_option linter.unusedSimpArgs false

theorem right_ok (s : ByteArray) (w0 w : World) (h : Ok w0 w) (hs : s.size ≤ 300) :
    Calls Tryd.prog 3 #[.string s] w fun e w' => e = .returned (.bool true) ∧ Ok w0 w' := by
  have HBd : Aside0 (∀ w, Calls Tryd.prog 8 #[.string s] w fun e w' => e = .returned (.int .i64 (badU s)) ∧ Drawn0 w w') := ⟨fun w => crossdockref11_Bad.calls _ s _ w (refBad_f s (by omega))⟩
  have HQ1 : Aside0 (∀ w, Calls Tryd.prog 13 #[.string s, .bool false] w fun e w' => e = .returned (.tuple #[.string (quoT s 1114112), .bool (decide (badU s < 0))]) ∧ Below w.heap.size w w') := ⟨fun w => crossdockref11_Quote.calls _ s false _ _ w (refQuote_f s false (by omega))⟩
  have HQ2 : Aside0 (∀ w, Calls Tryd.prog 13 #[.string s, .bool true] w fun e w' => e = .returned (.tuple #[.string (quoT s 127), .bool (decide (badU s < 0))]) ∧ Below w.heap.size w w') := ⟨fun w => crossdockref11_Quote.calls _ s true _ _ w (refQuote_f s true (by omega))⟩
  have HB : Aside0 (∀ w, Ok w0 w → Calls Tryd.prog 9 #[.string s] w fun e w' => e = .returned (.int .i64 (badU s)) ∧ Ok w0 w') := ⟨fun w h => bad_ok s w0 w h (by omega)⟩
  have HV : Aside0 (∀ w, Ok w0 w → Calls Tryd.prog 10 #[.string s] w fun e w' => e = .returned (.bool (decide (badU s < 0))) ∧ Ok w0 w') := ⟨fun w h => valid_ok s w0 w h (by omega)⟩
  have HQ : Aside0 (∀ w, Ok w0 w → Calls Tryd.prog 11 #[.string s] w fun e w' => e = .returned (.tuple #[.string (quoT s 1114112), errV (quoE s)]) ∧ Ok w0 w') := ⟨fun w h => Quote_ok s w0 w h (by omega)⟩
  have HN : Aside0 (∀ w, Ok w0 w → Calls Tryd.prog 12 #[.string s] w fun e w' => e = .returned (.tuple #[.string (quoT s 127), errV (quoE s)]) ∧ Ok w0 w') := ⟨fun w h => Narrow_ok s w0 w h (by omega)⟩
  have HI : Aside0 (∀ w, Calls Tryd.prog 14 #[errV (some 9), .int .i64 9] w fun e w' => e = .returned (.bool true) ∧ w = w') := ⟨fun w => is_calls (some 9) 9 w (by rintro c hc; cases hc; decide)⟩
  generalize quoT s 1114112 = q1 at *
  generalize quoT s 127 = q2 at *
  have a1 : (q1.toList == q1.toList) = true := by simp
  have a2 : (q2.toList == q2.toList) = true := by simp
  have a3 : (!q1.toList == q1.toList) = false := by simp
  have a4 : (!q2.toList == q2.toList) = false := by simp
  by_cases hb : badU s < 0
  · have e1 : quoE s = none := by rw [quoE, if_pos hb]
    rw [e1] at HQ HN
    rw [decide_eq_true hb] at HQ1 HQ2 HV
    rw [show errV none = .nilIface from rfl] at HQ HN
    generalize badU s = bd at *
    go_enter Tryd.func3, Tryd.ntmps3
    go_wp2_with (first
      | (go_at_call 7; refine (alive_ok w0 _ h).mono ?_; rintro e w1 ⟨rfl, h1⟩)
      | (go_at_call 8; refine (HBd.out _).mono ?_; rintro e w2 ⟨rfl, hd2⟩; have h2 := h1.drawn hd2; clear hd2 h1)
      | (go_at_call 9; refine (HB.out _ h2).mono ?_; rintro e w3 ⟨rfl, h3⟩; clear h2)
      | (go_at_call 10; refine (HV.out _ h3).mono ?_; rintro e w4 ⟨rfl, h4⟩; clear h3)
      | (go_at_call 11; refine (HQ.out _ h4).mono ?_; rintro e w5 ⟨rfl, h5⟩; clear h4)
      | (go_at_call 12; refine (HN.out _ h5).mono ?_; rintro e w6 ⟨rfl, h6⟩; clear h5)
      | (go_at_call 13; (with_reducible refine (HQ1.out _).mono ?_); rintro e w7 ⟨rfl, hd7⟩; have h7 := h6.next hd7; clear hd7 h6)
      | (go_at_call 13; (with_reducible refine (HQ2.out _).mono ?_); rintro e w8 ⟨rfl, hd8⟩; have h8 := h7.next hd8; clear hd8 h7))
    go_ret
    exact ⟨rfl, h8⟩
  · have e1 : quoE s = some 9 := by rw [quoE, if_neg hb]
    rw [e1] at HQ HN
    rw [decide_eq_false hb] at HQ1 HQ2 HV
    rw [show errV (some 9) = .iface 32 (.int .i64 9) from rfl] at HQ HN HI
    have u1 := Tryd.underlying26
    generalize badU s = bd at *
    go_enter Tryd.func3, Tryd.ntmps3
    go_wp2_with (first
      | (go_at_call 7; refine (alive_ok w0 _ h).mono ?_; rintro e w1 ⟨rfl, h1⟩)
      | (go_at_call 8; refine (HBd.out _).mono ?_; rintro e w2 ⟨rfl, hd2⟩; have h2 := h1.drawn hd2; clear hd2 h1)
      | (go_at_call 9; refine (HB.out _ h2).mono ?_; rintro e w3 ⟨rfl, h3⟩; clear h2)
      | (go_at_call 10; refine (HV.out _ h3).mono ?_; rintro e w4 ⟨rfl, h4⟩; clear h3)
      | (go_at_call 11; refine (HQ.out _ h4).mono ?_; rintro e w5 ⟨rfl, h5⟩; clear h4)
      | (go_at_call 12; refine (HN.out _ h5).mono ?_; rintro e w6 ⟨rfl, h6⟩; clear h5)
      | (go_at_call 13; (with_reducible refine (HQ1.out _).mono ?_); rintro e w7 ⟨rfl, hd7⟩; have h7 := h6.next hd7; clear hd7 h6)
      | (go_at_call 13; (with_reducible refine (HQ2.out _).mono ?_); rintro e w8 ⟨rfl, hd8⟩; have h8 := h7.next hd8; clear hd8 h7)
      | (go_at_call 14; (with_reducible refine (HI.out _).mono ?_); rintro e w9 ⟨rfl, rfl⟩))
    go_ret
    exact ⟨rfl, h8⟩
theorem right_long (s : ByteArray) (w0 w : World) (h : Ok w0 w) (hl : 300 < s.size) (h1 : s.size ≤ 140737488351232) :
    Calls Tryd.prog 3 #[.string s] w fun e w' => e = .returned (.bool true) ∧ Ok w0 w' := by
  go_enter Tryd.func3, Tryd.ntmps3
  go_wp2_with (go_at_call 7; refine (alive_ok w0 _ h).mono ?_; rintro e w1 ⟨rfl, h1⟩)
  go_ret
  exact ⟨rfl, by assumption⟩
theorem right_walk (s : ByteArray) (w : World) (hs : s.size ≤ 140737488351232)
    (hL : laidMetH Tryd.prog Rows.utfRightRow.laid w) :
    Calls Tryd.prog 3 #[.string s] w fun e w' => e = .returned (.bool true) ∧ Below w.heap.size w w' := by
  have hg := Ok.start (gl_of hL)
  by_cases h : 300 < s.size
  · exact (right_long s w w hg h hs).mono fun e w' ⟨h1, h2⟩ => ⟨h1, h2.bel⟩
  · exact (right_ok s w w hg (by omega)).mono fun e w' ⟨h1, h2⟩ => ⟨h1, h2.bel⟩
end Go.Proofs.YtojhbioljpamhaaDoor.My
