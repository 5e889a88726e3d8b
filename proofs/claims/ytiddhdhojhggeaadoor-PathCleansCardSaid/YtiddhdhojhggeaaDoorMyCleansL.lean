/- PathCleans: the law's walk. -/
import Derived.Test.YtiddhdhojhggeaaDoorMyPlain
import Derived.Test.YtiddhdhojhggeaaDoorMyCleanD
namespace Go.Proofs.YtiddhdhojhggeaaDoor.My
open Go.RowKit Go.Lib Go.Proofs.YtiddhdhojhggeaaDoorW.PrintWords Go.Proofs.YtiddhdhojhggeaaDoor.MyDocClean
set_option linter.unusedVariables false
set_option linter.unusedSimpArgs false

theorem cleanA_ne (s : ByteArray) : ∀ c, (cleanA s).2 = some c → c ≠ 0 := by
  intro c h
  unfold cleanA at h
  split at h
  · split at h
    · cases h; decide
    · split at h
      · cases h; decide
      · cases h
  · cases h; decide
theorem cleans_ok (s : ByteArray) (w0 w : World) (h : Ok w0 w) (hs : s.size ≤ 600) :
    Calls Tryd.prog 4 #[.string s] w fun e w' => e = .returned (.bool true) ∧ Ok w0 w' := by
  have HS : Aside0 (s.size ≤ 999999) := ⟨by omega⟩
  obtain ⟨kp, hkp⟩ := docPlain_f s (by omega)
  have HP : Aside0 (∀ w, Calls Tryd.prog 13 #[.string s] w fun e w' => e = .returned (.bool (plainP s)) ∧ Below w.heap.size w w') := ⟨fun w => crossdockref18_Plain.calls kp s _ w hkp⟩
  have HN : Aside0 (∀ w : World, Calls Tryd.prog 14 #[errV (cleanA s).2] w fun r w' => r = .returned (.int .i64 (numE (cleanA s).2)) ∧ w = w') := ⟨fun w => num_calls _ w (cleanA_ne s)⟩
  clear hkp
  go_enter Tryd.func4, Tryd.ntmps4
  go_wp2_with (go_at_call 7; refine (alive_ok w0 _ h).mono ?_; rintro e w1 ⟨rfl, h1⟩)
  refine (clean_ok s w0 _ h1 (by have := HS.out; omega)).mono ?_
  rintro e w2 ⟨r, rfl, hr, h2⟩
  have HR := Aside0.mk hr
  clear hr
  generalize errV (cleanA s).2 = ev at *
  go_wp2_with fail
  refine (docClean_ok s w0 _ h2 HS.out).mono ?_
  rintro e w3 ⟨r3, rfl, hr3, h3⟩
  have e1 : r3 = r := ba_ext (by rw [hr3, HR.out])
  subst e1
  clear hr3
  generalize numE (cleanA s).2 = nv at *
  go_wp2_with fail
  refine (plain_ok s w0 _ h3 (by have := HS.out; omega)).mono ?_
  rintro e w4 ⟨rfl, h4⟩
  generalize plainP s = pv at *
  have f1 : (pv == pv) = true := by simp
  have f2 : (r3.toList == r3.toList) = true := by simp
  have f3 : (nv == nv) = true := by simp
  go_wp2_with (first
    | (go_at_call 13; refine (HP.out _).mono ?_; rintro e w5 ⟨rfl, hb5⟩; have h5 := h4.next hb5; clear hb5)
    | (go_at_call 14; refine (HN.out _).mono ?_; rintro e w6 ⟨rfl, rfl⟩))
  go_ret
  exact ⟨rfl, h5⟩
theorem cleans_long (s : ByteArray) (w0 w : World) (h : Ok w0 w) (hl : 600 < s.size) (h1 : s.size ≤ 140737488351232) :
    Calls Tryd.prog 4 #[.string s] w fun e w' => e = .returned (.bool true) ∧ Ok w0 w' := by
  go_enter Tryd.func4, Tryd.ntmps4
  go_wp2_with (go_at_call 7; refine (alive_ok w0 _ h).mono ?_; rintro e w1 ⟨rfl, h1⟩)
  go_ret
  exact ⟨rfl, by assumption⟩
theorem cleans_walk (s : ByteArray) (w : World) (hs : s.size ≤ 140737488351232)
    (hL : laidMetH Tryd.prog Rows.pathCleansRow.laid w) (hsh : w.ShapedOpen Tryd.prog) :
    Calls Tryd.prog 4 #[.string s] w fun e w' => e = .returned (.bool true) ∧ Below w.heap.size w w' := by
  have hg := Ok.start (gl_of hL hsh)
  by_cases h : 600 < s.size
  · exact (cleans_long s w w hg h hs).mono fun e w' ⟨h1, h2⟩ => ⟨h1, h2.bel⟩
  · exact (cleans_ok s w w hg (by omega)).mono fun e w' ⟨h1, h2⟩ => ⟨h1, h2.bel⟩
end Go.Proofs.YtiddhdhojhggeaaDoor.My
