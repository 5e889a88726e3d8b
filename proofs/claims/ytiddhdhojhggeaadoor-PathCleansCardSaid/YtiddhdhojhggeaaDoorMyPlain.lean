/- The walks of path.Plain and of slices.ContainsFunc at path.odd. -/
import Derived.Test.YtiddhdhojhggeaaDoorMyPathD
namespace Go.Proofs.YtiddhdhojhggeaaDoor.My
open Go.RowKit Go.Lib Go.Proofs.YtiddhdhojhggeaaDoorW.PrintWords
set_option linter.unusedVariables false
set_option linter.unusedSimpArgs false

theorem indexf_ok (l : List ByteArray) (A : Option Addr) (c : Nat) (w : World) (hC : Kd.string.C w A l.length l) (hn : l.length ≤ 1000001) :
    Calls Tryd.prog 42 #[.slice A l.length c, .func (.func 28) #[] #[]] w fun e w' => ∃ i : Int, e = .returned (.int .i64 i) ∧ decide (i ≥ 0) = (lists l).any oddP ∧ Drawn0 w w' := by
  have HC := Aside0.mk hC
  clear hC
  go_enter Tryd.func42, Tryd.ntmps42
  go_wp2_with fail
  go_loopw [8] (fun i wr => ∃ (k : Nat), i = .int .i64 k ∧ k ≤ l.length ∧ Aside0 (((lists l).take k).any oddP = false) ∧ Aside0 (Drawn0 w wr)) (fun i _ => l.length - (Go.RowKit.intOf i).toNat)
  case atStart => exact ⟨0, rfl, Nat.zero_le _, ⟨rfl⟩, ⟨Drawn0.refl _⟩⟩
  case round =>
    obtain ⟨k, rfl, hk, HT, HD⟩ := hrel
    have hll : (lists l).length = l.length := by simp
    by_cases hlt : k < l.length
    · obtain ⟨n, rfl⟩ := HD.out.out
      obtain ⟨ad, rfl, hcell⟩ := Kd.at_string (Kd.C_drewN HC.out n) (k : Int) (by omega) (by omega)
      rw [rdOf_nat l k hlt, Int.toNat_natCast] at hcell
      have htk : (lists l).take (k + 1) = (lists l).take k ++ [l[k].data.toList] := by
        rw [List.take_succ_eq_append_getElem (by omega)]; simp
      obtain ⟨x, hx⟩ : ∃ x, x = l[k] := ⟨_, rfl⟩
      rw [← hx] at hcell htk
      have HX := Aside0.mk hx
      have HTK := Aside0.mk htk
      have HO : Aside0 (∀ w, Calls Tryd.prog 28 #[.string x] w fun e w' => e = .returned (.bool (oddP x.data.toList)) ∧ Drawn0 w w') := ⟨fun w => odd_calls x w⟩
      clear hx htk hll
      cases ho : oddP x.data.toList with
      | true =>
        rw [ho] at HO
        have HO2 := Aside0.mk ho
        clear ho
        go_wp2_with (go_at_call 28; refine (HO.out _).mono ?_; rintro e w4 ⟨rfl, ⟨⟨n4, rfl⟩⟩⟩)
        go_ret
        refine ⟨k, rfl, ?_, ⟨⟨_, rfl⟩⟩⟩
        rw [decide_eq_true (by omega)]
        symm
        rw [List.any_eq_true]
        exact ⟨x.data.toList, by rw [HX.out]; exact List.mem_map.2 ⟨_, List.getElem_mem hlt, rfl⟩, HO2.out⟩
      | false =>
        rw [ho] at HO
        have HO2 := Aside0.mk ho
        clear ho
        go_wp2_with (go_at_call 28; refine (HO.out _).mono ?_; rintro e w4 ⟨rfl, ⟨⟨n4, rfl⟩⟩⟩)
        go_roundw
        case rel => exact ⟨k + 1, by go_num, by omega, ⟨by rw [HTK.out, List.any_append, HT.out]; simp [HO2.out]⟩, ⟨⟨⟨_, rfl⟩⟩⟩⟩
        case measure => simp [Go.RowKit.intOf]; omega
    · go_wp2_with fail
      go_ret
      refine ⟨-1, rfl, ?_, HD.out⟩
      have := HT.out
      rw [List.take_of_length_le (by omega)] at this
      rw [this]
      rfl
theorem contains_ok (l : List ByteArray) (A : Option Addr) (c : Nat) (w : World) (hC : Kd.string.C w A l.length l) (hn : l.length ≤ 1000001) :
    Calls Tryd.prog 31 #[.slice A l.length c, .func (.func 28) #[] #[]] w fun e w' => e = .returned (.bool ((lists l).any oddP)) ∧ Drawn0 w w' := by
  have HI := Aside0.mk (indexf_ok l A c w hC hn)
  clear hC
  go_enter Tryd.func31, Tryd.ntmps31
  go_wp2_with (go_at_call 42; refine HI.out.mono ?_; rintro e w4 ⟨i, rfl, hi, hd⟩; have HX := Aside0.mk (And.intro hi hd); clear hi hd)
  go_ret
  exact ⟨by rw [← HX.out.1]; rfl, HX.out.2⟩
theorem plain_ok (s : ByteArray) (w0 w : World) (h : Ok w0 w) (hs : s.size ≤ 1000000) :
    Calls Tryd.prog 12 #[.string s] w fun e w' => e = .returned (.bool (plainP s)) ∧ Ok w0 w' := by
  have HR : Aside0 (∀ w, Ok w0 w → Calls Tryd.prog 27 #[.string s] w fun e w' => e = .returned (.bool (rightP s)) ∧ Ok w0 w') := ⟨fun w h => right_ok s w0 w h hs⟩
  by_cases h2 : s.size ≤ 255
  · cases hr : rightP s with
    | true =>
      rw [hr] at HR
      have HP : Aside0 (plainP s = !(parts s.data.toList).any oddP) := ⟨by rw [plainP, decide_eq_true h2, hr, Bool.true_and, Bool.true_and]⟩
      clear hr
      go_enter Tryd.func12, Tryd.ntmps12
      go_wp2_with (go_at_call 27; refine (HR.out _ h).mono ?_; rintro e w1 ⟨rfl, h1⟩)
      refine (split_ok s w0 _ h1 hs).mono ?_
      rintro e w3 ⟨l, rfl, hl, hn, hc, hb, h3⟩
      have C3 := C_strs w3 _ l _ _ hc (by omega)
      have HL := Aside0.mk (And.intro hl h3)
      have HC := Aside0.mk (contains_ok l _ l.length w3 C3 hn)
      clear hl hc hb h3 C3
      go_wp2_with fail
      refine HC.out.mono ?_
      rintro e w4 ⟨rfl, hd⟩
      have HD := Aside0.mk hd
      rw [HL.out.1]
      have HP2 := HP.out
      clear hd
      cases ha : (parts s.data.toList).any oddP with
      | true =>
        rw [ha] at HP2
        have HP3 := Aside0.mk HP2
        clear HP2 ha
        go_wp2_with fail
        go_ret
        exact ⟨by rw [HP3.out]; rfl, HL.out.2.drawn HD.out⟩
      | false =>
        rw [ha] at HP2
        have HP3 := Aside0.mk HP2
        clear HP2 ha
        go_wp2_with fail
        go_ret
        exact ⟨by rw [HP3.out]; rfl, HL.out.2.drawn HD.out⟩
    | false =>
      rw [hr] at HR
      have HP : Aside0 (plainP s = false) := ⟨by rw [plainP, hr]; simp⟩
      clear hr
      go_enter Tryd.func12, Tryd.ntmps12
      go_wp2_with (go_at_call 27; refine (HR.out _ h).mono ?_; rintro e w1 ⟨rfl, h1⟩)
      go_ret
      exact ⟨by rw [HP.out]; rfl, h1⟩
  · have HP : Aside0 (plainP s = false) := ⟨by rw [plainP, decide_eq_false h2, Bool.false_and]⟩
    go_enter Tryd.func12, Tryd.ntmps12
    go_wp2_with fail
    go_ret
    exact ⟨by rw [HP.out]; rfl, h⟩
end Go.Proofs.YtiddhdhojhggeaaDoor.My
