/- The walk of path.Clean: what any text is made, plainly. -/
import Derived.Test.YtiddhdhojhggeaaDoorMyPathW
import Derived.Test.YtiddhdhojhggeaaDoorMyDocOdd
import Derived.WalkSmall
namespace Go.Proofs.YtiddhdhojhggeaaDoor.My
open Go.RowKit Go.Lib Go.Proofs.YtiddhdhojhggeaaDoorW.PrintWords Go.Proofs.YtiddhdhojhggeaaDoorW.PrintLast Go.Proofs.YtiddhdhojhggeaaDoorW.PrintMore Go.Proofs.YtiddhdhojhggeaaDoor.MyDocOdd Go.Proofs.YtiddhdhojhggeaaDoor.PPathParts
set_option linter.unusedVariables false
set_option linter.unusedSimpArgs false

def oddP (p : List UInt8) : Bool := decide (p = [] ∨ p = [46] ∨ p = [46, 46])
def cleanL : List (List UInt8) → List (List UInt8) → Option (List (List UInt8))
  | acc, [] => some acc
  | acc, p :: r => if p = [46, 46] then (if acc = [] then none else cleanL acc.dropLast r) else if oddP p = true then cleanL acc r else cleanL (acc ++ [p]) r
def cleanA (s : ByteArray) : List UInt8 × Option Int :=
  if rightP s = true then match cleanL [] (parts s.data.toList) with
    | none => ([], some 13)
    | some l => if 255 < (glue l).length then ([], some 3) else (glue l, none)
  else ([], some 9)
theorem glue_len (M : Nat) : ∀ l : List (List UInt8), (∀ p ∈ l, p.length ≤ M) → (glue l).length ≤ l.length * (M + 1)
  | [], _ => by simp [glue]
  | [p], h => by have := h p (by simp); simp [glue]; omega
  | p :: q :: r, h => by
    have h1 := h p (by simp)
    have h2 := glue_len M (q :: r) (fun x hx => h x (List.mem_cons_of_mem _ hx))
    rw [glue, List.length_append, List.length_cons]
    rw [show (p :: q :: r).length = (q :: r).length + 1 from rfl, Nat.add_mul]
    omega
theorem parts_le : ∀ (a : List UInt8), ∀ p ∈ parts a, p.length ≤ a.length
  | [], p, hp => by simp [parts] at hp; simp [hp]
  | c :: a, p, hp => by
    by_cases h : c = 47
    · subst h
      rw [parts_slash] at hp
      rcases List.mem_cons.1 hp with rfl | hp
      · simp
      · have := parts_le a p hp; simp; omega
    · obtain ⟨q, qs, e⟩ := parts_form a
      rw [parts_other h e] at hp
      rcases List.mem_cons.1 hp with rfl | hp
      · have := parts_le a q (by simp [e])
        simp; omega
      · have := parts_le a p (by simp [e, hp])
        simp; omega
theorem odd_calls (x : ByteArray) (w : World) : Calls Tryd.prog 28 #[.string x] w fun e w' => e = .returned (.bool (oddP x.data.toList)) ∧ Drawn0 w w' := by
  refine path_odd.calls x _ w ?_
  unfold path_odd.f oddP
  rw [ByteArray.toList_eq]
  by_cases h1 : x.data.toList = []
  · rw [if_pos h1]; simp [h1]
  · rw [if_neg h1]
    by_cases h2 : x.data.toList = [46]
    · rw [if_pos h2]; simp [h2]
    · rw [if_neg h2]
      simp only [h1, h2, false_or, Option.some.injEq]
      rw [Bool.eq_iff_iff]
      simp
theorem R_pop {e base g cap : Nat} {w : World} {acc : List ByteArray} (h : Kd.R Kd.string e w base (fun _ => True) (.slice (some ⟨g, 0, none⟩) acc.length cap) acc) (hp : 0 < acc.length) :
    Kd.R Kd.string e w base (fun _ => True) (.slice (some ⟨g, 0, none⟩) (acc.length - 1) cap) acc.dropLast := by
  rw [← List.length_dropLast]
  have ho := Kd.own_of_R h
  refine Kd.R_of_own ?_ (fun _ _ => trivial)
  obtain ⟨n, hn⟩ : ∃ n, acc.length = n + 1 := ⟨acc.length - 1, by omega⟩
  have e1 : acc = acc.dropLast ++ [acc.getLast (by intro h; simp [h] at hp)] := (List.dropLast_concat_getLast _).symm
  have hd : acc.dropLast.length = n := by rw [List.length_dropLast]; omega
  rw [hd]
  rw [hn] at ho
  rw [e1, encs_append] at ho
  exact ownsRow_pop (by rw [encs_length, hd]; omega) ho

theorem wrong_ok (s : ByteArray) (w0 w : World) (h : Ok w0 w) (hs : s.size ≤ 1000000) (hr : rightP s = false) :
    Calls Tryd.prog 10 #[.string s] w fun e w' => e = .returned (.tuple #[.string ⟨#[]⟩, errV (some 9)]) ∧ Ok w0 w' := by
  have HR : Aside0 (∀ w, Ok w0 w → Calls Tryd.prog 27 #[.string s] w fun e w' => e = .returned (.bool false) ∧ Ok w0 w') := ⟨fun w h => hr ▸ right_ok s w0 w h hs⟩
  clear hr
  go_enter Tryd.func10, Tryd.ntmps10
  go_wp2_with (go_at_call 27; refine (HR.out _ h).mono ?_; rintro e w' ⟨rfl, h2⟩)
  go_ret2
  exact ⟨rfl, h2⟩
theorem join_calls (acc : List ByteArray) (A : Option Addr) (c base : Nat) (w : World) (hv : Kd.R Kd.string 9 w base (fun _ => True) (.slice A acc.length c) acc) (hn : acc.length ≤ 1000001) (hs : ∀ p ∈ acc, p.size ≤ 1000000) :
    Calls Tryd.prog 29 #[.slice A acc.length c, .string ⟨#[47]⟩] w fun e w' => ∃ r : ByteArray, e = .returned (.string r) ∧ r.data.toList = glue (lists acc) ∧ Below w.heap.size w w' := by
  rcases Nat.eq_zero_or_pos acc.length with h0 | hp
  · have : acc = [] := List.eq_nil_of_length_eq_zero h0
    subst this
    exact (Tryd.strings_Join_none A c _ w).mono fun e w' ⟨he, hw⟩ => ⟨⟨#[]⟩, he, rfl, by rw [hw]; exact Below.refl _ _⟩
  · obtain ⟨g4, cap4, e4, _, hlt, _⟩ := Kd.R_form hv hp
    cases e4
    obtain ⟨_, hc, hC⟩ := Kd.R_reads' hv
    have hg := glue_len 1000000 (lists acc) (fun p hp => by
      obtain ⟨q, hq, rfl⟩ := List.mem_map.1 hp
      have := hs q hq
      rw [data_length]; exact this)
    have hm : (lists acc).length = acc.length := by simp
    refine (Tryd.strings_Join g4 0 c acc ⟨#[47]⟩ w (fun j x hx => ?_) hlt (by omega) hc ?_).mono ?_
    · obtain ⟨hj, hx⟩ := List.getElem?_eq_some_iff.1 hx
      obtain ⟨ad, e1, h2⟩ := Kd.at_string hC (j : Int) (by omega) (by omega)
      cases e1
      rw [rdOf_nat acc j hj, add_plain, hx] at h2
      simpa using h2
    · rw [show (⟨#[47]⟩ : ByteArray).data.toList = [47] from rfl, join_glue]
      have : acc.length * (1000000 + 1) ≤ 1000001 * 1000001 := Nat.mul_le_mul_right _ hn
      rw [hm] at hg
      exact Nat.le_trans hg (Nat.le_trans this (by decide))
    · rintro e w' ⟨rfl, hb⟩
      refine ⟨_, rfl, ?_, hb⟩
      rw [show (⟨#[47]⟩ : ByteArray).data.toList = [47] from rfl, join_glue]
def CleanPost (s : ByteArray) (w0 : World) (e : Ending) (w' : World) : Prop := ∃ r : ByteArray, e = .returned (.tuple #[.string r, errV (cleanA s).2]) ∧ r.data.toList = (cleanA s).1 ∧ Ok w0 w'
theorem clean_ok (s : ByteArray) (w0 w : World) (h : Ok w0 w) (hs : s.size ≤ 1000000) :
    Calls Tryd.prog 10 #[.string s] w (CleanPost s w0) := by
  cases hr : rightP s with
  | false =>
    refine (wrong_ok s w0 w h hs hr).mono ?_
    rintro e w' ⟨rfl, h2⟩
    have ha : cleanA s = ([], some 9) := by rw [cleanA, if_neg (by simp [hr])]
    exact ⟨⟨#[]⟩, by rw [ha], by rw [ha], h2⟩
  | true =>
    have HR : Aside0 (∀ w, Ok w0 w → Calls Tryd.prog 27 #[.string s] w fun e w' => e = .returned (.bool true) ∧ Ok w0 w') := ⟨fun w h => hr ▸ right_ok s w0 w h hs⟩
    have HA : Aside0 (cleanA s = match cleanL [] (parts s.data.toList) with
      | none => ([], some 13)
      | some l => if 255 < (glue l).length then ([], some 3) else (glue l, none)) := ⟨by rw [cleanA, if_pos hr]⟩
    clear hr
    go_enter Tryd.func10, Tryd.ntmps10
    go_wp2_with (go_at_call 27; refine (HR.out _ h).mono ?_; rintro e w1 ⟨rfl, h1⟩)
    refine (split_ok s w0 _ h1 hs).mono ?_
    rintro e w2 ⟨l, rfl, hl, hn, hc, hb, h2⟩
    have hlc : l.length ≤ 1000001 := hn
    have HL := Aside0.mk (And.intro hl (And.intro hc (And.intro h2 (C_strs w2 _ l _ _ hc (by omega)))))
    have HS : Aside0 (∀ p ∈ l, p.size ≤ 1000000) := ⟨fun p hp => by
      have := parts_le s.data.toList p.data.toList (by rw [← hl]; exact List.mem_map.2 ⟨p, hp, rfl⟩)
      rw [data_length, data_length] at this
      omega⟩
    clear hl hc hb h2 h1 h HR hn
    go_wp2_with fail
    obtain ⟨ps, hps⟩ : ∃ ps : List (List UInt8), ps = lists l := ⟨_, rfl⟩
    go_loopw [4, 15] (fun v i wr => ∃ (k : Nat) (acc : List ByteArray), i = .int .i64 k ∧ k ≤ l.length ∧ Aside0 (Kd.R Kd.string 9 wr w2.heap.size (fun _ => True) v acc) ∧ Aside0 (Below w2.heap.size w2 wr) ∧
        Aside0 (cleanL (lists acc) ((lists l).drop k) = cleanL [] (lists l)) ∧ Aside0 (acc.length ≤ k ∧ ∀ p ∈ acc, p.size ≤ 1000000)) (fun _ i _ => l.length - (Go.RowKit.intOf i).toNat)
    case atStart => exact ⟨0, [], rfl, Nat.zero_le _, ⟨Kd.R_nil _ _ _ _ _⟩, ⟨Below.refl _ _⟩, ⟨rfl⟩, ⟨Nat.le_refl _, by simp⟩⟩
    case round =>
      clear hps ps
      obtain ⟨k, acc, rfl, hk, HV, HB, HC, HN⟩ := hrel
      obtain ⟨A, c, rfl, hac, hA⟩ := Kd.R_reads HV.out
      have hle : acc.length ≤ 1000001 := by have := HN.out.1; omega
      clear hA
      by_cases hlt : k < l.length
      · have hcell : wr.cell? ⟨w1.heap.size, k, none⟩ = some (.string l[k]) := by
          have h1 := Kd.C_below HL.out.2.2.2 (HB.out.mono (Nat.le_refl _))
          obtain ⟨ad, e1, h2⟩ := Kd.at_string h1 (k : Int) (by omega) (by omega)
          cases e1
          rw [rdOf_nat l k hlt, add_plain] at h2
          simpa using h2
        have hd := lists_drop l k hlt
        obtain ⟨x, hx⟩ : ∃ x, x = l[k] := ⟨_, rfl⟩
        rw [← hx] at hcell hd
        have HX : Aside0 (x.size ≤ 1000000) := ⟨by rw [hx]; exact HS.out _ (List.getElem_mem hlt)⟩
        clear hx
        have hC := HC.out
        rw [hd] at hC
        clear HC hd
        rw [cleanL] at hC
        by_cases hdd : x.data.toList = [46, 46]
        · have f1 : (x.toList == ([46, 46] : List UInt8)) = true := by rw [ByteArray.toList_eq]; exact beq_iff_eq.2 hdd
          rw [if_pos hdd] at hC
          by_cases h0 : acc = []
          · subst h0
            have HC2 := Aside0.mk hC
            clear hC hdd
            go_wp2_with fail
            go_ret2
            have hA : cleanA s = ([], some 13) := by
              rw [HA.out, ← HL.out.1, ← HC2.out]
              simp
            exact ⟨⟨#[]⟩, by rw [hA]; rfl, by rw [hA], HL.out.2.2.1.next HB.out⟩
          · have hp : 0 < acc.length := by
              rcases Nat.eq_zero_or_pos acc.length with h | h
              · exact absurd (List.eq_nil_of_length_eq_zero h) h0
              · exact h
            have f2 : ((acc.length : Int) == 0) = false := beq_eq_false_iff_ne.2 (by omega)
            rw [if_neg (by simpa using h0)] at hC
            have HC2 := Aside0.mk hC
            clear hC hdd h0
            obtain ⟨g4, cap4, e4, _, _, _⟩ := Kd.R_form HV.out hp
            cases e4
            go_wp2_with fail
            have HV2 := Aside0.mk (R_pop HV.out hp)
            clear HV
            have e5 : Aside0 (acc.length - 1 = acc.dropLast.length) := ⟨by rw [List.length_dropLast]⟩
            have HN2 : Aside0 (acc.dropLast.length ≤ k + 1 ∧ ∀ p ∈ acc.dropLast, p.size ≤ 1000000) := ⟨by have := HN.out.1; have := e5.out; omega, fun p hp => HN.out.2 p (List.mem_of_mem_take (by rw [List.dropLast_eq_take] at hp; exact hp))⟩
            have HC3 : Aside0 (cleanL (lists acc.dropLast) ((lists l).drop (k + 1)) = cleanL [] (lists l)) := ⟨by rw [← HC2.out, lists, List.map_dropLast]⟩
            go_roundw
            case rel => exact ⟨k + 1, acc.dropLast, by go_num, by omega, HV2, HB, HC3, HN2⟩
            case measure => simp [Go.RowKit.intOf]; omega
        · have f1 : (x.toList == ([46, 46] : List UInt8)) = false := by rw [ByteArray.toList_eq]; exact beq_eq_false_iff_ne.2 hdd
          rw [if_neg hdd] at hC
          cases ho : oddP x.data.toList with
          | true =>
            have HO : Aside0 (∀ w, Calls Tryd.prog 28 #[.string x] w fun e w' => e = .returned (.bool true) ∧ Drawn0 w w') := ⟨fun w => ho ▸ odd_calls x w⟩
            rw [if_pos ho] at hC
            have HC2 := Aside0.mk hC
            clear hC hdd ho
            go_wp2_with (go_at_call 28; refine (HO.out _).mono ?_; rintro e w4 ⟨rfl, ⟨⟨n4, rfl⟩⟩⟩)
            have HV2 := Aside0.mk (Kd.R_drewN HV.out n4)
            have HB2 := Aside0.mk (pw_below_drewN HB.out n4)
            have HN2 : Aside0 (acc.length ≤ k + 1 ∧ ∀ p ∈ acc, p.size ≤ 1000000) := ⟨by have := HN.out.1; omega, HN.out.2⟩
            go_roundw
            case rel => exact ⟨k + 1, acc, by go_num, by omega, HV2, HB2, HC2, HN2⟩
            case measure => simp [Go.RowKit.intOf]; omega
          | false =>
            have HO : Aside0 (∀ w, Calls Tryd.prog 28 #[.string x] w fun e w' => e = .returned (.bool false) ∧ Drawn0 w w') := ⟨fun w => ho ▸ odd_calls x w⟩
            rw [if_neg (by rw [ho]; simp)] at hC
            have HC2 := Aside0.mk hC
            clear hC hdd ho
            go_wp2_with (first
              | (go_at_call 28; refine (HO.out _).mono ?_; rintro e w4 ⟨rfl, ⟨⟨n4, rfl⟩⟩⟩)
              | ((with_reducible refine gate_builtin (b := .append) (xs := #[.tmp 40, .tmp 42]) rfl ?_); at_builtin
                 refine Kd.R_append Kd.string (w0 := w2) w2.heap.size rfl (.tmp 40) (.tmp 42) 35 9 (.string ⟨#[]⟩) 16 rfl Tryd.underlying35 info9 rfl (by decide) (by omega) (Value.slice A acc.length c) acc x [.string x] (fun _ => True) (fun _ => False) rfl rfl rfl (fun _ hk => hk.elim) (fun _ _ => trivial) (Kd.R_drewN HV.out n4) (pw_below_drewN HB.out n4) HB.out.size (by have := HN.out.1; omega) ?_
                 intro v5 w5 hv5 hb5 hg5 hat5
                 have HV5 := Aside0.mk hv5
                 have HB5 := Aside0.mk hb5
                 clear hv5 hb5 hg5 hat5))
            have HN2 : Aside0 ((acc ++ [x]).length ≤ k + 1 ∧ ∀ p ∈ acc ++ [x], p.size ≤ 1000000) := ⟨by have := HN.out.1; simp; omega, fun p hp => by
              rcases List.mem_append.1 hp with h | h
              · exact HN.out.2 p h
              · rw [List.mem_singleton.1 h]; exact HX.out⟩
            have HC3 : Aside0 (cleanL (lists (acc ++ [x])) ((lists l).drop (k + 1)) = cleanL [] (lists l)) := ⟨by rw [← HC2.out]; simp⟩
            go_roundw
            case rel => exact ⟨k + 1, acc ++ [x], by go_num, by omega, HV5, HB5, HC3, HN2⟩
            case measure => simp [Go.RowKit.intOf]; omega
      · have hkl : k = l.length := by omega
        have hC := HC.out
        rw [hkl, lists_end l l.length (Nat.le_refl _), cleanL] at hC
        have HC2 := Aside0.mk hC
        have HKL := Aside0.mk hkl
        clear HC hC hkl
        go_wp2_with fail
        refine (join_calls acc A c _ _ HV.out hle HN.out.2).mono ?_
        rintro e w4 ⟨r, rfl, hr, hb4⟩
        have H4 := HL.out.2.2.1.next (HB.out.trans (hb4.mono HB.out.size))
        have hrs : r.size = (glue (lists acc)).length := by rw [← hr, data_length]
        have HR := Aside0.mk (And.intro hr hrs)
        have hm : r.size ≤ 1000001 * 1000001 := by
          have hg := glue_len 1000000 (lists acc) (fun p hp => by
            obtain ⟨q, hq, rfl⟩ := List.mem_map.1 hp
            have := HN.out.2 q hq
            rw [data_length]; exact this)
          have h1 : (lists acc).length = acc.length := by simp
          have h2 : acc.length * (1000000 + 1) ≤ 1000001 * 1000001 := Nat.mul_le_mul_right _ hle
          rw [h1] at hg
          omega
        have HM := Aside0.mk hm
        clear hr hb4 hrs hm
        by_cases h255 : 255 < r.size
        · have hA : Aside0 (cleanA s = ([], some 3)) := ⟨by
            rw [HA.out, ← HL.out.1, ← HC2.out]
            have h1 : 255 < (glue (lists acc)).length := by rw [← HR.out.2]; exact h255
            simp only
            rw [if_pos h1]⟩
          go_wp2_with fail
          go_ret2
          exact ⟨⟨#[]⟩, by rw [hA.out]; rfl, by rw [hA.out], H4⟩
        · have hA : Aside0 (cleanA s = (glue (lists acc), none)) := ⟨by
            rw [HA.out, ← HL.out.1, ← HC2.out]
            have h1 : ¬ 255 < (glue (lists acc)).length := by rw [← HR.out.2]; exact h255
            simp only
            rw [if_neg h1]⟩
          go_wp2_with fail
          go_ret2
          exact ⟨r, by rw [hA.out]; rfl, by rw [hA.out]; exact HR.out.1, H4⟩
end Go.Proofs.YtiddhdhojhggeaaDoor.My
