/- The walk of the document's Clean. -/
import Derived.Test.YtiddhdhojhggeaaDoorMyPathD
namespace Go.Proofs.YtiddhdhojhggeaaDoor.My
open Go.RowKit Go.Lib Go.Proofs.YtiddhdhojhggeaaDoorW.PrintWords Go.Proofs.YtiddhdhojhggeaaDoorW.PrintLast Go.Proofs.YtiddhdhojhggeaaDoorW.PrintMore Go.Proofs.YtiddhdhojhggeaaDoor.PPathParts Go.Proofs.YtiddhdhojhggeaaDoor.MyDocParts Go.Proofs.YtiddhdhojhggeaaDoor.MyDocClean
set_option linter.unusedVariables false
set_option linter.unusedSimpArgs false

theorem R_pop' {e base g cap : Nat} {ok : Nat → Prop} {w : World} {acc : List ByteArray} (h : Kd.R Kd.string e w base ok (.slice (some ⟨g, 0, none⟩) acc.length cap) acc) (hp : 0 < acc.length) :
    Kd.R Kd.string e w base ok (.slice (some ⟨g, 0, none⟩) (acc.length - 1) cap) acc.dropLast := by
  have hk : ok g := h.1 g (by simp [Value.ownBlock])
  have h2 := R_pop (Kd.R_mono h (fun _ _ => trivial)) hp
  exact Kd.R_of_own (Kd.own_of_R h2) (fun k hk2 => by
    have : g = k := by simpa [Value.ownBlock] using hk2
    subst this; exact hk)

def DocPost (s : ByteArray) (w0 : World) (e : Ending) (w' : World) : Prop := ∃ r : ByteArray, e = .returned (.tuple #[.string r, .int .i64 (numE (cleanA s).2)]) ∧ r.data.toList = (cleanA s).1 ∧ Ok w0 w'
theorem docClean_ok (s : ByteArray) (w0 w : World) (h : Ok w0 w) (hs : s.size ≤ 999999) :
    Calls Tryd.prog 11 #[.string s] w (DocPost s w0) := by
  have HR : Aside0 (∀ w, Calls Tryd.prog 30 #[.string s] w fun e w' => e = .returned (.bool (rightP s)) ∧ Drawn0 w w') := ⟨fun w => crossdockref18_right.calls _ s _ w (docRight_f s (by omega))⟩
  cases hr : rightP s with
  | false =>
    have ha : Aside0 (cleanA s = ([], some 9)) := ⟨by rw [cleanA, if_neg (by simp [hr])]⟩
    rw [hr] at HR
    clear hr
    go_enter Tryd.func11, Tryd.ntmps11
    go_wp2_with (go_at_call 30; refine (HR.out _).mono ?_; rintro e w1 ⟨rfl, hd⟩; have h1 := h.drawn hd; clear hd)
    go_ret2
    exact ⟨⟨#[]⟩, by rw [ha.out]; rfl, by rw [ha.out], h1⟩
  | true =>
    have HA : Aside0 (cleanA s = match cleanL [] (parts s.data.toList) with
      | none => ([], some 13)
      | some l => if 255 < (glue l).length then ([], some 3) else (glue l, none)) := ⟨by rw [cleanA, if_pos hr] <;> rfl⟩
    rw [hr] at HR
    clear hr
    obtain ⟨l, p1, p2⟩ := parts_f s (by omega)
    have HP : Aside0 (∀ w, Calls Tryd.prog 16 #[.string s] w fun e w' => ∃ v0_ : Value, e = .returned (v0_) ∧ Kd.R Kd.string 9 w' w.heap.size (fun _ => True) v0_ l ∧ Below w.heap.size w w') := ⟨fun w => crossdockref18_Parts.calls _ s l w p1⟩
    have hlen : l.length ≤ 1000001 := by
      have h1 := congrArg List.length p2
      have h2 := parts_len s.data.toList
      rw [data_length] at h2
      simp at h1
      omega
    have hpos : 0 < l.length := by
      obtain ⟨p, ps, e⟩ := parts_form s.data.toList
      have h1 := congrArg List.length p2
      rw [e] at h1
      simp at h1
      omega
    have HS : Aside0 (∀ p ∈ l, p.size ≤ 1000000) := ⟨fun p hp => by
      have := parts_le s.data.toList p.data.toList (by rw [← p2]; exact List.mem_map.2 ⟨p, hp, rfl⟩)
      rw [data_length, data_length] at this
      omega⟩
    have HL := Aside0.mk p2
    clear p1 p2
    go_enter Tryd.func11, Tryd.ntmps11
    go_wp2_with (go_at_call 30; refine (HR.out _).mono ?_; rintro e w1 ⟨rfl, hd⟩; have h1 := h.drawn hd; clear hd)
    refine (HP.out _).mono ?_
    rintro e w2 ⟨v2, rfl, hR2, hb2⟩
    obtain ⟨gp, cp, rfl, hgp, hgl, hgc⟩ := Kd.R_form hR2 hpos
    obtain ⟨_, hcp, hC2⟩ := Kd.R_reads' hR2
    have hb12 : Below w1.heap.size w1 w2 := (below_alloc (Below.refl _ _) _).trans (hb2.mono (by simp))
    have h2 := h1.next hb12
    have hA0 : w2.heap[w1.heap.size]? = some (.cells #[] 9 (0, 0)) := (hb2.block _ (by simp)).trans (alloc_self _ _)
    have HV0 : Aside0 (Kd.R Kd.string 9 w2 w1.heap.size (fun k => k ≠ gp) (.slice (some ⟨w1.heap.size, 0, none⟩) 0 0) []) := ⟨by
      refine Kd.R_of_own ⟨rfl, .inr ⟨w1.heap.size, 0, #[], rfl, Nat.le_refl _, hA0, Nat.le_refl _, by simp [maxLen], by simp, by simp [encs]⟩⟩ (fun k hk => ?_)
      have e1 : w1.heap.size = k := by simpa [Value.ownBlock] using hk
      simp at hgp
      omega⟩
    have HG : Aside0 (w1.heap.size ≤ w2.heap.size ∧ w1.heap.size < gp) := ⟨by have := hb12.size; exact this, by simp at hgp; omega⟩
    have HPc : Aside0 (gp < w2.heap.size ∧ ∀ j (h : j < l.length), w2.cell? ⟨gp, j, none⟩ = some (.string l[j])) := ⟨hgl, fun j hj => by
      obtain ⟨ad, e1, h3⟩ := Kd.at_string hC2 (j : Int) (by omega) (by omega)
      cases e1
      rw [rdOf_nat l j hj, add_plain] at h3
      simpa using h3⟩
    have H2 := Aside0.mk h2
    have H1 := Aside0.mk h1
    have HB12 := Aside0.mk hb12
    clear hR2 hb2 hgp hgl hgc hC2 hb12 h2 h1 hA0 h
    go_wp2_with fail
    go_loopw [4, 15] (fun v i wr => ∃ (k : Nat) (acc : List ByteArray), i = .int .i64 k ∧ k ≤ l.length ∧ Aside0 (Kd.R Kd.string 9 wr w1.heap.size (fun k => k ≠ gp) v acc) ∧ Aside0 (Below w1.heap.size w1 wr) ∧
        Aside0 (cleanL (lists acc) ((lists l).drop k) = cleanL [] (lists l)) ∧ Aside0 (acc.length ≤ k ∧ ∀ p ∈ acc, p.size ≤ 1000000) ∧ Aside0 (gp < wr.heap.size ∧ ∀ j (h : j < l.length), wr.cell? ⟨gp, j, none⟩ = some (.string l[j]))) (fun _ i _ => l.length - (Go.RowKit.intOf i).toNat)
    case atStart => exact ⟨0, [], rfl, Nat.zero_le _, HV0, HB12, ⟨rfl⟩, ⟨Nat.le_refl _, by simp⟩, HPc⟩
    case round =>
      clear HV0 HPc
      obtain ⟨k, acc, rfl, hk, HV, HB, HC, HN, HPc⟩ := hrel
      obtain ⟨A, c, rfl, hac, hA⟩ := Kd.R_reads HV.out
      have hle : acc.length ≤ 1000001 := by have := HN.out.1; omega
      have HAc := Aside0.mk hA
      clear hA
      by_cases hlt : k < l.length
      · have hcell := HPc.out.2 k hlt
        have hd := lists_drop l k hlt
        obtain ⟨x, hx⟩ : ∃ x, x = l[k] := ⟨_, rfl⟩
        rw [← hx] at hcell hd
        have HX : Aside0 (x.size ≤ 1000000) := ⟨by rw [hx]; exact HS.out _ (List.getElem_mem hlt)⟩
        clear hx
        have hC := HC.out
        rw [hd] at hC
        clear HC hd
        rw [cleanL] at hC
        by_cases c1 : x.data.toList = []
        · have f1 : (x.toList == ([] : List UInt8)) = true := by rw [ByteArray.toList_eq]; exact beq_iff_eq.2 c1
          have f1' : x.toList.isEmpty = true := by rw [ByteArray.toList_eq, c1]; rfl
          rw [if_neg (by rw [c1]; simp), if_pos (by simp [oddP, c1])] at hC
          have HC2 := Aside0.mk hC
          have HN2 : Aside0 (acc.length ≤ k + 1 ∧ ∀ p ∈ acc, p.size ≤ 1000000) := ⟨by have := HN.out.1; omega, HN.out.2⟩
          clear hC c1
          go_wp2_with fail
          go_roundw
          case rel => exact ⟨k + 1, acc, by go_num, by omega, HV, HB, HC2, HN2, HPc⟩
          case measure => simp [Go.RowKit.intOf]; omega
        · have f1 : (x.toList == ([] : List UInt8)) = false := by rw [ByteArray.toList_eq]; exact beq_eq_false_iff_ne.2 c1
          have f1' : x.toList.isEmpty = false := by
            rw [ByteArray.toList_eq]
            cases hxl : x.data.toList with
            | nil => exact absurd hxl c1
            | cons _ _ => rfl
          by_cases c2 : x.data.toList = [46]
          · have f2 : (x.toList == ([46] : List UInt8)) = true := by rw [ByteArray.toList_eq]; exact beq_iff_eq.2 c2
            rw [if_neg (by rw [c2]; simp), if_pos (by simp [oddP, c2])] at hC
            have HC2 := Aside0.mk hC
            have HN2 : Aside0 (acc.length ≤ k + 1 ∧ ∀ p ∈ acc, p.size ≤ 1000000) := ⟨by have := HN.out.1; omega, HN.out.2⟩
            clear hC c1 c2
            go_wp2_with fail
            go_roundw
            case rel => exact ⟨k + 1, acc, by go_num, by omega, HV, HB, HC2, HN2, HPc⟩
            case measure => simp [Go.RowKit.intOf]; omega
          · have f2 : (x.toList == ([46] : List UInt8)) = false := by rw [ByteArray.toList_eq]; exact beq_eq_false_iff_ne.2 c2
            by_cases c3 : x.data.toList = [46, 46]
            · have f3 : (x.toList == ([46, 46] : List UInt8)) = true := by rw [ByteArray.toList_eq]; exact beq_iff_eq.2 c3
              have f3' : (!x.toList == ([46, 46] : List UInt8)) = false := by rw [f3]; rfl
              rw [if_pos c3] at hC
              by_cases h0 : acc = []
              · subst h0
                have HC2 := Aside0.mk hC
                clear hC c1 c2 c3
                go_wp2_with fail
                go_ret2
                have hA : cleanA s = ([], some 13) := by
                  rw [HA.out, ← HL.out, ← HC2.out]
                  simp
                exact ⟨⟨#[]⟩, by rw [hA]; rfl, by rw [hA], H1.out.next HB.out⟩
              · have hp : 0 < acc.length := by
                  rcases Nat.eq_zero_or_pos acc.length with h | h
                  · exact absurd (List.eq_nil_of_length_eq_zero h) h0
                  · exact h
                have g2 : ((acc.length : Int) == 0) = false := beq_eq_false_iff_ne.2 (by omega)
                rw [if_neg (by simpa using h0)] at hC
                have HC2 := Aside0.mk hC
                clear hC c1 c2 c3 h0
                obtain ⟨g4, cap4, e4, _, _, _⟩ := Kd.R_form HV.out hp
                cases e4
                go_wp2_with fail
                have HV2 := Aside0.mk (R_pop' HV.out hp)
                clear HV
                have e5 : Aside0 (acc.length - 1 = acc.dropLast.length) := ⟨by rw [List.length_dropLast]⟩
                have HN2 : Aside0 (acc.dropLast.length ≤ k + 1 ∧ ∀ p ∈ acc.dropLast, p.size ≤ 1000000) := ⟨by have := HN.out.1; have := e5.out; omega, fun p hp => HN.out.2 p (List.mem_of_mem_take (by rw [List.dropLast_eq_take] at hp; exact hp))⟩
                have HC3 : Aside0 (cleanL (lists acc.dropLast) ((lists l).drop (k + 1)) = cleanL [] (lists l)) := ⟨by rw [← HC2.out, lists, List.map_dropLast]⟩
                go_roundw
                case rel => exact ⟨k + 1, acc.dropLast, by go_num, by omega, HV2, HB, HC3, HN2, HPc⟩
                case measure => simp [Go.RowKit.intOf]; omega
            · have f3 : (x.toList == ([46, 46] : List UInt8)) = false := by rw [ByteArray.toList_eq]; exact beq_eq_false_iff_ne.2 c3
              have f3' : (!x.toList == ([46, 46] : List UInt8)) = true := by rw [f3]; rfl
              rw [if_neg c3, if_neg (by simp [oddP, c1, c2, c3])] at hC
              have HC2 := Aside0.mk hC
              clear hC c1 c2 c3
              go_wp2_with ((with_reducible refine gate_builtin (b := .append) (xs := #[.tmp 27, .tmp 29]) rfl ?_); at_builtin
                           refine Kd.R_append Kd.string (w0 := w1) w1.heap.size rfl (.tmp 27) (.tmp 29) 35 9 (.string ⟨#[]⟩) 16 rfl Tryd.underlying35 info9 rfl (by decide) (by omega) (Value.slice A acc.length c) acc x [.string x] (fun k => k ≠ gp) (fun _ => False) rfl rfl rfl (fun _ hk => hk.elim) (fun k hk => by have := HPc.out.1; omega) HV.out HB.out HB.out.size (by have := HN.out.1; omega) ?_
                           intro v5 w5 hv5 hb5 hg5 hat5
                           have HV5 := Aside0.mk hv5
                           have HB5 := Aside0.mk hb5
                           have HG5 := Aside0.mk hg5
                           clear hv5 hb5 hg5 hat5)
              have HN2 : Aside0 ((acc ++ [x]).length ≤ k + 1 ∧ ∀ p ∈ acc ++ [x], p.size ≤ 1000000) := ⟨by have := HN.out.1; simp; omega, fun p hp => by
                rcases List.mem_append.1 hp with h | h
                · exact HN.out.2 p h
                · rw [List.mem_singleton.1 h]; exact HX.out⟩
              have HC3 : Aside0 (cleanL (lists (acc ++ [x])) ((lists l).drop (k + 1)) = cleanL [] (lists l)) := ⟨by rw [← HC2.out]; simp⟩
              have HPc5 : Aside0 (gp < w5.heap.size ∧ ∀ j (h : j < l.length), w5.cell? ⟨gp, j, none⟩ = some (.string l[j])) := ⟨Nat.lt_of_lt_of_le HPc.out.1 HG5.out.size, fun j hj => by
                rw [World.cell?_of_block (HG5.out.block gp HPc.out.1 (fun e => HV.out.1 gp e.symm rfl))]
                exact HPc.out.2 j hj⟩
              go_roundw
              case rel => exact ⟨k + 1, acc ++ [x], by go_num, by omega, HV5, HB5, HC3, HN2, HPc5⟩
              case measure => simp [Go.RowKit.intOf]; omega
      · have hkl : k = l.length := by omega
        have hC := HC.out
        rw [hkl, lists_end l l.length (Nat.le_refl _), cleanL] at hC
        have HC2 := Aside0.mk hC
        have HKL := Aside0.mk hkl
        clear HC hC hkl
        obtain ⟨r, hr1, hr⟩ := docJoin_f acc hle HN.out.2
        have HJ : Aside0 (Calls Tryd.prog 17 #[.slice A acc.length c] wr fun e w' => e = .returned (.string r) ∧ Drawn0 wr w') := ⟨crossdockref18_Join.calls _ A c acc r wr HAc.out hac hr1⟩
        have hrs : r.size = (glue (lists acc)).length := by rw [← hr, data_length]
        have hm : r.size ≤ 1000001 * 1000001 := by rw [hrs]; exact size_glue acc hle HN.out.2
        have HR2 := Aside0.mk (And.intro hr hrs)
        clear hr1 hr hrs
        by_cases h255 : 255 < r.size
        · have hA : Aside0 (cleanA s = ([], some 3)) := ⟨by
            rw [HA.out, ← HL.out, ← HC2.out]
            have h1 : 255 < (glue (lists acc)).length := by rw [← HR2.out.2]; exact h255
            simp only
            rw [if_pos h1]⟩
          go_wp2_with (go_at_call 17; refine HJ.out.mono ?_; rintro e w4 ⟨rfl, hd⟩; have HD := Aside0.mk hd; clear hd)
          go_ret2
          exact ⟨⟨#[]⟩, by rw [hA.out]; rfl, by rw [hA.out], (H1.out.next HB.out).drawn HD.out⟩
        · have hA : Aside0 (cleanA s = (glue (lists acc), none)) := ⟨by
            rw [HA.out, ← HL.out, ← HC2.out]
            have h1 : ¬ 255 < (glue (lists acc)).length := by rw [← HR2.out.2]; exact h255
            simp only
            rw [if_neg h1]⟩
          go_wp2_with (go_at_call 17; refine HJ.out.mono ?_; rintro e w4 ⟨rfl, hd⟩; have HD := Aside0.mk hd; clear hd)
          go_ret2
          exact ⟨r, by rw [hA.out]; rfl, by rw [hA.out]; exact HR2.out.1, (H1.out.next HB.out).drawn HD.out⟩
end Go.Proofs.YtiddhdhojhggeaaDoor.My
