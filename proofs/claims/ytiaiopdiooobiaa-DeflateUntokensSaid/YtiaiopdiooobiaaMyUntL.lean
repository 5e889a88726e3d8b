/- DeflateUntokens: which tokens are a text's, and which text's. -/
import Derived.Test.YtiaiopdiooobiaaMyUnt
import Derived.Test.YtiaiopdiooobiaaMyTokL
import Derived.Test.YtiaiopdiooobiaaPDeflateUntokensx3
import Derived.Lib.SmallJoins
import Derived.Deep.Strs
import Derived.ChangeOld
namespace Go.Proofs.Ytiaiopdiooobiaa.My
open Go.RowKit Go.ChangeShapes Go.WideShapes Go.ChangeAt Go.Proofs.YtiaiopdiooobiaaW.PrintWords Go.Proofs.YtiaiopdiooobiaaW.PrintLast Go.Proofs.YtiaiopdiooobiaaW.PrintMore Go.Proofs.Ytiaiopdiooobiaa.PDeflateUntokens
set_option linter.unusedVariables false
set_option linter.unusedSimpArgs false

theorem script_of_trod {H : Type} {enc : TypeId × Value → H} {W : World} {base fuel : Nat} {held : Bool} {v : Value} {x : DataW H × List MemPlace}
    (h : DataW.trod enc Try.prog W base (fun _ => true) held fuel 26 [v] = some x) : ∃ A cap l, v = .slice A l.length cap ∧ l.length ≤ cap ∧ TkR W A l ∧ True := by
  rcases DataW.trod_slice Try.underlying26 h with ⟨h0, _⟩ | ⟨ad, len, cap, elems, rest, n, _, h0, _, _, hl, _, hlen, hel, _, _⟩
  · simp only [List.cons.injEq, and_true] at h0
    exact ⟨none, 0, [], h0, Nat.le_refl _, fun i a h => by simp at h, trivial⟩
  · simp only [List.cons.injEq, and_true] at h0
    have hc3 : Program.cellsOf Try.prog 45 = 3 := by kernel_rfl
    have each : ∀ i, i < len → ∃ a : Ti, W.cell? (ad.add (i * 3)) = some (.int .u8 a.b) ∧ W.cell? ⟨(ad.add (i * 3)).block, (ad.add (i * 3)).off + 1, none⟩ = some (.int .i64 a.l) ∧ W.cell? ⟨(ad.add (i * 3)).block, (ad.add (i * 3)).off + 2, none⟩ = some (.int .i64 a.d) := by
      intro i hi
      obtain ⟨y, hy⟩ : ∃ y, elems[i]? = some y := ⟨_, List.getElem?_eq_getElem (by omega)⟩
      have hb := hel i hi
      rw [hy, Option.bind_eq_some_iff] at hb
      obtain ⟨cs, hcs, ht⟩ := hb
      rw [hc3] at hcs
      obtain ⟨_, hcl, hcc⟩ := World.cells?_some hcs
      obtain ⟨c0, c1, c2, rfl⟩ : ∃ c0 c1 c2, cs = [c0, c1, c2] := by
        match cs, hcl with
        | [c0, c1, c2], _ => exact ⟨c0, c1, c2, rfl⟩
      have q0 := hcc 0 (by decide)
      have q1 := hcc 1 (by decide)
      have q2 := hcc 2 (by decide)
      obtain ⟨y0, y1, y2, m, _, _, t0, t1, t2⟩ := Go.Deep.trod_struct3 Try.underlying45 ht
      have s1 : Program.cellsOf Try.prog 3 = 1 := by kernel_rfl
      have s2 : Program.cellsOf Try.prog 5 = 1 := by kernel_rfl
      simp only [s1, s2, List.drop_zero, List.drop_succ_cons, List.take_succ_cons, List.take_zero] at t0 t1 t2
      obtain ⟨bb, e0, _, _⟩ := DataW.trod_int Try.underlying5 t0
      obtain ⟨ll, e1, _, _⟩ := DataW.trod_int Try.underlying3 t1
      obtain ⟨dd, e2, _, _⟩ := DataW.trod_int Try.underlying3 t2
      simp only [List.cons.injEq, and_true] at e0 e1 e2
      subst e0 e1 e2
      refine ⟨⟨bb, ll, dd⟩, ?_, ?_, ?_⟩
      · simpa [Addr.add] using q0
      · simpa [Addr.add] using q1
      · simpa [Addr.add] using q2
    obtain ⟨f, hf⟩ : ∃ f : Nat → Ti, ∀ i, i < len → W.cell? (ad.add (i * 3)) = some (.int .u8 (f i).b) ∧ W.cell? ⟨(ad.add (i * 3)).block, (ad.add (i * 3)).off + 1, none⟩ = some (.int .i64 (f i).l) ∧ W.cell? ⟨(ad.add (i * 3)).block, (ad.add (i * 3)).off + 2, none⟩ = some (.int .i64 (f i).d) :=
      ⟨fun i => if hi : i < len then (each i hi).choose else ⟨0, 0, 0⟩, fun i hi => by simpa only [dif_pos hi] using (each i hi).choose_spec⟩
    have hll : ((List.range len).map f).length = len := by simp
    refine ⟨some ad, cap, (List.range len).map f, by rw [hll]; exact h0, by rw [hll]; exact hl, ?_, trivial⟩
    intro i a h
    have hi := (List.getElem?_eq_some_iff.1 h).1
    rw [hll] at hi
    rw [List.getElem?_map, List.getElem?_range hi] at h
    simp at h
    subst h
    exact ⟨ad, rfl, hf i hi⟩
theorem num_f (c : Int) (w : World) : Calls Try.prog 13 #[errW (optE c)] w fun e w' => e = .returned (.int .i64 c) ∧ ∃ k, w' = w.drewN k := by
  have h := crossdocknum_Num.calls (optE c) c w (by unfold crossdocknum_Num.f optE; by_cases h : c = 0 <;> simp [h])
  refine h.mono ?_
  rintro e w' ⟨rfl, ⟨k, rfl⟩⟩
  exact ⟨rfl, k, rfl⟩
set_option maxHeartbeats 4000000 in
set_option maxRecDepth 100000 in
theorem untokens_walk (A : Option Addr) (cap : Nat) (l : List Ti) (w : World) (hcap : l.length ≤ cap) (hs : TkR w A l) (_ : True) :
    Calls Try.prog 4 #[.slice A l.length cap] w fun e w' => e = .returned (.bool true) ∧ Below w.heap.size w w' := by
  have HA : Aside0 (∀ w : World, Calls Try.prog 6 #[] w fun e w' => e = .returned (.bool true) ∧ Below w.heap.size w w') := ⟨alive_calls⟩
  have HS := Aside0.mk hs
  have HC := Aside0.mk hcap
  by_cases h1 : l.length ≤ 200
  · obtain ⟨n, hn⟩ : ∃ n, n = l.length := ⟨_, rfl⟩
    rw [← hn] at h1 HC ⊢
    have b3 : (n : Int) ≤ 200 := by omega
    have HN := Aside0.mk hn
    have HLe := Aside0.mk h1
    obtain ⟨o, ho⟩ : ∃ o, o = (unt l []).1 := ⟨_, rfl⟩
    obtain ⟨E, hE⟩ : ∃ E, E = (unt l []).2 := ⟨_, rfl⟩
    have hub := unt_bad l []
    rw [← ho, ← hE] at hub
    have HUn : Aside0 (∀ w1, TkR w1 A l → Calls Try.prog 11 #[.slice A n cap] w1 fun e w' => ∃ A' c', e = .returned (.tuple #[.slice A' o.length c', errW (optE E)]) ∧ (Kd.int .u8).C w' A' o.length o ∧ o.length ≤ c' ∧ Below w1.heap.size w1 w') := ⟨fun w1 h => by rw [ho, hE]; exact untokens_calls w1 A cap n l h HN.out.symm HC.out (by have := HLe.out; omega)⟩
    have HDoc : Aside0 (∀ w1, TkR w1 A l → Calls Try.prog 7 #[.slice A n cap] w1 fun e w' => ∃ A' c', e = .returned (.slice A' n c') ∧ w'.ownsRow w1.heap.size 31 3 (.slice A' n c') n (tiCells l) ∧ Below w1.heap.size w1 w') := ⟨fun w1 h => document_calls w1 A cap l n HN.out.symm h (by have := HLe.out; omega)⟩
    have HRef : Aside0 (∀ w1 A1 c1, TkR w1 A1 l → n ≤ c1 → Calls Try.prog 12 #[.slice A1 n c1] w1 fun e w' => ∃ A' c', e = .returned (.tuple #[.slice A' o.length c', .int .i64 E]) ∧ (Kd.int .u8).C w' A' o.length o ∧ o.length ≤ c' ∧ Below w1.heap.size w1 w') := ⟨fun w1 A1 c1 h hc => by rw [ho, hE]; exact refUnt_calls w1 A1 c1 n l h HN.out.symm hc (by have := HLe.out; omega)⟩
    have HNum : Aside0 (∀ w1, Calls Try.prog 13 #[errW (optE E)] w1 fun e w' => e = .returned (.int .i64 E) ∧ ∃ k, w' = w1.drewN k) := ⟨num_f E⟩
    have HBy : Aside0 (∀ (w : World) (A1 A2 : Option Addr) (d1 d2 : Nat), (Kd.int .u8).C w A1 o.length o → (Kd.int .u8).C w A2 o.length o → o.length ≤ d1 → o.length ≤ d2 → Calls Try.prog 10 #[.slice A1 o.length d1, .slice A2 o.length d2] w fun r w' => r = .returned (.bool true) ∧ ∃ k, w' = w.drewN k) := by
      refine ⟨fun w A1 A2 d1 d2 h1 h2 h3 h4 => ?_⟩
      refine (MyDocTok.crossdocknum_Bytes.calls A1 d1 o A2 d2 o true w h1 h3 h2 h4 (by unfold MyDocTok.crossdocknum_Bytes.f; simp)).mono ?_
      rintro e w' ⟨rfl, ⟨k, rfl⟩⟩
      exact ⟨rfl, k, rfl⟩
    have HO9 : Aside0 (∀ w' A', (Kd.int .u8).C w' A' o.length o → o.length ≤ 9223372036854775807) := ⟨fun w' A' h => h.2.1⟩
    have e1 : (E == E) = true := by simp
    generalize hX : errW (optE E) = X at *
    have HX := Aside0.mk hX
    clear hs hcap h1 hn ho hE hX
    rcases hub with h0 | ⟨h0, h0'⟩
    · have e2 : (E != 0) = false := by rw [h0]; rfl
      have e3 : (E == 0) = true := by rw [h0]; rfl
      clear h0
      go_enter Try.func4, Try.ntmps4
      go_wp2_with (first
        | (go_at_call 6; refine (HA.out _).mono ?_; rintro e w1 ⟨rfl, hb⟩; have hs1 := Aside0.mk (HS.out.below hb); replace hb := Aside0.mk hb)
        | (go_at_call 11; refine (HUn.out _ hs1.out).mono ?_; rintro e w2 ⟨A2, c2, rfl, hC2, hc2, hb2⟩; have hs2 := Aside0.mk (hs1.out.below hb2); replace hC2 := Aside0.mk hC2; replace hc2 := Aside0.mk hc2; replace hb2 := Aside0.mk hb2)
        | (go_at_call 7; refine (HDoc.out _ hs2.out).mono ?_; rintro e w3 ⟨A3, c3, rfl, ho3, hb3⟩; replace ho3 := Aside0.mk ho3; replace hb3 := Aside0.mk hb3)
        | (go_at_call 12; refine (HRef.out _ _ _ (tk_of_own (by have := ho3.out; rw [HN.out] at this; exact this)) (own_le ho3.out)).mono ?_; rintro e w4 ⟨A4, c4, rfl, hC4, hc4, hb4⟩; replace hC4 := Aside0.mk hC4; replace hc4 := Aside0.mk hc4; replace hb4 := Aside0.mk hb4)
        | (go_at_call 13; refine (HNum.out _).mono ?_; rintro e w5 ⟨rfl, k5, rfl⟩)
        | (go_at_call 10; refine (HBy.out _ _ _ _ _ (Kd.C_drewN (Kd.C_below (Kd.C_below hC2.out hb3.out) hb4.out) _) (Kd.C_drewN hC4.out _) hc2.out hc4.out).mono ?_; rintro e w6 ⟨rfl, k6, rfl⟩))
      go_ret
      refine ⟨rfl, ?_⟩
      have B1 := hb.out
      have B2 := B1.trans (hb2.out.mono B1.size)
      have B3 := B2.trans (hb3.out.mono B2.size)
      have B4 := B3.trans (hb4.out.mono B3.size)
      first
        | exact pw_below_drewN B4 _
        | exact pw_below_drewN (pw_below_drewN B4 _) _
    · subst h0
      have e2 : (E != 0) = true := bne_iff_ne.2 (by omega)
      have e3 : (E == 0) = false := beq_eq_false_iff_ne.2 (by omega)
      clear h0'
      go_enter Try.func4, Try.ntmps4
      go_wp2_with (first
        | (go_at_call 6; refine (HA.out _).mono ?_; rintro e w1 ⟨rfl, hb⟩; have hs1 := Aside0.mk (HS.out.below hb); replace hb := Aside0.mk hb)
        | (go_at_call 11; refine (HUn.out _ hs1.out).mono ?_; rintro e w2 ⟨A2, c2, rfl, hC2, hc2, hb2⟩; have hs2 := Aside0.mk (hs1.out.below hb2); replace hC2 := Aside0.mk hC2; replace hc2 := Aside0.mk hc2; replace hb2 := Aside0.mk hb2)
        | (go_at_call 7; refine (HDoc.out _ hs2.out).mono ?_; rintro e w3 ⟨A3, c3, rfl, ho3, hb3⟩; replace ho3 := Aside0.mk ho3; replace hb3 := Aside0.mk hb3)
        | (go_at_call 12; refine (HRef.out _ _ _ (tk_of_own (by have := ho3.out; rw [HN.out] at this; exact this)) (own_le ho3.out)).mono ?_; rintro e w4 ⟨A4, c4, rfl, hC4, hc4, hb4⟩; replace hC4 := Aside0.mk hC4; replace hc4 := Aside0.mk hc4; replace hb4 := Aside0.mk hb4)
        | (go_at_call 13; refine (HNum.out _).mono ?_; rintro e w5 ⟨rfl, k5, rfl⟩))
      go_ret
      refine ⟨rfl, ?_⟩
      have B1 := hb.out
      have B2 := B1.trans (hb2.out.mono B1.size)
      have B3 := B2.trans (hb3.out.mono B2.size)
      have B4 := B3.trans (hb4.out.mono B3.size)
      exact pw_below_drewN B4 _
  · have b3 : (200 : Int) < ((l.length : Nat) : Int) := by omega
    clear h1
    go_enter Try.func4, Try.ntmps4
    go_wp2_with (go_at_call 6; refine (HA.out _).mono ?_; rintro e w1 ⟨rfl, hb⟩; replace hb := Aside0.mk hb)
    go_ret
    exact ⟨rfl, hb.out⟩
end Go.Proofs.Ytiaiopdiooobiaa.My
