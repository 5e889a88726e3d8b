/- DeflateTokens: any text's tokens. -/
import Derived.Test.YtiaiopdiooobiaaMyTokW
import Derived.Test.YtiaiopdiooobiaaMyTokD
import Derived.Test.YtiaiopdiooobiaaMyDocu
import Derived.Test.YtiaiopdiooobiaaMyArgs
import Derived.Lib.SlBytesConst
namespace Go.Proofs.Ytiaiopdiooobiaa.My
open Go.RowKit Go.Proofs.YtiaiopdiooobiaaW.PrintWords Go.Proofs.YtiaiopdiooobiaaW.PrintLast Go.Proofs.YtiaiopdiooobiaaW.PrintMore Go.Proofs.Ytiaiopdiooobiaa.PDeflateTokens Go.Proofs.Ytiaiopdiooobiaa.MyDocTok
set_option linter.unusedVariables false
set_option linter.unusedSimpArgs false

def toTi (k : Tk) : Ti := ⟨k.b, k.l, k.d⟩
theorem tk_ti (l : List Tk) : tkCells l = tiCells (l.map toTi) := by
  induction l with
  | nil => rfl
  | cons a t ih => simp only [tkCells, tiCells, List.flatMap_cons, List.map_cons] at *; rw [ih]; rfl
theorem tokens_ti (w : World) (A : Option Addr) (c : Nat) (t : List Int) (n : Nat) (ht : (Kd.int .u8).C w A n t) (hn : n ≤ 16000000) :
    Calls Try.prog 8 #[.slice A n c] w fun e w' => ∃ A' c', e = .returned (.slice A' ((toks t).map toTi).length c') ∧ TkR w' A' ((toks t).map toTi) ∧ Below w.heap.size w w' := by
  refine (tokens_calls w A c t n ht hn).mono ?_
  rintro e w' ⟨v, rfl, ho, hb⟩
  obtain ⟨A', c', rfl⟩ := own_slice ho
  rw [tk_ti] at ho
  rw [List.length_map]
  refine ⟨A', c', rfl, ?_, hb⟩
  have : w'.ownsRow w.heap.size 45 3 (.slice A' ((toks t).map toTi).length c') ((toks t).map toTi).length (tiCells ((toks t).map toTi)) := by rw [List.length_map]; exact ho
  exact tk_of_own this
theorem ref_ti (w : World) (A : Option Addr) (c : Nat) (t : List Int) (n : Nat) (ht : (Kd.int .u8).C w A n t) (hc : n ≤ c) (hn : n ≤ 16000000) :
    Calls Try.prog 9 #[.slice A n c] w fun e w' => ∃ A' c', e = .returned (.slice A' ((toks t).map toTi).length c') ∧ TkR w' A' ((toks t).map toTi) ∧ Below w.heap.size w w' := by
  have hl : t.length = n := ht.1
  obtain ⟨K, hK⟩ := tokens_f t (by omega)
  have h := crossdockref09_Tokens.calls K A c t _ w (by rw [hl]; exact ht) (by rw [hl]; exact hc) hK
  rw [hl] at h
  refine h.mono ?_
  rintro e w' ⟨v, rfl, hr, hb⟩
  obtain ⟨A', c', rfl, _, hC⟩ := Kd.R_reads hr
  refine ⟨A', c', by rw [List.length_map, List.length_map], fun i k hk => ?_, hb⟩
  rw [List.getElem?_map, Option.map_eq_some_iff] at hk
  obtain ⟨x, hx, rfl⟩ := hk
  have hi : i < (toks t).length := (List.getElem?_eq_some_iff.1 hx).1
  obtain ⟨ad, e, h0, h1, h2⟩ := at_T31 hC (i : Int) (by omega) (by rw [List.length_map]; omega)
  have hrd : rd_T31 ((toks t).map toS) (i : Int) = toS x := by simp [rd_T31, List.getD_eq_getElem?_getD, hx]
  rw [hrd, Int.toNat_natCast] at h0 h1 h2
  exact ⟨ad, e, h0, h1, h2⟩
theorem toks_a : (toks [97, 97, 97, 97]).map toTi = [⟨97, 0, 0⟩, ⟨0, 3, 1⟩] := by kernel_rfl
set_option maxHeartbeats 2000000 in
set_option maxRecDepth 100000 in
theorem alive_calls (w : World) : Calls Try.prog 6 #[] w fun e w' => e = .returned (.bool true) ∧ Below w.heap.size w w' := by
  have HT : Aside0 (∀ W : World, (Kd.int .u8).C W (some ⟨w.heap.size, 0, none⟩) 4 [97, 97, 97, 97] → Calls Try.prog 8 #[.slice (some ⟨w.heap.size, 0, none⟩) 4 4] W fun e w' => ∃ A' c', e = .returned (.slice A' 2 c') ∧ TkR w' A' [⟨97, 0, 0⟩, ⟨0, 3, 1⟩] ∧ Below W.heap.size W w') := by
    refine ⟨fun W hC => ?_⟩
    have ht := tokens_ti _ _ 4 _ 4 hC (by decide)
    rw [toks_a] at ht
    exact ht
  have kc := fun (C : Array Value) (n c : Nat) => Lib.run_convert_bytes_const (P := Try.prog) w 22 5 C n c Try.underlying22 Try.underlying5
  have u45 := Try.underlying45
  have u5 := Try.underlying5
  have u3 := Try.underlying3
  have HW := Aside0.mk (fun o : Obj => below_alloc (Below.refl w.heap.size w) o)
  go_enter Try.func6, Try.ntmps6
  go_wp2_with (go_at_call 8; refine (HT.out _ (C_block _ _ _ _ _ _ (alloc_self _ _) (by decide))).mono ?_; rintro e w1 ⟨A1, c1, rfl, hR, hb⟩; obtain ⟨ad, rfl, x0, x1, x2⟩ := hR 0 _ rfl; obtain ⟨ad', e1, y0, y1, y2⟩ := hR 1 _ rfl; cases e1; rw [show ad.add (0 * 3) = ad by simp [Addr.add]] at x0 x1 x2; rw [show ad.add (1 * 3) = ⟨ad.block, ad.off + 3, none⟩ by simp [Addr.add]] at y0 y1 y2; replace hb := Aside0.mk hb; clear hR)
  go_ret
  exact ⟨rfl, (HW.out _).trans (hb.out.mono (HW.out _).size)⟩
set_option maxHeartbeats 4000000 in
set_option maxRecDepth 100000 in
theorem tokens_walk (Ab : Option Addr) (lb cb : Nat) (zb : List Int) (w : World) (hrow : IsRow .u8 w Ab lb cb zb) (_hcb : lb * 1 ≤ 140737488351232) :
    Calls Try.prog 3 #[.slice Ab lb cb] w fun e w' => e = .returned (.bool true) ∧ Below w.heap.size w w' := by
  have HA : Aside0 (∀ w : World, Calls Try.prog 6 #[] w fun e w' => e = .returned (.bool true) ∧ Below w.heap.size w w') := ⟨alive_calls⟩
  obtain ⟨t, hzl, hzc, hzC, hzw⟩ := row_C hrow
  rw [hzl] at hzC
  have HC := Aside0.mk hzC
  have HCC := Aside0.mk hzc
  have HL := Aside0.mk hzl
  clear hrow hzw hzl hzC hzc
  by_cases h1 : lb ≤ 1500
  · have b3 : (lb : Int) ≤ 1500 := by omega
    have HLB := Aside0.mk h1
    obtain ⟨T, hT⟩ : ∃ T, T = (toks t).map toTi := ⟨_, rfl⟩
    have HTok : Aside0 (∀ w1 A1 c1, (Kd.int .u8).C w1 A1 lb t → Calls Try.prog 8 #[.slice A1 lb c1] w1 fun e w' => ∃ A' c', e = .returned (.slice A' T.length c') ∧ TkR w' A' T ∧ Below w1.heap.size w1 w') := ⟨fun w1 A1 c1 h => hT ▸ tokens_ti w1 A1 c1 t lb h (by omega)⟩
    have HRef : Aside0 (∀ w1, (Kd.int .u8).C w1 Ab lb t → Calls Try.prog 9 #[.slice Ab lb cb] w1 fun e w' => ∃ A' c', e = .returned (.slice A' T.length c') ∧ TkR w' A' T ∧ Below w1.heap.size w1 w') := ⟨fun w1 h => hT ▸ ref_ti w1 Ab cb t lb h HCC.out (by omega)⟩
    have hTl : T.length ≤ 1000000 := by
      rw [hT, List.length_map]
      have : ∀ f a, (toksF t f a).length ≤ f := by
        intro f
        induction f with
        | zero => intro a; simp [toksF]
        | succ f ih => intro a; unfold toksF; split
                       · have := ih (a + max (tok t a).l 1); simp; omega
                       · simp
      have h2 := this t.length 0
      have := HL.out
      unfold toks
      omega
    have HTl := Aside0.mk hTl
    obtain ⟨m, hm⟩ : ∃ m, m = T.length := ⟨_, rfl⟩
    rw [← hm] at HTok HRef HTl
    have HM := Aside0.mk hm
    have bm : (m : Int) ≤ 1000000 := by have := HTl.out; omega
    have HDoc : Aside0 (∀ w1 A1 c1, TkR w1 A1 T → Calls Try.prog 7 #[.slice A1 m c1] w1 fun e w' => ∃ A' c', e = .returned (.slice A' m c') ∧ w'.ownsRow w1.heap.size 31 3 (.slice A' m c') m (tiCells T) ∧ Below w1.heap.size w1 w') := ⟨fun w1 A1 c1 h => document_calls w1 A1 c1 T m HM.out.symm h (by have := HTl.out; omega)⟩
    have HBy : Aside0 (∀ (w : World) (A1 A2 : Option Addr) (d1 d2 : Nat), (Kd.int .u8).C w A1 lb t → (Kd.int .u8).C w A2 lb t → lb ≤ d1 → lb ≤ d2 → Calls Try.prog 10 #[.slice A1 lb d1, .slice A2 lb d2] w fun r w' => r = .returned (.bool true) ∧ ∃ k, w' = w.drewN k) := by
      refine ⟨fun w A1 A2 d1 d2 h1 h2 h3 h4 => ?_⟩
      have h := MyDocTok.crossdocknum_Bytes.calls A1 d1 t A2 d2 t true w (by rw [HL.out]; exact h1) (by rw [HL.out]; exact h3) (by rw [HL.out]; exact h2) (by rw [HL.out]; exact h4) (by unfold crossdocknum_Bytes.f; simp)
      rw [HL.out] at h
      refine h.mono ?_
      rintro e w' ⟨rfl, ⟨k, rfl⟩⟩
      exact ⟨rfl, k, rfl⟩
    have e1 : ((m : Int) != (m : Int)) = false := by simp
    clear h1 hT hTl hm
    go_enter Try.func3, Try.ntmps3
    go_wp2_with (first
      | (go_at_call 6; refine (HA.out _).mono ?_; rintro e w1 ⟨rfl, hb⟩; replace hb := Aside0.mk hb)
      | ((with_reducible refine gate_dst (N := 14) rfl ?_); refine print_append_row (w0 := w) w.heap.size rfl (.tmp 12) (.tmp 13) 22 5 .u8 1 rfl Try.underlying22 info_u8 (by decide) _ [] t Ab _ cb rfl rfl (own_lit w1 w.heap.size 5 .u8 [] hb.out.size (by decide)) (reads_of_C (Kd.C_alloc (Kd.C_below HC.out hb.out) _)) (below_alloc hb.out _) (by have := hb.out.size; simp; omega) (by have := HLB.out; simp; omega) ?_; intro v1 w2 ho hb2 hg hk; clear hg hk; rw [List.nil_append, HL.out] at ho; obtain ⟨A5, c5, rfl⟩ := own_slice ho; have HB2 := Aside0.mk hb2; have HO5 := Aside0.mk ho; clear hb2 ho)
      | (go_at_call 8; refine (HTok.out _ _ _ (C_of_readsInt (own_reads' HO5.out))).mono ?_; rintro e w3 ⟨A6, c6, rfl, hR6, hb3⟩; replace hR6 := Aside0.mk hR6; replace hb3 := Aside0.mk hb3)
      | (go_at_call 7; refine (HDoc.out _ _ _ hR6.out).mono ?_; rintro e w4 ⟨A7, c7, rfl, ho7, hb4⟩; replace ho7 := Aside0.mk ho7; replace hb4 := Aside0.mk hb4)
      | (go_at_call 9; refine (HRef.out _ (Kd.C_below (Kd.C_below (Kd.C_below HC.out HB2.out) hb3.out) hb4.out)).mono ?_; rintro e w5 ⟨A8, c8, rfl, hR8, hb5⟩; replace hR8 := Aside0.mk hR8; replace hb5 := Aside0.mk hb5)
      | (go_at_call 10; refine (HBy.out _ _ _ _ _ (Kd.C_below (Kd.C_below (Kd.C_below (C_of_readsInt (own_reads' HO5.out)) hb3.out) hb4.out) hb5.out) (Kd.C_below (Kd.C_below (Kd.C_below (Kd.C_below HC.out HB2.out) hb3.out) hb4.out) hb5.out) (own_le HO5.out) HCC.out).mono ?_; rintro e w6 ⟨rfl, k6, rfl⟩))
    have HB5 := Aside0.mk (((HB2.out.trans (hb3.out.mono HB2.out.size)).trans (hb4.out.mono (Nat.le_trans HB2.out.size hb3.out.size))).trans (hb5.out.mono (Nat.le_trans (Nat.le_trans HB2.out.size hb3.out.size) hb4.out.size)))
    have hr7 : TkR w4 A7 T := tk_of_own (by have := ho7.out; rw [HM.out] at this; exact this)
    have HR7 := Aside0.mk (hr7.below hb5.out)
    go_loopg [33] m (fun kq v33 wr => ∃ i : Nat, v33 = .int .i64 i ∧ i ≤ m ∧ Aside0 (kq = m - i) ∧ Aside0 (∃ q, wr = w5.drewN q))
    case atStart => exact ⟨0, rfl, Nat.zero_le _, ⟨rfl⟩, ⟨_, rfl⟩⟩
    case round =>
      obtain ⟨i, rfl, hi, HK, HW⟩ := hrel
      obtain ⟨q, rfl⟩ := HW.out
      by_cases hlt : i < m
      · have hlt' : (i : Int) < (m : Int) := by omega
        obtain ⟨k, hk⟩ : ∃ k, T[i]? = some k := ⟨_, List.getElem?_eq_getElem (by have := HM.out; omega)⟩
        obtain ⟨a7, rfl, x0, x1, x2⟩ := HR7.out i k hk
        obtain ⟨a8, rfl, y0, y1, y2⟩ := hR8.out i k hk
        have hne := ne_ref k.b k.l k.d
        have HI := Aside0.mk (show i + 1 ≤ m by omega)
        clear hi hlt hk
        go_wp2_with fail
        go_region
        all_goals (go_wp2_with fail)
        all_goals go_roundg (gk - 1)
        case measure => have := HK.out; have := HI.out; omega
        case rel => exact ⟨i + 1, by go_num, HI.out, ⟨by have := HK.out; omega⟩, ⟨_, rfl⟩⟩
      · have hni : ¬ ((i : Int) < (m : Int)) := by omega
        clear hi hlt
        go_wp2_with fail
        go_ret
        exact ⟨rfl, pw_below_drewN HB5.out _⟩
  · have b3 : (1500 : Int) < (lb : Int) := by omega
    clear h1
    go_enter Try.func3, Try.ntmps3
    go_wp2_with (go_at_call 6; refine (HA.out _).mono ?_; rintro e w1 ⟨rfl, hb⟩; replace hb := Aside0.mk hb)
    go_ret
    exact ⟨rfl, hb.out⟩
end Go.Proofs.Ytiaiopdiooobiaa.My
