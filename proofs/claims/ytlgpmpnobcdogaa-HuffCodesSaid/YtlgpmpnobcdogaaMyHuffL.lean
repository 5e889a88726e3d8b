/- The law HuffCodes: its walk. -/
import Derived.Test.YtlgpmpnobcdogaaMyDocD
import Derived.Test.YtlgpmpnobcdogaaMyOf
import Derived.Test.YtlgpmpnobcdogaaMyNumE
import Derived.Test.YtlgpmpnobcdogaaMyArgs
namespace Go.Proofs.Ytlgpmpnobcdogaa.My
open Go.RowKit Go.Proofs.Ytlgpmpnobcdogaa.Huf Go.Proofs.Ytlgpmpnobcdogaa.PHuffCodes Go.Proofs.Ytlgpmpnobcdogaa.MyDocCodes Go.Proofs.YtlgpmpnobcdogaaW.PrintWords Go.Proofs.YtlgpmpnobcdogaaW.PrintLast Go.Proofs.YtlgpmpnobcdogaaW.PrintMore
set_option linter.unusedVariables false
set_option linter.unusedSimpArgs false

theorem alive_new : newR [2, 1, 3, 3] false = none := by decide +kernel
theorem alive_code : code [2, 1, 3, 3] 2 = 6 := by decide +kernel
set_option maxHeartbeats 1000000 in
theorem alive_calls (w : World) : Calls Try.prog 7 #[] w fun e w' => e = .returned (.bool true) ∧ Below w.heap.size w w' := by
  have HN : Aside0 (Calls Try.prog 8 #[.slice (some ⟨w.heap.size, 0, none⟩) 4 4, .bool false] (w.alloc (.cells (nums .i64 [2, 1, 3, 3]).toArray 3)) fun e w' => ∃ g, e = .returned (.tuple #[.pointer (some ⟨g, 0, none⟩), .nilIface]) ∧ Below (w.alloc (.cells (nums .i64 [2, 1, 3, 3]).toArray 3)).heap.size (w.alloc (.cells (nums .i64 [2, 1, 3, 3]).toArray 3)) w' ∧
      CodeAt w' (w.alloc (.cells (nums .i64 [2, 1, 3, 3]).toArray 3)).heap.size w'.heap.size g [2, 1, 3, 3]) := ⟨by
    have h : IRow (w.alloc (.cells (nums .i64 [2, 1, 3, 3]).toArray 3)) w.heap.size 3 [2, 1, 3, 3] := alloc_self _ _
    refine (new_calls _ (some ⟨w.heap.size, 0, none⟩) 4 4 [2, 1, 3, 3] false (h.reads (by decide)) (by decide) rfl (fun h => by cases h)).mono ?_
    rintro e w' ⟨v, rfl, hb, _, h2⟩
    obtain ⟨g, rfl, hc⟩ := h2 alive_new
    exact ⟨g, by rw [alive_new]; rfl, hb, hc⟩⟩
  go_enter Try.func7, Try.ntmps7
  go_wp2_with fail
  refine (HN.out).mono ?_
  rintro e w2 ⟨g, rfl, hb, hc⟩
  have HO := Aside0.mk (of_calls w2 _ _ g _ hc (by decide) 2 (by decide))
  have HB := Aside0.mk (below_then (below_alloc (Below.refl _ _) _) (by rw [alloc_size]; omega) hb)
  clear hb hc
  go_wp2_with fail
  refine (HO.out).mono ?_
  rintro e w3 ⟨rfl, hb3⟩
  rw [alive_code]
  have HB3 := Aside0.mk (below_then HB.out HB.out.size hb3)
  clear hb3
  have e3 : List.getD [(2 : Int), 1, 3, 3] 2 0 = 3 := rfl
  rw [e3]
  go_wp2_with fail
  go_ret
  exact ⟨rfl, HB3.out⟩
theorem own_none {w : World} {base n c : Nat} {e : TypeId} {size : Nat} {A : Option Addr} {xs : List Value} (h : w.ownsRow base e size (.slice A n c) n xs) : A = none → n = 0 ∧ c = 0 := by
  rintro rfl
  rcases h.2 with ⟨h1, h2⟩ | ⟨g, cap, cur, h1, _⟩
  · injection h1 with _ _ h3
    exact ⟨h2, h3⟩
  · injection h1 with h1
    cases h1
theorem newR_ne (L : List Int) (lone : Bool) (c : Int) (h : newR L lone = some c) : c ≠ 0 := by
  unfold newR at h
  split at h
  · cases h; decide
  · split at h
    · cases h; decide
    · split at h
      · cases h; decide
      · split at h
        · cases h; decide
        · cases h
theorem newR_none (L : List Int) (lone : Bool) (h : newR L lone = none) : L.length ≤ 320 ∧ okL L = true := by
  unfold newR at h
  split at h
  · cases h
  · split at h
    · cases h
    · next h1 h2 => exact ⟨by omega, by simpa using h2⟩
theorem newR_over (L : List Int) (lone : Bool) (h : newR L lone = none) : anyOver L 15 1 = false := by
  cases hov : anyOver L 15 1 with
  | false => rfl
  | true =>
    unfold newR at h
    split at h
    · cases h
    · split at h
      · cases h
      · rw [if_pos (by unfold numR; rw [if_pos hov]; decide)] at h
        cases h
theorem code_lt (L : List Int) (lone : Bool) (h : newR L lone = none) (s : Nat) (hs : s < L.length) : code L s < 1000000 := by
  obtain ⟨h1, h2⟩ := newR_none L lone h
  have h3 := newR_over L lone h
  have h4 := getD_ok L h2 s hs
  obtain ⟨n, hn⟩ := Int.eq_ofNat_of_zero_le h4.1
  unfold code
  rw [hn, Int.toNat_natCast]
  show (if n = 0 then 0 else fst L n + cn (L.take s) n) < 1000000
  split
  · decide
  · have h5 := fst_le L n (fun j h1 h2 => over_all L 15 1 h3 j h1 (by omega))
    have h6 := pow15 n _ (by omega) h5
    have h7 := cn_take_le L s n
    have h8 := cn_le L n
    have h9 : 2 ^ n ≤ 2 ^ 15 := Nat.pow_le_pow_right (by decide) (by omega)
    have h10 : (2 : Nat) ^ 15 = 32768 := rfl
    omega
theorem wantL_len (L : List Int) : (wantL L).length = L.length := by simp [wantL]
theorem wantL_get (L : List Int) (s : Nat) (h : s < L.length) : rdOf ByteArray.empty (wantL L) (s : Int) = rowOf L s := by
  unfold rdOf wantL
  simp [List.getD_eq_getElem?_getD, h]
theorem ints_refl (L : List Int) (hl : L.length ≤ 1000000) : ∀ d k s, s + d = L.length → crossdocknum_Ints.l0 (k + d + 1) L L (L.length : Int) (s : Int) = some true
  | 0, k, s, hs => by
    simp only [crossdocknum_Ints.l0]
    rw [if_neg (by omega)]
  | d + 1, k, s, hs => by
    have ih := ints_refl L hl d k (s + 1) (by omega)
    rw [show k + (d + 1) + 1 = (k + d + 1) + 1 by omega]
    generalize k + d + 1 = q at *
    simp only [crossdocknum_Ints.l0]
    rw [if_pos (by omega), if_pos (by omega), if_pos (by omega), if_pos (by omega), if_pos trivial, wr1 s (by omega)]
    exact ih
theorem ints_yes (w : World) (A0 A1 : Option Addr) (c0 c1 n : Nat) (L : List Int) (hl : L.length = n) (hn : n ≤ 1000000) (h0 : (Kd.int .i64).C w A0 n L) (h1 : (Kd.int .i64).C w A1 n L) (h2 : n ≤ c0) (h3 : n ≤ c1) :
    Calls Try.prog 10 #[.slice A0 n c0, .slice A1 n c1] w fun e w' => e = .returned (.bool true) ∧ Below w.heap.size w w' := by
  subst hl
  refine (crossdocknum_Ints.calls (0 + L.length + 1) A0 c0 L A1 c1 L true w h0 h2 h1 h3 ?_).mono ?_
  · unfold crossdocknum_Ints.f
    rw [if_pos rfl]
    exact ints_refl L hn L.length 0 0 (by omega)
  · rintro e w' ⟨rfl, hd⟩
    exact ⟨rfl, hd.below⟩
theorem rows_call (w : World) (L : List Int) (s : Nat) (hok : okL L = true) (hs : s < L.length) (hc : code L s < 1000000) : Calls Try.prog 13 #[.int .i64 (code L s : Nat), .int .i64 (L.getD s 0)] w fun e w' => e = .returned (.string (rowOf L s)) ∧ Below w.heap.size w w' := by
  have h := getD_ok L hok s hs
  obtain ⟨n, hn⟩ := Int.eq_ofNat_of_zero_le h.1
  unfold rowOf
  rw [hn, Int.toNat_natCast]
  exact crossdocklaw07_row.calls (0 + n + 1) (code L s : Nat) n _ w (rowL (code L s) n 0 (by omega) (by omega))
set_option maxHeartbeats 40000000 in
set_option maxRecDepth 100000 in
theorem codes_walk (A : Option Addr) (len cap : Nat) (zs : List Int) (lone : Bool) (w : World) (hrow : IsRow .i64 w A len cap zs) (_hcb : len * 8 ≤ 140737488351232) :
    Calls Try.prog 3 #[.slice A len cap, .bool lone] w fun e w' => e = .returned (.bool true) ∧ Below w.heap.size w w' := by
  have HA : Aside0 (∀ w : World, Calls Try.prog 7 #[] w fun e w' => e = .returned (.bool true) ∧ Below w.heap.size w w') := ⟨alive_calls⟩
  obtain ⟨L, hzl, hzc, hzC, hzw⟩ := row_C hrow
  rw [hzl] at hzC
  have HC := Aside0.mk hzC
  have HCC := Aside0.mk hzc
  have HL := Aside0.mk hzl
  clear hrow hzw hzl hzC hzc
  by_cases h1 : len ≤ 330
  · have b3 : (len : Int) ≤ 330 := by omega
    have HLB := Aside0.mk h1
    clear h1
    go_enter Try.func3, Try.ntmps3
    go_wp2_with (first
      | (go_at_call 7; refine (HA.out _).mono ?_; rintro e w1 ⟨rfl, hb⟩; replace hb := Aside0.mk hb)
      | ((with_reducible refine gate_dst (N := 25) rfl ?_); refine print_append_row (w0 := w) w.heap.size rfl (.tmp 23) (.tmp 24) 22 3 .i64 8 rfl Try.underlying22 info_i64 (by decide) _ [] L A _ cap rfl rfl (own_lit w1 w.heap.size 3 .i64 [] hb.out.size (by decide)) (reads_of_C (Kd.C_alloc (Kd.C_below HC.out hb.out) _)) (below_alloc hb.out _) (by have := hb.out.size; simp; omega) (by have := HLB.out; simp; omega) ?_; intro v1 w2 ho hb2 hg hk; clear hg hk; rw [List.nil_append, HL.out] at ho; obtain ⟨A5, c5, rfl⟩ := own_slice ho; have HB2 := Aside0.mk hb2; have HO5 := Aside0.mk ho; clear hb2 ho))
    have hown := HO5.out
    have hcap5 := own_none hown
    obtain ⟨A6, c6, e6, hc6, hC6⟩ := own_slice' hown
    cases e6
    have HC5 := Aside0.mk hC6
    have hge5 := own_base hown
    have hlt5 := own_lt hown
    have HGE5 := Aside0.mk hge5
    refine (new_calls w2 A5 len c5 L lone hC6 (by have := HLB.out; omega) HL.out hcap5).mono ?_
    rintro e w3 ⟨v6, rfl, hb3, hv1, hv2⟩
    have HB3 := Aside0.mk (below_then HB2.out HB2.out.size hb3)
    have HB23 := Aside0.mk hb3
    obtain ⟨kd, hkd⟩ := doc_codes L lone
    have HDoc : Aside0 (∀ w4, Below w.heap.size w w4 → Calls Try.prog 9 #[.slice A len cap, .bool lone] w4 fun e w' => ∃ v0_ : Value, e = .returned (.tuple #[v0_, .int .i64 (docR L lone).2]) ∧ Kd.R Kd.string 9 w' w4.heap.size (fun _ => True) v0_ (docR L lone).1 ∧ Below w4.heap.size w4 w') := ⟨fun w4 hb => by
      have h := crossdockref07_Codes.calls kd A cap L lone (docR L lone).1 (docR L lone).2 w4 (by rw [HL.out]; exact Kd.C_below HC.out hb) (by rw [HL.out]; exact HCC.out) hkd
      rw [HL.out] at h
      exact h⟩
    have HInts : Aside0 (∀ w4, Below w3.heap.size w3 w4 → Calls Try.prog 10 #[.slice A5 len c5, .slice A len cap] w4 fun e w' => e = .returned (.bool true) ∧ Below w4.heap.size w4 w') := ⟨fun w4 hb =>
      ints_yes w4 A5 A c5 cap len L HL.out (by have := HLB.out; omega) (Kd.C_below (Kd.C_below HC5.out HB23.out) hb) (Kd.C_below HC.out (below_then HB3.out HB3.out.size hb)) hc6 HCC.out⟩
    clear hown hcap5 hC6 hge5 hb3 hkd
    cases hnew : newR L lone with
    | some cc =>
      have hcc := newR_ne L lone cc hnew
      have hv := hv1 (by rw [hnew]; simp)
      subst hv
      have hd : docR L lone = ([], cc) := by unfold docR; rw [hnew]
      rw [hd] at HDoc
      clear hv1 hv2 hd
      have HN : Aside0 (∀ w4, Calls Try.prog 11 #[errV (some cc)] w4 fun r w' => r = .returned (.int .i64 cc) ∧ w4 = w') := ⟨fun w4 => num_calls (some cc) w4 (fun c h => by cases h; exact hcc)⟩
      have hccb : (cc != 0) = true := bne_iff_ne.2 hcc
      have hccb2 : (cc == 0) = false := beq_eq_false_iff_ne.2 hcc
      have hcce : (cc != cc) = false := by simp
      simp only [errV] at HN ⊢
      go_wp2_with (first
        | (go_at_call 9; refine (HDoc.out _ HB3.out).mono ?_; rintro e w4 ⟨v0, rfl, hR, hb4⟩; replace hb4 := Aside0.mk hb4; clear hR)
        | (go_at_call 10; refine (HInts.out _ hb4.out).mono ?_; rintro e w5 ⟨rfl, hb5⟩; replace hb5 := Aside0.mk hb5)
        | (go_at_call 11; refine (HN.out _).mono ?_; rintro e w6 ⟨rfl, rfl⟩))
      go_ret
      exact ⟨rfl, below_then (below_then HB3.out HB3.out.size hb4.out) (Nat.le_trans HB3.out.size hb4.out.size) hb5.out⟩
    | none =>
      obtain ⟨g, rfl, hca⟩ := hv2 hnew
      have hd : docR L lone = (wantL L, 0) := by unfold docR; rw [hnew]
      rw [hd] at HDoc
      have hn0 := newR_none L lone hnew
      have HCA := Aside0.mk hca
      have HOK := Aside0.mk hn0
      clear hv1 hv2 hd hca hn0
      have HN : Aside0 (∀ w4, Calls Try.prog 11 #[.nilIface] w4 fun r w' => r = .returned (.int .i64 0) ∧ w4 = w') := ⟨fun w4 => num_calls none w4 (fun c h => by cases h)⟩
      simp only [errV]
      go_wp2_with (first
        | (go_at_call 9; refine (HDoc.out _ HB3.out).mono ?_; rintro e w4 ⟨v0, rfl, hR, hb4⟩; have HWG := Aside0.mk (Kd.R_bound hR); obtain ⟨A7, c7, rfl, hc7, hC7⟩ := Kd.R_reads hR; rw [wantL_len, HL.out] at hC7; rw [wantL_len, HL.out] at HWG ⊢; replace hb4 := Aside0.mk hb4; clear hR hC7 hc7)
        | (go_at_call 10; refine (HInts.out _ hb4.out).mono ?_; rintro e w5 ⟨rfl, hb5⟩; replace hb5 := Aside0.mk hb5)
        | (go_at_call 11; refine (HN.out _).mono ?_; rintro e w6 ⟨rfl, rfl⟩))
      have ho5 := pw_own_below (pw_own_below (pw_own_below HO5.out HB23.out) hb4.out) hb5.out
      have hB5 := below_then (below_then HB3.out HB3.out.size hb4.out) (Nat.le_trans HB3.out.size hb4.out.size) hb5.out
      have hCA5 := (HCA.out.below hb4.out).below hb5.out
      have hWG5 := Kd.R_below HWG.out hb5.out
      have hsz3 := hb4.out.size
      have hb23 := HB23.out.size
      have HB5 := Aside0.mk hB5
      have HO5' := Aside0.mk ho5
      have HCA5 := Aside0.mk hCA5
      have HWG5 := Aside0.mk hWG5
      have HLT5 := Aside0.mk hlt5
      clear ho5 hB5 hCA5 hWG5 HWG hb4 hb5 HO5 HCA HInts HDoc HN HA HC5 hlt5
      have HSZ : Aside0 (w2.heap.size ≤ w3.heap.size) := ⟨hb23⟩
      clear hsz3 hb23
      go_loopg [59] len (fun kq v59 wr => ∃ i : Nat, v59 = .int .i64 i ∧ i ≤ len ∧ Aside0 (kq = len - i) ∧ Aside0 (∃ ys, wr.ownsRow w.heap.size 3 1 (.slice A5 len c5) len (nums .i64 ys)) ∧ Aside0 (w5.grownBy wr (Value.slice A5 len c5).ownBlock))
      case atStart => exact ⟨0, rfl, Nat.zero_le _, ⟨rfl⟩, ⟨L, HO5'.out⟩, ⟨grown_refl _ _⟩⟩
      case round =>
        obtain ⟨i, rfl, hi, HK, HO, HG⟩ := hrel
        by_cases hlt : i < len
        · have hlt' : (i : Int) < (len : Int) := by omega
          obtain ⟨ys, hys⟩ := HO.out
          obtain ⟨g5, cap', e5, hgb, hgl⟩ := hys.form (by omega)
          injection e5 with e5a e5b e5c
          subst e5a e5c
          have a1 := own_at hys (i : Int) (by omega) hlt'
          have a2 := own_store hys (i : Int) 9
          rw [Int.toNat_natCast] at a1 a2
          obtain ⟨a1, f1⟩ := a1
          have HA2 := Aside0.mk a2.1
          have HG2 := Aside0.mk (grown_trans HG.out a2.2)
          clear a2 hys hgb hgl
          generalize rd ys (i : Int) = y at *
          go_wp2_with fail
          have e1 : ((i : Int) + 1) = ((i + 1 : Nat) : Int) := by omega
          rw [e1]
          go_roundg (len - (i + 1))
          case measure => have := HK.out; omega
          case rel => exact ⟨i + 1, rfl, by omega, ⟨rfl⟩, ⟨_, HA2.out⟩, HG2⟩
        · have hBr : Below w.heap.size w wr := pw_below_grown HB5.out _ HB5.out.size HG.out HGE5.out
          have hCr := Kd.C_below HC.out hBr
          have hCAr := HCA5.out.grown HG.out (fun r e => .inl (HLT5.out r e))
          have hWGr := Kd.R_grown HWG5.out HG.out (fun k hk e => by have h1 := HLT5.out k e.symm; have h2 := hk.2.1; have h3 := HSZ.out; omega)
          have HBr := Aside0.mk hBr
          have HCr := Aside0.mk hCr
          have HCAr := Aside0.mk hCAr
          have HWGr := Aside0.mk hWGr
          clear hBr hCr hCAr hWGr HCA5 HWG5 HO HC HB5 HO5'
          have hlt' : ¬ (i : Int) < (len : Int) := by omega
          go_wp2_with fail
          have HOf : Aside0 (∀ (wx : World) (s : Nat), Below wr.heap.size wr wx → s < len → Calls Try.prog 12 #[.pointer (some ⟨g, 0, none⟩), .int .i64 s] wx fun e w' => e = .returned (.tuple #[.int .i64 (code L s : Nat), .int .i64 (L.getD s 0)]) ∧ Below wx.heap.size wx w') := ⟨fun wx s hb hs => of_calls wx _ _ g L (HCAr.out.below hb) (by have := HL.out; have := HLB.out; omega) s (by rw [HL.out]; exact hs)⟩
          have HRow : Aside0 (∀ (wx : World) (s : Nat), s < len → Calls Try.prog 13 #[.int .i64 (code L s : Nat), .int .i64 (L.getD s 0)] wx fun e w' => e = .returned (.string (rowOf L s)) ∧ Below wx.heap.size wx w') := ⟨fun wx s hs => rows_call wx L s HOK.out.2 (by rw [HL.out]; exact hs) (code_lt L lone hnew s (by rw [HL.out]; exact hs))⟩
          have HOut : Aside0 (∀ (wx : World) (s : Int), Below wr.heap.size wr wx → (s < 0 ∨ (len : Int) ≤ s) → Calls Try.prog 12 #[.pointer (some ⟨g, 0, none⟩), .int .i64 s] wx fun e w' => e = .returned (.tuple #[.int .i64 0, .int .i64 0]) ∧ w' = wx) := ⟨fun wx s hb hs => of_out_calls wx _ _ g L (HCAr.out.below hb) (by have := HL.out; have := HLB.out; omega) s (by rw [HL.out]; exact hs)⟩
          have HLen : Aside0 (∀ (wx : World), Below wr.heap.size wr wx → Calls Try.prog 14 #[.pointer (some ⟨g, 0, none⟩)] wx fun e w' => e = .returned (.int .i64 len) ∧ w' = wx) := ⟨fun wx hb => by
            have := len_calls wx _ _ g L (HCAr.out.below hb) (by have := HL.out; have := HLB.out; omega)
            rw [HL.out] at this
            exact this⟩
          have hC7 := Kd.R_reads' HWGr.out
          rw [wantL_len, HL.out] at hC7
          have HC7 := Aside0.mk hC7.2.2
          clear HCAr HWGr hC7
          go_loopg [68] len (fun kq v68 wx => ∃ s : Nat, v68 = .int .i64 s ∧ s ≤ len ∧ Aside0 (kq = len - s) ∧ Aside0 (Below wr.heap.size wr wx))
          case atStart => exact ⟨0, rfl, Nat.zero_le _, ⟨rfl⟩, ⟨Below.refl _ _⟩⟩
          case round =>
            obtain ⟨s, rfl, hs, HK2, HBx⟩ := hrel
            by_cases hlt2 : s < len
            · have hlt2' : (s : Int) < (len : Int) := by omega
              clear hlt' hlt hi
              obtain ⟨ad, rfl, hci⟩ := num_at (Kd.C_below HCr.out HBx.out) s hlt2
              obtain ⟨ad7, rfl, hw7⟩ := Kd.at_string (Kd.C_below HC7.out HBx.out) (s : Int) (by omega) hlt2'
              rw [wantL_get L s (by rw [HL.out]; exact hlt2), Int.toNat_natCast] at hw7
              have HOf1 := Aside0.mk (HOf.out _ s HBx.out hlt2)
              have HRow1 : Aside0 (∀ wx, Calls Try.prog 13 #[.int .i64 (code L s : Nat), .int .i64 (L.getD s 0)] wx fun e w' => e = .returned (.string (rowOf L s)) ∧ Below wx.heap.size wx w') := ⟨fun wx => HRow.out wx s hlt2⟩
              clear HOf HRow HOut HLen
              generalize code L s = x at *
              generalize L.getD s 0 = y at *
              generalize rowOf L s = t at *
              have e1 : (y != y) = false := by simp
              have e2 : (t.toList != t.toList) = false := by simp
              have e3 : (t.toList == t.toList) = true := by simp
              go_wp2_with (go_at_call 12; refine (HOf1.out).mono ?_; rintro e w8 ⟨rfl, hb8⟩; have hw8 := pw_cell_below hb8 hw7; have hc8 := pw_cell_below hb8 hci; have HB8 := Aside0.mk (below_then HBx.out HBx.out.size hb8); clear hb8 hw7 hci)
              go_region_with (go_at_call 13; refine (HRow1.out _).mono ?_; rintro e w9 ⟨rfl, hb9⟩; have hw9 := pw_cell_below hb9 hw8; replace hb9 := Aside0.mk hb9)
              all_goals
                go_wp2_with fail
                have e1 : ((s : Int) + 1) = ((s + 1 : Nat) : Int) := by omega
                rw [e1]
                go_roundg (len - (s + 1))
                case measure => have := HK2.out; omega
                case rel => exact ⟨s + 1, rfl, by omega, ⟨rfl⟩, ⟨below_then (below_drew HB8.out) HB8.out.size hb9.out⟩⟩
            · have hlt2' : ¬ (s : Int) < (len : Int) := by omega
              have HO1 := Aside0.mk (HOut.out _ (len : Int) HBx.out (.inr (Int.le_refl _)))
              have HO2 := Aside0.mk (HOut.out _ (-1) HBx.out (.inl (by decide)))
              have HLe := Aside0.mk (HLen.out _ HBx.out)
              clear HOut HLen HOf HRow
              go_wp2_with fail
              refine (HO1.out).mono ?_
              rintro e w' ⟨rfl, rfl⟩
              go_wp2_with fail
              refine (HO2.out).mono ?_
              rintro e w' ⟨rfl, rfl⟩
              go_wp2_with fail
              refine (HLe.out).mono ?_
              rintro e w' ⟨rfl, rfl⟩
              go_wp2_with fail
              go_ret
              exact ⟨by simp, below_then HBr.out HBr.out.size HBx.out⟩
  · have b3 : (330 : Int) < len := by omega
    go_enter Try.func3, Try.ntmps3
    go_wp2_with (go_at_call 7; refine (HA.out _).mono ?_; rintro e w1 ⟨rfl, hb⟩; replace hb := Aside0.mk hb)
    go_ret
    exact ⟨rfl, hb.out⟩
end Go.Proofs.Ytlgpmpnobcdogaa.My
