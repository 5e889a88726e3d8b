/- OctalTexts: how any text is written into a field of so many bytes. -/
import Derived.Test.YtoonagjhfbmniaaMyOctX
import Derived.Test.YtoonagjhfbmniaaMyPuts
import Derived.Test.YtoonagjhfbmniaaMyArgs
namespace Go.Proofs.Ytoonagjhfbmniaa.My
open Go.RowKit Go.Proofs.YtoonagjhfbmniaaW.PrintWords Go.Proofs.YtoonagjhfbmniaaW.PrintLast Go.Proofs.YtoonagjhfbmniaaW.PrintMore
set_option linter.unusedVariables false
set_option linter.unusedSimpArgs false

theorem Row0.set {w : World} {g : Nat} {l : List Int} (h : Row0 w g l) (i : Nat) (x : Int) : Row0 (w.setCell ⟨g, i, none⟩ (.int .u8 x)) g (l.set i x) := by
  refine ⟨?_⟩
  rw [setCell_eq_setRow w g i _ _ (0, 0) _ h.out, setRow_heap w g _ _ _ (0, 0) h.out]
  simp [nums, List.map_set]
theorem Row0.far {w : World} {g : Nat} {l : List Int} (h : Row0 w g l) {p : Addr} (hp : g ≠ p.block) (u : Value) : Row0 (w.setCell p u) g l := ⟨(Below.heap_setCell w p u g hp).trans h.out⟩
theorem Row0.below {w w1 : World} {g : Nat} {l : List Int} (h : Row0 w g l) (hb : Below w.heap.size w w1) : Row0 w1 g l := ⟨blk_below h.out hb⟩
theorem Row0.grown {w w1 : World} {g : Nat} {l : List Int} {row : Option Nat} (h : Row0 w g l) (hg : w.grownBy w1 row) (hne : some g ≠ row) : Row0 w1 g l := ⟨blk_grown h.out hg hne⟩
theorem two0 (w : World) (n : Nat) : Row0 (((w.alloc (.cells (madeCells #[.int .u8 0] n) 5)).alloc (.cells (madeCells #[.int .u8 0] n) 5)).drew) w.heap.size (List.replicate n 0) ∧
    Row0 (((w.alloc (.cells (madeCells #[.int .u8 0] n) 5)).alloc (.cells (madeCells #[.int .u8 0] n) 5)).drew) (w.heap.size + 1) (List.replicate n 0) ∧
    Below w.heap.size w (((w.alloc (.cells (madeCells #[.int .u8 0] n) 5)).alloc (.cells (madeCells #[.int .u8 0] n) 5)).drew) := by
  rw [made_nums]
  refine ⟨⟨blk_alloc (alloc_self _ _) _⟩, ⟨?_⟩, (below_alloc (below_alloc (Below.refl _ _) _) _).drew⟩
  have := alloc_self (w.alloc (.cells (nums .u8 (List.replicate n 0)).toArray 5)) (.cells (nums .u8 (List.replicate n 0)).toArray 5)
  rw [show (w.alloc (.cells (nums .u8 (List.replicate n 0)).toArray 5)).heap.size = w.heap.size + 1 by simp] at this
  exact this
theorem texts_out (n : Int) (s : ByteArray) (w : World) (h : n < 0 ∨ 100 < n ∨ 200 < s.size) (hs : s.size ≤ 140737488351232) : Calls Try.prog 4 #[.int .i64 n, .string s] w fun e w' => e = .returned (.bool true) ∧ Below w.heap.size w w' := by
  have HA : Aside0 (∀ w : World, Calls Try.prog 5 #[] w fun e w' => e = .returned (.bool true) ∧ Below w.heap.size w w') := ⟨alive_calls⟩
  by_cases h0 : n < 0
  · have d0 : decide (n < 0) = true := decide_eq_true h0
    clear h
    go_enter Try.func4, Try.ntmps4
    go_wp2_with (go_at_call 5; refine (HA.out _).mono ?_; rintro e w1 ⟨rfl, hb⟩; replace hb := Aside0.mk hb)
    go_ret
    exact ⟨rfl, hb.out⟩
  · have d0 : decide (n < 0) = false := decide_eq_false h0
    by_cases h1 : 100 < n
    · have d1 : decide (100 < n) = true := decide_eq_true h1
      clear h
      go_enter Try.func4, Try.ntmps4
      go_wp2_with (go_at_call 5; refine (HA.out _).mono ?_; rintro e w1 ⟨rfl, hb⟩; replace hb := Aside0.mk hb)
      go_ret
      exact ⟨rfl, hb.out⟩
    · have d1 : decide (100 < n) = false := decide_eq_false h1
      have d2 : decide ((200 : Int) < (s.size : Int)) = true := decide_eq_true (by omega)
      clear h
      go_enter Try.func4, Try.ntmps4
      go_wp2_with (go_at_call 5; refine (HA.out _).mono ?_; rintro e w1 ⟨rfl, hb⟩; replace hb := Aside0.mk hb)
      go_ret
      exact ⟨rfl, hb.out⟩
set_option maxHeartbeats 4000000 in
theorem texts_in (n : Nat) (s : ByteArray) (w : World) (hn : n ≤ 100) (hs : s.size ≤ 200) : Calls Try.prog 4 #[.int .i64 n, .string s] w fun e w' => e = .returned (.bool true) ∧ Below w.heap.size w w' := by
  have HA : Aside0 (∀ w : World, Calls Try.prog 5 #[] w fun e w' => e = .returned (.bool true) ∧ Below w.heap.size w w') := ⟨alive_calls⟩
  have d0 : decide ((n : Int) < 0) = false := decide_eq_false (by omega)
  have d1 : decide ((100 : Int) < (n : Int)) = false := decide_eq_false (by omega)
  have d2 : decide ((200 : Int) < (s.size : Int)) = false := decide_eq_false (by omega)
  have d3 : (n : Int) ≤ 100 := by omega
  have d4 : (s.size : Int) ≤ 200 := by omega
  have hmk : ∀ W : World, (Instr.makeSlice 23 (.int .i64 n) (.int .i64 n)).run Try.prog W = .ok (.slice (some ⟨W.heap.size, 0, none⟩) n n) (W.alloc (.cells (madeCells #[.int .u8 0] n) 5)) := fun W => make_bytes n (by omega) W
  have HN := Aside0.mk (show n ≤ 100 ∧ s.size ≤ 200 from ⟨hn, hs⟩)
  obtain ⟨E, hE⟩ : ∃ E, E = ptE n s := ⟨_, rfl⟩
  have HE := Aside0.mk hE
  have HRef : Aside0 (∀ w1, Calls Try.prog 11 #[.int .i64 n, .string s] w1 fun r w' => ∃ A0 m c0, r = .returned (.tuple #[.slice A0 m c0, .int .i64 (numE E)]) ∧ (E = none → m = n ∧ (Kd.int .u8).C w' A0 n (bs s ++ List.replicate (n - s.size) 0) ∧ Lib.indexByte s.data.toList 0 < 0 ∧ s.size ≤ n) ∧ Below w1.heap.size w1 w') := by
    refine ⟨fun w1 => ?_⟩
    by_cases hl : n < s.size
    · have e3 : E = some 3 := by rw [hE]; unfold ptE; rw [if_pos hl]
      rw [e3]
      refine (refText_long w1 n s (by omega) hl).mono ?_
      rintro r w' ⟨rfl, rfl⟩
      exact ⟨none, 0, 0, rfl, (fun h => by cases h), Below.refl _ _⟩
    · rcases ptE_zero n s hl with ⟨h2, j, hj, hz, ha⟩ | ⟨h2, hz, ha⟩
      · rw [hE, h2]
        refine (refText_form w1 n j s (by omega) (by omega) hj hz ha).mono ?_
        rintro r w' ⟨rfl, rfl⟩
        exact ⟨none, 0, 0, rfl, (fun h => by cases h), Below.refl _ _⟩
      · rw [hE, h2]
        refine (refText_calls w1 n s (by omega) (by omega) ha).mono ?_
        rintro r w' ⟨rfl, hr, hb⟩
        refine ⟨_, n, n, rfl, fun _ => ⟨rfl, ?_, hz, by omega⟩, hb⟩
        have hlen : (bs s ++ List.replicate (n - s.size) 0).length = n := by rw [List.length_append, bs_len, List.length_replicate]; omega
        have := hr.row.whole (by rw [hlen]; omega)
        rwa [hlen] at this
  clear hn hs hE
  go_enter Try.func4, Try.ntmps4
  go_upto_region 6 with (first
    | (go_at_call 5; refine (HA.out _).mono ?_; rintro e w1 ⟨rfl, hb⟩; replace hb := Aside0.mk hb)
    | (go_at_call 11; refine (HRef.out _).mono ?_; rintro e w2 ⟨A0, m, c0, rfl, hC2, hb2⟩; replace hC2 := Aside0.mk hC2; replace hb2 := Aside0.mk hb2))
  go_cut [7, 8] (fun v7 v8 wc => ∃ ga gb : Nat, v7 = .slice (some ⟨ga, 0, none⟩) n n ∧ v8 = .slice (some ⟨gb, 0, none⟩) n n ∧ Aside0 (ga ≠ gb ∧ w2.heap.size ≤ ga ∧ w2.heap.size ≤ gb) ∧ Aside0 (Row0 wc ga (List.replicate n 0) ∧ Row0 wc gb (List.replicate n 0)) ∧ Aside0 (Below w2.heap.size w2 wc))
  case first =>
    have h2 := Aside0.mk (two0 w2 n)
    go_region
    all_goals (first | go_wp2_with fail | skip)
    all_goals go_meet
    all_goals
      case rel =>
        first
          | exact ⟨w2.heap.size, w2.heap.size + 1, rfl, rfl, ⟨by omega⟩, ⟨h2.out.1, h2.out.2.1⟩, ⟨h2.out.2.2⟩⟩
          | exact ⟨w2.heap.size + 1, w2.heap.size, rfl, rfl, ⟨by omega⟩, ⟨h2.out.2.1, h2.out.1⟩, ⟨h2.out.2.2⟩⟩
  case rest =>
    obtain ⟨ga, gb, rfl, rfl, HG, HR, HB⟩ := hcut
    clear hmk
    go_wp2_with fail
    go_loopg [9, 36] n (fun kq v9 v36 wr => ∃ i : Nat, v36 = .int .i64 i ∧ i ≤ n ∧ Aside0 (kq = n - i) ∧ Aside0 (Row0 wr ga (part n i) ∧ Row0 wr gb (part n i)) ∧ Aside0 (Below w2.heap.size w2 wr))
    case atStart => exact ⟨0, rfl, Nat.zero_le _, ⟨rfl⟩, ⟨by simpa [part] using HR.out⟩, HB⟩
    case round =>
      obtain ⟨i, rfl, hi, HK, HRi, HBi⟩ := hrel
      by_cases hlt : i < n
      · have hlt' : (i : Int) < (n : Int) := by omega
        have c1 := HRi.out.1.row.cell i (by rw [part_length n i hi]; exact hlt)
        have f1 := HRi.out.1.row.frozen i (by rw [part_length n i hi]; exact hlt)
        have hne := HG.out.1
        have B1 := HRi.out.2.far (p := ⟨ga, i, none⟩) (fun e => hne e.symm) (.int .u8 120)
        have c2 := B1.row.cell i (by rw [part_length n i hi]; exact hlt)
        have f2 := B1.row.frozen i (by rw [part_length n i hi]; exact hlt)
        have AB : Aside0 (Row0 ((wr.setCell ⟨ga, i, none⟩ (.int .u8 120)).setCell ⟨gb, i, none⟩ (.int .u8 120)) ga (part n (i + 1)) ∧ Row0 ((wr.setCell ⟨ga, i, none⟩ (.int .u8 120)).setCell ⟨gb, i, none⟩ (.int .u8 120)) gb (part n (i + 1))) := by
          rw [← part_set n i hlt]
          exact ⟨(HRi.out.1.set i 120).far (p := ⟨gb, i, none⟩) hne _, B1.set i 120⟩
        have W2 := Aside0.mk ((HBi.out.setCell (p := ⟨ga, i, none⟩) HG.out.2.1 (.int .u8 120)).setCell (p := ⟨gb, i, none⟩) HG.out.2.2 (.int .u8 120))
        have HI := Aside0.mk (show i + 1 ≤ n by omega)
        clear B1 hne hi hlt
        go_wp2_with fail
        go_roundg (gk - 1)
        case measure => have := HK.out; have := HI.out; omega
        case rel => exact ⟨i + 1, by go_num, HI.out, ⟨by have := HK.out; omega⟩, AB, W2⟩
      · obtain rfl : i = n := by omega
        have hni : ¬ ((i : Int) < (i : Int)) := by omega
        rw [part_all] at HRi
        have HBF := Aside0.mk (hb.out.trans (hb2.out.mono hb.out.size))
        have HBW : Aside0 (∀ w5, Below w2.heap.size w2 w5 → Below w.heap.size w w5) := ⟨fun w5 h => HBF.out.trans (h.mono HBF.out.size)⟩
        clear hi hlt
        cases E with
        | some c =>
          have hc : c = 2 ∨ c = 3 := by
            have := HE.out
            unfold ptE at this
            split at this
            · cases this; exact .inr rfl
            · split at this
              · cases this; exact .inl rfl
              · cases this
          have HPut := Aside0.mk (putText_bad wr (some ⟨ga, 0, none⟩) i i s c (by have := HN.out; omega) (by have := HN.out; omega) HE.out.symm)
          have HNum := Aside0.mk (num_calls (some c) wr (fun c' h => by cases h; omega))
          have hwh : ∀ g, Row0 wr g (List.replicate i 120) → (Kd.int .u8).C wr (some ⟨g, 0, none⟩) i (List.replicate i 120) := fun g h => by
            have := h.row.whole (by rw [List.length_replicate]; have := HN.out; omega)
            rwa [List.length_replicate] at this
          have HBy := Aside0.mk (bytes_yes (some ⟨ga, 0, none⟩) (some ⟨gb, 0, none⟩) i i i i (List.replicate i 120) wr (hwh ga HRi.out.1) (hwh gb HRi.out.2))
          have e1 : (c != 0) = true := bne_iff_ne.2 (by omega)
          have e2 : (c == c) = true := by simp
          rw [show numE (some c) = c from rfl] at *
          unfold errV at HPut HNum
          clear hc hwh
          go_wp2_with (first
            | (go_at_call 12; refine HPut.out.mono ?_; rintro e w' ⟨rfl, rfl⟩)
            | (go_at_call 9; refine HNum.out.mono ?_; rintro e w' ⟨rfl, rfl⟩)
            | (go_at_call 10; refine HBy.out.mono ?_; rintro e w' ⟨rfl, rfl⟩))
          go_ret
          exact ⟨rfl, HBW.out _ HBi.out⟩
        | none =>
          obtain ⟨rfl, hC, hz, hsi⟩ := hC2.out rfl
          have HC := Aside0.mk hC
          have HZ := Aside0.mk (And.intro hz hsi)
          have HPut := Aside0.mk (putText_calls wr ga m s (List.replicate m 120) (by have := HN.out; omega) (by simp) HRi.out.1 HE.out.symm)
          rw [show numE none = 0 from rfl] at *
          rw [show errV none = .nilIface from rfl] at HPut
          have hlen : (bs s ++ List.replicate (m - s.size) 0).length = m := by rw [List.length_append, bs_len, List.length_replicate]; omega
          have HLen := Aside0.mk hlen
          have HBy : Aside0 (∀ w5, Row0 w5 ga (bs s ++ List.replicate (m - s.size) 0) → Below w2.heap.size w2 w5 → Calls Try.prog 10 #[.slice (some ⟨ga, 0, none⟩) m m, .slice A0 m c0] w5 fun r w' => r = .returned (.bool true) ∧ w5 = w') := ⟨fun w5 h hb => bytes_yes _ _ m m _ _ (bs s ++ List.replicate (m - s.size) 0) w5 (by
            have := h.row.whole (by rw [HLen.out]; have := HN.out; omega)
            rwa [HLen.out] at this) (Kd.C_below HC.out hb)⟩
          clear hC hz hsi hlen
          go_wp2_with (first
            | (go_at_call 12; refine HPut.out.mono ?_; rintro e w5 ⟨rfl, hr5, hg5⟩; have HR5 := Aside0.mk hr5; have HB5 := Aside0.mk (below_grown HBi.out hg5 HBi.out.size HG.out.2.1); clear hr5 hg5)
            | (go_at_call 10; refine (HBy.out _ HR5.out HB5.out).mono ?_; rintro e w' ⟨rfl, rfl⟩)
            | (go_at_call 13; refine (text_calls _ ga m s (by have := HN.out; omega) HZ.out.2 HZ.out.1 HR5.out).mono ?_; rintro e w6 ⟨rfl, hb6⟩; replace hb6 := Aside0.mk hb6))
          go_ret
          exact ⟨rfl, HBW.out _ (HB5.out.trans (hb6.out.mono HB5.out.size))⟩
theorem texts_walk (n : Int) (s : ByteArray) (W : World) (w0 : (Lit.int .i64 n).wf = true) (ws : s.size ≤ 140737488351232) : Calls Try.prog 4 #[.int .i64 n, .string s] W fun e w' => e = .returned (.bool true) ∧ Below W.heap.size W w' := by
  by_cases h : n < 0 ∨ 100 < n ∨ 200 < s.size
  · exact texts_out n s W h ws
  · obtain ⟨m, rfl⟩ := Int.eq_ofNat_of_zero_le (show 0 ≤ n by omega)
    exact texts_in m s W (by omega) (by omega)
end Go.Proofs.Ytoonagjhfbmniaa.My
