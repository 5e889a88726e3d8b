import Derived.Test.YtoonagjhfbmniaaMyOctW
import Derived.Test.YtoonagjhfbmniaaMyRefPut
import Derived.Test.YtoonagjhfbmniaaMyNum
import Derived.Lib.SmallJoins
import Derived.RegionTactic
namespace Go.Proofs.Ytoonagjhfbmniaa.My
open Go.RowKit Go.Proofs.Ytoonagjhfbmniaa.Oct Go.Proofs.Ytoonagjhfbmniaa.PPut Go.Proofs.YtoonagjhfbmniaaW.PrintWords Go.Proofs.YtoonagjhfbmniaaW.PrintLast Go.Proofs.YtoonagjhfbmniaaW.PrintMore

theorem alive_a : putAt [120, 120, 120, 120] 0 4 8 = [48, 49, 48, 0] ∧ fit ((4 : Nat) : Int) 8 = true := by decide +kernel
theorem alive_b : putAt [120, 120, 120, 120] 0 4 (-1) = [255, 255, 255, 255] ∧ fit ((4 : Nat) : Int) (-1) = true := by decide +kernel

theorem alive_calls (w : World) :
    Calls Try.prog 5 #[] w fun e w' => e = .returned (.bool true) ∧ Below w.heap.size w w' := by
  have kc := fun (C : Array Value) (n c : Nat) => Lib.run_convert_bytes_const (P := Try.prog) w 23 5 C n c Try.underlying23 Try.underlying5
  have kc2 := fun (C D : Array Value) (n c : Nat) (fr : Nat × Nat) => Go.Joins.run_convert_bytes_const_at (P := Try.prog) (w.alloc (.cells D 5 fr)) 23 5 C n c (w.heap.size + 1) (by simp) Try.underlying23 Try.underlying5
  go_enter Try.func5, Try.ntmps5
  go_wp2_with fail
  have r1 := (Row.str w [120, 120, 120, 120]).alloc (.cells (nums .u8 [120, 120, 120, 120]).toArray 5 (4, 5))
  have r2 := Row.str (w.alloc (.cells (nums .u8 [120, 120, 120, 120]).toArray 5 (4, 5))) [120, 120, 120, 120]
  have hb : Below w.heap.size w ((w.alloc (.cells (nums .u8 [120, 120, 120, 120]).toArray 5 (4, 5))).alloc (.cells (nums .u8 [120, 120, 120, 120]).toArray 5 (4, 5))) := below_alloc (below_alloc (Below.refl _ _) _) _
  rw [show (w.alloc (.cells (nums .u8 [120, 120, 120, 120]).toArray 5 (4, 5))).heap.size = w.heap.size + 1 from by simp] at r2
  refine (put_yes w.heap.size 0 4 4 8 [120, 120, 120, 120] _ alive_a.2 (by decide) (by decide) (by decide) (by decide) (by decide) r1).mono ?_
  rintro e w1 ⟨rfl, hg1, hr1⟩
  rw [alive_a.1] at hr1
  have r3 := r2.grown hg1 (by simp)
  have hb1 := below_grown hb hg1 (by simp; omega) (Nat.le_refl _)
  clear r1 r2 hb hg1 kc kc2
  rw [show errV none = .nilIface from rfl]
  have HR1 := Aside0.mk hr1
  have HR3 := Aside0.mk r3
  have HB1 := Aside0.mk hb1
  clear hr1 r3 hb1
  go_wp2_with fail
  refine (put_yes (w.heap.size + 1) 0 4 4 (-1) [120, 120, 120, 120] _ alive_b.2 (by decide) (by decide) (by decide) (by decide) (by decide) HR3.out).mono ?_
  rintro e w2 ⟨rfl, hg2, hr2⟩
  rw [alive_b.1] at hr2
  have hr1 := HR1.out.grown hg2 (by simp)
  have HB2 := Aside0.mk (below_grown HB1.out hg2 HB1.out.size (by omega))
  rw [show errV none = .nilIface from rfl]
  have k1 : (convert 23 9 (.slice (some ⟨w.heap.size, 0, none⟩) 4 4)).run Try.prog w2 = .ok (.string (strOfNums [48, 49, 48, 0])) w2 := Kd.C_string (P := Try.prog) (src := 23) (dst := 9) (c := 4) Try.underlying23 Try.underlying5 Try.underlying9 (hr1.whole (by decide))
  have k2 : (convert 23 9 (.slice (some ⟨w.heap.size + 1, 0, none⟩) 4 4)).run Try.prog w2 = .ok (.string (strOfNums [255, 255, 255, 255])) w2 := Kd.C_string (P := Try.prog) (src := 23) (dst := 9) (c := 4) Try.underlying23 Try.underlying5 Try.underlying9 (hr2.whole (by decide))
  have e1 : (strOfNums [48, 49, 48, 0]) = ⟨#[48, 49, 48, 0]⟩ := by decide +kernel
  have e2 : (strOfNums [255, 255, 255, 255]) = ⟨#[255, 255, 255, 255]⟩ := by decide +kernel
  rw [e1] at k1
  rw [e2] at k2
  clear hg2 hr1 hr2 e1 e2
  go_wp2
  go_ret
  exact ⟨rfl, HB2.out⟩

theorem puts_big (n x : Int) (w : World) (h : 100 < n) : Calls Try.prog 3 #[.int .i64 n, .int .i64 x] w fun e w' => e = .returned (.bool true) ∧ Below w.heap.size w w' := by
  go_enter Try.func3, Try.ntmps3
  go_wp2_with (go_at_call 5; refine (alive_calls _).mono ?_; rintro e w1 ⟨rfl, hb⟩; have HB := Aside0.mk hb; clear hb)
  go_ret
  exact ⟨rfl, HB.out⟩
theorem puts_neg (n x : Int) (w : World) (h : n < 0) : Calls Try.prog 3 #[.int .i64 n, .int .i64 x] w fun e w' => e = .returned (.bool true) ∧ Below w.heap.size w w' := by
  obtain ⟨k, hk⟩ := ref_put_neg n x h
  have HK := Aside0.mk hk
  have HF : Aside0 (∀ w : World, Calls Try.prog 7 #[.int .i64 n, .int .i64 x] w fun e w' => e = .returned (.bool false) ∧ w = w') := ⟨fun w => fit_neg n x h ▸ fits_calls n x w⟩
  clear hk
  go_enter Try.func3, Try.ntmps3
  go_wp2_with (first
    | (go_at_call 5; refine (alive_calls _).mono ?_; rintro e w1 ⟨rfl, hb⟩; have HB := Aside0.mk hb; clear hb)
    | (go_at_call 6; refine (crossdockref17_Put.calls k n x _ _ _ HK.out).mono ?_; rintro e w2 ⟨v0, rfl, _, hb⟩; have HB2 := Aside0.mk hb; clear hb)
    | (go_at_call 7; refine (HF.out _).mono ?_; rintro e w3 ⟨rfl, rfl⟩))
  go_ret
  exact ⟨rfl, below_then HB.out HB.out.size HB2.out⟩
theorem two_made (w : World) (m : Nat) : Row (((w.alloc (.cells (madeCells #[.int .u8 0] m) 5)).alloc (.cells (madeCells #[.int .u8 0] m) 5)).drew) w.heap.size (List.replicate m 0) ∧
    Row (((w.alloc (.cells (madeCells #[.int .u8 0] m) 5)).alloc (.cells (madeCells #[.int .u8 0] m) 5)).drew) (w.heap.size + 1) (List.replicate m 0) ∧
    Below w.heap.size w (((w.alloc (.cells (madeCells #[.int .u8 0] m) 5)).alloc (.cells (madeCells #[.int .u8 0] m) 5)).drew) := by
  refine ⟨((Row.made w m).alloc _).drew, ?_, ((below_alloc (below_alloc (Below.refl _ _) _) _)).drew⟩
  have := (Row.made (w.alloc (.cells (madeCells #[.int .u8 0] m) 5)) m).drew
  rwa [show (w.alloc (.cells (madeCells #[.int .u8 0] m) 5)).heap.size = w.heap.size + 1 from by simp] at this
def part (n i : Nat) : List Int := List.replicate i 120 ++ List.replicate (n - i) 0
theorem part_length (n i : Nat) (h : i ≤ n) : (part n i).length = n := by simp [part]; omega
theorem part_set (n i : Nat) (h : i < n) : (part n i).set i 120 = part n (i + 1) := by
  unfold part
  rw [List.set_append_right _ _ (by simp), List.length_replicate, Nat.sub_self, show n - i = (n - (i + 1)) + 1 from by omega, List.replicate_succ, List.set_cons_zero, List.replicate_succ', List.append_assoc]
  rfl
theorem part_all (n : Nat) : part n n = List.replicate n 120 := by simp [part]
theorem fit_pos {n : Nat} {x : Int} (h : fit n x = true) : 0 < n := by
  rcases Nat.eq_zero_or_pos n with rfl | h0
  · have : nar ((0 : Nat) : Int) x = false := decide_eq_false (fun h => by omega)
    unfold fit at h
    rw [this, decide_eq_false (by omega), if_neg (by simp), if_pos (by omega)] at h
    cases h
  · exact h0
theorem putAt_all (n : Nat) (x : Int) (l : List Int) (h : l.length = n) : putAt l 0 n x = putB n x := by
  unfold putAt
  rw [List.take_zero, List.nil_append, Nat.zero_add, List.drop_eq_nil_of_le (by omega), List.append_nil]

set_option maxHeartbeats 1000000 in
theorem puts_fit (n : Nat) (x : Int) (w : World) (hn : n ≤ 100) (hx0 : -9223372036854775808 ≤ x) (hx1 : x ≤ 9223372036854775807) (hf : fit n x = true) :
    Calls Try.prog 3 #[.int .i64 n, .int .i64 x] w fun e w' => e = .returned (.bool true) ∧ Below w.heap.size w w' := by
  obtain ⟨k, hk⟩ := ref_put n x hn hx0 hx1
  rw [hf, if_pos rfl] at hk
  have HK := Aside0.mk hk
  have HF : Aside0 (∀ w : World, Calls Try.prog 7 #[.int .i64 n, .int .i64 x] w fun e w' => e = .returned (.bool true) ∧ w = w') := ⟨fun w => hf ▸ fits_calls n x w⟩
  have HF0 := Aside0.mk hf
  have HP := Aside0.mk (fit_pos hf)
  have HX := Aside0.mk (And.intro hx0 hx1)
  clear hk hf hx0 hx1
  go_enter Try.func3, Try.ntmps3
  go_wp2_with (first
    | (go_at_call 5; refine (alive_calls _).mono ?_; rintro e w1 ⟨rfl, hb⟩; have HB := Aside0.mk hb; clear hb)
    | (go_at_call 6; refine (crossdockref17_Put.calls k n x _ _ _ HK.out).mono ?_; rintro e w2 ⟨v0, rfl, hR, hb⟩; obtain ⟨A0, c0, rfl, _, hR⟩ := Kd.R_reads hR; have HB2 := Aside0.mk hb; have HR := Aside0.mk hR; clear hb hR)
    | (go_at_call 7; refine (HF.out _).mono ?_; rintro e w3 ⟨rfl, rfl⟩))
  have hmk : ∀ W : World, (Instr.makeSlice 23 (.int .i64 n) (.int .i64 n)).run Try.prog W = .ok (.slice (some ⟨W.heap.size, 0, none⟩) n n) (W.alloc (.cells (madeCells #[.int .u8 0] n) 5)) := fun W => make_bytes n (by omega) W
  obtain ⟨t1, t2, t3⟩ := two_made w2 n
  have T1 := Aside0.mk t1
  have T2 := Aside0.mk t2
  have T3 := Aside0.mk t3
  obtain ⟨N2, hN2⟩ : ∃ N, N = w2.heap.size := ⟨_, rfl⟩
  have T4 : Aside0 (∀ wr, Below N2 w2 wr → (Kd.int .u8).C wr A0 (putB n x).length (putB n x)) := ⟨fun wr h => Kd.C_below HR.out (hN2 ▸ h)⟩
  have T5 : Aside0 (N2 ≤ w2.heap.size) := ⟨by omega⟩
  have T6 : Aside0 (N2 ≤ w2.heap.size + 1) := ⟨by omega⟩
  have T7 : Aside0 (Below N2 w2 _) := Aside0.mk (hN2 ▸ t3)
  have TW : Aside0 (∀ wr, Below N2 w2 wr → Below w.heap.size w wr) := ⟨fun wr h => below_then HB.out HB.out.size (below_then HB2.out HB2.out.size (hN2 ▸ h))⟩
  have T5' : Aside0 (N2 = w2.heap.size) := ⟨hN2⟩
  clear hN2
  have T8 := Aside0.mk (show w2.heap.size ≠ w2.heap.size + 1 from by omega)
  have T9 := Aside0.mk (show w2.heap.size + 1 ≠ w2.heap.size from by omega)
  clear t1 t2 t3 HR HB HB2 T3
  go_region
  all_goals go_wp2
  all_goals clear hmk
  all_goals generalize ((w2.alloc (Obj.cells (madeCells #[Value.int IntKind.u8 0] n) 5)).alloc (Obj.cells (madeCells #[Value.int IntKind.u8 0] n) 5)).drew = w3 at *
  rotate_left
  · have N5 : Aside0 (∀ wr, Below N2 w2 wr → N2 ≤ wr.heap.size) := ⟨fun wr h => by have := h.size; have := T5'.out; omega⟩
    clear T5'
    generalize w2.heap.size + 1 = ga at *
    generalize w2.heap.size = gb at *
    have SA := T2
    have SB := T1
    have GA := T6
    have GB := T5
    have NE := T9
    clear T1 T2 T5 T6 T8 T9
    go_loopg [9, 35] n (fun kq _ v35 wr => ∃ i : Nat, i ≤ n ∧ v35 = .int .i64 i ∧ Aside0 (kq = n - i) ∧ Row wr ga (part n i) ∧ Row wr gb (part n i) ∧ Aside0 (Below N2 w2 wr))
    case atStart => exact ⟨0, by omega, rfl, ⟨rfl⟩, by simpa [part] using SA.out, by simpa [part] using SB.out, T7⟩
    case round =>
      obtain ⟨i, hi, rfl, HKq, HA, HB, HW⟩ := hrel
      by_cases hlt : i < n
      · have c1 := HA.cell i (by rw [part_length n i hi]; exact hlt)
        have f1 := HA.frozen i (by rw [part_length n i hi]; exact hlt)
        have A1 := HA.set i 120
        have hne := NE.out
        have B1 := HB.grown (grown_set wr ga i (.int .u8 120)) (by simpa using fun e => hne e.symm)
        have c2 := B1.cell i (by rw [part_length n i hi]; exact hlt)
        have f2 := B1.frozen i (by rw [part_length n i hi]; exact hlt)
        have B2 := Aside0.mk (B1.set i 120)
        have A2 := Aside0.mk (A1.grown (grown_set _ gb i (.int .u8 120)) (by simpa using hne))
        have W2 := Aside0.mk ((HW.out.setCell (p := ⟨ga, i, none⟩) GA.out (.int .u8 120)).setCell (p := ⟨gb, i, none⟩) GB.out (.int .u8 120))
        clear A1 B1 HA HB hne
        go_wp2
        go_roundg (gk - 1)
        case measure => have := HKq.out; omega
        case rel => exact ⟨i + 1, by omega, by go_num, ⟨by have := HKq.out; omega⟩, by have := A2.out; rw [part_set n i hlt] at this; exact this, by have := B2.out; rw [part_set n i hlt] at this; exact this, W2⟩
      · obtain rfl : i = n := by omega
        have hxx := HX.out
        have HA' := Aside0.mk HA
        have HB' := Aside0.mk HB
        have PY := Aside0.mk (put_yes ga 0 i i x (part i i) wr HF0.out HP.out (by omega) (by rw [part_length i i (Nat.le_refl _)]; omega) hxx.1 hxx.2 HA)
        clear hxx HA HB
        go_wp2_with (first
          | (go_at_call 8; refine PY.out.mono ?_; rintro e w5 ⟨rfl, hg, hr⟩; rw [putAt_all i x _ (part_length i i (Nat.le_refl _))] at hr; rw [show errV none = .nilIface from rfl]; have W5 := Aside0.mk (below_grown HW.out hg (N5.out _ HW.out) GA.out); have HR5 := Aside0.mk hr; clear hg hr)
          | (go_at_call 10; refine (bytes_yes _ _ _ _ _ _ (putB i x) _ (by have := HR5.out.whole (by rw [putB_length i x HP.out]; omega); rw [putB_length i x HP.out] at this; exact this) (T4.out _ W5.out)).mono ?_; rintro e w6 ⟨rfl, rfl⟩))
        go_ret
        exact ⟨rfl, TW.out _ W5.out⟩
  · have N5 : Aside0 (∀ wr, Below N2 w2 wr → N2 ≤ wr.heap.size) := ⟨fun wr h => by have := h.size; have := T5'.out; omega⟩
    clear T5'
    generalize w2.heap.size + 1 = gb at *
    generalize w2.heap.size = ga at *
    have SA := T1
    have SB := T2
    have GA := T5
    have GB := T6
    have NE := T8
    clear T1 T2 T5 T6 T8 T9
    go_loopg [9, 35] n (fun kq _ v35 wr => ∃ i : Nat, i ≤ n ∧ v35 = .int .i64 i ∧ Aside0 (kq = n - i) ∧ Row wr ga (part n i) ∧ Row wr gb (part n i) ∧ Aside0 (Below N2 w2 wr))
    case atStart => exact ⟨0, by omega, rfl, ⟨rfl⟩, by simpa [part] using SA.out, by simpa [part] using SB.out, T7⟩
    case round =>
      obtain ⟨i, hi, rfl, HKq, HA, HB, HW⟩ := hrel
      by_cases hlt : i < n
      · have c1 := HA.cell i (by rw [part_length n i hi]; exact hlt)
        have f1 := HA.frozen i (by rw [part_length n i hi]; exact hlt)
        have A1 := HA.set i 120
        have hne := NE.out
        have B1 := HB.grown (grown_set wr ga i (.int .u8 120)) (by simpa using fun e => hne e.symm)
        have c2 := B1.cell i (by rw [part_length n i hi]; exact hlt)
        have f2 := B1.frozen i (by rw [part_length n i hi]; exact hlt)
        have B2 := Aside0.mk (B1.set i 120)
        have A2 := Aside0.mk (A1.grown (grown_set _ gb i (.int .u8 120)) (by simpa using hne))
        have W2 := Aside0.mk ((HW.out.setCell (p := ⟨ga, i, none⟩) GA.out (.int .u8 120)).setCell (p := ⟨gb, i, none⟩) GB.out (.int .u8 120))
        clear A1 B1 HA HB hne
        go_wp2
        go_roundg (gk - 1)
        case measure => have := HKq.out; omega
        case rel => exact ⟨i + 1, by omega, by go_num, ⟨by have := HKq.out; omega⟩, by have := A2.out; rw [part_set n i hlt] at this; exact this, by have := B2.out; rw [part_set n i hlt] at this; exact this, W2⟩
      · obtain rfl : i = n := by omega
        have hxx := HX.out
        have HA' := Aside0.mk HA
        have HB' := Aside0.mk HB
        have PY := Aside0.mk (put_yes ga 0 i i x (part i i) wr HF0.out HP.out (by omega) (by rw [part_length i i (Nat.le_refl _)]; omega) hxx.1 hxx.2 HA)
        clear hxx HA HB
        go_wp2_with (first
          | (go_at_call 8; refine PY.out.mono ?_; rintro e w5 ⟨rfl, hg, hr⟩; rw [putAt_all i x _ (part_length i i (Nat.le_refl _))] at hr; rw [show errV none = .nilIface from rfl]; have W5 := Aside0.mk (below_grown HW.out hg (N5.out _ HW.out) GA.out); have HR5 := Aside0.mk hr; clear hg hr)
          | (go_at_call 10; refine (bytes_yes _ _ _ _ _ _ (putB i x) _ (by have := HR5.out.whole (by rw [putB_length i x HP.out]; omega); rw [putB_length i x HP.out] at this; exact this) (T4.out _ W5.out)).mono ?_; rintro e w6 ⟨rfl, rfl⟩))
        go_ret
        exact ⟨rfl, TW.out _ W5.out⟩
set_option maxHeartbeats 1000000 in
theorem puts_nofit (n : Nat) (x : Int) (w : World) (hn : n ≤ 100) (hx0 : -9223372036854775808 ≤ x) (hx1 : x ≤ 9223372036854775807) (hf : fit n x = false) :
    Calls Try.prog 3 #[.int .i64 n, .int .i64 x] w fun e w' => e = .returned (.bool true) ∧ Below w.heap.size w w' := by
  obtain ⟨k, hk⟩ := ref_put n x hn hx0 hx1
  rw [hf, if_neg (by simp)] at hk
  have HK := Aside0.mk hk
  have HF : Aside0 (∀ w : World, Calls Try.prog 7 #[.int .i64 n, .int .i64 x] w fun e w' => e = .returned (.bool false) ∧ w = w') := ⟨fun w => hf ▸ fits_calls n x w⟩
  have HF0 := Aside0.mk hf
  clear hk hf hx0 hx1
  go_enter Try.func3, Try.ntmps3
  go_wp2_with (first
    | (go_at_call 5; refine (alive_calls _).mono ?_; rintro e w1 ⟨rfl, hb⟩; have HB := Aside0.mk hb; clear hb)
    | (go_at_call 6; refine (crossdockref17_Put.calls k n x _ _ _ HK.out).mono ?_; rintro e w2 ⟨v0, rfl, hR, hb⟩; obtain ⟨A0, c0, rfl, _, hR⟩ := Kd.R_reads hR; have HB2 := Aside0.mk hb; have HR := Aside0.mk hR; clear hb hR)
    | (go_at_call 7; refine (HF.out _).mono ?_; rintro e w3 ⟨rfl, rfl⟩))
  have hmk : ∀ W : World, (Instr.makeSlice 23 (.int .i64 n) (.int .i64 n)).run Try.prog W = .ok (.slice (some ⟨W.heap.size, 0, none⟩) n n) (W.alloc (.cells (madeCells #[.int .u8 0] n) 5)) := fun W => make_bytes n (by omega) W
  obtain ⟨t1, t2, t3⟩ := two_made w2 n
  have T1 := Aside0.mk t1
  have T2 := Aside0.mk t2
  have T3 := Aside0.mk t3
  obtain ⟨N2, hN2⟩ : ∃ N, N = w2.heap.size := ⟨_, rfl⟩
  have T4 : Aside0 (∀ wr, Below N2 w2 wr → (Kd.int .u8).C wr A0 ([] : List Int).length []) := ⟨fun wr h => Kd.C_below HR.out (hN2 ▸ h)⟩
  have T5 : Aside0 (N2 ≤ w2.heap.size) := ⟨by omega⟩
  have T6 : Aside0 (N2 ≤ w2.heap.size + 1) := ⟨by omega⟩
  have T7 : Aside0 (Below N2 w2 _) := Aside0.mk (hN2 ▸ t3)
  have TW : Aside0 (∀ wr, Below N2 w2 wr → Below w.heap.size w wr) := ⟨fun wr h => below_then HB.out HB.out.size (below_then HB2.out HB2.out.size (hN2 ▸ h))⟩
  have T5' : Aside0 (N2 = w2.heap.size) := ⟨hN2⟩
  clear hN2
  have T8 := Aside0.mk (show w2.heap.size ≠ w2.heap.size + 1 from by omega)
  have T9 := Aside0.mk (show w2.heap.size + 1 ≠ w2.heap.size from by omega)
  clear t1 t2 t3 HR HB HB2 T3
  go_region
  all_goals go_wp2
  all_goals clear hmk
  all_goals generalize ((w2.alloc (Obj.cells (madeCells #[Value.int IntKind.u8 0] n) 5)).alloc (Obj.cells (madeCells #[Value.int IntKind.u8 0] n) 5)).drew = w3 at *
  rotate_left
  · have N5 : Aside0 (∀ wr, Below N2 w2 wr → N2 ≤ wr.heap.size) := ⟨fun wr h => by have := h.size; have := T5'.out; omega⟩
    clear T5'
    generalize w2.heap.size + 1 = ga at *
    generalize w2.heap.size = gb at *
    have SA := T2
    have SB := T1
    have GA := T6
    have GB := T5
    have NE := T9
    clear T1 T2 T5 T6 T8 T9
    go_loopg [9, 35] n (fun kq _ v35 wr => ∃ i : Nat, i ≤ n ∧ v35 = .int .i64 i ∧ Aside0 (kq = n - i) ∧ Row wr ga (part n i) ∧ Row wr gb (part n i) ∧ Aside0 (Below N2 w2 wr))
    case atStart => exact ⟨0, by omega, rfl, ⟨rfl⟩, by simpa [part] using SA.out, by simpa [part] using SB.out, T7⟩
    case round =>
      obtain ⟨i, hi, rfl, HKq, HA, HB, HW⟩ := hrel
      by_cases hlt : i < n
      · have c1 := HA.cell i (by rw [part_length n i hi]; exact hlt)
        have f1 := HA.frozen i (by rw [part_length n i hi]; exact hlt)
        have A1 := HA.set i 120
        have hne := NE.out
        have B1 := HB.grown (grown_set wr ga i (.int .u8 120)) (by simpa using fun e => hne e.symm)
        have c2 := B1.cell i (by rw [part_length n i hi]; exact hlt)
        have f2 := B1.frozen i (by rw [part_length n i hi]; exact hlt)
        have B2 := Aside0.mk (B1.set i 120)
        have A2 := Aside0.mk (A1.grown (grown_set _ gb i (.int .u8 120)) (by simpa using hne))
        have W2 := Aside0.mk ((HW.out.setCell (p := ⟨ga, i, none⟩) GA.out (.int .u8 120)).setCell (p := ⟨gb, i, none⟩) GB.out (.int .u8 120))
        clear A1 B1 HA HB hne
        go_wp2
        go_roundg (gk - 1)
        case measure => have := HKq.out; omega
        case rel => exact ⟨i + 1, by omega, by go_num, ⟨by have := HKq.out; omega⟩, by have := A2.out; rw [part_set n i hlt] at this; exact this, by have := B2.out; rw [part_set n i hlt] at this; exact this, W2⟩
      · obtain rfl : i = n := by omega
        have HA' := Aside0.mk HA
        have HB' := Aside0.mk HB
        have PY := Aside0.mk (put_no (some ⟨ga, 0, none⟩) i i x wr HF0.out)
        have PN := Aside0.mk (num_calls (some 3) wr (fun c hc => by cases hc; decide))
        have PB := Aside0.mk (bytes_yes (some ⟨ga, 0, none⟩) (some ⟨gb, 0, none⟩) i i i i (part i i) wr (by have := HA.whole (by rw [part_length i i (Nat.le_refl _)]; omega); rw [part_length i i (Nat.le_refl _)] at this; exact this) (by have := HB.whole (by rw [part_length i i (Nat.le_refl _)]; omega); rw [part_length i i (Nat.le_refl _)] at this; exact this))
        clear HA HB
        go_wp2_with (first
          | (go_at_call 8; refine PY.out.mono ?_; rintro e w5 ⟨rfl, rfl⟩)
          | (go_at_call 9; refine PN.out.mono ?_; rintro e w5 ⟨rfl, rfl⟩)
          | (go_at_call 10; refine PB.out.mono ?_; rintro e w6 ⟨rfl, rfl⟩))
        go_ret
        exact ⟨rfl, TW.out _ HW.out⟩
  · have N5 : Aside0 (∀ wr, Below N2 w2 wr → N2 ≤ wr.heap.size) := ⟨fun wr h => by have := h.size; have := T5'.out; omega⟩
    clear T5'
    generalize w2.heap.size + 1 = gb at *
    generalize w2.heap.size = ga at *
    have SA := T1
    have SB := T2
    have GA := T5
    have GB := T6
    have NE := T8
    clear T1 T2 T5 T6 T8 T9
    go_loopg [9, 35] n (fun kq _ v35 wr => ∃ i : Nat, i ≤ n ∧ v35 = .int .i64 i ∧ Aside0 (kq = n - i) ∧ Row wr ga (part n i) ∧ Row wr gb (part n i) ∧ Aside0 (Below N2 w2 wr))
    case atStart => exact ⟨0, by omega, rfl, ⟨rfl⟩, by simpa [part] using SA.out, by simpa [part] using SB.out, T7⟩
    case round =>
      obtain ⟨i, hi, rfl, HKq, HA, HB, HW⟩ := hrel
      by_cases hlt : i < n
      · have c1 := HA.cell i (by rw [part_length n i hi]; exact hlt)
        have f1 := HA.frozen i (by rw [part_length n i hi]; exact hlt)
        have A1 := HA.set i 120
        have hne := NE.out
        have B1 := HB.grown (grown_set wr ga i (.int .u8 120)) (by simpa using fun e => hne e.symm)
        have c2 := B1.cell i (by rw [part_length n i hi]; exact hlt)
        have f2 := B1.frozen i (by rw [part_length n i hi]; exact hlt)
        have B2 := Aside0.mk (B1.set i 120)
        have A2 := Aside0.mk (A1.grown (grown_set _ gb i (.int .u8 120)) (by simpa using hne))
        have W2 := Aside0.mk ((HW.out.setCell (p := ⟨ga, i, none⟩) GA.out (.int .u8 120)).setCell (p := ⟨gb, i, none⟩) GB.out (.int .u8 120))
        clear A1 B1 HA HB hne
        go_wp2
        go_roundg (gk - 1)
        case measure => have := HKq.out; omega
        case rel => exact ⟨i + 1, by omega, by go_num, ⟨by have := HKq.out; omega⟩, by have := A2.out; rw [part_set n i hlt] at this; exact this, by have := B2.out; rw [part_set n i hlt] at this; exact this, W2⟩
      · obtain rfl : i = n := by omega
        have HA' := Aside0.mk HA
        have HB' := Aside0.mk HB
        have PY := Aside0.mk (put_no (some ⟨ga, 0, none⟩) i i x wr HF0.out)
        have PN := Aside0.mk (num_calls (some 3) wr (fun c hc => by cases hc; decide))
        have PB := Aside0.mk (bytes_yes (some ⟨ga, 0, none⟩) (some ⟨gb, 0, none⟩) i i i i (part i i) wr (by have := HA.whole (by rw [part_length i i (Nat.le_refl _)]; omega); rw [part_length i i (Nat.le_refl _)] at this; exact this) (by have := HB.whole (by rw [part_length i i (Nat.le_refl _)]; omega); rw [part_length i i (Nat.le_refl _)] at this; exact this))
        clear HA HB
        go_wp2_with (first
          | (go_at_call 8; refine PY.out.mono ?_; rintro e w5 ⟨rfl, rfl⟩)
          | (go_at_call 9; refine PN.out.mono ?_; rintro e w5 ⟨rfl, rfl⟩)
          | (go_at_call 10; refine PB.out.mono ?_; rintro e w6 ⟨rfl, rfl⟩))
        go_ret
        exact ⟨rfl, TW.out _ HW.out⟩

theorem puts_walk (n x : Int) (W : World) (w0 : (Lit.int .i64 n).wf = true) (w1 : (Lit.int .i64 x).wf = true) :
    Calls Try.prog 3 #[.int .i64 n, .int .i64 x] W fun e w' => e = .returned (.bool true) ∧ Below W.heap.size W w' := by
  have h0 := wf_i64 w0
  have h1 := wf_i64 w1
  by_cases hb : 100 < n
  · exact puts_big n x W hb
  by_cases hn : n < 0
  · exact puts_neg n x W hn
  obtain ⟨m, rfl⟩ := Int.eq_ofNat_of_zero_le (show 0 ≤ n by omega)
  cases hf : fit m x with
  | true => exact puts_fit m x W (by omega) h1.1 h1.2 hf
  | false => exact puts_nofit m x W (by omega) h1.1 h1.2 hf
end Go.Proofs.Ytoonagjhfbmniaa.My
