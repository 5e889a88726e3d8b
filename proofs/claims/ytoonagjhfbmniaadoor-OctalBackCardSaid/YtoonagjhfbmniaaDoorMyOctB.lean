/- OctalBack: alive, and the law's walk. -/
import Derived.Test.YtoonagjhfbmniaaDoorMyOctW
import Derived.Test.YtoonagjhfbmniaaDoorMyTake
import Derived.Test.YtoonagjhfbmniaaDoorMyLaid8
import Derived.Lib.SmallJoins
import Derived.RegionTactic
namespace Go.Proofs.YtoonagjhfbmniaaDoor.My
open Go.RowKit Go.Proofs.YtoonagjhfbmniaaDoor.Oct Go.Proofs.YtoonagjhfbmniaaDoorW.PrintWords Go.Proofs.YtoonagjhfbmniaaDoorW.PrintLast Go.Proofs.YtoonagjhfbmniaaDoorW.PrintMore
set_option linter.unusedVariables false
set_option linter.unusedSimpArgs false

theorem alive_a : putAt [120, 120, 120, 120] 0 4 8 = [48, 49, 48, 0] ∧ fit ((4 : Nat) : Int) 8 = true := by decide +kernel
theorem alive_b : putAt [120, 120, 120, 120] 0 4 (-1) = [255, 255, 255, 255] ∧ fit ((4 : Nat) : Int) (-1) = true := by decide +kernel

theorem alive_calls (w : World) :
    Calls Tryd.prog 4 #[] w fun e w' => e = .returned (.bool true) ∧ Below w.heap.size w w' := by
  have kc := fun (C : Array Value) (n c : Nat) => Lib.run_convert_bytes_const (P := Tryd.prog) w 24 5 C n c Tryd.underlying24 Tryd.underlying5
  have kc2 := fun (C D : Array Value) (n c : Nat) (fr : Nat × Nat) => Go.Joins.run_convert_bytes_const_at (P := Tryd.prog) (w.alloc (.cells D 5 fr)) 24 5 C n c (w.heap.size + 1) (by simp) Tryd.underlying24 Tryd.underlying5
  go_enter Tryd.func4, Tryd.ntmps4
  go_wp2_with fail
  have r1 := (Row.str w [120, 120, 120, 120]).alloc (.cells (nums .u8 [120, 120, 120, 120]).toArray 5 (4, 5))
  have r2 := Row.str (w.alloc (.cells (nums .u8 [120, 120, 120, 120]).toArray 5 (4, 5))) [120, 120, 120, 120]
  have hb : Below w.heap.size w ((w.alloc (.cells (nums .u8 [120, 120, 120, 120]).toArray 5 (4, 5))).alloc (.cells (nums .u8 [120, 120, 120, 120]).toArray 5 (4, 5))) := below_alloc (below_alloc (Below.refl _ _) _) _
  rw [show (w.alloc (.cells (nums .u8 [120, 120, 120, 120]).toArray 5 (4, 5))).heap.size = w.heap.size + 1 from by simp] at r2
  refine (put_yes w.heap.size 0 4 4 8 [120, 120, 120, 120] _ alive_a.2 (by decide) (by decide) (by decide) (by decide) (by decide) r1).mono ?_
  rintro e w1 ⟨rfl, hg1, hr1⟩
  rw [alive_a.1] at hr1
  have r3 := r2.grown hg1 (by simp)
  have hb1 := below_grown hb hg1 (by simp; omega) (Nat.le_refl _)
  clear r1 r2 hb hg1 kc kc2
  rw [show errV none = .nilIface from rfl]
  have HR1 := Aside0.mk hr1
  have HR3 := Aside0.mk r3
  have HB1 := Aside0.mk hb1
  clear hr1 r3 hb1
  go_wp2_with fail
  refine (put_yes (w.heap.size + 1) 0 4 4 (-1) [120, 120, 120, 120] _ alive_b.2 (by decide) (by decide) (by decide) (by decide) (by decide) HR3.out).mono ?_
  rintro e w2 ⟨rfl, hg2, hr2⟩
  rw [alive_b.1] at hr2
  have hr1 := HR1.out.grown hg2 (by simp)
  have HB2 := Aside0.mk (below_grown HB1.out hg2 HB1.out.size (by omega))
  rw [show errV none = .nilIface from rfl]
  have k1 : (convert 24 9 (.slice (some ⟨w.heap.size, 0, none⟩) 4 4)).run Tryd.prog w2 = .ok (.string (strOfNums [48, 49, 48, 0])) w2 := Kd.C_string (P := Tryd.prog) (src := 24) (dst := 9) (c := 4) Tryd.underlying24 Tryd.underlying5 Tryd.underlying9 (hr1.whole (by decide))
  have k2 : (convert 24 9 (.slice (some ⟨w.heap.size + 1, 0, none⟩) 4 4)).run Tryd.prog w2 = .ok (.string (strOfNums [255, 255, 255, 255])) w2 := Kd.C_string (P := Tryd.prog) (src := 24) (dst := 9) (c := 4) Tryd.underlying24 Tryd.underlying5 Tryd.underlying9 (hr2.whole (by decide))
  have e1 : (strOfNums [48, 49, 48, 0]) = ⟨#[48, 49, 48, 0]⟩ := by decide +kernel
  have e2 : (strOfNums [255, 255, 255, 255]) = ⟨#[255, 255, 255, 255]⟩ := by decide +kernel
  rw [e1] at k1
  rw [e2] at k2
  clear hg2 hr1 hr2 e1 e2
  go_wp2
  go_ret
  exact ⟨rfl, HB2.out⟩


theorem putAt_all (n : Nat) (x : Int) (l : List Int) (h : l.length = n) : putAt l 0 n x = putB n x := by
  unfold putAt
  rw [List.take_zero, List.nil_append, Nat.zero_add, List.drop_eq_nil_of_le (by omega), List.append_nil]
theorem back_out (n x : Int) (w : World) (h : n < 1 ∨ 100 < n) : Calls Tryd.prog 3 #[.int .i64 n, .int .i64 x] w fun e w' => e = .returned (.bool true) ∧ Below w.heap.size w w' := by
  have HA : Aside0 (∀ w : World, Calls Tryd.prog 4 #[] w fun e w' => e = .returned (.bool true) ∧ Below w.heap.size w w') := ⟨alive_calls⟩
  rcases h with h | h
  all_goals
    go_enter Tryd.func3, Tryd.ntmps3
    go_wp2_with (go_at_call 4; refine (HA.out _).mono ?_; rintro e w1 ⟨rfl, hb⟩; have HB := Aside0.mk hb; clear hb)
    go_ret
    exact ⟨rfl, HB.out⟩
theorem back_no (n x : Int) (w : World) (h0 : 1 ≤ n) (h1 : n ≤ 100) (hf : fit n x = false) : Calls Tryd.prog 3 #[.int .i64 n, .int .i64 x] w fun e w' => e = .returned (.bool true) ∧ Below w.heap.size w w' := by
  have HA : Aside0 (∀ w : World, Calls Tryd.prog 4 #[] w fun e w' => e = .returned (.bool true) ∧ Below w.heap.size w w') := ⟨alive_calls⟩
  have HF : Aside0 (∀ w : World, Calls Tryd.prog 5 #[.int .i64 n, .int .i64 x] w fun e w' => e = .returned (.bool false) ∧ w = w') := ⟨fun w => hf ▸ fits_calls n x w⟩
  have h9 := fit_short n x h0 hf
  clear hf
  go_enter Tryd.func3, Tryd.ntmps3
  go_wp2_with (first
    | (go_at_call 4; refine (HA.out _).mono ?_; rintro e w1 ⟨rfl, hb⟩; have HB := Aside0.mk hb; clear hb)
    | (go_at_call 5; refine (HF.out _).mono ?_; rintro e w3 ⟨rfl, rfl⟩))
  go_ret
  exact ⟨rfl, HB.out⟩
theorem back_yes (n : Nat) (x : Int) (w : World) (h0 : 1 ≤ n) (h1 : n ≤ 100) (hx0 : -9223372036854775808 ≤ x) (hx1 : x ≤ 9223372036854775807) (hf : fit n x = true) : Calls Tryd.prog 3 #[.int .i64 n, .int .i64 x] w fun e w' => e = .returned (.bool true) ∧ Below w.heap.size w w' := by
  have HA : Aside0 (∀ w : World, Calls Tryd.prog 4 #[] w fun e w' => e = .returned (.bool true) ∧ Below w.heap.size w w') := ⟨alive_calls⟩
  have HF : Aside0 (∀ w : World, Calls Tryd.prog 5 #[.int .i64 n, .int .i64 x] w fun e w' => e = .returned (.bool true) ∧ w = w') := ⟨fun w => hf ▸ fits_calls n x w⟩
  have HF2 : Aside0 (∀ w : World, Calls Tryd.prog 5 #[.int .i64 ((n : Int) + 1), .int .i64 x] w fun e w' => e = .returned (.bool true) ∧ w = w') := ⟨fun w => fit_more n x (by omega) hf ▸ fits_calls ((n : Int) + 1) x w⟩
  have HT := Aside0.mk (take_put n x (by omega) hx0 hx1 hf)
  have HX := Aside0.mk (And.intro hf (And.intro hx0 hx1))
  have hmk : ∀ W : World, (Instr.makeSlice 24 (.int .i64 n) (.int .i64 n)).run Tryd.prog W = .ok (.slice (some ⟨W.heap.size, 0, none⟩) n n) (W.alloc (.cells (madeCells #[.int .u8 0] n) 5)) := fun W => make_bytes n (by omega) W
  clear hf hx0 hx1
  go_enter Tryd.func3, Tryd.ntmps3
  go_wp2_with (first
    | (go_at_call 4; refine (HA.out _).mono ?_; rintro e w1 ⟨rfl, hb⟩; have HB := Aside0.mk hb; clear hb)
    | (go_at_call 5; refine (HF.out _).mono ?_; rintro e w3 ⟨rfl, rfl⟩))
  refine (put_yes w1.heap.size 0 n n x (List.replicate n 0) _ HX.out.1 (by omega) (by omega) (by simp) HX.out.2.1 HX.out.2.2 (Row.made w1 n)).mono ?_
  rintro e w2 ⟨rfl, hg, hr⟩
  rw [putAt_all n x _ (by simp)] at hr
  have hlen := putB_length n x (by omega)
  have HB2 : Aside0 (Below w.heap.size w w2) := ⟨below_then HB.out HB.out.size (below_grown (below_alloc (Below.refl _ _) _) hg (by simp) (Nat.le_refl _))⟩
  have hF : Fld w2 (some ⟨w1.heap.size, 0, none⟩) n n (putB n x) := by
    have hC := hr.whole (by rw [hlen]; omega)
    rw [hlen] at hC
    exact ⟨reads_of_C hC, putB_byte n x (by omega), by omega⟩
  have HF3 := Aside0.mk hF
  clear hg hr hmk hF hlen
  rw [show errV none = .nilIface from rfl]
  go_wp2_with fail
  refine (take_calls w2 _ n n _ HF3.out).mono ?_
  rintro e w3 ⟨rfl, hb3⟩
  have HB3 : Aside0 (Below w.heap.size w w3) := ⟨below_then HB2.out HB2.out.size hb3⟩
  clear hb3
  rw [HT.out, show ansV (none, x) = .tuple #[.int .i64 x, .nilIface] from rfl]
  go_wp2_with (go_at_call 5; refine (HF2.out _).mono ?_; rintro e w4 ⟨rfl, rfl⟩)
  go_ret
  exact ⟨rfl, HB3.out⟩
theorem walk (n x : Int) (w : World) (hn : (Lit.int .i64 n).wf = true) (hx : (Lit.int .i64 x).wf = true) {L : Prop} (hL : L) :
    Calls Tryd.prog 3 #[.int .i64 n, .int .i64 x] w fun e w' => e = .returned (.bool true) ∧ Below w.heap.size w w' := by
  obtain ⟨hx0, hx1⟩ := wf_i64 hx
  by_cases h0 : n < 1 ∨ 100 < n
  · exact back_out n x w h0
  · cases hf : fit n x with
    | false => exact back_no n x w (by omega) (by omega) hf
    | true =>
      obtain ⟨m, rfl⟩ := Int.eq_ofNat_of_zero_le (show 0 ≤ n by omega)
      exact back_yes m x w (by omega) (by omega) hx0 hx1 hf
end Go.Proofs.YtoonagjhfbmniaaDoor.My
