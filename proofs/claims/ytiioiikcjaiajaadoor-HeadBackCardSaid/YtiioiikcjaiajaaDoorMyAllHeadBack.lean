/- MyDocA, MyDocFits, MyRefPut, MyRefH, MyDocPut, MyDocPuc, MyHeadE, MyAgg12, MyNumE, MyLaidH, MyHeadF, MyGlH2, MyHeadZ: laid into one text by merge.py. -/
import Derived.Test.YtiioiikcjaiajaaDoorPHeadPutsx0
import Derived.Test.YtiioiikcjaiajaaDoorPHeadPutsx2
import Derived.Test.YtiioiikcjaiajaaDoorPHeadPutsx3
import Derived.Test.YtiioiikcjaiajaaDoorMyAllH
import Derived.Laws.IdiomCopy
import Derived.StillTailTactics
import Derived.Lib.SmallJoins
import Derived.Test.YtiioiikcjaiajaaDoorProg
import Derived.WalkKit
import GoSem.PinnedTables
import Derived.Test.YtiioiikcjaiajaaDoorMyAllT
import Derived.ArgAppend

-- Cut by cutprint.py out of what the kit's print wrote for this seat.
namespace Go.Proofs.YtiioiikcjaiajaaDoor.MyDocA
open Go.Proofs.YtiioiikcjaiajaaDoor.PHeadPuts
open Go.RowKit Go.Proofs.YtiioiikcjaiajaaDoorW.PrintWords Go.Proofs.YtiioiikcjaiajaaDoorW.PrintLast Go.Proofs.YtiioiikcjaiajaaDoorW.PrintMore
attribute [local go_sem] max2_int min2_int max_two min_two max_three min_three max_four min_four   -- for this text's walks alone
set_option linter.unusedVariables false
set_option linter.unusedSimpArgs false

/-! ### crossdocklaw19_Long: function 8 -/
def crossdocklaw19_Long.f (a0_0 : ByteArray) (a0_1 : Int) (a0_2 : Int) (a0_3 : Int) (a0_4 : Int) (a0_5 : Int) (a0_6 : Int) (a0_7 : ByteArray) (a0_8 : ByteArray) (a0_9 : ByteArray) (a0_10 : Int) (a0_11 : Int) : Option (Bool) := if (a0_0.size : Int) > 600 then (some true) else (if (a0_7.size : Int) > 600 then (some true) else (if (a0_8.size : Int) > 600 then (some true) else (some (decide ((a0_9.size : Int) > 600)))))
set_option maxHeartbeats 8000000 in
set_option maxRecDepth 100000 in
theorem crossdocklaw19_Long.calls (a0_0 : ByteArray) (a0_1 : Int) (a0_2 : Int) (a0_3 : Int) (a0_4 : Int) (a0_5 : Int) (a0_6 : Int) (a0_7 : ByteArray) (a0_8 : ByteArray) (a0_9 : ByteArray) (a0_10 : Int) (a0_11 : Int) (r : Bool) (w : World) (h : crossdocklaw19_Long.f a0_0 a0_1 a0_2 a0_3 a0_4 a0_5 a0_6 a0_7 a0_8 a0_9 a0_10 a0_11 = some r) :
    Calls Tryd.prog 8 #[.agg #[.string a0_0, .int .i64 a0_1, .int .i64 a0_2, .int .i64 a0_3, .int .i64 a0_4, .int .i64 a0_5, .int .u8 a0_6, .string a0_7, .string a0_8, .string a0_9, .int .i64 a0_10, .int .i64 a0_11]] w fun e w' => e = .returned (.bool r) ∧ Below w.heap.size w w' := by
  have hu23 := Tryd.underlying23
  have HB := Aside0.mk (Below.refl w.heap.size w)
  have H : (if (a0_0.size : Int) > 600 then (some true) else (if (a0_7.size : Int) > 600 then (some true) else (if (a0_8.size : Int) > 600 then (some true) else (some (decide ((a0_9.size : Int) > 600)))))) = some r := h
  clear h
  by_cases c2 : (a0_0.size : Int) > 600
  · rw [if_pos c2] at H
    have c2b0 : decide (600 < (a0_0.size : Int)) = true := decide_eq_true c2
    have c2b1 : decide (600 < a0_0.size) = true := decide_eq_true (by omega)
    clear c2
    obtain rfl := Option.some.inj H
    go_enter Tryd.func8, Tryd.ntmps8
    go_wp2_with (first | ((with_reducible refine gate_dst (N := 1) rfl ?_); (try (refine gate_guard (by rfl) ?_; dsimp only)); refine box_event ?hg (N := 1) ?hd (cs := #[.string a0_0, .int .i64 a0_1, .int .i64 a0_2, .int .i64 a0_3, .int .i64 a0_4, .int .i64 a0_5, .int .u8 a0_6, .string a0_7, .string a0_8, .string a0_9, .int .i64 a0_10, .int .i64 a0_11]) (t := 23) ?hr ?_; (case hd => rfl); (case hg => rfl); (case hr => first | (go_simp; done) | (go_simp; rfl)); intro gb121 hg w3 hbox hb; have n0_ := Aside0.mk (below_step (by repeat (first | (with_reducible first | exact HB.out | apply below_alloc | apply pw_below_drewN | apply below_drew1) | exact HB.out)) hb); have n1_ := Aside0.mk (hbox); have n2_ := Aside0.mk ((by rw [hg]; exact (below_size (by repeat (first | (with_reducible first | exact HB.out | apply below_alloc | apply pw_below_drewN | apply below_drew1) | exact HB.out))) : w.heap.size ≤ gb121)); have n3_ := Aside0.mk ((by rw [hg]; exact (below_size (by repeat (first | (with_reducible first | exact HB.out | apply below_alloc | apply pw_below_drewN | apply below_drew1) | exact HB.out))) : w.heap.size ≤ gb121)); clear HB; have HB := n0_; have BK121 := n1_; have GW121 := n2_; have GE121 := n3_; clear n0_ n1_ n2_ n3_; clear hb hbox hg; have hcz4_0 : w3.cell? ⟨gb121, 0, none⟩ = some (.string a0_0) := (blk_cell BK121.out 0).trans rfl; have hcz4_1 : w3.cell? ⟨gb121, 1, none⟩ = some (.int .i64 a0_1) := (blk_cell BK121.out 1).trans rfl; have hcz4_2 : w3.cell? ⟨gb121, 2, none⟩ = some (.int .i64 a0_2) := (blk_cell BK121.out 2).trans rfl; have hcz4_3 : w3.cell? ⟨gb121, 3, none⟩ = some (.int .i64 a0_3) := (blk_cell BK121.out 3).trans rfl; have hcz4_4 : w3.cell? ⟨gb121, 4, none⟩ = some (.int .i64 a0_4) := (blk_cell BK121.out 4).trans rfl; have hcz4_5 : w3.cell? ⟨gb121, 5, none⟩ = some (.int .i64 a0_5) := (blk_cell BK121.out 5).trans rfl; have hcz4_6 : w3.cell? ⟨gb121, 6, none⟩ = some (.int .u8 a0_6) := (blk_cell BK121.out 6).trans rfl; have hcz4_7 : w3.cell? ⟨gb121, 7, none⟩ = some (.string a0_7) := (blk_cell BK121.out 7).trans rfl; have hcz4_8 : w3.cell? ⟨gb121, 8, none⟩ = some (.string a0_8) := (blk_cell BK121.out 8).trans rfl; have hcz4_9 : w3.cell? ⟨gb121, 9, none⟩ = some (.string a0_9) := (blk_cell BK121.out 9).trans rfl; have hcz4_10 : w3.cell? ⟨gb121, 10, none⟩ = some (.int .i64 a0_10) := (blk_cell BK121.out 10).trans rfl; have hcz4_11 : w3.cell? ⟨gb121, 11, none⟩ = some (.int .i64 a0_11) := (blk_cell BK121.out 11).trans rfl; have hfz4_0 := blk_frozen BK121.out 0; have hfz4_1 := blk_frozen BK121.out 1; have hfz4_2 := blk_frozen BK121.out 2; have hfz4_3 := blk_frozen BK121.out 3; have hfz4_4 := blk_frozen BK121.out 4; have hfz4_5 := blk_frozen BK121.out 5; have hfz4_6 := blk_frozen BK121.out 6; have hfz4_7 := blk_frozen BK121.out 7; have hfz4_8 := blk_frozen BK121.out 8; have hfz4_9 := blk_frozen BK121.out 9; have hfz4_10 := blk_frozen BK121.out 10; have hfz4_11 := blk_frozen BK121.out 11))
    go_ret
    exact ⟨by first | rfl | (simp [errW_none, errW_some] <;> rfl) | (simp [*, errW_none, errW_some] <;> rfl), by repeat (first | (with_reducible first | exact HB.out | apply below_alloc | apply pw_below_drewN | apply below_drew1 | refine below_set ?_ GE121.out) | exact HB.out)⟩
  · rw [if_neg c2] at H
    have c2b0 : decide (600 < (a0_0.size : Int)) = false := decide_eq_false c2
    have c2b1 : decide (600 < a0_0.size) = false := decide_eq_false (by omega)
    clear c2
    by_cases c5 : (a0_7.size : Int) > 600
    · rw [if_pos c5] at H
      have c5b0 : decide (600 < (a0_7.size : Int)) = true := decide_eq_true c5
      have c5b1 : decide (600 < a0_7.size) = true := decide_eq_true (by omega)
      clear c5
      obtain rfl := Option.some.inj H
      go_enter Tryd.func8, Tryd.ntmps8
      go_wp2_with (first | ((with_reducible refine gate_dst (N := 1) rfl ?_); (try (refine gate_guard (by rfl) ?_; dsimp only)); refine box_event ?hg (N := 1) ?hd (cs := #[.string a0_0, .int .i64 a0_1, .int .i64 a0_2, .int .i64 a0_3, .int .i64 a0_4, .int .i64 a0_5, .int .u8 a0_6, .string a0_7, .string a0_8, .string a0_9, .int .i64 a0_10, .int .i64 a0_11]) (t := 23) ?hr ?_; (case hd => rfl); (case hg => rfl); (case hr => first | (go_simp; done) | (go_simp; rfl)); intro gb121 hg w6 hbox hb; have n0_ := Aside0.mk (below_step (by repeat (first | (with_reducible first | exact HB.out | apply below_alloc | apply pw_below_drewN | apply below_drew1) | exact HB.out)) hb); have n1_ := Aside0.mk (hbox); have n2_ := Aside0.mk ((by rw [hg]; exact (below_size (by repeat (first | (with_reducible first | exact HB.out | apply below_alloc | apply pw_below_drewN | apply below_drew1) | exact HB.out))) : w.heap.size ≤ gb121)); have n3_ := Aside0.mk ((by rw [hg]; exact (below_size (by repeat (first | (with_reducible first | exact HB.out | apply below_alloc | apply pw_below_drewN | apply below_drew1) | exact HB.out))) : w.heap.size ≤ gb121)); clear HB; have HB := n0_; have BK121 := n1_; have GW121 := n2_; have GE121 := n3_; clear n0_ n1_ n2_ n3_; clear hb hbox hg; have hcz7_0 : w6.cell? ⟨gb121, 0, none⟩ = some (.string a0_0) := (blk_cell BK121.out 0).trans rfl; have hcz7_1 : w6.cell? ⟨gb121, 1, none⟩ = some (.int .i64 a0_1) := (blk_cell BK121.out 1).trans rfl; have hcz7_2 : w6.cell? ⟨gb121, 2, none⟩ = some (.int .i64 a0_2) := (blk_cell BK121.out 2).trans rfl; have hcz7_3 : w6.cell? ⟨gb121, 3, none⟩ = some (.int .i64 a0_3) := (blk_cell BK121.out 3).trans rfl; have hcz7_4 : w6.cell? ⟨gb121, 4, none⟩ = some (.int .i64 a0_4) := (blk_cell BK121.out 4).trans rfl; have hcz7_5 : w6.cell? ⟨gb121, 5, none⟩ = some (.int .i64 a0_5) := (blk_cell BK121.out 5).trans rfl; have hcz7_6 : w6.cell? ⟨gb121, 6, none⟩ = some (.int .u8 a0_6) := (blk_cell BK121.out 6).trans rfl; have hcz7_7 : w6.cell? ⟨gb121, 7, none⟩ = some (.string a0_7) := (blk_cell BK121.out 7).trans rfl; have hcz7_8 : w6.cell? ⟨gb121, 8, none⟩ = some (.string a0_8) := (blk_cell BK121.out 8).trans rfl; have hcz7_9 : w6.cell? ⟨gb121, 9, none⟩ = some (.string a0_9) := (blk_cell BK121.out 9).trans rfl; have hcz7_10 : w6.cell? ⟨gb121, 10, none⟩ = some (.int .i64 a0_10) := (blk_cell BK121.out 10).trans rfl; have hcz7_11 : w6.cell? ⟨gb121, 11, none⟩ = some (.int .i64 a0_11) := (blk_cell BK121.out 11).trans rfl; have hfz7_0 := blk_frozen BK121.out 0; have hfz7_1 := blk_frozen BK121.out 1; have hfz7_2 := blk_frozen BK121.out 2; have hfz7_3 := blk_frozen BK121.out 3; have hfz7_4 := blk_frozen BK121.out 4; have hfz7_5 := blk_frozen BK121.out 5; have hfz7_6 := blk_frozen BK121.out 6; have hfz7_7 := blk_frozen BK121.out 7; have hfz7_8 := blk_frozen BK121.out 8; have hfz7_9 := blk_frozen BK121.out 9; have hfz7_10 := blk_frozen BK121.out 10; have hfz7_11 := blk_frozen BK121.out 11))
      go_ret
      exact ⟨by first | rfl | (simp [errW_none, errW_some] <;> rfl) | (simp [*, errW_none, errW_some] <;> rfl), by repeat (first | (with_reducible first | exact HB.out | apply below_alloc | apply pw_below_drewN | apply below_drew1 | refine below_set ?_ GE121.out) | exact HB.out)⟩
    · rw [if_neg c5] at H
      have c5b0 : decide (600 < (a0_7.size : Int)) = false := decide_eq_false c5
      have c5b1 : decide (600 < a0_7.size) = false := decide_eq_false (by omega)
      clear c5
      by_cases c8 : (a0_8.size : Int) > 600
      · rw [if_pos c8] at H
        have c8b0 : decide (600 < (a0_8.size : Int)) = true := decide_eq_true c8
        have c8b1 : decide (600 < a0_8.size) = true := decide_eq_true (by omega)
        clear c8
        obtain rfl := Option.some.inj H
        go_enter Tryd.func8, Tryd.ntmps8
        go_wp2_with (first | ((with_reducible refine gate_dst (N := 1) rfl ?_); (try (refine gate_guard (by rfl) ?_; dsimp only)); refine box_event ?hg (N := 1) ?hd (cs := #[.string a0_0, .int .i64 a0_1, .int .i64 a0_2, .int .i64 a0_3, .int .i64 a0_4, .int .i64 a0_5, .int .u8 a0_6, .string a0_7, .string a0_8, .string a0_9, .int .i64 a0_10, .int .i64 a0_11]) (t := 23) ?hr ?_; (case hd => rfl); (case hg => rfl); (case hr => first | (go_simp; done) | (go_simp; rfl)); intro gb121 hg w9 hbox hb; have n0_ := Aside0.mk (below_step (by repeat (first | (with_reducible first | exact HB.out | apply below_alloc | apply pw_below_drewN | apply below_drew1) | exact HB.out)) hb); have n1_ := Aside0.mk (hbox); have n2_ := Aside0.mk ((by rw [hg]; exact (below_size (by repeat (first | (with_reducible first | exact HB.out | apply below_alloc | apply pw_below_drewN | apply below_drew1) | exact HB.out))) : w.heap.size ≤ gb121)); have n3_ := Aside0.mk ((by rw [hg]; exact (below_size (by repeat (first | (with_reducible first | exact HB.out | apply below_alloc | apply pw_below_drewN | apply below_drew1) | exact HB.out))) : w.heap.size ≤ gb121)); clear HB; have HB := n0_; have BK121 := n1_; have GW121 := n2_; have GE121 := n3_; clear n0_ n1_ n2_ n3_; clear hb hbox hg; have hcz10_0 : w9.cell? ⟨gb121, 0, none⟩ = some (.string a0_0) := (blk_cell BK121.out 0).trans rfl; have hcz10_1 : w9.cell? ⟨gb121, 1, none⟩ = some (.int .i64 a0_1) := (blk_cell BK121.out 1).trans rfl; have hcz10_2 : w9.cell? ⟨gb121, 2, none⟩ = some (.int .i64 a0_2) := (blk_cell BK121.out 2).trans rfl; have hcz10_3 : w9.cell? ⟨gb121, 3, none⟩ = some (.int .i64 a0_3) := (blk_cell BK121.out 3).trans rfl; have hcz10_4 : w9.cell? ⟨gb121, 4, none⟩ = some (.int .i64 a0_4) := (blk_cell BK121.out 4).trans rfl; have hcz10_5 : w9.cell? ⟨gb121, 5, none⟩ = some (.int .i64 a0_5) := (blk_cell BK121.out 5).trans rfl; have hcz10_6 : w9.cell? ⟨gb121, 6, none⟩ = some (.int .u8 a0_6) := (blk_cell BK121.out 6).trans rfl; have hcz10_7 : w9.cell? ⟨gb121, 7, none⟩ = some (.string a0_7) := (blk_cell BK121.out 7).trans rfl; have hcz10_8 : w9.cell? ⟨gb121, 8, none⟩ = some (.string a0_8) := (blk_cell BK121.out 8).trans rfl; have hcz10_9 : w9.cell? ⟨gb121, 9, none⟩ = some (.string a0_9) := (blk_cell BK121.out 9).trans rfl; have hcz10_10 : w9.cell? ⟨gb121, 10, none⟩ = some (.int .i64 a0_10) := (blk_cell BK121.out 10).trans rfl; have hcz10_11 : w9.cell? ⟨gb121, 11, none⟩ = some (.int .i64 a0_11) := (blk_cell BK121.out 11).trans rfl; have hfz10_0 := blk_frozen BK121.out 0; have hfz10_1 := blk_frozen BK121.out 1; have hfz10_2 := blk_frozen BK121.out 2; have hfz10_3 := blk_frozen BK121.out 3; have hfz10_4 := blk_frozen BK121.out 4; have hfz10_5 := blk_frozen BK121.out 5; have hfz10_6 := blk_frozen BK121.out 6; have hfz10_7 := blk_frozen BK121.out 7; have hfz10_8 := blk_frozen BK121.out 8; have hfz10_9 := blk_frozen BK121.out 9; have hfz10_10 := blk_frozen BK121.out 10; have hfz10_11 := blk_frozen BK121.out 11))
        go_ret
        exact ⟨by first | rfl | (simp [errW_none, errW_some] <;> rfl) | (simp [*, errW_none, errW_some] <;> rfl), by repeat (first | (with_reducible first | exact HB.out | apply below_alloc | apply pw_below_drewN | apply below_drew1 | refine below_set ?_ GE121.out) | exact HB.out)⟩
      · rw [if_neg c8] at H
        have c8b0 : decide (600 < (a0_8.size : Int)) = false := decide_eq_false c8
        have c8b1 : decide (600 < a0_8.size) = false := decide_eq_false (by omega)
        clear c8
        obtain rfl := Option.some.inj H
        go_enter Tryd.func8, Tryd.ntmps8
        go_wp2_with (first | ((with_reducible refine gate_dst (N := 1) rfl ?_); (try (refine gate_guard (by rfl) ?_; dsimp only)); refine box_event ?hg (N := 1) ?hd (cs := #[.string a0_0, .int .i64 a0_1, .int .i64 a0_2, .int .i64 a0_3, .int .i64 a0_4, .int .i64 a0_5, .int .u8 a0_6, .string a0_7, .string a0_8, .string a0_9, .int .i64 a0_10, .int .i64 a0_11]) (t := 23) ?hr ?_; (case hd => rfl); (case hg => rfl); (case hr => first | (go_simp; done) | (go_simp; rfl)); intro gb121 hg w11 hbox hb; have n0_ := Aside0.mk (below_step (by repeat (first | (with_reducible first | exact HB.out | apply below_alloc | apply pw_below_drewN | apply below_drew1) | exact HB.out)) hb); have n1_ := Aside0.mk (hbox); have n2_ := Aside0.mk ((by rw [hg]; exact (below_size (by repeat (first | (with_reducible first | exact HB.out | apply below_alloc | apply pw_below_drewN | apply below_drew1) | exact HB.out))) : w.heap.size ≤ gb121)); have n3_ := Aside0.mk ((by rw [hg]; exact (below_size (by repeat (first | (with_reducible first | exact HB.out | apply below_alloc | apply pw_below_drewN | apply below_drew1) | exact HB.out))) : w.heap.size ≤ gb121)); clear HB; have HB := n0_; have BK121 := n1_; have GW121 := n2_; have GE121 := n3_; clear n0_ n1_ n2_ n3_; clear hb hbox hg; have hcz12_0 : w11.cell? ⟨gb121, 0, none⟩ = some (.string a0_0) := (blk_cell BK121.out 0).trans rfl; have hcz12_1 : w11.cell? ⟨gb121, 1, none⟩ = some (.int .i64 a0_1) := (blk_cell BK121.out 1).trans rfl; have hcz12_2 : w11.cell? ⟨gb121, 2, none⟩ = some (.int .i64 a0_2) := (blk_cell BK121.out 2).trans rfl; have hcz12_3 : w11.cell? ⟨gb121, 3, none⟩ = some (.int .i64 a0_3) := (blk_cell BK121.out 3).trans rfl; have hcz12_4 : w11.cell? ⟨gb121, 4, none⟩ = some (.int .i64 a0_4) := (blk_cell BK121.out 4).trans rfl; have hcz12_5 : w11.cell? ⟨gb121, 5, none⟩ = some (.int .i64 a0_5) := (blk_cell BK121.out 5).trans rfl; have hcz12_6 : w11.cell? ⟨gb121, 6, none⟩ = some (.int .u8 a0_6) := (blk_cell BK121.out 6).trans rfl; have hcz12_7 : w11.cell? ⟨gb121, 7, none⟩ = some (.string a0_7) := (blk_cell BK121.out 7).trans rfl; have hcz12_8 : w11.cell? ⟨gb121, 8, none⟩ = some (.string a0_8) := (blk_cell BK121.out 8).trans rfl; have hcz12_9 : w11.cell? ⟨gb121, 9, none⟩ = some (.string a0_9) := (blk_cell BK121.out 9).trans rfl; have hcz12_10 : w11.cell? ⟨gb121, 10, none⟩ = some (.int .i64 a0_10) := (blk_cell BK121.out 10).trans rfl; have hcz12_11 : w11.cell? ⟨gb121, 11, none⟩ = some (.int .i64 a0_11) := (blk_cell BK121.out 11).trans rfl; have hfz12_0 := blk_frozen BK121.out 0; have hfz12_1 := blk_frozen BK121.out 1; have hfz12_2 := blk_frozen BK121.out 2; have hfz12_3 := blk_frozen BK121.out 3; have hfz12_4 := blk_frozen BK121.out 4; have hfz12_5 := blk_frozen BK121.out 5; have hfz12_6 := blk_frozen BK121.out 6; have hfz12_7 := blk_frozen BK121.out 7; have hfz12_8 := blk_frozen BK121.out 8; have hfz12_9 := blk_frozen BK121.out 9; have hfz12_10 := blk_frozen BK121.out 10; have hfz12_11 := blk_frozen BK121.out 11))
        go_ret
        exact ⟨by first | rfl | (simp [errW_none, errW_some] <;> rfl) | (simp [*, errW_none, errW_some] <;> rfl), by repeat (first | (with_reducible first | exact HB.out | apply below_alloc | apply pw_below_drewN | apply below_drew1 | refine below_set ?_ GE121.out) | exact HB.out)⟩

/-! ### crossdockref19_Sum: function 20 -/
def crossdockref19_Sum.l0 : Nat → List Int → Int → Int → Option (Int)
  | 0, _, _, _ => none
  | k + 1, x0, x3, x4 => if x4 < 512 then (if x4 ≥ 148 then (if x4 < 156 then (crossdockref19_Sum.l0 k x0 (wrap64 (x3 + 32)) (wrap64 (x4 + 1))) else (if 0 ≤ x4 then (if x4 < (x0.length : Int) then (crossdockref19_Sum.l0 k x0 (wrap64 (x3 + (wrap64 (rd x0 x4)))) (wrap64 (x4 + 1))) else (none)) else (none))) else (if 0 ≤ x4 then (if x4 < (x0.length : Int) then (crossdockref19_Sum.l0 k x0 (wrap64 (x3 + (wrap64 (rd x0 x4)))) (wrap64 (x4 + 1))) else (none)) else (none))) else (some x3)
def crossdockref19_Sum.f (k : Nat) (l0 : List Int) : Option (Int) := crossdockref19_Sum.l0 k l0 0 0
theorem crossdockref19_Sum.mono_l : ∀ k, (∀ y0 y1 y2, LeO (crossdockref19_Sum.l0 k y0 y1 y2) (crossdockref19_Sum.l0 (k + 1) y0 y1 y2))
  | 0 => fun _ _ _ r h => by simp [crossdockref19_Sum.l0] at h
  | k + 1 => by
    have ih0 := crossdockref19_Sum.mono_l k
    · intro y0 y1 y2
      unfold crossdockref19_Sum.l0
      repeat' first
      | (with_reducible exact ih0 _ _ _)
      | (with_reducible exact LeO.refl _)
      | (with_reducible exact LeO.none _)
      | (with_reducible refine LeO.ite ?_ ?_)
      | (with_reducible refine LeO.bind ?_ (fun _ => ?_))
      | exact ih0 _ _ _
      | exact LeO.none _
      | refine LeO.ite ?_ ?_
      | refine LeO.bind ?_ (fun _ => ?_)
theorem crossdockref19_Sum.mono : ∀ a0 k, LeO (crossdockref19_Sum.f k a0) (crossdockref19_Sum.f (k + 1) a0) := by
  intro a0 k
  have ih0 := crossdockref19_Sum.mono_l k
  unfold crossdockref19_Sum.f
  repeat' first
      | (with_reducible exact ih0 _ _ _)
      | (with_reducible exact LeO.refl _)
      | (with_reducible exact LeO.none _)
      | (with_reducible refine LeO.ite ?_ ?_)
      | (with_reducible refine LeO.bind ?_ (fun _ => ?_))
      | exact ih0 _ _ _
      | exact LeO.none _
      | refine LeO.ite ?_ ?_
      | refine LeO.bind ?_ (fun _ => ?_)
set_option maxHeartbeats 8000000 in
set_option maxRecDepth 100000 in
theorem crossdockref19_Sum.calls (k : Nat) (A0 : Option Addr) (c0 : Nat) (l0 : List Int) (r : Int) (w : World) (hr0 : Kd.C (Kd.int .u8) w A0 l0.length l0) (hc0 : l0.length ≤ c0) (h : crossdockref19_Sum.f k l0 = some r) :
    Calls Tryd.prog 20 #[.slice A0 l0.length c0] w fun e w' => e = .returned (.int .i64 r) ∧ Drawn0 w w' := by
  have HR0 := Aside0.mk hr0
  have HC0 := Aside0.mk hc0
  clear hr0 hc0
  have H : (crossdockref19_Sum.l0 k l0 0 0) = some r := h
  clear h
  have H' := Aside0.mk H
  clear H
  go_enter Tryd.func20, Tryd.ntmps20
  go_wp2
  go_loopg [3, 4] k (fun kq v3 v4 w' => ∃ (x3_1 : Int) (x4_1 : Int), v3 = .int .i64 x3_1 ∧ v4 = .int .i64 x4_1 ∧ Aside0 (crossdockref19_Sum.l0 kq l0 x3_1 x4_1 = some r) ∧ Aside0 (kq ≤ k) ∧ Drawn0 w w')
  case atStart => exact ⟨(0), (0), (by first | rfl | (simp; done) | (simp [*]; done)), (by first | rfl | (simp; done) | (simp [*]; done)), H', ⟨Nat.le_refl _⟩, by repeat (first | exact Drawn0.refl _ | apply Drawn0.step)⟩
  case round =>
    clear H'
    obtain ⟨x3_1, x4_1, rfl, rfl, HA, HK1, ⟨m1, rfl⟩⟩ := hrel
    cases gk with
    | zero => exact absurd HA.out (by simp [crossdockref19_Sum.l0])
    | succ k1 =>
      have H := HA.out
      clear HA
      simp only [crossdockref19_Sum.l0] at H
      by_cases c2 : x4_1 < 512
      · rw [if_pos c2] at H
        have c2b0 : decide (x4_1 < 512) = true := decide_eq_true c2
        clear c2
        by_cases c3 : x4_1 ≥ 148
        · rw [if_pos c3] at H
          have c3b0 : decide (148 ≤ x4_1) = true := decide_eq_true c3
          clear c3
          by_cases c4 : x4_1 < 156
          · rw [if_pos c4] at H
            have c4b0 : decide (x4_1 < 156) = true := decide_eq_true c4
            clear c4
            have H' := Aside0.mk H
            clear H
            go_wp2
            go_roundg k1
            case measure => have := HK1.out; omega
            case rel => exact ⟨(wrap64 (x3_1 + 32)), (wrap64 (x4_1 + 1)), (by first | rfl | (simp; done) | (simp [*]; done)), (by first | rfl | (simp; done) | (simp [*]; done)), H', ⟨by have := HK1.out; omega⟩, by repeat (first | exact Drawn0.refl _ | apply Drawn0.step)⟩
          · rw [if_neg c4] at H
            have c4b0 : decide (x4_1 < 156) = false := decide_eq_false c4
            clear c4
            by_cases c5 : 0 ≤ x4_1
            · rw [if_pos c5] at H
              have c5b0 : decide (0 ≤ x4_1) = true := decide_eq_true c5
              clear c5
              by_cases c6 : x4_1 < (l0.length : Int)
              · rw [if_pos c6] at H
                have c6b0 : decide (x4_1 < (l0.length : Int)) = true := decide_eq_true c6
                clear c6
                have H' := Aside0.mk H
                clear H
                have p122 : 0 ≤ (x4_1 : Int) := of_decide_eq_true (by first | (with_reducible assumption) | assumption)
                have q122 : x4_1 < (l0.length : Int) := of_decide_eq_true (by first | (with_reducible assumption) | assumption)
                obtain ⟨ad122, e122, hx122_0⟩ := Kd.at_int HR0.out x4_1 p122 q122
                cases e122
                replace p122 := eq_true p122
                replace q122 := eq_true q122
                go_wp2
                go_roundg k1
                case measure => have := HK1.out; omega
                case rel => exact ⟨(wrap64 (x3_1 + (wrap64 (rd l0 x4_1)))), (wrap64 (x4_1 + 1)), (by first | rfl | (simp; done) | (simp [*]; done)), (by first | rfl | (simp; done) | (simp [*]; done)), H', ⟨by have := HK1.out; omega⟩, by repeat (first | exact Drawn0.refl _ | apply Drawn0.step)⟩
              · rw [if_neg c6] at H
                exact absurd H (by simp)
            · rw [if_neg c5] at H
              exact absurd H (by simp)
        · rw [if_neg c3] at H
          have c3b0 : decide (148 ≤ x4_1) = false := decide_eq_false c3
          clear c3
          by_cases c7 : 0 ≤ x4_1
          · rw [if_pos c7] at H
            have c7b0 : decide (0 ≤ x4_1) = true := decide_eq_true c7
            clear c7
            by_cases c8 : x4_1 < (l0.length : Int)
            · rw [if_pos c8] at H
              have c8b0 : decide (x4_1 < (l0.length : Int)) = true := decide_eq_true c8
              clear c8
              have H' := Aside0.mk H
              clear H
              have p123 : 0 ≤ (x4_1 : Int) := of_decide_eq_true (by first | (with_reducible assumption) | assumption)
              have q123 : x4_1 < (l0.length : Int) := of_decide_eq_true (by first | (with_reducible assumption) | assumption)
              obtain ⟨ad123, e123, hx123_0⟩ := Kd.at_int HR0.out x4_1 p123 q123
              cases e123
              replace p123 := eq_true p123
              replace q123 := eq_true q123
              go_wp2
              go_roundg k1
              case measure => have := HK1.out; omega
              case rel => exact ⟨(wrap64 (x3_1 + (wrap64 (rd l0 x4_1)))), (wrap64 (x4_1 + 1)), (by first | rfl | (simp; done) | (simp [*]; done)), (by first | rfl | (simp; done) | (simp [*]; done)), H', ⟨by have := HK1.out; omega⟩, by repeat (first | exact Drawn0.refl _ | apply Drawn0.step)⟩
            · rw [if_neg c8] at H
              exact absurd H (by simp)
          · rw [if_neg c7] at H
            exact absurd H (by simp)
      · rw [if_neg c2] at H
        have c2b0 : decide (x4_1 < 512) = false := decide_eq_false c2
        clear c2
        obtain rfl := Option.some.inj H
        go_wp2
        go_ret
        exact ⟨by first | rfl | (simp; done) | (simp [*]; done), by repeat (first | exact Drawn0.refl _ | apply Drawn0.step)⟩

/-! ### crossdockref19_nought: function 31 -/
def crossdockref19_nought.l0 : Nat → ByteArray → Int → Option (Bool)
  | 0, _, _ => none
  | k + 1, x0, x3 => if x3 < (x0.size : Int) then (if 0 ≤ x3 then (if (bt x0 x3) = 0 then (some true) else (crossdockref19_nought.l0 k x0 (wrap64 (x3 + 1)))) else (none)) else (some false)
def crossdockref19_nought.f (k : Nat) (a0 : ByteArray) : Option (Bool) := crossdockref19_nought.l0 k a0 0
theorem crossdockref19_nought.mono_l : ∀ k, (∀ y0 y1, LeO (crossdockref19_nought.l0 k y0 y1) (crossdockref19_nought.l0 (k + 1) y0 y1))
  | 0 => fun _ _ r h => by simp [crossdockref19_nought.l0] at h
  | k + 1 => by
    have ih0 := crossdockref19_nought.mono_l k
    · intro y0 y1
      unfold crossdockref19_nought.l0
      repeat' first
      | (with_reducible exact ih0 _ _)
      | (with_reducible exact LeO.refl _)
      | (with_reducible exact LeO.none _)
      | (with_reducible refine LeO.ite ?_ ?_)
      | (with_reducible refine LeO.bind ?_ (fun _ => ?_))
      | exact ih0 _ _
      | exact LeO.none _
      | refine LeO.ite ?_ ?_
      | refine LeO.bind ?_ (fun _ => ?_)
theorem crossdockref19_nought.mono : ∀ a0 k, LeO (crossdockref19_nought.f k a0) (crossdockref19_nought.f (k + 1) a0) := by
  intro a0 k
  have ih0 := crossdockref19_nought.mono_l k
  unfold crossdockref19_nought.f
  repeat' first
      | (with_reducible exact ih0 _ _)
      | (with_reducible exact LeO.refl _)
      | (with_reducible exact LeO.none _)
      | (with_reducible refine LeO.ite ?_ ?_)
      | (with_reducible refine LeO.bind ?_ (fun _ => ?_))
      | exact ih0 _ _
      | exact LeO.none _
      | refine LeO.ite ?_ ?_
      | refine LeO.bind ?_ (fun _ => ?_)
set_option maxHeartbeats 8000000 in
set_option maxRecDepth 100000 in
theorem crossdockref19_nought.calls (k : Nat) (a0 : ByteArray) (r : Bool) (w : World) (h : crossdockref19_nought.f k a0 = some r) :
    Calls Tryd.prog 31 #[.string a0] w fun e w' => e = .returned (.bool r) ∧ Drawn0 w w' := by
  have H : (crossdockref19_nought.l0 k a0 0) = some r := h
  clear h
  have H' := Aside0.mk H
  clear H
  go_enter Tryd.func31, Tryd.ntmps31
  go_wp2
  go_loopg [3] k (fun kq v3 w' => ∃ (x3_1 : Int), v3 = .int .i64 x3_1 ∧ Aside0 (crossdockref19_nought.l0 kq a0 x3_1 = some r) ∧ Aside0 (kq ≤ k) ∧ Drawn0 w w')
  case atStart => exact ⟨(0), (by first | rfl | (simp; done) | (simp [*]; done)), H', ⟨Nat.le_refl _⟩, by repeat (first | exact Drawn0.refl _ | apply Drawn0.step)⟩
  case round =>
    clear H'
    obtain ⟨x3_1, rfl, HA, HK1, ⟨m1, rfl⟩⟩ := hrel
    cases gk with
    | zero => exact absurd HA.out (by simp [crossdockref19_nought.l0])
    | succ k1 =>
      have H := HA.out
      clear HA
      simp only [crossdockref19_nought.l0] at H
      by_cases c2 : x3_1 < (a0.size : Int)
      · rw [if_pos c2] at H
        have c2b0 : decide (x3_1 < (a0.size : Int)) = true := decide_eq_true c2
        clear c2
        by_cases c3 : 0 ≤ x3_1
        · rw [if_pos c3] at H
          have c3b0 : decide (0 ≤ x3_1) = true := decide_eq_true c3
          clear c3
          by_cases c5 : (bt a0 x3_1) = 0
          · rw [if_pos c5] at H
            have c5b0 : ((bt a0 x3_1) == 0) = true := beq_iff_eq.mpr c5
            have c5b1 : ((bt a0 x3_1) != 0) = false := bne_eq_false_iff_eq.mpr c5
            clear c5
            obtain rfl := Option.some.inj H
            have p4 : 0 ≤ (x3_1 : Int) := of_decide_eq_true (by first | (with_reducible assumption) | assumption)
            have q4 : x3_1 < (a0.size : Int) := of_decide_eq_true (by first | (with_reducible assumption) | assumption)
            have hx4 := bt_at a0 x3_1
            replace p4 := eq_true p4
            replace q4 := eq_true q4
            go_wp2
            go_ret
            exact ⟨by first | rfl | (simp; done) | (simp [*]; done), by repeat (first | exact Drawn0.refl _ | apply Drawn0.step)⟩
          · rw [if_neg c5] at H
            have c5b0 : ((bt a0 x3_1) == 0) = false := beq_eq_false_iff_ne.mpr c5
            have c5b1 : ((bt a0 x3_1) != 0) = true := bne_iff_ne.mpr c5
            have H' := Aside0.mk H
            clear H
            have p4 : 0 ≤ (x3_1 : Int) := of_decide_eq_true (by first | (with_reducible assumption) | assumption)
            have q4 : x3_1 < (a0.size : Int) := of_decide_eq_true (by first | (with_reducible assumption) | assumption)
            have hx4 := bt_at a0 x3_1
            replace p4 := eq_true p4
            replace q4 := eq_true q4
            go_wp2
            go_roundg k1
            case measure => have := HK1.out; omega
            case rel => exact ⟨(wrap64 (x3_1 + 1)), (by first | rfl | (simp; done) | (simp [*]; done)), H', ⟨by have := HK1.out; omega⟩, by repeat (first | exact Drawn0.refl _ | apply Drawn0.step)⟩
        · rw [if_neg c3] at H
          exact absurd H (by simp)
      · rw [if_neg c2] at H
        have c2b0 : decide (x3_1 < (a0.size : Int)) = false := decide_eq_false c2
        clear c2
        obtain rfl := Option.some.inj H
        go_wp2
        go_ret
        exact ⟨by first | rfl | (simp; done) | (simp [*]; done), by repeat (first | exact Drawn0.refl _ | apply Drawn0.step)⟩


end Go.Proofs.YtiioiikcjaiajaaDoor.MyDocA

-- Cut by cutprint.py out of what the kit's print wrote for this seat.
namespace Go.Proofs.YtiioiikcjaiajaaDoor.MyDocFits
open Go.Proofs.YtiioiikcjaiajaaDoor.PHeadPuts Go.Proofs.YtiioiikcjaiajaaDoor.MyDocA
open Go.RowKit Go.Proofs.YtiioiikcjaiajaaDoorW.PrintWords Go.Proofs.YtiioiikcjaiajaaDoorW.PrintLast Go.Proofs.YtiioiikcjaiajaaDoorW.PrintMore
attribute [local go_sem] max2_int min2_int max_two min_two max_three min_three max_four min_four   -- for this text's walks alone
set_option linter.unusedVariables false
set_option linter.unusedSimpArgs false

/-! ### crossdockref19_Fits: function 14 -/
def crossdockref19_Fits.f (k : Nat) (a0 : ByteArray) : Option (Bool) := (crossdockref19_Cut.f k a0).bind fun bt159 => (if bt159.2.2 = true then ((crossdockref19_nought.f k a0).bind fun t162 => (some (!t162))) else (some false))
theorem crossdockref19_Fits.mono : ∀ a0 k, LeO (crossdockref19_Fits.f k a0) (crossdockref19_Fits.f (k + 1) a0) := by
  intro a0 k
  unfold crossdockref19_Fits.f
  repeat' first
      | (with_reducible exact crossdockref19_Cut.mono _ _)
      | (with_reducible exact crossdockref19_nought.mono _ _)
      | (with_reducible exact LeO.refl _)
      | (with_reducible exact LeO.none _)
      | (with_reducible refine LeO.ite ?_ ?_)
      | (with_reducible refine LeO.bind ?_ (fun _ => ?_))
      | exact crossdockref19_Cut.mono _ _
      | exact crossdockref19_nought.mono _ _
      | exact LeO.none _
      | refine LeO.ite ?_ ?_
      | refine LeO.bind ?_ (fun _ => ?_)
set_option maxHeartbeats 8000000 in
set_option maxRecDepth 100000 in
theorem crossdockref19_Fits.calls (k : Nat) (a0 : ByteArray) (r : Bool) (w : World) (h : crossdockref19_Fits.f k a0 = some r) :
    Calls Tryd.prog 14 #[.string a0] w fun e w' => e = .returned (.bool r) ∧ Drawn0 w w' := by
  have H : ((crossdockref19_Cut.f k a0).bind fun bt159 => (if bt159.2.2 = true then ((crossdockref19_nought.f k a0).bind fun t162 => (some (!t162))) else (some false))) = some r := h
  clear h
  replace H := Option.bind_eq_some_iff.mp H
  obtain ⟨⟨t159, t160, t161⟩, A20, H⟩ := H
  replace H : (if t161 = true then ((crossdockref19_nought.f k a0).bind fun t162 => (some (!t162))) else (some false)) = some r := H
  have A2 := Aside0.mk A20
  clear A20
  by_cases c3 : t161 = true
  · subst c3
    have H1 : ((crossdockref19_nought.f k a0).bind fun t162 => (some (!t162))) = some r := by rw [if_pos rfl] at H; exact H
    clear H
    have H := H1
    clear H1
    replace H := Option.bind_eq_some_iff.mp H
    obtain ⟨t162, A40, H⟩ := H
    replace H : (some (!t162)) = some r := H
    have A4 := Aside0.mk A40
    clear A40
    obtain rfl := Option.some.inj H
    go_enter Tryd.func14, Tryd.ntmps14
    go_wp2_with (first | ((with_reducible refine gate_callee (f := 32) rfl ?_); refine goesL_ (some 8) rfl rfl Tryd.func32 (by kernel_rfl) rfl #[.string a0] rfl (by (try simp only [List.map_toArray, List.map_cons, List.map_nil]); first | done | rfl | (simp only [List.length_drop, List.length_take]; rfl)) ?_; (with_reducible refine (crossdockref19_Cut.calls k a0 t159 t160 true _ A2.out).mono ?_); rintro e w' ⟨rfl, ⟨nd, rfl⟩⟩; refine ⟨_, rfl, ?_⟩) | (go_at_call 31; (with_reducible refine (crossdockref19_nought.calls k a0 t162 _ A4.out).mono ?_); rintro e w' ⟨rfl, ⟨nd, rfl⟩⟩))
    go_ret
    exact ⟨by first | rfl | (simp; done) | (simp [*]; done), by repeat (first | exact Drawn0.refl _ | apply Drawn0.step)⟩
  · replace c3 := Bool.eq_false_iff.mpr c3
    subst c3
    have H1 : (some false) = some r := by rw [if_neg (show ¬ (false = true) by decide)] at H; exact H
    clear H
    have H := H1
    clear H1
    obtain rfl := Option.some.inj H
    go_enter Tryd.func14, Tryd.ntmps14
    go_wp2_with (first | ((with_reducible refine gate_callee (f := 32) rfl ?_); refine goesL_ (some 8) rfl rfl Tryd.func32 (by kernel_rfl) rfl #[.string a0] rfl (by (try simp only [List.map_toArray, List.map_cons, List.map_nil]); first | done | rfl | (simp only [List.length_drop, List.length_take]; rfl)) ?_; (with_reducible refine (crossdockref19_Cut.calls k a0 t159 t160 false _ A2.out).mono ?_); rintro e w' ⟨rfl, ⟨nd, rfl⟩⟩; refine ⟨_, rfl, ?_⟩))
    go_ret
    exact ⟨by first | rfl | (simp; done) | (simp [*]; done), by repeat (first | exact Drawn0.refl _ | apply Drawn0.step)⟩

-- NOT PRINTED: function 3 (crossdocklaw19_HeadPuts)


end Go.Proofs.YtiioiikcjaiajaaDoor.MyDocFits

/- The document's answer (crossdockref17.Put, as print.sh wrote it down) is the plain one. -/
namespace Go.Proofs.YtiioiikcjaiajaaDoor.My
open Go.RowKit Go.Proofs.YtiioiikcjaiajaaDoor.Oct Go.Proofs.YtiioiikcjaiajaaDoor.PHeadPuts Go.Proofs.YtiioiikcjaiajaaDoorW.PrintWords Go.Proofs.YtiioiikcjaiajaaDoorW.PrintLast Go.Proofs.YtiioiikcjaiajaaDoorW.PrintMore

theorem tmod256 (x : Int) : Int.tmod x 256 = if 0 ≤ x then x % 256 else -((-x) % 256) := by
  split
  · rename_i h; exact Int.tmod_eq_emod_of_nonneg h
  · rename_i h
    have := Int.neg_tmod (-x) 256
    rw [Int.neg_neg] at this
    rw [this, Int.tmod_eq_emod_of_nonneg (by omega)]
theorem fig_l0 (j : Nat) : ∀ (k : Nat) (l : List Int) (x : Int), j < k → j ≤ l.length → l.length ≤ 1000 → 0 ≤ x → x ≤ 9223372036854775807 →
    crossdockref17_figures.l0 k x l ((j : Int) - 1) = some (ds g8 (· / 8) j x ++ l.drop j, it (· / 8) j x == 0) := by
  induction j with
  | zero =>
    intro k l x hk hl hm h0 h1
    obtain ⟨k, rfl⟩ : ∃ m, k = m + 1 := ⟨k - 1, by omega⟩
    rw [crossdockref17_figures.l0, if_neg (by omega)]
    simp [ds, it]
  | succ j ih =>
    intro k l x hk hl hm h0 h1
    obtain ⟨k, rfl⟩ : ∃ m, k = m + 1 := ⟨k - 1, by omega⟩
    rw [crossdockref17_figures.l0, show ((j + 1 : Nat) : Int) - 1 = (j : Int) from by omega, if_pos (by omega), if_pos (by omega), if_pos (by omega),
      show wrap64 ((j : Int) - 1) = (j : Int) - 1 from by unfold wrap64; omega, Int.tmod_eq_emod_of_nonneg h0, Int.tdiv_eq_ediv_of_nonneg h0, Int.toNat_natCast,
      show (wrap64 (48 + x % 8)) % 256 = g8 x from by unfold wrap64 g8; omega, show wrap64 (x / 8) = x / 8 from by unfold wrap64; omega,
      ih k _ _ (by omega) (by simp; omega) (by simpa using hm) (by omega) (by omega), set_drop l j _ (by omega)]
    simp [ds, it]
/-- One round of the wide form: what is left is the quotient, rounded down. -/
theorem wide_round (j k : Nat) (l : List Int) (x1 x : Int) (h0 : -9223372036854775808 ≤ x) (h1 : x ≤ 9223372036854775807) (hs : x1 < 0 → x < 0) (hj : j < l.length) (hm : l.length ≤ 1000) :
    crossdockref17_wide.l0 (k + 1) x1 l x j = crossdockref17_wide.l0 k x1 (l.set j (g256 x)) (x / 256) ((j : Int) - 1) := by
  rw [crossdockref17_wide.l0, if_pos (by omega)]
  have e1 : wrap64 ((j : Int) - 1) = (j : Int) - 1 := by unfold wrap64; omega
  by_cases hx : Int.tmod x 256 < 0
  · have hn : x < 0 := by
      rcases Int.lt_or_le x 0 with h | h
      · exact h
      · rw [Int.tmod_eq_emod_of_nonneg h] at hx; omega
    have ht : Int.tmod x 256 = -((-x) % 256) := by rw [tmod256, if_neg (by omega)]
    rw [ht] at hx ⊢
    have em : wrap64 (-((-x) % 256) + 256) = x % 256 := by unfold wrap64; omega
    have ed : wrap64 (Int.tdiv (wrap64 (x - x % 256)) 256) = x / 256 := by
      rw [show wrap64 (x - x % 256) = x - x % 256 from by unfold wrap64; omega, show x - x % 256 = 256 * (x / 256) from by omega, Int.mul_tdiv_cancel_left _ (by decide)]
      unfold wrap64; omega
    rw [if_pos hx, em, ed, if_pos (by omega), if_pos (by omega), Option.bind_some, e1, Int.toNat_natCast, show x % 256 % 256 = g256 x from by unfold g256; omega]
    by_cases hx1 : x1 < 0
    · rw [if_pos hx1, if_neg (by omega)]
    · rw [if_neg hx1]
  · have em : Int.tmod x 256 = x % 256 := by rw [tmod256] at hx ⊢; split at * <;> omega
    have ed : wrap64 (Int.tdiv (wrap64 (x - x % 256)) 256) = x / 256 := by
      rw [show wrap64 (x - x % 256) = x - x % 256 from by unfold wrap64; omega, show x - x % 256 = 256 * (x / 256) from by omega, Int.mul_tdiv_cancel_left _ (by decide)]
      unfold wrap64; omega
    rw [if_neg hx, em, ed, if_pos (by omega), if_pos (by omega), Option.bind_some, e1, Int.toNat_natCast, show x % 256 % 256 = g256 x from by unfold g256; omega]
    by_cases hx1 : x1 < 0
    · rw [if_pos hx1, if_neg (by have := hs hx1; omega)]
    · rw [if_neg hx1]
theorem wide_l0 (j : Nat) : ∀ (k : Nat) (l : List Int) (x1 x : Int), -9223372036854775808 ≤ x → x ≤ 9223372036854775807 → (x1 < 0 → x < 0) → j ≤ l.length → l.length ≤ 1000 →
    crossdockref17_wide.l0 (k + j) x1 l x ((j : Int) - 1) = crossdockref17_wide.l0 k x1 (ds g256 (· / 256) j x ++ l.drop j) (it (· / 256) j x) (-1) := by
  induction j with
  | zero => intro k l x1 x h0 h1 hs hl hm; simp [ds, it]
  | succ j ih =>
    intro k l x1 x h0 h1 hs hl hm
    rw [show k + (j + 1) = (k + j) + 1 from rfl, show ((j + 1 : Nat) : Int) - 1 = (j : Int) from by omega, wide_round j (k + j) l x1 x h0 h1 hs (by omega) hm,
      ih k _ x1 _ (by omega) (by omega) (fun h => by have := hs h; omega) (by simp; omega) (by simpa using hm), set_drop l j _ (by omega)]
    simp [ds, it]

theorem pow8_2 (j : Nat) : (8 : Int) ^ j = 2 ^ (3 * j) := by rw [Int.pow_mul]; rfl
theorem pow256_2 (j : Nat) : (256 : Int) ^ j = 2 ^ (8 * j) := by rw [Int.pow_mul]; rfl
theorem small_div (x : Int) (e : Nat) (h0 : -9223372036854775808 ≤ x) (h1 : x ≤ 9223372036854775807) (he : 63 ≤ e) : x / 2 ^ e = if x < 0 then -1 else 0 := by
  have h2 : (2 : Int) ^ 63 ≤ 2 ^ e := by exact_mod_cast Nat.pow_le_pow_right (by decide) he
  have h3 : (2 : Int) ^ 63 = 9223372036854775808 := by decide
  generalize (2 : Int) ^ e = p at h2
  split
  · rename_i h; rw [Int.ediv_eq_iff_of_pos (by omega)]; omega
  · rename_i h; exact Int.ediv_eq_zero_of_lt (by omega) (by omega)

/-- By figures, as the document has it. -/
theorem ref_figures (n : Nat) (x : Int) (hn : n ≤ 100) (h0 : -9223372036854775808 ≤ x) (h1 : x ≤ 9223372036854775807) :
    ∃ l, (nar n x = true → l = putB n x) ∧ ∀ k, n + 3 ≤ k → crossdockref17_figures.f k n x = some (l, nar n x) := by
  by_cases hp : 1 ≤ n ∧ 0 ≤ x
  · obtain ⟨m, rfl⟩ : ∃ m, n = m + 1 := ⟨n - 1, by omega⟩
    have hb : (it (· / 8) m x == 0) = nar ((m + 1 : Nat) : Int) x := by
      rw [it_div 8 (by decide), pow8_2]
      unfold nar
      rw [show (3 * (((m + 1 : Nat) : Int) - 1)).toNat = 3 * m from by omega]
      by_cases h : x / 2 ^ (3 * m) = 0
      · rw [h]; simp; omega
      · have : ¬ 21 < ((m + 1 : Nat) : Int) := by
          intro h21
          apply h
          rw [small_div x (3 * m) h0 h1 (by omega), if_neg (by omega)]
        rw [beq_eq_false_iff_ne.2 h]
        symm
        exact decide_eq_false (fun h' => h'.2.2.elim this h)
    refine ⟨ds g8 (· / 8) m x ++ [0], fun h => by unfold putB; rw [if_pos h]; rfl, fun k hk => ?_⟩
    obtain ⟨k, rfl⟩ : ∃ j, k = j + 1 := ⟨k - 1, by omega⟩
    unfold crossdockref17_figures.f
    rw [if_neg (by omega), decide_eq_false (by omega), crossdockref17_figures.j0]
    rw [if_neg (by simp), if_pos (by omega), if_pos (by omega), Int.toNat_natCast, show wrap64 (((m + 1 : Nat) : Int) - 2) = (m : Int) - 1 from by unfold wrap64; omega,
      fig_l0 m k _ x (by omega) (by simp) (by simp; omega) hp.2 h1, hb]
    simp [List.drop_replicate]
  · have hb : nar n x = false := decide_eq_false (fun h => hp ⟨by omega, h.2.1⟩)
    refine ⟨[], (fun h => by rw [hb] at h; cases h), fun k hk => ?_⟩
    obtain ⟨k, rfl⟩ : ∃ j, k = j + 1 := ⟨k - 1, by omega⟩
    unfold crossdockref17_figures.f
    by_cases h : (n : Int) < 1
    · rw [if_pos h, crossdockref17_figures.j0, if_pos rfl, hb]
    · rw [if_neg h, decide_eq_true (by omega), crossdockref17_figures.j0, if_pos rfl, hb]

theorem or128 (y : Int) (h0 : 0 ≤ y) (h1 : y < 256) : Go.bits .or .u8 y 128 = if y < 128 then y + 128 else y := by
  obtain ⟨a, rfl⟩ := Int.eq_ofNat_of_zero_le h0
  have h : ∀ a : Nat, a < 256 → Go.bits .or .u8 (a : Int) 128 = if (a : Int) < 128 then (a : Int) + 128 else a := by decide +kernel
  exact h a (by omega)

/-- Which numbers fit, by their sign and the first byte. -/
theorem fit_wide (n : Nat) (x : Int) (hn : 2 ≤ n) (hnar : nar n x = false) (h0 : -9223372036854775808 ≤ x) (h1 : x ≤ 9223372036854775807) :
    fit n x = decide (x / 256 ^ (n - 1) / 64 = 0 ∨ x / 256 ^ (n - 1) / 64 = -1) := by
  have e : x / 256 ^ (n - 1) / 64 = x / 2 ^ (8 * n - 2) := by
    rw [pow256_2, Int.ediv_ediv_of_nonneg (by exact Int.le_of_lt (Int.pow_pos (by decide))), show (64 : Int) = 2 ^ 6 from rfl, ← Int.pow_add, show 8 * (n - 1) + 6 = 8 * n - 2 from by omega]
  rw [e]
  unfold fit
  by_cases h9 : 9 ≤ (n : Int)
  · rw [hnar, decide_eq_true h9]
    simp only [Bool.or_true, if_true]
    rw [decide_eq_true (show (0 : Int) < n by omega), small_div x (8 * n - 2) h0 h1 (by omega)]
    symm
    split <;> simp
  · rw [hnar, decide_eq_false h9, if_neg (by simp), if_neg (by omega), show (8 * (n : Int) - 2).toNat = 8 * n - 2 from by omega]

theorem ref_wide (n : Nat) (x : Int) (hn : n ≤ 100) (hnar : nar n x = false) (h0 : -9223372036854775808 ≤ x) (h1 : x ≤ 9223372036854775807) :
    ∃ l, (fit n x = true → l = putB n x) ∧ ∀ k, n + 3 ≤ k → crossdockref17_wide.f k n x = some (l, fit n x) := by
  by_cases hp : 2 ≤ n
  · obtain ⟨m, rfl⟩ : ∃ m, n = m + 1 := ⟨n - 1, by omega⟩
    have hf := fit_wide (m + 1) x hp hnar h0 h1
    rw [Nat.add_sub_cancel] at hf
    obtain ⟨t, ht⟩ := ds_head g256 (· / 256) m x
    have hq : it (· / 256) m x = x / 256 ^ m := it_div 256 (by decide) m x
    have hr : it (· / 256) (m + 1) x = x / 256 ^ m / 256 := by rw [it_succ, hq]
    have hlen := ds_length g256 (· / 256) (m + 1) x
    have hsign : 0 ≤ x ↔ 0 ≤ x / 256 ^ m := by
      constructor
      · intro h; exact Int.ediv_nonneg h (Int.le_of_lt (Int.pow_pos (by decide)))
      · intro h
        rcases Int.lt_or_le x 0 with h' | h'
        · have := Int.ediv_neg_of_neg_of_pos h' (Int.pow_pos (m := m) (show (0 : Int) < 256 by decide)); omega
        · exact h'
    generalize x / 256 ^ m = q at hf hq hr hsign
    refine ⟨if fit ((m + 1 : Nat) : Int) x then putB (m + 1) x else [], fun h => by rw [if_pos h], fun k hk => ?_⟩
    obtain ⟨k, rfl⟩ : ∃ j, k = j + 2 + (m + 1) := ⟨k - 2 - (m + 1), by omega⟩
    unfold crossdockref17_wide.f
    rw [if_neg (by omega), if_pos (by omega), if_pos (by omega), Int.toNat_natCast, show wrap64 (((m + 1 : Nat) : Int) - 1) = ((m + 1 : Nat) : Int) - 1 from by unfold wrap64; omega,
      wide_l0 (m + 1) (k + 2) _ x x h0 h1 id (by simp) (by simp; omega), List.drop_eq_nil_of_le (by simp), List.append_nil, hr]
    have hput : putB (m + 1) x = (ds g256 (· / 256) (m + 1) x).set 0 (if q % 256 < 128 then q % 256 + 128 else q % 256) := by
      unfold putB
      rw [if_neg (by rw [hnar]; exact Bool.false_ne_true), ht, List.getD_cons_zero, hq, or128 _ (by unfold g256; omega) (by unfold g256; omega)]
      rfl
    have hrd : rd (ds g256 (· / 256) (m + 1) x) 0 = q % 256 := by rw [ht, hq]; rfl
    have hout : ds g256 (· / 256) (m + 1) x = (q % 256) :: t := by rw [ht, hq]; rfl
    rw [hput]
    generalize ds g256 (· / 256) (m + 1) x = d at *
    rw [crossdockref17_wide.l0, if_neg (by omega)]
    have j1 : ∀ b, crossdockref17_wide.j1 (k + 1) d b = some (if b = true then (([] : List Int), false) else (d.set 0 (if q % 256 < 128 then q % 256 + 128 else q % 256), true)) := by
      intro b
      rw [crossdockref17_wide.j1]
      cases b with
      | true => rfl
      | false =>
        rw [if_neg (by simp), if_pos (by omega), hrd]
        by_cases hlt : q % 256 < 128
        · rw [if_pos hlt, if_pos hlt]
          simp only [Bool.false_eq_true, if_false]
          rw [show (q % 256 + 128) % 256 = q % 256 + 128 from by omega]
          rfl
        · rw [if_neg hlt, if_neg hlt, hout]
          simp
    by_cases hx : 0 ≤ x
    · have hq0 := hsign.1 hx
      rw [if_pos (by omega), if_pos (by omega), hrd]
      by_cases h64 : q % 256 ≥ 64
      · have : fit ((m + 1 : Nat) : Int) x = false := by rw [hf]; exact decide_eq_false (by omega)
        rw [if_pos h64, j1, this]; rfl
      · rw [if_neg h64]
        by_cases hz : q / 256 = 0
        · have : fit ((m + 1 : Nat) : Int) x = true := by rw [hf]; exact decide_eq_true (by omega)
          rw [if_pos hz, if_neg (by omega), j1, this]; rfl
        · have : fit ((m + 1 : Nat) : Int) x = false := by rw [hf]; exact decide_eq_false (by omega)
          rw [if_neg hz, j1, this]; rfl
    · have hq0 : q < 0 := by
        rcases Int.lt_or_le q 0 with h | h
        · exact h
        · exact absurd (hsign.2 h) hx
      rw [if_neg (by omega), if_pos (by omega), if_pos (by omega), hrd]
      by_cases h192 : q % 256 < 192
      · have : fit ((m + 1 : Nat) : Int) x = false := by rw [hf]; exact decide_eq_false (by omega)
        rw [if_pos h192, j1, this]; rfl
      · rw [if_neg h192, j1]
        by_cases hz : q / 256 = -1
        · have : fit ((m + 1 : Nat) : Int) x = true := by rw [hf]; exact decide_eq_true (by omega)
          rw [hz, this]; rfl
        · have : fit ((m + 1 : Nat) : Int) x = false := by rw [hf]; exact decide_eq_false (by omega)
          rw [bne_iff_ne.2 hz, this]; rfl
  · have hb : fit n x = false := by
      unfold fit
      rw [hnar, decide_eq_false (by omega), if_neg (by simp), if_pos (by omega)]
    refine ⟨[], (fun h => by rw [hb] at h; cases h), fun k hk => ?_⟩
    unfold crossdockref17_wide.f
    rw [if_pos (by omega), hb]

theorem nar_fit {n : Nat} {x : Int} (h : nar n x = true) : fit n x = true := by
  have h1 := (of_decide_eq_true h).1
  unfold fit
  rw [h]
  simp only [Bool.true_or, if_true]
  exact decide_eq_true h1

/-- The document's answer for a field of n bytes. -/
theorem ref_put (n : Nat) (x : Int) (hn : n ≤ 100) (h0 : -9223372036854775808 ≤ x) (h1 : x ≤ 9223372036854775807) :
    ∃ k, crossdockref17_Put.f k n x = some (if fit n x then (putB n x, 0) else (([] : List Int), 3)) := by
  refine ⟨n + 3, ?_⟩
  obtain ⟨l, hl, hf⟩ := ref_figures n x hn h0 h1
  unfold crossdockref17_Put.f
  rw [hf _ (Nat.le_refl _), Option.bind_some]
  cases hb : nar n x with
  | true => rw [if_pos rfl, nar_fit hb, hl hb]; rfl
  | false =>
    rw [if_neg (by simp)]
    obtain ⟨l', hl', hf'⟩ := ref_wide n x hn hb h0 h1
    rw [hf' _ (Nat.le_refl _), Option.bind_some]
    cases hb' : fit n x with
    | true => rw [if_pos rfl, hl' hb']; rfl
    | false => rw [if_neg (by simp)]; rfl
theorem ref_put_neg (n x : Int) (hn : n < 0) : ∃ k, crossdockref17_Put.f k n x = some (([] : List Int), 3) := by
  refine ⟨1, ?_⟩
  unfold crossdockref17_Put.f crossdockref17_figures.f crossdockref17_wide.f
  rw [if_pos (by omega), crossdockref17_figures.j0, if_pos rfl, if_pos (by omega)]
  rfl
theorem fit_neg (n x : Int) (hn : n < 0) : fit n x = false := by
  have : nar n x = false := decide_eq_false (fun h => by omega)
  unfold fit
  rw [this, decide_eq_false (by omega), if_neg (by simp), if_pos (by omega)]
end Go.Proofs.YtiioiikcjaiajaaDoor.My

/- The document's answers of layer 19 (Sum, nought, Cut, Fits, as print.sh wrote them down) are the plain ones. -/
set_option maxRecDepth 100000
namespace Go.Proofs.YtiioiikcjaiajaaDoor.My
open Go.RowKit Go.Proofs.YtiioiikcjaiajaaDoor.Hd Go.Proofs.YtiioiikcjaiajaaDoor.Oct Go.Proofs.YtiioiikcjaiajaaDoor.PHeadPuts Go.Proofs.YtiioiikcjaiajaaDoor.MyDocA Go.Proofs.YtiioiikcjaiajaaDoor.MyDocFits Go.Proofs.YtiioiikcjaiajaaDoorW.PrintWords Go.Proofs.YtiioiikcjaiajaaDoorW.PrintLast Go.Proofs.YtiioiikcjaiajaaDoorW.PrintMore
set_option linter.unusedVariables false
set_option linter.unusedSimpArgs false

theorem bt_is (s : ByteArray) (j : Nat) (c : UInt8) (h : j < s.size) : bt s j = (c.toNat : Int) ↔ s.data.toList[j]? = some c := by
  have e1 : bt s j = ((s.data[j]'h).toNat : Int) := by
    unfold bt
    rw [dif_pos (by simpa using h)]
    rfl
  have e2 : s.data.toList[j]? = some (s.data[j]'h) := by
    rw [Array.getElem?_toList]
    exact Array.getElem?_eq_getElem h
  rw [e1, e2]
  constructor
  · intro e
    have : (s.data[j]'h).toNat = c.toNat := by omega
    rw [UInt8.toNat_inj.1 this]
  · intro e
    rw [Option.some.inj e]
theorem bs_get (s : ByteArray) (j : Nat) (h : j < s.size) : (bs s)[j]? = some (bt s j) := by
  unfold bs bt
  rw [dif_pos (by simpa using h), List.getElem?_map, Array.getElem?_toList, Array.getElem?_eq_getElem h]
  rfl
/-- The document's search for a nought. -/
theorem nought_l0 (s : ByteArray) (hs : s.size ≤ 100000) (n : Nat) : ∀ j : Nat, s.size - j = n → j ≤ s.size → crossdockref19_nought.l0 (n + 1) s j = some (!((bs s).drop j).all nz) := by
  induction n with
  | zero =>
    intro j hj hl
    rw [crossdockref19_nought.l0, if_neg (by omega), List.drop_eq_nil_of_le (by rw [bs_len]; omega)]
    rfl
  | succ n ih =>
    intro j hj hl
    have hlt : j < s.size := by omega
    have hd : (bs s).drop j = bt s j :: (bs s).drop (j + 1) := by
      rw [List.drop_eq_getElem_cons (by rw [bs_len]; exact hlt)]
      congr 1
      have := bs_get s j hlt
      rw [List.getElem?_eq_getElem (by rw [bs_len]; exact hlt)] at this
      exact Option.some.inj this
    rw [crossdockref19_nought.l0, if_pos (by omega), if_pos (by omega), hd, List.all_cons]
    by_cases hb : bt s j = 0
    · rw [if_pos hb]
      have : nz (bt s j) = false := decide_eq_false (by simp [hb])
      rw [this]
      rfl
    · rw [if_neg hb, show wrap64 ((j : Int) + 1) = ((j + 1 : Nat) : Int) from by unfold wrap64; omega, ih (j + 1) (by omega) (by omega)]
      have : nz (bt s j) = true := decide_eq_true hb
      rw [this, Bool.true_and]
theorem nought_f (s : ByteArray) (hs : s.size ≤ 100000) : crossdockref19_nought.f (s.size + 1) s = some (!noN s) := by
  have := nought_l0 s hs s.size 0 (by omega) (by omega)
  rw [List.drop_zero] at this
  exact this
/-- The document's search for the slash. -/
theorem cut_step (s : ByteArray) (hs : s.size ≤ 100000) (k j : Nat) (hj : j < s.size) (h : ¬ (s.data.toList[j]? = some 47 ∧ s.size ≤ j + 101 ∧ j + 2 ≤ s.size)) : crossdockref19_Cut.l0 (k + 1) s j = crossdockref19_Cut.l0 k s ((j + 1 : Nat) : Int) := by
  have e1 : wrap64 ((j : Int) + 1) = ((j + 1 : Nat) : Int) := by unfold wrap64; omega
  have e2 : wrap64 (wrap64 ((s.size : Int) - j) - 1) = (s.size : Int) - j - 1 := by unfold wrap64; omega
  rw [crossdockref19_Cut.l0, if_pos (by omega), if_pos (by omega), e1, e2]
  by_cases hb : bt s j = 47
  · rw [if_pos hb]
    have hb' := (bt_is s j 47 hj).1 hb
    by_cases h1 : (s.size : Int) - j - 1 ≤ 100
    · rw [if_pos h1, if_neg (by intro h2; exact h ⟨hb', by omega, by omega⟩)]
    · rw [if_neg h1]
  · rw [if_neg hb]
theorem cut_hit (s : ByteArray) (hs : s.size ≤ 100000) (k j : Nat) (hj : j < s.size) (h : s.data.toList[j]? = some 47 ∧ s.size ≤ j + 101 ∧ j + 2 ≤ s.size) : crossdockref19_Cut.l0 (k + 1) s j = some (s.extract 0 j, s.extract (j + 1) s.size, decide (1 ≤ j ∧ j ≤ 155)) := by
  have e1 : wrap64 ((j : Int) + 1) = ((j + 1 : Nat) : Int) := by unfold wrap64; omega
  have e2 : wrap64 (wrap64 ((s.size : Int) - j) - 1) = (s.size : Int) - j - 1 := by unfold wrap64; omega
  have hb : bt s j = 47 := (bt_is s j 47 hj).2 h.1
  rw [crossdockref19_Cut.l0, if_pos (by omega), if_pos (by omega), e1, e2, if_pos hb, if_pos (by omega), if_pos (by omega), if_pos (by omega), if_pos (by omega), if_pos (by omega)]
  by_cases h1 : (j : Int) ≥ 1
  · rw [if_pos h1]
    congr 3
    exact decide_eq_decide.2 (by omega)
  · rw [if_neg h1, decide_eq_false (show ¬ (1 ≤ j ∧ j ≤ 155) by omega)]
    rfl
theorem cut_none_l0 (s : ByteArray) (hs : s.size ≤ 100000) (n : Nat) : ∀ j : Nat, s.size - j = n → j ≤ s.size → (∀ i, j ≤ i → i < s.size → ¬ (s.data.toList[i]? = some 47 ∧ s.size ≤ i + 101 ∧ i + 2 ≤ s.size)) → crossdockref19_Cut.l0 (n + 1) s j = some ((⟨#[]⟩ : ByteArray), (⟨#[]⟩ : ByteArray), false) := by
  induction n with
  | zero =>
    intro j hj hl _
    rw [crossdockref19_Cut.l0, if_neg (by omega)]
  | succ n ih =>
    intro j hj hl h
    rw [cut_step s hs (n + 1) j (by omega) (h j (Nat.le_refl _) (by omega))]
    exact ih (j + 1) (by omega) (by omega) (fun i hi => h i (by omega))
theorem cut_some_l0 (s : ByteArray) (hs : s.size ≤ 100000) (p : Nat) (hp : p < s.size) (h : s.data.toList[p]? = some 47 ∧ s.size ≤ p + 101 ∧ p + 2 ≤ s.size) (m : Nat) (n : Nat) : ∀ j : Nat, p - j = n → j ≤ p → (∀ i, j ≤ i → i < p → ¬ (s.data.toList[i]? = some 47 ∧ s.size ≤ i + 101 ∧ i + 2 ≤ s.size)) → crossdockref19_Cut.l0 (m + 1 + n) s j = some (s.extract 0 p, s.extract (p + 1) s.size, decide (1 ≤ p ∧ p ≤ 155)) := by
  induction n with
  | zero =>
    intro j hj hl _
    obtain rfl : j = p := by omega
    exact cut_hit s hs m j hp h
  | succ n ih =>
    intro j hj hl hn
    rw [show m + 1 + (n + 1) = (m + 1 + n) + 1 by omega, cut_step s hs (m + 1 + n) j (by omega) (hn j (Nat.le_refl _) (by omega))]
    exact ih (j + 1) (by omega) (by omega) (fun i hi => hn i (by omega))
theorem tail_get (s : ByteArray) (a i : Nat) (h : i + a < s.size) : (s.extract a s.size).data.toList[i]? = s.data.toList[a + i]? := by
  rw [ByteArray.data_extract, Array.getElem?_toList, Array.getElem?_toList, Array.getElem?_extract]
  have hz : s.data.size = s.size := rfl
  rw [if_pos (by rw [hz]; omega)]
theorem cut_f (s : ByteArray) (hs : s.size ≤ 100000) : ∃ k a r, crossdockref19_Cut.f k s = some (a, r, cutOk s) ∧ (cutOk s = true → a = aheadOf s ∧ r = rest s) := by
  unfold crossdockref19_Cut.f
  by_cases h : s.size ≤ 100
  · have e : cutOk s = true := by unfold cutOk; rw [decide_eq_true h]; rfl
    refine ⟨0, _, _, by rw [if_pos (by omega), e], fun _ => ⟨?_, ?_⟩⟩
    · unfold aheadOf; rw [if_pos h]
    · unfold rest; rw [if_pos h]
  · simp only [if_neg (show ¬ (s.size : Int) ≤ 100 by omega)]
    have hge := idx_ge 47 (s.extract (s.size - 100 - 1) s.size).data.toList
    have hlen : (s.extract (s.size - 100 - 1) s.size).data.toList.length = 101 := by
      rw [Array.length_toList]
      show (s.extract (s.size - 100 - 1) s.size).size = 101
      rw [ByteArray.size_extract]; omega
    rw [hlen] at hge
    obtain ⟨ix, hix⟩ : ∃ ix, Lib.indexByte (s.extract (s.size - 100 - 1) s.size).data.toList 47 = ix := ⟨_, rfl⟩
    have hX : cutX s = ix := hix
    have hAt : cutAt s = (s.size : Int) - 100 - 1 + ix := by unfold cutAt; rw [hX]
    rw [hix] at hge
    have eok : cutOk s = decide (0 ≤ ix ∧ (s.size : Int) - 100 - 1 + ix ≠ 0 ∧ (s.size : Int) - 100 - 1 + ix ≤ 155 ∧ (s.size : Int) - 100 - 1 + ix < (s.size : Int) - 1) := by
      unfold cutOk; rw [decide_eq_false h, hX, hAt]; rfl
    by_cases hn : ix < 0
    · have hnone := Lib.indexByte_none (l := (s.extract (s.size - 100 - 1) s.size).data.toList) (c := 47) (by rw [hix]; omega)
      refine ⟨s.size + 1, _, _, (cut_none_l0 s hs s.size 0 (by omega) (by omega) (fun i _ hi hh => ?_)).trans (by rw [show cutOk s = false from eok.trans (decide_eq_false (by omega))]), fun e => ?_⟩
      · have := hnone (i - (s.size - 100 - 1))
        rw [tail_get s _ _ (by omega), show s.size - 100 - 1 + (i - (s.size - 100 - 1)) = i by omega] at this
        exact this hh.1
      · rw [show cutOk s = false from eok.trans (decide_eq_false (by omega))] at e; cases e
    · obtain ⟨o, rfl⟩ := Int.eq_ofNat_of_zero_le (show 0 ≤ ix by omega)
      obtain ⟨h1, h2⟩ := Lib.indexByte_some hix
      rw [tail_get s _ _ (by omega)] at h1
      have hbefore : ∀ i, i < s.size - 100 - 1 + o → ¬ (s.data.toList[i]? = some 47 ∧ s.size ≤ i + 101 ∧ i + 2 ≤ s.size) := fun i hi hh => by
        have := h2 (i - (s.size - 100 - 1)) (by omega)
        rw [tail_get s _ _ (by omega), show s.size - 100 - 1 + (i - (s.size - 100 - 1)) = i by omega] at this
        exact this hh.1
      by_cases hlast : s.size - 100 - 1 + o + 2 ≤ s.size
      · have hc := cut_some_l0 s hs (s.size - 100 - 1 + o) (by omega) ⟨h1, by omega, hlast⟩ 0 (s.size - 100 - 1 + o) 0 (by omega) (by omega) (fun i _ hi => hbefore i hi)
        have eb : decide (1 ≤ s.size - 100 - 1 + o ∧ s.size - 100 - 1 + o ≤ 155) = cutOk s := by rw [eok]; exact decide_eq_decide.2 (by omega)
        rw [eb] at hc
        have ec : (cutAt s).toNat = s.size - 100 - 1 + o := by rw [hAt]; omega
        refine ⟨_, _, _, hc, fun _ => ⟨?_, ?_⟩⟩
        · unfold aheadOf; rw [if_neg h, ec]
        · unfold rest; rw [if_neg h, ec]
      · have eb : cutOk s = false := eok.trans (decide_eq_false (by omega))
        refine ⟨s.size + 1, _, _, (cut_none_l0 s hs s.size 0 (by omega) (by omega) (fun i _ hi hh => ?_)).trans (by rw [eb]), fun e => by rw [eb] at e; cases e⟩
        by_cases hi2 : i < s.size - 100 - 1 + o
        · exact hbefore i hi2 hh
        · omega
theorem sum_l0 (l : List Int) (hl : 512 ≤ l.length) (hb : ∀ b ∈ l, 0 ≤ b ∧ b < 256) (n : Nat) : ∀ (j : Nat) (x : Int), 512 - j = n → j ≤ 512 → 0 ≤ x → x ≤ 1000 + 256 * j → crossdockref19_Sum.l0 (n + 1) l x j = some (x + (sumTo l 512 - sumTo l j) + (if j ≤ 148 then 256 else if j < 156 then 32 * (156 - (j : Int)) else 0)) := by
  induction n with
  | zero =>
    intro j x hj hl h0 h1
    obtain rfl : j = 512 := by omega
    rw [crossdockref19_Sum.l0, if_neg (by omega), if_neg (by omega), if_neg (by omega)]
    congr 1
    omega
  | succ n ih =>
    intro j x hj hlj h0 h1
    have hgt : 0 ≤ l.getD j 0 ∧ l.getD j 0 < 256 := by
      refine hb _ ?_
      rw [List.getD_eq_getElem?_getD, List.getElem?_eq_getElem (by omega)]
      exact List.getElem_mem _
    have e1 : wrap64 ((j : Int) + 1) = ((j + 1 : Nat) : Int) := by unfold wrap64; omega
    have er : rd l j = l.getD j 0 := by unfold rd; rw [Int.toNat_natCast]
    have es : sumTo l (j + 1) = sumTo l j + if 148 ≤ j ∧ j < 156 then 0 else l.getD j 0 := rfl
    rw [crossdockref19_Sum.l0, if_pos (by omega), e1, er]
    generalize l.getD j 0 = b at *
    have ew : wrap64 (x + wrap64 b) = x + b := by unfold wrap64; omega
    have ew2 : wrap64 (x + 32) = x + 32 := by unfold wrap64; omega
    by_cases h2 : (j : Int) ≥ 148
    · rw [if_pos h2]
      by_cases h3 : (j : Int) < 156
      · rw [if_pos h3, ew2, ih (j + 1) (x + 32) (by omega) (by omega) (by omega) (by omega), es, if_pos (show 148 ≤ j ∧ j < 156 by omega)]
        congr 1
        by_cases h4 : j ≤ 148
        · rw [if_pos h4, if_neg (by omega), if_pos (by omega)]; omega
        · rw [if_neg h4, if_neg (by omega), if_pos (show j < 156 by omega)]
          by_cases h5 : j + 1 < 156
          · rw [if_pos h5]; omega
          · rw [if_neg h5]; omega
      · rw [if_neg h3, if_pos (by omega), if_pos (by omega), ew, ih (j + 1) (x + b) (by omega) (by omega) (by omega) (by omega), es, if_neg (show ¬ (148 ≤ j ∧ j < 156) by omega), if_neg (by omega), if_neg (by omega), if_neg (by omega), if_neg (by omega)]
        congr 1
        omega
    · rw [if_neg h2, if_pos (by omega), if_pos (by omega), ew, ih (j + 1) (x + b) (by omega) (by omega) (by omega) (by omega), es, if_neg (show ¬ (148 ≤ j ∧ j < 156) by omega), if_pos (by omega), if_pos (by omega)]
      congr 1
      omega
theorem sum_f (l : List Int) (hl : 512 ≤ l.length) (hb : ∀ b ∈ l, 0 ≤ b ∧ b < 256) : crossdockref19_Sum.f 513 l = some (sumH l) := by
  have := sum_l0 l hl hb 512 0 0 (by omega) (by omega) (by omega) (by omega)
  rw [if_pos (by omega)] at this
  refine this.trans (congrArg some ?_)
  show 0 + (sumTo l 512 - 256) + 256 = sumTo l 512
  omega
end Go.Proofs.YtiioiikcjaiajaaDoor.My

/- The walk of the document's Put of layer 19. -/
set_option maxRecDepth 100000
namespace Go.Proofs.YtiioiikcjaiajaaDoor.My
open Go.RowKit Go.Proofs.YtiioiikcjaiajaaDoor.Hd Go.Proofs.YtiioiikcjaiajaaDoor.Oct Go.Proofs.YtiioiikcjaiajaaDoor.PHeadPuts Go.Proofs.YtiioiikcjaiajaaDoor.MyDocA Go.Proofs.YtiioiikcjaiajaaDoor.MyDocFits Go.Proofs.YtiioiikcjaiajaaDoorW.PrintWords Go.Proofs.YtiioiikcjaiajaaDoorW.PrintLast Go.Proofs.YtiioiikcjaiajaaDoorW.PrintMore
set_option linter.unusedVariables false
set_option linter.unusedSimpArgs false

/-- The document's block, behind its texts and the kind. -/
def docT (h : Hd) : List Int :=
  (patch (patch (patch (patch (patch (patch nought 0 (bs (rest h.nm))) 157 (bs h.li)) 257 [117, 115, 116, 97, 114, 0, 48, 48]) 265 (bs h.us)) 297 (bs h.gr)) 345 (bs (aheadOf h.nm))).set 156 h.ki
def docB (h : Hd) : List Int := (patch (putN h 7 (docT h)) 148 (putB 7 (sumH (putN h 7 (docT h))))).set 155 32
theorem nought_calls (s : ByteArray) (hs : s.size ≤ 100000) (w : World) : Calls Tryd.prog 31 #[.string s] w fun e w' => e = .returned (.bool (!noN s)) ∧ Drawn0 w w' :=
  crossdockref19_nought.calls _ s _ w (nought_f s hs)
theorem dcut_calls (s : ByteArray) (hs : s.size ≤ 100000) (w : World) : Calls Tryd.prog 32 #[.string s] w fun e w' => (∃ a r : ByteArray, e = .returned (.tuple #[.string a, .string r, .bool (cutOk s)]) ∧ (cutOk s = true → a = aheadOf s ∧ r = rest s)) ∧ Drawn0 w w' := by
  obtain ⟨k, a, r, h1, h2⟩ := cut_f s hs
  refine (crossdockref19_Cut.calls k s a r _ w h1).mono ?_
  rintro e w' ⟨rfl, h3⟩
  exact ⟨⟨a, r, rfl, h2⟩, h3⟩
theorem dput_calls (n : Nat) (x : Int) (hn : n ≤ 100) (h0 : -9223372036854775808 ≤ x) (h1 : x ≤ 9223372036854775807) (w : World) :
    Calls Tryd.prog 33 #[.int .i64 n, .int .i64 x] w fun e w' => (∃ v0 : Value, e = .returned (.tuple #[v0, .int .i64 (if fit n x then 0 else 3)]) ∧ (fit n x = true → Kd.R (Kd.int .u8) 5 w' w.heap.size (fun _ => True) v0 (putB n x))) ∧ Below w.heap.size w w' := by
  obtain ⟨k, hk⟩ := ref_put n x hn h0 h1
  cases hf : fit n x with
  | true =>
    rw [hf, if_pos rfl] at hk
    refine (crossdockref17_Put.calls k n x _ _ w hk).mono ?_
    rintro e w' ⟨v0, rfl, hR, hb⟩
    exact ⟨⟨v0, rfl, fun _ => hR⟩, hb⟩
  | false =>
    rw [hf, if_neg (by simp)] at hk
    refine (crossdockref17_Put.calls k n x _ _ w hk).mono ?_
    rintro e w' ⟨v0, rfl, hR, hb⟩
    exact ⟨⟨v0, rfl, fun h => by cases h⟩, hb⟩
/-- A text is copied into a block. -/
theorem copy_text (W : World) (g off n c : Nat) (s : ByteArray) (l : List Int) (hr : Row0 W g l) (hs : s.size ≤ n) (hl : off + n ≤ l.length) :
    ∃ W', (∀ ty, (Builtin.copy_ #[26, 9] ty #[.slice (some ⟨g, off, none⟩) n c, .string s]).run Tryd.prog W = .ok (.int .i64 s.size) W') ∧ Row0 W' g (patch l off (bs s)) ∧ W.grownBy W' (some g) := by
  have hcp := fun ty => Lib.run_copy_row_string (P := Tryd.prog) W 26 9 ty 5 g off n c s (nums .u8 l).toArray 5 Tryd.underlying26 info_u8' hr.out hs (by rw [List.size_toArray, nums_length]; omega)
  refine ⟨_, hcp, ?_, setRow_grown _ _ _⟩
  refine ⟨?_⟩
  rw [setRow_heap W g _ _ 5 (0, 0) hr.out, bs_cells]
  rw [show (nums .u8 l).toArray.toList = nums .u8 l from rfl, patch_cells l (bs s) off s.size (bs_len s)]
/-- Bytes are copied into a block. -/
theorem copy_row (W : World) (g off n c m cs : Nat) (A : Option Addr) (b l : List Int) (hr : Row0 W g l) (hb : b.length = m) (hC : (Kd.int .u8).C W A m b) (hs : m ≤ n) (h0 : 0 < m) (hl : off + n ≤ l.length) :
    ∃ W', (∀ ty, (Builtin.copy_ #[26, 26] ty #[.slice (some ⟨g, off, none⟩) n c, .slice A m cs]).run Tryd.prog W = .ok (.int .i64 m) W') ∧ Row0 W' g (patch l off b) ∧ W.grownBy W' (some g) := by
  obtain ⟨ad, rfl, hc⟩ := Kd.at_int hC 0 (by omega) (by omega)
  have hnl : (nums .u8 b).length = m := by rw [nums_length, hb]
  have hcp := fun ty => run_copy_row (P := Tryd.prog) W 26 26 ty 5 g off n c ad m cs (nums .u8 l).toArray 5 (nums .u8 b) Tryd.underlying26 info_u8' hr.out (by rw [hnl]; exact (Nat.min_eq_left hs).symm)
    (fun j v hv => by
      obtain ⟨ad', e, hc'⟩ := Kd.at_int hC j (by omega) (by have := (List.getElem?_eq_some_iff.1 hv).1; rw [hnl] at this; omega)
      cases e
      have hj : j < b.length := by have := (List.getElem?_eq_some_iff.1 hv).1; rw [hnl] at this; omega
      rw [show (nums .u8 b)[j]? = some (.int .u8 (rd b j)) by simp [nums, rd, hj]] at hv
      cases hv
      simpa using hc') (by simp only [List.size_toArray, nums_length]; omega) (fun v hv => by
      obtain ⟨x, _, rfl⟩ := List.mem_map.1 hv
      rfl)
  rw [hnl] at hcp
  refine ⟨_, hcp, ?_, setRow_grown _ _ _⟩
  refine ⟨?_⟩
  rw [setRow_heap W g _ _ 5 (0, 0) hr.out]
  rw [show (nums .u8 l).toArray.toList = nums .u8 l from rfl, patch_cells l b off m hb]
structure DBox (w : World) (g : Nat) (h : Hd) : Prop where mk :: (out : w.heap[g]? = some (.cells (hv h) 33 (0, 0)))
/-- Where the document has put the bytes. -/
def DPut (w : World) (h : Hd) (e : Ending) (w' : World) : Prop :=
  (match headE h with
    | some c => e = .returned (.tuple #[.slice none 0 0, .int .i64 c])
    | none => ∃ gB, e = .returned (.tuple #[.slice (some ⟨gB, 0, none⟩) 512 512, .int .i64 0]) ∧ Row w' gB (docB h)) ∧ Below w.heap.size w w'
theorem dput_nought (h : Hd) (hS : Small h) (w : World) (hn : (noN h.nm && noN h.li && noN h.us && noN h.gr) = false) :
    Calls Tryd.prog 10 #[.agg (hv h)] w (DPut w h) := by
  have hE : headE h = some 2 := by unfold headE; rw [hn]; rfl
  obtain ⟨W, hW⟩ : ∃ W, W = w.alloc (.cells (hv h) 33) := ⟨_, rfl⟩
  have hBW : Below w.heap.size w W := by rw [hW]; exact below_alloc (Below.refl _ _) _
  have hbox : DBox W w.heap.size h := by rw [hW]; exact ⟨alloc_self _ _⟩
  have c0 : W.cell? ⟨w.heap.size, 0, none⟩ = some (.string h.nm) := by rw [blk_cell hbox.out]; rfl
  have c7 : W.cell? ⟨w.heap.size, 7, none⟩ = some (.string h.li) := by rw [blk_cell hbox.out]; rfl
  have c8 : W.cell? ⟨w.heap.size, 8, none⟩ = some (.string h.us) := by rw [blk_cell hbox.out]; rfl
  have c9 : W.cell? ⟨w.heap.size, 9, none⟩ = some (.string h.gr) := by rw [blk_cell hbox.out]; rfl
  have HN0 := Aside0.mk (nought_calls h.nm (by have := hS.nm; omega))
  have HN1 := Aside0.mk (nought_calls h.li (by have := hS.li; omega))
  have HN2 := Aside0.mk (nought_calls h.us (by have := hS.us; omega))
  have HN3 := Aside0.mk (nought_calls h.gr (by have := hS.gr; omega))
  have HEnd : Aside0 (∀ n, DPut w h (.returned (.tuple #[.slice none 0 0, .int .i64 2])) (W.drewN n)) := ⟨fun n => by
    unfold DPut
    rw [hE]
    exact ⟨rfl, hBW.trans ⟨rfl, rfl, rfl, Nat.le_refl _, fun _ _ => rfl⟩⟩⟩
  have HW := Aside0.mk hW
  unfold hv at HW
  unfold hv
  generalize noN h.nm = b0 at *
  generalize noN h.li = b1 at *
  generalize noN h.us = b2 at *
  generalize noN h.gr = b3 at *
  clear hE hW hBW hbox hS
  generalize DPut w h = R at *
  cases b0 with
  | false =>
    clear hn
    go_enter Tryd.func10, Tryd.ntmps10
    go_upto_region 1 with fail
    rw [← HW.out]
    go_wp2_with (go_at_call 31; (with_reducible refine (HN0.out _).mono ?_); rintro e w' ⟨rfl, ⟨nd, rfl⟩⟩)
    exact HEnd.out _
  | true =>
    cases b1 with
    | false =>
      clear hn
      go_enter Tryd.func10, Tryd.ntmps10
      go_upto_region 1 with fail
      rw [← HW.out]
      go_wp2_with (first
        | (go_at_call 31; (with_reducible refine (HN0.out _).mono ?_); rintro e w' ⟨rfl, ⟨nd, rfl⟩⟩)
        | (go_at_call 31; (with_reducible refine (HN1.out _).mono ?_); rintro e w' ⟨rfl, ⟨nd, rfl⟩⟩))
      exact HEnd.out _
    | true =>
      cases b2 with
      | false =>
        clear hn
        go_enter Tryd.func10, Tryd.ntmps10
        go_upto_region 1 with fail
        rw [← HW.out]
        go_wp2_with (first
          | (go_at_call 31; (with_reducible refine (HN0.out _).mono ?_); rintro e w' ⟨rfl, ⟨nd, rfl⟩⟩)
          | (go_at_call 31; (with_reducible refine (HN1.out _).mono ?_); rintro e w' ⟨rfl, ⟨nd, rfl⟩⟩)
          | (go_at_call 31; (with_reducible refine (HN2.out _).mono ?_); rintro e w' ⟨rfl, ⟨nd, rfl⟩⟩))
        exact HEnd.out _
      | true =>
        cases b3 with
        | true => cases hn
        | false =>
          clear hn
          go_enter Tryd.func10, Tryd.ntmps10
          go_upto_region 1 with fail
          rw [← HW.out]
          go_wp2_with (first
            | (go_at_call 31; (with_reducible refine (HN0.out _).mono ?_); rintro e w' ⟨rfl, ⟨nd, rfl⟩⟩)
            | (go_at_call 31; (with_reducible refine (HN1.out _).mono ?_); rintro e w' ⟨rfl, ⟨nd, rfl⟩⟩)
            | (go_at_call 31; (with_reducible refine (HN2.out _).mono ?_); rintro e w' ⟨rfl, ⟨nd, rfl⟩⟩)
            | (go_at_call 31; (with_reducible refine (HN3.out _).mono ?_); rintro e w' ⟨rfl, ⟨nd, rfl⟩⟩))
          exact HEnd.out _
theorem dput_long (h : Hd) (hS : Small h) (w : World) (hn : (noN h.nm && noN h.li && noN h.us && noN h.gr) = true) (hl : (!cutOk h.nm || decide (100 < h.li.size) || decide (32 < h.us.size) || decide (32 < h.gr.size)) = true) :
    Calls Tryd.prog 10 #[.agg (hv h)] w (DPut w h) := by
  have hE : headE h = some 3 := by unfold headE; rw [hn, hl]; rfl
  obtain ⟨W, hW⟩ : ∃ W, W = w.alloc (.cells (hv h) 33) := ⟨_, rfl⟩
  have hBW : Below w.heap.size w W := by rw [hW]; exact below_alloc (Below.refl _ _) _
  have hbox : DBox W w.heap.size h := by rw [hW]; exact ⟨alloc_self _ _⟩
  have c0 : W.cell? ⟨w.heap.size, 0, none⟩ = some (.string h.nm) := by rw [blk_cell hbox.out]; rfl
  have c7 : W.cell? ⟨w.heap.size, 7, none⟩ = some (.string h.li) := by rw [blk_cell hbox.out]; rfl
  have c8 : W.cell? ⟨w.heap.size, 8, none⟩ = some (.string h.us) := by rw [blk_cell hbox.out]; rfl
  have c9 : W.cell? ⟨w.heap.size, 9, none⟩ = some (.string h.gr) := by rw [blk_cell hbox.out]; rfl
  simp only [Bool.and_eq_true] at hn
  have HN0 := Aside0.mk (nought_calls h.nm (by have := hS.nm; omega))
  have HN1 := Aside0.mk (nought_calls h.li (by have := hS.li; omega))
  have HN2 := Aside0.mk (nought_calls h.us (by have := hS.us; omega))
  have HN3 := Aside0.mk (nought_calls h.gr (by have := hS.gr; omega))
  rw [hn.1.1.1] at HN0
  rw [hn.1.1.2] at HN1
  rw [hn.1.2] at HN2
  rw [hn.2] at HN3
  have HC := Aside0.mk (dcut_calls h.nm (by have := hS.nm; omega))
  have HEnd : Aside0 (∀ n, DPut w h (.returned (.tuple #[.slice none 0 0, .int .i64 3])) (W.drewN n)) := ⟨fun n => by
    unfold DPut
    rw [hE]
    exact ⟨rfl, hBW.trans ⟨rfl, rfl, rfl, Nat.le_refl _, fun _ _ => rfl⟩⟩⟩
  have HW := Aside0.mk hW
  unfold hv at HW
  unfold hv
  generalize cutOk h.nm = b0 at *
  clear hE hW hBW hbox hS hn
  generalize DPut w h = R at *
  cases b0 with
  | false =>
    clear hl
    go_enter Tryd.func10, Tryd.ntmps10
    go_upto_region 1 with fail
    rw [← HW.out]
    go_wp2_with (first
      | (go_at_call 31; (with_reducible refine (HN0.out _).mono ?_); rintro e w' ⟨rfl, ⟨nd, rfl⟩⟩)
      | (go_at_call 31; (with_reducible refine (HN1.out _).mono ?_); rintro e w' ⟨rfl, ⟨nd, rfl⟩⟩)
      | (go_at_call 31; (with_reducible refine (HN2.out _).mono ?_); rintro e w' ⟨rfl, ⟨nd, rfl⟩⟩)
      | (go_at_call 31; (with_reducible refine (HN3.out _).mono ?_); rintro e w' ⟨rfl, ⟨nd, rfl⟩⟩)
      | (go_at_call 32; (with_reducible refine (HC.out _).mono ?_); rintro e w' ⟨⟨a, r, rfl, har⟩, ⟨nd, rfl⟩⟩; clear har))
    exact HEnd.out _
  | true =>
    by_cases b1 : 100 < h.li.size
    · have b1' : (100 : Int) < (h.li.size : Int) := by omega
      clear hl b1
      go_enter Tryd.func10, Tryd.ntmps10
      go_upto_region 1 with fail
      rw [← HW.out]
      go_wp2_with (first
        | (go_at_call 31; (with_reducible refine (HN0.out _).mono ?_); rintro e w' ⟨rfl, ⟨nd, rfl⟩⟩)
        | (go_at_call 31; (with_reducible refine (HN1.out _).mono ?_); rintro e w' ⟨rfl, ⟨nd, rfl⟩⟩)
        | (go_at_call 31; (with_reducible refine (HN2.out _).mono ?_); rintro e w' ⟨rfl, ⟨nd, rfl⟩⟩)
        | (go_at_call 31; (with_reducible refine (HN3.out _).mono ?_); rintro e w' ⟨rfl, ⟨nd, rfl⟩⟩)
        | (go_at_call 32; (with_reducible refine (HC.out _).mono ?_); rintro e w' ⟨⟨a, r, rfl, har⟩, ⟨nd, rfl⟩⟩; clear har))
      exact HEnd.out _
    · have b1' : ¬ (100 : Int) < (h.li.size : Int) := by omega
      by_cases b2 : 32 < h.us.size
      · have b2' : (32 : Int) < (h.us.size : Int) := by omega
        clear hl b1 b2
        go_enter Tryd.func10, Tryd.ntmps10
        go_upto_region 1 with fail
        rw [← HW.out]
        go_wp2_with (first
          | (go_at_call 31; (with_reducible refine (HN0.out _).mono ?_); rintro e w' ⟨rfl, ⟨nd, rfl⟩⟩)
          | (go_at_call 31; (with_reducible refine (HN1.out _).mono ?_); rintro e w' ⟨rfl, ⟨nd, rfl⟩⟩)
          | (go_at_call 31; (with_reducible refine (HN2.out _).mono ?_); rintro e w' ⟨rfl, ⟨nd, rfl⟩⟩)
          | (go_at_call 31; (with_reducible refine (HN3.out _).mono ?_); rintro e w' ⟨rfl, ⟨nd, rfl⟩⟩)
          | (go_at_call 32; (with_reducible refine (HC.out _).mono ?_); rintro e w' ⟨⟨a, r, rfl, har⟩, ⟨nd, rfl⟩⟩; clear har))
        exact HEnd.out _
      · have b2' : ¬ (32 : Int) < (h.us.size : Int) := by omega
        have b3' : (32 : Int) < (h.gr.size : Int) := by
          simp [b1, b2] at hl
          omega
        clear hl b1 b2
        go_enter Tryd.func10, Tryd.ntmps10
        go_upto_region 1 with fail
        rw [← HW.out]
        go_wp2_with (first
          | (go_at_call 31; (with_reducible refine (HN0.out _).mono ?_); rintro e w' ⟨rfl, ⟨nd, rfl⟩⟩)
          | (go_at_call 31; (with_reducible refine (HN1.out _).mono ?_); rintro e w' ⟨rfl, ⟨nd, rfl⟩⟩)
          | (go_at_call 31; (with_reducible refine (HN2.out _).mono ?_); rintro e w' ⟨rfl, ⟨nd, rfl⟩⟩)
          | (go_at_call 31; (with_reducible refine (HN3.out _).mono ?_); rintro e w' ⟨rfl, ⟨nd, rfl⟩⟩)
          | (go_at_call 32; (with_reducible refine (HC.out _).mono ?_); rintro e w' ⟨⟨a, r, rfl, har⟩, ⟨nd, rfl⟩⟩; clear har))
        exact HEnd.out _
end Go.Proofs.YtiioiikcjaiajaaDoor.My

/- The walk of the document's Put of layer 19, where the texts fit. -/
set_option maxRecDepth 100000
namespace Go.Proofs.YtiioiikcjaiajaaDoor.My
open Go.RowKit Go.Proofs.YtiioiikcjaiajaaDoor.Hd Go.Proofs.YtiioiikcjaiajaaDoor.Oct Go.Proofs.YtiioiikcjaiajaaDoor.PHeadPuts Go.Proofs.YtiioiikcjaiajaaDoor.MyDocA Go.Proofs.YtiioiikcjaiajaaDoor.MyDocFits Go.Proofs.YtiioiikcjaiajaaDoorW.PrintWords Go.Proofs.YtiioiikcjaiajaaDoorW.PrintLast Go.Proofs.YtiioiikcjaiajaaDoorW.PrintMore
set_option linter.unusedVariables false
set_option linter.unusedSimpArgs false

theorem slice_at (g k m : Nat) (hk : k < 512) (hm : m = 512 - k) (W : World) : (Instr.slice 26 (.slice (some ⟨g, 0, none⟩) 512 512) (some (.int .i64 k)) none none).run Tryd.prog W = .ok (.slice (some ⟨g, k, none⟩) m m) W := by
  rw [slice_from g 0 512 512 k (by omega) (Nat.le_refl _), if_neg (by omega), Nat.zero_add, hm]
/-- The document's block while it is filled; its head's block stands. -/
structure DQ (w : World) (gB gb : Nat) (h : Hd) (l : List Int) : Prop where
  row : Row0 w gB l
  box : DBox w gb h
theorem DQ.ne {w : World} {gB gb : Nat} {h : Hd} {l : List Int} (q : DQ w gB gb h l) : gb ≠ gB := by
  intro e
  have k1 := q.box.out
  rw [e, q.row.out] at k1
  simp at k1
theorem DQ.drew {w : World} {gB gb : Nat} {h : Hd} {l : List Int} (q : DQ w gB gb h l) : DQ w.drew gB gb h l := ⟨q.row.drew, ⟨q.box.out⟩⟩
theorem DQ.to {w w' : World} {gB gb : Nat} {h : Hd} {l l' : List Int} (q : DQ w gB gb h l) (hr : Row0 w' gB l') (hg : w.grownBy w' (some gB)) : DQ w' gB gb h l' := ⟨hr, ⟨blk_grown q.box.out hg (by simpa using q.ne)⟩⟩
theorem DQ.cell {w : World} {gB gb : Nat} {h : Hd} {l : List Int} (q : DQ w gB gb h l) (j : Nat) : w.cell? ⟨gb, j, none⟩ = (hv h)[j]? := blk_cell q.box.out j
theorem bs_lit : bs (⟨#[117, 115, 116, 97, 114, 0, 48, 48]⟩ : ByteArray) = [117, 115, 116, 97, 114, 0, 48, 48] := by decide +kernel
theorem nSz_le : ∀ i, nSz i ≤ 12
  | 0 => by decide
  | 1 => by decide
  | 2 => by decide
  | 3 => by decide
  | 4 => by decide
  | i + 5 => by show 8 ≤ 12; decide
theorem docT_byte (h : Hd) (hS : Small h) : ∀ x ∈ docT h, 0 ≤ x ∧ x < 256 := by
  have h0 : ∀ x ∈ nought, (0 : Int) ≤ x ∧ x < 256 := fun x hx => by
    have := List.eq_of_mem_replicate hx
    omega
  exact byte_set (byte_patch (byte_patch (byte_patch (byte_patch (byte_patch (byte_patch h0 (bs_byte _)) (bs_byte _)) (by decide)) (bs_byte _)) (bs_byte _)) (bs_byte _)) hS.ki
theorem dsum_calls (w : World) (gB : Nat) (l : List Int) (hr : Row w gB l) (hl : l.length = 512) (hb : ∀ x ∈ l, 0 ≤ x ∧ x < 256) :
    Calls Tryd.prog 20 #[.slice (some ⟨gB, 0, none⟩) 512 512] w fun e w' => e = .returned (.int .i64 (sumH l)) ∧ Drawn0 w w' := by
  have := crossdockref19_Sum.calls 513 (some ⟨gB, 0, none⟩) 512 l (sumH l) w (hr.whole (by omega)) (by omega) (sum_f l (by omega) hb)
  rwa [hl] at this
set_option maxHeartbeats 4000000 in
theorem dput_rest (h : Hd) (hS : Small h) (w : World) (hn : (noN h.nm && noN h.li && noN h.us && noN h.gr) = true) (hl : (!cutOk h.nm || decide (100 < h.li.size) || decide (32 < h.us.size) || decide (32 < h.gr.size)) = false) :
    Calls Tryd.prog 10 #[.agg (hv h)] w (DPut w h) := by
  have hE : headE h = if (List.range 7).all (fitsN h) then none else some 1 := by unfold headE; rw [hn, hl]; rfl
  obtain ⟨W, hW⟩ : ∃ W, W = w.alloc (.cells (hv h) 33) := ⟨_, rfl⟩
  have hBW : Below w.heap.size w W := by rw [hW]; exact below_alloc (Below.refl _ _) _
  have hbox : DBox W w.heap.size h := by rw [hW]; exact ⟨alloc_self _ _⟩
  have c0 : W.cell? ⟨w.heap.size, 0, none⟩ = some (.string h.nm) := by rw [blk_cell hbox.out]; rfl
  have c7 : W.cell? ⟨w.heap.size, 7, none⟩ = some (.string h.li) := by rw [blk_cell hbox.out]; rfl
  have c8 : W.cell? ⟨w.heap.size, 8, none⟩ = some (.string h.us) := by rw [blk_cell hbox.out]; rfl
  have c9 : W.cell? ⟨w.heap.size, 9, none⟩ = some (.string h.gr) := by rw [blk_cell hbox.out]; rfl
  simp only [Bool.and_eq_true] at hn
  have HN0 := Aside0.mk (nought_calls h.nm (by have := hS.nm; omega))
  have HN1 := Aside0.mk (nought_calls h.li (by have := hS.li; omega))
  have HN2 := Aside0.mk (nought_calls h.us (by have := hS.us; omega))
  have HN3 := Aside0.mk (nought_calls h.gr (by have := hS.gr; omega))
  rw [hn.1.1.1] at HN0
  rw [hn.1.1.2] at HN1
  rw [hn.1.2] at HN2
  rw [hn.2] at HN3
  simp only [Bool.or_eq_false_iff, Bool.not_eq_false', decide_eq_false_iff_not] at hl
  have HC := Aside0.mk (dcut_calls h.nm (by have := hS.nm; omega))
  have hok := hl.1.1.1
  rw [hok] at HC
  have b1' : ¬ (100 : Int) < (h.li.size : Int) := by omega
  have b2' : ¬ (32 : Int) < (h.us.size : Int) := by omega
  have b3' : ¬ (32 : Int) < (h.gr.size : Int) := by omega
  have HL := Aside0.mk (And.intro hok (And.intro (show h.li.size ≤ 100 by omega) (And.intro (show h.us.size ≤ 32 by omega) (show h.gr.size ≤ 32 by omega))))
  have HEnd : Aside0 ((∀ w', (List.range 7).all (fitsN h) = false → Below w.heap.size w w' → DPut w h (.returned (.tuple #[.slice none 0 0, .int .i64 1])) w') ∧ (∀ w' gB, (List.range 7).all (fitsN h) = true → Row w' gB (docB h) → Below w.heap.size w w' → DPut w h (.returned (.tuple #[.slice (some ⟨gB, 0, none⟩) 512 512, .int .i64 0])) w')) := by
    refine ⟨fun w' ha hb => ?_, fun w' gB ha hr hb => ?_⟩
    · unfold DPut
      rw [hE, ha]
      exact ⟨rfl, hb⟩
    · unfold DPut
      rw [hE, ha]
      exact ⟨⟨gB, rfl, hr⟩, hb⟩
  have HBx := Aside0.mk (And.intro hbox hBW)
  have HS := Aside0.mk hS
  have HW := Aside0.mk hW
  have hmk : ∀ W : World, (Instr.makeSlice 26 (.int .i64 512) (.int .i64 512)).run Tryd.prog W = .ok (.slice (some ⟨W.heap.size, 0, none⟩) 512 512) (W.alloc (.cells (madeCells #[.int .u8 0] 512) 5)) := fun W => make_bytes 512 (by omega) W
  unfold hv at HW
  unfold hv
  clear hE hW hBW hbox hS hn hl hok
  generalize DPut w h = R at *
  go_enter Tryd.func10, Tryd.ntmps10
  go_upto_region 1 with fail
  rw [← HW.out]
  go_upto_region 7 with (first
    | (go_at_call 31; (with_reducible refine (HN0.out _).mono ?_); rintro e w' ⟨rfl, ⟨nd0, rfl⟩⟩)
    | (go_at_call 31; (with_reducible refine (HN1.out _).mono ?_); rintro e w' ⟨rfl, ⟨nd1, rfl⟩⟩)
    | (go_at_call 31; (with_reducible refine (HN2.out _).mono ?_); rintro e w' ⟨rfl, ⟨nd2, rfl⟩⟩)
    | (go_at_call 31; (with_reducible refine (HN3.out _).mono ?_); rintro e w' ⟨rfl, ⟨nd3, rfl⟩⟩)
    | (go_at_call 32; (with_reducible refine (HC.out _).mono ?_); rintro e w' ⟨⟨a, r, rfl, har⟩, ⟨nd4, rfl⟩⟩; obtain ⟨rfl, rfl⟩ := har (by trivial)))
  generalize nd0 + nd1 + nd2 + nd3 + nd4 = n0
  have hbn : Below W.heap.size W (W.drewN n0) := ⟨rfl, rfl, rfl, Nat.le_refl _, fun _ _ => rfl⟩
  have hq0 : DQ ((W.drewN n0).alloc (.cells (madeCells #[.int .u8 0] 512) 5)) W.heap.size w.heap.size h nought := by
    refine ⟨Row0.made (W.drewN n0) 512, ⟨?_⟩⟩
    exact blk_below HBx.out.1.out (below_alloc hbn _)
  have hb0 : Below w.heap.size w ((W.drewN n0).alloc (.cells (madeCells #[.int .u8 0] 512) 5)) := HBx.out.2.trans ((below_alloc hbn _).mono HBx.out.2.size)
  have hgB : w.heap.size ≤ W.heap.size := HBx.out.2.size
  generalize (W.drewN n0).alloc (.cells (madeCells #[.int .u8 0] 512) 5) = V0 at *
  generalize W.heap.size = gB at *
  have hnl : nought.length = 512 := by unfold nought; rw [List.length_replicate]
  obtain ⟨z1, z2⟩ := cut_sizes HL.out.1
  obtain ⟨zl, zu, zg⟩ := HL.out.2
  -- the chain of the copies
  obtain ⟨V1, k1, r1, g1⟩ := copy_text V0 gB 0 512 512 (rest h.nm) nought hq0.row (by omega) (by omega)
  have hq1 := (hq0.to r1 g1)
  have e1 : (patch nought 0 (bs (rest h.nm))).length = 512 := by rw [patch_length (by rw [bs_len]; omega), hnl]
  obtain ⟨V2, k2, r2, g2⟩ := copy_text V1.drew gB 157 355 355 h.li _ hq1.drew.row (by omega) (by omega)
  have hq2 := (hq1.drew.to r2 g2)
  have e2 : (patch (patch nought 0 (bs (rest h.nm))) 157 (bs h.li)).length = 512 := by rw [patch_length (by rw [bs_len]; omega), e1]
  obtain ⟨V3, k3, r3, g3⟩ := copy_text V2 gB 257 255 255 ⟨#[117, 115, 116, 97, 114, 0, 48, 48]⟩ _ hq2.row (by decide) (by omega)
  have hq3 := (hq2.to r3 g3)
  rw [bs_lit] at hq3
  have e3 : (patch (patch (patch nought 0 (bs (rest h.nm))) 157 (bs h.li)) 257 [117, 115, 116, 97, 114, 0, 48, 48]).length = 512 := by rw [patch_length (by rw [e2]; decide), e2]
  obtain ⟨V4, k4, r4, g4⟩ := copy_text V3.drew gB 265 247 247 h.us _ hq3.drew.row (by omega) (by omega)
  have hq4 := (hq3.drew.to r4 g4)
  have e4 : (patch (patch (patch (patch nought 0 (bs (rest h.nm))) 157 (bs h.li)) 257 [117, 115, 116, 97, 114, 0, 48, 48]) 265 (bs h.us)).length = 512 := by rw [patch_length (by rw [bs_len]; omega), e3]
  obtain ⟨V5, k5, r5, g5⟩ := copy_text V4.drew gB 297 215 215 h.gr _ hq4.drew.row (by omega) (by omega)
  have hq5 := (hq4.drew.to r5 g5)
  have e5 : (patch (patch (patch (patch (patch nought 0 (bs (rest h.nm))) 157 (bs h.li)) 257 [117, 115, 116, 97, 114, 0, 48, 48]) 265 (bs h.us)) 297 (bs h.gr)).length = 512 := by rw [patch_length (by rw [bs_len]; omega), e4]
  obtain ⟨V6, k6, r6, g6⟩ := copy_text V5 gB 345 167 167 (aheadOf h.nm) _ hq5.row (by omega) (by omega)
  have hq6 := (hq5.to r6 g6)
  have e6 : (patch (patch (patch (patch (patch (patch nought 0 (bs (rest h.nm))) 157 (bs h.li)) 257 [117, 115, 116, 97, 114, 0, 48, 48]) 265 (bs h.us)) 297 (bs h.gr)) 345 (bs (aheadOf h.nm))).length = 512 := by rw [patch_length (by rw [bs_len]; omega), e5]
  have hb6 : Below w.heap.size w V6 := by
    have a1 := below_grown hb0 g1 hb0.size hgB
    have a2 := below_grown a1.drew g2 a1.size hgB
    have a3 := below_grown a2 g3 a2.size hgB
    have a4 := below_grown a3.drew g4 a3.size hgB
    have a5 := below_grown a4.drew g5 a4.size hgB
    exact below_grown a5 g6 a5.size hgB
  have y1 : V1.cell? ⟨w.heap.size, 7, none⟩ = some (.string h.li) := (hq1.cell 7).trans rfl
  have y3 : V3.cell? ⟨w.heap.size, 8, none⟩ = some (.string h.us) := (hq3.cell 8).trans rfl
  have y4 : V4.cell? ⟨w.heap.size, 9, none⟩ = some (.string h.gr) := (hq4.cell 9).trans rfl
  have y6 : V6.cell? ⟨w.heap.size, 6, none⟩ = some (.int .u8 h.ki) := (hq6.cell 6).trans rfl
  have d6 := hq6.row.row.cell 156 (by omega)
  have f6 := hq6.row.row.frozen 156 (by omega)
  have s1 := slice_at gB 157 355 (by decide) rfl
  have s2 := slice_at gB 257 255 (by decide) rfl
  have s3 := slice_at gB 265 247 (by decide) rfl
  have s4 := slice_at gB 297 215 (by decide) rfl
  have s5 := slice_at gB 345 167 (by decide) rfl
  have HQ6 := Aside0.mk (And.intro hq6 (And.intro hb6 e6))
  have HgB := Aside0.mk hgB
  clear hbn hq0 hb0 hgB hnl z1 z2 zl zu zg r1 r2 r3 r4 r5 r6 g1 g2 g3 g4 g5 g6 hq1 hq2 hq3 hq4 hq5 hq6 hb6 e1 e2 e3 e4 e5 e6 b1' b2' b3' HC HN0 HN1 HN2 HN3 c0 c7 c8 c9 HW HBx hmk
  go_wp2_with fail
  go_still_tail 4, (by kernel_rfl)
  change wpList _ _ _ _ _ V1.drew
  go_wp2_with fail
  go_still_tail 4, (by kernel_rfl)
  change wpList _ _ _ _ _ V3.drew
  go_wp2_with fail
  go_still_tail 4, (by kernel_rfl)
  change wpList _ _ _ _ _ V4.drew
  go_upto_region 14 with fail
  have hq7 : DQ (V6.setCell ⟨gB, 156, none⟩ (.int .u8 h.ki)) gB w.heap.size h (docT h) := HQ6.out.1.to (HQ6.out.1.row.set 156 h.ki) (grown_set _ _ _ _)
  have hb7 : Below w.heap.size w (V6.setCell ⟨gB, 156, none⟩ (.int .u8 h.ki)) := HQ6.out.2.1.setCell HgB.out _
  have hlT : (docT h).length = 512 := by unfold docT; rw [List.length_set]; exact HQ6.out.2.2
  generalize V6.setCell ⟨gB, 156, none⟩ (.int .u8 h.ki) = V7 at *
  obtain ⟨lT, hlTe⟩ : ∃ lT, lT = docT h := ⟨_, rfl⟩
  rw [← hlTe] at hq7 hlT
  have HlT := Aside0.mk hlTe
  clear hlTe
  have HQ7 := Aside0.mk (And.intro hq7 (And.intro hb7 hlT))
  clear hq7 hb7 hlT HQ6 y1 y3 y4 y6 d6 f6 s1 s2 s3 s4 s5 k1 k2 k3 k4 k5 k6
  go_upto_region 15 with fail
  have hB1 := below_alloc (Below.refl V7.heap.size V7) (.cells #[.int .i64 100, .int .i64 108, .int .i64 116, .int .i64 124, .int .i64 136, .int .i64 329, .int .i64 337] 3)
  have hB2 := below_alloc hB1 (.cells #[.int .i64 8, .int .i64 8, .int .i64 8, .int .i64 12, .int .i64 12, .int .i64 8, .int .i64 8] 3)
  have p1 : ((V7.alloc (.cells #[.int .i64 100, .int .i64 108, .int .i64 116, .int .i64 124, .int .i64 136, .int .i64 329, .int .i64 337] 3)).alloc (.cells #[.int .i64 8, .int .i64 8, .int .i64 8, .int .i64 12, .int .i64 12, .int .i64 8, .int .i64 8] 3)).heap[V7.heap.size]? = some (.cells #[.int .i64 100, .int .i64 108, .int .i64 116, .int .i64 124, .int .i64 136, .int .i64 329, .int .i64 337] 3 (0, 0)) := blk_alloc (alloc_self _ _) _
  have p2 := alloc_self (V7.alloc (.cells #[.int .i64 100, .int .i64 108, .int .i64 116, .int .i64 124, .int .i64 136, .int .i64 329, .int .i64 337] 3)) (.cells #[.int .i64 8, .int .i64 8, .int .i64 8, .int .i64 12, .int .i64 12, .int .i64 8, .int .i64 8] 3)
  rw [show (V7.alloc (.cells #[.int .i64 100, .int .i64 108, .int .i64 116, .int .i64 124, .int .i64 136, .int .i64 329, .int .i64 337] 3)).heap.size = V7.heap.size + 1 by simp] at p2
  generalize (V7.alloc (.cells #[.int .i64 100, .int .i64 108, .int .i64 116, .int .i64 124, .int .i64 136, .int .i64 329, .int .i64 337] 3)).alloc (.cells #[.int .i64 8, .int .i64 8, .int .i64 8, .int .i64 12, .int .i64 12, .int .i64 8, .int .i64 8] 3) = V8 at *
  have hbox8 : DBox V8 w.heap.size h := ⟨blk_below HQ7.out.1.box.out hB2⟩
  have n1 : V8.cell? ⟨w.heap.size, 1, none⟩ = some (.int .i64 h.mo) := (blk_cell hbox8.out 1).trans rfl
  have n2 : V8.cell? ⟨w.heap.size, 2, none⟩ = some (.int .i64 h.ui) := (blk_cell hbox8.out 2).trans rfl
  have n3 : V8.cell? ⟨w.heap.size, 3, none⟩ = some (.int .i64 h.gi) := (blk_cell hbox8.out 3).trans rfl
  have n4 : V8.cell? ⟨w.heap.size, 4, none⟩ = some (.int .i64 h.si) := (blk_cell hbox8.out 4).trans rfl
  have n5 : V8.cell? ⟨w.heap.size, 5, none⟩ = some (.int .i64 h.ti) := (blk_cell hbox8.out 5).trans rfl
  have n10 : V8.cell? ⟨w.heap.size, 10, none⟩ = some (.int .i64 h.ma) := (blk_cell hbox8.out 10).trans rfl
  have n11 : V8.cell? ⟨w.heap.size, 11, none⟩ = some (.int .i64 h.mi) := (blk_cell hbox8.out 11).trans rfl
  have HQ8 : Aside0 (Row0 V8 gB lT ∧ Below w.heap.size w V8 ∧ lT.length = 512) := ⟨HQ7.out.1.row.below hB2, HQ7.out.2.1.trans (hB2.mono HQ7.out.2.1.size), HQ7.out.2.2⟩
  have HP := Aside0.mk (And.intro p1 p2)
  have HgP : Aside0 (V7.heap.size ≠ gB ∧ V7.heap.size + 1 ≠ gB) := ⟨by have := blk_lt HQ7.out.1.row.out; omega⟩
  clear hB1 hB2 p1 p2 hbox8 HQ7
  generalize V7.heap.size = gP at *
  go_wp2_with fail
  have hB9 := below_alloc (Below.refl V8.heap.size V8) (.cells #[.int .i64 h.mo, .int .i64 h.ui, .int .i64 h.gi, .int .i64 h.si, .int .i64 h.ti, .int .i64 h.ma, .int .i64 h.mi] 3)
  have p3 := alloc_self V8 (.cells #[.int .i64 h.mo, .int .i64 h.ui, .int .i64 h.gi, .int .i64 h.si, .int .i64 h.ti, .int .i64 h.ma, .int .i64 h.mi] 3)
  generalize V8.alloc (.cells #[.int .i64 h.mo, .int .i64 h.ui, .int .i64 h.gi, .int .i64 h.si, .int .i64 h.ti, .int .i64 h.ma, .int .i64 h.mi] 3) = V9 at *
  have HQ9 : Aside0 (Row0 V9 gB lT ∧ Below w.heap.size w V9 ∧ lT.length = 512) := ⟨HQ8.out.1.below hB9, HQ8.out.2.1.trans (hB9.mono HQ8.out.2.1.size), HQ8.out.2.2⟩
  have HP9 : Aside0 (∀ wr, V9.grownBy wr (some gB) → ∀ i, i < 7 → wr.cell? ⟨gP, i, none⟩ = some (.int .i64 (nAt i)) ∧ wr.cell? ⟨gP + 1, i, none⟩ = some (.int .i64 (nSz i)) ∧ wr.cell? ⟨V8.heap.size, i, none⟩ = some (.int .i64 (h.num i))) := ⟨fun wr hg i hi => by
    have k1 := blk_grown (blk_below HP.out.1 hB9) hg (by simpa using HgP.out.1)
    have k2 := blk_grown (blk_below HP.out.2 hB9) hg (by simpa using HgP.out.2)
    have k3 := blk_grown p3 hg (by have := blk_lt HQ8.out.1.out; simp; omega)
    rw [blk_cell k1, blk_cell k2, blk_cell k3]
    match i, hi with
    | 0, _ => exact ⟨rfl, rfl, rfl⟩
    | 1, _ => exact ⟨rfl, rfl, rfl⟩
    | 2, _ => exact ⟨rfl, rfl, rfl⟩
    | 3, _ => exact ⟨rfl, rfl, rfl⟩
    | 4, _ => exact ⟨rfl, rfl, rfl⟩
    | 5, _ => exact ⟨rfl, rfl, rfl⟩
    | 6, _ => exact ⟨rfl, rfl, rfl⟩⟩
  clear hB9 p3 n1 n2 n3 n4 n5 n10 n11 HQ8 HP HgP
  generalize V8.heap.size = gX at *
  go_loopg [109] 7 (fun kq v109 wr => ∃ i : Nat, i ≤ 7 ∧ v109 = .int .i64 i ∧ Aside0 (kq = 7 - i) ∧ Aside0 (∀ j, j < i → fitsN h j = true) ∧ Aside0 (Row0 wr gB (putN h i lT)) ∧ Aside0 (V9.grownBy wr (some gB)))
  case atStart => exact ⟨0, by omega, rfl, ⟨rfl⟩, ⟨fun j hj => by omega⟩, ⟨HQ9.out.1⟩, ⟨grown_refl _ _⟩⟩
  case round =>
    obtain ⟨i, hi, rfl, HK, HJ, HR, HG⟩ := hrel
    by_cases hlt : i < 7
    · have hlt' : (i : Int) < 7 := by omega
      obtain ⟨n0, n1, n2⟩ := HP9.out wr HG.out i hlt
      have hTB := nB i
      have hPc := dput_calls (nSz i) (h.num i) (by have : nSz i ≤ 12 := nSz_le i; omega) (HS.out.num i).1 (HS.out.num i).2 wr
      have hLen := putN_len h lT HQ9.out.2.2 i
      obtain ⟨b, hb⟩ : ∃ b, fit (nSz i) (h.num i) = b := ⟨_, rfl⟩
      have HBt : Aside0 (fitsN h i = b) := ⟨hb⟩
      rw [hb] at hPc
      cases b with
      | false =>
        have HPc := Aside0.mk hPc
        clear hPc hTB hLen hb
        go_wp2_with (go_at_call 33; refine HPc.out.mono ?_; rintro e w2 ⟨⟨v0, rfl, _⟩, hb2⟩; replace hb2 := Aside0.mk hb2)
        refine HEnd.out.1 _ ?_ ?_
        · cases hA : (List.range 7).all (fitsN h) with
          | false => rfl
          | true =>
            have := List.all_eq_true.1 hA i (List.mem_range.2 hlt)
            rw [HBt.out] at this
            cases this
        · have b1 := below_grown HQ9.out.2.1 HG.out HQ9.out.2.1.size HgB.out
          exact b1.trans (hb2.out.mono b1.size)
      | true =>
        have HPc := Aside0.mk hPc
        have hpl := putB_length (nSz i) (h.num i) hTB.2.2.2
        have HX : Aside0 (∀ w2 A0 c0, Below wr.heap.size wr w2 → (Kd.int .u8).C w2 A0 (nSz i) (putB (nSz i) (h.num i)) → ∃ W', (∀ ty, (Builtin.copy_ #[26, 26] ty #[.slice (some ⟨gB, nAt i, none⟩) (512 - nAt i) (512 - nAt i), .slice A0 (nSz i) c0]).run Tryd.prog w2 = .ok (.int .i64 (nSz i)) W') ∧ Row0 W' gB (putN h (i + 1) lT) ∧ V9.grownBy W' (some gB) ∧ w2.cell? ⟨gP, i, none⟩ = some (.int .i64 (nAt i))) := ⟨fun w2 A0 c0 hb hC => by
          obtain ⟨W', k1, k2, k3⟩ := copy_row w2 gB (nAt i) (512 - nAt i) (512 - nAt i) (nSz i) c0 A0 _ _ (HR.out.below hb) hpl hC (by omega) hTB.2.2.2 (by omega)
          have hg2 := grown_trans HG.out (grown_below hb (some gB))
          exact ⟨W', k1, k2, grown_trans hg2 k3, (HP9.out w2 hg2 i hlt).1⟩⟩
        have hsl := slice_at gB (nAt i) (512 - nAt i) hTB.2.1 rfl
        clear hPc hTB hLen hb
        go_wp2_with (go_at_call 33; refine HPc.out.mono ?_; rintro e w2 ⟨⟨v0, rfl, hv0⟩, hb2⟩; obtain ⟨A0, c0, rfl, _, hR0⟩ := Kd.R_reads (hv0 (by trivial)); rw [hpl] at hR0; obtain ⟨W3, k1, k2, k3, k4⟩ := HX.out w2 A0 c0 hb2 hR0; have HK2 := Aside0.mk (And.intro k2 k3); clear hR0 hb2 hv0 k2 k3)
        go_roundg (7 - (i + 1))
        case measure => have := HK.out; omega
        case rel => exact ⟨i + 1, by omega, by go_num, ⟨rfl⟩, ⟨fun j hj => by
          by_cases e : j = i
          · rw [e]; exact HBt.out
          · exact HJ.out j (by omega)⟩, ⟨HK2.out.1⟩, ⟨HK2.out.2⟩⟩
    · have hlt' : ¬ (i : Int) < 7 := by omega
      obtain rfl : i = 7 := by omega
      have hall : (List.range 7).all (fitsN h) = true := List.all_eq_true.2 fun j hj => HJ.out j (List.mem_range.1 hj)
      have hlen := putN_len h lT HQ9.out.2.2 7
      have hby := byte_N h lT (by rw [HlT.out]; exact docT_byte h HS.out) 7
      have hHead : docB h = (patch (putN h 7 lT) 148 (putB 7 (sumH (putN h 7 lT)))).set 155 32 := by unfold docB; rw [← HlT.out]
      have HHead := Aside0.mk hHead
      have HAll := Aside0.mk hall
      have hsb := sumTo_bd hby 512
      have hsf := sum_fit (sumH (putN h 7 lT)) hsb.1 (by have := hsb.2; unfold sumH; omega)
      have hsb2 : -9223372036854775808 ≤ sumH (putN h 7 lT) ∧ sumH (putN h 7 lT) ≤ 9223372036854775807 := by unfold sumH; omega
      have HSm := Aside0.mk (dsum_calls wr gB _ HR.out.row hlen hby)
      have HP7 : Aside0 (∀ w, Calls Tryd.prog 33 #[.int .i64 7, .int .i64 (sumH (putN h 7 lT))] w fun e w' => (∃ v0 : Value, e = .returned (.tuple #[v0, .int .i64 0]) ∧ Kd.R (Kd.int .u8) 5 w' w.heap.size (fun _ => True) v0 (putB 7 (sumH (putN h 7 lT)))) ∧ Below w.heap.size w w') := ⟨fun w => by
        refine (dput_calls 7 _ (by decide) hsb2.1 hsb2.2 w).mono ?_
        rw [hsf]
        rintro e w' ⟨⟨v0, he, hR⟩, hb⟩
        exact ⟨⟨v0, he, hR rfl⟩, hb⟩⟩
      have HX : Aside0 (∀ n w2 A0 c0, Below (wr.drewN n).heap.size (wr.drewN n) w2 → (Kd.int .u8).C w2 A0 7 (putB 7 (sumH (putN h 7 lT))) → ∃ W', (∀ ty, (Builtin.copy_ #[26, 26] ty #[.slice (some ⟨gB, 148, none⟩) 364 364, .slice A0 7 c0]).run Tryd.prog w2 = .ok (.int .i64 7) W') ∧ W'.cell? ⟨gB, 155, none⟩ = some (.int .u8 ((patch (putN h 7 lT) 148 (putB 7 (sumH (putN h 7 lT)))).getD 155 0)) ∧ W'.frozen? ⟨gB, 155, none⟩ = false ∧ Aside0 (Row (W'.setCell ⟨gB, 155, none⟩ (.int .u8 32)) gB (docB h) ∧ Below w.heap.size w (W'.setCell ⟨gB, 155, none⟩ (.int .u8 32)))) := ⟨fun n w2 A0 c0 hb hC => by
        have hb' : Below wr.heap.size wr w2 := (show Below wr.heap.size wr (wr.drewN n) from ⟨rfl, rfl, rfl, Nat.le_refl _, fun _ _ => rfl⟩).trans hb
        have hp7 := putB_length 7 (sumH (putN h 7 lT)) (by decide)
        obtain ⟨W', k1, k2, k3⟩ := copy_row w2 gB 148 364 364 7 c0 A0 _ _ (HR.out.below hb') hp7 hC (by decide) (by decide) (by omega)
        have hl2 : (patch (putN h 7 lT) 148 (putB 7 (sumH (putN h 7 lT)))).length = 512 := by rw [patch_length (by rw [hp7, hlen]; decide), hlen]
        refine ⟨W', k1, k2.row.cell 155 (by omega), k2.row.frozen 155 (by omega), ⟨?_, ?_⟩⟩
        · rw [hHead]; exact k2.row.set 155 32
        · have b1 := below_grown HQ9.out.2.1 HG.out HQ9.out.2.1.size HgB.out
          have b2 := b1.trans (hb'.mono b1.size)
          exact (below_grown b2 k3 b2.size HgB.out).setCell HgB.out _⟩
      have hp7 := putB_length 7 (sumH (putN h 7 lT)) (by decide)
      have hsl := slice_at gB 148 364 (by decide) rfl
      clear hall hlen hby hHead hsb hsf hsb2 hlt hi
      generalize sumH (putN h 7 lT) = sm at *
      go_wp2_with (first
        | (go_at_call 20; (with_reducible refine HSm.out.mono ?_); rintro e w' ⟨rfl, ⟨nd, rfl⟩⟩)
        | (go_at_call 33; (with_reducible refine (HP7.out _).mono ?_); rintro e w2 ⟨⟨v0, rfl, hv0⟩, hb2⟩; obtain ⟨A0, c0, rfl, _, hR0⟩ := Kd.R_reads hv0; rw [hp7] at hR0; obtain ⟨W3, k1, k2, k3, k4⟩ := HX.out _ w2 A0 c0 hb2 hR0; clear hR0 hb2 hv0))
      exact HEnd.out.2 _ gB HAll.out k4.out.1 k4.out.2
end Go.Proofs.YtiioiikcjaiajaaDoor.My

/- The document's block is the program's: plainly, field by field. -/
set_option maxRecDepth 100000
namespace Go.Proofs.YtiioiikcjaiajaaDoor.My
open Go.Proofs.YtiioiikcjaiajaaDoor.Hd Go.Proofs.YtiioiikcjaiajaaDoor.Oct Go.Proofs.YtiioiikcjaiajaaDoorW.PrintWords
set_option linter.unusedVariables false
set_option linter.unusedSimpArgs false

/-- Blocks that agree field by field are alike. -/
theorem eq_flds {l m : List Int} : ∀ (sizes : List Nat) (o : Nat), l.length = m.length → o + sizes.sum = l.length → (∀ k, k < sizes.length → fld l (o + (sizes.take k).sum) (sizes.getD k 0) = fld m (o + (sizes.take k).sum) (sizes.getD k 0)) → l.drop o = m.drop o
  | [], o, hlm, ho, _ => by
    simp only [List.sum_nil, Nat.add_zero] at ho
    rw [List.drop_eq_nil_of_le (by omega), List.drop_eq_nil_of_le (by omega)]
  | n :: r, o, hlm, ho, h => by
    have h0 := h 0 (by simp)
    simp only [List.take_zero, List.sum_nil, Nat.add_zero, List.getD_cons_zero] at h0
    have hr := eq_flds r (o + n) hlm (by rw [List.sum_cons] at ho; omega) (fun k hk => by
      have := h (k + 1) (by simpa using hk)
      simp only [List.take_succ_cons, List.sum_cons, List.getD_cons_succ] at this
      rw [Nat.add_assoc]
      exact this)
    have e1 : l.drop o = fld l o n ++ l.drop (o + n) := by
      unfold fld
      rw [← List.drop_drop, List.take_append_drop]
    have e2 : m.drop o = fld m o n ++ m.drop (o + n) := by
      unfold fld
      rw [← List.drop_drop, List.take_append_drop]
    rw [e1, e2, h0, hr]
theorem fld_txt {l : List Int} {o n : Nat} {b : List Int} (hb : b.length ≤ n) (h : o + n ≤ l.length) (hz : fld l o n = List.replicate n 0) : fld (patch l o b) o n = b ++ List.replicate (n - b.length) 0 := by
  apply List.ext_getElem?
  intro i
  rw [fld_get, patch_get (by omega)]
  have hzi : ∀ j, j < n → l[o + j]? = some 0 := fun j hj => by
    have := congrArg (·[j]?) hz
    simp only [fld_get, if_pos hj] at this
    rw [this, List.getElem?_replicate, if_pos hj]
  by_cases h1 : i < b.length
  · rw [if_pos (by omega), if_pos (by omega), List.getElem?_append_left h1, Nat.add_sub_cancel_left]
  · by_cases h2 : i < n
    · rw [if_pos h2, if_neg (by omega), hzi i h2, List.getElem?_append_right (by omega), List.getElem?_replicate, if_pos (by omega)]
    · rw [if_neg h2, List.getElem?_append_right (by omega), List.getElem?_replicate, if_neg (by omega)]
theorem fld_in {l : List Int} {o p n : Nat} {b : List Int} (h : o + b.length ≤ l.length) (h1 : o ≤ p) (h2 : p + n ≤ o + b.length) : fld (patch l o b) p n = (b.drop (p - o)).take n := by
  apply List.ext_getElem?
  intro i
  rw [fld_get, List.getElem?_take]
  by_cases hi : i < n
  · rw [if_pos hi, if_pos hi, patch_get h, if_pos (by omega), List.getElem?_drop]
    congr 1
    omega
  · rw [if_neg hi, if_neg hi]
theorem fld_nought (o n : Nat) (h : o + n ≤ 512) : fld nought o n = List.replicate n 0 := by
  unfold fld nought
  rw [List.drop_replicate, List.take_replicate]
  congr 1
  omega
def cutSizes : List Nat := [100, 8, 8, 8, 12, 12, 8, 1, 100, 6, 1, 1, 32, 32, 8, 8, 155, 12]
/-- The two bodies, in words of lists alone. -/
theorem bodies (r li us gr a n0 n1 n2 n3 n4 n5 n6 : List Int) (ki : Int) (hr : r.length ≤ 100) (hli : li.length ≤ 100) (hus : us.length ≤ 32) (hgr : gr.length ≤ 32) (ha : a.length ≤ 155)
    (h0 : n0.length = 8) (h1 : n1.length = 8) (h2 : n2.length = 8) (h3 : n3.length = 12) (h4 : n4.length = 12) (h5 : n5.length = 8) (h6 : n6.length = 8) :
    patch (patch (patch (patch (patch (patch (patch (patch (patch (patch (patch (patch (patch (patch (patch (patch nought 0 (r ++ List.replicate (100 - r.length) 0)) 157 (li ++ List.replicate (100 - li.length) 0)) 257 [117, 115, 116, 97, 114, 0]) 265 (us ++ List.replicate (32 - us.length) 0)) 297 (gr ++ List.replicate (32 - gr.length) 0)) 345 (a ++ List.replicate (155 - a.length) 0)) 100 n0) 108 n1) 116 n2) 124 n3) 136 n4) 329 n5) 337 n6) 156 [ki]) 263 [48]) 264 [48] =
    patch (patch (patch (patch (patch (patch (patch (patch (patch (patch (patch (patch (patch (patch nought 0 r) 157 li) 257 [117, 115, 116, 97, 114, 0, 48, 48]) 265 us) 297 gr) 345 a) 156 [ki]) 100 n0) 108 n1) 116 n2) 124 n3) 136 n4) 329 n5) 337 n6 := by
  have hlit : ([117, 115, 116, 97, 114, 0, 48, 48] : List Int).length = 8 := rfl
  have hlit6 : ([117, 115, 116, 97, 114, 0] : List Int).length = 6 := rfl
  have hk1 : ([ki] : List Int).length = 1 := rfl
  have h48 : ([48] : List Int).length = 1 := rfl
  have hn : nought.length = 512 := by unfold nought; rw [List.length_replicate]
  have hrz : (r ++ List.replicate (100 - r.length) 0).length = 100 := by rw [List.length_append, List.length_replicate]; omega
  have hlz : (li ++ List.replicate (100 - li.length) 0).length = 100 := by rw [List.length_append, List.length_replicate]; omega
  have huz : (us ++ List.replicate (32 - us.length) 0).length = 32 := by rw [List.length_append, List.length_replicate]; omega
  have hgz : (gr ++ List.replicate (32 - gr.length) 0).length = 32 := by rw [List.length_append, List.length_replicate]; omega
  have haz : (a ++ List.replicate (155 - a.length) 0).length = 155 := by rw [List.length_append, List.length_replicate]; omega
  generalize hR : r ++ List.replicate (100 - r.length) 0 = rz at *
  generalize hL : li ++ List.replicate (100 - li.length) 0 = lz at *
  generalize hU : us ++ List.replicate (32 - us.length) 0 = uz at *
  generalize hG : gr ++ List.replicate (32 - gr.length) 0 = gz at *
  generalize hA : a ++ List.replicate (155 - a.length) 0 = az at *
  generalize hl8 : ([117, 115, 116, 97, 114, 0, 48, 48] : List Int) = lit8 at *
  generalize hl6 : ([117, 115, 116, 97, 114, 0] : List Int) = lit6 at *
  have step : ∀ {l : List Int} {o : Nat} {b : List Int}, l.length = 512 → o + b.length ≤ 512 → (patch l o b).length = 512 := fun {l o b} hl hb => by rw [patch_length (by omega), hl]
  obtain ⟨p1, ep1, lp1⟩ : ∃ x, x = patch nought 0 rz ∧ x.length = 512 := ⟨_, rfl, step hn (by omega)⟩
  rw [← ep1]
  obtain ⟨p2, ep2, lp2⟩ : ∃ x, x = patch p1 157 lz ∧ x.length = 512 := ⟨_, rfl, step lp1 (by omega)⟩
  rw [← ep2]
  obtain ⟨p3, ep3, lp3⟩ : ∃ x, x = patch p2 257 lit6 ∧ x.length = 512 := ⟨_, rfl, step lp2 (by omega)⟩
  rw [← ep3]
  obtain ⟨p4, ep4, lp4⟩ : ∃ x, x = patch p3 265 uz ∧ x.length = 512 := ⟨_, rfl, step lp3 (by omega)⟩
  rw [← ep4]
  obtain ⟨p5, ep5, lp5⟩ : ∃ x, x = patch p4 297 gz ∧ x.length = 512 := ⟨_, rfl, step lp4 (by omega)⟩
  rw [← ep5]
  obtain ⟨p6, ep6, lp6⟩ : ∃ x, x = patch p5 345 az ∧ x.length = 512 := ⟨_, rfl, step lp5 (by omega)⟩
  rw [← ep6]
  obtain ⟨p7, ep7, lp7⟩ : ∃ x, x = patch p6 100 n0 ∧ x.length = 512 := ⟨_, rfl, step lp6 (by omega)⟩
  rw [← ep7]
  obtain ⟨p8, ep8, lp8⟩ : ∃ x, x = patch p7 108 n1 ∧ x.length = 512 := ⟨_, rfl, step lp7 (by omega)⟩
  rw [← ep8]
  obtain ⟨p9, ep9, lp9⟩ : ∃ x, x = patch p8 116 n2 ∧ x.length = 512 := ⟨_, rfl, step lp8 (by omega)⟩
  rw [← ep9]
  obtain ⟨p10, ep10, lp10⟩ : ∃ x, x = patch p9 124 n3 ∧ x.length = 512 := ⟨_, rfl, step lp9 (by omega)⟩
  rw [← ep10]
  obtain ⟨p11, ep11, lp11⟩ : ∃ x, x = patch p10 136 n4 ∧ x.length = 512 := ⟨_, rfl, step lp10 (by omega)⟩
  rw [← ep11]
  obtain ⟨p12, ep12, lp12⟩ : ∃ x, x = patch p11 329 n5 ∧ x.length = 512 := ⟨_, rfl, step lp11 (by omega)⟩
  rw [← ep12]
  obtain ⟨p13, ep13, lp13⟩ : ∃ x, x = patch p12 337 n6 ∧ x.length = 512 := ⟨_, rfl, step lp12 (by omega)⟩
  rw [← ep13]
  obtain ⟨p14, ep14, lp14⟩ : ∃ x, x = patch p13 156 [ki] ∧ x.length = 512 := ⟨_, rfl, step lp13 (by omega)⟩
  rw [← ep14]
  obtain ⟨p15, ep15, lp15⟩ : ∃ x, x = patch p14 263 [48] ∧ x.length = 512 := ⟨_, rfl, step lp14 (by omega)⟩
  rw [← ep15]
  obtain ⟨p16, ep16, lp16⟩ : ∃ x, x = patch p15 264 [48] ∧ x.length = 512 := ⟨_, rfl, step lp15 (by omega)⟩
  rw [← ep16]
  obtain ⟨q1, eq1, lq1⟩ : ∃ x, x = patch nought 0 r ∧ x.length = 512 := ⟨_, rfl, step hn (by omega)⟩
  rw [← eq1]
  obtain ⟨q2, eq2, lq2⟩ : ∃ x, x = patch q1 157 li ∧ x.length = 512 := ⟨_, rfl, step lq1 (by omega)⟩
  rw [← eq2]
  obtain ⟨q3, eq3, lq3⟩ : ∃ x, x = patch q2 257 lit8 ∧ x.length = 512 := ⟨_, rfl, step lq2 (by omega)⟩
  rw [← eq3]
  obtain ⟨q4, eq4, lq4⟩ : ∃ x, x = patch q3 265 us ∧ x.length = 512 := ⟨_, rfl, step lq3 (by omega)⟩
  rw [← eq4]
  obtain ⟨q5, eq5, lq5⟩ : ∃ x, x = patch q4 297 gr ∧ x.length = 512 := ⟨_, rfl, step lq4 (by omega)⟩
  rw [← eq5]
  obtain ⟨q6, eq6, lq6⟩ : ∃ x, x = patch q5 345 a ∧ x.length = 512 := ⟨_, rfl, step lq5 (by omega)⟩
  rw [← eq6]
  obtain ⟨q7, eq7, lq7⟩ : ∃ x, x = patch q6 156 [ki] ∧ x.length = 512 := ⟨_, rfl, step lq6 (by omega)⟩
  rw [← eq7]
  obtain ⟨q8, eq8, lq8⟩ : ∃ x, x = patch q7 100 n0 ∧ x.length = 512 := ⟨_, rfl, step lq7 (by omega)⟩
  rw [← eq8]
  obtain ⟨q9, eq9, lq9⟩ : ∃ x, x = patch q8 108 n1 ∧ x.length = 512 := ⟨_, rfl, step lq8 (by omega)⟩
  rw [← eq9]
  obtain ⟨q10, eq10, lq10⟩ : ∃ x, x = patch q9 116 n2 ∧ x.length = 512 := ⟨_, rfl, step lq9 (by omega)⟩
  rw [← eq10]
  obtain ⟨q11, eq11, lq11⟩ : ∃ x, x = patch q10 124 n3 ∧ x.length = 512 := ⟨_, rfl, step lq10 (by omega)⟩
  rw [← eq11]
  obtain ⟨q12, eq12, lq12⟩ : ∃ x, x = patch q11 136 n4 ∧ x.length = 512 := ⟨_, rfl, step lq11 (by omega)⟩
  rw [← eq12]
  obtain ⟨q13, eq13, lq13⟩ : ∃ x, x = patch q12 329 n5 ∧ x.length = 512 := ⟨_, rfl, step lq12 (by omega)⟩
  rw [← eq13]
  obtain ⟨q14, eq14, lq14⟩ : ∃ x, x = patch q13 337 n6 ∧ x.length = 512 := ⟨_, rfl, step lq13 (by omega)⟩
  rw [← eq14]
  have F0 : fld p16 0 100 = fld q14 0 100 := by
    have A : fld p16 0 100 = rz := by rw [ep16, fld_other (by omega) (by omega), ep15, fld_other (by omega) (by omega), ep14, fld_other (by omega) (by omega), ep13, fld_other (by omega) (by omega), ep12, fld_other (by omega) (by omega), ep11, fld_other (by omega) (by omega), ep10, fld_other (by omega) (by omega), ep9, fld_other (by omega) (by omega), ep8, fld_other (by omega) (by omega), ep7, fld_other (by omega) (by omega), ep6, fld_other (by omega) (by omega), ep5, fld_other (by omega) (by omega), ep4, fld_other (by omega) (by omega), ep3, fld_other (by omega) (by omega), ep2, fld_other (by omega) (by omega), ep1, fld_same hrz (by omega)]
    have B : fld q14 0 100 = rz := by rw [eq14, fld_other (by omega) (by omega), eq13, fld_other (by omega) (by omega), eq12, fld_other (by omega) (by omega), eq11, fld_other (by omega) (by omega), eq10, fld_other (by omega) (by omega), eq9, fld_other (by omega) (by omega), eq8, fld_other (by omega) (by omega), eq7, fld_other (by omega) (by omega), eq6, fld_other (by omega) (by omega), eq5, fld_other (by omega) (by omega), eq4, fld_other (by omega) (by omega), eq3, fld_other (by omega) (by omega), eq2, fld_other (by omega) (by omega), eq1, fld_txt (n := 100) (by omega) (by omega) (by rw [fld_nought 0 100 (by omega)]), hR]
    rw [A, B]
  have F1 : fld p16 100 8 = fld q14 100 8 := by
    have A : fld p16 100 8 = n0 := by rw [ep16, fld_other (by omega) (by omega), ep15, fld_other (by omega) (by omega), ep14, fld_other (by omega) (by omega), ep13, fld_other (by omega) (by omega), ep12, fld_other (by omega) (by omega), ep11, fld_other (by omega) (by omega), ep10, fld_other (by omega) (by omega), ep9, fld_other (by omega) (by omega), ep8, fld_other (by omega) (by omega), ep7, fld_same h0 (by omega)]
    have B : fld q14 100 8 = n0 := by rw [eq14, fld_other (by omega) (by omega), eq13, fld_other (by omega) (by omega), eq12, fld_other (by omega) (by omega), eq11, fld_other (by omega) (by omega), eq10, fld_other (by omega) (by omega), eq9, fld_other (by omega) (by omega), eq8, fld_same h0 (by omega)]
    rw [A, B]
  have F2 : fld p16 108 8 = fld q14 108 8 := by
    have A : fld p16 108 8 = n1 := by rw [ep16, fld_other (by omega) (by omega), ep15, fld_other (by omega) (by omega), ep14, fld_other (by omega) (by omega), ep13, fld_other (by omega) (by omega), ep12, fld_other (by omega) (by omega), ep11, fld_other (by omega) (by omega), ep10, fld_other (by omega) (by omega), ep9, fld_other (by omega) (by omega), ep8, fld_same h1 (by omega)]
    have B : fld q14 108 8 = n1 := by rw [eq14, fld_other (by omega) (by omega), eq13, fld_other (by omega) (by omega), eq12, fld_other (by omega) (by omega), eq11, fld_other (by omega) (by omega), eq10, fld_other (by omega) (by omega), eq9, fld_same h1 (by omega)]
    rw [A, B]
  have F3 : fld p16 116 8 = fld q14 116 8 := by
    have A : fld p16 116 8 = n2 := by rw [ep16, fld_other (by omega) (by omega), ep15, fld_other (by omega) (by omega), ep14, fld_other (by omega) (by omega), ep13, fld_other (by omega) (by omega), ep12, fld_other (by omega) (by omega), ep11, fld_other (by omega) (by omega), ep10, fld_other (by omega) (by omega), ep9, fld_same h2 (by omega)]
    have B : fld q14 116 8 = n2 := by rw [eq14, fld_other (by omega) (by omega), eq13, fld_other (by omega) (by omega), eq12, fld_other (by omega) (by omega), eq11, fld_other (by omega) (by omega), eq10, fld_same h2 (by omega)]
    rw [A, B]
  have F4 : fld p16 124 12 = fld q14 124 12 := by
    have A : fld p16 124 12 = n3 := by rw [ep16, fld_other (by omega) (by omega), ep15, fld_other (by omega) (by omega), ep14, fld_other (by omega) (by omega), ep13, fld_other (by omega) (by omega), ep12, fld_other (by omega) (by omega), ep11, fld_other (by omega) (by omega), ep10, fld_same h3 (by omega)]
    have B : fld q14 124 12 = n3 := by rw [eq14, fld_other (by omega) (by omega), eq13, fld_other (by omega) (by omega), eq12, fld_other (by omega) (by omega), eq11, fld_same h3 (by omega)]
    rw [A, B]
  have F5 : fld p16 136 12 = fld q14 136 12 := by
    have A : fld p16 136 12 = n4 := by rw [ep16, fld_other (by omega) (by omega), ep15, fld_other (by omega) (by omega), ep14, fld_other (by omega) (by omega), ep13, fld_other (by omega) (by omega), ep12, fld_other (by omega) (by omega), ep11, fld_same h4 (by omega)]
    have B : fld q14 136 12 = n4 := by rw [eq14, fld_other (by omega) (by omega), eq13, fld_other (by omega) (by omega), eq12, fld_same h4 (by omega)]
    rw [A, B]
  have F6 : fld p16 148 8 = fld q14 148 8 := by
    have A : fld p16 148 8 = List.replicate 8 0 := by rw [ep16, fld_other (by omega) (by omega), ep15, fld_other (by omega) (by omega), ep14, fld_other (by omega) (by omega), ep13, fld_other (by omega) (by omega), ep12, fld_other (by omega) (by omega), ep11, fld_other (by omega) (by omega), ep10, fld_other (by omega) (by omega), ep9, fld_other (by omega) (by omega), ep8, fld_other (by omega) (by omega), ep7, fld_other (by omega) (by omega), ep6, fld_other (by omega) (by omega), ep5, fld_other (by omega) (by omega), ep4, fld_other (by omega) (by omega), ep3, fld_other (by omega) (by omega), ep2, fld_other (by omega) (by omega), ep1, fld_other (by omega) (by omega), fld_nought 148 8 (by omega)]
    have B : fld q14 148 8 = List.replicate 8 0 := by rw [eq14, fld_other (by omega) (by omega), eq13, fld_other (by omega) (by omega), eq12, fld_other (by omega) (by omega), eq11, fld_other (by omega) (by omega), eq10, fld_other (by omega) (by omega), eq9, fld_other (by omega) (by omega), eq8, fld_other (by omega) (by omega), eq7, fld_other (by omega) (by omega), eq6, fld_other (by omega) (by omega), eq5, fld_other (by omega) (by omega), eq4, fld_other (by omega) (by omega), eq3, fld_other (by omega) (by omega), eq2, fld_other (by omega) (by omega), eq1, fld_other (by omega) (by omega), fld_nought 148 8 (by omega)]
    rw [A, B]
  have F7 : fld p16 156 1 = fld q14 156 1 := by
    have A : fld p16 156 1 = [ki] := by rw [ep16, fld_other (by omega) (by omega), ep15, fld_other (by omega) (by omega), ep14, fld_same hk1 (by omega)]
    have B : fld q14 156 1 = [ki] := by rw [eq14, fld_other (by omega) (by omega), eq13, fld_other (by omega) (by omega), eq12, fld_other (by omega) (by omega), eq11, fld_other (by omega) (by omega), eq10, fld_other (by omega) (by omega), eq9, fld_other (by omega) (by omega), eq8, fld_other (by omega) (by omega), eq7, fld_same hk1 (by omega)]
    rw [A, B]
  have F8 : fld p16 157 100 = fld q14 157 100 := by
    have A : fld p16 157 100 = lz := by rw [ep16, fld_other (by omega) (by omega), ep15, fld_other (by omega) (by omega), ep14, fld_other (by omega) (by omega), ep13, fld_other (by omega) (by omega), ep12, fld_other (by omega) (by omega), ep11, fld_other (by omega) (by omega), ep10, fld_other (by omega) (by omega), ep9, fld_other (by omega) (by omega), ep8, fld_other (by omega) (by omega), ep7, fld_other (by omega) (by omega), ep6, fld_other (by omega) (by omega), ep5, fld_other (by omega) (by omega), ep4, fld_other (by omega) (by omega), ep3, fld_other (by omega) (by omega), ep2, fld_same hlz (by omega)]
    have B : fld q14 157 100 = lz := by rw [eq14, fld_other (by omega) (by omega), eq13, fld_other (by omega) (by omega), eq12, fld_other (by omega) (by omega), eq11, fld_other (by omega) (by omega), eq10, fld_other (by omega) (by omega), eq9, fld_other (by omega) (by omega), eq8, fld_other (by omega) (by omega), eq7, fld_other (by omega) (by omega), eq6, fld_other (by omega) (by omega), eq5, fld_other (by omega) (by omega), eq4, fld_other (by omega) (by omega), eq3, fld_other (by omega) (by omega), eq2, fld_txt (n := 100) (by omega) (by omega) (by rw [eq1, fld_other (by omega) (by omega), fld_nought 157 100 (by omega)]), hL]
    rw [A, B]
  have F9 : fld p16 257 6 = fld q14 257 6 := by
    have A : fld p16 257 6 = lit6 := by rw [ep16, fld_other (by omega) (by omega), ep15, fld_other (by omega) (by omega), ep14, fld_other (by omega) (by omega), ep13, fld_other (by omega) (by omega), ep12, fld_other (by omega) (by omega), ep11, fld_other (by omega) (by omega), ep10, fld_other (by omega) (by omega), ep9, fld_other (by omega) (by omega), ep8, fld_other (by omega) (by omega), ep7, fld_other (by omega) (by omega), ep6, fld_other (by omega) (by omega), ep5, fld_other (by omega) (by omega), ep4, fld_other (by omega) (by omega), ep3, fld_same hlit6 (by omega)]
    have B : fld q14 257 6 = (lit8.drop (257 - 257)).take 6 := by rw [eq14, fld_other (by omega) (by omega), eq13, fld_other (by omega) (by omega), eq12, fld_other (by omega) (by omega), eq11, fld_other (by omega) (by omega), eq10, fld_other (by omega) (by omega), eq9, fld_other (by omega) (by omega), eq8, fld_other (by omega) (by omega), eq7, fld_other (by omega) (by omega), eq6, fld_other (by omega) (by omega), eq5, fld_other (by omega) (by omega), eq4, fld_other (by omega) (by omega), eq3, fld_in (by omega) (by omega) (by omega)]
    rw [A, B]; subst hl6 hl8; rfl
  have F10 : fld p16 263 1 = fld q14 263 1 := by
    have A : fld p16 263 1 = [48] := by rw [ep16, fld_other (by omega) (by omega), ep15, fld_same h48 (by omega)]
    have B : fld q14 263 1 = (lit8.drop (263 - 257)).take 1 := by rw [eq14, fld_other (by omega) (by omega), eq13, fld_other (by omega) (by omega), eq12, fld_other (by omega) (by omega), eq11, fld_other (by omega) (by omega), eq10, fld_other (by omega) (by omega), eq9, fld_other (by omega) (by omega), eq8, fld_other (by omega) (by omega), eq7, fld_other (by omega) (by omega), eq6, fld_other (by omega) (by omega), eq5, fld_other (by omega) (by omega), eq4, fld_other (by omega) (by omega), eq3, fld_in (by omega) (by omega) (by omega)]
    rw [A, B]; subst hl6 hl8; rfl
  have F11 : fld p16 264 1 = fld q14 264 1 := by
    have A : fld p16 264 1 = [48] := by rw [ep16, fld_same h48 (by omega)]
    have B : fld q14 264 1 = (lit8.drop (264 - 257)).take 1 := by rw [eq14, fld_other (by omega) (by omega), eq13, fld_other (by omega) (by omega), eq12, fld_other (by omega) (by omega), eq11, fld_other (by omega) (by omega), eq10, fld_other (by omega) (by omega), eq9, fld_other (by omega) (by omega), eq8, fld_other (by omega) (by omega), eq7, fld_other (by omega) (by omega), eq6, fld_other (by omega) (by omega), eq5, fld_other (by omega) (by omega), eq4, fld_other (by omega) (by omega), eq3, fld_in (by omega) (by omega) (by omega)]
    rw [A, B]; subst hl6 hl8; rfl
  have F12 : fld p16 265 32 = fld q14 265 32 := by
    have A : fld p16 265 32 = uz := by rw [ep16, fld_other (by omega) (by omega), ep15, fld_other (by omega) (by omega), ep14, fld_other (by omega) (by omega), ep13, fld_other (by omega) (by omega), ep12, fld_other (by omega) (by omega), ep11, fld_other (by omega) (by omega), ep10, fld_other (by omega) (by omega), ep9, fld_other (by omega) (by omega), ep8, fld_other (by omega) (by omega), ep7, fld_other (by omega) (by omega), ep6, fld_other (by omega) (by omega), ep5, fld_other (by omega) (by omega), ep4, fld_same huz (by omega)]
    have B : fld q14 265 32 = uz := by rw [eq14, fld_other (by omega) (by omega), eq13, fld_other (by omega) (by omega), eq12, fld_other (by omega) (by omega), eq11, fld_other (by omega) (by omega), eq10, fld_other (by omega) (by omega), eq9, fld_other (by omega) (by omega), eq8, fld_other (by omega) (by omega), eq7, fld_other (by omega) (by omega), eq6, fld_other (by omega) (by omega), eq5, fld_other (by omega) (by omega), eq4, fld_txt (n := 32) (by omega) (by omega) (by rw [eq3, fld_other (by omega) (by omega), eq2, fld_other (by omega) (by omega), eq1, fld_other (by omega) (by omega), fld_nought 265 32 (by omega)]), hU]
    rw [A, B]
  have F13 : fld p16 297 32 = fld q14 297 32 := by
    have A : fld p16 297 32 = gz := by rw [ep16, fld_other (by omega) (by omega), ep15, fld_other (by omega) (by omega), ep14, fld_other (by omega) (by omega), ep13, fld_other (by omega) (by omega), ep12, fld_other (by omega) (by omega), ep11, fld_other (by omega) (by omega), ep10, fld_other (by omega) (by omega), ep9, fld_other (by omega) (by omega), ep8, fld_other (by omega) (by omega), ep7, fld_other (by omega) (by omega), ep6, fld_other (by omega) (by omega), ep5, fld_same hgz (by omega)]
    have B : fld q14 297 32 = gz := by rw [eq14, fld_other (by omega) (by omega), eq13, fld_other (by omega) (by omega), eq12, fld_other (by omega) (by omega), eq11, fld_other (by omega) (by omega), eq10, fld_other (by omega) (by omega), eq9, fld_other (by omega) (by omega), eq8, fld_other (by omega) (by omega), eq7, fld_other (by omega) (by omega), eq6, fld_other (by omega) (by omega), eq5, fld_txt (n := 32) (by omega) (by omega) (by rw [eq4, fld_other (by omega) (by omega), eq3, fld_other (by omega) (by omega), eq2, fld_other (by omega) (by omega), eq1, fld_other (by omega) (by omega), fld_nought 297 32 (by omega)]), hG]
    rw [A, B]
  have F14 : fld p16 329 8 = fld q14 329 8 := by
    have A : fld p16 329 8 = n5 := by rw [ep16, fld_other (by omega) (by omega), ep15, fld_other (by omega) (by omega), ep14, fld_other (by omega) (by omega), ep13, fld_other (by omega) (by omega), ep12, fld_same h5 (by omega)]
    have B : fld q14 329 8 = n5 := by rw [eq14, fld_other (by omega) (by omega), eq13, fld_same h5 (by omega)]
    rw [A, B]
  have F15 : fld p16 337 8 = fld q14 337 8 := by
    have A : fld p16 337 8 = n6 := by rw [ep16, fld_other (by omega) (by omega), ep15, fld_other (by omega) (by omega), ep14, fld_other (by omega) (by omega), ep13, fld_same h6 (by omega)]
    have B : fld q14 337 8 = n6 := by rw [eq14, fld_same h6 (by omega)]
    rw [A, B]
  have F16 : fld p16 345 155 = fld q14 345 155 := by
    have A : fld p16 345 155 = az := by rw [ep16, fld_other (by omega) (by omega), ep15, fld_other (by omega) (by omega), ep14, fld_other (by omega) (by omega), ep13, fld_other (by omega) (by omega), ep12, fld_other (by omega) (by omega), ep11, fld_other (by omega) (by omega), ep10, fld_other (by omega) (by omega), ep9, fld_other (by omega) (by omega), ep8, fld_other (by omega) (by omega), ep7, fld_other (by omega) (by omega), ep6, fld_same haz (by omega)]
    have B : fld q14 345 155 = az := by rw [eq14, fld_other (by omega) (by omega), eq13, fld_other (by omega) (by omega), eq12, fld_other (by omega) (by omega), eq11, fld_other (by omega) (by omega), eq10, fld_other (by omega) (by omega), eq9, fld_other (by omega) (by omega), eq8, fld_other (by omega) (by omega), eq7, fld_other (by omega) (by omega), eq6, fld_txt (n := 155) (by omega) (by omega) (by rw [eq5, fld_other (by omega) (by omega), eq4, fld_other (by omega) (by omega), eq3, fld_other (by omega) (by omega), eq2, fld_other (by omega) (by omega), eq1, fld_other (by omega) (by omega), fld_nought 345 155 (by omega)]), hA]
    rw [A, B]
  have F17 : fld p16 500 12 = fld q14 500 12 := by
    have A : fld p16 500 12 = List.replicate 12 0 := by rw [ep16, fld_other (by omega) (by omega), ep15, fld_other (by omega) (by omega), ep14, fld_other (by omega) (by omega), ep13, fld_other (by omega) (by omega), ep12, fld_other (by omega) (by omega), ep11, fld_other (by omega) (by omega), ep10, fld_other (by omega) (by omega), ep9, fld_other (by omega) (by omega), ep8, fld_other (by omega) (by omega), ep7, fld_other (by omega) (by omega), ep6, fld_other (by omega) (by omega), ep5, fld_other (by omega) (by omega), ep4, fld_other (by omega) (by omega), ep3, fld_other (by omega) (by omega), ep2, fld_other (by omega) (by omega), ep1, fld_other (by omega) (by omega), fld_nought 500 12 (by omega)]
    have B : fld q14 500 12 = List.replicate 12 0 := by rw [eq14, fld_other (by omega) (by omega), eq13, fld_other (by omega) (by omega), eq12, fld_other (by omega) (by omega), eq11, fld_other (by omega) (by omega), eq10, fld_other (by omega) (by omega), eq9, fld_other (by omega) (by omega), eq8, fld_other (by omega) (by omega), eq7, fld_other (by omega) (by omega), eq6, fld_other (by omega) (by omega), eq5, fld_other (by omega) (by omega), eq4, fld_other (by omega) (by omega), eq3, fld_other (by omega) (by omega), eq2, fld_other (by omega) (by omega), eq1, fld_other (by omega) (by omega), fld_nought 500 12 (by omega)]
    rw [A, B]
  have hd := eq_flds (l := p16) (m := q14) cutSizes 0 (by rw [lp16, lq14]) (by rw [lp16]; rfl) (fun k hk => by
    match k, hk with
    | 0, _ => exact F0
    | 1, _ => exact F1
    | 2, _ => exact F2
    | 3, _ => exact F3
    | 4, _ => exact F4
    | 5, _ => exact F5
    | 6, _ => exact F6
    | 7, _ => exact F7
    | 8, _ => exact F8
    | 9, _ => exact F9
    | 10, _ => exact F10
    | 11, _ => exact F11
    | 12, _ => exact F12
    | 13, _ => exact F13
    | 14, _ => exact F14
    | 15, _ => exact F15
    | 16, _ => exact F16
    | 17, _ => exact F17
    | k + 18, hk => exact absurd hk (by simp [cutSizes]))
  rwa [List.drop_zero, List.drop_zero] at hd
end Go.Proofs.YtiioiikcjaiajaaDoor.My

/- A struct of 12 one-cell fields by value, opened (printed by agg.py). -/
namespace Go.Proofs.YtiioiikcjaiajaaDoor.My
open Go.ChangeShapes Go.WideShapes Go.RowKit Go.Deep Go.WideElems Go.Maps Go.Joins
set_option linter.unusedVariables false
set_option linter.unusedSimpArgs false
set_option maxHeartbeats 4000000
variable {H : Type} {enc : TypeId × Value → H} {P : Program} {w : World} {base : Nat} {spare : Nat → Bool} {held : Bool}
theorem array12 {α : Type} {cs : Array α} (h : cs.size = 12) : ∃ c0 c1 c2 c3 c4 c5 c6 c7 c8 c9 c10 c11, cs = #[c0, c1, c2, c3, c4, c5, c6, c7, c8, c9, c10, c11] := by
  obtain ⟨l⟩ := cs
  match l, h with
  | [c0, c1, c2, c3, c4, c5, c6, c7, c8, c9, c10, c11], _ => exact ⟨c0, c1, c2, c3, c4, c5, c6, c7, c8, c9, c10, c11, rfl⟩
theorem list12 {α : Type} {l : List α} (h : l.length = 12) : ∃ c0 c1 c2 c3 c4 c5 c6 c7 c8 c9 c10 c11, l = [c0, c1, c2, c3, c4, c5, c6, c7, c8, c9, c10, c11] := by
  match l, h with
  | [c0, c1, c2, c3, c4, c5, c6, c7, c8, c9, c10, c11], _ => exact ⟨c0, c1, c2, c3, c4, c5, c6, c7, c8, c9, c10, c11, rfl⟩
theorem open_agg12 {r : Reach} {b0 : Nat} {t : TypeId} {f0 f1 f2 f3 f4 f5 f6 f7 f8 f9 f10 f11 : Field} {v : Value} {d : DataW H} {p : List MemPlace} (hs : P.underlying t = some (.struct #[f0, f1, f2, f3, f4, f5, f6, f7, f8, f9, f10, f11])) (hone : oneCellFields P #[f0, f1, f2, f3, f4, f5, f6, f7, f8, f9, f10, f11] = true) (hC : P.cellsOf t = 12)
    (hv : Value.okWide P w r b0 t v) (h : DataW.Trod enc P w base spare held t v d p) :
    ∃ (v0 v1 v2 v3 v4 v5 v6 v7 v8 v9 v10 v11 : Value) (y0 y1 y2 y3 y4 y5 y6 y7 y8 y9 y10 y11 : DataW H × List MemPlace) (n : Nat), v = .agg #[v0, v1, v2, v3, v4, v5, v6, v7, v8, v9, v10, v11] ∧ d = .agg [y0.1, y1.1, y2.1, y3.1, y4.1, y5.1, y6.1, y7.1, y8.1, y9.1, y10.1, y11.1] ∧ p = y0.2 ++ (y1.2 ++ (y2.2 ++ (y3.2 ++ (y4.2 ++ (y5.2 ++ (y6.2 ++ (y7.2 ++ (y8.2 ++ (y9.2 ++ (y10.2 ++ y11.2)))))))))) ∧
      DataW.trod enc P w base spare held n f0.type [v0] = some y0 ∧ DataW.trod enc P w base spare held n f1.type [v1] = some y1 ∧ DataW.trod enc P w base spare held n f2.type [v2] = some y2 ∧ DataW.trod enc P w base spare held n f3.type [v3] = some y3 ∧ DataW.trod enc P w base spare held n f4.type [v4] = some y4 ∧ DataW.trod enc P w base spare held n f5.type [v5] = some y5 ∧ DataW.trod enc P w base spare held n f6.type [v6] = some y6 ∧ DataW.trod enc P w base spare held n f7.type [v7] = some y7 ∧ DataW.trod enc P w base spare held n f8.type [v8] = some y8 ∧ DataW.trod enc P w base spare held n f9.type [v9] = some y9 ∧ DataW.trod enc P w base spare held n f10.type [v10] = some y10 ∧ DataW.trod enc P w base spare held n f11.type [v11] = some y11 := by
  obtain ⟨cs, rfl, hsz⟩ := okWide_struct hs hv
  obtain ⟨c0, c1, c2, c3, c4, c5, c6, c7, c8, c9, c10, c11, rfl⟩ := array12 (hsz.trans hC)
  obtain ⟨fuel, hf⟩ := h
  obtain ⟨xs, n, _, hx, _, hlen, hfs⟩ := DataW.trod_struct hs hf
  obtain ⟨y0, y1, y2, y3, y4, y5, y6, y7, y8, y9, y10, y11, rfl⟩ := list12 hlen
  simp only [Prod.mk.injEq] at hx
  obtain ⟨o0, k0⟩ := hone_of hone 0 f0 rfl
  have h0 := hfs 0 f0 rfl
  obtain ⟨o1, k1⟩ := hone_of hone 1 f1 rfl
  have h1 := hfs 1 f1 rfl
  obtain ⟨o2, k2⟩ := hone_of hone 2 f2 rfl
  have h2 := hfs 2 f2 rfl
  obtain ⟨o3, k3⟩ := hone_of hone 3 f3 rfl
  have h3 := hfs 3 f3 rfl
  obtain ⟨o4, k4⟩ := hone_of hone 4 f4 rfl
  have h4 := hfs 4 f4 rfl
  obtain ⟨o5, k5⟩ := hone_of hone 5 f5 rfl
  have h5 := hfs 5 f5 rfl
  obtain ⟨o6, k6⟩ := hone_of hone 6 f6 rfl
  have h6 := hfs 6 f6 rfl
  obtain ⟨o7, k7⟩ := hone_of hone 7 f7 rfl
  have h7 := hfs 7 f7 rfl
  obtain ⟨o8, k8⟩ := hone_of hone 8 f8 rfl
  have h8 := hfs 8 f8 rfl
  obtain ⟨o9, k9⟩ := hone_of hone 9 f9 rfl
  have h9 := hfs 9 f9 rfl
  obtain ⟨o10, k10⟩ := hone_of hone 10 f10 rfl
  have h10 := hfs 10 f10 rfl
  obtain ⟨o11, k11⟩ := hone_of hone 11 f11 rfl
  have h11 := hfs 11 f11 rfl
  exact ⟨c0, c1, c2, c3, c4, c5, c6, c7, c8, c9, c10, c11, y0, y1, y2, y3, y4, y5, y6, y7, y8, y9, y10, y11, n, rfl, by simpa using hx.1, by simpa using hx.2, by simpa [Value.cells, o0, k0] using h0, by simpa [Value.cells, o1, k1] using h1, by simpa [Value.cells, o2, k2] using h2, by simpa [Value.cells, o3, k3] using h3, by simpa [Value.cells, o4, k4] using h4, by simpa [Value.cells, o5, k5] using h5, by simpa [Value.cells, o6, k6] using h6, by simpa [Value.cells, o7, k7] using h7, by simpa [Value.cells, o8, k8] using h8, by simpa [Value.cells, o9, k9] using h9, by simpa [Value.cells, o10, k10] using h10, by simpa [Value.cells, o11, k11] using h11⟩
end Go.Proofs.YtiioiikcjaiajaaDoor.My

/- The walk of crossdocknum's Num. -/
set_option maxRecDepth 100000
namespace Go.Proofs.YtiioiikcjaiajaaDoor.My
open Go.RowKit Go.Proofs.YtiioiikcjaiajaaDoorW.PrintWords Go.Proofs.YtiioiikcjaiajaaDoorW.PrintLast Go.Proofs.YtiioiikcjaiajaaDoorW.PrintMore

def numE : Option Int → Int
  | none => 0
  | some c => c
theorem num_calls (e : Option Int) (w : World) (h : ∀ c, e = some c → c ≠ 0) : Calls Tryd.prog 11 #[errV e] w fun r w' => r = .returned (.int .i64 (numE e)) ∧ w = w' := by
  cases e with
  | none =>
    show Calls Tryd.prog 11 #[.nilIface] w _
    go_enter Tryd.func11, Tryd.ntmps11
    go_wp2
    go_ret
    exact ⟨rfl, rfl⟩
  | some c =>
    have h1 : (c == 0) = false := beq_eq_false_iff_ne.2 (h c rfl)
    have h2 : (c != 0) = true := bne_iff_ne.2 (h c rfl)
    have hta : ∀ (v : Value) (W : World), (Instr.typeAssert (.iface 42 v) 28 42 true).run Tryd.prog W = .ok (.tuple #[v, .bool true]) W := fun v W => by rfl
    clear h
    show Calls Tryd.prog 11 #[.iface 42 (.int .i64 c)] w _
    have u1 := Tryd.underlying28
    have u2 := Tryd.underlying42
    go_enter Tryd.func11, Tryd.ntmps11
    go_wp2
    go_ret
    exact ⟨rfl, rfl⟩
end Go.Proofs.YtiioiikcjaiajaaDoor.My

/- A world in which package head's fields and utf8's two tables hold what they are set to. -/
namespace Go.Proofs.YtiioiikcjaiajaaDoor.My
open Go.RowKit
noncomputable def laidWorld (os : Os) : World :=
  let w0 := World.holding Tryd.prog os ⟨#[], #[], []⟩
  let put (h : Array Obj) (g : Nat) (cs : Array Value) : Array Obj := h.modify g fun
    | .cells _ t frozen => .cells cs t frozen
    | o => o
  let two (h : Array Obj) (g : Nat) (a b : Int) : Array Obj := put h g #[.int .i64 a, .int .i64 b]
  let h1 := two (two (two (two (two (two (two w0.heap 0 0 100) 1 157 100) 2 257 6) 3 265 32) 4 297 32) 5 345 155) 6 148 8
  let h2 := two (two (two (two (two (two (two h1 7 100 8) 8 108 8) 9 116 8) 10 124 12) 11 136 12) 12 329 8) 13 337 8
  let h3 := put h2 15 (Go.Pinned.utf8FirstZ.map fun (z : Nat) => Value.int .u8 (z : Int)).toArray
  let h4 := put h3 16 ((([128, 191, 160, 191, 128, 159, 144, 191, 128, 143] ++ List.replicate 22 0) : List Int).map fun (z : Int) => Value.int .u8 z).toArray
  { w0 with heap := h4 }
end Go.Proofs.YtiioiikcjaiajaaDoor.My

/- HeadPuts: any head's bytes, and which names fit. The example, and the law's walk. -/
set_option maxRecDepth 100000
namespace Go.Proofs.YtiioiikcjaiajaaDoor.My
open Go.RowKit Go.Proofs.YtiioiikcjaiajaaDoor.Hd Go.Proofs.YtiioiikcjaiajaaDoor.Oct Go.Proofs.YtiioiikcjaiajaaDoor.PHeadPuts Go.Proofs.YtiioiikcjaiajaaDoor.MyDocA Go.Proofs.YtiioiikcjaiajaaDoor.MyDocFits Go.Proofs.YtiioiikcjaiajaaDoorW.PrintWords Go.Proofs.YtiioiikcjaiajaaDoorW.PrintLast Go.Proofs.YtiioiikcjaiajaaDoorW.PrintMore
set_option linter.unusedVariables false
set_option linter.unusedSimpArgs false

theorem txt_eq (s : ByteArray) (n : Nat) : txt s n = bs s ++ List.replicate (n - (bs s).length) 0 := by unfold txt; rw [bs_len]
theorem body_doc (h : Hd) (hS : Small h) (hE : headE h = none) : body h = putN h 7 (docT h) := by
  obtain ⟨_, hc, h1, h2, h3, _⟩ := headE_none hE
  obtain ⟨c1, c2⟩ := cut_sizes hc
  have hl : (putN h 7 (putT h 6 nought)).length = 512 := putN_len h _ (putT_len h (fun i => (text_ok h hS hE i).1) nought (by unfold nought; rw [List.length_replicate]) 6) 7
  have hl6 : (patch (patch (patch (patch (patch (patch nought 0 (bs (rest h.nm))) 157 (bs h.li)) 257 [117, 115, 116, 97, 114, 0, 48, 48]) 265 (bs h.us)) 297 (bs h.gr)) 345 (bs (aheadOf h.nm))).length = 512 := by
    have k1 := bs_len (rest h.nm)
    have k2 := bs_len h.li
    have k3 := bs_len h.us
    have k4 := bs_len h.gr
    have k5 := bs_len (aheadOf h.nm)
    have e0 : nought.length = 512 := by unfold nought; rw [List.length_replicate]
    have e1 : (patch nought 0 (bs (rest h.nm))).length = 512 := by rw [patch_length (by omega), e0]
    have e2 : (patch (patch nought 0 (bs (rest h.nm))) 157 (bs h.li)).length = 512 := by rw [patch_length (by omega), e1]
    have e3 : (patch (patch (patch nought 0 (bs (rest h.nm))) 157 (bs h.li)) 257 [117, 115, 116, 97, 114, 0, 48, 48]).length = 512 := by rw [patch_length (by rw [e2]; decide), e2]
    have e4 : (patch (patch (patch (patch nought 0 (bs (rest h.nm))) 157 (bs h.li)) 257 [117, 115, 116, 97, 114, 0, 48, 48]) 265 (bs h.us)).length = 512 := by rw [patch_length (by omega), e3]
    have e5 : (patch (patch (patch (patch (patch nought 0 (bs (rest h.nm))) 157 (bs h.li)) 257 [117, 115, 116, 97, 114, 0, 48, 48]) 265 (bs h.us)) 297 (bs h.gr)).length = 512 := by rw [patch_length (by omega), e4]
    rw [patch_length (by omega), e5]
  have hb := bodies (bs (rest h.nm)) (bs h.li) (bs h.us) (bs h.gr) (bs (aheadOf h.nm)) (putB 8 h.mo) (putB 8 h.ui) (putB 8 h.gi) (putB 12 h.si) (putB 12 h.ti) (putB 8 h.ma) (putB 8 h.mi) h.ki
    (by rw [bs_len]; omega) (by rw [bs_len]; omega) (by rw [bs_len]; omega) (by rw [bs_len]; omega) (by rw [bs_len]; omega)
    (putB_length 8 _ (by decide)) (putB_length 8 _ (by decide)) (putB_length 8 _ (by decide)) (putB_length 12 _ (by decide)) (putB_length 12 _ (by decide)) (putB_length 8 _ (by decide)) (putB_length 8 _ (by decide))
  rw [← txt_eq, ← txt_eq, ← txt_eq, ← txt_eq, ← txt_eq] at hb
  unfold body docT
  rw [set_patch (i := 264) 48 (by rw [List.length_set, List.length_set, hl]; decide), set_patch (i := 263) 48 (by rw [List.length_set, hl]; decide), set_patch (i := 156) h.ki (by rw [hl]; decide), set_patch (i := 156) h.ki (by rw [hl6]; decide)]
  have hu : txt ustar 6 = [117, 115, 116, 97, 114, 0] := by decide +kernel
  rw [← hu] at hb
  exact hb
theorem doc_head (h : Hd) (hS : Small h) (hE : headE h = none) : docB h = headB h := by
  have hl := body_len h hS hE
  have hp := putB_length 7 (sumH (body h)) (by decide)
  unfold docB headB
  rw [← body_doc h hS hE]
  apply List.ext_getElem?
  intro i
  have hl2 : (patch (body h) 148 (putB 7 (sumH (body h)))).length = 512 := by rw [patch_length (by rw [hp, hl]; decide), hl]
  rw [List.getElem?_set, hl2, patch_get (l := body h) (by rw [hp, hl]; decide), patch_get (l := (body h).set 155 32) (by rw [hp, List.length_set, hl]; decide), List.getElem?_set, hl, hp]
  by_cases e : 155 = i
  · subst e
    simp
  · rw [if_neg e, if_neg e]

def rep (c : UInt8) (n : Nat) : ByteArray := ⟨Array.replicate n c⟩
theorem rep_succ (c : UInt8) (n : Nat) : rep c n ++ ⟨#[c]⟩ = rep c (n + 1) := by
  unfold rep
  rw [Array.replicate_succ]
  apply ByteArray.ext
  simp
/-- The chapter's example. -/
def exH : Hd := { zero with nm := (rep 97 60 ++ ⟨#[47]⟩) ++ rep 98 60 }
theorem ex_ok : headE exH = none := by decide +kernel
theorem ex_small : Small exH := ⟨by decide +kernel, by decide, by decide, by decide, fun i => by
  have : exH.num i = 0 := by
    match i with
    | 0 => rfl
    | 1 => rfl
    | 2 => rfl
    | 3 => rfl
    | 4 => rfl
    | 5 => rfl
    | i + 6 => rfl
  rw [this]
  decide, by decide⟩
theorem ex_bytes : fld (headB exH) 0 60 = List.replicate 60 98 ∧ (headB exH).getD 60 0 = 0 ∧ fld (headB exH) 345 60 = List.replicate 60 97 ∧ (headB exH).length = 512 := by decide +kernel
theorem cut_at (g a b : Nat) (h1 : a ≤ b) (h2 : b ≤ 512) (h3 : a < 512) (W : World) : (Instr.slice 26 (.slice (some ⟨g, 0, none⟩) 512 512) (some (.int .i64 a)) (some (.int .i64 b)) none).run Tryd.prog W = .ok (.slice (some ⟨g, a, none⟩) (b - a) (512 - a)) W := by
  obtain ⟨i0, hi, hz⟩ := Option.map_eq_some_iff.1 info_u8
  simp only [Prod.mk.injEq] at hz
  have hel : Tryd.prog.elem 26 = 5 := by simp [Program.elem, Tryd.underlying26]
  have hu : Tryd.prog.underlying 26 = some (.slice (Tryd.prog.elem 26)) := by rw [hel]; exact Tryd.underlying26
  rw [run_slice_lh W 26 (some ⟨g, 0, none⟩) 512 512 hu .i64 .i64 a b (by omega) (by omega) (by omega), hel]
  have e : ¬ (512 = a) := by omega
  simp [sizeOf, typeInfo, hi, hz.2.1, sliced, Result.andThen, add_at, e]
theorem cut_to (g b : Nat) (h2 : b ≤ 512) (W : World) : (Instr.slice 26 (.slice (some ⟨g, 0, none⟩) 512 512) none (some (.int .i64 b)) none).run Tryd.prog W = .ok (.slice (some ⟨g, 0, none⟩) b 512) W := by
  obtain ⟨i0, hi, hz⟩ := Option.map_eq_some_iff.1 info_u8
  simp only [Prod.mk.injEq] at hz
  obtain ⟨b1, _, _⟩ := print_take_of (P := Tryd.prog) (Value.int .u8) 0 26 5 .i64 Tryd.underlying26 hi hz.2.1 (some ⟨g, 0, none⟩) 512 (List.replicate 512 (0 : Int)) b (by omega) (by rw [List.length_replicate]; omega) (by rw [List.length_replicate]; omega)
  have := b1 W
  rw [List.length_replicate, List.length_take, List.length_replicate, show min ((b : Int).toNat) 512 = b by rw [Int.toNat_natCast]; omega] at this
  exact this
theorem str_rep (c : UInt8) (n : Nat) : strOfNums (List.replicate n (c.toNat : Int)) = rep c n := by
  unfold strOfNums rep
  rw [List.map_replicate]
  simp
theorem alive_calls (w : World) (hg : Gl w) : Calls Tryd.prog 7 #[] w fun e w' => e = .returned (.bool true) ∧ Below w.heap.size w w' := by
  have HP : Aside0 (Calls Tryd.prog 9 #[.agg (hv exH)] w fun e w' => ∃ gB, e = .returned (.tuple #[.slice (some ⟨gB, 0, none⟩) 512 512, .nilIface]) ∧ Row w' gB (headB exH) ∧ w.heap.size ≤ gB ∧ Below w.heap.size w w') := ⟨putH_yes exH ex_small w hg ex_ok⟩
  have hv0 : hv exH = #[.string ((rep 97 60 ++ ⟨#[47]⟩) ++ rep 98 60), .int .i64 0, .int .i64 0, .int .i64 0, .int .i64 0, .int .i64 0, .int .u8 0, .string ⟨#[]⟩, .string ⟨#[]⟩, .string ⟨#[]⟩, .int .i64 0, .int .i64 0] := rfl
  rw [hv0] at HP
  have HRep : Aside0 (∀ n, rep 97 n ++ ⟨#[97]⟩ = rep 97 (n + 1) ∧ rep 98 n ++ ⟨#[98]⟩ = rep 98 (n + 1)) := ⟨fun n => ⟨rep_succ 97 n, rep_succ 98 n⟩⟩
  have HZ : Aside0 (rep 97 0 = ⟨#[]⟩ ∧ rep 98 0 = ⟨#[]⟩) := ⟨by decide +kernel⟩
  have HSz : Aside0 (∀ c n, (rep c n).size = n) := ⟨fun c n => by show (Array.replicate n c).size = n; simp⟩
  clear hv0 hg
  go_enter Tryd.func7, Tryd.ntmps7
  go_wp2_with fail
  go_loopg [1, 2, 5] 60 (fun kq v1 v2 v5 wr => ∃ i : Nat, i ≤ 60 ∧ v5 = .int .i64 i ∧ v1 = .string (rep 97 i) ∧ v2 = .string (rep 98 i) ∧ Aside0 (kq = 60 - i) ∧ wr = w)
  case atStart => exact ⟨0, by omega, rfl, by rw [HZ.out.1], by rw [HZ.out.2], ⟨rfl⟩, rfl⟩
  case round =>
    obtain ⟨i, hi, rfl, rfl, rfl, HK, rfl⟩ := hrel
    by_cases hlt : i < 60
    · have hlt' : (i : Int) < 60 := by omega
      have z1 : ((rep 97 i).size : Int) ≤ 60 := by rw [HSz.out]; omega
      have z2 : ((rep 98 i).size : Int) ≤ 60 := by rw [HSz.out]; omega
      go_wp2_with fail
      go_roundg (60 - (i + 1))
      case measure => have := HK.out; omega
      case rel => exact ⟨i + 1, by omega, by go_num, by rw [(HRep.out i).1], by rw [(HRep.out i).2], ⟨rfl⟩, rfl⟩
    · have hlt' : ¬ (i : Int) < 60 := by omega
      obtain rfl : i = 60 := by omega
      have z1 : ((rep 97 60).size : Int) ≤ 60 := by rw [HSz.out]; omega
      have z2 : ((rep 98 60).size : Int) ≤ 60 := by rw [HSz.out]; omega
      go_upto_region 7 with (go_at_call 9; refine HP.out.mono ?_; rintro e w2 ⟨gB, rfl, hr, _, hb⟩; have HR := Aside0.mk (And.intro hr hb); clear hr hb)
      obtain ⟨x1, x2, x3, x4⟩ := ex_bytes
      have hC1 := HR.out.1.C 0 60 (by rw [x4]; decide) (by decide)
      have hC2 := HR.out.1.C 345 60 (by rw [x4]; decide) (by decide)
      rw [show ((headB exH).drop 0).take 60 = _ from x1] at hC1
      rw [show ((headB exH).drop 345).take 60 = _ from x3] at hC2
      have k1 := Kd.C_string (P := Tryd.prog) (src := 26) (dst := 9) (c := 512) Tryd.underlying26 Tryd.underlying5 Tryd.underlying9 hC1
      have k2 := Kd.C_string (P := Tryd.prog) (src := 26) (dst := 9) (c := 167) Tryd.underlying26 Tryd.underlying5 Tryd.underlying9 hC2
      rw [show strOfNums (List.replicate 60 98) = rep 98 60 from str_rep 98 60] at k1
      rw [show strOfNums (List.replicate 60 97) = rep 97 60 from str_rep 97 60] at k2
      have k3 := HR.out.1.cell 60 (by rw [x4]; decide)
      rw [x2] at k3
      have s1 := cut_to gB 60 (by decide)
      have s2 := cut_at gB 345 405 (by decide) (by decide) (by decide)
      clear hC1 hC2 x1 x2 x3 x4
      go_wp2_with fail
      go_ret
      exact ⟨rfl, HR.out.2⟩
theorem mono_k {α : Type} {f : Nat → Option α} (hm : ∀ k, LeO (f k) (f (k + 1))) {k : Nat} {r : α} (h : f k = some r) : ∀ m, f (k + m) = some r
  | 0 => h
  | m + 1 => hm _ _ (mono_k hm h m)
theorem dfits_calls (s : ByteArray) (hs : s.size ≤ 100000) (w : World) : Calls Tryd.prog 14 #[.string s] w fun e w' => e = .returned (.bool (cutOk s && noN s)) ∧ Drawn0 w w' := by
  obtain ⟨k, a, r, h1, h2⟩ := cut_f s hs
  have hn := nought_f s hs
  refine crossdockref19_Fits.calls (k + (s.size + 1)) s _ w ?_
  unfold crossdockref19_Fits.f
  rw [mono_k (f := fun k => crossdockref19_Cut.f k s) (fun k => crossdockref19_Cut.mono s k) h1 (s.size + 1), Option.bind_some]
  rw [show k + (s.size + 1) = (s.size + 1) + k by omega, mono_k (f := fun k => crossdockref19_nought.f k s) (fun k => crossdockref19_nought.mono s k) hn k]
  cases cutOk s with
  | true => simp
  | false => simp
def longH (h : Hd) : Bool := decide ((h.nm.size : Int) > 600) || decide ((h.li.size : Int) > 600) || decide ((h.us.size : Int) > 600) || decide ((h.gr.size : Int) > 600)
theorem long_calls (h : Hd) (w : World) : Calls Tryd.prog 8 #[.agg (hv h)] w fun e w' => e = .returned (.bool (longH h)) ∧ Below w.heap.size w w' := by
  refine crossdocklaw19_Long.calls h.nm h.mo h.ui h.gi h.si h.ti h.ki h.li h.us h.gr h.ma h.mi _ w ?_
  unfold crossdocklaw19_Long.f longH
  by_cases h1 : (h.nm.size : Int) > 600
  · rw [if_pos h1, decide_eq_true h1]; rfl
  · rw [if_neg h1, decide_eq_false h1]
    by_cases h2 : (h.li.size : Int) > 600
    · rw [if_pos h2, decide_eq_true h2]; rfl
    · rw [if_neg h2, decide_eq_false h2]
      by_cases h3 : (h.us.size : Int) > 600
      · rw [if_pos h3, decide_eq_true h3]; rfl
      · rw [if_neg h3, decide_eq_false h3]; rfl
/-- A head of numbers and texts as they come in. -/
structure WF (h : Hd) : Prop where
  num : ∀ i, -9223372036854775808 ≤ h.num i ∧ h.num i ≤ 9223372036854775807
  ki : 0 ≤ h.ki ∧ h.ki < 256
theorem small_of {h : Hd} (hw : WF h) (hl : longH h = false) : Small h := by
  unfold longH at hl
  simp only [Bool.or_eq_false_iff, decide_eq_false_iff_not] at hl
  exact ⟨by omega, by omega, by omega, by omega, hw.num, hw.ki⟩
theorem dput_calls19 (h : Hd) (hS : Small h) (w : World) : Calls Tryd.prog 10 #[.agg (hv h)] w (DPut w h) := by
  cases h1 : noN h.nm && noN h.li && noN h.us && noN h.gr with
  | false => exact dput_nought h hS w h1
  | true =>
    cases h2 : !cutOk h.nm || decide (100 < h.li.size) || decide (32 < h.us.size) || decide (32 < h.gr.size) with
    | true => exact dput_long h hS w h1 h2
    | false => exact dput_rest h hS w h1 h2
theorem bytes_same (A B : Option Addr) (n m c d : Nat) (xs : List Int) (hn : xs.length = n) (hm : n = m) (hc : n ≤ c) (hd : n ≤ d) (w : World) (hx : (Kd.int .u8).C w A n xs) (hy : (Kd.int .u8).C w B n xs) :
    Calls Tryd.prog 12 #[.slice A n c, .slice B m d] w fun e w' => e = .returned (.bool true) ∧ Drawn0 w w' := by
  subst hn
  subst hm
  exact crossdocknum_Bytes.calls A c xs B d xs true w hx hc hy hd (by unfold crossdocknum_Bytes.f; simp)
theorem num_drawn (e : Option Int) (w : World) (h : ∀ c, e = some c → c ≠ 0) : Calls Tryd.prog 11 #[errV e] w fun r w' => r = .returned (.int .i64 (numE e)) ∧ Drawn0 w w' :=
  (num_calls e w h).mono fun _ _ k => ⟨k.1, k.2 ▸ Drawn0.refl _⟩
theorem head_len (h : Hd) (hS : Small h) (hE : headE h = none) : (headB h).length = 512 := by
  have hl := body_len h hS hE
  have hp := putB_length 7 (sumH (body h)) (by decide)
  unfold headB
  rw [patch_length (by rw [hp, List.length_set, hl]; decide), List.length_set, hl]
theorem headE_pos {h : Hd} {c : Int} (hE : headE h = some c) : c ≠ 0 := by
  unfold headE at hE
  split at hE
  · cases hE; decide
  · split at hE
    · cases hE; decide
    · split at hE
      · cases hE
      · cases hE; decide
theorem quiet_d {f : FuncId} {args : Array Value} {w : World} {n : Nat} {v : Value} (h : Calls Tryd.prog f args (w.drewN n) fun e w' => e = .returned v ∧ Drawn0 (w.drewN n) w') :
    Calls Tryd.prog f args (w.drewN n) fun e w' => e = .returned v ∧ ∃ m, w' = w.drewN m :=
  Calls.quiet_of (h.mono fun _ _ k => ⟨k.1, k.2.out⟩)
theorem Box.all {w : World} {g : Nat} {h : Hd} (k : Box w g h) : w.cell? ⟨g, 0, none⟩ = some (.string h.nm) ∧ w.cell? ⟨g, 1, none⟩ = some (.int .i64 h.mo) ∧ w.cell? ⟨g, 2, none⟩ = some (.int .i64 h.ui) ∧ w.cell? ⟨g, 3, none⟩ = some (.int .i64 h.gi) ∧ w.cell? ⟨g, 4, none⟩ = some (.int .i64 h.si) ∧ w.cell? ⟨g, 5, none⟩ = some (.int .i64 h.ti) ∧ w.cell? ⟨g, 6, none⟩ = some (.int .u8 h.ki) ∧ w.cell? ⟨g, 7, none⟩ = some (.string h.li) ∧ w.cell? ⟨g, 8, none⟩ = some (.string h.us) ∧ w.cell? ⟨g, 9, none⟩ = some (.string h.gr) ∧ w.cell? ⟨g, 10, none⟩ = some (.int .i64 h.ma) ∧ w.cell? ⟨g, 11, none⟩ = some (.int .i64 h.mi) := by
  have e := blk_cell k.out
  exact ⟨(e 0).trans rfl, (e 1).trans rfl, (e 2).trans rfl, (e 3).trans rfl, (e 4).trans rfl, (e 5).trans rfl, (e 6).trans rfl, (e 7).trans rfl, (e 8).trans rfl, (e 9).trans rfl, (e 10).trans rfl, (e 11).trans rfl⟩
theorem puts_long (h : Hd) (w : World) (hg : Gl w) (hl : longH h = true) : Calls Tryd.prog 3 #[.agg (hv h)] w fun e w' => e = .returned (.bool true) ∧ Below w.heap.size w w' := by
  obtain ⟨W, hW⟩ : ∃ W, W = w.alloc (.cells (hv h) 23) := ⟨_, rfl⟩
  have hBW : Below w.heap.size w W := by rw [hW]; exact below_alloc (Below.refl _ _) _
  have hbox : Box W w.heap.size h := by rw [hW]; exact ⟨alloc_self _ _⟩
  have HA := Aside0.mk (alive_calls W (hg.next hBW))
  have HL : Aside0 (∀ w, Calls Tryd.prog 8 #[.agg (hv h)] w fun e w' => e = .returned (.bool true) ∧ Below w.heap.size w w') := ⟨fun w => hl ▸ long_calls h w⟩
  have HW := Aside0.mk hW
  have HB := Aside0.mk (And.intro hBW hbox)
  clear hBW hbox hW hg hl
  unfold hv at HW HL
  unfold hv
  go_enter Tryd.func3, Tryd.ntmps3
  go_upto_region 1 with fail
  rw [← HW.out]
  go_upto_region 3 with (go_at_call 7; refine HA.out.mono ?_; rintro e w1 ⟨rfl, hb1⟩; have HB1 := Aside0.mk hb1; clear hb1)
  have hbb : Below w.heap.size w w1 := HB.out.1.trans (HB1.out.mono HB.out.1.size)
  have HBB := Aside0.mk hbb
  obtain ⟨c0, c1, c2, c3, c4, c5, c6, c7, c8, c9, c10, c11⟩ := (HB.out.2.below HB1.out).all
  clear hbb
  go_wp2_with (go_at_call 8; refine (HL.out _).mono ?_; rintro e w2 ⟨rfl, hb2⟩; have HB2 := Aside0.mk hb2; clear hb2)
  go_ret
  exact ⟨rfl, HBB.out.trans (HB2.out.mono HBB.out.size)⟩
set_option maxHeartbeats 1000000 in
theorem puts_short (h : Hd) (hw : WF h) (w : World) (hg : Gl w) (hl : longH h = false) : Calls Tryd.prog 3 #[.agg (hv h)] w fun e w' => e = .returned (.bool true) ∧ Below w.heap.size w w' := by
  have hS := small_of hw hl
  obtain ⟨W, hW⟩ : ∃ W, W = w.alloc (.cells (hv h) 23) := ⟨_, rfl⟩
  have hBW : Below w.heap.size w W := by rw [hW]; exact below_alloc (Below.refl _ _) _
  have hbox : Box W w.heap.size h := by rw [hW]; exact ⟨alloc_self _ _⟩
  have HA := Aside0.mk (alive_calls W (hg.next hBW))
  have HL : Aside0 (∀ w, Calls Tryd.prog 8 #[.agg (hv h)] w fun e w' => e = .returned (.bool false) ∧ Below w.heap.size w w') := ⟨fun w => hl ▸ long_calls h w⟩
  have HW := Aside0.mk hW
  have HB := Aside0.mk (And.intro hBW (And.intro hbox (hg.next hBW)))
  have HP : Aside0 (∀ w, Gl w → Calls Tryd.prog 9 #[.agg (hv h)] w fun e w' => ∃ A n, e = .returned (.tuple #[.slice A n n, errV (headE h)]) ∧ (headE h = none → n = 512 ∧ (Kd.int .u8).C w' A 512 (headB h)) ∧ (headE h ≠ none → A = none ∧ n = 0) ∧ Below w.heap.size w w') := ⟨fun w hg => by
    cases hE : headE h with
    | some c =>
      refine (putH_no h hS w hg c hE).mono ?_
      rintro e w' ⟨rfl, hb⟩
      exact ⟨none, 0, rfl, (fun h => by cases h), (fun _ => ⟨rfl, rfl⟩), hb⟩
    | none =>
      refine (putH_yes h hS w hg hE).mono ?_
      rintro e w' ⟨gB, rfl, hr, _, hb⟩
      have hl := hr.whole (by rw [(head_len h hS hE)]; decide)
      rw [head_len h hS hE] at hl
      exact ⟨_, 512, rfl, (fun _ => ⟨rfl, hl⟩), (fun h => absurd rfl h), hb⟩⟩
  have HD : Aside0 (∀ w, Calls Tryd.prog 10 #[.agg (hv h)] w fun e w' => ∃ A n, e = .returned (.tuple #[.slice A n n, .int .i64 (numE (headE h))]) ∧ (headE h = none → n = 512 ∧ (Kd.int .u8).C w' A 512 (headB h)) ∧ (headE h ≠ none → A = none ∧ n = 0) ∧ Below w.heap.size w w') := ⟨fun w => by
    refine (dput_calls19 h hS w).mono ?_
    rintro e w' ⟨h1, hb⟩
    cases hE : headE h with
    | some c =>
      rw [hE] at h1
      exact ⟨none, 0, h1, (fun h => by cases h), (fun _ => ⟨rfl, rfl⟩), hb⟩
    | none =>
      rw [hE] at h1
      obtain ⟨gB, he, hr⟩ := h1
      rw [doc_head h hS hE] at hr
      have hl := hr.whole (by rw [(head_len h hS hE)]; decide)
      rw [head_len h hS hE] at hl
      exact ⟨_, 512, he, (fun _ => ⟨rfl, hl⟩), (fun h => absurd rfl h), hb⟩⟩
  have HN : Aside0 (∀ w, Calls Tryd.prog 11 #[errV (headE h)] w fun r w' => r = .returned (.int .i64 (numE (headE h))) ∧ Drawn0 w w') := ⟨fun w => num_drawn _ w (fun c hc => headE_pos hc)⟩
  have HF0 : Aside0 (∀ w, Gl w → Calls Tryd.prog 13 #[.string h.nm] w fun e w' => e = .returned (.bool (cutOk h.nm && noN h.nm)) ∧ Drawn0 w w') := ⟨fun w hg => fits_drawn h.nm w hg (by have := hS.nm; omega)⟩
  have HF1 : Aside0 (∀ w, Gl w → Calls Tryd.prog 13 #[.string h.li] w fun e w' => e = .returned (.bool (cutOk h.li && noN h.li)) ∧ Drawn0 w w') := ⟨fun w hg => fits_drawn h.li w hg (by have := hS.li; omega)⟩
  have HG0 : Aside0 (∀ w, Calls Tryd.prog 14 #[.string h.nm] w fun e w' => e = .returned (.bool (cutOk h.nm && noN h.nm)) ∧ Drawn0 w w') := ⟨fun w => dfits_calls h.nm (by have := hS.nm; omega) w⟩
  have HG1 : Aside0 (∀ w, Calls Tryd.prog 14 #[.string h.li] w fun e w' => e = .returned (.bool (cutOk h.li && noN h.li)) ∧ Drawn0 w w') := ⟨fun w => dfits_calls h.li (by have := hS.li; omega) w⟩
  have HHl := Aside0.mk (show headE h = none → (headB h).length = 512 from fun e => head_len h hS e)
  generalize headE h = E at *
  generalize (cutOk h.nm && noN h.nm) = f0 at *
  generalize (cutOk h.li && noN h.li) = f1 at *
  clear hBW hbox hW hg hl hw hS
  unfold hv at HW HL HP HD
  unfold hv
  go_enter Tryd.func3, Tryd.ntmps3
  go_upto_region 1 with fail
  rw [← HW.out]
  go_upto_region 3 with (go_at_call 7; refine HA.out.mono ?_; rintro e w1 ⟨rfl, hb1⟩; have HB1 := Aside0.mk hb1; clear hb1)
  have HBB : Aside0 (Below w.heap.size w w1 ∧ Box w1 w.heap.size h ∧ Gl w1) := ⟨HB.out.1.trans (HB1.out.mono HB.out.1.size), HB.out.2.1.below HB1.out, HB.out.2.2.next HB1.out⟩
  obtain ⟨c0, c1, c2, c3, c4, c5, c6, c7, c8, c9, c10, c11⟩ := HBB.out.2.1.all
  clear HB HB1 HA
  go_upto_region 5 with (go_at_call 8; refine (HL.out _).mono ?_; rintro e w2 ⟨rfl, hb2⟩; have HB2 := Aside0.mk hb2; clear hb2)
  clear c0 c1 c2 c3 c4 c5 c6 c7 c8 c9 c10 c11
  have HBC : Aside0 (Below w.heap.size w w2 ∧ Box w2 w.heap.size h ∧ Gl w2) := ⟨HBB.out.1.trans (HB2.out.mono HBB.out.1.size), HBB.out.2.1.below HB2.out, HBB.out.2.2.next HB2.out⟩
  obtain ⟨c0, c1, c2, c3, c4, c5, c6, c7, c8, c9, c10, c11⟩ := HBC.out.2.1.all
  clear HBB HB2
  go_upto_region 6 with (go_at_call 9; refine (HP.out _ HBC.out.2.2).mono ?_; rintro e w3 ⟨A, n, rfl, hy, hz, hb3⟩; have HB3 := Aside0.mk (And.intro hy (And.intro hz hb3)); clear hb3 hy hz)
  clear c0 c1 c2 c3 c4 c5 c6 c7 c8 c9 c10 c11
  have HBD : Aside0 (Below w.heap.size w w3 ∧ Box w3 w.heap.size h ∧ Gl w3) := ⟨HBC.out.1.trans (HB3.out.2.2.mono HBC.out.1.size), HBC.out.2.1.below HB3.out.2.2, HBC.out.2.2.next HB3.out.2.2⟩
  obtain ⟨c0, c1, c2, c3, c4, c5, c6, c7, c8, c9, c10, c11⟩ := HBD.out.2.1.all
  clear HBC
  go_upto_region 7 with (go_at_call 10; refine (HD.out _).mono ?_; rintro e w4 ⟨A4, n4, rfl, hy, hz, hb4⟩; have HB4 := Aside0.mk (And.intro hy (And.intro hz hb4)); clear hb4 hy hz)
  clear c0 c1 c2 c3 c4 c5 c6 c7 c8 c9 c10 c11
  have HBE : Aside0 (Below w.heap.size w w4 ∧ Box w4 w.heap.size h ∧ Gl w4) := ⟨HBD.out.1.trans (HB4.out.2.2.mono HBD.out.1.size), HBD.out.2.1.below HB4.out.2.2, HBD.out.2.2.next HB4.out.2.2⟩
  obtain ⟨c0, c1, c2, c3, c4, c5, c6, c7, c8, c9, c10, c11⟩ := HBE.out.2.1.all
  have HBy : Aside0 (∀ m, Calls Tryd.prog 12 #[.slice A n n, .slice A4 n4 n4] (w4.drewN m) fun e w' => e = .returned (.bool true) ∧ Drawn0 (w4.drewN m) w') := ⟨fun m => by
    by_cases hE : E = none
    · obtain ⟨rfl, k1⟩ := HB3.out.1 hE
      obtain ⟨rfl, k2⟩ := HB4.out.1 hE
      exact bytes_same A A4 512 512 512 512 (headB h) (HHl.out hE) rfl (by decide) (by decide) _ (Kd.C_drewN (Kd.C_below k1 HB4.out.2.2) m) (Kd.C_drewN k2 m)
    · obtain ⟨rfl, rfl⟩ := HB3.out.2.1 hE
      obtain ⟨rfl, rfl⟩ := HB4.out.2.1 hE
      exact bytes_same none none 0 0 0 0 [] rfl rfl (by decide) (by decide) _ (Kd.C_nil _ _) (Kd.C_nil _ _)⟩
  clear HB3 HB4 HBD HP HD HL
  go_quiet ((first
    | (go_at_call 11; with_reducible exact quiet_d (HN.out _))
    | (go_at_call 12; with_reducible exact quiet_d (HBy.out _))
    | (go_at_call 13; with_reducible exact quiet_d (HF0.out _ (HBE.out.2.2.next ⟨rfl, rfl, rfl, Nat.le_refl _, fun _ _ => rfl⟩)))
    | (go_at_call 13; with_reducible exact quiet_d (HF1.out _ (HBE.out.2.2.next ⟨rfl, rfl, rfl, Nat.le_refl _, fun _ _ => rfl⟩)))
    | (go_at_call 14; with_reducible exact quiet_d (HG0.out _))
    | (go_at_call 14; with_reducible exact quiet_d (HG1.out _))))
  go_wp2_with fail
  go_ret
  exact ⟨rfl, HBE.out.1.trans ⟨rfl, rfl, rfl, Nat.le_refl _, fun _ _ => rfl⟩⟩
theorem wf_of {nm li us gr : ByteArray} {mo ui gi si ti ki ma mi : Int} (h1 : (Lit.int .i64 mo).wf = true) (h2 : (Lit.int .i64 ui).wf = true) (h3 : (Lit.int .i64 gi).wf = true) (h4 : (Lit.int .i64 si).wf = true) (h5 : (Lit.int .i64 ti).wf = true) (h6 : (Lit.int .u8 ki).wf = true) (h10 : (Lit.int .i64 ma).wf = true) (h11 : (Lit.int .i64 mi).wf = true) : WF ⟨nm, mo, ui, gi, si, ti, ki, li, us, gr, ma, mi⟩ := by
  refine ⟨fun i => ?_, wf_u8 h6⟩
  match i with
  | 0 => exact wf_i64 h1
  | 1 => exact wf_i64 h2
  | 2 => exact wf_i64 h3
  | 3 => exact wf_i64 h4
  | 4 => exact wf_i64 h5
  | 5 => exact wf_i64 h10
  | i + 6 => exact wf_i64 h11
theorem puts_walk (nm : ByteArray) (mo ui gi si ti ki : Int) (li us gr : ByteArray) (ma mi : Int) (W : World) (z0 : nm.size ≤ maxLen) (h1 : (Lit.int .i64 mo).wf = true) (h2 : (Lit.int .i64 ui).wf = true) (h3 : (Lit.int .i64 gi).wf = true) (h4 : (Lit.int .i64 si).wf = true) (h5 : (Lit.int .i64 ti).wf = true) (h6 : (Lit.int .u8 ki).wf = true) (z7 : li.size ≤ maxLen) (z8 : us.size ≤ maxLen) (z9 : gr.size ≤ maxLen) (h10 : (Lit.int .i64 ma).wf = true) (h11 : (Lit.int .i64 mi).wf = true)
    (hL : laidMetH Tryd.prog Rows.headPutsRow.laid W) :
    Calls Tryd.prog 3 #[.agg #[.string nm, .int .i64 mo, .int .i64 ui, .int .i64 gi, .int .i64 si, .int .i64 ti, .int .u8 ki, .string li, .string us, .string gr, .int .i64 ma, .int .i64 mi]] W fun e w' => e = .returned (.bool true) ∧ Below W.heap.size W w' := by
  have hg := gl_of hL
  cases hl : longH ⟨nm, mo, ui, gi, si, ti, ki, li, us, gr, ma, mi⟩ with
  | true => exact puts_long ⟨nm, mo, ui, gi, si, ti, ki, li, us, gr, ma, mi⟩ W hg hl
  | false => exact puts_short ⟨nm, mo, ui, gi, si, ti, ki, li, us, gr, ma, mi⟩ (wf_of h1 h2 h3 h4 h5 h6 h10 h11) W hg hl
end Go.Proofs.YtiioiikcjaiajaaDoor.My

/- The fields of package head, out of the longer list of what is laid. -/
namespace Go.Proofs.YtiioiikcjaiajaaDoor.My
open Go.RowKit Go.Lib Go.Shelf
set_option linter.unusedVariables false
set_option linter.unusedSimpArgs false

theorem gl_of16 {W : World} (hL : laidMetH Tryd.prog [("unicode/utf8.acceptRanges", Rows.laid_unicode_utf8_acceptRanges), ("crossdock/head.name", Rows.laid_crossdock_head_name), ("crossdock/head.mode", Rows.laid_crossdock_head_mode), ("crossdock/head.uid", Rows.laid_crossdock_head_uid), ("crossdock/head.gid", Rows.laid_crossdock_head_gid), ("crossdock/head.long", Rows.laid_crossdock_head_long), ("crossdock/head.time", Rows.laid_crossdock_head_time), ("crossdock/head.sum", Rows.laid_crossdock_head_sum), ("crossdock/head.link", Rows.laid_crossdock_head_link), ("crossdock/head.mark", Rows.laid_crossdock_head_mark), ("crossdock/head.user", Rows.laid_crossdock_head_user), ("crossdock/head.group", Rows.laid_crossdock_head_group), ("crossdock/head.major", Rows.laid_crossdock_head_major), ("crossdock/head.minor", Rows.laid_crossdock_head_minor), ("crossdock/head.front", Rows.laid_crossdock_head_front), ("unicode/utf8.first", Rows.laid_unicode_utf8_first)] W) : Gl W := by
  have f0 := field_reads (g := 0) (a := 0) (b := 100) (by kernel_rfl) (by kernel_rfl) (Lib.laidMet.reads hL (.tail _ (.head _)))
  have f1 := field_reads (g := 1) (a := 157) (b := 100) (by kernel_rfl) (by kernel_rfl) (Lib.laidMet.reads hL (.tail _ (.tail _ (.tail _ (.tail _ (.tail _ (.tail _ (.tail _ (.tail _ (.head _))))))))))
  have f2 := field_reads (g := 2) (a := 257) (b := 6) (by kernel_rfl) (by kernel_rfl) (Lib.laidMet.reads hL (.tail _ (.tail _ (.tail _ (.tail _ (.tail _ (.tail _ (.tail _ (.tail _ (.tail _ (.head _)))))))))))
  have f3 := field_reads (g := 3) (a := 265) (b := 32) (by kernel_rfl) (by kernel_rfl) (Lib.laidMet.reads hL (.tail _ (.tail _ (.tail _ (.tail _ (.tail _ (.tail _ (.tail _ (.tail _ (.tail _ (.tail _ (.head _))))))))))))
  have f4 := field_reads (g := 4) (a := 297) (b := 32) (by kernel_rfl) (by kernel_rfl) (Lib.laidMet.reads hL (.tail _ (.tail _ (.tail _ (.tail _ (.tail _ (.tail _ (.tail _ (.tail _ (.tail _ (.tail _ (.tail _ (.head _)))))))))))))
  have f5 := field_reads (g := 5) (a := 345) (b := 155) (by kernel_rfl) (by kernel_rfl) (Lib.laidMet.reads hL (.tail _ (.tail _ (.tail _ (.tail _ (.tail _ (.tail _ (.tail _ (.tail _ (.tail _ (.tail _ (.tail _ (.tail _ (.tail _ (.tail _ (.head _))))))))))))))))
  have f6 := field_reads (g := 6) (a := 148) (b := 8) (by kernel_rfl) (by kernel_rfl) (Lib.laidMet.reads hL (.tail _ (.tail _ (.tail _ (.tail _ (.tail _ (.tail _ (.tail _ (.head _)))))))))
  have f7 := field_reads (g := 7) (a := 100) (b := 8) (by kernel_rfl) (by kernel_rfl) (Lib.laidMet.reads hL (.tail _ (.tail _ (.head _))))
  have f8 := field_reads (g := 8) (a := 108) (b := 8) (by kernel_rfl) (by kernel_rfl) (Lib.laidMet.reads hL (.tail _ (.tail _ (.tail _ (.head _)))))
  have f9 := field_reads (g := 9) (a := 116) (b := 8) (by kernel_rfl) (by kernel_rfl) (Lib.laidMet.reads hL (.tail _ (.tail _ (.tail _ (.tail _ (.head _))))))
  have f10 := field_reads (g := 10) (a := 124) (b := 12) (by kernel_rfl) (by kernel_rfl) (Lib.laidMet.reads hL (.tail _ (.tail _ (.tail _ (.tail _ (.tail _ (.head _)))))))
  have f11 := field_reads (g := 11) (a := 136) (b := 12) (by kernel_rfl) (by kernel_rfl) (Lib.laidMet.reads hL (.tail _ (.tail _ (.tail _ (.tail _ (.tail _ (.tail _ (.head _))))))))
  have f12 := field_reads (g := 12) (a := 329) (b := 8) (by kernel_rfl) (by kernel_rfl) (Lib.laidMet.reads hL (.tail _ (.tail _ (.tail _ (.tail _ (.tail _ (.tail _ (.tail _ (.tail _ (.tail _ (.tail _ (.tail _ (.tail _ (.head _))))))))))))))
  have f13 := field_reads (g := 13) (a := 337) (b := 8) (by kernel_rfl) (by kernel_rfl) (Lib.laidMet.reads hL (.tail _ (.tail _ (.tail _ (.tail _ (.tail _ (.tail _ (.tail _ (.tail _ (.tail _ (.tail _ (.tail _ (.tail _ (.tail _ (.head _)))))))))))))))
  refine ⟨fun g hg => ?_, fun g hg => ?_, ?_⟩
  · match g, hg with
    | 0, _ => exact f0.1
    | 1, _ => exact f1.1
    | 2, _ => exact f2.1
    | 3, _ => exact f3.1
    | 4, _ => exact f4.1
    | 5, _ => exact f5.1
    | 6, _ => exact f6.1
    | 7, _ => exact f7.1
    | 8, _ => exact f8.1
    | 9, _ => exact f9.1
    | 10, _ => exact f10.1
    | 11, _ => exact f11.1
    | 12, _ => exact f12.1
    | 13, _ => exact f13.1
    | g + 14, hg => omega
  · match g, hg with
    | 0, _ => exact f0.2
    | 1, _ => exact f1.2
    | 2, _ => exact f2.2
    | 3, _ => exact f3.2
    | 4, _ => exact f4.2
    | 5, _ => exact f5.2
    | 6, _ => exact f6.2
    | 7, _ => exact f7.2
    | 8, _ => exact f8.2
    | 9, _ => exact f9.2
    | 10, _ => exact f10.2
    | 11, _ => exact f11.2
    | 12, _ => exact f12.2
    | 13, _ => exact f13.2
    | g + 14, hg => omega
  · have := f13.1
    rcases Nat.lt_or_ge 13 W.heap.size with h | h
    · omega
    · rw [World.cell?, Array.getElem?_eq_none h] at this
      cases this
end Go.Proofs.YtiioiikcjaiajaaDoor.My

/- HeadBack: what is put is taken, whatever stands behind it. The law's walk. -/
set_option maxRecDepth 100000
namespace Go.Proofs.YtiioiikcjaiajaaDoor.My
open Go.RowKit Go.Proofs.YtiioiikcjaiajaaDoor.Hd Go.Proofs.YtiioiikcjaiajaaDoor.Oct Go.Proofs.YtiioiikcjaiajaaDoorW.PrintWords Go.Proofs.YtiioiikcjaiajaaDoorW.PrintLast Go.Proofs.YtiioiikcjaiajaaDoorW.PrintMore
set_option linter.unusedVariables false
set_option linter.unusedSimpArgs false

theorem eq_head (h : Hd) (W : World) : (Go.binOp .eql 23 (.agg (hv h)) (.agg (hv h))).run Tryd.prog W = .ok (.bool true) W := by
  simp [hv, go_sem]
/-- A row of the call's own, read as a head. -/
theorem inp_own {w : World} {base n : Nat} {v : Value} {xs : List Int} (ho : w.ownsRow base 5 1 v n (nums .u8 xs)) (hn : 512 ≤ n) (hm : n ≤ 1000000) (hb : ∀ x ∈ xs, 0 ≤ x ∧ x < 256) :
    ∃ g c, v = .slice (some ⟨g, 0, none⟩) xs.length c ∧ xs.length = n ∧ Inp w g 0 c xs := by
  have hl : xs.length = n := by
    have := ho.1
    rw [nums_length] at this
    omega
  rcases ho.2 with ⟨h1, h2⟩ | ⟨g, cap, cur, h1, _, hh, h3, h4, h5, h6⟩
  · omega
  · refine ⟨g, cap, by rw [h1, hl], hl, fun j hj => ?_, hb, by unfold maxLen at h4; omega⟩
    rw [Nat.zero_add, World.cell?, hh]
    have h7 : (nums .u8 xs)[j]? = some (.int .u8 (xs.getD j 0)) := by simp [nums, hj]
    rw [← h6] at h7
    rw [List.getElem?_take] at h7
    split at h7
    · simpa using h7
    · cases h7
theorem info8 : ∃ i, Tryd.prog.info? 5 = some i ∧ i.zero = some (.int .u8 0) ∧ i.size = 1 ∧ i.bytes = 1 := by
  obtain ⟨i0, hi, hz⟩ := Option.map_eq_some_iff.1 info_u8
  simp only [Prod.mk.injEq] at hz
  exact ⟨i0, hi, hz⟩
theorem head_byte' (h : Hd) (hS : Small h) (hE : headE h = none) : ∀ x ∈ headB h, 0 ≤ x ∧ x < 256 := by
  unfold headB
  exact byte_patch (byte_set (body_byte h hS) (by omega)) (putB_byte _ _ (by decide))
/-- Bytes are set behind a head's. -/
theorem append_head (w : World) (gB : Nat) (l : List Int) (hr : Row w gB l) (hl : l.length = 512) (hby : ∀ x ∈ l, 0 ≤ x ∧ x < 256) (A : Option Addr) (m c : Nat) (b : List Int) (hb : (Kd.int .u8).C w A m b) (hbl : b.length = m) (hbb : ∀ x ∈ b, 0 ≤ x ∧ x < 256) (hm : m ≤ 600) :
    ∃ g cc w', (∀ _ : Unit, (Builtin.append_ #[26, 26] 26 #[.slice (some ⟨gB, 0, none⟩) 512 512, .slice A m c]).run Tryd.prog w = .ok (.slice (some ⟨g, 0, none⟩) (l ++ b).length cc) w') ∧ Inp w' g 0 cc (l ++ b) ∧ Below w.heap.size w w' := by
  obtain ⟨i, hi, hz, hs, hby8⟩ := info8
  have hlb : (l ++ b).length = 512 + m := by rw [List.length_append, hl, hbl]
  have hbyt : ∀ x ∈ l ++ b, 0 ≤ x ∧ x < 256 := fun x hx => by
    rcases List.mem_append.1 hx with h | h
    · exact hby x h
    · exact hbb x h
  by_cases h0 : m = 0
  · subst h0
    have hbn : b = [] := List.eq_nil_of_length_eq_zero hbl
    subst hbn
    refine ⟨gB, 512, w, fun _ => ?_, ?_, Below.refl _ _⟩
    · rw [List.append_nil, hl]
      cases A with
      | none => simp [Builtin.append_, run_underlying Tryd.underlying26, sizeOf, typeInfo, hi, Builtin.lenOf, Builtin.firstCells, storeCells]
      | some ad => simp [Builtin.append_, run_underlying Tryd.underlying26, sizeOf, typeInfo, hi, Builtin.lenOf, Builtin.firstCells, storeCells, loadCells, loadCellsFrom]
    · rw [List.append_nil]
      exact Inp.of_row hr hby (by omega)
  · obtain ⟨ad, rfl, _⟩ := Kd.at_int hb 0 (by omega) (by omega)
    obtain ⟨v', w', hrun, ho, hg⟩ := run_append_arg_grows (P := Tryd.prog) w 26 26 5 i (.int .u8 0) 1 1 Tryd.underlying26 hi hz hs hby8 rfl (by decide) ⟨gB, 0, none⟩ 512 512 (nums .u8 l) (by rw [nums_length, hl])
      (fun j u hu => by
        have hj : j < l.length := by have := (List.getElem?_eq_some_iff.1 hu).1; rwa [nums_length] at this
        rw [add_at, Nat.zero_add, hr.cell j hj, ← hu]
        simp [nums, hj])
      ad m c (nums .u8 b) (by rw [nums_length, hbl]; omega)
      (fun j u hu => by
        have hj : j < b.length := by have := (List.getElem?_eq_some_iff.1 hu).1; rwa [nums_length] at this
        obtain ⟨ad', e, hc'⟩ := Kd.at_int hb j (by omega) (by omega)
        cases e
        rw [show (nums .u8 b)[j]? = some (.int .u8 (rd b j)) by simp [nums, rd, hj]] at hu
        cases hu
        simpa using hc') (by omega) (by unfold maxLen; omega) (by omega)
    have ho2 : w'.ownsRow w.heap.size 5 1 v' (512 + m) (nums .u8 (l ++ b)) := by
      have e : nums .u8 (l ++ b) = nums .u8 l ++ nums .u8 b := by simp [nums]
      rw [e]
      exact ho
    obtain ⟨g, cc, rfl, _, hI⟩ := inp_own ho2 (by omega) (by omega) hbyt
    exact ⟨g, cc, w', fun _ => hrun, hI, ⟨hg.os, hg.tape, hg.output, hg.size, fun k hk => hg.block k hk (by simp)⟩⟩
theorem wp_append_run {P : Program} {w : World} {o : Oper} {a : Act} {K : Act → World → Prop} {Q : Exit → Act → World → Prop} (s x : Operand) (t : TypeId)
    (ho : o.op = .call { callee := .builtin .append, args := #[s, x], argTypes := #[t, t] }) (vs vx : Value) (hs : a.eval s = vs) (hx : a.eval x = vx) (v' : Value) (w' : World)
    (hrun : (Builtin.append_ #[t, t] o.type #[vs, vx]).run P w = .ok v' w') (h : K (a.put o.dst v') w') : o.wp P a w K Q := by
  unfold Oper.wp execOp
  simp only [ho, resolve, invoke, builtin, Sem.run_bind, Sem.run_pure, Result.andThen_ok, List.map_toArray, List.map_cons, List.map_nil, hs, hx, hrun]
  exact h
theorem back_out (h : Hd) (A : Option Addr) (m c : Nat) (w : World) (hg : Gl w) (hl : longH h = true ∨ 600 < m) (hm : (m : Int) ≤ 9223372036854775807) : Calls Tryd.prog 4 #[.agg (hv h), .slice A m c] w fun e w' => e = .returned (.bool true) ∧ Below w.heap.size w w' := by
  obtain ⟨W, hW⟩ : ∃ W, W = w.alloc (.cells (hv h) 23) := ⟨_, rfl⟩
  have hBW : Below w.heap.size w W := by rw [hW]; exact below_alloc (Below.refl _ _) _
  have hbox : Box W w.heap.size h := by rw [hW]; exact ⟨alloc_self _ _⟩
  have HA := Aside0.mk (alive_calls W (hg.next hBW))
  obtain ⟨l, hle⟩ : ∃ l, l = longH h := ⟨_, rfl⟩
  have HL : Aside0 (∀ w, Calls Tryd.prog 8 #[.agg (hv h)] w fun e w' => e = .returned (.bool l) ∧ Below w.heap.size w w') := ⟨fun w => hle ▸ long_calls h w⟩
  rw [← hle] at hl
  have HW := Aside0.mk hW
  have HB := Aside0.mk (And.intro hBW (And.intro hbox (hg.next hBW)))
  clear hBW hbox hW hg hle
  unfold hv at HW HL
  unfold hv
  cases l with
  | true =>
    clear hl
    go_enter Tryd.func4, Tryd.ntmps4
    go_upto_region 1 with fail
    rw [← HW.out]
    go_upto_region 3 with (go_at_call 7; refine HA.out.mono ?_; rintro e w1 ⟨rfl, hb1⟩; have HB1 := Aside0.mk hb1; clear hb1)
    have HBB : Aside0 (Below w.heap.size w w1 ∧ Box w1 w.heap.size h ∧ Gl w1) := ⟨HB.out.1.trans (HB1.out.mono HB.out.1.size), HB.out.2.1.below HB1.out, HB.out.2.2.next HB1.out⟩
    obtain ⟨c0, c1, c2, c3, c4, c5, c6, c7, c8, c9, c10, c11⟩ := HBB.out.2.1.all
    clear HB HB1 HA
    go_wp2_with (go_at_call 8; refine (HL.out _).mono ?_; rintro e w2 ⟨rfl, hb2⟩; have HB2 := Aside0.mk hb2; clear hb2)
    go_ret
    exact ⟨rfl, HBB.out.1.trans (HB2.out.mono HBB.out.1.size)⟩
  | false =>
    have hm6 : (600 : Int) < (m : Int) := by have := hl.resolve_left (by simp); omega
    clear hl
    go_enter Tryd.func4, Tryd.ntmps4
    go_upto_region 1 with fail
    rw [← HW.out]
    go_upto_region 3 with (go_at_call 7; refine HA.out.mono ?_; rintro e w1 ⟨rfl, hb1⟩; have HB1 := Aside0.mk hb1; clear hb1)
    have HBB : Aside0 (Below w.heap.size w w1 ∧ Box w1 w.heap.size h ∧ Gl w1) := ⟨HB.out.1.trans (HB1.out.mono HB.out.1.size), HB.out.2.1.below HB1.out, HB.out.2.2.next HB1.out⟩
    obtain ⟨c0, c1, c2, c3, c4, c5, c6, c7, c8, c9, c10, c11⟩ := HBB.out.2.1.all
    clear HB HB1 HA
    go_wp2_with (go_at_call 8; refine (HL.out _).mono ?_; rintro e w2 ⟨rfl, hb2⟩; have HB2 := Aside0.mk hb2; clear hb2)
    go_ret
    exact ⟨rfl, HBB.out.1.trans (HB2.out.mono HBB.out.1.size)⟩
theorem takeH_main {xs : List Int} (hl : 512 ≤ xs.length) (hs : summed xs = true) (hm : fld xs 257 6 = fresh) : mainH xs false = takeH xs := by
  unfold takeH mainH
  rw [if_neg (by omega), hs, if_neg (by decide), if_pos (.inl hm)]
  rfl
theorem back_facts (h : Hd) (hS : Small h) (hE : headE h = none) (b : List Int) : summed (headB h ++ b) = true ∧ fld (headB h ++ b) 257 6 = fresh := by
  obtain ⟨hl, hf8, hsum, hfl⟩ := headB_fields h hS hE
  obtain ⟨hn, ht, hk⟩ := body_fields h hS hE
  refine ⟨?_, ?_⟩
  · unfold summed
    rw [fld_app (by rw [hl]; decide), sumH_app (by omega), headB_summed h hS hE]
    exact decide_eq_true rfl
  · rw [fld_app (by rw [hl]; decide), hfl 257 6 (by omega)]
    exact (ht 2 (by omega)).trans (show txt ustar 6 = fresh by decide +kernel)
set_option maxHeartbeats 1000000 in
theorem back_in (h : Hd) (hw : WF h) (A : Option Addr) (m c : Nat) (b : List Int) (w : World) (hg : Gl w) (hl : longH h = false) (hm : m ≤ 600) (hC : (Kd.int .u8).C w A m b) (hbl : b.length = m) (hbb : ∀ x ∈ b, 0 ≤ x ∧ x < 256) : Calls Tryd.prog 4 #[.agg (hv h), .slice A m c] w fun e w' => e = .returned (.bool true) ∧ Below w.heap.size w w' := by
  have hS := small_of hw hl
  obtain ⟨W, hW⟩ : ∃ W, W = w.alloc (.cells (hv h) 23) := ⟨_, rfl⟩
  have hBW : Below w.heap.size w W := by rw [hW]; exact below_alloc (Below.refl _ _) _
  have hbox : Box W w.heap.size h := by rw [hW]; exact ⟨alloc_self _ _⟩
  have HA := Aside0.mk (alive_calls W (hg.next hBW))
  have HL : Aside0 (∀ w, Calls Tryd.prog 8 #[.agg (hv h)] w fun e w' => e = .returned (.bool false) ∧ Below w.heap.size w w') := ⟨fun w => hl ▸ long_calls h w⟩
  have HW := Aside0.mk hW
  have HB := Aside0.mk (And.intro hBW (And.intro hbox (hg.next hBW)))
  have HS := Aside0.mk hS
  have HCb : Aside0 (∀ w', Below w.heap.size w w' → (Kd.int .u8).C w' A m b) := ⟨fun w' hb => Kd.C_below hC hb⟩
  have HBb := Aside0.mk (And.intro hbl hbb)
  have hm6 : ¬ (600 : Int) < (m : Int) := by omega
  have HM := Aside0.mk hm
  cases hE : headE h with
  | some e0 =>
    have HP : Aside0 (∀ w, Gl w → Calls Tryd.prog 9 #[.agg (hv h)] w fun e w' => e = .returned (.tuple #[.slice none 0 0, .iface 42 (.int .i64 e0)]) ∧ Below w.heap.size w w') := ⟨fun w hg => putH_no h hS w hg e0 hE⟩
    clear hBW hbox hW hg hl hw hS hE hC hbl hbb hm
    have u1 := Tryd.underlying28
    unfold hv at HW HL HP
    unfold hv
    go_enter Tryd.func4, Tryd.ntmps4
    go_upto_region 1 with fail
    rw [← HW.out]
    go_upto_region 3 with (go_at_call 7; refine HA.out.mono ?_; rintro e w1 ⟨rfl, hb1⟩; have HB1 := Aside0.mk hb1; clear hb1)
    have HBB : Aside0 (Below w.heap.size w w1 ∧ Box w1 w.heap.size h ∧ Gl w1) := ⟨HB.out.1.trans (HB1.out.mono HB.out.1.size), HB.out.2.1.below HB1.out, HB.out.2.2.next HB1.out⟩
    obtain ⟨c0, c1, c2, c3, c4, c5, c6, c7, c8, c9, c10, c11⟩ := HBB.out.2.1.all
    clear HB HB1 HA
    go_upto_region 5 with (go_at_call 8; refine (HL.out _).mono ?_; rintro e w2 ⟨rfl, hb2⟩; have HB2 := Aside0.mk hb2; clear hb2)
    clear c0 c1 c2 c3 c4 c5 c6 c7 c8 c9 c10 c11
    have HBC : Aside0 (Below w.heap.size w w2 ∧ Box w2 w.heap.size h ∧ Gl w2) := ⟨HBB.out.1.trans (HB2.out.mono HBB.out.1.size), HBB.out.2.1.below HB2.out, HBB.out.2.2.next HB2.out⟩
    obtain ⟨c0, c1, c2, c3, c4, c5, c6, c7, c8, c9, c10, c11⟩ := HBC.out.2.1.all
    go_wp2_with (go_at_call 9; refine (HP.out _ HBC.out.2.2).mono ?_; rintro e w3 ⟨rfl, hb3⟩; have HB3 := Aside0.mk hb3; clear hb3)
    go_ret
    exact ⟨rfl, HBC.out.1.trans (HB3.out.mono HBC.out.1.size)⟩
  | none =>
    have HP : Aside0 (∀ w, Gl w → Calls Tryd.prog 9 #[.agg (hv h)] w fun e w' => ∃ gB, e = .returned (.tuple #[.slice (some ⟨gB, 0, none⟩) 512 512, .nilIface]) ∧ Row w' gB (headB h) ∧ w.heap.size ≤ gB ∧ Below w.heap.size w w') := ⟨fun w hg => putH_yes h hS w hg hE⟩
    have HE := Aside0.mk hE
    clear hBW hbox hW hg hl hw hS hE hC hbl hbb hm
    unfold hv at HW HL HP
    unfold hv
    go_enter Tryd.func4, Tryd.ntmps4
    go_upto_region 1 with fail
    rw [← HW.out]
    go_upto_region 3 with (go_at_call 7; refine HA.out.mono ?_; rintro e w1 ⟨rfl, hb1⟩; have HB1 := Aside0.mk hb1; clear hb1)
    have HBB : Aside0 (Below w.heap.size w w1 ∧ Box w1 w.heap.size h ∧ Gl w1) := ⟨HB.out.1.trans (HB1.out.mono HB.out.1.size), HB.out.2.1.below HB1.out, HB.out.2.2.next HB1.out⟩
    obtain ⟨c0, c1, c2, c3, c4, c5, c6, c7, c8, c9, c10, c11⟩ := HBB.out.2.1.all
    clear HB HB1 HA
    go_upto_region 5 with (go_at_call 8; refine (HL.out _).mono ?_; rintro e w2 ⟨rfl, hb2⟩; have HB2 := Aside0.mk hb2; clear hb2)
    clear c0 c1 c2 c3 c4 c5 c6 c7 c8 c9 c10 c11
    have HBC : Aside0 (Below w.heap.size w w2 ∧ Box w2 w.heap.size h ∧ Gl w2) := ⟨HBB.out.1.trans (HB2.out.mono HBB.out.1.size), HBB.out.2.1.below HB2.out, HBB.out.2.2.next HB2.out⟩
    obtain ⟨c0, c1, c2, c3, c4, c5, c6, c7, c8, c9, c10, c11⟩ := HBC.out.2.1.all
    clear HBB HB2
    go_upto_region 8 with (go_at_call 9; refine (HP.out _ HBC.out.2.2).mono ?_; rintro e w3 ⟨gB, rfl, hr3, hge, hb3⟩; have HB3 := Aside0.mk (And.intro hr3 (And.intro hge hb3)); clear hr3 hge hb3)
    clear c0 c1 c2 c3 c4 c5 c6 c7 c8 c9 c10 c11
    have hbw3 := HBC.out.1.trans (HB3.out.2.2.mono HBC.out.1.size)
    obtain ⟨gA, cA, w4, hrun, hI, hb4⟩ := append_head w3 gB (headB h) HB3.out.1 (head_len h HS.out HE.out) (head_byte' h HS.out HE.out) A m c b (HCb.out w3 hbw3) HBb.out.1 HBb.out.2 HM.out
    have hrun' := hrun ()
    have hf := back_facts h HS.out HE.out b
    have hg4 : Gl w4 := (HBC.out.2.2.next HB3.out.2.2).next hb4
    have hT := take_main w4 hg4 gA 0 cA _ hI hf.1 hI.lt false (by rw [hf.2]; decide) (.inl hf.2)
    rw [takeH_main (by rw [List.length_append, head_len h HS.out HE.out]; omega) hf.1 hf.2, take_back h HS.out HE.out b] at hT
    rw [show errV ((none, norm h) : Option Int × Hd).1 = .nilIface from rfl] at hT
    have HT := Aside0.mk hT
    have HB4 := Aside0.mk (And.intro (hbw3.trans (hb4.mono hbw3.size)) ((HBC.out.2.1.below HB3.out.2.2).below hb4))
    clear hrun hI hb4 hf hg4 hT hbw3 HS HE
    generalize (headB h ++ b).length = nA at *
    by_cases hk : h.ki = 0
    · have hk1 : (h.ki == 0) = true := beq_iff_eq.2 hk
      have hn : hv (norm h) = #[.string h.nm, .int .i64 h.mo, .int .i64 h.ui, .int .i64 h.gi, .int .i64 h.si, .int .i64 h.ti, .int .u8 48, .string h.li, .string h.us, .string h.gr, .int .i64 h.ma, .int .i64 h.mi] := by unfold hv norm; rw [if_pos hk]
      rw [show ((none, norm h) : Option Int × Hd).2 = norm h from rfl, hn] at HT
      have hq : ∀ W : World, (Go.binOp .eql 23 (.agg #[.string h.nm, .int .i64 h.mo, .int .i64 h.ui, .int .i64 h.gi, .int .i64 h.si, .int .i64 h.ti, .int .u8 48, .string h.li, .string h.us, .string h.gr, .int .i64 h.ma, .int .i64 h.mi]) (.agg #[.string h.nm, .int .i64 h.mo, .int .i64 h.ui, .int .i64 h.gi, .int .i64 h.si, .int .i64 h.ti, .int .u8 48, .string h.li, .string h.us, .string h.gr, .int .i64 h.ma, .int .i64 h.mi])).run Tryd.prog W = .ok (.bool true) W := fun W => eq_head { h with ki := 48 } W
      clear hk hn
      go_wp2_with fail
      refine wp_append_run (.tmp 28) (.tmp 29) 26 rfl _ _ rfl rfl _ _ hrun' ?_
      go_upto_region 9 with (go_at_call 15; refine HT.out.mono ?_; rintro e w5 ⟨rfl, hb5⟩; have HB5 := Aside0.mk hb5; clear hb5)
      have HBox5 := Aside0.mk (HB4.out.2.below HB5.out)
      obtain ⟨c0, c1, c2, c3, c4, c5, c6, c7, c8, c9, c10, c11⟩ := (HB4.out.2.below HB5.out).all
      have f6 := blk_frozen (HB4.out.2.below HB5.out).out 6
      have hlt5 : w.heap.size < w5.heap.size := blk_lt (HB4.out.2.below HB5.out).out
      have HBl := Aside0.mk (HB4.out.1.trans (HB5.out.mono HB4.out.1.size))
      go_wp2_with fail
      go_ret
      have b1 := HBl.out.setCell (p := ⟨w.heap.size, 6, none⟩) (Nat.le_refl _) (.int .u8 48)
      exact ⟨rfl, b1.alloc b1.size _⟩
    · have hk1 : (h.ki == 0) = false := beq_eq_false_iff_ne.2 hk
      have hn : hv (norm h) = #[.string h.nm, .int .i64 h.mo, .int .i64 h.ui, .int .i64 h.gi, .int .i64 h.si, .int .i64 h.ti, .int .u8 h.ki, .string h.li, .string h.us, .string h.gr, .int .i64 h.ma, .int .i64 h.mi] := by unfold hv norm; rw [if_neg hk]
      rw [show ((none, norm h) : Option Int × Hd).2 = norm h from rfl, hn] at HT
      have hq : ∀ W : World, (Go.binOp .eql 23 (.agg #[.string h.nm, .int .i64 h.mo, .int .i64 h.ui, .int .i64 h.gi, .int .i64 h.si, .int .i64 h.ti, .int .u8 h.ki, .string h.li, .string h.us, .string h.gr, .int .i64 h.ma, .int .i64 h.mi]) (.agg #[.string h.nm, .int .i64 h.mo, .int .i64 h.ui, .int .i64 h.gi, .int .i64 h.si, .int .i64 h.ti, .int .u8 h.ki, .string h.li, .string h.us, .string h.gr, .int .i64 h.ma, .int .i64 h.mi])).run Tryd.prog W = .ok (.bool true) W := fun W => eq_head h W
      clear hk hn
      go_wp2_with fail
      refine wp_append_run (.tmp 28) (.tmp 29) 26 rfl _ _ rfl rfl _ _ hrun' ?_
      go_upto_region 9 with (go_at_call 15; refine HT.out.mono ?_; rintro e w5 ⟨rfl, hb5⟩; have HB5 := Aside0.mk hb5; clear hb5)
      have HBox5 := Aside0.mk (HB4.out.2.below HB5.out)
      obtain ⟨c0, c1, c2, c3, c4, c5, c6, c7, c8, c9, c10, c11⟩ := (HB4.out.2.below HB5.out).all
      have hlt5 : w.heap.size < w5.heap.size := blk_lt (HB4.out.2.below HB5.out).out
      have HBl := Aside0.mk (HB4.out.1.trans (HB5.out.mono HB4.out.1.size))
      go_wp2_with fail
      go_ret
      exact ⟨rfl, HBl.out.alloc HBl.out.size _⟩
theorem back_walk (nm : ByteArray) (mo ui gi si ti ki : Int) (li us gr : ByteArray) (ma mi : Int) (A : Option Addr) (m c : Nat) (zs : List Int) (W : World) (z0 : nm.size ≤ maxLen) (h1 : (Lit.int .i64 mo).wf = true) (h2 : (Lit.int .i64 ui).wf = true) (h3 : (Lit.int .i64 gi).wf = true) (h4 : (Lit.int .i64 si).wf = true) (h5 : (Lit.int .i64 ti).wf = true) (h6 : (Lit.int .u8 ki).wf = true) (z7 : li.size ≤ maxLen) (z8 : us.size ≤ maxLen) (z9 : gr.size ≤ maxLen) (h10 : (Lit.int .i64 ma).wf = true) (h11 : (Lit.int .i64 mi).wf = true) (hr : IsRow .u8 W A m c zs) (hsz : m * 1 ≤ 140737488351232)
    (hL : laidMetH Tryd.prog Rows.headBackRow.laid W) :
    Calls Tryd.prog 4 #[.agg #[.string nm, .int .i64 mo, .int .i64 ui, .int .i64 gi, .int .i64 si, .int .i64 ti, .int .u8 ki, .string li, .string us, .string gr, .int .i64 ma, .int .i64 mi], .slice A m c] W fun e w' => e = .returned (.bool true) ∧ Below W.heap.size W w' := by
  have hg := gl_of16 hL
  obtain ⟨l, hl, hc, hC, hwf⟩ := row_C hr
  by_cases hm : m ≤ 600
  · cases hlo : longH ⟨nm, mo, ui, gi, si, ti, ki, li, us, gr, ma, mi⟩ with
    | true => exact back_out ⟨nm, mo, ui, gi, si, ti, ki, li, us, gr, ma, mi⟩ A m c W hg (.inl hlo) (by omega)
    | false => exact back_in ⟨nm, mo, ui, gi, si, ti, ki, li, us, gr, ma, mi⟩ (wf_of h1 h2 h3 h4 h5 h6 h10 h11) A m c l W hg hlo hm (hl ▸ hC) hl (fun x hx => wf_u8 (hwf x hx))
  · exact back_out ⟨nm, mo, ui, gi, si, ti, ki, li, us, gr, ma, mi⟩ A m c W hg (.inr (by omega)) (by omega)
end Go.Proofs.YtiioiikcjaiajaaDoor.My
