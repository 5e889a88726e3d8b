/- MyDocTake, MyDocTakeP, MyDocText, MyDocTextP, MyDocA, MyDocFits, MyRefPut, MyRefH, MyDocPut, MyDocPuc: laid into one text by merge.py. -/
import Derived.Test.YtiioiikcjaiajaaDoorPHeadPutsx0
import Derived.Test.YtiioiikcjaiajaaDoorMyAllH
import Derived.Test.YtiioiikcjaiajaaDoorPHeadPutsx2
import Derived.Test.YtiioiikcjaiajaaDoorPHeadPutsx3
import Derived.Laws.IdiomCopy
import Derived.StillTailTactics

namespace Go.Proofs.YtiioiikcjaiajaaDoor.MyDocK
open Go.Proofs.YtiioiikcjaiajaaDoor.PHeadPuts
open Go.RowKit Go.Proofs.YtiioiikcjaiajaaDoorW.PrintWords Go.Proofs.YtiioiikcjaiajaaDoorW.PrintLast Go.Proofs.YtiioiikcjaiajaaDoorW.PrintMore
attribute [local go_sem] max2_int min2_int max_two min_two max_three min_three max_four min_four   -- for this text's walks alone
set_option linter.unusedVariables false
set_option linter.unusedSimpArgs false

/-! ### crossdockref17_Take: function 38 -/
mutual
def crossdockref17_Take.l0 : Nat → Bool → Int → Bool → List Int → Int → Int → Option (Int × Int)
  | 0, _, _, _, _, _, _ => none
  | k + 1, x4, x5, x6, x24, x25, x26 => if x26 < x25 then (if 0 ≤ x26 then (if x26 < (x24.length : Int) then (if x26 = 0 then (if x4 = true then (if x6 = true then (crossdockref17_Take.l0 k x4 (IntKind.u64.wrap ((IntKind.u64.wrap (x5 * 256)) + (IntKind.u64.wrap (127 - (Int.tmod (IntKind.u64.wrap (rd x24 x26)) 128))))) true x24 x25 (wrap64 (x26 + 1))) else (crossdockref17_Take.l0 k x4 (IntKind.u64.wrap ((IntKind.u64.wrap (x5 * 256)) + (IntKind.u64.wrap (127 - (Int.tmod (IntKind.u64.wrap (rd x24 x26)) 128))))) (decide (x5 > (IntKind.u64.wrap (Int.tdiv (IntKind.u64.wrap (9223372036854775807 - (IntKind.u64.wrap (127 - (Int.tmod (IntKind.u64.wrap (rd x24 x26)) 128))))) 256)))) x24 x25 (wrap64 (x26 + 1)))) else (if x6 = true then (crossdockref17_Take.l0 k x4 (IntKind.u64.wrap ((IntKind.u64.wrap (x5 * 256)) + (Int.tmod (IntKind.u64.wrap (rd x24 x26)) 128))) true x24 x25 (wrap64 (x26 + 1))) else (crossdockref17_Take.l0 k x4 (IntKind.u64.wrap ((IntKind.u64.wrap (x5 * 256)) + (Int.tmod (IntKind.u64.wrap (rd x24 x26)) 128))) (decide (x5 > (IntKind.u64.wrap (Int.tdiv (IntKind.u64.wrap (9223372036854775807 - (Int.tmod (IntKind.u64.wrap (rd x24 x26)) 128))) 256)))) x24 x25 (wrap64 (x26 + 1))))) else (if x4 = true then (if x6 = true then (crossdockref17_Take.l0 k x4 (IntKind.u64.wrap ((IntKind.u64.wrap (x5 * 256)) + (IntKind.u64.wrap (255 - (IntKind.u64.wrap (rd x24 x26)))))) true x24 x25 (wrap64 (x26 + 1))) else (crossdockref17_Take.l0 k x4 (IntKind.u64.wrap ((IntKind.u64.wrap (x5 * 256)) + (IntKind.u64.wrap (255 - (IntKind.u64.wrap (rd x24 x26)))))) (decide (x5 > (IntKind.u64.wrap (Int.tdiv (IntKind.u64.wrap (9223372036854775807 - (IntKind.u64.wrap (255 - (IntKind.u64.wrap (rd x24 x26)))))) 256)))) x24 x25 (wrap64 (x26 + 1)))) else (if x6 = true then (crossdockref17_Take.l0 k x4 (IntKind.u64.wrap ((IntKind.u64.wrap (x5 * 256)) + (IntKind.u64.wrap (rd x24 x26)))) true x24 x25 (wrap64 (x26 + 1))) else (crossdockref17_Take.l0 k x4 (IntKind.u64.wrap ((IntKind.u64.wrap (x5 * 256)) + (IntKind.u64.wrap (rd x24 x26)))) (decide (x5 > (IntKind.u64.wrap (Int.tdiv (IntKind.u64.wrap (9223372036854775807 - (IntKind.u64.wrap (rd x24 x26)))) 256)))) x24 x25 (wrap64 (x26 + 1)))))) else (none)) else (none)) else (if x6 = true then (some (0, 1)) else (if x4 = true then (some (wrap64 ((wrap64 (-(wrap64 (x5)))) - 1), 0)) else (some (wrap64 (x5), 0))))
def crossdockref17_Take.j2 : Nat → List Int → Int → Option (Int × Int)
  | 0, _, _ => none
  | k + 1, x0, x10 => crossdockref17_Take.l2 k x0 x10 0 false
def crossdockref17_Take.l2 : Nat → List Int → Int → Int → Bool → Option (Int × Int)
  | 0, _, _, _, _ => none
  | k + 1, x0, x10, x11, x12 => if x10 < (x0.length : Int) then (if 0 ≤ x10 then (if (rd x0 x10) ≥ 48 then (crossdockref17_Take.j4 k x0 x10 x11 x12 (decide ((rd x0 x10) < 56))) else (crossdockref17_Take.j4 k x0 x10 x11 x12 false)) else (none)) else (crossdockref17_Take.j4 k x0 x10 x11 x12 false)
def crossdockref17_Take.j4 : Nat → List Int → Int → Int → Bool → Bool → Option (Int × Int)
  | 0, _, _, _, _, _ => none
  | k + 1, x0, x10, x11, x12, x97 => if x97 = true then (if x12 = true then (crossdockref17_Take.l2 k x0 (wrap64 (x10 + 1)) x11 true) else (if x11 > 1152921504606846975 then (crossdockref17_Take.l2 k x0 (wrap64 (x10 + 1)) x11 (decide (x11 > 1152921504606846975))) else (if 0 ≤ x10 then (if x10 < (x0.length : Int) then (crossdockref17_Take.l2 k x0 (wrap64 (x10 + 1)) (wrap64 ((wrap64 (x11 * 8)) + (((rd x0 x10) - 48) % 256))) (decide (x11 > 1152921504606846975))) else (none)) else (none)))) else (crossdockref17_Take.l3 k x0 x10 x11 x12)
def crossdockref17_Take.j6 : Nat → List Int → Int → Int → Bool → Option (Int × Int)
  | 0, _, _, _, _ => none
  | k + 1, x0, x10, x11, x12 => if x10 < (x0.length : Int) then (some (0, 2)) else (if x12 = true then (some (0, 1)) else (some (x11, 0)))
def crossdockref17_Take.l3 : Nat → List Int → Int → Int → Bool → Option (Int × Int)
  | 0, _, _, _, _ => none
  | k + 1, x0, x10, x11, x12 => if x10 < (x0.length : Int) then (if 0 ≤ x10 then (if (rd x0 x10) = 32 then (crossdockref17_Take.l3 k x0 (wrap64 (x10 + 1)) x11 x12) else (if (rd x0 x10) = 0 then (crossdockref17_Take.l3 k x0 (wrap64 (x10 + 1)) x11 x12) else (crossdockref17_Take.j6 k x0 x10 x11 x12))) else (none)) else (crossdockref17_Take.j6 k x0 x10 x11 x12)
def crossdockref17_Take.l1 : Nat → List Int → Int → Option (Int × Int)
  | 0, _, _ => none
  | k + 1, x0, x10 => if x10 < (x0.length : Int) then (if 0 ≤ x10 then (if (rd x0 x10) = 32 then (crossdockref17_Take.l1 k x0 (wrap64 (x10 + 1))) else (crossdockref17_Take.j2 k x0 x10)) else (none)) else (crossdockref17_Take.j2 k x0 x10)
end
def crossdockref17_Take.f (k : Nat) (l0 : List Int) : Option (Int × Int) := if (l0.length : Int) = 0 then (some (0, 2)) else (if 0 < (l0.length : Int) then (if (rd l0 0) ≥ 128 then (crossdockref17_Take.l0 k (decide ((rd l0 0) ≥ 192)) 0 false l0 (l0.length : Int) 0) else (crossdockref17_Take.l1 k l0 0)) else (none))
theorem crossdockref17_Take.mono_l : ∀ k, (∀ y0 y1 y2 y3 y4 y5, LeO (crossdockref17_Take.l0 k y0 y1 y2 y3 y4 y5) (crossdockref17_Take.l0 (k + 1) y0 y1 y2 y3 y4 y5)) ∧ (∀ y0 y1, LeO (crossdockref17_Take.j2 k y0 y1) (crossdockref17_Take.j2 (k + 1) y0 y1)) ∧ (∀ y0 y1 y2 y3, LeO (crossdockref17_Take.l2 k y0 y1 y2 y3) (crossdockref17_Take.l2 (k + 1) y0 y1 y2 y3)) ∧ (∀ y0 y1 y2 y3 y4, LeO (crossdockref17_Take.j4 k y0 y1 y2 y3 y4) (crossdockref17_Take.j4 (k + 1) y0 y1 y2 y3 y4)) ∧ (∀ y0 y1 y2 y3, LeO (crossdockref17_Take.j6 k y0 y1 y2 y3) (crossdockref17_Take.j6 (k + 1) y0 y1 y2 y3)) ∧ (∀ y0 y1 y2 y3, LeO (crossdockref17_Take.l3 k y0 y1 y2 y3) (crossdockref17_Take.l3 (k + 1) y0 y1 y2 y3)) ∧ (∀ y0 y1, LeO (crossdockref17_Take.l1 k y0 y1) (crossdockref17_Take.l1 (k + 1) y0 y1))
  | 0 => ⟨fun _ _ _ _ _ _ r h => by simp [crossdockref17_Take.l0] at h, fun _ _ r h => by simp [crossdockref17_Take.j2] at h, fun _ _ _ _ r h => by simp [crossdockref17_Take.l2] at h, fun _ _ _ _ _ r h => by simp [crossdockref17_Take.j4] at h, fun _ _ _ _ r h => by simp [crossdockref17_Take.j6] at h, fun _ _ _ _ r h => by simp [crossdockref17_Take.l3] at h, fun _ _ r h => by simp [crossdockref17_Take.l1] at h⟩
  | k + 1 => by
    obtain ⟨ih0, ih1, ih2, ih3, ih4, ih5, ih6⟩ := crossdockref17_Take.mono_l k
    refine ⟨?_, ?_, ?_, ?_, ?_, ?_, ?_⟩
    · intro y0 y1 y2 y3 y4 y5
      unfold crossdockref17_Take.l0
      repeat' first
      | (with_reducible exact ih0 _ _ _ _ _ _)
      | (with_reducible exact ih1 _ _)
      | (with_reducible exact ih2 _ _ _ _)
      | (with_reducible exact ih3 _ _ _ _ _)
      | (with_reducible exact ih4 _ _ _ _)
      | (with_reducible exact ih5 _ _ _ _)
      | (with_reducible exact ih6 _ _)
      | (with_reducible exact LeO.refl _)
      | (with_reducible exact LeO.none _)
      | (with_reducible refine LeO.ite ?_ ?_)
      | (with_reducible refine LeO.bind ?_ (fun _ => ?_))
      | exact ih0 _ _ _ _ _ _
      | exact ih1 _ _
      | exact ih2 _ _ _ _
      | exact ih3 _ _ _ _ _
      | exact ih4 _ _ _ _
      | exact ih5 _ _ _ _
      | exact ih6 _ _
      | exact LeO.none _
      | refine LeO.ite ?_ ?_
      | refine LeO.bind ?_ (fun _ => ?_)
    · intro y0 y1
      unfold crossdockref17_Take.j2
      repeat' first
      | (with_reducible exact ih0 _ _ _ _ _ _)
      | (with_reducible exact ih1 _ _)
      | (with_reducible exact ih2 _ _ _ _)
      | (with_reducible exact ih3 _ _ _ _ _)
      | (with_reducible exact ih4 _ _ _ _)
      | (with_reducible exact ih5 _ _ _ _)
      | (with_reducible exact ih6 _ _)
      | (with_reducible exact LeO.refl _)
      | (with_reducible exact LeO.none _)
      | (with_reducible refine LeO.ite ?_ ?_)
      | (with_reducible refine LeO.bind ?_ (fun _ => ?_))
      | exact ih0 _ _ _ _ _ _
      | exact ih1 _ _
      | exact ih2 _ _ _ _
      | exact ih3 _ _ _ _ _
      | exact ih4 _ _ _ _
      | exact ih5 _ _ _ _
      | exact ih6 _ _
      | exact LeO.none _
      | refine LeO.ite ?_ ?_
      | refine LeO.bind ?_ (fun _ => ?_)
    · intro y0 y1 y2 y3
      unfold crossdockref17_Take.l2
      repeat' first
      | (with_reducible exact ih0 _ _ _ _ _ _)
      | (with_reducible exact ih1 _ _)
      | (with_reducible exact ih2 _ _ _ _)
      | (with_reducible exact ih3 _ _ _ _ _)
      | (with_reducible exact ih4 _ _ _ _)
      | (with_reducible exact ih5 _ _ _ _)
      | (with_reducible exact ih6 _ _)
      | (with_reducible exact LeO.refl _)
      | (with_reducible exact LeO.none _)
      | (with_reducible refine LeO.ite ?_ ?_)
      | (with_reducible refine LeO.bind ?_ (fun _ => ?_))
      | exact ih0 _ _ _ _ _ _
      | exact ih1 _ _
      | exact ih2 _ _ _ _
      | exact ih3 _ _ _ _ _
      | exact ih4 _ _ _ _
      | exact ih5 _ _ _ _
      | exact ih6 _ _
      | exact LeO.none _
      | refine LeO.ite ?_ ?_
      | refine LeO.bind ?_ (fun _ => ?_)
    · intro y0 y1 y2 y3 y4
      unfold crossdockref17_Take.j4
      repeat' first
      | (with_reducible exact ih0 _ _ _ _ _ _)
      | (with_reducible exact ih1 _ _)
      | (with_reducible exact ih2 _ _ _ _)
      | (with_reducible exact ih3 _ _ _ _ _)
      | (with_reducible exact ih4 _ _ _ _)
      | (with_reducible exact ih5 _ _ _ _)
      | (with_reducible exact ih6 _ _)
      | (with_reducible exact LeO.refl _)
      | (with_reducible exact LeO.none _)
      | (with_reducible refine LeO.ite ?_ ?_)
      | (with_reducible refine LeO.bind ?_ (fun _ => ?_))
      | exact ih0 _ _ _ _ _ _
      | exact ih1 _ _
      | exact ih2 _ _ _ _
      | exact ih3 _ _ _ _ _
      | exact ih4 _ _ _ _
      | exact ih5 _ _ _ _
      | exact ih6 _ _
      | exact LeO.none _
      | refine LeO.ite ?_ ?_
      | refine LeO.bind ?_ (fun _ => ?_)
    · intro y0 y1 y2 y3
      unfold crossdockref17_Take.j6
      repeat' first
      | (with_reducible exact ih0 _ _ _ _ _ _)
      | (with_reducible exact ih1 _ _)
      | (with_reducible exact ih2 _ _ _ _)
      | (with_reducible exact ih3 _ _ _ _ _)
      | (with_reducible exact ih4 _ _ _ _)
      | (with_reducible exact ih5 _ _ _ _)
      | (with_reducible exact ih6 _ _)
      | (with_reducible exact LeO.refl _)
      | (with_reducible exact LeO.none _)
      | (with_reducible refine LeO.ite ?_ ?_)
      | (with_reducible refine LeO.bind ?_ (fun _ => ?_))
      | exact ih0 _ _ _ _ _ _
      | exact ih1 _ _
      | exact ih2 _ _ _ _
      | exact ih3 _ _ _ _ _
      | exact ih4 _ _ _ _
      | exact ih5 _ _ _ _
      | exact ih6 _ _
      | exact LeO.none _
      | refine LeO.ite ?_ ?_
      | refine LeO.bind ?_ (fun _ => ?_)
    · intro y0 y1 y2 y3
      unfold crossdockref17_Take.l3
      repeat' first
      | (with_reducible exact ih0 _ _ _ _ _ _)
      | (with_reducible exact ih1 _ _)
      | (with_reducible exact ih2 _ _ _ _)
      | (with_reducible exact ih3 _ _ _ _ _)
      | (with_reducible exact ih4 _ _ _ _)
      | (with_reducible exact ih5 _ _ _ _)
      | (with_reducible exact ih6 _ _)
      | (with_reducible exact LeO.refl _)
      | (with_reducible exact LeO.none _)
      | (with_reducible refine LeO.ite ?_ ?_)
      | (with_reducible refine LeO.bind ?_ (fun _ => ?_))
      | exact ih0 _ _ _ _ _ _
      | exact ih1 _ _
      | exact ih2 _ _ _ _
      | exact ih3 _ _ _ _ _
      | exact ih4 _ _ _ _
      | exact ih5 _ _ _ _
      | exact ih6 _ _
      | exact LeO.none _
      | refine LeO.ite ?_ ?_
      | refine LeO.bind ?_ (fun _ => ?_)
    · intro y0 y1
      unfold crossdockref17_Take.l1
      repeat' first
      | (with_reducible exact ih0 _ _ _ _ _ _)
      | (with_reducible exact ih1 _ _)
      | (with_reducible exact ih2 _ _ _ _)
      | (with_reducible exact ih3 _ _ _ _ _)
      | (with_reducible exact ih4 _ _ _ _)
      | (with_reducible exact ih5 _ _ _ _)
      | (with_reducible exact ih6 _ _)
      | (with_reducible exact LeO.refl _)
      | (with_reducible exact LeO.none _)
      | (with_reducible refine LeO.ite ?_ ?_)
      | (with_reducible refine LeO.bind ?_ (fun _ => ?_))
      | exact ih0 _ _ _ _ _ _
      | exact ih1 _ _
      | exact ih2 _ _ _ _
      | exact ih3 _ _ _ _ _
      | exact ih4 _ _ _ _
      | exact ih5 _ _ _ _
      | exact ih6 _ _
      | exact LeO.none _
      | refine LeO.ite ?_ ?_
      | refine LeO.bind ?_ (fun _ => ?_)
theorem crossdockref17_Take.mono : ∀ a0 k, LeO (crossdockref17_Take.f k a0) (crossdockref17_Take.f (k + 1) a0) := by
  intro a0 k
  obtain ⟨ih0, ih1, ih2, ih3, ih4, ih5, ih6⟩ := crossdockref17_Take.mono_l k
  unfold crossdockref17_Take.f
  repeat' first
      | (with_reducible exact ih0 _ _ _ _ _ _)
      | (with_reducible exact ih1 _ _)
      | (with_reducible exact ih2 _ _ _ _)
      | (with_reducible exact ih3 _ _ _ _ _)
      | (with_reducible exact ih4 _ _ _ _)
      | (with_reducible exact ih5 _ _ _ _)
      | (with_reducible exact ih6 _ _)
      | (with_reducible exact LeO.refl _)
      | (with_reducible exact LeO.none _)
      | (with_reducible refine LeO.ite ?_ ?_)
      | (with_reducible refine LeO.bind ?_ (fun _ => ?_))
      | exact ih0 _ _ _ _ _ _
      | exact ih1 _ _
      | exact ih2 _ _ _ _
      | exact ih3 _ _ _ _ _
      | exact ih4 _ _ _ _
      | exact ih5 _ _ _ _
      | exact ih6 _ _
      | exact LeO.none _
      | refine LeO.ite ?_ ?_
      | refine LeO.bind ?_ (fun _ => ?_)
set_option maxHeartbeats 8000000 in
set_option maxRecDepth 100000 in
theorem crossdockref17_Take.calls (k : Nat) (A0 : Option Addr) (c0 : Nat) (l0 : List Int) (r1 : Int) (r2 : Int) (w : World) (hr0 : Kd.C (Kd.int .u8) w A0 l0.length l0) (hc0 : l0.length ≤ c0) (h : crossdockref17_Take.f k l0 = some (r1, r2)) :
    Calls Tryd.prog 38 #[.slice A0 l0.length c0] w fun e w' => e = .returned (.tuple #[.int .i64 r1, .int .i64 r2]) ∧ Drawn0 w w' := by
  have HR0 := Aside0.mk hr0
  have HC0 := Aside0.mk hc0
  clear hr0 hc0
  have H : (if (l0.length : Int) = 0 then (some (0, 2)) else (if 0 < (l0.length : Int) then (if (rd l0 0) ≥ 128 then (crossdockref17_Take.l0 k (decide ((rd l0 0) ≥ 192)) 0 false l0 (l0.length : Int) 0) else (crossdockref17_Take.l1 k l0 0)) else (none))) = some (r1, r2) := h
  clear h
  by_cases c2 : (l0.length : Int) = 0
  · rw [if_pos c2] at H
    have c2b0 : ((l0.length : Int) == 0) = true := beq_iff_eq.mpr c2
    have c2b1 : ((l0.length : Int) != 0) = false := bne_eq_false_iff_eq.mpr c2
    clear c2
    simp only [Option.some.injEq, Prod.mk.injEq] at H
    obtain ⟨rfl, rfl⟩ := H
    go_enter Tryd.func38, Tryd.ntmps38
    go_wp2
    go_ret2
    exact ⟨by first | rfl | (simp; done) | (simp [*]; done), by repeat (first | exact Drawn0.refl _ | apply Drawn0.step)⟩
  · rw [if_neg c2] at H
    have c2b0 : ((l0.length : Int) == 0) = false := beq_eq_false_iff_ne.mpr c2
    have c2b1 : ((l0.length : Int) != 0) = true := bne_iff_ne.mpr c2
    have c2b2 : ¬ (l0 = []) := fun h_ => c2 (by rw [h_]; rfl)
    by_cases c3 : 0 < (l0.length : Int)
    · rw [if_pos c3] at H
      have c3b0 : decide (0 < (l0.length : Int)) = true := decide_eq_true c3
      have c3b1 : decide (0 < l0.length) = true := decide_eq_true (by omega)
      clear c3
      by_cases c4 : (rd l0 0) ≥ 128
      · rw [if_pos c4] at H
        have c4b0 : decide (128 ≤ (rd l0 0)) = true := decide_eq_true c4
        clear c4
        have H' := Aside0.mk H
        clear H
        have p171 : 0 ≤ (0 : Int) := (by omega)
        have q171 : 0 < (l0.length : Int) := of_decide_eq_true (by first | (with_reducible assumption) | assumption)
        obtain ⟨ad171, e171, hx171_0⟩ := Kd.at_int HR0.out 0 p171 q171
        cases e171
        have qi171 : (0 < l0.length) = True := eq_true (by omega)
        (try rw [show ((0 : Int)).toNat = 0 from rfl] at hx171_0)
        (try rw [Addr.add_zero'] at hx171_0)
        replace p171 := eq_true p171
        replace q171 := eq_true q171
        have p172 : 0 ≤ (0 : Int) := (by omega)
        have q172 : 0 < (l0.length : Int) := of_decide_eq_true (by first | (with_reducible assumption) | assumption)
        obtain ⟨ad172, e172, hx172_0⟩ := Kd.at_int HR0.out 0 p172 q172
        obtain rfl : ad171 = ad172 := (by injection e172)
        have qi172 : (0 < l0.length) = True := eq_true (by omega)
        (try rw [show ((0 : Int)).toNat = 0 from rfl] at hx172_0)
        (try rw [Addr.add_zero'] at hx172_0)
        replace p172 := eq_true p172
        replace q172 := eq_true q172
        go_enter Tryd.func38, Tryd.ntmps38
        go_wp2
        obtain ⟨bel, hbel⟩ : ∃ b : Bool, b = decide ((rd l0 0) ≥ 192) := ⟨_, rfl⟩
        rw [← hbel] at H'
        have hbel2 : decide (192 ≤ (rd l0 0)) = bel := hbel.symm
        rw [hbel2]
        clear hbel hbel2
        cases bel with
        | true =>
          go_loopg [5, 6, 26] k (fun kq v5 v6 v26 w' => ∃ (x5_1 : Int) (x6_1 : Bool) (x26_1 : Int), v5 = .int .u64 x5_1 ∧ v6 = .bool x6_1 ∧ v26 = .int .i64 x26_1 ∧ Aside0 (crossdockref17_Take.l0 kq true x5_1 x6_1 l0 (l0.length : Int) x26_1 = some (r1, r2)) ∧ Aside0 (kq ≤ k) ∧ Drawn0 w w')
          case atStart => exact ⟨(0), (false), (0), (by first | rfl | (simp; done) | (simp [*]; done)), (by first | rfl | (simp; done) | (simp [*]; done)), (by first | rfl | (simp; done) | (simp [*]; done)), H', ⟨Nat.le_refl _⟩, by repeat (first | exact Drawn0.refl _ | apply Drawn0.step)⟩
          case round =>
            clear H'
            try clear p1
            try clear q1
            try clear hx1
            try clear qi1
            try clear c2
            try clear c2b0
            try clear c2b1
            try clear c2b2
            try clear p2
            try clear c3
            try clear c3b0
            try clear c3b1
            try clear c4
            try clear c4b0
            try clear hx171_0
            try clear hx172_0
            try clear p171
            try clear p172
            try clear q171
            try clear q172
            obtain ⟨x5_1, x6_1, x26_1, rfl, rfl, rfl, HA, HK1, ⟨m1, rfl⟩⟩ := hrel
            cases gk with
            | zero => exact absurd HA.out (by simp [crossdockref17_Take.l0])
            | succ k1 =>
              have H := HA.out
              clear HA
              simp only [crossdockref17_Take.l0] at H
              by_cases c5 : x26_1 < (l0.length : Int)
              · rw [if_pos c5] at H
                have c5b0 : decide (x26_1 < (l0.length : Int)) = true := decide_eq_true c5
                clear c5
                by_cases c6 : 0 ≤ x26_1
                · rw [if_pos c6] at H
                  have c6b0 : decide (0 ≤ x26_1) = true := decide_eq_true c6
                  clear c6
                  by_cases c7 : x26_1 < (l0.length : Int)
                  · rw [if_pos c7] at H
                    have c7b0 : decide (x26_1 < (l0.length : Int)) = true := decide_eq_true c7
                    clear c7
                    by_cases c8 : x26_1 = 0
                    · rw [if_pos c8] at H
                      have c8b0 : (x26_1 == 0) = true := beq_iff_eq.mpr c8
                      have c8b1 : (x26_1 != 0) = false := bne_eq_false_iff_eq.mpr c8
                      clear c8
                      have c9 : true = true := rfl
                      · (try rw [if_pos c9] at H)
                        have c9b0 : true = true := c9
                        clear c9
                        by_cases c10 : x6_1 = true
                        · subst c10
                          have H1 : (crossdockref17_Take.l0 k1 true (IntKind.u64.wrap ((IntKind.u64.wrap (x5_1 * 256)) + (IntKind.u64.wrap (127 - (Int.tmod (IntKind.u64.wrap (rd l0 x26_1)) 128))))) true l0 (l0.length : Int) (wrap64 (x26_1 + 1))) = some (r1, r2) := by rw [if_pos rfl] at H; exact H
                          clear H
                          have H := H1
                          clear H1
                          have H' := Aside0.mk H
                          clear H
                          have p173 : 0 ≤ (x26_1 : Int) := of_decide_eq_true (by first | (with_reducible assumption) | assumption)
                          have q173 : x26_1 < (l0.length : Int) := of_decide_eq_true (by first | (with_reducible assumption) | assumption)
                          obtain ⟨ad173, e173, hx173_0⟩ := Kd.at_int HR0.out x26_1 p173 q173
                          obtain rfl : ad171 = ad173 := (by injection e173)
                          replace p173 := eq_true p173
                          replace q173 := eq_true q173
                          go_wp2
                          go_roundg k1
                          case measure => have := HK1.out; omega
                          case rel => exact ⟨(IntKind.u64.wrap ((IntKind.u64.wrap (x5_1 * 256)) + (IntKind.u64.wrap (127 - (Int.tmod (IntKind.u64.wrap (rd l0 x26_1)) 128))))), (true), (wrap64 (x26_1 + 1)), (by first | rfl | (simp; done) | (simp [*]; done)), (by first | rfl | (simp; done) | (simp [*]; done)), (by first | rfl | (simp; done) | (simp [*]; done)), H', ⟨by have := HK1.out; omega⟩, by repeat (first | exact Drawn0.refl _ | apply Drawn0.step)⟩
                        · replace c10 := Bool.eq_false_iff.mpr c10
                          subst c10
                          have H1 : (crossdockref17_Take.l0 k1 true (IntKind.u64.wrap ((IntKind.u64.wrap (x5_1 * 256)) + (IntKind.u64.wrap (127 - (Int.tmod (IntKind.u64.wrap (rd l0 x26_1)) 128))))) (decide (x5_1 > (IntKind.u64.wrap (Int.tdiv (IntKind.u64.wrap (9223372036854775807 - (IntKind.u64.wrap (127 - (Int.tmod (IntKind.u64.wrap (rd l0 x26_1)) 128))))) 256)))) l0 (l0.length : Int) (wrap64 (x26_1 + 1))) = some (r1, r2) := by rw [if_neg (show ¬ (false = true) by decide)] at H; exact H
                          clear H
                          have H := H1
                          clear H1
                          have H' := Aside0.mk H
                          clear H
                          have p173 : 0 ≤ (x26_1 : Int) := of_decide_eq_true (by first | (with_reducible assumption) | assumption)
                          have q173 : x26_1 < (l0.length : Int) := of_decide_eq_true (by first | (with_reducible assumption) | assumption)
                          obtain ⟨ad173, e173, hx173_0⟩ := Kd.at_int HR0.out x26_1 p173 q173
                          obtain rfl : ad171 = ad173 := (by injection e173)
                          replace p173 := eq_true p173
                          replace q173 := eq_true q173
                          go_wp2
                          go_roundg k1
                          case measure => have := HK1.out; omega
                          case rel => exact ⟨(IntKind.u64.wrap ((IntKind.u64.wrap (x5_1 * 256)) + (IntKind.u64.wrap (127 - (Int.tmod (IntKind.u64.wrap (rd l0 x26_1)) 128))))), (decide (x5_1 > (IntKind.u64.wrap (Int.tdiv (IntKind.u64.wrap (9223372036854775807 - (IntKind.u64.wrap (127 - (Int.tmod (IntKind.u64.wrap (rd l0 x26_1)) 128))))) 256)))), (wrap64 (x26_1 + 1)), (by first | rfl | (simp; done) | (simp [*]; done)), (by first | rfl | (simp; done) | (simp [*]; done)), (by first | rfl | (simp; done) | (simp [*]; done)), H', ⟨by have := HK1.out; omega⟩, by repeat (first | exact Drawn0.refl _ | apply Drawn0.step)⟩
                    · rw [if_neg c8] at H
                      have c8b0 : (x26_1 == 0) = false := beq_eq_false_iff_ne.mpr c8
                      have c8b1 : (x26_1 != 0) = true := bne_iff_ne.mpr c8
                      have c12 : true = true := rfl
                      · (try rw [if_pos c12] at H)
                        have c12b0 : true = true := c12
                        clear c12
                        by_cases c13 : x6_1 = true
                        · subst c13
                          have H1 : (crossdockref17_Take.l0 k1 true (IntKind.u64.wrap ((IntKind.u64.wrap (x5_1 * 256)) + (IntKind.u64.wrap (255 - (IntKind.u64.wrap (rd l0 x26_1)))))) true l0 (l0.length : Int) (wrap64 (x26_1 + 1))) = some (r1, r2) := by rw [if_pos rfl] at H; exact H
                          clear H
                          have H := H1
                          clear H1
                          have H' := Aside0.mk H
                          clear H
                          have p173 : 0 ≤ (x26_1 : Int) := of_decide_eq_true (by first | (with_reducible assumption) | assumption)
                          have q173 : x26_1 < (l0.length : Int) := of_decide_eq_true (by first | (with_reducible assumption) | assumption)
                          obtain ⟨ad173, e173, hx173_0⟩ := Kd.at_int HR0.out x26_1 p173 q173
                          obtain rfl : ad171 = ad173 := (by injection e173)
                          replace p173 := eq_true p173
                          replace q173 := eq_true q173
                          go_wp2
                          go_roundg k1
                          case measure => have := HK1.out; omega
                          case rel => exact ⟨(IntKind.u64.wrap ((IntKind.u64.wrap (x5_1 * 256)) + (IntKind.u64.wrap (255 - (IntKind.u64.wrap (rd l0 x26_1)))))), (true), (wrap64 (x26_1 + 1)), (by first | rfl | (simp; done) | (simp [*]; done)), (by first | rfl | (simp; done) | (simp [*]; done)), (by first | rfl | (simp; done) | (simp [*]; done)), H', ⟨by have := HK1.out; omega⟩, by repeat (first | exact Drawn0.refl _ | apply Drawn0.step)⟩
                        · replace c13 := Bool.eq_false_iff.mpr c13
                          subst c13
                          have H1 : (crossdockref17_Take.l0 k1 true (IntKind.u64.wrap ((IntKind.u64.wrap (x5_1 * 256)) + (IntKind.u64.wrap (255 - (IntKind.u64.wrap (rd l0 x26_1)))))) (decide (x5_1 > (IntKind.u64.wrap (Int.tdiv (IntKind.u64.wrap (9223372036854775807 - (IntKind.u64.wrap (255 - (IntKind.u64.wrap (rd l0 x26_1)))))) 256)))) l0 (l0.length : Int) (wrap64 (x26_1 + 1))) = some (r1, r2) := by rw [if_neg (show ¬ (false = true) by decide)] at H; exact H
                          clear H
                          have H := H1
                          clear H1
                          have H' := Aside0.mk H
                          clear H
                          have p173 : 0 ≤ (x26_1 : Int) := of_decide_eq_true (by first | (with_reducible assumption) | assumption)
                          have q173 : x26_1 < (l0.length : Int) := of_decide_eq_true (by first | (with_reducible assumption) | assumption)
                          obtain ⟨ad173, e173, hx173_0⟩ := Kd.at_int HR0.out x26_1 p173 q173
                          obtain rfl : ad171 = ad173 := (by injection e173)
                          replace p173 := eq_true p173
                          replace q173 := eq_true q173
                          go_wp2
                          go_roundg k1
                          case measure => have := HK1.out; omega
                          case rel => exact ⟨(IntKind.u64.wrap ((IntKind.u64.wrap (x5_1 * 256)) + (IntKind.u64.wrap (255 - (IntKind.u64.wrap (rd l0 x26_1)))))), (decide (x5_1 > (IntKind.u64.wrap (Int.tdiv (IntKind.u64.wrap (9223372036854775807 - (IntKind.u64.wrap (255 - (IntKind.u64.wrap (rd l0 x26_1)))))) 256)))), (wrap64 (x26_1 + 1)), (by first | rfl | (simp; done) | (simp [*]; done)), (by first | rfl | (simp; done) | (simp [*]; done)), (by first | rfl | (simp; done) | (simp [*]; done)), H', ⟨by have := HK1.out; omega⟩, by repeat (first | exact Drawn0.refl _ | apply Drawn0.step)⟩
                  · rw [if_neg c7] at H
                    exact absurd H (by simp)
                · rw [if_neg c6] at H
                  exact absurd H (by simp)
              · rw [if_neg c5] at H
                have c5b0 : decide (x26_1 < (l0.length : Int)) = false := decide_eq_false c5
                clear c5
                by_cases c15 : x6_1 = true
                · subst c15
                  have H1 : (some (0, 1)) = some (r1, r2) := by rw [if_pos rfl] at H; exact H
                  clear H
                  have H := H1
                  clear H1
                  simp only [Option.some.injEq, Prod.mk.injEq] at H
                  obtain ⟨rfl, rfl⟩ := H
                  go_wp2
                  go_ret2
                  exact ⟨by first | rfl | (simp; done) | (simp [*]; done), by repeat (first | exact Drawn0.refl _ | apply Drawn0.step)⟩
                · replace c15 := Bool.eq_false_iff.mpr c15
                  subst c15
                  have H1 : (if true = true then (some (wrap64 ((wrap64 (-(wrap64 (x5_1)))) - 1), 0)) else (some (wrap64 (x5_1), 0))) = some (r1, r2) := by rw [if_neg (show ¬ (false = true) by decide)] at H; exact H
                  clear H
                  have H := H1
                  clear H1
                  have c16 : true = true := rfl
                  · (try rw [if_pos c16] at H)
                    have c16b0 : true = true := c16
                    clear c16
                    simp only [Option.some.injEq, Prod.mk.injEq] at H
                    obtain ⟨rfl, rfl⟩ := H
                    go_wp2
                    go_ret2
                    exact ⟨by first | rfl | (simp; done) | (simp [*]; done), by repeat (first | exact Drawn0.refl _ | apply Drawn0.step)⟩
        | false =>
          go_loopg [5, 6, 26] k (fun kq v5 v6 v26 w' => ∃ (x5_1 : Int) (x6_1 : Bool) (x26_1 : Int), v5 = .int .u64 x5_1 ∧ v6 = .bool x6_1 ∧ v26 = .int .i64 x26_1 ∧ Aside0 (crossdockref17_Take.l0 kq false x5_1 x6_1 l0 (l0.length : Int) x26_1 = some (r1, r2)) ∧ Aside0 (kq ≤ k) ∧ Drawn0 w w')
          case atStart => exact ⟨(0), (false), (0), (by first | rfl | (simp; done) | (simp [*]; done)), (by first | rfl | (simp; done) | (simp [*]; done)), (by first | rfl | (simp; done) | (simp [*]; done)), H', ⟨Nat.le_refl _⟩, by repeat (first | exact Drawn0.refl _ | apply Drawn0.step)⟩
          case round =>
            clear H'
            try clear p1
            try clear q1
            try clear hx1
            try clear qi1
            try clear c2
            try clear c2b0
            try clear c2b1
            try clear c2b2
            try clear p2
            try clear c3
            try clear c3b0
            try clear c3b1
            try clear c4
            try clear c4b0
            try clear hx171_0
            try clear hx172_0
            try clear p171
            try clear p172
            try clear q171
            try clear q172
            obtain ⟨x5_1, x6_1, x26_1, rfl, rfl, rfl, HA, HK1, ⟨m1, rfl⟩⟩ := hrel
            cases gk with
            | zero => exact absurd HA.out (by simp [crossdockref17_Take.l0])
            | succ k1 =>
              have H := HA.out
              clear HA
              simp only [crossdockref17_Take.l0] at H
              by_cases c5 : x26_1 < (l0.length : Int)
              · rw [if_pos c5] at H
                have c5b0 : decide (x26_1 < (l0.length : Int)) = true := decide_eq_true c5
                clear c5
                by_cases c6 : 0 ≤ x26_1
                · rw [if_pos c6] at H
                  have c6b0 : decide (0 ≤ x26_1) = true := decide_eq_true c6
                  clear c6
                  by_cases c7 : x26_1 < (l0.length : Int)
                  · rw [if_pos c7] at H
                    have c7b0 : decide (x26_1 < (l0.length : Int)) = true := decide_eq_true c7
                    clear c7
                    by_cases c8 : x26_1 = 0
                    · rw [if_pos c8] at H
                      have c8b0 : (x26_1 == 0) = true := beq_iff_eq.mpr c8
                      have c8b1 : (x26_1 != 0) = false := bne_eq_false_iff_eq.mpr c8
                      clear c8
                      have c9 : ¬ (false = true) := by decide
                      · (try rw [if_neg c9] at H)
                        have c9b0 : false = false := rfl
                        clear c9
                        by_cases c11 : x6_1 = true
                        · subst c11
                          have H1 : (crossdockref17_Take.l0 k1 false (IntKind.u64.wrap ((IntKind.u64.wrap (x5_1 * 256)) + (Int.tmod (IntKind.u64.wrap (rd l0 x26_1)) 128))) true l0 (l0.length : Int) (wrap64 (x26_1 + 1))) = some (r1, r2) := by rw [if_pos rfl] at H; exact H
                          clear H
                          have H := H1
                          clear H1
                          have H' := Aside0.mk H
                          clear H
                          have p173 : 0 ≤ (x26_1 : Int) := of_decide_eq_true (by first | (with_reducible assumption) | assumption)
                          have q173 : x26_1 < (l0.length : Int) := of_decide_eq_true (by first | (with_reducible assumption) | assumption)
                          obtain ⟨ad173, e173, hx173_0⟩ := Kd.at_int HR0.out x26_1 p173 q173
                          obtain rfl : ad171 = ad173 := (by injection e173)
                          replace p173 := eq_true p173
                          replace q173 := eq_true q173
                          go_wp2
                          go_roundg k1
                          case measure => have := HK1.out; omega
                          case rel => exact ⟨(IntKind.u64.wrap ((IntKind.u64.wrap (x5_1 * 256)) + (Int.tmod (IntKind.u64.wrap (rd l0 x26_1)) 128))), (true), (wrap64 (x26_1 + 1)), (by first | rfl | (simp; done) | (simp [*]; done)), (by first | rfl | (simp; done) | (simp [*]; done)), (by first | rfl | (simp; done) | (simp [*]; done)), H', ⟨by have := HK1.out; omega⟩, by repeat (first | exact Drawn0.refl _ | apply Drawn0.step)⟩
                        · replace c11 := Bool.eq_false_iff.mpr c11
                          subst c11
                          have H1 : (crossdockref17_Take.l0 k1 false (IntKind.u64.wrap ((IntKind.u64.wrap (x5_1 * 256)) + (Int.tmod (IntKind.u64.wrap (rd l0 x26_1)) 128))) (decide (x5_1 > (IntKind.u64.wrap (Int.tdiv (IntKind.u64.wrap (9223372036854775807 - (Int.tmod (IntKind.u64.wrap (rd l0 x26_1)) 128))) 256)))) l0 (l0.length : Int) (wrap64 (x26_1 + 1))) = some (r1, r2) := by rw [if_neg (show ¬ (false = true) by decide)] at H; exact H
                          clear H
                          have H := H1
                          clear H1
                          have H' := Aside0.mk H
                          clear H
                          have p173 : 0 ≤ (x26_1 : Int) := of_decide_eq_true (by first | (with_reducible assumption) | assumption)
                          have q173 : x26_1 < (l0.length : Int) := of_decide_eq_true (by first | (with_reducible assumption) | assumption)
                          obtain ⟨ad173, e173, hx173_0⟩ := Kd.at_int HR0.out x26_1 p173 q173
                          obtain rfl : ad171 = ad173 := (by injection e173)
                          replace p173 := eq_true p173
                          replace q173 := eq_true q173
                          go_wp2
                          go_roundg k1
                          case measure => have := HK1.out; omega
                          case rel => exact ⟨(IntKind.u64.wrap ((IntKind.u64.wrap (x5_1 * 256)) + (Int.tmod (IntKind.u64.wrap (rd l0 x26_1)) 128))), (decide (x5_1 > (IntKind.u64.wrap (Int.tdiv (IntKind.u64.wrap (9223372036854775807 - (Int.tmod (IntKind.u64.wrap (rd l0 x26_1)) 128))) 256)))), (wrap64 (x26_1 + 1)), (by first | rfl | (simp; done) | (simp [*]; done)), (by first | rfl | (simp; done) | (simp [*]; done)), (by first | rfl | (simp; done) | (simp [*]; done)), H', ⟨by have := HK1.out; omega⟩, by repeat (first | exact Drawn0.refl _ | apply Drawn0.step)⟩
                    · rw [if_neg c8] at H
                      have c8b0 : (x26_1 == 0) = false := beq_eq_false_iff_ne.mpr c8
                      have c8b1 : (x26_1 != 0) = true := bne_iff_ne.mpr c8
                      have c12 : ¬ (false = true) := by decide
                      · (try rw [if_neg c12] at H)
                        have c12b0 : false = false := rfl
                        clear c12
                        by_cases c14 : x6_1 = true
                        · subst c14
                          have H1 : (crossdockref17_Take.l0 k1 false (IntKind.u64.wrap ((IntKind.u64.wrap (x5_1 * 256)) + (IntKind.u64.wrap (rd l0 x26_1)))) true l0 (l0.length : Int) (wrap64 (x26_1 + 1))) = some (r1, r2) := by rw [if_pos rfl] at H; exact H
                          clear H
                          have H := H1
                          clear H1
                          have H' := Aside0.mk H
                          clear H
                          have p173 : 0 ≤ (x26_1 : Int) := of_decide_eq_true (by first | (with_reducible assumption) | assumption)
                          have q173 : x26_1 < (l0.length : Int) := of_decide_eq_true (by first | (with_reducible assumption) | assumption)
                          obtain ⟨ad173, e173, hx173_0⟩ := Kd.at_int HR0.out x26_1 p173 q173
                          obtain rfl : ad171 = ad173 := (by injection e173)
                          replace p173 := eq_true p173
                          replace q173 := eq_true q173
                          go_wp2
                          go_roundg k1
                          case measure => have := HK1.out; omega
                          case rel => exact ⟨(IntKind.u64.wrap ((IntKind.u64.wrap (x5_1 * 256)) + (IntKind.u64.wrap (rd l0 x26_1)))), (true), (wrap64 (x26_1 + 1)), (by first | rfl | (simp; done) | (simp [*]; done)), (by first | rfl | (simp; done) | (simp [*]; done)), (by first | rfl | (simp; done) | (simp [*]; done)), H', ⟨by have := HK1.out; omega⟩, by repeat (first | exact Drawn0.refl _ | apply Drawn0.step)⟩
                        · replace c14 := Bool.eq_false_iff.mpr c14
                          subst c14
                          have H1 : (crossdockref17_Take.l0 k1 false (IntKind.u64.wrap ((IntKind.u64.wrap (x5_1 * 256)) + (IntKind.u64.wrap (rd l0 x26_1)))) (decide (x5_1 > (IntKind.u64.wrap (Int.tdiv (IntKind.u64.wrap (9223372036854775807 - (IntKind.u64.wrap (rd l0 x26_1)))) 256)))) l0 (l0.length : Int) (wrap64 (x26_1 + 1))) = some (r1, r2) := by rw [if_neg (show ¬ (false = true) by decide)] at H; exact H
                          clear H
                          have H := H1
                          clear H1
                          have H' := Aside0.mk H
                          clear H
                          have p173 : 0 ≤ (x26_1 : Int) := of_decide_eq_true (by first | (with_reducible assumption) | assumption)
                          have q173 : x26_1 < (l0.length : Int) := of_decide_eq_true (by first | (with_reducible assumption) | assumption)
                          obtain ⟨ad173, e173, hx173_0⟩ := Kd.at_int HR0.out x26_1 p173 q173
                          obtain rfl : ad171 = ad173 := (by injection e173)
                          replace p173 := eq_true p173
                          replace q173 := eq_true q173
                          go_wp2
                          go_roundg k1
                          case measure => have := HK1.out; omega
                          case rel => exact ⟨(IntKind.u64.wrap ((IntKind.u64.wrap (x5_1 * 256)) + (IntKind.u64.wrap (rd l0 x26_1)))), (decide (x5_1 > (IntKind.u64.wrap (Int.tdiv (IntKind.u64.wrap (9223372036854775807 - (IntKind.u64.wrap (rd l0 x26_1)))) 256)))), (wrap64 (x26_1 + 1)), (by first | rfl | (simp; done) | (simp [*]; done)), (by first | rfl | (simp; done) | (simp [*]; done)), (by first | rfl | (simp; done) | (simp [*]; done)), H', ⟨by have := HK1.out; omega⟩, by repeat (first | exact Drawn0.refl _ | apply Drawn0.step)⟩
                  · rw [if_neg c7] at H
                    exact absurd H (by simp)
                · rw [if_neg c6] at H
                  exact absurd H (by simp)
              · rw [if_neg c5] at H
                have c5b0 : decide (x26_1 < (l0.length : Int)) = false := decide_eq_false c5
                clear c5
                by_cases c15 : x6_1 = true
                · subst c15
                  have H1 : (some (0, 1)) = some (r1, r2) := by rw [if_pos rfl] at H; exact H
                  clear H
                  have H := H1
                  clear H1
                  simp only [Option.some.injEq, Prod.mk.injEq] at H
                  obtain ⟨rfl, rfl⟩ := H
                  go_wp2
                  go_ret2
                  exact ⟨by first | rfl | (simp; done) | (simp [*]; done), by repeat (first | exact Drawn0.refl _ | apply Drawn0.step)⟩
                · replace c15 := Bool.eq_false_iff.mpr c15
                  subst c15
                  have H1 : (if false = true then (some (wrap64 ((wrap64 (-(wrap64 (x5_1)))) - 1), 0)) else (some (wrap64 (x5_1), 0))) = some (r1, r2) := by rw [if_neg (show ¬ (false = true) by decide)] at H; exact H
                  clear H
                  have H := H1
                  clear H1
                  have c16 : ¬ (false = true) := by decide
                  · (try rw [if_neg c16] at H)
                    have c16b0 : false = false := rfl
                    clear c16
                    simp only [Option.some.injEq, Prod.mk.injEq] at H
                    obtain ⟨rfl, rfl⟩ := H
                    go_wp2
                    go_ret2
                    exact ⟨by first | rfl | (simp; done) | (simp [*]; done), by repeat (first | exact Drawn0.refl _ | apply Drawn0.step)⟩
      · rw [if_neg c4] at H
        have c4b0 : decide (128 ≤ (rd l0 0)) = false := decide_eq_false c4
        clear c4
        have HC17 := Aside0.mk H
        clear H
        have p171 : 0 ≤ (0 : Int) := (by omega)
        have q171 : 0 < (l0.length : Int) := of_decide_eq_true (by first | (with_reducible assumption) | assumption)
        obtain ⟨ad171, e171, hx171_0⟩ := Kd.at_int HR0.out 0 p171 q171
        cases e171
        have qi171 : (0 < l0.length) = True := eq_true (by omega)
        (try rw [show ((0 : Int)).toNat = 0 from rfl] at hx171_0)
        (try rw [Addr.add_zero'] at hx171_0)
        replace p171 := eq_true p171
        replace q171 := eq_true q171
        go_enter Tryd.func38, Tryd.ntmps38
        go_upto_block 3 with (fail)
        go_cut [10] (fun v10 wc => ∃ (kq : Nat) (x10_16 : Int), v10 = .int .i64 x10_16 ∧ Aside0 (crossdockref17_Take.j2 kq l0 x10_16 = some (r1, r2)) ∧ Aside0 (kq ≤ k) ∧ Drawn0 w wc)
        case first =>
          have H := HC17.out
          clear HC17
          have H' := Aside0.mk H
          clear H
          go_wp2
          go_loopg [10] k (fun kq v10 w' => ∃ (x10_1 : Int), v10 = .int .i64 x10_1 ∧ Aside0 (crossdockref17_Take.l1 kq l0 x10_1 = some (r1, r2)) ∧ Aside0 (kq ≤ k) ∧ Drawn0 w w')
          case atStart => exact ⟨(0), (by first | rfl | (simp; done) | (simp [*]; done)), H', ⟨Nat.le_refl _⟩, by repeat (first | exact Drawn0.refl _ | apply Drawn0.step)⟩
          case round =>
            clear H'
            try clear c1
            try clear p1
            try clear q1
            try clear hx1
            try clear qi1
            try clear c2
            try clear c2b0
            try clear c2b1
            try clear c2b2
            try clear p2
            try clear c3
            try clear c3b0
            try clear c3b1
            try clear c4
            try clear c4b0
            try clear c5
            try clear c5b0
            try clear c6
            try clear c6b0
            try clear p6
            try clear c7
            try clear c7b0
            try clear c8
            try clear c8b0
            try clear c8b1
            try clear c9
            try clear c9b0
            try clear c10
            try clear c11
            try clear c12
            try clear c12b0
            try clear c13
            try clear c14
            try clear c15
            try clear c16
            try clear c16b0
            try clear p17
            try clear q17
            try clear hx17
            try clear qi17
            try clear hx171_0
            try clear hx172_0
            try clear hx173_0
            try clear p1
            try clear p171
            try clear p172
            try clear p173
            try clear p2
            try clear q1
            try clear q171
            try clear q172
            try clear q173
            obtain ⟨x10_1, rfl, HA, HK1, ⟨m1, rfl⟩⟩ := hrel
            cases gk with
            | zero => exact absurd HA.out (by simp [crossdockref17_Take.l1])
            | succ k1 =>
              have H := HA.out
              clear HA
              simp only [crossdockref17_Take.l1] at H
              by_cases c18 : x10_1 < (l0.length : Int)
              · rw [if_pos c18] at H
                have c18b0 : decide (x10_1 < (l0.length : Int)) = true := decide_eq_true c18
                clear c18
                (first | rw [c18b0] | (simp only [i64_w, i32_w]; rw [c18b0]) | skip)
                by_cases c19 : 0 ≤ x10_1
                · rw [if_pos c19] at H
                  have c19b0 : decide (0 ≤ x10_1) = true := decide_eq_true c19
                  clear c19
                  by_cases c20 : (rd l0 x10_1) = 32
                  · rw [if_pos c20] at H
                    have c20b0 : ((rd l0 x10_1) == 32) = true := beq_iff_eq.mpr c20
                    have c20b1 : ((rd l0 x10_1) != 32) = false := bne_eq_false_iff_eq.mpr c20
                    clear c20
                    have H' := Aside0.mk H
                    clear H
                    have p174 : 0 ≤ (x10_1 : Int) := of_decide_eq_true (by first | (with_reducible assumption) | assumption)
                    have q174 : x10_1 < (l0.length : Int) := of_decide_eq_true (by first | (with_reducible assumption) | assumption)
                    obtain ⟨ad174, e174, hx174_0⟩ := Kd.at_int HR0.out x10_1 p174 q174
                    obtain rfl : ad171 = ad174 := (by injection e174)
                    replace p174 := eq_true p174
                    replace q174 := eq_true q174
                    go_wp2
                    go_roundg k1
                    case measure => have := HK1.out; omega
                    case rel => exact ⟨(wrap64 (x10_1 + 1)), (by first | rfl | (simp; done) | (simp [*]; done)), H', ⟨by have := HK1.out; omega⟩, by repeat (first | exact Drawn0.refl _ | apply Drawn0.step)⟩
                  · rw [if_neg c20] at H
                    have c20b0 : ((rd l0 x10_1) == 32) = false := beq_eq_false_iff_ne.mpr c20
                    have c20b1 : ((rd l0 x10_1) != 32) = true := bne_iff_ne.mpr c20
                    have H' := Aside0.mk H
                    clear H
                    have p174 : 0 ≤ (x10_1 : Int) := of_decide_eq_true (by first | (with_reducible assumption) | assumption)
                    have q174 : x10_1 < (l0.length : Int) := of_decide_eq_true (by first | (with_reducible assumption) | assumption)
                    obtain ⟨ad174, e174, hx174_0⟩ := Kd.at_int HR0.out x10_1 p174 q174
                    obtain rfl : ad171 = ad174 := (by injection e174)
                    replace p174 := eq_true p174
                    replace q174 := eq_true q174
                    go_wp2
                    go_meet
                    case rel => exact ⟨_, (x10_1), (by first | rfl | (simp; done) | (simp [*]; done)), H', ⟨by have := HK1.out; first | omega | exact Nat.le_refl _⟩, by repeat (first | exact Drawn0.refl _ | apply Drawn0.step)⟩
                · rw [if_neg c19] at H
                  exact absurd H (by simp)
              · rw [if_neg c18] at H
                have c18b0 : decide (x10_1 < (l0.length : Int)) = false := decide_eq_false c18
                clear c18
                (first | rw [c18b0] | (simp only [i64_w, i32_w]; rw [c18b0]) | skip)
                have H' := Aside0.mk H
                clear H
                go_wp2
                go_meet
                case rel => exact ⟨_, (x10_1), (by first | rfl | (simp; done) | (simp [*]; done)), H', ⟨by have := HK1.out; first | omega | exact Nat.le_refl _⟩, by repeat (first | exact Drawn0.refl _ | apply Drawn0.step)⟩
        case rest =>
          clear HC17
          try clear c1
          try clear p1
          try clear q1
          try clear hx1
          try clear qi1
          try clear c2
          try clear c2b0
          try clear c2b1
          try clear c2b2
          try clear p2
          try clear c3
          try clear c3b0
          try clear c3b1
          try clear c4
          try clear c4b0
          try clear c5
          try clear c5b0
          try clear c6
          try clear c6b0
          try clear p6
          try clear c7
          try clear c7b0
          try clear c8
          try clear c8b0
          try clear c8b1
          try clear c9
          try clear c9b0
          try clear c10
          try clear c11
          try clear c12
          try clear c12b0
          try clear c13
          try clear c14
          try clear c15
          try clear c16
          try clear c16b0
          try clear p17
          try clear q17
          try clear hx17
          try clear qi17
          try clear c18
          try clear c18b0
          try clear c19
          try clear c19b0
          try clear c20
          try clear c20b0
          try clear c20b1
          try clear hx171_0
          try clear hx172_0
          try clear hx173_0
          try clear hx174_0
          try clear p1
          try clear p17
          try clear p171
          try clear p172
          try clear p173
          try clear p174
          try clear p2
          try clear p6
          try clear q1
          try clear q17
          try clear q171
          try clear q172
          try clear q173
          try clear q174
          obtain ⟨kq, x10_16, rfl, HA, HJ16, ⟨mc16, rfl⟩⟩ := hcut
          cases kq with
          | zero => exact absurd HA.out (by simp [crossdockref17_Take.j2])
          | succ kj16 =>
            have H := HA.out
            clear HA
            simp only [crossdockref17_Take.j2] at H
            have H' := Aside0.mk H
            clear H
            go_wp2
            go_loopg [10, 11, 12] kj16 (fun kq v10 v11 v12 w' => ∃ (x10_2 : Int) (x11_2 : Int) (x12_2 : Bool), v10 = .int .i64 x10_2 ∧ v11 = .int .i64 x11_2 ∧ v12 = .bool x12_2 ∧ Aside0 (crossdockref17_Take.l2 kq l0 x10_2 x11_2 x12_2 = some (r1, r2)) ∧ Aside0 (kq ≤ kj16) ∧ Drawn0 w w')
            case atStart => exact ⟨(x10_16), (0), (false), (by first | rfl | (simp; done) | (simp [*]; done)), (by first | rfl | (simp; done) | (simp [*]; done)), (by first | rfl | (simp; done) | (simp [*]; done)), H', ⟨Nat.le_refl _⟩, by repeat (first | exact Drawn0.refl _ | apply Drawn0.step)⟩
            case round =>
              clear H'
              try clear c1
              try clear p1
              try clear q1
              try clear hx1
              try clear qi1
              try clear c2
              try clear c2b0
              try clear c2b1
              try clear c2b2
              try clear p2
              try clear c3
              try clear c3b0
              try clear c3b1
              try clear c4
              try clear c4b0
              try clear c5
              try clear c5b0
              try clear c6
              try clear c6b0
              try clear p6
              try clear c7
              try clear c7b0
              try clear c8
              try clear c8b0
              try clear c8b1
              try clear c9
              try clear c9b0
              try clear c10
              try clear c11
              try clear c12
              try clear c12b0
              try clear c13
              try clear c14
              try clear c15
              try clear c16
              try clear c16b0
              try clear p17
              try clear q17
              try clear hx17
              try clear qi17
              try clear c18
              try clear c18b0
              try clear c19
              try clear c19b0
              try clear c20
              try clear c20b0
              try clear c20b1
              try clear hx171_0
              try clear hx172_0
              try clear hx173_0
              try clear hx174_0
              try clear p1
              try clear p17
              try clear p171
              try clear p172
              try clear p173
              try clear p174
              try clear p2
              try clear p6
              try clear q1
              try clear q17
              try clear q171
              try clear q172
              try clear q173
              try clear q174
              obtain ⟨x10_2, x11_2, x12_2, rfl, rfl, rfl, HA, HK2, ⟨m2, rfl⟩⟩ := hrel
              cases gk with
              | zero => exact absurd HA.out (by simp [crossdockref17_Take.l2])
              | succ k2 =>
                have H := HA.out
                clear HA
                simp only [crossdockref17_Take.l2] at H
                have HC21 := Aside0.mk H
                clear H
                go_upto_region 28 with (fail)
                go_cut [97] (fun v97 wc => ∃ (kq : Nat) (x97_20 : Bool), v97 = .bool x97_20 ∧ Aside0 (crossdockref17_Take.j4 kq l0 x10_2 x11_2 x12_2 x97_20 = some (r1, r2)) ∧ Aside0 (kq ≤ k2) ∧ Drawn0 w wc)
                case first =>
                  have H := HC21.out
                  clear HC21
                  by_cases c22 : x10_2 < (l0.length : Int)
                  · rw [if_pos c22] at H
                    have c22b0 : decide (x10_2 < (l0.length : Int)) = true := decide_eq_true c22
                    clear c22
                    (first | rw [c22b0] | (simp only [i64_w, i32_w]; rw [c22b0]) | skip)
                    by_cases c23 : 0 ≤ x10_2
                    · rw [if_pos c23] at H
                      have c23b0 : decide (0 ≤ x10_2) = true := decide_eq_true c23
                      clear c23
                      by_cases c24 : (rd l0 x10_2) ≥ 48
                      · rw [if_pos c24] at H
                        have c24b0 : decide (48 ≤ (rd l0 x10_2)) = true := decide_eq_true c24
                        clear c24
                        have H' := Aside0.mk H
                        clear H
                        have p175 : 0 ≤ (x10_2 : Int) := of_decide_eq_true (by first | (with_reducible assumption) | assumption)
                        have q175 : x10_2 < (l0.length : Int) := of_decide_eq_true (by first | (with_reducible assumption) | assumption)
                        obtain ⟨ad175, e175, hx175_0⟩ := Kd.at_int HR0.out x10_2 p175 q175
                        obtain rfl : ad171 = ad175 := (by injection e175)
                        replace p175 := eq_true p175
                        replace q175 := eq_true q175
                        have p176 : 0 ≤ (x10_2 : Int) := of_decide_eq_true (by first | (with_reducible assumption) | assumption)
                        have q176 : x10_2 < (l0.length : Int) := of_decide_eq_true (by first | (with_reducible assumption) | assumption)
                        obtain ⟨ad176, e176, hx176_0⟩ := Kd.at_int HR0.out x10_2 p176 q176
                        obtain rfl : ad171 = ad176 := (by injection e176)
                        replace p176 := eq_true p176
                        replace q176 := eq_true q176
                        go_wp2
                        go_meet
                        case rel => exact ⟨_, (decide ((rd l0 x10_2) < 56)), (by first | rfl | (simp; done) | (simp [*]; done)), H', ⟨by have := HJ16.out; have := HK2.out; first | omega | exact Nat.le_refl _⟩, by repeat (first | exact Drawn0.refl _ | apply Drawn0.step)⟩
                      · rw [if_neg c24] at H
                        have c24b0 : decide (48 ≤ (rd l0 x10_2)) = false := decide_eq_false c24
                        clear c24
                        have H' := Aside0.mk H
                        clear H
                        have p175 : 0 ≤ (x10_2 : Int) := of_decide_eq_true (by first | (with_reducible assumption) | assumption)
                        have q175 : x10_2 < (l0.length : Int) := of_decide_eq_true (by first | (with_reducible assumption) | assumption)
                        obtain ⟨ad175, e175, hx175_0⟩ := Kd.at_int HR0.out x10_2 p175 q175
                        obtain rfl : ad171 = ad175 := (by injection e175)
                        replace p175 := eq_true p175
                        replace q175 := eq_true q175
                        go_wp2
                        go_meet
                        case rel => exact ⟨_, (false), (by first | rfl | (simp; done) | (simp [*]; done)), H', ⟨by have := HJ16.out; have := HK2.out; first | omega | exact Nat.le_refl _⟩, by repeat (first | exact Drawn0.refl _ | apply Drawn0.step)⟩
                    · rw [if_neg c23] at H
                      exact absurd H (by simp)
                  · rw [if_neg c22] at H
                    have c22b0 : decide (x10_2 < (l0.length : Int)) = false := decide_eq_false c22
                    clear c22
                    (first | rw [c22b0] | (simp only [i64_w, i32_w]; rw [c22b0]) | skip)
                    have H' := Aside0.mk H
                    clear H
                    go_wp2
                    go_meet
                    case rel => exact ⟨_, (false), (by first | rfl | (simp; done) | (simp [*]; done)), H', ⟨by have := HJ16.out; have := HK2.out; first | omega | exact Nat.le_refl _⟩, by repeat (first | exact Drawn0.refl _ | apply Drawn0.step)⟩
                case rest =>
                  clear HC21
                  try clear c1
                  try clear p1
                  try clear q1
                  try clear hx1
                  try clear qi1
                  try clear c2
                  try clear c2b0
                  try clear c2b1
                  try clear c2b2
                  try clear p2
                  try clear c3
                  try clear c3b0
                  try clear c3b1
                  try clear c4
                  try clear c4b0
                  try clear c5
                  try clear c5b0
                  try clear c6
                  try clear c6b0
                  try clear p6
                  try clear c7
                  try clear c7b0
                  try clear c8
                  try clear c8b0
                  try clear c8b1
                  try clear c9
                  try clear c9b0
                  try clear c10
                  try clear c11
                  try clear c12
                  try clear c12b0
                  try clear c13
                  try clear c14
                  try clear c15
                  try clear c16
                  try clear c16b0
                  try clear p17
                  try clear q17
                  try clear hx17
                  try clear qi17
                  try clear c18
                  try clear c18b0
                  try clear c19
                  try clear c19b0
                  try clear c20
                  try clear c20b0
                  try clear c20b1
                  try clear c22
                  try clear c22b0
                  try clear c23
                  try clear c23b0
                  try clear c24
                  try clear c24b0
                  try clear hx171_0
                  try clear hx172_0
                  try clear hx173_0
                  try clear hx174_0
                  try clear hx175_0
                  try clear hx176_0
                  try clear p1
                  try clear p17
                  try clear p171
                  try clear p172
                  try clear p173
                  try clear p174
                  try clear p175
                  try clear p176
                  try clear p2
                  try clear p6
                  try clear q1
                  try clear q17
                  try clear q171
                  try clear q172
                  try clear q173
                  try clear q174
                  try clear q175
                  try clear q176
                  obtain ⟨kq, x97_20, rfl, HA, HJ20, ⟨mc20, rfl⟩⟩ := hcut
                  cases kq with
                  | zero => exact absurd HA.out (by simp [crossdockref17_Take.j4])
                  | succ kj20 =>
                    have H := HA.out
                    clear HA
                    simp only [crossdockref17_Take.j4] at H
                    by_cases c25 : x97_20 = true
                    · subst c25
                      have H1 : (if x12_2 = true then (crossdockref17_Take.l2 kj20 l0 (wrap64 (x10_2 + 1)) x11_2 true) else (if x11_2 > 1152921504606846975 then (crossdockref17_Take.l2 kj20 l0 (wrap64 (x10_2 + 1)) x11_2 (decide (x11_2 > 1152921504606846975))) else (if 0 ≤ x10_2 then (if x10_2 < (l0.length : Int) then (crossdockref17_Take.l2 kj20 l0 (wrap64 (x10_2 + 1)) (wrap64 ((wrap64 (x11_2 * 8)) + (((rd l0 x10_2) - 48) % 256))) (decide (x11_2 > 1152921504606846975))) else (none)) else (none)))) = some (r1, r2) := by rw [if_pos rfl] at H; exact H
                      clear H
                      have H := H1
                      clear H1
                      by_cases c26 : x12_2 = true
                      · subst c26
                        have H1 : (crossdockref17_Take.l2 kj20 l0 (wrap64 (x10_2 + 1)) x11_2 true) = some (r1, r2) := by rw [if_pos rfl] at H; exact H
                        clear H
                        have H := H1
                        clear H1
                        have H' := Aside0.mk H
                        clear H
                        go_wp2
                        go_roundg kj20
                        case measure => have := HJ16.out; have := HK2.out; have := HJ20.out; omega
                        case rel => exact ⟨(wrap64 (x10_2 + 1)), (x11_2), (true), (by first | rfl | (simp; done) | (simp [*]; done)), (by first | rfl | (simp; done) | (simp [*]; done)), (by first | rfl | (simp; done) | (simp [*]; done)), H', ⟨by have := HJ16.out; have := HK2.out; have := HJ20.out; omega⟩, by repeat (first | exact Drawn0.refl _ | apply Drawn0.step)⟩
                      · replace c26 := Bool.eq_false_iff.mpr c26
                        subst c26
                        have H1 : (if x11_2 > 1152921504606846975 then (crossdockref17_Take.l2 kj20 l0 (wrap64 (x10_2 + 1)) x11_2 (decide (x11_2 > 1152921504606846975))) else (if 0 ≤ x10_2 then (if x10_2 < (l0.length : Int) then (crossdockref17_Take.l2 kj20 l0 (wrap64 (x10_2 + 1)) (wrap64 ((wrap64 (x11_2 * 8)) + (((rd l0 x10_2) - 48) % 256))) (decide (x11_2 > 1152921504606846975))) else (none)) else (none))) = some (r1, r2) := by rw [if_neg (show ¬ (false = true) by decide)] at H; exact H
                        clear H
                        have H := H1
                        clear H1
                        by_cases c27 : x11_2 > 1152921504606846975
                        · rw [if_pos c27] at H
                          have c27b0 : decide (1152921504606846975 < x11_2) = true := decide_eq_true c27
                          clear c27
                          have H' := Aside0.mk H
                          clear H
                          go_wp2
                          go_roundg kj20
                          case measure => have := HJ16.out; have := HK2.out; have := HJ20.out; omega
                          case rel => exact ⟨(wrap64 (x10_2 + 1)), (x11_2), (decide (x11_2 > 1152921504606846975)), (by first | rfl | (simp; done) | (simp [*]; done)), (by first | rfl | (simp; done) | (simp [*]; done)), (by first | rfl | (simp; done) | (simp [*]; done)), H', ⟨by have := HJ16.out; have := HK2.out; have := HJ20.out; omega⟩, by repeat (first | exact Drawn0.refl _ | apply Drawn0.step)⟩
                        · rw [if_neg c27] at H
                          have c27b0 : decide (1152921504606846975 < x11_2) = false := decide_eq_false c27
                          clear c27
                          by_cases c28 : 0 ≤ x10_2
                          · rw [if_pos c28] at H
                            have c28b0 : decide (0 ≤ x10_2) = true := decide_eq_true c28
                            clear c28
                            by_cases c29 : x10_2 < (l0.length : Int)
                            · rw [if_pos c29] at H
                              have c29b0 : decide (x10_2 < (l0.length : Int)) = true := decide_eq_true c29
                              clear c29
                              have H' := Aside0.mk H
                              clear H
                              have p177 : 0 ≤ (x10_2 : Int) := of_decide_eq_true (by first | (with_reducible assumption) | assumption)
                              have q177 : x10_2 < (l0.length : Int) := of_decide_eq_true (by first | (with_reducible assumption) | assumption)
                              obtain ⟨ad177, e177, hx177_0⟩ := Kd.at_int HR0.out x10_2 p177 q177
                              obtain rfl : ad171 = ad177 := (by injection e177)
                              replace p177 := eq_true p177
                              replace q177 := eq_true q177
                              go_wp2
                              go_roundg kj20
                              case measure => have := HJ16.out; have := HK2.out; have := HJ20.out; omega
                              case rel => exact ⟨(wrap64 (x10_2 + 1)), (wrap64 ((wrap64 (x11_2 * 8)) + (((rd l0 x10_2) - 48) % 256))), (decide (x11_2 > 1152921504606846975)), (by first | rfl | (simp; done) | (simp [*]; done)), (by first | rfl | (simp; done) | (simp [*]; done)), (by first | rfl | (simp; done) | (simp [*]; done)), H', ⟨by have := HJ16.out; have := HK2.out; have := HJ20.out; omega⟩, by repeat (first | exact Drawn0.refl _ | apply Drawn0.step)⟩
                            · rw [if_neg c29] at H
                              exact absurd H (by simp)
                          · rw [if_neg c28] at H
                            exact absurd H (by simp)
                    · replace c25 := Bool.eq_false_iff.mpr c25
                      subst c25
                      have H1 : (crossdockref17_Take.l3 kj20 l0 x10_2 x11_2 x12_2) = some (r1, r2) := by rw [if_neg (show ¬ (false = true) by decide)] at H; exact H
                      clear H
                      have H := H1
                      clear H1
                      have HC30 := Aside0.mk H
                      clear H
                      go_upto_block 7 with (fail)
                      go_cut [10] (fun v10 wc => ∃ (kq : Nat) (x10_29 : Int), v10 = .int .i64 x10_29 ∧ Aside0 (crossdockref17_Take.j6 kq l0 x10_29 x11_2 x12_2 = some (r1, r2)) ∧ Aside0 (kq ≤ kj20) ∧ Drawn0 w wc)
                      case first =>
                        have H := HC30.out
                        clear HC30
                        have H' := Aside0.mk H
                        clear H
                        go_wp2
                        go_loopg [10] kj20 (fun kq v10 w' => ∃ (x10_4 : Int), v10 = .int .i64 x10_4 ∧ Aside0 (crossdockref17_Take.l3 kq l0 x10_4 x11_2 x12_2 = some (r1, r2)) ∧ Aside0 (kq ≤ kj20) ∧ Drawn0 w w')
                        case atStart => exact ⟨(x10_2), (by first | rfl | (simp; done) | (simp [*]; done)), H', ⟨Nat.le_refl _⟩, by repeat (first | exact Drawn0.refl _ | apply Drawn0.step)⟩
                        case round =>
                          clear H'
                          try clear c1
                          try clear p1
                          try clear q1
                          try clear hx1
                          try clear qi1
                          try clear c2
                          try clear c2b0
                          try clear c2b1
                          try clear c2b2
                          try clear p2
                          try clear c3
                          try clear c3b0
                          try clear c3b1
                          try clear c4
                          try clear c4b0
                          try clear c5
                          try clear c5b0
                          try clear c6
                          try clear c6b0
                          try clear p6
                          try clear c7
                          try clear c7b0
                          try clear c8
                          try clear c8b0
                          try clear c8b1
                          try clear c9
                          try clear c9b0
                          try clear c10
                          try clear c11
                          try clear c12
                          try clear c12b0
                          try clear c13
                          try clear c14
                          try clear c15
                          try clear c16
                          try clear c16b0
                          try clear p17
                          try clear q17
                          try clear hx17
                          try clear qi17
                          try clear c18
                          try clear c18b0
                          try clear c19
                          try clear c19b0
                          try clear c20
                          try clear c20b0
                          try clear c20b1
                          try clear c22
                          try clear c22b0
                          try clear c23
                          try clear c23b0
                          try clear c24
                          try clear c24b0
                          try clear c25
                          try clear c26
                          try clear c27
                          try clear c27b0
                          try clear c28
                          try clear c28b0
                          try clear c29
                          try clear c29b0
                          try clear hx171_0
                          try clear hx172_0
                          try clear hx173_0
                          try clear hx174_0
                          try clear hx175_0
                          try clear hx176_0
                          try clear hx177_0
                          try clear p1
                          try clear p17
                          try clear p171
                          try clear p172
                          try clear p173
                          try clear p174
                          try clear p175
                          try clear p176
                          try clear p177
                          try clear p2
                          try clear p6
                          try clear q1
                          try clear q17
                          try clear q171
                          try clear q172
                          try clear q173
                          try clear q174
                          try clear q175
                          try clear q176
                          try clear q177
                          obtain ⟨x10_4, rfl, HA, HK4, ⟨m4, rfl⟩⟩ := hrel
                          cases gk with
                          | zero => exact absurd HA.out (by simp [crossdockref17_Take.l3])
                          | succ k4 =>
                            have H := HA.out
                            clear HA
                            simp only [crossdockref17_Take.l3] at H
                            by_cases c31 : x10_4 < (l0.length : Int)
                            · rw [if_pos c31] at H
                              have c31b0 : decide (x10_4 < (l0.length : Int)) = true := decide_eq_true c31
                              clear c31
                              (first | rw [c31b0] | (simp only [i64_w, i32_w]; rw [c31b0]) | skip)
                              by_cases c32 : 0 ≤ x10_4
                              · rw [if_pos c32] at H
                                have c32b0 : decide (0 ≤ x10_4) = true := decide_eq_true c32
                                clear c32
                                by_cases c33 : (rd l0 x10_4) = 32
                                · rw [if_pos c33] at H
                                  have c33b0 : ((rd l0 x10_4) == 32) = true := beq_iff_eq.mpr c33
                                  have c33b1 : ((rd l0 x10_4) != 32) = false := bne_eq_false_iff_eq.mpr c33
                                  clear c33
                                  have H' := Aside0.mk H
                                  clear H
                                  have p178 : 0 ≤ (x10_4 : Int) := of_decide_eq_true (by first | (with_reducible assumption) | assumption)
                                  have q178 : x10_4 < (l0.length : Int) := of_decide_eq_true (by first | (with_reducible assumption) | assumption)
                                  obtain ⟨ad178, e178, hx178_0⟩ := Kd.at_int HR0.out x10_4 p178 q178
                                  obtain rfl : ad171 = ad178 := (by injection e178)
                                  replace p178 := eq_true p178
                                  replace q178 := eq_true q178
                                  go_wp2
                                  go_roundg k4
                                  case measure => have := HJ16.out; have := HK2.out; have := HJ20.out; have := HK4.out; omega
                                  case rel => exact ⟨(wrap64 (x10_4 + 1)), (by first | rfl | (simp; done) | (simp [*]; done)), H', ⟨by have := HJ16.out; have := HK2.out; have := HJ20.out; have := HK4.out; omega⟩, by repeat (first | exact Drawn0.refl _ | apply Drawn0.step)⟩
                                · rw [if_neg c33] at H
                                  have c33b0 : ((rd l0 x10_4) == 32) = false := beq_eq_false_iff_ne.mpr c33
                                  have c33b1 : ((rd l0 x10_4) != 32) = true := bne_iff_ne.mpr c33
                                  by_cases c34 : (rd l0 x10_4) = 0
                                  · rw [if_pos c34] at H
                                    have c34b0 : ((rd l0 x10_4) == 0) = true := beq_iff_eq.mpr c34
                                    have c34b1 : ((rd l0 x10_4) != 0) = false := bne_eq_false_iff_eq.mpr c34
                                    clear c34
                                    have H' := Aside0.mk H
                                    clear H
                                    have p178 : 0 ≤ (x10_4 : Int) := of_decide_eq_true (by first | (with_reducible assumption) | assumption)
                                    have q178 : x10_4 < (l0.length : Int) := of_decide_eq_true (by first | (with_reducible assumption) | assumption)
                                    obtain ⟨ad178, e178, hx178_0⟩ := Kd.at_int HR0.out x10_4 p178 q178
                                    obtain rfl : ad171 = ad178 := (by injection e178)
                                    replace p178 := eq_true p178
                                    replace q178 := eq_true q178
                                    have p179 : 0 ≤ (x10_4 : Int) := of_decide_eq_true (by first | (with_reducible assumption) | assumption)
                                    have q179 : x10_4 < (l0.length : Int) := of_decide_eq_true (by first | (with_reducible assumption) | assumption)
                                    obtain ⟨ad179, e179, hx179_0⟩ := Kd.at_int HR0.out x10_4 p179 q179
                                    obtain rfl : ad171 = ad179 := (by injection e179)
                                    replace p179 := eq_true p179
                                    replace q179 := eq_true q179
                                    go_wp2
                                    go_roundg k4
                                    case measure => have := HJ16.out; have := HK2.out; have := HJ20.out; have := HK4.out; omega
                                    case rel => exact ⟨(wrap64 (x10_4 + 1)), (by first | rfl | (simp; done) | (simp [*]; done)), H', ⟨by have := HJ16.out; have := HK2.out; have := HJ20.out; have := HK4.out; omega⟩, by repeat (first | exact Drawn0.refl _ | apply Drawn0.step)⟩
                                  · rw [if_neg c34] at H
                                    have c34b0 : ((rd l0 x10_4) == 0) = false := beq_eq_false_iff_ne.mpr c34
                                    have c34b1 : ((rd l0 x10_4) != 0) = true := bne_iff_ne.mpr c34
                                    have H' := Aside0.mk H
                                    clear H
                                    have p178 : 0 ≤ (x10_4 : Int) := of_decide_eq_true (by first | (with_reducible assumption) | assumption)
                                    have q178 : x10_4 < (l0.length : Int) := of_decide_eq_true (by first | (with_reducible assumption) | assumption)
                                    obtain ⟨ad178, e178, hx178_0⟩ := Kd.at_int HR0.out x10_4 p178 q178
                                    obtain rfl : ad171 = ad178 := (by injection e178)
                                    replace p178 := eq_true p178
                                    replace q178 := eq_true q178
                                    have p179 : 0 ≤ (x10_4 : Int) := of_decide_eq_true (by first | (with_reducible assumption) | assumption)
                                    have q179 : x10_4 < (l0.length : Int) := of_decide_eq_true (by first | (with_reducible assumption) | assumption)
                                    obtain ⟨ad179, e179, hx179_0⟩ := Kd.at_int HR0.out x10_4 p179 q179
                                    obtain rfl : ad171 = ad179 := (by injection e179)
                                    replace p179 := eq_true p179
                                    replace q179 := eq_true q179
                                    go_wp2
                                    go_meet
                                    case rel => exact ⟨_, (x10_4), (by first | rfl | (simp; done) | (simp [*]; done)), H', ⟨by have := HJ16.out; have := HK2.out; have := HJ20.out; have := HK4.out; first | omega | exact Nat.le_refl _⟩, by repeat (first | exact Drawn0.refl _ | apply Drawn0.step)⟩
                              · rw [if_neg c32] at H
                                exact absurd H (by simp)
                            · rw [if_neg c31] at H
                              have c31b0 : decide (x10_4 < (l0.length : Int)) = false := decide_eq_false c31
                              clear c31
                              (first | rw [c31b0] | (simp only [i64_w, i32_w]; rw [c31b0]) | skip)
                              have H' := Aside0.mk H
                              clear H
                              go_wp2
                              go_meet
                              case rel => exact ⟨_, (x10_4), (by first | rfl | (simp; done) | (simp [*]; done)), H', ⟨by have := HJ16.out; have := HK2.out; have := HJ20.out; have := HK4.out; first | omega | exact Nat.le_refl _⟩, by repeat (first | exact Drawn0.refl _ | apply Drawn0.step)⟩
                      case rest =>
                        clear HC30
                        try clear c1
                        try clear p1
                        try clear q1
                        try clear hx1
                        try clear qi1
                        try clear c2
                        try clear c2b0
                        try clear c2b1
                        try clear c2b2
                        try clear p2
                        try clear c3
                        try clear c3b0
                        try clear c3b1
                        try clear c4
                        try clear c4b0
                        try clear c5
                        try clear c5b0
                        try clear c6
                        try clear c6b0
                        try clear p6
                        try clear c7
                        try clear c7b0
                        try clear c8
                        try clear c8b0
                        try clear c8b1
                        try clear c9
                        try clear c9b0
                        try clear c10
                        try clear c11
                        try clear c12
                        try clear c12b0
                        try clear c13
                        try clear c14
                        try clear c15
                        try clear c16
                        try clear c16b0
                        try clear p17
                        try clear q17
                        try clear hx17
                        try clear qi17
                        try clear c18
                        try clear c18b0
                        try clear c19
                        try clear c19b0
                        try clear c20
                        try clear c20b0
                        try clear c20b1
                        try clear c22
                        try clear c22b0
                        try clear c23
                        try clear c23b0
                        try clear c24
                        try clear c24b0
                        try clear c25
                        try clear c26
                        try clear c27
                        try clear c27b0
                        try clear c28
                        try clear c28b0
                        try clear c29
                        try clear c29b0
                        try clear c31
                        try clear c31b0
                        try clear c32
                        try clear c32b0
                        try clear c33
                        try clear c33b0
                        try clear c33b1
                        try clear c34
                        try clear c34b0
                        try clear c34b1
                        try clear hx171_0
                        try clear hx172_0
                        try clear hx173_0
                        try clear hx174_0
                        try clear hx175_0
                        try clear hx176_0
                        try clear hx177_0
                        try clear hx178_0
                        try clear hx179_0
                        try clear p1
                        try clear p17
                        try clear p171
                        try clear p172
                        try clear p173
                        try clear p174
                        try clear p175
                        try clear p176
                        try clear p177
                        try clear p178
                        try clear p179
                        try clear p2
                        try clear p6
                        try clear q1
                        try clear q17
                        try clear q171
                        try clear q172
                        try clear q173
                        try clear q174
                        try clear q175
                        try clear q176
                        try clear q177
                        try clear q178
                        try clear q179
                        obtain ⟨kq, x10_29, rfl, HA, HJ29, ⟨mc29, rfl⟩⟩ := hcut
                        cases kq with
                        | zero => exact absurd HA.out (by simp [crossdockref17_Take.j6])
                        | succ kj29 =>
                          have H := HA.out
                          clear HA
                          simp only [crossdockref17_Take.j6] at H
                          by_cases c35 : x10_29 < (l0.length : Int)
                          · rw [if_pos c35] at H
                            have c35b0 : decide (x10_29 < (l0.length : Int)) = true := decide_eq_true c35
                            clear c35
                            simp only [Option.some.injEq, Prod.mk.injEq] at H
                            obtain ⟨rfl, rfl⟩ := H
                            go_wp2
                            go_ret2
                            exact ⟨by first | rfl | (simp; done) | (simp [*]; done), by repeat (first | exact Drawn0.refl _ | apply Drawn0.step)⟩
                          · rw [if_neg c35] at H
                            have c35b0 : decide (x10_29 < (l0.length : Int)) = false := decide_eq_false c35
                            clear c35
                            by_cases c36 : x12_2 = true
                            · subst c36
                              have H1 : (some (0, 1)) = some (r1, r2) := by rw [if_pos rfl] at H; exact H
                              clear H
                              have H := H1
                              clear H1
                              simp only [Option.some.injEq, Prod.mk.injEq] at H
                              obtain ⟨rfl, rfl⟩ := H
                              go_wp2
                              go_ret2
                              exact ⟨by first | rfl | (simp; done) | (simp [*]; done), by repeat (first | exact Drawn0.refl _ | apply Drawn0.step)⟩
                            · replace c36 := Bool.eq_false_iff.mpr c36
                              subst c36
                              have H1 : (some (x11_2, 0)) = some (r1, r2) := by rw [if_neg (show ¬ (false = true) by decide)] at H; exact H
                              clear H
                              have H := H1
                              clear H1
                              simp only [Option.some.injEq, Prod.mk.injEq] at H
                              obtain ⟨rfl, rfl⟩ := H
                              go_wp2
                              go_ret2
                              exact ⟨by first | rfl | (simp; done) | (simp [*]; done), by repeat (first | exact Drawn0.refl _ | apply Drawn0.step)⟩
    · rw [if_neg c3] at H
      exact absurd H (by simp)

end Go.Proofs.YtiioiikcjaiajaaDoor.MyDocK

/- The document's Take of a number answers as takeA says: plainly. -/
set_option maxRecDepth 100000
namespace Go.Proofs.YtiioiikcjaiajaaDoor.My
open Go.RowKit Go.Proofs.YtiioiikcjaiajaaDoorW.PrintWords Go.Proofs.YtiioiikcjaiajaaDoorW.PrintLast Go.Proofs.YtiioiikcjaiajaaDoorW.PrintMore Go.Proofs.YtiioiikcjaiajaaDoor.Oct Go.Proofs.YtiioiikcjaiajaaDoor.Hd Go.Proofs.YtiioiikcjaiajaaDoor.MyDocK
set_option linter.unusedVariables false
set_option linter.unusedSimpArgs false

/-- An answer as the document tells it. -/
def convA : Option Int × Int → Int × Int
  | (none, x) => (x, 0)
  | (some e, _) => (0, e)
def sg (below : Bool) (x : Int) : Int := if below = true then -x - 1 else x
theorem nat_next (i : Nat) (h : i < 1000000) : wrap64 ((i : Int) + 1) = ((i + 1 : Nat) : Int) := by unfold wrap64; omega
theorem rd_at (l : List Int) (i : Nat) (h : i < l.length) : rd l (i : Int) = l[i] := by simp [rd, h]
theorem drop_at (l : List Int) (i : Nat) (h : i < l.length) : l.drop i = l[i] :: l.drop (i + 1) := List.drop_eq_getElem_cons h

theorem wide_over (l : List Int) (hl : l.length < 1000000) (below : Bool) : ∀ (n i k : Nat) (x : Int), i + n = l.length → n < k → crossdockref17_Take.l0 k below x true l l.length i = some (0, 1)
  | _, _, 0, _, _, h => absurd h (by omega)
  | 0, i, k + 1, x, h, _ => by rw [crossdockref17_Take.l0, if_neg (by omega), if_pos rfl]
  | n + 1, i, k + 1, x, h, hk => by
    have ih := fun y => wide_over l hl below n (i + 1) k y (by omega) (by omega)
    rw [crossdockref17_Take.l0, if_pos (by omega), if_pos (by omega), if_pos (by omega), nat_next i (by omega)]
    simp only [if_true]
    split <;> split <;> exact ih _
theorem wide_at (l : List Int) (hl : l.length < 1000000) (hb : ∀ b ∈ l, 0 ≤ b ∧ b < 256) (below : Bool) : ∀ (n i k : Nat) (x : Int), 1 ≤ i → i + n = l.length → n < k → 0 ≤ x → x < 9223372036854775808 →
    crossdockref17_Take.l0 k below x false l l.length i = some (convA (ans 1 (binr (l.drop i) (sg below x))))
  | _, _, 0, _, _, _, h, _, _ => absurd h (by omega)
  | 0, i, k + 1, x, _, h, _, h0, h1 => by
    rw [crossdockref17_Take.l0, if_neg (by omega), if_neg (by decide), List.drop_eq_nil_of_le (by omega)]
    unfold sg
    cases below with
    | true =>
      rw [if_pos rfl, if_pos rfl]
      show some (_, (0 : Int)) = some (_, 0)
      rw [show wrap64 (wrap64 (-wrap64 x) - 1) = -x - 1 by unfold wrap64; omega]
    | false =>
      rw [if_neg (by decide), if_neg (by decide)]
      show some (_, (0 : Int)) = some (_, 0)
      rw [show wrap64 x = x by unfold wrap64; omega]
  | n + 1, i, k + 1, x, hi, h, hk, h0, h1 => by
    have hlt : i < l.length := by omega
    have hv := hb _ (List.getElem_mem hlt)
    have ih := fun y => wide_at l hl hb below n (i + 1) k y (by omega) (by omega) (by omega)
    have io := fun y => wide_over l hl below n (i + 1) k y (by omega) (by omega)
    rw [crossdockref17_Take.l0, if_pos (by omega), if_pos (by omega), if_pos (by omega), if_neg (by omega), nat_next i (by omega), rd_at l i hlt, drop_at l i hlt]
    generalize l[i] = b at hv
    have hu : IntKind.u64.wrap b = b := by rw [IntKind.wrap_u64]; omega
    rw [hu]
    show _ = some (convA (ans 1 (if _ then _ else _)))
    cases below with
    | true =>
      have e1 : IntKind.u64.wrap (255 - b) = 255 - b := by rw [IntKind.wrap_u64]; omega
      have e2 : IntKind.u64.wrap (9223372036854775807 - (255 - b)) = 9223372036854775807 - (255 - b) := by rw [IntKind.wrap_u64]; omega
      have e3 : IntKind.u64.wrap (Int.tdiv (9223372036854775807 - (255 - b)) 256) = 36028797018963967 := by rw [IntKind.wrap_u64, Int.tdiv_eq_ediv_of_nonneg (by omega)]; omega
      simp only [if_true, Bool.false_eq_true, if_false]
      rw [e1, e2, e3]
      unfold sg
      rw [if_pos rfl]
      by_cases hx : x > 36028797018963967
      · rw [decide_eq_true hx, io, if_neg (by omega)]
        rfl
      · have e4 : IntKind.u64.wrap (IntKind.u64.wrap (x * 256) + (255 - b)) = x * 256 + (255 - b) := by rw [IntKind.wrap_u64, IntKind.wrap_u64]; omega
        rw [decide_eq_false hx, e4, ih _ (by omega) (by omega), if_pos (by omega)]
        unfold sg
        rw [if_pos rfl, show -(x * 256 + (255 - b)) - 1 = 256 * (-x - 1) + b by omega]
    | false =>
      have e2 : IntKind.u64.wrap (9223372036854775807 - b) = 9223372036854775807 - b := by rw [IntKind.wrap_u64]; omega
      have e3 : IntKind.u64.wrap (Int.tdiv (9223372036854775807 - b) 256) = 36028797018963967 := by rw [IntKind.wrap_u64, Int.tdiv_eq_ediv_of_nonneg (by omega)]; omega
      simp only [Bool.false_eq_true, if_false]
      rw [e2, e3, show sg false x = x from rfl]
      by_cases hx : x > 36028797018963967
      · rw [decide_eq_true hx, io, if_neg (by omega)]
        rfl
      · have e4 : IntKind.u64.wrap (IntKind.u64.wrap (x * 256) + b) = x * 256 + b := by rw [IntKind.wrap_u64, IntKind.wrap_u64]; omega
        rw [decide_eq_false hx, e4, ih _ (by omega) (by omega), if_pos (by omega)]
        rw [show sg false (x * 256 + b) = x * 256 + b from rfl, show x * 256 + b = 256 * x + b by omega]
theorem wide_0 (l : List Int) (hl : l.length < 1000000) (hb : ∀ b ∈ l, 0 ≤ b ∧ b < 256) (h0 : 0 < l.length) (h128 : (128 : Int) ≤ l[0]) (k : Nat) (hk : l.length < k) :
    crossdockref17_Take.l0 (k + 1) (decide ((192 : Int) ≤ l[0])) 0 false l l.length 0 = some (convA (ans 1 (bin l))) := by
  have hv := hb _ (List.getElem_mem h0)
  have ih := fun y => wide_at l hl hb (decide ((192 : Int) ≤ l[0])) (l.length - 1) 1 k y (by omega) (by omega) (by omega)
  have er : rd l 0 = l[0] := rd_at l 0 h0
  have ed : l = l[0] :: l.drop 1 := by have := drop_at l 0 h0; rwa [List.drop_zero] at this
  have eb : bin l = binr (l.drop 1) (top l[0]) := by
    conv => lhs; rw [ed]
    rfl
  rw [crossdockref17_Take.l0, if_pos (by omega), if_pos (by omega), if_pos (by omega), if_pos rfl, er, eb, show wrap64 (0 + 1) = ((1 : Nat) : Int) from nat_next 0 (by decide)]
  generalize l[0] = b at *
  clear ed eb er
  have hu : IntKind.u64.wrap b = b := by rw [IntKind.wrap_u64]; omega
  have hm : Int.tmod b 128 = b - 128 := by rw [Int.tmod_eq_emod_of_nonneg (by omega)]; omega
  rw [hu, hm]
  unfold top
  by_cases hx : 192 ≤ b
  · have e1 : IntKind.u64.wrap (127 - (b - 128)) = 255 - b := by rw [IntKind.wrap_u64]; omega
    have e2 : IntKind.u64.wrap (9223372036854775807 - (255 - b)) = 9223372036854775807 - (255 - b) := by rw [IntKind.wrap_u64]; omega
    have e3 : IntKind.u64.wrap (Int.tdiv (9223372036854775807 - (255 - b)) 256) = 36028797018963967 := by rw [IntKind.wrap_u64, Int.tdiv_eq_ediv_of_nonneg (by omega)]; omega
    have e4 : IntKind.u64.wrap (IntKind.u64.wrap (0 * 256) + (255 - b)) = 255 - b := by rw [IntKind.wrap_u64, IntKind.wrap_u64]; omega
    rw [decide_eq_true hx] at ih ⊢
    simp only [if_true, Bool.false_eq_true, if_false]
    rw [e1, e2, e3, e4, show decide ((0 : Int) > 36028797018963967) = false from rfl, ih _ (by omega) (by omega), if_pos hx]
    unfold sg
    rw [if_pos rfl, show -(255 - b) - 1 = b - 256 by omega]
  · have e2 : IntKind.u64.wrap (9223372036854775807 - (b - 128)) = 9223372036854775807 - (b - 128) := by rw [IntKind.wrap_u64]; omega
    have e3 : IntKind.u64.wrap (Int.tdiv (9223372036854775807 - (b - 128)) 256) = 36028797018963967 := by rw [IntKind.wrap_u64, Int.tdiv_eq_ediv_of_nonneg (by omega)]; omega
    have e4 : IntKind.u64.wrap (IntKind.u64.wrap (0 * 256) + (b - 128)) = b - 128 := by rw [IntKind.wrap_u64, IntKind.wrap_u64]; omega
    rw [decide_eq_false hx] at ih ⊢
    simp only [Bool.false_eq_true, if_false]
    rw [e2, e3, e4, show decide ((0 : Int) > 36028797018963967) = false from rfl, ih _ (by omega) (by omega), if_neg hx]
    unfold sg
    rw [if_neg (by decide)]

theorem end_at (l : List Int) (hl : l.length < 1000000) (x : Int) (ov : Bool) : ∀ (n i k : Nat), i + n = l.length → n + 1 < k →
    crossdockref17_Take.l3 k l i x ov = some (if (l.drop i).all wht then (if ov then (0, 1) else (x, 0)) else (0, 2))
  | _, _, 0, _, h => absurd h (by omega)
  | _, _, 1, _, h => absurd h (by omega)
  | 0, i, k + 2, h, _ => by
    rw [crossdockref17_Take.l3, if_neg (by omega), crossdockref17_Take.j6, if_neg (by omega), List.drop_eq_nil_of_le (by omega)]
    cases ov <;> rfl
  | n + 1, i, k + 2, h, hk => by
    have hlt : i < l.length := by omega
    rw [crossdockref17_Take.l3, if_pos (by omega), if_pos (by omega), nat_next i (by omega), rd_at l i hlt, end_at l hl x ov n (i + 1) (k + 1) (by omega) (by omega), crossdockref17_Take.j6, if_pos (show (i : Int) < (l.length : Int) by omega), drop_at l i hlt]
    generalize l[i] = b
    rw [List.all_cons]
    by_cases h1 : b = 32
    · rw [if_pos h1, show wht b = true from decide_eq_true (.inl h1), Bool.true_and]
    · rw [if_neg h1]
      by_cases h2 : b = 0
      · rw [if_pos h2, show wht b = true from decide_eq_true (.inr h2), Bool.true_and]
      · rw [if_neg h2, show wht b = false from decide_eq_false (fun e => e.elim h1 h2), Bool.false_and]
        rfl
def figA (x : Int) (ov : Bool) (t : List Int) : Int × Int := if ov then (0, 1) else convA (ans 1 (oct t x))
theorem fig_at (l : List Int) (hl : l.length < 1000000) : ∀ (n i k : Nat) (x : Int) (ov : Bool), i + n = l.length → 2 * n + 4 < k → 0 ≤ x → x < 9223372036854775808 →
    crossdockref17_Take.l2 k l i x ov = some (if ((l.drop i).dropWhile dig).all wht then figA x ov ((l.drop i).takeWhile dig) else (0, 2))
  | _, _, 0, _, _, _, h, _, _ => absurd h (by omega)
  | _, _, 1, _, _, _, h, _, _ => absurd h (by omega)
  | 0, i, k + 2, x, ov, h, hk, h0, h1 => by
    rw [crossdockref17_Take.l2, if_neg (by omega), crossdockref17_Take.j4, if_neg (by decide), end_at l hl x ov 0 i k h (by omega), List.drop_eq_nil_of_le (by omega)]
    cases ov <;> rfl
  | n + 1, i, k + 2, x, ov, h, hk, h0, h1 => by
    have hlt : i < l.length := by omega
    have he := end_at l hl x ov (n + 1) i k h (by omega)
    have ih := fun y o => fig_at l hl n (i + 1) k y o (by omega) (by omega)
    rw [crossdockref17_Take.l2, if_pos (by omega), if_pos (by omega), crossdockref17_Take.j4, crossdockref17_Take.j4, he, nat_next i (by omega), rd_at l i hlt, drop_at l i hlt]
    generalize l[i] = b
    by_cases hd : 48 ≤ b ∧ b ≤ 55
    · have hdg : dig b = true := decide_eq_true hd
      rw [if_pos hd.1, decide_eq_true (show b < 56 by omega), if_pos rfl, List.dropWhile_cons_of_pos hdg, List.takeWhile_cons_of_pos hdg]
      cases ov with
      | true => rw [if_pos rfl, ih x true h0 h1]; rfl
      | false =>
        rw [if_neg (by decide)]
        by_cases hx : x > 1152921504606846975
        · rw [if_pos hx, decide_eq_true hx, ih x true h0 h1]
          rw [show figA x true (l.drop (i + 1) |>.takeWhile dig) = (0, 1) from rfl, show figA x false (b :: (l.drop (i + 1)).takeWhile dig) = convA (ans 1 (if 1152921504606846975 < x then none else oct ((l.drop (i + 1)).takeWhile dig) (8 * x + (b - 48)))) from rfl, if_pos (show 1152921504606846975 < x from hx)]
          rfl
        · have e1 : wrap64 (wrap64 (x * 8) + (b - 48) % 256) = 8 * x + (b - 48) := by unfold wrap64; omega
          rw [if_neg hx, if_pos (by omega), if_pos (by omega), decide_eq_false hx, e1, ih _ false (by omega) (by omega)]
          rw [show figA x false (b :: (l.drop (i + 1)).takeWhile dig) = convA (ans 1 (if 1152921504606846975 < x then none else oct ((l.drop (i + 1)).takeWhile dig) (8 * x + (b - 48)))) from rfl, if_neg (show ¬ 1152921504606846975 < x from hx)]
          rfl
    · have hdg : ¬ dig b = true := fun e => hd (of_decide_eq_true e)
      rw [List.dropWhile_cons_of_neg hdg, List.takeWhile_cons_of_neg hdg]
      have key : (if b ≥ 48 then (if decide (b < 56) = true then (if ov = true then crossdockref17_Take.l2 k l ((i + 1 : Nat) : Int) x true else if x > 1152921504606846975 then crossdockref17_Take.l2 k l ((i + 1 : Nat) : Int) x (decide (x > 1152921504606846975)) else if 0 ≤ (i : Int) then (if (i : Int) < (l.length : Int) then crossdockref17_Take.l2 k l ((i + 1 : Nat) : Int) (wrap64 (wrap64 (x * 8) + (b - 48) % 256)) (decide (x > 1152921504606846975)) else none) else none) else some (if (b :: l.drop (i + 1)).all wht then (if ov then (0, 1) else (x, 0)) else (0, 2))) else some (if (b :: l.drop (i + 1)).all wht then (if ov then (0, 1) else (x, 0)) else (0, 2))) = some (if (b :: l.drop (i + 1)).all wht then (if ov then (0, 1) else (x, 0)) else (0, 2)) := by
        by_cases h48 : b ≥ 48
        · rw [if_pos h48, if_neg (by simp; omega)]
        · rw [if_neg h48]
      have e0 : figA x ov [] = (if ov then (0, 1) else (x, 0)) := by cases ov <;> rfl
      rw [e0]
      simp only [Bool.false_eq_true, if_false]
      exact key
theorem spc_at (l : List Int) (hl : l.length < 1000000) : ∀ (n i k : Nat), i + n = l.length → 3 * n + 8 < k →
    crossdockref17_Take.l1 k l i = some (if (((l.drop i).dropWhile spc).dropWhile dig).all wht then figA 0 false (((l.drop i).dropWhile spc).takeWhile dig) else (0, 2))
  | _, _, 0, _, h => absurd h (by omega)
  | _, _, 1, _, h => absurd h (by omega)
  | 0, i, k + 2, h, hk => by
    rw [crossdockref17_Take.l1, if_neg (by omega), crossdockref17_Take.j2, fig_at l hl 0 i k 0 false h (by omega) (by omega) (by omega), List.drop_eq_nil_of_le (by omega)]
    rfl
  | n + 1, i, k + 2, h, hk => by
    have hlt : i < l.length := by omega
    have he := fig_at l hl (n + 1) i k 0 false h (by omega) (by omega) (by omega)
    rw [crossdockref17_Take.l1, if_pos (by omega), if_pos (by omega), crossdockref17_Take.j2, he, nat_next i (by omega), rd_at l i hlt, spc_at l hl n (i + 1) (k + 1) (by omega) (by omega), drop_at l i hlt]
    generalize l[i] = b
    by_cases h1 : b = 32
    · rw [if_pos h1, List.dropWhile_cons_of_pos (show spc b = true from decide_eq_true h1)]
    · rw [if_neg h1, List.dropWhile_cons_of_neg (show ¬ spc b = true from fun e => h1 (of_decide_eq_true e))]
theorem docTake_f (l : List Int) (hl : l.length < 1000000) (hb : ∀ b ∈ l, 0 ≤ b ∧ b < 256) : crossdockref17_Take.f (3 * l.length + 10) l = some (convA (takeA l)) := by
  unfold crossdockref17_Take.f
  by_cases h0 : l = []
  · subst h0; rfl
  have hp : 0 < l.length := List.length_pos_iff.2 h0
  have er : rd l 0 = l[0] := rd_at l 0 hp
  rw [if_neg (by omega), if_pos (by omega), er]
  have ed : l = l[0] :: l.drop 1 := by have := drop_at l 0 hp; rwa [List.drop_zero] at this
  have et : takeA l = if (128 : Int) ≤ l[0] then ans 1 (bin l) else if ((l.dropWhile spc).dropWhile dig).all wht then ans 1 (oct ((l.dropWhile spc).takeWhile dig) 0) else (some 2, 0) := by
    conv => lhs; rw [ed]
    show (if (128 : Int) ≤ l[0] then _ else _) = _
    rw [← ed]
  rw [et]
  by_cases h : (128 : Int) ≤ l[0]
  · rw [if_pos h, if_pos h]
    exact wide_0 l hl hb hp h (3 * l.length + 9) (by omega)
  · rw [if_neg h, if_neg h]
    have := spc_at l hl l.length 0 (3 * l.length + 10) (by omega) (by omega)
    rw [List.drop_zero] at this
    refine Eq.trans this ?_
    rw [show figA 0 false ((l.dropWhile spc).takeWhile dig) = convA (ans 1 (oct ((l.dropWhile spc).takeWhile dig) 0)) from rfl]
    split <;> rfl
end Go.Proofs.YtiioiikcjaiajaaDoor.My

namespace Go.Proofs.YtiioiikcjaiajaaDoor.MyDocX
open Go.Proofs.YtiioiikcjaiajaaDoor.PHeadPuts
open Go.RowKit Go.Proofs.YtiioiikcjaiajaaDoorW.PrintWords Go.Proofs.YtiioiikcjaiajaaDoorW.PrintLast Go.Proofs.YtiioiikcjaiajaaDoorW.PrintMore
attribute [local go_sem] max2_int min2_int max_two min_two max_three min_three max_four min_four   -- for this text's walks alone
set_option linter.unusedVariables false
set_option linter.unusedSimpArgs false

/-! ### crossdockref17_Text: function 39 -/
def crossdockref17_Text.l0 : Nat → List Int → Int → Option (ByteArray)
  | 0, _, _ => none
  | k + 1, x0, x3 => if x3 < (x0.length : Int) then (if 0 ≤ x3 then (if (rd x0 x3) = 0 then (if x3 ≤ (x0.length : Int) then (some (strOfNums (x0.take (x3 : Int).toNat))) else (none)) else (crossdockref17_Text.l0 k x0 (wrap64 (x3 + 1)))) else (none)) else (some (strOfNums x0))
def crossdockref17_Text.f (k : Nat) (l0 : List Int) : Option (ByteArray) := crossdockref17_Text.l0 k l0 0
theorem crossdockref17_Text.mono_l : ∀ k, (∀ y0 y1, LeO (crossdockref17_Text.l0 k y0 y1) (crossdockref17_Text.l0 (k + 1) y0 y1))
  | 0 => fun _ _ r h => by simp [crossdockref17_Text.l0] at h
  | k + 1 => by
    have ih0 := crossdockref17_Text.mono_l k
    · intro y0 y1
      unfold crossdockref17_Text.l0
      repeat' first
      | (with_reducible exact ih0 _ _)
      | (with_reducible exact LeO.refl _)
      | (with_reducible exact LeO.none _)
      | (with_reducible refine LeO.ite ?_ ?_)
      | (with_reducible refine LeO.bind ?_ (fun _ => ?_))
      | exact ih0 _ _
      | exact LeO.none _
      | refine LeO.ite ?_ ?_
      | refine LeO.bind ?_ (fun _ => ?_)
theorem crossdockref17_Text.mono : ∀ a0 k, LeO (crossdockref17_Text.f k a0) (crossdockref17_Text.f (k + 1) a0) := by
  intro a0 k
  have ih0 := crossdockref17_Text.mono_l k
  unfold crossdockref17_Text.f
  repeat' first
      | (with_reducible exact ih0 _ _)
      | (with_reducible exact LeO.refl _)
      | (with_reducible exact LeO.none _)
      | (with_reducible refine LeO.ite ?_ ?_)
      | (with_reducible refine LeO.bind ?_ (fun _ => ?_))
      | exact ih0 _ _
      | exact LeO.none _
      | refine LeO.ite ?_ ?_
      | refine LeO.bind ?_ (fun _ => ?_)
set_option maxHeartbeats 8000000 in
set_option maxRecDepth 100000 in
theorem crossdockref17_Text.calls (k : Nat) (A0 : Option Addr) (c0 : Nat) (l0 : List Int) (r : ByteArray) (w : World) (hr0 : Kd.C (Kd.int .u8) w A0 l0.length l0) (hc0 : l0.length ≤ c0) (h : crossdockref17_Text.f k l0 = some r) :
    Calls Tryd.prog 39 #[.slice A0 l0.length c0] w fun e w' => e = .returned (.string r) ∧ Drawn0 w w' := by
  have HR0 := Aside0.mk hr0
  have HC0 := Aside0.mk hc0
  clear hr0 hc0
  have H : (crossdockref17_Text.l0 k l0 0) = some r := h
  clear h
  have H' := Aside0.mk H
  clear H
  go_enter Tryd.func39, Tryd.ntmps39
  go_wp2
  go_loopg [3] k (fun kq v3 w' => ∃ (x3_1 : Int), v3 = .int .i64 x3_1 ∧ Aside0 (crossdockref17_Text.l0 kq l0 x3_1 = some r) ∧ Aside0 (kq ≤ k) ∧ Drawn0 w w')
  case atStart => exact ⟨(0), (by first | rfl | (simp; done) | (simp [*]; done)), H', ⟨Nat.le_refl _⟩, by repeat (first | exact Drawn0.refl _ | apply Drawn0.step)⟩
  case round =>
    clear H'
    obtain ⟨x3_1, rfl, HA, HK1, ⟨m1, rfl⟩⟩ := hrel
    cases gk with
    | zero => exact absurd HA.out (by simp [crossdockref17_Text.l0])
    | succ k1 =>
      have H := HA.out
      clear HA
      simp only [crossdockref17_Text.l0] at H
      by_cases c2 : x3_1 < (l0.length : Int)
      · rw [if_pos c2] at H
        have c2b0 : decide (x3_1 < (l0.length : Int)) = true := decide_eq_true c2
        clear c2
        by_cases c3 : 0 ≤ x3_1
        · rw [if_pos c3] at H
          have c3b0 : decide (0 ≤ x3_1) = true := decide_eq_true c3
          clear c3
          by_cases c4 : (rd l0 x3_1) = 0
          · rw [if_pos c4] at H
            have c4b0 : ((rd l0 x3_1) == 0) = true := beq_iff_eq.mpr c4
            have c4b1 : ((rd l0 x3_1) != 0) = false := bne_eq_false_iff_eq.mpr c4
            clear c4
            have c5b0 := eq_true (of_decide_eq_true (by first | (with_reducible assumption) | assumption) : 0 ≤ x3_1)
            by_cases c6 : x3_1 ≤ (l0.length : Int)
            · rw [if_pos c6] at H
              have c6b0 := eq_true c6
              have c6b1 : decide (x3_1 ≤ (l0.length : Int)) = true := decide_eq_true c6
              clear c6
              obtain rfl := Option.some.inj H
              have p180 : 0 ≤ (x3_1 : Int) := of_decide_eq_true (by first | (with_reducible assumption) | assumption)
              have q180 : x3_1 < (l0.length : Int) := of_decide_eq_true (by first | (with_reducible assumption) | assumption)
              obtain ⟨ad180, e180, hx180_0⟩ := Kd.at_int HR0.out x3_1 p180 q180
              cases e180
              replace p180 := eq_true p180
              replace q180 := eq_true q180
              obtain ⟨i07, hi07, _, hsz7, _⟩ := info_parts info5
              obtain ⟨hcut7, hA7, hC7⟩ := print_take_of (P := Tryd.prog) (Value.int .u8) 0 26 5 .i64 Tryd.underlying26 hi07 hsz7 (some ad180) c0 l0 x3_1 (of_decide_eq_true (by first | (with_reducible assumption) | assumption)) (of_decide_eq_true (by first | (with_reducible assumption) | assumption)) HC0.out
              have HR181 := Aside0.mk (Kd.C_of_reads (h1 := fun _ => rfl) (hA7 _ (Kd.reads_of_C HR0.out)))
              have HC181 := Aside0.mk hC7
              clear hA7 hC7 hi07 hsz7
              have hcv8 := Kd.C_string (P := Tryd.prog) (w := w.drewN m1) (A := (some ad180)) (c := c0) Tryd.underlying26 Tryd.underlying5 Tryd.underlying9 HR181.out
              have hl8 : (List.take x3_1.toNat l0).length = x3_1.toNat := by have k6 := of_decide_eq_true c6b1; rw [List.length_take]; omega
              rw [hl8] at hcv8
              go_wp2
              go_ret
              exact ⟨by first | rfl | (simp; done) | (simp [*]; done), by repeat (first | exact Drawn0.refl _ | apply Drawn0.step)⟩
            · rw [if_neg c6] at H
              exact absurd H (by simp)
          · rw [if_neg c4] at H
            have c4b0 : ((rd l0 x3_1) == 0) = false := beq_eq_false_iff_ne.mpr c4
            have c4b1 : ((rd l0 x3_1) != 0) = true := bne_iff_ne.mpr c4
            have H' := Aside0.mk H
            clear H
            have p180 : 0 ≤ (x3_1 : Int) := of_decide_eq_true (by first | (with_reducible assumption) | assumption)
            have q180 : x3_1 < (l0.length : Int) := of_decide_eq_true (by first | (with_reducible assumption) | assumption)
            obtain ⟨ad180, e180, hx180_0⟩ := Kd.at_int HR0.out x3_1 p180 q180
            cases e180
            replace p180 := eq_true p180
            replace q180 := eq_true q180
            go_wp2
            go_roundg k1
            case measure => have := HK1.out; omega
            case rel => exact ⟨(wrap64 (x3_1 + 1)), (by first | rfl | (simp; done) | (simp [*]; done)), H', ⟨by have := HK1.out; omega⟩, by repeat (first | exact Drawn0.refl _ | apply Drawn0.step)⟩
        · rw [if_neg c3] at H
          exact absurd H (by simp)
      · rw [if_neg c2] at H
        have c2b0 : decide (x3_1 < (l0.length : Int)) = false := decide_eq_false c2
        clear c2
        obtain rfl := Option.some.inj H
        have hcv9 := Kd.C_string (P := Tryd.prog) (w := w.drewN m1) (A := A0) (c := c0) Tryd.underlying26 Tryd.underlying5 Tryd.underlying9 HR0.out
        go_wp2
        go_ret
        exact ⟨by first | rfl | (simp; done) | (simp [*]; done), by repeat (first | exact Drawn0.refl _ | apply Drawn0.step)⟩

-- NOT PRINTED: function 17 (crossdockref19_Take)

-- NOT PRINTED: function 19 (head_None)

-- NOT PRINTED: function 6 (crossdocklaw19_HeadTakes)

end Go.Proofs.YtiioiikcjaiajaaDoor.MyDocX

set_option maxRecDepth 100000
namespace Go.Proofs.YtiioiikcjaiajaaDoor.My
open Go.RowKit Go.Proofs.YtiioiikcjaiajaaDoorW.PrintWords Go.Proofs.YtiioiikcjaiajaaDoorW.PrintLast Go.Proofs.YtiioiikcjaiajaaDoorW.PrintMore Go.Proofs.YtiioiikcjaiajaaDoor.Oct Go.Proofs.YtiioiikcjaiajaaDoor.Hd Go.Proofs.YtiioiikcjaiajaaDoor.MyDocX
theorem dtext_at (l : List Int) (hl : l.length < 1000000) : ∀ (n i k : Nat), i + n = l.length → n < k → (∀ x ∈ l.take i, nz x = true) → crossdockref17_Text.l0 k l i = some (textOf l)
  | n, i, 0, _, h, _ => absurd h (by omega)
  | 0, i, k + 1, h, _, hx => by
    rw [crossdockref17_Text.l0]
    rw [if_neg (by omega)]
    rw [List.take_of_length_le (by omega)] at hx
    unfold textOf
    have e := List.takeWhile_append_of_pos (l₂ := []) hx
    rw [List.append_nil, List.takeWhile_nil, List.append_nil] at e
    rw [e]
  | n + 1, i, k + 1, h, hk, hx => by
    have hi : i < l.length := by omega
    have hr : rd l (i : Int) = l[i] := by simp [rd, hi]
    rw [crossdockref17_Text.l0]
    rw [if_pos (by omega), if_pos (by omega)]
    by_cases h0 : rd l (i : Int) = 0
    · rw [if_pos h0, if_pos (by omega), Int.toNat_natCast]
      unfold textOf
      have e : l = l.take i ++ l[i] :: l.drop (i + 1) := by rw [← List.drop_eq_getElem_cons hi, List.take_append_drop]
      have hn : nz l[i] = false := by rw [← hr, h0]; rfl
      have e2 : l.takeWhile nz = l.take i := by
        have e3 := List.takeWhile_append_of_pos (l₂ := l[i] :: l.drop (i + 1)) hx
        rw [← e, List.takeWhile_cons, hn] at e3
        simpa using e3
      rw [e2]
    · rw [if_neg h0, show wrap64 ((i : Int) + 1) = ((i + 1 : Nat) : Int) from by unfold wrap64; omega]
      refine dtext_at l hl n (i + 1) k (by omega) (by omega) ?_
      intro x hxx
      rw [List.take_add_one, List.getElem?_eq_getElem hi] at hxx
      rcases List.mem_append.1 hxx with q | q
      · exact hx x q
      · rw [Option.toList_some, List.mem_singleton] at q
        rw [q, ← hr]
        simpa [nz] using h0
theorem docText_f (l : List Int) (hl : l.length < 1000000) : crossdockref17_Text.f (l.length + 1) l = some (textOf l) := dtext_at l hl l.length 0 (l.length + 1) (by omega) (by omega) (fun x hx => by cases hx)
end Go.Proofs.YtiioiikcjaiajaaDoor.My

-- Cut by cutprint.py out of what the kit's print wrote for this seat.
namespace Go.Proofs.YtiioiikcjaiajaaDoor.MyDocA
open Go.Proofs.YtiioiikcjaiajaaDoor.PHeadPuts
open Go.RowKit Go.Proofs.YtiioiikcjaiajaaDoorW.PrintWords Go.Proofs.YtiioiikcjaiajaaDoorW.PrintLast Go.Proofs.YtiioiikcjaiajaaDoorW.PrintMore
attribute [local go_sem] max2_int min2_int max_two min_two max_three min_three max_four min_four   -- for this text's walks alone
set_option linter.unusedVariables false
set_option linter.unusedSimpArgs false

/-! ### crossdocklaw19_Long: function 8 -/
def crossdocklaw19_Long.f (a0_0 : ByteArray) (a0_1 : Int) (a0_2 : Int) (a0_3 : Int) (a0_4 : Int) (a0_5 : Int) (a0_6 : Int) (a0_7 : ByteArray) (a0_8 : ByteArray) (a0_9 : ByteArray) (a0_10 : Int) (a0_11 : Int) : Option (Bool) := if (a0_0.size : Int) > 600 then (some true) else (if (a0_7.size : Int) > 600 then (some true) else (if (a0_8.size : Int) > 600 then (some true) else (some (decide ((a0_9.size : Int) > 600)))))
set_option maxHeartbeats 8000000 in
set_option maxRecDepth 100000 in
theorem crossdocklaw19_Long.calls (a0_0 : ByteArray) (a0_1 : Int) (a0_2 : Int) (a0_3 : Int) (a0_4 : Int) (a0_5 : Int) (a0_6 : Int) (a0_7 : ByteArray) (a0_8 : ByteArray) (a0_9 : ByteArray) (a0_10 : Int) (a0_11 : Int) (r : Bool) (w : World) (h : crossdocklaw19_Long.f a0_0 a0_1 a0_2 a0_3 a0_4 a0_5 a0_6 a0_7 a0_8 a0_9 a0_10 a0_11 = some r) :
    Calls Tryd.prog 8 #[.agg #[.string a0_0, .int .i64 a0_1, .int .i64 a0_2, .int .i64 a0_3, .int .i64 a0_4, .int .i64 a0_5, .int .u8 a0_6, .string a0_7, .string a0_8, .string a0_9, .int .i64 a0_10, .int .i64 a0_11]] w fun e w' => e = .returned (.bool r) ∧ Below w.heap.size w w' := by
  have hu23 := Tryd.underlying23
  have HB := Aside0.mk (Below.refl w.heap.size w)
  have H : (if (a0_0.size : Int) > 600 then (some true) else (if (a0_7.size : Int) > 600 then (some true) else (if (a0_8.size : Int) > 600 then (some true) else (some (decide ((a0_9.size : Int) > 600)))))) = some r := h
  clear h
  by_cases c2 : (a0_0.size : Int) > 600
  · rw [if_pos c2] at H
    have c2b0 : decide (600 < (a0_0.size : Int)) = true := decide_eq_true c2
    have c2b1 : decide (600 < a0_0.size) = true := decide_eq_true (by omega)
    clear c2
    obtain rfl := Option.some.inj H
    go_enter Tryd.func8, Tryd.ntmps8
    go_wp2_with (first | ((with_reducible refine gate_dst (N := 1) rfl ?_); (try (refine gate_guard (by rfl) ?_; dsimp only)); refine box_event ?hg (N := 1) ?hd (cs := #[.string a0_0, .int .i64 a0_1, .int .i64 a0_2, .int .i64 a0_3, .int .i64 a0_4, .int .i64 a0_5, .int .u8 a0_6, .string a0_7, .string a0_8, .string a0_9, .int .i64 a0_10, .int .i64 a0_11]) (t := 23) ?hr ?_; (case hd => rfl); (case hg => rfl); (case hr => first | (go_simp; done) | (go_simp; rfl)); intro gb121 hg w3 hbox hb; have n0_ := Aside0.mk (below_step (by repeat (first | (with_reducible first | exact HB.out | apply below_alloc | apply pw_below_drewN | apply below_drew1) | exact HB.out)) hb); have n1_ := Aside0.mk (hbox); have n2_ := Aside0.mk ((by rw [hg]; exact (below_size (by repeat (first | (with_reducible first | exact HB.out | apply below_alloc | apply pw_below_drewN | apply below_drew1) | exact HB.out))) : w.heap.size ≤ gb121)); have n3_ := Aside0.mk ((by rw [hg]; exact (below_size (by repeat (first | (with_reducible first | exact HB.out | apply below_alloc | apply pw_below_drewN | apply below_drew1) | exact HB.out))) : w.heap.size ≤ gb121)); clear HB; have HB := n0_; have BK121 := n1_; have GW121 := n2_; have GE121 := n3_; clear n0_ n1_ n2_ n3_; clear hb hbox hg; have hcz4_0 : w3.cell? ⟨gb121, 0, none⟩ = some (.string a0_0) := (blk_cell BK121.out 0).trans rfl; have hcz4_1 : w3.cell? ⟨gb121, 1, none⟩ = some (.int .i64 a0_1) := (blk_cell BK121.out 1).trans rfl; have hcz4_2 : w3.cell? ⟨gb121, 2, none⟩ = some (.int .i64 a0_2) := (blk_cell BK121.out 2).trans rfl; have hcz4_3 : w3.cell? ⟨gb121, 3, none⟩ = some (.int .i64 a0_3) := (blk_cell BK121.out 3).trans rfl; have hcz4_4 : w3.cell? ⟨gb121, 4, none⟩ = some (.int .i64 a0_4) := (blk_cell BK121.out 4).trans rfl; have hcz4_5 : w3.cell? ⟨gb121, 5, none⟩ = some (.int .i64 a0_5) := (blk_cell BK121.out 5).trans rfl; have hcz4_6 : w3.cell? ⟨gb121, 6, none⟩ = some (.int .u8 a0_6) := (blk_cell BK121.out 6).trans rfl; have hcz4_7 : w3.cell? ⟨gb121, 7, none⟩ = some (.string a0_7) := (blk_cell BK121.out 7).trans rfl; have hcz4_8 : w3.cell? ⟨gb121, 8, none⟩ = some (.string a0_8) := (blk_cell BK121.out 8).trans rfl; have hcz4_9 : w3.cell? ⟨gb121, 9, none⟩ = some (.string a0_9) := (blk_cell BK121.out 9).trans rfl; have hcz4_10 : w3.cell? ⟨gb121, 10, none⟩ = some (.int .i64 a0_10) := (blk_cell BK121.out 10).trans rfl; have hcz4_11 : w3.cell? ⟨gb121, 11, none⟩ = some (.int .i64 a0_11) := (blk_cell BK121.out 11).trans rfl; have hfz4_0 := blk_frozen BK121.out 0; have hfz4_1 := blk_frozen BK121.out 1; have hfz4_2 := blk_frozen BK121.out 2; have hfz4_3 := blk_frozen BK121.out 3; have hfz4_4 := blk_frozen BK121.out 4; have hfz4_5 := blk_frozen BK121.out 5; have hfz4_6 := blk_frozen BK121.out 6; have hfz4_7 := blk_frozen BK121.out 7; have hfz4_8 := blk_frozen BK121.out 8; have hfz4_9 := blk_frozen BK121.out 9; have hfz4_10 := blk_frozen BK121.out 10; have hfz4_11 := blk_frozen BK121.out 11))
    go_ret
    exact ⟨by first | rfl | (simp [errW_none, errW_some] <;> rfl) | (simp [*, errW_none, errW_some] <;> rfl), by repeat (first | (with_reducible first | exact HB.out | apply below_alloc | apply pw_below_drewN | apply below_drew1 | refine below_set ?_ GE121.out) | exact HB.out)⟩
  · rw [if_neg c2] at H
    have c2b0 : decide (600 < (a0_0.size : Int)) = false := decide_eq_false c2
    have c2b1 : decide (600 < a0_0.size) = false := decide_eq_false (by omega)
    clear c2
    by_cases c5 : (a0_7.size : Int) > 600
    · rw [if_pos c5] at H
      have c5b0 : decide (600 < (a0_7.size : Int)) = true := decide_eq_true c5
      have c5b1 : decide (600 < a0_7.size) = true := decide_eq_true (by omega)
      clear c5
      obtain rfl := Option.some.inj H
      go_enter Tryd.func8, Tryd.ntmps8
      go_wp2_with (first | ((with_reducible refine gate_dst (N := 1) rfl ?_); (try (refine gate_guard (by rfl) ?_; dsimp only)); refine box_event ?hg (N := 1) ?hd (cs := #[.string a0_0, .int .i64 a0_1, .int .i64 a0_2, .int .i64 a0_3, .int .i64 a0_4, .int .i64 a0_5, .int .u8 a0_6, .string a0_7, .string a0_8, .string a0_9, .int .i64 a0_10, .int .i64 a0_11]) (t := 23) ?hr ?_; (case hd => rfl); (case hg => rfl); (case hr => first | (go_simp; done) | (go_simp; rfl)); intro gb121 hg w6 hbox hb; have n0_ := Aside0.mk (below_step (by repeat (first | (with_reducible first | exact HB.out | apply below_alloc | apply pw_below_drewN | apply below_drew1) | exact HB.out)) hb); have n1_ := Aside0.mk (hbox); have n2_ := Aside0.mk ((by rw [hg]; exact (below_size (by repeat (first | (with_reducible first | exact HB.out | apply below_alloc | apply pw_below_drewN | apply below_drew1) | exact HB.out))) : w.heap.size ≤ gb121)); have n3_ := Aside0.mk ((by rw [hg]; exact (below_size (by repeat (first | (with_reducible first | exact HB.out | apply below_alloc | apply pw_below_drewN | apply below_drew1) | exact HB.out))) : w.heap.size ≤ gb121)); clear HB; have HB := n0_; have BK121 := n1_; have GW121 := n2_; have GE121 := n3_; clear n0_ n1_ n2_ n3_; clear hb hbox hg; have hcz7_0 : w6.cell? ⟨gb121, 0, none⟩ = some (.string a0_0) := (blk_cell BK121.out 0).trans rfl; have hcz7_1 : w6.cell? ⟨gb121, 1, none⟩ = some (.int .i64 a0_1) := (blk_cell BK121.out 1).trans rfl; have hcz7_2 : w6.cell? ⟨gb121, 2, none⟩ = some (.int .i64 a0_2) := (blk_cell BK121.out 2).trans rfl; have hcz7_3 : w6.cell? ⟨gb121, 3, none⟩ = some (.int .i64 a0_3) := (blk_cell BK121.out 3).trans rfl; have hcz7_4 : w6.cell? ⟨gb121, 4, none⟩ = some (.int .i64 a0_4) := (blk_cell BK121.out 4).trans rfl; have hcz7_5 : w6.cell? ⟨gb121, 5, none⟩ = some (.int .i64 a0_5) := (blk_cell BK121.out 5).trans rfl; have hcz7_6 : w6.cell? ⟨gb121, 6, none⟩ = some (.int .u8 a0_6) := (blk_cell BK121.out 6).trans rfl; have hcz7_7 : w6.cell? ⟨gb121, 7, none⟩ = some (.string a0_7) := (blk_cell BK121.out 7).trans rfl; have hcz7_8 : w6.cell? ⟨gb121, 8, none⟩ = some (.string a0_8) := (blk_cell BK121.out 8).trans rfl; have hcz7_9 : w6.cell? ⟨gb121, 9, none⟩ = some (.string a0_9) := (blk_cell BK121.out 9).trans rfl; have hcz7_10 : w6.cell? ⟨gb121, 10, none⟩ = some (.int .i64 a0_10) := (blk_cell BK121.out 10).trans rfl; have hcz7_11 : w6.cell? ⟨gb121, 11, none⟩ = some (.int .i64 a0_11) := (blk_cell BK121.out 11).trans rfl; have hfz7_0 := blk_frozen BK121.out 0; have hfz7_1 := blk_frozen BK121.out 1; have hfz7_2 := blk_frozen BK121.out 2; have hfz7_3 := blk_frozen BK121.out 3; have hfz7_4 := blk_frozen BK121.out 4; have hfz7_5 := blk_frozen BK121.out 5; have hfz7_6 := blk_frozen BK121.out 6; have hfz7_7 := blk_frozen BK121.out 7; have hfz7_8 := blk_frozen BK121.out 8; have hfz7_9 := blk_frozen BK121.out 9; have hfz7_10 := blk_frozen BK121.out 10; have hfz7_11 := blk_frozen BK121.out 11))
      go_ret
      exact ⟨by first | rfl | (simp [errW_none, errW_some] <;> rfl) | (simp [*, errW_none, errW_some] <;> rfl), by repeat (first | (with_reducible first | exact HB.out | apply below_alloc | apply pw_below_drewN | apply below_drew1 | refine below_set ?_ GE121.out) | exact HB.out)⟩
    · rw [if_neg c5] at H
      have c5b0 : decide (600 < (a0_7.size : Int)) = false := decide_eq_false c5
      have c5b1 : decide (600 < a0_7.size) = false := decide_eq_false (by omega)
      clear c5
      by_cases c8 : (a0_8.size : Int) > 600
      · rw [if_pos c8] at H
        have c8b0 : decide (600 < (a0_8.size : Int)) = true := decide_eq_true c8
        have c8b1 : decide (600 < a0_8.size) = true := decide_eq_true (by omega)
        clear c8
        obtain rfl := Option.some.inj H
        go_enter Tryd.func8, Tryd.ntmps8
        go_wp2_with (first | ((with_reducible refine gate_dst (N := 1) rfl ?_); (try (refine gate_guard (by rfl) ?_; dsimp only)); refine box_event ?hg (N := 1) ?hd (cs := #[.string a0_0, .int .i64 a0_1, .int .i64 a0_2, .int .i64 a0_3, .int .i64 a0_4, .int .i64 a0_5, .int .u8 a0_6, .string a0_7, .string a0_8, .string a0_9, .int .i64 a0_10, .int .i64 a0_11]) (t := 23) ?hr ?_; (case hd => rfl); (case hg => rfl); (case hr => first | (go_simp; done) | (go_simp; rfl)); intro gb121 hg w9 hbox hb; have n0_ := Aside0.mk (below_step (by repeat (first | (with_reducible first | exact HB.out | apply below_alloc | apply pw_below_drewN | apply below_drew1) | exact HB.out)) hb); have n1_ := Aside0.mk (hbox); have n2_ := Aside0.mk ((by rw [hg]; exact (below_size (by repeat (first | (with_reducible first | exact HB.out | apply below_alloc | apply pw_below_drewN | apply below_drew1) | exact HB.out))) : w.heap.size ≤ gb121)); have n3_ := Aside0.mk ((by rw [hg]; exact (below_size (by repeat (first | (with_reducible first | exact HB.out | apply below_alloc | apply pw_below_drewN | apply below_drew1) | exact HB.out))) : w.heap.size ≤ gb121)); clear HB; have HB := n0_; have BK121 := n1_; have GW121 := n2_; have GE121 := n3_; clear n0_ n1_ n2_ n3_; clear hb hbox hg; have hcz10_0 : w9.cell? ⟨gb121, 0, none⟩ = some (.string a0_0) := (blk_cell BK121.out 0).trans rfl; have hcz10_1 : w9.cell? ⟨gb121, 1, none⟩ = some (.int .i64 a0_1) := (blk_cell BK121.out 1).trans rfl; have hcz10_2 : w9.cell? ⟨gb121, 2, none⟩ = some (.int .i64 a0_2) := (blk_cell BK121.out 2).trans rfl; have hcz10_3 : w9.cell? ⟨gb121, 3, none⟩ = some (.int .i64 a0_3) := (blk_cell BK121.out 3).trans rfl; have hcz10_4 : w9.cell? ⟨gb121, 4, none⟩ = some (.int .i64 a0_4) := (blk_cell BK121.out 4).trans rfl; have hcz10_5 : w9.cell? ⟨gb121, 5, none⟩ = some (.int .i64 a0_5) := (blk_cell BK121.out 5).trans rfl; have hcz10_6 : w9.cell? ⟨gb121, 6, none⟩ = some (.int .u8 a0_6) := (blk_cell BK121.out 6).trans rfl; have hcz10_7 : w9.cell? ⟨gb121, 7, none⟩ = some (.string a0_7) := (blk_cell BK121.out 7).trans rfl; have hcz10_8 : w9.cell? ⟨gb121, 8, none⟩ = some (.string a0_8) := (blk_cell BK121.out 8).trans rfl; have hcz10_9 : w9.cell? ⟨gb121, 9, none⟩ = some (.string a0_9) := (blk_cell BK121.out 9).trans rfl; have hcz10_10 : w9.cell? ⟨gb121, 10, none⟩ = some (.int .i64 a0_10) := (blk_cell BK121.out 10).trans rfl; have hcz10_11 : w9.cell? ⟨gb121, 11, none⟩ = some (.int .i64 a0_11) := (blk_cell BK121.out 11).trans rfl; have hfz10_0 := blk_frozen BK121.out 0; have hfz10_1 := blk_frozen BK121.out 1; have hfz10_2 := blk_frozen BK121.out 2; have hfz10_3 := blk_frozen BK121.out 3; have hfz10_4 := blk_frozen BK121.out 4; have hfz10_5 := blk_frozen BK121.out 5; have hfz10_6 := blk_frozen BK121.out 6; have hfz10_7 := blk_frozen BK121.out 7; have hfz10_8 := blk_frozen BK121.out 8; have hfz10_9 := blk_frozen BK121.out 9; have hfz10_10 := blk_frozen BK121.out 10; have hfz10_11 := blk_frozen BK121.out 11))
        go_ret
        exact ⟨by first | rfl | (simp [errW_none, errW_some] <;> rfl) | (simp [*, errW_none, errW_some] <;> rfl), by repeat (first | (with_reducible first | exact HB.out | apply below_alloc | apply pw_below_drewN | apply below_drew1 | refine below_set ?_ GE121.out) | exact HB.out)⟩
      · rw [if_neg c8] at H
        have c8b0 : decide (600 < (a0_8.size : Int)) = false := decide_eq_false c8
        have c8b1 : decide (600 < a0_8.size) = false := decide_eq_false (by omega)
        clear c8
        obtain rfl := Option.some.inj H
        go_enter Tryd.func8, Tryd.ntmps8
        go_wp2_with (first | ((with_reducible refine gate_dst (N := 1) rfl ?_); (try (refine gate_guard (by rfl) ?_; dsimp only)); refine box_event ?hg (N := 1) ?hd (cs := #[.string a0_0, .int .i64 a0_1, .int .i64 a0_2, .int .i64 a0_3, .int .i64 a0_4, .int .i64 a0_5, .int .u8 a0_6, .string a0_7, .string a0_8, .string a0_9, .int .i64 a0_10, .int .i64 a0_11]) (t := 23) ?hr ?_; (case hd => rfl); (case hg => rfl); (case hr => first | (go_simp; done) | (go_simp; rfl)); intro gb121 hg w11 hbox hb; have n0_ := Aside0.mk (below_step (by repeat (first | (with_reducible first | exact HB.out | apply below_alloc | apply pw_below_drewN | apply below_drew1) | exact HB.out)) hb); have n1_ := Aside0.mk (hbox); have n2_ := Aside0.mk ((by rw [hg]; exact (below_size (by repeat (first | (with_reducible first | exact HB.out | apply below_alloc | apply pw_below_drewN | apply below_drew1) | exact HB.out))) : w.heap.size ≤ gb121)); have n3_ := Aside0.mk ((by rw [hg]; exact (below_size (by repeat (first | (with_reducible first | exact HB.out | apply below_alloc | apply pw_below_drewN | apply below_drew1) | exact HB.out))) : w.heap.size ≤ gb121)); clear HB; have HB := n0_; have BK121 := n1_; have GW121 := n2_; have GE121 := n3_; clear n0_ n1_ n2_ n3_; clear hb hbox hg; have hcz12_0 : w11.cell? ⟨gb121, 0, none⟩ = some (.string a0_0) := (blk_cell BK121.out 0).trans rfl; have hcz12_1 : w11.cell? ⟨gb121, 1, none⟩ = some (.int .i64 a0_1) := (blk_cell BK121.out 1).trans rfl; have hcz12_2 : w11.cell? ⟨gb121, 2, none⟩ = some (.int .i64 a0_2) := (blk_cell BK121.out 2).trans rfl; have hcz12_3 : w11.cell? ⟨gb121, 3, none⟩ = some (.int .i64 a0_3) := (blk_cell BK121.out 3).trans rfl; have hcz12_4 : w11.cell? ⟨gb121, 4, none⟩ = some (.int .i64 a0_4) := (blk_cell BK121.out 4).trans rfl; have hcz12_5 : w11.cell? ⟨gb121, 5, none⟩ = some (.int .i64 a0_5) := (blk_cell BK121.out 5).trans rfl; have hcz12_6 : w11.cell? ⟨gb121, 6, none⟩ = some (.int .u8 a0_6) := (blk_cell BK121.out 6).trans rfl; have hcz12_7 : w11.cell? ⟨gb121, 7, none⟩ = some (.string a0_7) := (blk_cell BK121.out 7).trans rfl; have hcz12_8 : w11.cell? ⟨gb121, 8, none⟩ = some (.string a0_8) := (blk_cell BK121.out 8).trans rfl; have hcz12_9 : w11.cell? ⟨gb121, 9, none⟩ = some (.string a0_9) := (blk_cell BK121.out 9).trans rfl; have hcz12_10 : w11.cell? ⟨gb121, 10, none⟩ = some (.int .i64 a0_10) := (blk_cell BK121.out 10).trans rfl; have hcz12_11 : w11.cell? ⟨gb121, 11, none⟩ = some (.int .i64 a0_11) := (blk_cell BK121.out 11).trans rfl; have hfz12_0 := blk_frozen BK121.out 0; have hfz12_1 := blk_frozen BK121.out 1; have hfz12_2 := blk_frozen BK121.out 2; have hfz12_3 := blk_frozen BK121.out 3; have hfz12_4 := blk_frozen BK121.out 4; have hfz12_5 := blk_frozen BK121.out 5; have hfz12_6 := blk_frozen BK121.out 6; have hfz12_7 := blk_frozen BK121.out 7; have hfz12_8 := blk_frozen BK121.out 8; have hfz12_9 := blk_frozen BK121.out 9; have hfz12_10 := blk_frozen BK121.out 10; have hfz12_11 := blk_frozen BK121.out 11))
        go_ret
        exact ⟨by first | rfl | (simp [errW_none, errW_some] <;> rfl) | (simp [*, errW_none, errW_some] <;> rfl), by repeat (first | (with_reducible first | exact HB.out | apply below_alloc | apply pw_below_drewN | apply below_drew1 | refine below_set ?_ GE121.out) | exact HB.out)⟩

/-! ### crossdockref19_Sum: function 20 -/
def crossdockref19_Sum.l0 : Nat → List Int → Int → Int → Option (Int)
  | 0, _, _, _ => none
  | k + 1, x0, x3, x4 => if x4 < 512 then (if x4 ≥ 148 then (if x4 < 156 then (crossdockref19_Sum.l0 k x0 (wrap64 (x3 + 32)) (wrap64 (x4 + 1))) else (if 0 ≤ x4 then (if x4 < (x0.length : Int) then (crossdockref19_Sum.l0 k x0 (wrap64 (x3 + (wrap64 (rd x0 x4)))) (wrap64 (x4 + 1))) else (none)) else (none))) else (if 0 ≤ x4 then (if x4 < (x0.length : Int) then (crossdockref19_Sum.l0 k x0 (wrap64 (x3 + (wrap64 (rd x0 x4)))) (wrap64 (x4 + 1))) else (none)) else (none))) else (some x3)
def crossdockref19_Sum.f (k : Nat) (l0 : List Int) : Option (Int) := crossdockref19_Sum.l0 k l0 0 0
theorem crossdockref19_Sum.mono_l : ∀ k, (∀ y0 y1 y2, LeO (crossdockref19_Sum.l0 k y0 y1 y2) (crossdockref19_Sum.l0 (k + 1) y0 y1 y2))
  | 0 => fun _ _ _ r h => by simp [crossdockref19_Sum.l0] at h
  | k + 1 => by
    have ih0 := crossdockref19_Sum.mono_l k
    · intro y0 y1 y2
      unfold crossdockref19_Sum.l0
      repeat' first
      | (with_reducible exact ih0 _ _ _)
      | (with_reducible exact LeO.refl _)
      | (with_reducible exact LeO.none _)
      | (with_reducible refine LeO.ite ?_ ?_)
      | (with_reducible refine LeO.bind ?_ (fun _ => ?_))
      | exact ih0 _ _ _
      | exact LeO.none _
      | refine LeO.ite ?_ ?_
      | refine LeO.bind ?_ (fun _ => ?_)
theorem crossdockref19_Sum.mono : ∀ a0 k, LeO (crossdockref19_Sum.f k a0) (crossdockref19_Sum.f (k + 1) a0) := by
  intro a0 k
  have ih0 := crossdockref19_Sum.mono_l k
  unfold crossdockref19_Sum.f
  repeat' first
      | (with_reducible exact ih0 _ _ _)
      | (with_reducible exact LeO.refl _)
      | (with_reducible exact LeO.none _)
      | (with_reducible refine LeO.ite ?_ ?_)
      | (with_reducible refine LeO.bind ?_ (fun _ => ?_))
      | exact ih0 _ _ _
      | exact LeO.none _
      | refine LeO.ite ?_ ?_
      | refine LeO.bind ?_ (fun _ => ?_)
set_option maxHeartbeats 8000000 in
set_option maxRecDepth 100000 in
theorem crossdockref19_Sum.calls (k : Nat) (A0 : Option Addr) (c0 : Nat) (l0 : List Int) (r : Int) (w : World) (hr0 : Kd.C (Kd.int .u8) w A0 l0.length l0) (hc0 : l0.length ≤ c0) (h : crossdockref19_Sum.f k l0 = some r) :
    Calls Tryd.prog 20 #[.slice A0 l0.length c0] w fun e w' => e = .returned (.int .i64 r) ∧ Drawn0 w w' := by
  have HR0 := Aside0.mk hr0
  have HC0 := Aside0.mk hc0
  clear hr0 hc0
  have H : (crossdockref19_Sum.l0 k l0 0 0) = some r := h
  clear h
  have H' := Aside0.mk H
  clear H
  go_enter Tryd.func20, Tryd.ntmps20
  go_wp2
  go_loopg [3, 4] k (fun kq v3 v4 w' => ∃ (x3_1 : Int) (x4_1 : Int), v3 = .int .i64 x3_1 ∧ v4 = .int .i64 x4_1 ∧ Aside0 (crossdockref19_Sum.l0 kq l0 x3_1 x4_1 = some r) ∧ Aside0 (kq ≤ k) ∧ Drawn0 w w')
  case atStart => exact ⟨(0), (0), (by first | rfl | (simp; done) | (simp [*]; done)), (by first | rfl | (simp; done) | (simp [*]; done)), H', ⟨Nat.le_refl _⟩, by repeat (first | exact Drawn0.refl _ | apply Drawn0.step)⟩
  case round =>
    clear H'
    obtain ⟨x3_1, x4_1, rfl, rfl, HA, HK1, ⟨m1, rfl⟩⟩ := hrel
    cases gk with
    | zero => exact absurd HA.out (by simp [crossdockref19_Sum.l0])
    | succ k1 =>
      have H := HA.out
      clear HA
      simp only [crossdockref19_Sum.l0] at H
      by_cases c2 : x4_1 < 512
      · rw [if_pos c2] at H
        have c2b0 : decide (x4_1 < 512) = true := decide_eq_true c2
        clear c2
        by_cases c3 : x4_1 ≥ 148
        · rw [if_pos c3] at H
          have c3b0 : decide (148 ≤ x4_1) = true := decide_eq_true c3
          clear c3
          by_cases c4 : x4_1 < 156
          · rw [if_pos c4] at H
            have c4b0 : decide (x4_1 < 156) = true := decide_eq_true c4
            clear c4
            have H' := Aside0.mk H
            clear H
            go_wp2
            go_roundg k1
            case measure => have := HK1.out; omega
            case rel => exact ⟨(wrap64 (x3_1 + 32)), (wrap64 (x4_1 + 1)), (by first | rfl | (simp; done) | (simp [*]; done)), (by first | rfl | (simp; done) | (simp [*]; done)), H', ⟨by have := HK1.out; omega⟩, by repeat (first | exact Drawn0.refl _ | apply Drawn0.step)⟩
          · rw [if_neg c4] at H
            have c4b0 : decide (x4_1 < 156) = false := decide_eq_false c4
            clear c4
            by_cases c5 : 0 ≤ x4_1
            · rw [if_pos c5] at H
              have c5b0 : decide (0 ≤ x4_1) = true := decide_eq_true c5
              clear c5
              by_cases c6 : x4_1 < (l0.length : Int)
              · rw [if_pos c6] at H
                have c6b0 : decide (x4_1 < (l0.length : Int)) = true := decide_eq_true c6
                clear c6
                have H' := Aside0.mk H
                clear H
                have p122 : 0 ≤ (x4_1 : Int) := of_decide_eq_true (by first | (with_reducible assumption) | assumption)
                have q122 : x4_1 < (l0.length : Int) := of_decide_eq_true (by first | (with_reducible assumption) | assumption)
                obtain ⟨ad122, e122, hx122_0⟩ := Kd.at_int HR0.out x4_1 p122 q122
                cases e122
                replace p122 := eq_true p122
                replace q122 := eq_true q122
                go_wp2
                go_roundg k1
                case measure => have := HK1.out; omega
                case rel => exact ⟨(wrap64 (x3_1 + (wrap64 (rd l0 x4_1)))), (wrap64 (x4_1 + 1)), (by first | rfl | (simp; done) | (simp [*]; done)), (by first | rfl | (simp; done) | (simp [*]; done)), H', ⟨by have := HK1.out; omega⟩, by repeat (first | exact Drawn0.refl _ | apply Drawn0.step)⟩
              · rw [if_neg c6] at H
                exact absurd H (by simp)
            · rw [if_neg c5] at H
              exact absurd H (by simp)
        · rw [if_neg c3] at H
          have c3b0 : decide (148 ≤ x4_1) = false := decide_eq_false c3
          clear c3
          by_cases c7 : 0 ≤ x4_1
          · rw [if_pos c7] at H
            have c7b0 : decide (0 ≤ x4_1) = true := decide_eq_true c7
            clear c7
            by_cases c8 : x4_1 < (l0.length : Int)
            · rw [if_pos c8] at H
              have c8b0 : decide (x4_1 < (l0.length : Int)) = true := decide_eq_true c8
              clear c8
              have H' := Aside0.mk H
              clear H
              have p123 : 0 ≤ (x4_1 : Int) := of_decide_eq_true (by first | (with_reducible assumption) | assumption)
              have q123 : x4_1 < (l0.length : Int) := of_decide_eq_true (by first | (with_reducible assumption) | assumption)
              obtain ⟨ad123, e123, hx123_0⟩ := Kd.at_int HR0.out x4_1 p123 q123
              cases e123
              replace p123 := eq_true p123
              replace q123 := eq_true q123
              go_wp2
              go_roundg k1
              case measure => have := HK1.out; omega
              case rel => exact ⟨(wrap64 (x3_1 + (wrap64 (rd l0 x4_1)))), (wrap64 (x4_1 + 1)), (by first | rfl | (simp; done) | (simp [*]; done)), (by first | rfl | (simp; done) | (simp [*]; done)), H', ⟨by have := HK1.out; omega⟩, by repeat (first | exact Drawn0.refl _ | apply Drawn0.step)⟩
            · rw [if_neg c8] at H
              exact absurd H (by simp)
          · rw [if_neg c7] at H
            exact absurd H (by simp)
      · rw [if_neg c2] at H
        have c2b0 : decide (x4_1 < 512) = false := decide_eq_false c2
        clear c2
        obtain rfl := Option.some.inj H
        go_wp2
        go_ret
        exact ⟨by first | rfl | (simp; done) | (simp [*]; done), by repeat (first | exact Drawn0.refl _ | apply Drawn0.step)⟩

/-! ### crossdockref19_nought: function 31 -/
def crossdockref19_nought.l0 : Nat → ByteArray → Int → Option (Bool)
  | 0, _, _ => none
  | k + 1, x0, x3 => if x3 < (x0.size : Int) then (if 0 ≤ x3 then (if (bt x0 x3) = 0 then (some true) else (crossdockref19_nought.l0 k x0 (wrap64 (x3 + 1)))) else (none)) else (some false)
def crossdockref19_nought.f (k : Nat) (a0 : ByteArray) : Option (Bool) := crossdockref19_nought.l0 k a0 0
theorem crossdockref19_nought.mono_l : ∀ k, (∀ y0 y1, LeO (crossdockref19_nought.l0 k y0 y1) (crossdockref19_nought.l0 (k + 1) y0 y1))
  | 0 => fun _ _ r h => by simp [crossdockref19_nought.l0] at h
  | k + 1 => by
    have ih0 := crossdockref19_nought.mono_l k
    · intro y0 y1
      unfold crossdockref19_nought.l0
      repeat' first
      | (with_reducible exact ih0 _ _)
      | (with_reducible exact LeO.refl _)
      | (with_reducible exact LeO.none _)
      | (with_reducible refine LeO.ite ?_ ?_)
      | (with_reducible refine LeO.bind ?_ (fun _ => ?_))
      | exact ih0 _ _
      | exact LeO.none _
      | refine LeO.ite ?_ ?_
      | refine LeO.bind ?_ (fun _ => ?_)
theorem crossdockref19_nought.mono : ∀ a0 k, LeO (crossdockref19_nought.f k a0) (crossdockref19_nought.f (k + 1) a0) := by
  intro a0 k
  have ih0 := crossdockref19_nought.mono_l k
  unfold crossdockref19_nought.f
  repeat' first
      | (with_reducible exact ih0 _ _)
      | (with_reducible exact LeO.refl _)
      | (with_reducible exact LeO.none _)
      | (with_reducible refine LeO.ite ?_ ?_)
      | (with_reducible refine LeO.bind ?_ (fun _ => ?_))
      | exact ih0 _ _
      | exact LeO.none _
      | refine LeO.ite ?_ ?_
      | refine LeO.bind ?_ (fun _ => ?_)
set_option maxHeartbeats 8000000 in
set_option maxRecDepth 100000 in
theorem crossdockref19_nought.calls (k : Nat) (a0 : ByteArray) (r : Bool) (w : World) (h : crossdockref19_nought.f k a0 = some r) :
    Calls Tryd.prog 31 #[.string a0] w fun e w' => e = .returned (.bool r) ∧ Drawn0 w w' := by
  have H : (crossdockref19_nought.l0 k a0 0) = some r := h
  clear h
  have H' := Aside0.mk H
  clear H
  go_enter Tryd.func31, Tryd.ntmps31
  go_wp2
  go_loopg [3] k (fun kq v3 w' => ∃ (x3_1 : Int), v3 = .int .i64 x3_1 ∧ Aside0 (crossdockref19_nought.l0 kq a0 x3_1 = some r) ∧ Aside0 (kq ≤ k) ∧ Drawn0 w w')
  case atStart => exact ⟨(0), (by first | rfl | (simp; done) | (simp [*]; done)), H', ⟨Nat.le_refl _⟩, by repeat (first | exact Drawn0.refl _ | apply Drawn0.step)⟩
  case round =>
    clear H'
    obtain ⟨x3_1, rfl, HA, HK1, ⟨m1, rfl⟩⟩ := hrel
    cases gk with
    | zero => exact absurd HA.out (by simp [crossdockref19_nought.l0])
    | succ k1 =>
      have H := HA.out
      clear HA
      simp only [crossdockref19_nought.l0] at H
      by_cases c2 : x3_1 < (a0.size : Int)
      · rw [if_pos c2] at H
        have c2b0 : decide (x3_1 < (a0.size : Int)) = true := decide_eq_true c2
        clear c2
        by_cases c3 : 0 ≤ x3_1
        · rw [if_pos c3] at H
          have c3b0 : decide (0 ≤ x3_1) = true := decide_eq_true c3
          clear c3
          by_cases c5 : (bt a0 x3_1) = 0
          · rw [if_pos c5] at H
            have c5b0 : ((bt a0 x3_1) == 0) = true := beq_iff_eq.mpr c5
            have c5b1 : ((bt a0 x3_1) != 0) = false := bne_eq_false_iff_eq.mpr c5
            clear c5
            obtain rfl := Option.some.inj H
            have p4 : 0 ≤ (x3_1 : Int) := of_decide_eq_true (by first | (with_reducible assumption) | assumption)
            have q4 : x3_1 < (a0.size : Int) := of_decide_eq_true (by first | (with_reducible assumption) | assumption)
            have hx4 := bt_at a0 x3_1
            replace p4 := eq_true p4
            replace q4 := eq_true q4
            go_wp2
            go_ret
            exact ⟨by first | rfl | (simp; done) | (simp [*]; done), by repeat (first | exact Drawn0.refl _ | apply Drawn0.step)⟩
          · rw [if_neg c5] at H
            have c5b0 : ((bt a0 x3_1) == 0) = false := beq_eq_false_iff_ne.mpr c5
            have c5b1 : ((bt a0 x3_1) != 0) = true := bne_iff_ne.mpr c5
            have H' := Aside0.mk H
            clear H
            have p4 : 0 ≤ (x3_1 : Int) := of_decide_eq_true (by first | (with_reducible assumption) | assumption)
            have q4 : x3_1 < (a0.size : Int) := of_decide_eq_true (by first | (with_reducible assumption) | assumption)
            have hx4 := bt_at a0 x3_1
            replace p4 := eq_true p4
            replace q4 := eq_true q4
            go_wp2
            go_roundg k1
            case measure => have := HK1.out; omega
            case rel => exact ⟨(wrap64 (x3_1 + 1)), (by first | rfl | (simp; done) | (simp [*]; done)), H', ⟨by have := HK1.out; omega⟩, by repeat (first | exact Drawn0.refl _ | apply Drawn0.step)⟩
        · rw [if_neg c3] at H
          exact absurd H (by simp)
      · rw [if_neg c2] at H
        have c2b0 : decide (x3_1 < (a0.size : Int)) = false := decide_eq_false c2
        clear c2
        obtain rfl := Option.some.inj H
        go_wp2
        go_ret
        exact ⟨by first | rfl | (simp; done) | (simp [*]; done), by repeat (first | exact Drawn0.refl _ | apply Drawn0.step)⟩


end Go.Proofs.YtiioiikcjaiajaaDoor.MyDocA

-- Cut by cutprint.py out of what the kit's print wrote for this seat.
namespace Go.Proofs.YtiioiikcjaiajaaDoor.MyDocFits
open Go.Proofs.YtiioiikcjaiajaaDoor.PHeadPuts
open Go.Proofs.YtiioiikcjaiajaaDoor.MyDocA
open Go.RowKit Go.Proofs.YtiioiikcjaiajaaDoorW.PrintWords Go.Proofs.YtiioiikcjaiajaaDoorW.PrintLast Go.Proofs.YtiioiikcjaiajaaDoorW.PrintMore
attribute [local go_sem] max2_int min2_int max_two min_two max_three min_three max_four min_four   -- for this text's walks alone
set_option linter.unusedVariables false
set_option linter.unusedSimpArgs false

/-! ### crossdockref19_Fits: function 14 -/
def crossdockref19_Fits.f (k : Nat) (a0 : ByteArray) : Option (Bool) := (crossdockref19_Cut.f k a0).bind fun bt159 => (if bt159.2.2 = true then ((crossdockref19_nought.f k a0).bind fun t162 => (some (!t162))) else (some false))
theorem crossdockref19_Fits.mono : ∀ a0 k, LeO (crossdockref19_Fits.f k a0) (crossdockref19_Fits.f (k + 1) a0) := by
  intro a0 k
  unfold crossdockref19_Fits.f
  repeat' first
      | (with_reducible exact crossdockref19_Cut.mono _ _)
      | (with_reducible exact crossdockref19_nought.mono _ _)
      | (with_reducible exact LeO.refl _)
      | (with_reducible exact LeO.none _)
      | (with_reducible refine LeO.ite ?_ ?_)
      | (with_reducible refine LeO.bind ?_ (fun _ => ?_))
      | exact crossdockref19_Cut.mono _ _
      | exact crossdockref19_nought.mono _ _
      | exact LeO.none _
      | refine LeO.ite ?_ ?_
      | refine LeO.bind ?_ (fun _ => ?_)
set_option maxHeartbeats 8000000 in
set_option maxRecDepth 100000 in
theorem crossdockref19_Fits.calls (k : Nat) (a0 : ByteArray) (r : Bool) (w : World) (h : crossdockref19_Fits.f k a0 = some r) :
    Calls Tryd.prog 14 #[.string a0] w fun e w' => e = .returned (.bool r) ∧ Drawn0 w w' := by
  have H : ((crossdockref19_Cut.f k a0).bind fun bt159 => (if bt159.2.2 = true then ((crossdockref19_nought.f k a0).bind fun t162 => (some (!t162))) else (some false))) = some r := h
  clear h
  replace H := Option.bind_eq_some_iff.mp H
  obtain ⟨⟨t159, t160, t161⟩, A20, H⟩ := H
  replace H : (if t161 = true then ((crossdockref19_nought.f k a0).bind fun t162 => (some (!t162))) else (some false)) = some r := H
  have A2 := Aside0.mk A20
  clear A20
  by_cases c3 : t161 = true
  · subst c3
    have H1 : ((crossdockref19_nought.f k a0).bind fun t162 => (some (!t162))) = some r := by rw [if_pos rfl] at H; exact H
    clear H
    have H := H1
    clear H1
    replace H := Option.bind_eq_some_iff.mp H
    obtain ⟨t162, A40, H⟩ := H
    replace H : (some (!t162)) = some r := H
    have A4 := Aside0.mk A40
    clear A40
    obtain rfl := Option.some.inj H
    go_enter Tryd.func14, Tryd.ntmps14
    go_wp2_with (first | ((with_reducible refine gate_callee (f := 32) rfl ?_); refine goesL_ (some 8) rfl rfl Tryd.func32 (by kernel_rfl) rfl #[.string a0] rfl (by (try simp only [List.map_toArray, List.map_cons, List.map_nil]); first | done | rfl | (simp only [List.length_drop, List.length_take]; rfl)) ?_; (with_reducible refine (crossdockref19_Cut.calls k a0 t159 t160 true _ A2.out).mono ?_); rintro e w' ⟨rfl, ⟨nd, rfl⟩⟩; refine ⟨_, rfl, ?_⟩) | (go_at_call 31; (with_reducible refine (crossdockref19_nought.calls k a0 t162 _ A4.out).mono ?_); rintro e w' ⟨rfl, ⟨nd, rfl⟩⟩))
    go_ret
    exact ⟨by first | rfl | (simp; done) | (simp [*]; done), by repeat (first | exact Drawn0.refl _ | apply Drawn0.step)⟩
  · replace c3 := Bool.eq_false_iff.mpr c3
    subst c3
    have H1 : (some false) = some r := by rw [if_neg (show ¬ (false = true) by decide)] at H; exact H
    clear H
    have H := H1
    clear H1
    obtain rfl := Option.some.inj H
    go_enter Tryd.func14, Tryd.ntmps14
    go_wp2_with (first | ((with_reducible refine gate_callee (f := 32) rfl ?_); refine goesL_ (some 8) rfl rfl Tryd.func32 (by kernel_rfl) rfl #[.string a0] rfl (by (try simp only [List.map_toArray, List.map_cons, List.map_nil]); first | done | rfl | (simp only [List.length_drop, List.length_take]; rfl)) ?_; (with_reducible refine (crossdockref19_Cut.calls k a0 t159 t160 false _ A2.out).mono ?_); rintro e w' ⟨rfl, ⟨nd, rfl⟩⟩; refine ⟨_, rfl, ?_⟩))
    go_ret
    exact ⟨by first | rfl | (simp; done) | (simp [*]; done), by repeat (first | exact Drawn0.refl _ | apply Drawn0.step)⟩

-- NOT PRINTED: function 3 (crossdocklaw19_HeadPuts)


end Go.Proofs.YtiioiikcjaiajaaDoor.MyDocFits

/- The document's answer (crossdockref17.Put, as print.sh wrote it down) is the plain one. -/
namespace Go.Proofs.YtiioiikcjaiajaaDoor.My
open Go.RowKit Go.Proofs.YtiioiikcjaiajaaDoor.Oct Go.Proofs.YtiioiikcjaiajaaDoor.PHeadPuts Go.Proofs.YtiioiikcjaiajaaDoorW.PrintWords Go.Proofs.YtiioiikcjaiajaaDoorW.PrintLast Go.Proofs.YtiioiikcjaiajaaDoorW.PrintMore

theorem tmod256 (x : Int) : Int.tmod x 256 = if 0 ≤ x then x % 256 else -((-x) % 256) := by
  split
  · rename_i h; exact Int.tmod_eq_emod_of_nonneg h
  · rename_i h
    have := Int.neg_tmod (-x) 256
    rw [Int.neg_neg] at this
    rw [this, Int.tmod_eq_emod_of_nonneg (by omega)]
theorem fig_l0 (j : Nat) : ∀ (k : Nat) (l : List Int) (x : Int), j < k → j ≤ l.length → l.length ≤ 1000 → 0 ≤ x → x ≤ 9223372036854775807 →
    crossdockref17_figures.l0 k x l ((j : Int) - 1) = some (ds g8 (· / 8) j x ++ l.drop j, it (· / 8) j x == 0) := by
  induction j with
  | zero =>
    intro k l x hk hl hm h0 h1
    obtain ⟨k, rfl⟩ : ∃ m, k = m + 1 := ⟨k - 1, by omega⟩
    rw [crossdockref17_figures.l0, if_neg (by omega)]
    simp [ds, it]
  | succ j ih =>
    intro k l x hk hl hm h0 h1
    obtain ⟨k, rfl⟩ : ∃ m, k = m + 1 := ⟨k - 1, by omega⟩
    rw [crossdockref17_figures.l0, show ((j + 1 : Nat) : Int) - 1 = (j : Int) from by omega, if_pos (by omega), if_pos (by omega), if_pos (by omega),
      show wrap64 ((j : Int) - 1) = (j : Int) - 1 from by unfold wrap64; omega, Int.tmod_eq_emod_of_nonneg h0, Int.tdiv_eq_ediv_of_nonneg h0, Int.toNat_natCast,
      show (wrap64 (48 + x % 8)) % 256 = g8 x from by unfold wrap64 g8; omega, show wrap64 (x / 8) = x / 8 from by unfold wrap64; omega,
      ih k _ _ (by omega) (by simp; omega) (by simpa using hm) (by omega) (by omega), set_drop l j _ (by omega)]
    simp [ds, it]
/-- One round of the wide form: what is left is the quotient, rounded down. -/
theorem wide_round (j k : Nat) (l : List Int) (x1 x : Int) (h0 : -9223372036854775808 ≤ x) (h1 : x ≤ 9223372036854775807) (hs : x1 < 0 → x < 0) (hj : j < l.length) (hm : l.length ≤ 1000) :
    crossdockref17_wide.l0 (k + 1) x1 l x j = crossdockref17_wide.l0 k x1 (l.set j (g256 x)) (x / 256) ((j : Int) - 1) := by
  rw [crossdockref17_wide.l0, if_pos (by omega)]
  have e1 : wrap64 ((j : Int) - 1) = (j : Int) - 1 := by unfold wrap64; omega
  by_cases hx : Int.tmod x 256 < 0
  · have hn : x < 0 := by
      rcases Int.lt_or_le x 0 with h | h
      · exact h
      · rw [Int.tmod_eq_emod_of_nonneg h] at hx; omega
    have ht : Int.tmod x 256 = -((-x) % 256) := by rw [tmod256, if_neg (by omega)]
    rw [ht] at hx ⊢
    have em : wrap64 (-((-x) % 256) + 256) = x % 256 := by unfold wrap64; omega
    have ed : wrap64 (Int.tdiv (wrap64 (x - x % 256)) 256) = x / 256 := by
      rw [show wrap64 (x - x % 256) = x - x % 256 from by unfold wrap64; omega, show x - x % 256 = 256 * (x / 256) from by omega, Int.mul_tdiv_cancel_left _ (by decide)]
      unfold wrap64; omega
    rw [if_pos hx, em, ed, if_pos (by omega), if_pos (by omega), Option.bind_some, e1, Int.toNat_natCast, show x % 256 % 256 = g256 x from by unfold g256; omega]
    by_cases hx1 : x1 < 0
    · rw [if_pos hx1, if_neg (by omega)]
    · rw [if_neg hx1]
  · have em : Int.tmod x 256 = x % 256 := by rw [tmod256] at hx ⊢; split at * <;> omega
    have ed : wrap64 (Int.tdiv (wrap64 (x - x % 256)) 256) = x / 256 := by
      rw [show wrap64 (x - x % 256) = x - x % 256 from by unfold wrap64; omega, show x - x % 256 = 256 * (x / 256) from by omega, Int.mul_tdiv_cancel_left _ (by decide)]
      unfold wrap64; omega
    rw [if_neg hx, em, ed, if_pos (by omega), if_pos (by omega), Option.bind_some, e1, Int.toNat_natCast, show x % 256 % 256 = g256 x from by unfold g256; omega]
    by_cases hx1 : x1 < 0
    · rw [if_pos hx1, if_neg (by have := hs hx1; omega)]
    · rw [if_neg hx1]
theorem wide_l0 (j : Nat) : ∀ (k : Nat) (l : List Int) (x1 x : Int), -9223372036854775808 ≤ x → x ≤ 9223372036854775807 → (x1 < 0 → x < 0) → j ≤ l.length → l.length ≤ 1000 →
    crossdockref17_wide.l0 (k + j) x1 l x ((j : Int) - 1) = crossdockref17_wide.l0 k x1 (ds g256 (· / 256) j x ++ l.drop j) (it (· / 256) j x) (-1) := by
  induction j with
  | zero => intro k l x1 x h0 h1 hs hl hm; simp [ds, it]
  | succ j ih =>
    intro k l x1 x h0 h1 hs hl hm
    rw [show k + (j + 1) = (k + j) + 1 from rfl, show ((j + 1 : Nat) : Int) - 1 = (j : Int) from by omega, wide_round j (k + j) l x1 x h0 h1 hs (by omega) hm,
      ih k _ x1 _ (by omega) (by omega) (fun h => by have := hs h; omega) (by simp; omega) (by simpa using hm), set_drop l j _ (by omega)]
    simp [ds, it]

theorem pow8_2 (j : Nat) : (8 : Int) ^ j = 2 ^ (3 * j) := by rw [Int.pow_mul]; rfl
theorem pow256_2 (j : Nat) : (256 : Int) ^ j = 2 ^ (8 * j) := by rw [Int.pow_mul]; rfl
theorem small_div (x : Int) (e : Nat) (h0 : -9223372036854775808 ≤ x) (h1 : x ≤ 9223372036854775807) (he : 63 ≤ e) : x / 2 ^ e = if x < 0 then -1 else 0 := by
  have h2 : (2 : Int) ^ 63 ≤ 2 ^ e := by exact_mod_cast Nat.pow_le_pow_right (by decide) he
  have h3 : (2 : Int) ^ 63 = 9223372036854775808 := by decide
  generalize (2 : Int) ^ e = p at h2
  split
  · rename_i h; rw [Int.ediv_eq_iff_of_pos (by omega)]; omega
  · rename_i h; exact Int.ediv_eq_zero_of_lt (by omega) (by omega)

/-- By figures, as the document has it. -/
theorem ref_figures (n : Nat) (x : Int) (hn : n ≤ 100) (h0 : -9223372036854775808 ≤ x) (h1 : x ≤ 9223372036854775807) :
    ∃ l, (nar n x = true → l = putB n x) ∧ ∀ k, n + 3 ≤ k → crossdockref17_figures.f k n x = some (l, nar n x) := by
  by_cases hp : 1 ≤ n ∧ 0 ≤ x
  · obtain ⟨m, rfl⟩ : ∃ m, n = m + 1 := ⟨n - 1, by omega⟩
    have hb : (it (· / 8) m x == 0) = nar ((m + 1 : Nat) : Int) x := by
      rw [it_div 8 (by decide), pow8_2]
      unfold nar
      rw [show (3 * (((m + 1 : Nat) : Int) - 1)).toNat = 3 * m from by omega]
      by_cases h : x / 2 ^ (3 * m) = 0
      · rw [h]; simp; omega
      · have : ¬ 21 < ((m + 1 : Nat) : Int) := by
          intro h21
          apply h
          rw [small_div x (3 * m) h0 h1 (by omega), if_neg (by omega)]
        rw [beq_eq_false_iff_ne.2 h]
        symm
        exact decide_eq_false (fun h' => h'.2.2.elim this h)
    refine ⟨ds g8 (· / 8) m x ++ [0], fun h => by unfold putB; rw [if_pos h]; rfl, fun k hk => ?_⟩
    obtain ⟨k, rfl⟩ : ∃ j, k = j + 1 := ⟨k - 1, by omega⟩
    unfold crossdockref17_figures.f
    rw [if_neg (by omega), decide_eq_false (by omega), crossdockref17_figures.j0]
    rw [if_neg (by simp), if_pos (by omega), if_pos (by omega), Int.toNat_natCast, show wrap64 (((m + 1 : Nat) : Int) - 2) = (m : Int) - 1 from by unfold wrap64; omega,
      fig_l0 m k _ x (by omega) (by simp) (by simp; omega) hp.2 h1, hb]
    simp [List.drop_replicate]
  · have hb : nar n x = false := decide_eq_false (fun h => hp ⟨by omega, h.2.1⟩)
    refine ⟨[], (fun h => by rw [hb] at h; cases h), fun k hk => ?_⟩
    obtain ⟨k, rfl⟩ : ∃ j, k = j + 1 := ⟨k - 1, by omega⟩
    unfold crossdockref17_figures.f
    by_cases h : (n : Int) < 1
    · rw [if_pos h, crossdockref17_figures.j0, if_pos rfl, hb]
    · rw [if_neg h, decide_eq_true (by omega), crossdockref17_figures.j0, if_pos rfl, hb]

theorem or128 (y : Int) (h0 : 0 ≤ y) (h1 : y < 256) : Go.bits .or .u8 y 128 = if y < 128 then y + 128 else y := by
  obtain ⟨a, rfl⟩ := Int.eq_ofNat_of_zero_le h0
  have h : ∀ a : Nat, a < 256 → Go.bits .or .u8 (a : Int) 128 = if (a : Int) < 128 then (a : Int) + 128 else a := by decide +kernel
  exact h a (by omega)

/-- Which numbers fit, by their sign and the first byte. -/
theorem fit_wide (n : Nat) (x : Int) (hn : 2 ≤ n) (hnar : nar n x = false) (h0 : -9223372036854775808 ≤ x) (h1 : x ≤ 9223372036854775807) :
    fit n x = decide (x / 256 ^ (n - 1) / 64 = 0 ∨ x / 256 ^ (n - 1) / 64 = -1) := by
  have e : x / 256 ^ (n - 1) / 64 = x / 2 ^ (8 * n - 2) := by
    rw [pow256_2, Int.ediv_ediv_of_nonneg (by exact Int.le_of_lt (Int.pow_pos (by decide))), show (64 : Int) = 2 ^ 6 from rfl, ← Int.pow_add, show 8 * (n - 1) + 6 = 8 * n - 2 from by omega]
  rw [e]
  unfold fit
  by_cases h9 : 9 ≤ (n : Int)
  · rw [hnar, decide_eq_true h9]
    simp only [Bool.or_true, if_true]
    rw [decide_eq_true (show (0 : Int) < n by omega), small_div x (8 * n - 2) h0 h1 (by omega)]
    symm
    split <;> simp
  · rw [hnar, decide_eq_false h9, if_neg (by simp), if_neg (by omega), show (8 * (n : Int) - 2).toNat = 8 * n - 2 from by omega]

theorem ref_wide (n : Nat) (x : Int) (hn : n ≤ 100) (hnar : nar n x = false) (h0 : -9223372036854775808 ≤ x) (h1 : x ≤ 9223372036854775807) :
    ∃ l, (fit n x = true → l = putB n x) ∧ ∀ k, n + 3 ≤ k → crossdockref17_wide.f k n x = some (l, fit n x) := by
  by_cases hp : 2 ≤ n
  · obtain ⟨m, rfl⟩ : ∃ m, n = m + 1 := ⟨n - 1, by omega⟩
    have hf := fit_wide (m + 1) x hp hnar h0 h1
    rw [Nat.add_sub_cancel] at hf
    obtain ⟨t, ht⟩ := ds_head g256 (· / 256) m x
    have hq : it (· / 256) m x = x / 256 ^ m := it_div 256 (by decide) m x
    have hr : it (· / 256) (m + 1) x = x / 256 ^ m / 256 := by rw [it_succ, hq]
    have hlen := ds_length g256 (· / 256) (m + 1) x
    have hsign : 0 ≤ x ↔ 0 ≤ x / 256 ^ m := by
      constructor
      · intro h; exact Int.ediv_nonneg h (Int.le_of_lt (Int.pow_pos (by decide)))
      · intro h
        rcases Int.lt_or_le x 0 with h' | h'
        · have := Int.ediv_neg_of_neg_of_pos h' (Int.pow_pos (m := m) (show (0 : Int) < 256 by decide)); omega
        · exact h'
    generalize x / 256 ^ m = q at hf hq hr hsign
    refine ⟨if fit ((m + 1 : Nat) : Int) x then putB (m + 1) x else [], fun h => by rw [if_pos h], fun k hk => ?_⟩
    obtain ⟨k, rfl⟩ : ∃ j, k = j + 2 + (m + 1) := ⟨k - 2 - (m + 1), by omega⟩
    unfold crossdockref17_wide.f
    rw [if_neg (by omega), if_pos (by omega), if_pos (by omega), Int.toNat_natCast, show wrap64 (((m + 1 : Nat) : Int) - 1) = ((m + 1 : Nat) : Int) - 1 from by unfold wrap64; omega,
      wide_l0 (m + 1) (k + 2) _ x x h0 h1 id (by simp) (by simp; omega), List.drop_eq_nil_of_le (by simp), List.append_nil, hr]
    have hput : putB (m + 1) x = (ds g256 (· / 256) (m + 1) x).set 0 (if q % 256 < 128 then q % 256 + 128 else q % 256) := by
      unfold putB
      rw [if_neg (by rw [hnar]; exact Bool.false_ne_true), ht, List.getD_cons_zero, hq, or128 _ (by unfold g256; omega) (by unfold g256; omega)]
      rfl
    have hrd : rd (ds g256 (· / 256) (m + 1) x) 0 = q % 256 := by rw [ht, hq]; rfl
    have hout : ds g256 (· / 256) (m + 1) x = (q % 256) :: t := by rw [ht, hq]; rfl
    rw [hput]
    generalize ds g256 (· / 256) (m + 1) x = d at *
    rw [crossdockref17_wide.l0, if_neg (by omega)]
    have j1 : ∀ b, crossdockref17_wide.j1 (k + 1) d b = some (if b = true then (([] : List Int), false) else (d.set 0 (if q % 256 < 128 then q % 256 + 128 else q % 256), true)) := by
      intro b
      rw [crossdockref17_wide.j1]
      cases b with
      | true => rfl
      | false =>
        rw [if_neg (by simp), if_pos (by omega), hrd]
        by_cases hlt : q % 256 < 128
        · rw [if_pos hlt, if_pos hlt]
          simp only [Bool.false_eq_true, if_false]
          rw [show (q % 256 + 128) % 256 = q % 256 + 128 from by omega]
          rfl
        · rw [if_neg hlt, if_neg hlt, hout]
          simp
    by_cases hx : 0 ≤ x
    · have hq0 := hsign.1 hx
      rw [if_pos (by omega), if_pos (by omega), hrd]
      by_cases h64 : q % 256 ≥ 64
      · have : fit ((m + 1 : Nat) : Int) x = false := by rw [hf]; exact decide_eq_false (by omega)
        rw [if_pos h64, j1, this]; rfl
      · rw [if_neg h64]
        by_cases hz : q / 256 = 0
        · have : fit ((m + 1 : Nat) : Int) x = true := by rw [hf]; exact decide_eq_true (by omega)
          rw [if_pos hz, if_neg (by omega), j1, this]; rfl
        · have : fit ((m + 1 : Nat) : Int) x = false := by rw [hf]; exact decide_eq_false (by omega)
          rw [if_neg hz, j1, this]; rfl
    · have hq0 : q < 0 := by
        rcases Int.lt_or_le q 0 with h | h
        · exact h
        · exact absurd (hsign.2 h) hx
      rw [if_neg (by omega), if_pos (by omega), if_pos (by omega), hrd]
      by_cases h192 : q % 256 < 192
      · have : fit ((m + 1 : Nat) : Int) x = false := by rw [hf]; exact decide_eq_false (by omega)
        rw [if_pos h192, j1, this]; rfl
      · rw [if_neg h192, j1]
        by_cases hz : q / 256 = -1
        · have : fit ((m + 1 : Nat) : Int) x = true := by rw [hf]; exact decide_eq_true (by omega)
          rw [hz, this]; rfl
        · have : fit ((m + 1 : Nat) : Int) x = false := by rw [hf]; exact decide_eq_false (by omega)
          rw [bne_iff_ne.2 hz, this]; rfl
  · have hb : fit n x = false := by
      unfold fit
      rw [hnar, decide_eq_false (by omega), if_neg (by simp), if_pos (by omega)]
    refine ⟨[], (fun h => by rw [hb] at h; cases h), fun k hk => ?_⟩
    unfold crossdockref17_wide.f
    rw [if_pos (by omega), hb]

theorem nar_fit {n : Nat} {x : Int} (h : nar n x = true) : fit n x = true := by
  have h1 := (of_decide_eq_true h).1
  unfold fit
  rw [h]
  simp only [Bool.true_or, if_true]
  exact decide_eq_true h1

/-- The document's answer for a field of n bytes. -/
theorem ref_put (n : Nat) (x : Int) (hn : n ≤ 100) (h0 : -9223372036854775808 ≤ x) (h1 : x ≤ 9223372036854775807) :
    ∃ k, crossdockref17_Put.f k n x = some (if fit n x then (putB n x, 0) else (([] : List Int), 3)) := by
  refine ⟨n + 3, ?_⟩
  obtain ⟨l, hl, hf⟩ := ref_figures n x hn h0 h1
  unfold crossdockref17_Put.f
  rw [hf _ (Nat.le_refl _), Option.bind_some]
  cases hb : nar n x with
  | true => rw [if_pos rfl, nar_fit hb, hl hb]; rfl
  | false =>
    rw [if_neg (by simp)]
    obtain ⟨l', hl', hf'⟩ := ref_wide n x hn hb h0 h1
    rw [hf' _ (Nat.le_refl _), Option.bind_some]
    cases hb' : fit n x with
    | true => rw [if_pos rfl, hl' hb']; rfl
    | false => rw [if_neg (by simp)]; rfl
theorem ref_put_neg (n x : Int) (hn : n < 0) : ∃ k, crossdockref17_Put.f k n x = some (([] : List Int), 3) := by
  refine ⟨1, ?_⟩
  unfold crossdockref17_Put.f crossdockref17_figures.f crossdockref17_wide.f
  rw [if_pos (by omega), crossdockref17_figures.j0, if_pos rfl, if_pos (by omega)]
  rfl
theorem fit_neg (n x : Int) (hn : n < 0) : fit n x = false := by
  have : nar n x = false := decide_eq_false (fun h => by omega)
  unfold fit
  rw [this, decide_eq_false (by omega), if_neg (by simp), if_pos (by omega)]
end Go.Proofs.YtiioiikcjaiajaaDoor.My

/- The document's answers of layer 19 (Sum, nought, Cut, Fits, as print.sh wrote them down) are the plain ones. -/
set_option maxRecDepth 100000
namespace Go.Proofs.YtiioiikcjaiajaaDoor.My
open Go.RowKit Go.Proofs.YtiioiikcjaiajaaDoor.Hd Go.Proofs.YtiioiikcjaiajaaDoor.Oct Go.Proofs.YtiioiikcjaiajaaDoor.PHeadPuts Go.Proofs.YtiioiikcjaiajaaDoor.MyDocA Go.Proofs.YtiioiikcjaiajaaDoor.MyDocFits Go.Proofs.YtiioiikcjaiajaaDoorW.PrintWords Go.Proofs.YtiioiikcjaiajaaDoorW.PrintLast Go.Proofs.YtiioiikcjaiajaaDoorW.PrintMore
set_option linter.unusedVariables false
set_option linter.unusedSimpArgs false

theorem bt_is (s : ByteArray) (j : Nat) (c : UInt8) (h : j < s.size) : bt s j = (c.toNat : Int) ↔ s.data.toList[j]? = some c := by
  have e1 : bt s j = ((s.data[j]'h).toNat : Int) := by
    unfold bt
    rw [dif_pos (by simpa using h)]
    rfl
  have e2 : s.data.toList[j]? = some (s.data[j]'h) := by
    rw [Array.getElem?_toList]
    exact Array.getElem?_eq_getElem h
  rw [e1, e2]
  constructor
  · intro e
    have : (s.data[j]'h).toNat = c.toNat := by omega
    rw [UInt8.toNat_inj.1 this]
  · intro e
    rw [Option.some.inj e]
theorem bs_get (s : ByteArray) (j : Nat) (h : j < s.size) : (bs s)[j]? = some (bt s j) := by
  unfold bs bt
  rw [dif_pos (by simpa using h), List.getElem?_map, Array.getElem?_toList, Array.getElem?_eq_getElem h]
  rfl
/-- The document's search for a nought. -/
theorem nought_l0 (s : ByteArray) (hs : s.size ≤ 100000) (n : Nat) : ∀ j : Nat, s.size - j = n → j ≤ s.size → crossdockref19_nought.l0 (n + 1) s j = some (!((bs s).drop j).all nz) := by
  induction n with
  | zero =>
    intro j hj hl
    rw [crossdockref19_nought.l0, if_neg (by omega), List.drop_eq_nil_of_le (by rw [bs_len]; omega)]
    rfl
  | succ n ih =>
    intro j hj hl
    have hlt : j < s.size := by omega
    have hd : (bs s).drop j = bt s j :: (bs s).drop (j + 1) := by
      rw [List.drop_eq_getElem_cons (by rw [bs_len]; exact hlt)]
      congr 1
      have := bs_get s j hlt
      rw [List.getElem?_eq_getElem (by rw [bs_len]; exact hlt)] at this
      exact Option.some.inj this
    rw [crossdockref19_nought.l0, if_pos (by omega), if_pos (by omega), hd, List.all_cons]
    by_cases hb : bt s j = 0
    · rw [if_pos hb]
      have : nz (bt s j) = false := decide_eq_false (by simp [hb])
      rw [this]
      rfl
    · rw [if_neg hb, show wrap64 ((j : Int) + 1) = ((j + 1 : Nat) : Int) from by unfold wrap64; omega, ih (j + 1) (by omega) (by omega)]
      have : nz (bt s j) = true := decide_eq_true hb
      rw [this, Bool.true_and]
theorem nought_f (s : ByteArray) (hs : s.size ≤ 100000) : crossdockref19_nought.f (s.size + 1) s = some (!noN s) := by
  have := nought_l0 s hs s.size 0 (by omega) (by omega)
  rw [List.drop_zero] at this
  exact this
/-- The document's search for the slash. -/
theorem cut_step (s : ByteArray) (hs : s.size ≤ 100000) (k j : Nat) (hj : j < s.size) (h : ¬ (s.data.toList[j]? = some 47 ∧ s.size ≤ j + 101 ∧ j + 2 ≤ s.size)) : crossdockref19_Cut.l0 (k + 1) s j = crossdockref19_Cut.l0 k s ((j + 1 : Nat) : Int) := by
  have e1 : wrap64 ((j : Int) + 1) = ((j + 1 : Nat) : Int) := by unfold wrap64; omega
  have e2 : wrap64 (wrap64 ((s.size : Int) - j) - 1) = (s.size : Int) - j - 1 := by unfold wrap64; omega
  rw [crossdockref19_Cut.l0, if_pos (by omega), if_pos (by omega), e1, e2]
  by_cases hb : bt s j = 47
  · rw [if_pos hb]
    have hb' := (bt_is s j 47 hj).1 hb
    by_cases h1 : (s.size : Int) - j - 1 ≤ 100
    · rw [if_pos h1, if_neg (by intro h2; exact h ⟨hb', by omega, by omega⟩)]
    · rw [if_neg h1]
  · rw [if_neg hb]
theorem cut_hit (s : ByteArray) (hs : s.size ≤ 100000) (k j : Nat) (hj : j < s.size) (h : s.data.toList[j]? = some 47 ∧ s.size ≤ j + 101 ∧ j + 2 ≤ s.size) : crossdockref19_Cut.l0 (k + 1) s j = some (s.extract 0 j, s.extract (j + 1) s.size, decide (1 ≤ j ∧ j ≤ 155)) := by
  have e1 : wrap64 ((j : Int) + 1) = ((j + 1 : Nat) : Int) := by unfold wrap64; omega
  have e2 : wrap64 (wrap64 ((s.size : Int) - j) - 1) = (s.size : Int) - j - 1 := by unfold wrap64; omega
  have hb : bt s j = 47 := (bt_is s j 47 hj).2 h.1
  rw [crossdockref19_Cut.l0, if_pos (by omega), if_pos (by omega), e1, e2, if_pos hb, if_pos (by omega), if_pos (by omega), if_pos (by omega), if_pos (by omega), if_pos (by omega)]
  by_cases h1 : (j : Int) ≥ 1
  · rw [if_pos h1]
    congr 3
    exact decide_eq_decide.2 (by omega)
  · rw [if_neg h1, decide_eq_false (show ¬ (1 ≤ j ∧ j ≤ 155) by omega)]
    rfl
theorem cut_none_l0 (s : ByteArray) (hs : s.size ≤ 100000) (n : Nat) : ∀ j : Nat, s.size - j = n → j ≤ s.size → (∀ i, j ≤ i → i < s.size → ¬ (s.data.toList[i]? = some 47 ∧ s.size ≤ i + 101 ∧ i + 2 ≤ s.size)) → crossdockref19_Cut.l0 (n + 1) s j = some ((⟨#[]⟩ : ByteArray), (⟨#[]⟩ : ByteArray), false) := by
  induction n with
  | zero =>
    intro j hj hl _
    rw [crossdockref19_Cut.l0, if_neg (by omega)]
  | succ n ih =>
    intro j hj hl h
    rw [cut_step s hs (n + 1) j (by omega) (h j (Nat.le_refl _) (by omega))]
    exact ih (j + 1) (by omega) (by omega) (fun i hi => h i (by omega))
theorem cut_some_l0 (s : ByteArray) (hs : s.size ≤ 100000) (p : Nat) (hp : p < s.size) (h : s.data.toList[p]? = some 47 ∧ s.size ≤ p + 101 ∧ p + 2 ≤ s.size) (m : Nat) (n : Nat) : ∀ j : Nat, p - j = n → j ≤ p → (∀ i, j ≤ i → i < p → ¬ (s.data.toList[i]? = some 47 ∧ s.size ≤ i + 101 ∧ i + 2 ≤ s.size)) → crossdockref19_Cut.l0 (m + 1 + n) s j = some (s.extract 0 p, s.extract (p + 1) s.size, decide (1 ≤ p ∧ p ≤ 155)) := by
  induction n with
  | zero =>
    intro j hj hl _
    obtain rfl : j = p := by omega
    exact cut_hit s hs m j hp h
  | succ n ih =>
    intro j hj hl hn
    rw [show m + 1 + (n + 1) = (m + 1 + n) + 1 by omega, cut_step s hs (m + 1 + n) j (by omega) (hn j (Nat.le_refl _) (by omega))]
    exact ih (j + 1) (by omega) (by omega) (fun i hi => hn i (by omega))
theorem tail_get (s : ByteArray) (a i : Nat) (h : i + a < s.size) : (s.extract a s.size).data.toList[i]? = s.data.toList[a + i]? := by
  rw [ByteArray.data_extract, Array.getElem?_toList, Array.getElem?_toList, Array.getElem?_extract]
  have hz : s.data.size = s.size := rfl
  rw [if_pos (by rw [hz]; omega)]
theorem cut_f (s : ByteArray) (hs : s.size ≤ 100000) : ∃ k a r, crossdockref19_Cut.f k s = some (a, r, cutOk s) ∧ (cutOk s = true → a = aheadOf s ∧ r = rest s) := by
  unfold crossdockref19_Cut.f
  by_cases h : s.size ≤ 100
  · have e : cutOk s = true := by unfold cutOk; rw [decide_eq_true h]; rfl
    refine ⟨0, _, _, by rw [if_pos (by omega), e], fun _ => ⟨?_, ?_⟩⟩
    · unfold aheadOf; rw [if_pos h]
    · unfold rest; rw [if_pos h]
  · simp only [if_neg (show ¬ (s.size : Int) ≤ 100 by omega)]
    have hge := idx_ge 47 (s.extract (s.size - 100 - 1) s.size).data.toList
    have hlen : (s.extract (s.size - 100 - 1) s.size).data.toList.length = 101 := by
      rw [Array.length_toList]
      show (s.extract (s.size - 100 - 1) s.size).size = 101
      rw [ByteArray.size_extract]; omega
    rw [hlen] at hge
    obtain ⟨ix, hix⟩ : ∃ ix, Lib.indexByte (s.extract (s.size - 100 - 1) s.size).data.toList 47 = ix := ⟨_, rfl⟩
    have hX : cutX s = ix := hix
    have hAt : cutAt s = (s.size : Int) - 100 - 1 + ix := by unfold cutAt; rw [hX]
    rw [hix] at hge
    have eok : cutOk s = decide (0 ≤ ix ∧ (s.size : Int) - 100 - 1 + ix ≠ 0 ∧ (s.size : Int) - 100 - 1 + ix ≤ 155 ∧ (s.size : Int) - 100 - 1 + ix < (s.size : Int) - 1) := by
      unfold cutOk; rw [decide_eq_false h, hX, hAt]; rfl
    by_cases hn : ix < 0
    · have hnone := Lib.indexByte_none (l := (s.extract (s.size - 100 - 1) s.size).data.toList) (c := 47) (by rw [hix]; omega)
      refine ⟨s.size + 1, _, _, (cut_none_l0 s hs s.size 0 (by omega) (by omega) (fun i _ hi hh => ?_)).trans (by rw [show cutOk s = false from eok.trans (decide_eq_false (by omega))]), fun e => ?_⟩
      · have := hnone (i - (s.size - 100 - 1))
        rw [tail_get s _ _ (by omega), show s.size - 100 - 1 + (i - (s.size - 100 - 1)) = i by omega] at this
        exact this hh.1
      · rw [show cutOk s = false from eok.trans (decide_eq_false (by omega))] at e; cases e
    · obtain ⟨o, rfl⟩ := Int.eq_ofNat_of_zero_le (show 0 ≤ ix by omega)
      obtain ⟨h1, h2⟩ := Lib.indexByte_some hix
      rw [tail_get s _ _ (by omega)] at h1
      have hbefore : ∀ i, i < s.size - 100 - 1 + o → ¬ (s.data.toList[i]? = some 47 ∧ s.size ≤ i + 101 ∧ i + 2 ≤ s.size) := fun i hi hh => by
        have := h2 (i - (s.size - 100 - 1)) (by omega)
        rw [tail_get s _ _ (by omega), show s.size - 100 - 1 + (i - (s.size - 100 - 1)) = i by omega] at this
        exact this hh.1
      by_cases hlast : s.size - 100 - 1 + o + 2 ≤ s.size
      · have hc := cut_some_l0 s hs (s.size - 100 - 1 + o) (by omega) ⟨h1, by omega, hlast⟩ 0 (s.size - 100 - 1 + o) 0 (by omega) (by omega) (fun i _ hi => hbefore i hi)
        have eb : decide (1 ≤ s.size - 100 - 1 + o ∧ s.size - 100 - 1 + o ≤ 155) = cutOk s := by rw [eok]; exact decide_eq_decide.2 (by omega)
        rw [eb] at hc
        have ec : (cutAt s).toNat = s.size - 100 - 1 + o := by rw [hAt]; omega
        refine ⟨_, _, _, hc, fun _ => ⟨?_, ?_⟩⟩
        · unfold aheadOf; rw [if_neg h, ec]
        · unfold rest; rw [if_neg h, ec]
      · have eb : cutOk s = false := eok.trans (decide_eq_false (by omega))
        refine ⟨s.size + 1, _, _, (cut_none_l0 s hs s.size 0 (by omega) (by omega) (fun i _ hi hh => ?_)).trans (by rw [eb]), fun e => by rw [eb] at e; cases e⟩
        by_cases hi2 : i < s.size - 100 - 1 + o
        · exact hbefore i hi2 hh
        · omega
theorem sum_l0 (l : List Int) (hl : 512 ≤ l.length) (hb : ∀ b ∈ l, 0 ≤ b ∧ b < 256) (n : Nat) : ∀ (j : Nat) (x : Int), 512 - j = n → j ≤ 512 → 0 ≤ x → x ≤ 1000 + 256 * j → crossdockref19_Sum.l0 (n + 1) l x j = some (x + (sumTo l 512 - sumTo l j) + (if j ≤ 148 then 256 else if j < 156 then 32 * (156 - (j : Int)) else 0)) := by
  induction n with
  | zero =>
    intro j x hj hl h0 h1
    obtain rfl : j = 512 := by omega
    rw [crossdockref19_Sum.l0, if_neg (by omega), if_neg (by omega), if_neg (by omega)]
    congr 1
    omega
  | succ n ih =>
    intro j x hj hlj h0 h1
    have hgt : 0 ≤ l.getD j 0 ∧ l.getD j 0 < 256 := by
      refine hb _ ?_
      rw [List.getD_eq_getElem?_getD, List.getElem?_eq_getElem (by omega)]
      exact List.getElem_mem _
    have e1 : wrap64 ((j : Int) + 1) = ((j + 1 : Nat) : Int) := by unfold wrap64; omega
    have er : rd l j = l.getD j 0 := by unfold rd; rw [Int.toNat_natCast]
    have es : sumTo l (j + 1) = sumTo l j + if 148 ≤ j ∧ j < 156 then 0 else l.getD j 0 := rfl
    rw [crossdockref19_Sum.l0, if_pos (by omega), e1, er]
    generalize l.getD j 0 = b at *
    have ew : wrap64 (x + wrap64 b) = x + b := by unfold wrap64; omega
    have ew2 : wrap64 (x + 32) = x + 32 := by unfold wrap64; omega
    by_cases h2 : (j : Int) ≥ 148
    · rw [if_pos h2]
      by_cases h3 : (j : Int) < 156
      · rw [if_pos h3, ew2, ih (j + 1) (x + 32) (by omega) (by omega) (by omega) (by omega), es, if_pos (show 148 ≤ j ∧ j < 156 by omega)]
        congr 1
        by_cases h4 : j ≤ 148
        · rw [if_pos h4, if_neg (by omega), if_pos (by omega)]; omega
        · rw [if_neg h4, if_neg (by omega), if_pos (show j < 156 by omega)]
          by_cases h5 : j + 1 < 156
          · rw [if_pos h5]; omega
          · rw [if_neg h5]; omega
      · rw [if_neg h3, if_pos (by omega), if_pos (by omega), ew, ih (j + 1) (x + b) (by omega) (by omega) (by omega) (by omega), es, if_neg (show ¬ (148 ≤ j ∧ j < 156) by omega), if_neg (by omega), if_neg (by omega), if_neg (by omega), if_neg (by omega)]
        congr 1
        omega
    · rw [if_neg h2, if_pos (by omega), if_pos (by omega), ew, ih (j + 1) (x + b) (by omega) (by omega) (by omega) (by omega), es, if_neg (show ¬ (148 ≤ j ∧ j < 156) by omega), if_pos (by omega), if_pos (by omega)]
      congr 1
      omega
theorem sum_f (l : List Int) (hl : 512 ≤ l.length) (hb : ∀ b ∈ l, 0 ≤ b ∧ b < 256) : crossdockref19_Sum.f 513 l = some (sumH l) := by
  have := sum_l0 l hl hb 512 0 0 (by omega) (by omega) (by omega) (by omega)
  rw [if_pos (by omega)] at this
  refine this.trans (congrArg some ?_)
  show 0 + (sumTo l 512 - 256) + 256 = sumTo l 512
  omega
end Go.Proofs.YtiioiikcjaiajaaDoor.My

/- The walk of the document's Put of layer 19. -/
set_option maxRecDepth 100000
namespace Go.Proofs.YtiioiikcjaiajaaDoor.My
open Go.RowKit Go.Proofs.YtiioiikcjaiajaaDoor.Hd Go.Proofs.YtiioiikcjaiajaaDoor.Oct Go.Proofs.YtiioiikcjaiajaaDoor.PHeadPuts Go.Proofs.YtiioiikcjaiajaaDoor.MyDocA Go.Proofs.YtiioiikcjaiajaaDoor.MyDocFits Go.Proofs.YtiioiikcjaiajaaDoorW.PrintWords Go.Proofs.YtiioiikcjaiajaaDoorW.PrintLast Go.Proofs.YtiioiikcjaiajaaDoorW.PrintMore
set_option linter.unusedVariables false
set_option linter.unusedSimpArgs false

/-- The document's block, behind its texts and the kind. -/
def docT (h : Hd) : List Int :=
  (patch (patch (patch (patch (patch (patch nought 0 (bs (rest h.nm))) 157 (bs h.li)) 257 [117, 115, 116, 97, 114, 0, 48, 48]) 265 (bs h.us)) 297 (bs h.gr)) 345 (bs (aheadOf h.nm))).set 156 h.ki
def docB (h : Hd) : List Int := (patch (putN h 7 (docT h)) 148 (putB 7 (sumH (putN h 7 (docT h))))).set 155 32
theorem nought_calls (s : ByteArray) (hs : s.size ≤ 100000) (w : World) : Calls Tryd.prog 31 #[.string s] w fun e w' => e = .returned (.bool (!noN s)) ∧ Drawn0 w w' :=
  crossdockref19_nought.calls _ s _ w (nought_f s hs)
theorem dcut_calls (s : ByteArray) (hs : s.size ≤ 100000) (w : World) : Calls Tryd.prog 32 #[.string s] w fun e w' => (∃ a r : ByteArray, e = .returned (.tuple #[.string a, .string r, .bool (cutOk s)]) ∧ (cutOk s = true → a = aheadOf s ∧ r = rest s)) ∧ Drawn0 w w' := by
  obtain ⟨k, a, r, h1, h2⟩ := cut_f s hs
  refine (crossdockref19_Cut.calls k s a r _ w h1).mono ?_
  rintro e w' ⟨rfl, h3⟩
  exact ⟨⟨a, r, rfl, h2⟩, h3⟩
theorem dput_calls (n : Nat) (x : Int) (hn : n ≤ 100) (h0 : -9223372036854775808 ≤ x) (h1 : x ≤ 9223372036854775807) (w : World) :
    Calls Tryd.prog 33 #[.int .i64 n, .int .i64 x] w fun e w' => (∃ v0 : Value, e = .returned (.tuple #[v0, .int .i64 (if fit n x then 0 else 3)]) ∧ (fit n x = true → Kd.R (Kd.int .u8) 5 w' w.heap.size (fun _ => True) v0 (putB n x))) ∧ Below w.heap.size w w' := by
  obtain ⟨k, hk⟩ := ref_put n x hn h0 h1
  cases hf : fit n x with
  | true =>
    rw [hf, if_pos rfl] at hk
    refine (crossdockref17_Put.calls k n x _ _ w hk).mono ?_
    rintro e w' ⟨v0, rfl, hR, hb⟩
    exact ⟨⟨v0, rfl, fun _ => hR⟩, hb⟩
  | false =>
    rw [hf, if_neg (by simp)] at hk
    refine (crossdockref17_Put.calls k n x _ _ w hk).mono ?_
    rintro e w' ⟨v0, rfl, hR, hb⟩
    exact ⟨⟨v0, rfl, fun h => by cases h⟩, hb⟩
/-- A text is copied into a block. -/
theorem copy_text (W : World) (g off n c : Nat) (s : ByteArray) (l : List Int) (hr : Row0 W g l) (hs : s.size ≤ n) (hl : off + n ≤ l.length) :
    ∃ W', (∀ ty, (Builtin.copy_ #[26, 9] ty #[.slice (some ⟨g, off, none⟩) n c, .string s]).run Tryd.prog W = .ok (.int .i64 s.size) W') ∧ Row0 W' g (patch l off (bs s)) ∧ W.grownBy W' (some g) := by
  have hcp := fun ty => Lib.run_copy_row_string (P := Tryd.prog) W 26 9 ty 5 g off n c s (nums .u8 l).toArray 5 Tryd.underlying26 info_u8' hr.out hs (by rw [List.size_toArray, nums_length]; omega)
  refine ⟨_, hcp, ?_, setRow_grown _ _ _⟩
  refine ⟨?_⟩
  rw [setRow_heap W g _ _ 5 (0, 0) hr.out, bs_cells]
  rw [show (nums .u8 l).toArray.toList = nums .u8 l from rfl, patch_cells l (bs s) off s.size (bs_len s)]
/-- Bytes are copied into a block. -/
theorem copy_row (W : World) (g off n c m cs : Nat) (A : Option Addr) (b l : List Int) (hr : Row0 W g l) (hb : b.length = m) (hC : (Kd.int .u8).C W A m b) (hs : m ≤ n) (h0 : 0 < m) (hl : off + n ≤ l.length) :
    ∃ W', (∀ ty, (Builtin.copy_ #[26, 26] ty #[.slice (some ⟨g, off, none⟩) n c, .slice A m cs]).run Tryd.prog W = .ok (.int .i64 m) W') ∧ Row0 W' g (patch l off b) ∧ W.grownBy W' (some g) := by
  obtain ⟨ad, rfl, hc⟩ := Kd.at_int hC 0 (by omega) (by omega)
  have hnl : (nums .u8 b).length = m := by rw [nums_length, hb]
  have hcp := fun ty => run_copy_row (P := Tryd.prog) W 26 26 ty 5 g off n c ad m cs (nums .u8 l).toArray 5 (nums .u8 b) Tryd.underlying26 info_u8' hr.out (by rw [hnl]; exact (Nat.min_eq_left hs).symm)
    (fun j v hv => by
      obtain ⟨ad', e, hc'⟩ := Kd.at_int hC j (by omega) (by have := (List.getElem?_eq_some_iff.1 hv).1; rw [hnl] at this; omega)
      cases e
      have hj : j < b.length := by have := (List.getElem?_eq_some_iff.1 hv).1; rw [hnl] at this; omega
      rw [show (nums .u8 b)[j]? = some (.int .u8 (rd b j)) by simp [nums, rd, hj]] at hv
      cases hv
      simpa using hc') (by simp only [List.size_toArray, nums_length]; omega) (fun v hv => by
      obtain ⟨x, _, rfl⟩ := List.mem_map.1 hv
      rfl)
  rw [hnl] at hcp
  refine ⟨_, hcp, ?_, setRow_grown _ _ _⟩
  refine ⟨?_⟩
  rw [setRow_heap W g _ _ 5 (0, 0) hr.out]
  rw [show (nums .u8 l).toArray.toList = nums .u8 l from rfl, patch_cells l b off m hb]
structure DBox (w : World) (g : Nat) (h : Hd) : Prop where mk :: (out : w.heap[g]? = some (.cells (hv h) 33 (0, 0)))
/-- Where the document has put the bytes. -/
def DPut (w : World) (h : Hd) (e : Ending) (w' : World) : Prop :=
  (match headE h with
    | some c => e = .returned (.tuple #[.slice none 0 0, .int .i64 c])
    | none => ∃ gB, e = .returned (.tuple #[.slice (some ⟨gB, 0, none⟩) 512 512, .int .i64 0]) ∧ Row w' gB (docB h)) ∧ Below w.heap.size w w'
theorem dput_nought (h : Hd) (hS : Small h) (w : World) (hn : (noN h.nm && noN h.li && noN h.us && noN h.gr) = false) :
    Calls Tryd.prog 10 #[.agg (hv h)] w (DPut w h) := by
  have hE : headE h = some 2 := by unfold headE; rw [hn]; rfl
  obtain ⟨W, hW⟩ : ∃ W, W = w.alloc (.cells (hv h) 33) := ⟨_, rfl⟩
  have hBW : Below w.heap.size w W := by rw [hW]; exact below_alloc (Below.refl _ _) _
  have hbox : DBox W w.heap.size h := by rw [hW]; exact ⟨alloc_self _ _⟩
  have c0 : W.cell? ⟨w.heap.size, 0, none⟩ = some (.string h.nm) := by rw [blk_cell hbox.out]; rfl
  have c7 : W.cell? ⟨w.heap.size, 7, none⟩ = some (.string h.li) := by rw [blk_cell hbox.out]; rfl
  have c8 : W.cell? ⟨w.heap.size, 8, none⟩ = some (.string h.us) := by rw [blk_cell hbox.out]; rfl
  have c9 : W.cell? ⟨w.heap.size, 9, none⟩ = some (.string h.gr) := by rw [blk_cell hbox.out]; rfl
  have HN0 := Aside0.mk (nought_calls h.nm (by have := hS.nm; omega))
  have HN1 := Aside0.mk (nought_calls h.li (by have := hS.li; omega))
  have HN2 := Aside0.mk (nought_calls h.us (by have := hS.us; omega))
  have HN3 := Aside0.mk (nought_calls h.gr (by have := hS.gr; omega))
  have HEnd : Aside0 (∀ n, DPut w h (.returned (.tuple #[.slice none 0 0, .int .i64 2])) (W.drewN n)) := ⟨fun n => by
    unfold DPut
    rw [hE]
    exact ⟨rfl, hBW.trans ⟨rfl, rfl, rfl, Nat.le_refl _, fun _ _ => rfl⟩⟩⟩
  have HW := Aside0.mk hW
  unfold hv at HW
  unfold hv
  generalize noN h.nm = b0 at *
  generalize noN h.li = b1 at *
  generalize noN h.us = b2 at *
  generalize noN h.gr = b3 at *
  clear hE hW hBW hbox hS
  generalize DPut w h = R at *
  cases b0 with
  | false =>
    clear hn
    go_enter Tryd.func10, Tryd.ntmps10
    go_upto_region 1 with fail
    rw [← HW.out]
    go_wp2_with (go_at_call 31; (with_reducible refine (HN0.out _).mono ?_); rintro e w' ⟨rfl, ⟨nd, rfl⟩⟩)
    exact HEnd.out _
  | true =>
    cases b1 with
    | false =>
      clear hn
      go_enter Tryd.func10, Tryd.ntmps10
      go_upto_region 1 with fail
      rw [← HW.out]
      go_wp2_with (first
        | (go_at_call 31; (with_reducible refine (HN0.out _).mono ?_); rintro e w' ⟨rfl, ⟨nd, rfl⟩⟩)
        | (go_at_call 31; (with_reducible refine (HN1.out _).mono ?_); rintro e w' ⟨rfl, ⟨nd, rfl⟩⟩))
      exact HEnd.out _
    | true =>
      cases b2 with
      | false =>
        clear hn
        go_enter Tryd.func10, Tryd.ntmps10
        go_upto_region 1 with fail
        rw [← HW.out]
        go_wp2_with (first
          | (go_at_call 31; (with_reducible refine (HN0.out _).mono ?_); rintro e w' ⟨rfl, ⟨nd, rfl⟩⟩)
          | (go_at_call 31; (with_reducible refine (HN1.out _).mono ?_); rintro e w' ⟨rfl, ⟨nd, rfl⟩⟩)
          | (go_at_call 31; (with_reducible refine (HN2.out _).mono ?_); rintro e w' ⟨rfl, ⟨nd, rfl⟩⟩))
        exact HEnd.out _
      | true =>
        cases b3 with
        | true => cases hn
        | false =>
          clear hn
          go_enter Tryd.func10, Tryd.ntmps10
          go_upto_region 1 with fail
          rw [← HW.out]
          go_wp2_with (first
            | (go_at_call 31; (with_reducible refine (HN0.out _).mono ?_); rintro e w' ⟨rfl, ⟨nd, rfl⟩⟩)
            | (go_at_call 31; (with_reducible refine (HN1.out _).mono ?_); rintro e w' ⟨rfl, ⟨nd, rfl⟩⟩)
            | (go_at_call 31; (with_reducible refine (HN2.out _).mono ?_); rintro e w' ⟨rfl, ⟨nd, rfl⟩⟩)
            | (go_at_call 31; (with_reducible refine (HN3.out _).mono ?_); rintro e w' ⟨rfl, ⟨nd, rfl⟩⟩))
          exact HEnd.out _
theorem dput_long (h : Hd) (hS : Small h) (w : World) (hn : (noN h.nm && noN h.li && noN h.us && noN h.gr) = true) (hl : (!cutOk h.nm || decide (100 < h.li.size) || decide (32 < h.us.size) || decide (32 < h.gr.size)) = true) :
    Calls Tryd.prog 10 #[.agg (hv h)] w (DPut w h) := by
  have hE : headE h = some 3 := by unfold headE; rw [hn, hl]; rfl
  obtain ⟨W, hW⟩ : ∃ W, W = w.alloc (.cells (hv h) 33) := ⟨_, rfl⟩
  have hBW : Below w.heap.size w W := by rw [hW]; exact below_alloc (Below.refl _ _) _
  have hbox : DBox W w.heap.size h := by rw [hW]; exact ⟨alloc_self _ _⟩
  have c0 : W.cell? ⟨w.heap.size, 0, none⟩ = some (.string h.nm) := by rw [blk_cell hbox.out]; rfl
  have c7 : W.cell? ⟨w.heap.size, 7, none⟩ = some (.string h.li) := by rw [blk_cell hbox.out]; rfl
  have c8 : W.cell? ⟨w.heap.size, 8, none⟩ = some (.string h.us) := by rw [blk_cell hbox.out]; rfl
  have c9 : W.cell? ⟨w.heap.size, 9, none⟩ = some (.string h.gr) := by rw [blk_cell hbox.out]; rfl
  simp only [Bool.and_eq_true] at hn
  have HN0 := Aside0.mk (nought_calls h.nm (by have := hS.nm; omega))
  have HN1 := Aside0.mk (nought_calls h.li (by have := hS.li; omega))
  have HN2 := Aside0.mk (nought_calls h.us (by have := hS.us; omega))
  have HN3 := Aside0.mk (nought_calls h.gr (by have := hS.gr; omega))
  rw [hn.1.1.1] at HN0
  rw [hn.1.1.2] at HN1
  rw [hn.1.2] at HN2
  rw [hn.2] at HN3
  have HC := Aside0.mk (dcut_calls h.nm (by have := hS.nm; omega))
  have HEnd : Aside0 (∀ n, DPut w h (.returned (.tuple #[.slice none 0 0, .int .i64 3])) (W.drewN n)) := ⟨fun n => by
    unfold DPut
    rw [hE]
    exact ⟨rfl, hBW.trans ⟨rfl, rfl, rfl, Nat.le_refl _, fun _ _ => rfl⟩⟩⟩
  have HW := Aside0.mk hW
  unfold hv at HW
  unfold hv
  generalize cutOk h.nm = b0 at *
  clear hE hW hBW hbox hS hn
  generalize DPut w h = R at *
  cases b0 with
  | false =>
    clear hl
    go_enter Tryd.func10, Tryd.ntmps10
    go_upto_region 1 with fail
    rw [← HW.out]
    go_wp2_with (first
      | (go_at_call 31; (with_reducible refine (HN0.out _).mono ?_); rintro e w' ⟨rfl, ⟨nd, rfl⟩⟩)
      | (go_at_call 31; (with_reducible refine (HN1.out _).mono ?_); rintro e w' ⟨rfl, ⟨nd, rfl⟩⟩)
      | (go_at_call 31; (with_reducible refine (HN2.out _).mono ?_); rintro e w' ⟨rfl, ⟨nd, rfl⟩⟩)
      | (go_at_call 31; (with_reducible refine (HN3.out _).mono ?_); rintro e w' ⟨rfl, ⟨nd, rfl⟩⟩)
      | (go_at_call 32; (with_reducible refine (HC.out _).mono ?_); rintro e w' ⟨⟨a, r, rfl, har⟩, ⟨nd, rfl⟩⟩; clear har))
    exact HEnd.out _
  | true =>
    by_cases b1 : 100 < h.li.size
    · have b1' : (100 : Int) < (h.li.size : Int) := by omega
      clear hl b1
      go_enter Tryd.func10, Tryd.ntmps10
      go_upto_region 1 with fail
      rw [← HW.out]
      go_wp2_with (first
        | (go_at_call 31; (with_reducible refine (HN0.out _).mono ?_); rintro e w' ⟨rfl, ⟨nd, rfl⟩⟩)
        | (go_at_call 31; (with_reducible refine (HN1.out _).mono ?_); rintro e w' ⟨rfl, ⟨nd, rfl⟩⟩)
        | (go_at_call 31; (with_reducible refine (HN2.out _).mono ?_); rintro e w' ⟨rfl, ⟨nd, rfl⟩⟩)
        | (go_at_call 31; (with_reducible refine (HN3.out _).mono ?_); rintro e w' ⟨rfl, ⟨nd, rfl⟩⟩)
        | (go_at_call 32; (with_reducible refine (HC.out _).mono ?_); rintro e w' ⟨⟨a, r, rfl, har⟩, ⟨nd, rfl⟩⟩; clear har))
      exact HEnd.out _
    · have b1' : ¬ (100 : Int) < (h.li.size : Int) := by omega
      by_cases b2 : 32 < h.us.size
      · have b2' : (32 : Int) < (h.us.size : Int) := by omega
        clear hl b1 b2
        go_enter Tryd.func10, Tryd.ntmps10
        go_upto_region 1 with fail
        rw [← HW.out]
        go_wp2_with (first
          | (go_at_call 31; (with_reducible refine (HN0.out _).mono ?_); rintro e w' ⟨rfl, ⟨nd, rfl⟩⟩)
          | (go_at_call 31; (with_reducible refine (HN1.out _).mono ?_); rintro e w' ⟨rfl, ⟨nd, rfl⟩⟩)
          | (go_at_call 31; (with_reducible refine (HN2.out _).mono ?_); rintro e w' ⟨rfl, ⟨nd, rfl⟩⟩)
          | (go_at_call 31; (with_reducible refine (HN3.out _).mono ?_); rintro e w' ⟨rfl, ⟨nd, rfl⟩⟩)
          | (go_at_call 32; (with_reducible refine (HC.out _).mono ?_); rintro e w' ⟨⟨a, r, rfl, har⟩, ⟨nd, rfl⟩⟩; clear har))
        exact HEnd.out _
      · have b2' : ¬ (32 : Int) < (h.us.size : Int) := by omega
        have b3' : (32 : Int) < (h.gr.size : Int) := by
          simp [b1, b2] at hl
          omega
        clear hl b1 b2
        go_enter Tryd.func10, Tryd.ntmps10
        go_upto_region 1 with fail
        rw [← HW.out]
        go_wp2_with (first
          | (go_at_call 31; (with_reducible refine (HN0.out _).mono ?_); rintro e w' ⟨rfl, ⟨nd, rfl⟩⟩)
          | (go_at_call 31; (with_reducible refine (HN1.out _).mono ?_); rintro e w' ⟨rfl, ⟨nd, rfl⟩⟩)
          | (go_at_call 31; (with_reducible refine (HN2.out _).mono ?_); rintro e w' ⟨rfl, ⟨nd, rfl⟩⟩)
          | (go_at_call 31; (with_reducible refine (HN3.out _).mono ?_); rintro e w' ⟨rfl, ⟨nd, rfl⟩⟩)
          | (go_at_call 32; (with_reducible refine (HC.out _).mono ?_); rintro e w' ⟨⟨a, r, rfl, har⟩, ⟨nd, rfl⟩⟩; clear har))
        exact HEnd.out _
end Go.Proofs.YtiioiikcjaiajaaDoor.My

/- The walk of the document's Put of layer 19, where the texts fit. -/
set_option maxRecDepth 100000
namespace Go.Proofs.YtiioiikcjaiajaaDoor.My
open Go.RowKit Go.Proofs.YtiioiikcjaiajaaDoor.Hd Go.Proofs.YtiioiikcjaiajaaDoor.Oct Go.Proofs.YtiioiikcjaiajaaDoor.PHeadPuts Go.Proofs.YtiioiikcjaiajaaDoor.MyDocA Go.Proofs.YtiioiikcjaiajaaDoor.MyDocFits Go.Proofs.YtiioiikcjaiajaaDoorW.PrintWords Go.Proofs.YtiioiikcjaiajaaDoorW.PrintLast Go.Proofs.YtiioiikcjaiajaaDoorW.PrintMore
set_option linter.unusedVariables false
set_option linter.unusedSimpArgs false

theorem slice_at (g k m : Nat) (hk : k < 512) (hm : m = 512 - k) (W : World) : (Instr.slice 26 (.slice (some ⟨g, 0, none⟩) 512 512) (some (.int .i64 k)) none none).run Tryd.prog W = .ok (.slice (some ⟨g, k, none⟩) m m) W := by
  rw [slice_from g 0 512 512 k (by omega) (Nat.le_refl _), if_neg (by omega), Nat.zero_add, hm]
/-- The document's block while it is filled; its head's block stands. -/
structure DQ (w : World) (gB gb : Nat) (h : Hd) (l : List Int) : Prop where
  row : Row0 w gB l
  box : DBox w gb h
theorem DQ.ne {w : World} {gB gb : Nat} {h : Hd} {l : List Int} (q : DQ w gB gb h l) : gb ≠ gB := by
  intro e
  have k1 := q.box.out
  rw [e, q.row.out] at k1
  simp at k1
theorem DQ.drew {w : World} {gB gb : Nat} {h : Hd} {l : List Int} (q : DQ w gB gb h l) : DQ w.drew gB gb h l := ⟨q.row.drew, ⟨q.box.out⟩⟩
theorem DQ.to {w w' : World} {gB gb : Nat} {h : Hd} {l l' : List Int} (q : DQ w gB gb h l) (hr : Row0 w' gB l') (hg : w.grownBy w' (some gB)) : DQ w' gB gb h l' := ⟨hr, ⟨blk_grown q.box.out hg (by simpa using q.ne)⟩⟩
theorem DQ.cell {w : World} {gB gb : Nat} {h : Hd} {l : List Int} (q : DQ w gB gb h l) (j : Nat) : w.cell? ⟨gb, j, none⟩ = (hv h)[j]? := blk_cell q.box.out j
theorem bs_lit : bs (⟨#[117, 115, 116, 97, 114, 0, 48, 48]⟩ : ByteArray) = [117, 115, 116, 97, 114, 0, 48, 48] := by decide +kernel
theorem nSz_le : ∀ i, nSz i ≤ 12
  | 0 => by decide
  | 1 => by decide
  | 2 => by decide
  | 3 => by decide
  | 4 => by decide
  | i + 5 => by show 8 ≤ 12; decide
theorem docT_byte (h : Hd) (hS : Small h) : ∀ x ∈ docT h, 0 ≤ x ∧ x < 256 := by
  have h0 : ∀ x ∈ nought, (0 : Int) ≤ x ∧ x < 256 := fun x hx => by
    have := List.eq_of_mem_replicate hx
    omega
  exact byte_set (byte_patch (byte_patch (byte_patch (byte_patch (byte_patch (byte_patch h0 (bs_byte _)) (bs_byte _)) (by decide)) (bs_byte _)) (bs_byte _)) (bs_byte _)) hS.ki
theorem dsum_calls (w : World) (gB : Nat) (l : List Int) (hr : Row w gB l) (hl : l.length = 512) (hb : ∀ x ∈ l, 0 ≤ x ∧ x < 256) :
    Calls Tryd.prog 20 #[.slice (some ⟨gB, 0, none⟩) 512 512] w fun e w' => e = .returned (.int .i64 (sumH l)) ∧ Drawn0 w w' := by
  have := crossdockref19_Sum.calls 513 (some ⟨gB, 0, none⟩) 512 l (sumH l) w (hr.whole (by omega)) (by omega) (sum_f l (by omega) hb)
  rwa [hl] at this
set_option maxHeartbeats 4000000 in
theorem dput_rest (h : Hd) (hS : Small h) (w : World) (hn : (noN h.nm && noN h.li && noN h.us && noN h.gr) = true) (hl : (!cutOk h.nm || decide (100 < h.li.size) || decide (32 < h.us.size) || decide (32 < h.gr.size)) = false) :
    Calls Tryd.prog 10 #[.agg (hv h)] w (DPut w h) := by
  have hE : headE h = if (List.range 7).all (fitsN h) then none else some 1 := by unfold headE; rw [hn, hl]; rfl
  obtain ⟨W, hW⟩ : ∃ W, W = w.alloc (.cells (hv h) 33) := ⟨_, rfl⟩
  have hBW : Below w.heap.size w W := by rw [hW]; exact below_alloc (Below.refl _ _) _
  have hbox : DBox W w.heap.size h := by rw [hW]; exact ⟨alloc_self _ _⟩
  have c0 : W.cell? ⟨w.heap.size, 0, none⟩ = some (.string h.nm) := by rw [blk_cell hbox.out]; rfl
  have c7 : W.cell? ⟨w.heap.size, 7, none⟩ = some (.string h.li) := by rw [blk_cell hbox.out]; rfl
  have c8 : W.cell? ⟨w.heap.size, 8, none⟩ = some (.string h.us) := by rw [blk_cell hbox.out]; rfl
  have c9 : W.cell? ⟨w.heap.size, 9, none⟩ = some (.string h.gr) := by rw [blk_cell hbox.out]; rfl
  simp only [Bool.and_eq_true] at hn
  have HN0 := Aside0.mk (nought_calls h.nm (by have := hS.nm; omega))
  have HN1 := Aside0.mk (nought_calls h.li (by have := hS.li; omega))
  have HN2 := Aside0.mk (nought_calls h.us (by have := hS.us; omega))
  have HN3 := Aside0.mk (nought_calls h.gr (by have := hS.gr; omega))
  rw [hn.1.1.1] at HN0
  rw [hn.1.1.2] at HN1
  rw [hn.1.2] at HN2
  rw [hn.2] at HN3
  simp only [Bool.or_eq_false_iff, Bool.not_eq_false', decide_eq_false_iff_not] at hl
  have HC := Aside0.mk (dcut_calls h.nm (by have := hS.nm; omega))
  have hok := hl.1.1.1
  rw [hok] at HC
  have b1' : ¬ (100 : Int) < (h.li.size : Int) := by omega
  have b2' : ¬ (32 : Int) < (h.us.size : Int) := by omega
  have b3' : ¬ (32 : Int) < (h.gr.size : Int) := by omega
  have HL := Aside0.mk (And.intro hok (And.intro (show h.li.size ≤ 100 by omega) (And.intro (show h.us.size ≤ 32 by omega) (show h.gr.size ≤ 32 by omega))))
  have HEnd : Aside0 ((∀ w', (List.range 7).all (fitsN h) = false → Below w.heap.size w w' → DPut w h (.returned (.tuple #[.slice none 0 0, .int .i64 1])) w') ∧ (∀ w' gB, (List.range 7).all (fitsN h) = true → Row w' gB (docB h) → Below w.heap.size w w' → DPut w h (.returned (.tuple #[.slice (some ⟨gB, 0, none⟩) 512 512, .int .i64 0])) w')) := by
    refine ⟨fun w' ha hb => ?_, fun w' gB ha hr hb => ?_⟩
    · unfold DPut
      rw [hE, ha]
      exact ⟨rfl, hb⟩
    · unfold DPut
      rw [hE, ha]
      exact ⟨⟨gB, rfl, hr⟩, hb⟩
  have HBx := Aside0.mk (And.intro hbox hBW)
  have HS := Aside0.mk hS
  have HW := Aside0.mk hW
  have hmk : ∀ W : World, (Instr.makeSlice 26 (.int .i64 512) (.int .i64 512)).run Tryd.prog W = .ok (.slice (some ⟨W.heap.size, 0, none⟩) 512 512) (W.alloc (.cells (madeCells #[.int .u8 0] 512) 5)) := fun W => make_bytes 512 (by omega) W
  unfold hv at HW
  unfold hv
  clear hE hW hBW hbox hS hn hl hok
  generalize DPut w h = R at *
  go_enter Tryd.func10, Tryd.ntmps10
  go_upto_region 1 with fail
  rw [← HW.out]
  go_upto_region 7 with (first
    | (go_at_call 31; (with_reducible refine (HN0.out _).mono ?_); rintro e w' ⟨rfl, ⟨nd0, rfl⟩⟩)
    | (go_at_call 31; (with_reducible refine (HN1.out _).mono ?_); rintro e w' ⟨rfl, ⟨nd1, rfl⟩⟩)
    | (go_at_call 31; (with_reducible refine (HN2.out _).mono ?_); rintro e w' ⟨rfl, ⟨nd2, rfl⟩⟩)
    | (go_at_call 31; (with_reducible refine (HN3.out _).mono ?_); rintro e w' ⟨rfl, ⟨nd3, rfl⟩⟩)
    | (go_at_call 32; (with_reducible refine (HC.out _).mono ?_); rintro e w' ⟨⟨a, r, rfl, har⟩, ⟨nd4, rfl⟩⟩; obtain ⟨rfl, rfl⟩ := har (by trivial)))
  generalize nd0 + nd1 + nd2 + nd3 + nd4 = n0
  have hbn : Below W.heap.size W (W.drewN n0) := ⟨rfl, rfl, rfl, Nat.le_refl _, fun _ _ => rfl⟩
  have hq0 : DQ ((W.drewN n0).alloc (.cells (madeCells #[.int .u8 0] 512) 5)) W.heap.size w.heap.size h nought := by
    refine ⟨Row0.made (W.drewN n0) 512, ⟨?_⟩⟩
    exact blk_below HBx.out.1.out (below_alloc hbn _)
  have hb0 : Below w.heap.size w ((W.drewN n0).alloc (.cells (madeCells #[.int .u8 0] 512) 5)) := HBx.out.2.trans ((below_alloc hbn _).mono HBx.out.2.size)
  have hgB : w.heap.size ≤ W.heap.size := HBx.out.2.size
  generalize (W.drewN n0).alloc (.cells (madeCells #[.int .u8 0] 512) 5) = V0 at *
  generalize W.heap.size = gB at *
  have hnl : nought.length = 512 := by unfold nought; rw [List.length_replicate]
  obtain ⟨z1, z2⟩ := cut_sizes HL.out.1
  obtain ⟨zl, zu, zg⟩ := HL.out.2
  -- the chain of the copies
  obtain ⟨V1, k1, r1, g1⟩ := copy_text V0 gB 0 512 512 (rest h.nm) nought hq0.row (by omega) (by omega)
  have hq1 := (hq0.to r1 g1)
  have e1 : (patch nought 0 (bs (rest h.nm))).length = 512 := by rw [patch_length (by rw [bs_len]; omega), hnl]
  obtain ⟨V2, k2, r2, g2⟩ := copy_text V1.drew gB 157 355 355 h.li _ hq1.drew.row (by omega) (by omega)
  have hq2 := (hq1.drew.to r2 g2)
  have e2 : (patch (patch nought 0 (bs (rest h.nm))) 157 (bs h.li)).length = 512 := by rw [patch_length (by rw [bs_len]; omega), e1]
  obtain ⟨V3, k3, r3, g3⟩ := copy_text V2 gB 257 255 255 ⟨#[117, 115, 116, 97, 114, 0, 48, 48]⟩ _ hq2.row (by decide) (by omega)
  have hq3 := (hq2.to r3 g3)
  rw [bs_lit] at hq3
  have e3 : (patch (patch (patch nought 0 (bs (rest h.nm))) 157 (bs h.li)) 257 [117, 115, 116, 97, 114, 0, 48, 48]).length = 512 := by rw [patch_length (by rw [e2]; decide), e2]
  obtain ⟨V4, k4, r4, g4⟩ := copy_text V3.drew gB 265 247 247 h.us _ hq3.drew.row (by omega) (by omega)
  have hq4 := (hq3.drew.to r4 g4)
  have e4 : (patch (patch (patch (patch nought 0 (bs (rest h.nm))) 157 (bs h.li)) 257 [117, 115, 116, 97, 114, 0, 48, 48]) 265 (bs h.us)).length = 512 := by rw [patch_length (by rw [bs_len]; omega), e3]
  obtain ⟨V5, k5, r5, g5⟩ := copy_text V4.drew gB 297 215 215 h.gr _ hq4.drew.row (by omega) (by omega)
  have hq5 := (hq4.drew.to r5 g5)
  have e5 : (patch (patch (patch (patch (patch nought 0 (bs (rest h.nm))) 157 (bs h.li)) 257 [117, 115, 116, 97, 114, 0, 48, 48]) 265 (bs h.us)) 297 (bs h.gr)).length = 512 := by rw [patch_length (by rw [bs_len]; omega), e4]
  obtain ⟨V6, k6, r6, g6⟩ := copy_text V5 gB 345 167 167 (aheadOf h.nm) _ hq5.row (by omega) (by omega)
  have hq6 := (hq5.to r6 g6)
  have e6 : (patch (patch (patch (patch (patch (patch nought 0 (bs (rest h.nm))) 157 (bs h.li)) 257 [117, 115, 116, 97, 114, 0, 48, 48]) 265 (bs h.us)) 297 (bs h.gr)) 345 (bs (aheadOf h.nm))).length = 512 := by rw [patch_length (by rw [bs_len]; omega), e5]
  have hb6 : Below w.heap.size w V6 := by
    have a1 := below_grown hb0 g1 hb0.size hgB
    have a2 := below_grown a1.drew g2 a1.size hgB
    have a3 := below_grown a2 g3 a2.size hgB
    have a4 := below_grown a3.drew g4 a3.size hgB
    have a5 := below_grown a4.drew g5 a4.size hgB
    exact below_grown a5 g6 a5.size hgB
  have y1 : V1.cell? ⟨w.heap.size, 7, none⟩ = some (.string h.li) := (hq1.cell 7).trans rfl
  have y3 : V3.cell? ⟨w.heap.size, 8, none⟩ = some (.string h.us) := (hq3.cell 8).trans rfl
  have y4 : V4.cell? ⟨w.heap.size, 9, none⟩ = some (.string h.gr) := (hq4.cell 9).trans rfl
  have y6 : V6.cell? ⟨w.heap.size, 6, none⟩ = some (.int .u8 h.ki) := (hq6.cell 6).trans rfl
  have d6 := hq6.row.row.cell 156 (by omega)
  have f6 := hq6.row.row.frozen 156 (by omega)
  have s1 := slice_at gB 157 355 (by decide) rfl
  have s2 := slice_at gB 257 255 (by decide) rfl
  have s3 := slice_at gB 265 247 (by decide) rfl
  have s4 := slice_at gB 297 215 (by decide) rfl
  have s5 := slice_at gB 345 167 (by decide) rfl
  have HQ6 := Aside0.mk (And.intro hq6 (And.intro hb6 e6))
  have HgB := Aside0.mk hgB
  clear hbn hq0 hb0 hgB hnl z1 z2 zl zu zg r1 r2 r3 r4 r5 r6 g1 g2 g3 g4 g5 g6 hq1 hq2 hq3 hq4 hq5 hq6 hb6 e1 e2 e3 e4 e5 e6 b1' b2' b3' HC HN0 HN1 HN2 HN3 c0 c7 c8 c9 HW HBx hmk
  go_wp2_with fail
  go_still_tail 4, (by kernel_rfl)
  change wpList _ _ _ _ _ V1.drew
  go_wp2_with fail
  go_still_tail 4, (by kernel_rfl)
  change wpList _ _ _ _ _ V3.drew
  go_wp2_with fail
  go_still_tail 4, (by kernel_rfl)
  change wpList _ _ _ _ _ V4.drew
  go_upto_region 14 with fail
  have hq7 : DQ (V6.setCell ⟨gB, 156, none⟩ (.int .u8 h.ki)) gB w.heap.size h (docT h) := HQ6.out.1.to (HQ6.out.1.row.set 156 h.ki) (grown_set _ _ _ _)
  have hb7 : Below w.heap.size w (V6.setCell ⟨gB, 156, none⟩ (.int .u8 h.ki)) := HQ6.out.2.1.setCell HgB.out _
  have hlT : (docT h).length = 512 := by unfold docT; rw [List.length_set]; exact HQ6.out.2.2
  generalize V6.setCell ⟨gB, 156, none⟩ (.int .u8 h.ki) = V7 at *
  obtain ⟨lT, hlTe⟩ : ∃ lT, lT = docT h := ⟨_, rfl⟩
  rw [← hlTe] at hq7 hlT
  have HlT := Aside0.mk hlTe
  clear hlTe
  have HQ7 := Aside0.mk (And.intro hq7 (And.intro hb7 hlT))
  clear hq7 hb7 hlT HQ6 y1 y3 y4 y6 d6 f6 s1 s2 s3 s4 s5 k1 k2 k3 k4 k5 k6
  go_upto_region 15 with fail
  have hB1 := below_alloc (Below.refl V7.heap.size V7) (.cells #[.int .i64 100, .int .i64 108, .int .i64 116, .int .i64 124, .int .i64 136, .int .i64 329, .int .i64 337] 3)
  have hB2 := below_alloc hB1 (.cells #[.int .i64 8, .int .i64 8, .int .i64 8, .int .i64 12, .int .i64 12, .int .i64 8, .int .i64 8] 3)
  have p1 : ((V7.alloc (.cells #[.int .i64 100, .int .i64 108, .int .i64 116, .int .i64 124, .int .i64 136, .int .i64 329, .int .i64 337] 3)).alloc (.cells #[.int .i64 8, .int .i64 8, .int .i64 8, .int .i64 12, .int .i64 12, .int .i64 8, .int .i64 8] 3)).heap[V7.heap.size]? = some (.cells #[.int .i64 100, .int .i64 108, .int .i64 116, .int .i64 124, .int .i64 136, .int .i64 329, .int .i64 337] 3 (0, 0)) := blk_alloc (alloc_self _ _) _
  have p2 := alloc_self (V7.alloc (.cells #[.int .i64 100, .int .i64 108, .int .i64 116, .int .i64 124, .int .i64 136, .int .i64 329, .int .i64 337] 3)) (.cells #[.int .i64 8, .int .i64 8, .int .i64 8, .int .i64 12, .int .i64 12, .int .i64 8, .int .i64 8] 3)
  rw [show (V7.alloc (.cells #[.int .i64 100, .int .i64 108, .int .i64 116, .int .i64 124, .int .i64 136, .int .i64 329, .int .i64 337] 3)).heap.size = V7.heap.size + 1 by simp] at p2
  generalize (V7.alloc (.cells #[.int .i64 100, .int .i64 108, .int .i64 116, .int .i64 124, .int .i64 136, .int .i64 329, .int .i64 337] 3)).alloc (.cells #[.int .i64 8, .int .i64 8, .int .i64 8, .int .i64 12, .int .i64 12, .int .i64 8, .int .i64 8] 3) = V8 at *
  have hbox8 : DBox V8 w.heap.size h := ⟨blk_below HQ7.out.1.box.out hB2⟩
  have n1 : V8.cell? ⟨w.heap.size, 1, none⟩ = some (.int .i64 h.mo) := (blk_cell hbox8.out 1).trans rfl
  have n2 : V8.cell? ⟨w.heap.size, 2, none⟩ = some (.int .i64 h.ui) := (blk_cell hbox8.out 2).trans rfl
  have n3 : V8.cell? ⟨w.heap.size, 3, none⟩ = some (.int .i64 h.gi) := (blk_cell hbox8.out 3).trans rfl
  have n4 : V8.cell? ⟨w.heap.size, 4, none⟩ = some (.int .i64 h.si) := (blk_cell hbox8.out 4).trans rfl
  have n5 : V8.cell? ⟨w.heap.size, 5, none⟩ = some (.int .i64 h.ti) := (blk_cell hbox8.out 5).trans rfl
  have n10 : V8.cell? ⟨w.heap.size, 10, none⟩ = some (.int .i64 h.ma) := (blk_cell hbox8.out 10).trans rfl
  have n11 : V8.cell? ⟨w.heap.size, 11, none⟩ = some (.int .i64 h.mi) := (blk_cell hbox8.out 11).trans rfl
  have HQ8 : Aside0 (Row0 V8 gB lT ∧ Below w.heap.size w V8 ∧ lT.length = 512) := ⟨HQ7.out.1.row.below hB2, HQ7.out.2.1.trans (hB2.mono HQ7.out.2.1.size), HQ7.out.2.2⟩
  have HP := Aside0.mk (And.intro p1 p2)
  have HgP : Aside0 (V7.heap.size ≠ gB ∧ V7.heap.size + 1 ≠ gB) := ⟨by have := blk_lt HQ7.out.1.row.out; omega⟩
  clear hB1 hB2 p1 p2 hbox8 HQ7
  generalize V7.heap.size = gP at *
  go_wp2_with fail
  have hB9 := below_alloc (Below.refl V8.heap.size V8) (.cells #[.int .i64 h.mo, .int .i64 h.ui, .int .i64 h.gi, .int .i64 h.si, .int .i64 h.ti, .int .i64 h.ma, .int .i64 h.mi] 3)
  have p3 := alloc_self V8 (.cells #[.int .i64 h.mo, .int .i64 h.ui, .int .i64 h.gi, .int .i64 h.si, .int .i64 h.ti, .int .i64 h.ma, .int .i64 h.mi] 3)
  generalize V8.alloc (.cells #[.int .i64 h.mo, .int .i64 h.ui, .int .i64 h.gi, .int .i64 h.si, .int .i64 h.ti, .int .i64 h.ma, .int .i64 h.mi] 3) = V9 at *
  have HQ9 : Aside0 (Row0 V9 gB lT ∧ Below w.heap.size w V9 ∧ lT.length = 512) := ⟨HQ8.out.1.below hB9, HQ8.out.2.1.trans (hB9.mono HQ8.out.2.1.size), HQ8.out.2.2⟩
  have HP9 : Aside0 (∀ wr, V9.grownBy wr (some gB) → ∀ i, i < 7 → wr.cell? ⟨gP, i, none⟩ = some (.int .i64 (nAt i)) ∧ wr.cell? ⟨gP + 1, i, none⟩ = some (.int .i64 (nSz i)) ∧ wr.cell? ⟨V8.heap.size, i, none⟩ = some (.int .i64 (h.num i))) := ⟨fun wr hg i hi => by
    have k1 := blk_grown (blk_below HP.out.1 hB9) hg (by simpa using HgP.out.1)
    have k2 := blk_grown (blk_below HP.out.2 hB9) hg (by simpa using HgP.out.2)
    have k3 := blk_grown p3 hg (by have := blk_lt HQ8.out.1.out; simp; omega)
    rw [blk_cell k1, blk_cell k2, blk_cell k3]
    match i, hi with
    | 0, _ => exact ⟨rfl, rfl, rfl⟩
    | 1, _ => exact ⟨rfl, rfl, rfl⟩
    | 2, _ => exact ⟨rfl, rfl, rfl⟩
    | 3, _ => exact ⟨rfl, rfl, rfl⟩
    | 4, _ => exact ⟨rfl, rfl, rfl⟩
    | 5, _ => exact ⟨rfl, rfl, rfl⟩
    | 6, _ => exact ⟨rfl, rfl, rfl⟩⟩
  clear hB9 p3 n1 n2 n3 n4 n5 n10 n11 HQ8 HP HgP
  generalize V8.heap.size = gX at *
  go_loopg [109] 7 (fun kq v109 wr => ∃ i : Nat, i ≤ 7 ∧ v109 = .int .i64 i ∧ Aside0 (kq = 7 - i) ∧ Aside0 (∀ j, j < i → fitsN h j = true) ∧ Aside0 (Row0 wr gB (putN h i lT)) ∧ Aside0 (V9.grownBy wr (some gB)))
  case atStart => exact ⟨0, by omega, rfl, ⟨rfl⟩, ⟨fun j hj => by omega⟩, ⟨HQ9.out.1⟩, ⟨grown_refl _ _⟩⟩
  case round =>
    obtain ⟨i, hi, rfl, HK, HJ, HR, HG⟩ := hrel
    by_cases hlt : i < 7
    · have hlt' : (i : Int) < 7 := by omega
      obtain ⟨n0, n1, n2⟩ := HP9.out wr HG.out i hlt
      have hTB := nB i
      have hPc := dput_calls (nSz i) (h.num i) (by have : nSz i ≤ 12 := nSz_le i; omega) (HS.out.num i).1 (HS.out.num i).2 wr
      have hLen := putN_len h lT HQ9.out.2.2 i
      obtain ⟨b, hb⟩ : ∃ b, fit (nSz i) (h.num i) = b := ⟨_, rfl⟩
      have HBt : Aside0 (fitsN h i = b) := ⟨hb⟩
      rw [hb] at hPc
      cases b with
      | false =>
        have HPc := Aside0.mk hPc
        clear hPc hTB hLen hb
        go_wp2_with (go_at_call 33; refine HPc.out.mono ?_; rintro e w2 ⟨⟨v0, rfl, _⟩, hb2⟩; replace hb2 := Aside0.mk hb2)
        refine HEnd.out.1 _ ?_ ?_
        · cases hA : (List.range 7).all (fitsN h) with
          | false => rfl
          | true =>
            have := List.all_eq_true.1 hA i (List.mem_range.2 hlt)
            rw [HBt.out] at this
            cases this
        · have b1 := below_grown HQ9.out.2.1 HG.out HQ9.out.2.1.size HgB.out
          exact b1.trans (hb2.out.mono b1.size)
      | true =>
        have HPc := Aside0.mk hPc
        have hpl := putB_length (nSz i) (h.num i) hTB.2.2.2
        have HX : Aside0 (∀ w2 A0 c0, Below wr.heap.size wr w2 → (Kd.int .u8).C w2 A0 (nSz i) (putB (nSz i) (h.num i)) → ∃ W', (∀ ty, (Builtin.copy_ #[26, 26] ty #[.slice (some ⟨gB, nAt i, none⟩) (512 - nAt i) (512 - nAt i), .slice A0 (nSz i) c0]).run Tryd.prog w2 = .ok (.int .i64 (nSz i)) W') ∧ Row0 W' gB (putN h (i + 1) lT) ∧ V9.grownBy W' (some gB) ∧ w2.cell? ⟨gP, i, none⟩ = some (.int .i64 (nAt i))) := ⟨fun w2 A0 c0 hb hC => by
          obtain ⟨W', k1, k2, k3⟩ := copy_row w2 gB (nAt i) (512 - nAt i) (512 - nAt i) (nSz i) c0 A0 _ _ (HR.out.below hb) hpl hC (by omega) hTB.2.2.2 (by omega)
          have hg2 := grown_trans HG.out (grown_below hb (some gB))
          exact ⟨W', k1, k2, grown_trans hg2 k3, (HP9.out w2 hg2 i hlt).1⟩⟩
        have hsl := slice_at gB (nAt i) (512 - nAt i) hTB.2.1 rfl
        clear hPc hTB hLen hb
        go_wp2_with (go_at_call 33; refine HPc.out.mono ?_; rintro e w2 ⟨⟨v0, rfl, hv0⟩, hb2⟩; obtain ⟨A0, c0, rfl, _, hR0⟩ := Kd.R_reads (hv0 (by trivial)); rw [hpl] at hR0; obtain ⟨W3, k1, k2, k3, k4⟩ := HX.out w2 A0 c0 hb2 hR0; have HK2 := Aside0.mk (And.intro k2 k3); clear hR0 hb2 hv0 k2 k3)
        go_roundg (7 - (i + 1))
        case measure => have := HK.out; omega
        case rel => exact ⟨i + 1, by omega, by go_num, ⟨rfl⟩, ⟨fun j hj => by
          by_cases e : j = i
          · rw [e]; exact HBt.out
          · exact HJ.out j (by omega)⟩, ⟨HK2.out.1⟩, ⟨HK2.out.2⟩⟩
    · have hlt' : ¬ (i : Int) < 7 := by omega
      obtain rfl : i = 7 := by omega
      have hall : (List.range 7).all (fitsN h) = true := List.all_eq_true.2 fun j hj => HJ.out j (List.mem_range.1 hj)
      have hlen := putN_len h lT HQ9.out.2.2 7
      have hby := byte_N h lT (by rw [HlT.out]; exact docT_byte h HS.out) 7
      have hHead : docB h = (patch (putN h 7 lT) 148 (putB 7 (sumH (putN h 7 lT)))).set 155 32 := by unfold docB; rw [← HlT.out]
      have HHead := Aside0.mk hHead
      have HAll := Aside0.mk hall
      have hsb := sumTo_bd hby 512
      have hsf := sum_fit (sumH (putN h 7 lT)) hsb.1 (by have := hsb.2; unfold sumH; omega)
      have hsb2 : -9223372036854775808 ≤ sumH (putN h 7 lT) ∧ sumH (putN h 7 lT) ≤ 9223372036854775807 := by unfold sumH; omega
      have HSm := Aside0.mk (dsum_calls wr gB _ HR.out.row hlen hby)
      have HP7 : Aside0 (∀ w, Calls Tryd.prog 33 #[.int .i64 7, .int .i64 (sumH (putN h 7 lT))] w fun e w' => (∃ v0 : Value, e = .returned (.tuple #[v0, .int .i64 0]) ∧ Kd.R (Kd.int .u8) 5 w' w.heap.size (fun _ => True) v0 (putB 7 (sumH (putN h 7 lT)))) ∧ Below w.heap.size w w') := ⟨fun w => by
        refine (dput_calls 7 _ (by decide) hsb2.1 hsb2.2 w).mono ?_
        rw [hsf]
        rintro e w' ⟨⟨v0, he, hR⟩, hb⟩
        exact ⟨⟨v0, he, hR rfl⟩, hb⟩⟩
      have HX : Aside0 (∀ n w2 A0 c0, Below (wr.drewN n).heap.size (wr.drewN n) w2 → (Kd.int .u8).C w2 A0 7 (putB 7 (sumH (putN h 7 lT))) → ∃ W', (∀ ty, (Builtin.copy_ #[26, 26] ty #[.slice (some ⟨gB, 148, none⟩) 364 364, .slice A0 7 c0]).run Tryd.prog w2 = .ok (.int .i64 7) W') ∧ W'.cell? ⟨gB, 155, none⟩ = some (.int .u8 ((patch (putN h 7 lT) 148 (putB 7 (sumH (putN h 7 lT)))).getD 155 0)) ∧ W'.frozen? ⟨gB, 155, none⟩ = false ∧ Aside0 (Row (W'.setCell ⟨gB, 155, none⟩ (.int .u8 32)) gB (docB h) ∧ Below w.heap.size w (W'.setCell ⟨gB, 155, none⟩ (.int .u8 32)))) := ⟨fun n w2 A0 c0 hb hC => by
        have hb' : Below wr.heap.size wr w2 := (show Below wr.heap.size wr (wr.drewN n) from ⟨rfl, rfl, rfl, Nat.le_refl _, fun _ _ => rfl⟩).trans hb
        have hp7 := putB_length 7 (sumH (putN h 7 lT)) (by decide)
        obtain ⟨W', k1, k2, k3⟩ := copy_row w2 gB 148 364 364 7 c0 A0 _ _ (HR.out.below hb') hp7 hC (by decide) (by decide) (by omega)
        have hl2 : (patch (putN h 7 lT) 148 (putB 7 (sumH (putN h 7 lT)))).length = 512 := by rw [patch_length (by rw [hp7, hlen]; decide), hlen]
        refine ⟨W', k1, k2.row.cell 155 (by omega), k2.row.frozen 155 (by omega), ⟨?_, ?_⟩⟩
        · rw [hHead]; exact k2.row.set 155 32
        · have b1 := below_grown HQ9.out.2.1 HG.out HQ9.out.2.1.size HgB.out
          have b2 := b1.trans (hb'.mono b1.size)
          exact (below_grown b2 k3 b2.size HgB.out).setCell HgB.out _⟩
      have hp7 := putB_length 7 (sumH (putN h 7 lT)) (by decide)
      have hsl := slice_at gB 148 364 (by decide) rfl
      clear hall hlen hby hHead hsb hsf hsb2 hlt hi
      generalize sumH (putN h 7 lT) = sm at *
      go_wp2_with (first
        | (go_at_call 20; (with_reducible refine HSm.out.mono ?_); rintro e w' ⟨rfl, ⟨nd, rfl⟩⟩)
        | (go_at_call 33; (with_reducible refine (HP7.out _).mono ?_); rintro e w2 ⟨⟨v0, rfl, hv0⟩, hb2⟩; obtain ⟨A0, c0, rfl, _, hR0⟩ := Kd.R_reads hv0; rw [hp7] at hR0; obtain ⟨W3, k1, k2, k3, k4⟩ := HX.out _ w2 A0 c0 hb2 hR0; clear hR0 hb2 hv0))
      exact HEnd.out.2 _ gB HAll.out k4.out.1 k4.out.2
end Go.Proofs.YtiioiikcjaiajaaDoor.My
