/- MyDocCodes, MyDocC, MyDocD, MyNumE, MyHuffA, MyTakeHP, MyShort, MyWriter, MyBitsP, MyPut, MyWput, MyClone, MyPeek, MyReader, MyNewR, MyRevP, MyTakeW, MyBackP, MyWtext, MyRev, MyCode, MyPutW, MyNum, MyW6, MyNone, MyBackL: laid into one text by merge.py. -/
import Derived.Test.YtlgpmpnobcdogaaPHuffCodesx0
import Derived.Test.YtlgpmpnobcdogaaPHuffCodesx2
import Derived.Test.YtlgpmpnobcdogaaMyAllA
import Derived.Lib.RabinKarpLaws
import Derived.Deep.RegionLaw
import Derived.RegionTactic
import Derived.Laws.Rows
import Derived.BigQuiet
import Derived.Laws.Bits64
import Derived.Test.YtlgpmpnobcdogaaMyLen32

-- Cut by cutprint.py out of what the kit's print wrote for this seat.
namespace Go.Proofs.Ytlgpmpnobcdogaa.MyDocCodes
open Go.Proofs.Ytlgpmpnobcdogaa.PHuffCodes
open Go.RowKit Go.Proofs.YtlgpmpnobcdogaaW.PrintWords Go.Proofs.YtlgpmpnobcdogaaW.PrintLast Go.Proofs.YtlgpmpnobcdogaaW.PrintMore
attribute [local go_sem] max2_int min2_int max_two min_two max_three min_three max_four min_four   -- for this text's walks alone
set_option linter.unusedVariables false
set_option linter.unusedSimpArgs false

/-! ### crossdockref07_row: function 33 -/
def crossdockref07_row.l0 : Nat → Int → ByteArray → Int → Option (ByteArray)
  | 0, _, _, _ => none
  | k + 1, x0, x5, x6 => if x6 ≥ 0 then (if 0 ≤ (IntKind.u64.wrap (x6)) then (if (Int.tmod (shr .i64 x0 (IntKind.u64.wrap (x6))) 2) = 1 then (if x5.size + 1 ≤ 9223372036854775807 then (crossdockref07_row.l0 k x0 (x5 ++ (⟨#[49]⟩ : ByteArray)) (wrap64 (x6 - 1))) else (none)) else (if x5.size + 1 ≤ 9223372036854775807 then (crossdockref07_row.l0 k x0 (x5 ++ (⟨#[48]⟩ : ByteArray)) (wrap64 (x6 - 1))) else (none))) else (none)) else (some x5)
def crossdockref07_row.f (k : Nat) (a0 : Int) (a1 : Int) : Option (ByteArray) := crossdockref07_row.l0 k a0 (⟨#[]⟩ : ByteArray) (wrap64 (a1 - 1))
theorem crossdockref07_row.mono_l : ∀ k, (∀ y0 y1 y2, LeO (crossdockref07_row.l0 k y0 y1 y2) (crossdockref07_row.l0 (k + 1) y0 y1 y2))
  | 0 => fun _ _ _ r h => by simp [crossdockref07_row.l0] at h
  | k + 1 => by
    have ih0 := crossdockref07_row.mono_l k
    · intro y0 y1 y2
      unfold crossdockref07_row.l0
      repeat' first
      | (with_reducible exact ih0 _ _ _)
      | (with_reducible exact LeO.refl _)
      | (with_reducible exact LeO.none _)
      | (with_reducible refine LeO.ite ?_ ?_)
      | (with_reducible refine LeO.bind ?_ (fun _ => ?_))
      | exact ih0 _ _ _
      | exact LeO.none _
      | refine LeO.ite ?_ ?_
      | refine LeO.bind ?_ (fun _ => ?_)
theorem crossdockref07_row.mono : ∀ a0 a1 k, LeO (crossdockref07_row.f k a0 a1) (crossdockref07_row.f (k + 1) a0 a1) := by
  intro a0 a1 k
  have ih0 := crossdockref07_row.mono_l k
  unfold crossdockref07_row.f
  repeat' first
      | (with_reducible exact ih0 _ _ _)
      | (with_reducible exact LeO.refl _)
      | (with_reducible exact LeO.none _)
      | (with_reducible refine LeO.ite ?_ ?_)
      | (with_reducible refine LeO.bind ?_ (fun _ => ?_))
      | exact ih0 _ _ _
      | exact LeO.none _
      | refine LeO.ite ?_ ?_
      | refine LeO.bind ?_ (fun _ => ?_)
set_option maxHeartbeats 8000000 in
set_option maxRecDepth 100000 in
theorem crossdockref07_row.calls (k : Nat) (a0 : Int) (a1 : Int) (r : ByteArray) (w : World) (h : crossdockref07_row.f k a0 a1 = some r) :
    Calls Try.prog 33 #[.int .i64 a0, .int .i64 a1] w fun e w' => e = .returned (.string r) ∧ Drawn0 w w' := by
  have H : (crossdockref07_row.l0 k a0 (⟨#[]⟩ : ByteArray) (wrap64 (a1 - 1))) = some r := h
  clear h
  have H' := Aside0.mk H
  clear H
  go_enter Try.func33, Try.ntmps33
  go_wp2
  go_loopg [5, 6] k (fun kq v5 v6 w' => ∃ (x5_1 : ByteArray) (x6_1 : Int), v5 = .string x5_1 ∧ v6 = .int .i64 x6_1 ∧ Aside0 (crossdockref07_row.l0 kq a0 x5_1 x6_1 = some r) ∧ Aside0 (kq ≤ k) ∧ Drawn0 w w')
  case atStart => exact ⟨((⟨#[]⟩ : ByteArray)), (wrap64 (a1 - 1)), (by first | rfl | (simp; done) | (simp [*]; done)), (by first | rfl | (simp; done) | (simp [*]; done)), H', ⟨Nat.le_refl _⟩, by repeat (first | exact Drawn0.refl _ | apply Drawn0.step)⟩
  case round =>
    clear H'
    try clear p2
    obtain ⟨x5_1, x6_1, rfl, rfl, HA, HK1, ⟨m1, rfl⟩⟩ := hrel
    cases gk with
    | zero => exact absurd HA.out (by simp [crossdockref07_row.l0])
    | succ k1 =>
      have H := HA.out
      clear HA
      simp only [crossdockref07_row.l0] at H
      by_cases c3 : x6_1 ≥ 0
      · rw [if_pos c3] at H
        have c3b0 : decide (0 ≤ x6_1) = true := decide_eq_true c3
        clear c3
        obtain ⟨ji4, hji4⟩ : ∃ j_ : Int, (IntKind.u64.wrap (x6_1)) = j_ := ⟨_, rfl⟩
        replace H : (if 0 ≤ (ji4) then (if (Int.tmod (shr .i64 a0 (ji4)) 2) = 1 then (if x5_1.size + 1 ≤ 9223372036854775807 then (crossdockref07_row.l0 k1 a0 (x5_1 ++ (⟨#[49]⟩ : ByteArray)) (wrap64 (x6_1 - 1))) else (none)) else (if x5_1.size + 1 ≤ 9223372036854775807 then (crossdockref07_row.l0 k1 a0 (x5_1 ++ (⟨#[48]⟩ : ByteArray)) (wrap64 (x6_1 - 1))) else (none))) else (none)) = some r := by first | (rw [hji4] at H; exact H) | (simp only [hji4] at H ⊢; exact H)
        by_cases c5 : 0 ≤ (ji4)
        · rw [if_pos c5] at H
          have c5b0 := eq_true c5
          have c5b1 : decide (0 ≤ (ji4)) = true := decide_eq_true c5
          clear c5
          obtain ⟨ji6, hji6⟩ : ∃ j_ : Int, (shr .i64 a0 (ji4)) = j_ := ⟨_, rfl⟩
          replace H : (if (Int.tmod (ji6) 2) = 1 then (if x5_1.size + 1 ≤ 9223372036854775807 then (crossdockref07_row.l0 k1 a0 (x5_1 ++ (⟨#[49]⟩ : ByteArray)) (wrap64 (x6_1 - 1))) else (none)) else (if x5_1.size + 1 ≤ 9223372036854775807 then (crossdockref07_row.l0 k1 a0 (x5_1 ++ (⟨#[48]⟩ : ByteArray)) (wrap64 (x6_1 - 1))) else (none))) = some r := by first | (rw [hji6] at H; exact H) | (simp only [hji6] at H ⊢; exact H)
          have hji6_ : (a0 / 2 ^ min (ji4).toNat 64) = ji6 := hji6
          have hji6z : (ji4) ≤ 64 → (a0 / 2 ^ (ji4).toNat) = ji6 := shr_small hji6
          by_cases c7 : (Int.tmod (ji6) 2) = 1
          · rw [if_pos c7] at H
            have c7b0 : ((Int.tmod (ji6) 2) == 1) = true := beq_iff_eq.mpr c7
            have c7b1 : ((Int.tmod (ji6) 2) != 1) = false := bne_eq_false_iff_eq.mpr c7
            clear c7
            by_cases c8 : x5_1.size + 1 ≤ 9223372036854775807
            · rw [if_pos c8] at H
              have c8b0 := eq_true c8
              have c8b1 : decide (x5_1.size + 1 ≤ 9223372036854775807) = true := decide_eq_true c8
              try have c8b2 : (9223372036854775807 < x5_1.size + 1) = False := eq_false (Nat.not_lt.2 c8)
              have H' := Aside0.mk H
              clear H
              go_wp2
              go_roundg k1
              case measure => have := HK1.out; omega
              case rel => exact ⟨(x5_1 ++ (⟨#[49]⟩ : ByteArray)), (wrap64 (x6_1 - 1)), (by first | rfl | (simp; done) | (simp [*]; done)), (by first | rfl | (simp; done) | (simp [*]; done)), H', ⟨by have := HK1.out; omega⟩, by repeat (first | exact Drawn0.refl _ | apply Drawn0.step)⟩
            · rw [if_neg c8] at H
              exact absurd H (by simp)
          · rw [if_neg c7] at H
            have c7b0 : ((Int.tmod (ji6) 2) == 1) = false := beq_eq_false_iff_ne.mpr c7
            have c7b1 : ((Int.tmod (ji6) 2) != 1) = true := bne_iff_ne.mpr c7
            by_cases c9 : x5_1.size + 1 ≤ 9223372036854775807
            · rw [if_pos c9] at H
              have c9b0 := eq_true c9
              have c9b1 : decide (x5_1.size + 1 ≤ 9223372036854775807) = true := decide_eq_true c9
              try have c9b2 : (9223372036854775807 < x5_1.size + 1) = False := eq_false (Nat.not_lt.2 c9)
              have H' := Aside0.mk H
              clear H
              go_wp2
              go_roundg k1
              case measure => have := HK1.out; omega
              case rel => exact ⟨(x5_1 ++ (⟨#[48]⟩ : ByteArray)), (wrap64 (x6_1 - 1)), (by first | rfl | (simp; done) | (simp [*]; done)), (by first | rfl | (simp; done) | (simp [*]; done)), H', ⟨by have := HK1.out; omega⟩, by repeat (first | exact Drawn0.refl _ | apply Drawn0.step)⟩
            · rw [if_neg c9] at H
              exact absurd H (by simp)
        · rw [if_neg c5] at H
          exact absurd H (by simp)
      · rw [if_neg c3] at H
        have c3b0 : decide (0 ≤ x6_1) = false := decide_eq_false c3
        clear c3
        obtain rfl := Option.some.inj H
        go_wp2
        go_ret
        exact ⟨by first | rfl | (simp; done) | (simp [*]; done), by repeat (first | exact Drawn0.refl _ | apply Drawn0.step)⟩

/-! ### crossdockref07_Codes: function 9 -/
mutual
def crossdockref07_Codes.l0 : Nat → List Int → Bool → List Int → Int → Int → Option (List ByteArray × Int)
  | 0, _, _, _, _, _ => none
  | k + 1, x0, x1, x18, x19, x20 => if x20 < x19 then (if 0 ≤ x20 then (if x20 < (x18.length : Int) then (if (rd x18 x20) < 0 then (some (([] : List ByteArray), 1)) else (if (rd x18 x20) > 15 then (some (([] : List ByteArray), 1)) else (crossdockref07_Codes.l0 k x0 x1 x18 x19 (wrap64 (x20 + 1))))) else (none)) else (none)) else (if 0 ≤ (x0.length : Int) then (if ((x0.length : Int) : Int).toNat ≤ 17592186044416 then (crossdockref07_Codes.l1 k x0 x1 (List.replicate ((x0.length : Int) : Int).toNat (⟨#[]⟩ : ByteArray)) 0 0 0 0 1) else (none)) else (none))
def crossdockref07_Codes.l1 : Nat → List Int → Bool → List ByteArray → Int → Int → Int → Int → Int → Option (List ByteArray × Int)
  | 0, _, _, _, _, _, _, _, _ => none
  | k + 1, x0, x1, x8, x9, x10, x11, x12, x13 => if x13 ≤ 15 then (crossdockref07_Codes.l2 k x0 x1 x8 (wrap64 (x9 * 2)) x10 x11 x12 x13 0) else (if x10 = 32768 then (some (x8, 0)) else (if x1 = true then (if x11 = 0 then (some (x8, 0)) else (if x11 = 1 then (if x12 = 1 then (some (x8, 0)) else (some (([] : List ByteArray), 2))) else (some (([] : List ByteArray), 2)))) else (some (([] : List ByteArray), 2))))
def crossdockref07_Codes.l2 : Nat → List Int → Bool → List ByteArray → Int → Int → Int → Int → Int → Int → Option (List ByteArray × Int)
  | 0, _, _, _, _, _, _, _, _, _ => none
  | k + 1, x0, x1, x8, x9, x10, x11, x12, x13, x14 => if x14 < (x0.length : Int) then (if 0 ≤ x14 then (if (rd x0 x14) = x13 then (if 0 ≤ (IntKind.u64.wrap (x13)) then (if x9 ≥ (shl .i64 1 (IntKind.u64.wrap (x13))) then (some (([] : List ByteArray), 14)) else ((crossdockref07_row.f k x9 x13).bind fun t109 => (if x14 < (x8.length : Int) then ((some (x8.set (x14 : Int).toNat t109 : List ByteArray)).bind fun y110 => (if 0 ≤ (IntKind.u64.wrap (wrap64 (15 - x13))) then (if x13 = 1 then (crossdockref07_Codes.l2 k x0 x1 y110 (wrap64 (x9 + 1)) (wrap64 (x10 + (shl .i64 1 (IntKind.u64.wrap (wrap64 (15 - x13)))))) (wrap64 (x11 + 1)) (wrap64 (x12 + 1)) x13 (wrap64 (x14 + 1))) else (crossdockref07_Codes.l2 k x0 x1 y110 (wrap64 (x9 + 1)) (wrap64 (x10 + (shl .i64 1 (IntKind.u64.wrap (wrap64 (15 - x13)))))) (wrap64 (x11 + 1)) x12 x13 (wrap64 (x14 + 1)))) else (none))) else (none)))) else (none)) else (crossdockref07_Codes.l2 k x0 x1 x8 x9 x10 x11 x12 x13 (wrap64 (x14 + 1)))) else (none)) else (crossdockref07_Codes.l1 k x0 x1 x8 x9 x10 x11 x12 (wrap64 (x13 + 1)))
end
def crossdockref07_Codes.f (k : Nat) (l0 : List Int) (a1 : Bool) : Option (List ByteArray × Int) := if (l0.length : Int) > 320 then (some (([] : List ByteArray), 3)) else (crossdockref07_Codes.l0 k l0 a1 l0 (l0.length : Int) 0)
theorem crossdockref07_Codes.mono_l : ∀ k, (∀ y0 y1 y2 y3 y4, LeO (crossdockref07_Codes.l0 k y0 y1 y2 y3 y4) (crossdockref07_Codes.l0 (k + 1) y0 y1 y2 y3 y4)) ∧ (∀ y0 y1 y2 y3 y4 y5 y6 y7, LeO (crossdockref07_Codes.l1 k y0 y1 y2 y3 y4 y5 y6 y7) (crossdockref07_Codes.l1 (k + 1) y0 y1 y2 y3 y4 y5 y6 y7)) ∧ (∀ y0 y1 y2 y3 y4 y5 y6 y7 y8, LeO (crossdockref07_Codes.l2 k y0 y1 y2 y3 y4 y5 y6 y7 y8) (crossdockref07_Codes.l2 (k + 1) y0 y1 y2 y3 y4 y5 y6 y7 y8))
  | 0 => ⟨fun _ _ _ _ _ r h => by simp [crossdockref07_Codes.l0] at h, fun _ _ _ _ _ _ _ _ r h => by simp [crossdockref07_Codes.l1] at h, fun _ _ _ _ _ _ _ _ _ r h => by simp [crossdockref07_Codes.l2] at h⟩
  | k + 1 => by
    obtain ⟨ih0, ih1, ih2⟩ := crossdockref07_Codes.mono_l k
    refine ⟨?_, ?_, ?_⟩
    · intro y0 y1 y2 y3 y4
      unfold crossdockref07_Codes.l0
      repeat' first
      | (with_reducible exact ih0 _ _ _ _ _)
      | (with_reducible exact ih1 _ _ _ _ _ _ _ _)
      | (with_reducible exact ih2 _ _ _ _ _ _ _ _ _)
      | (with_reducible exact crossdockref07_row.mono _ _ _)
      | (with_reducible exact LeO.refl _)
      | (with_reducible exact LeO.none _)
      | (with_reducible refine LeO.ite ?_ ?_)
      | (with_reducible refine LeO.bind ?_ (fun _ => ?_))
      | exact ih0 _ _ _ _ _
      | exact ih1 _ _ _ _ _ _ _ _
      | exact ih2 _ _ _ _ _ _ _ _ _
      | exact crossdockref07_row.mono _ _ _
      | exact LeO.none _
      | refine LeO.ite ?_ ?_
      | refine LeO.bind ?_ (fun _ => ?_)
    · intro y0 y1 y2 y3 y4 y5 y6 y7
      unfold crossdockref07_Codes.l1
      repeat' first
      | (with_reducible exact ih0 _ _ _ _ _)
      | (with_reducible exact ih1 _ _ _ _ _ _ _ _)
      | (with_reducible exact ih2 _ _ _ _ _ _ _ _ _)
      | (with_reducible exact crossdockref07_row.mono _ _ _)
      | (with_reducible exact LeO.refl _)
      | (with_reducible exact LeO.none _)
      | (with_reducible refine LeO.ite ?_ ?_)
      | (with_reducible refine LeO.bind ?_ (fun _ => ?_))
      | exact ih0 _ _ _ _ _
      | exact ih1 _ _ _ _ _ _ _ _
      | exact ih2 _ _ _ _ _ _ _ _ _
      | exact crossdockref07_row.mono _ _ _
      | exact LeO.none _
      | refine LeO.ite ?_ ?_
      | refine LeO.bind ?_ (fun _ => ?_)
    · intro y0 y1 y2 y3 y4 y5 y6 y7 y8
      unfold crossdockref07_Codes.l2
      repeat' first
      | (with_reducible exact ih0 _ _ _ _ _)
      | (with_reducible exact ih1 _ _ _ _ _ _ _ _)
      | (with_reducible exact ih2 _ _ _ _ _ _ _ _ _)
      | (with_reducible exact crossdockref07_row.mono _ _ _)
      | (with_reducible exact LeO.refl _)
      | (with_reducible exact LeO.none _)
      | (with_reducible refine LeO.ite ?_ ?_)
      | (with_reducible refine LeO.bind ?_ (fun _ => ?_))
      | exact ih0 _ _ _ _ _
      | exact ih1 _ _ _ _ _ _ _ _
      | exact ih2 _ _ _ _ _ _ _ _ _
      | exact crossdockref07_row.mono _ _ _
      | exact LeO.none _
      | refine LeO.ite ?_ ?_
      | refine LeO.bind ?_ (fun _ => ?_)
theorem crossdockref07_Codes.mono : ∀ a0 a1 k, LeO (crossdockref07_Codes.f k a0 a1) (crossdockref07_Codes.f (k + 1) a0 a1) := by
  intro a0 a1 k
  obtain ⟨ih0, ih1, ih2⟩ := crossdockref07_Codes.mono_l k
  unfold crossdockref07_Codes.f
  repeat' first
      | (with_reducible exact ih0 _ _ _ _ _)
      | (with_reducible exact ih1 _ _ _ _ _ _ _ _)
      | (with_reducible exact ih2 _ _ _ _ _ _ _ _ _)
      | (with_reducible exact crossdockref07_row.mono _ _ _)
      | (with_reducible exact LeO.refl _)
      | (with_reducible exact LeO.none _)
      | (with_reducible refine LeO.ite ?_ ?_)
      | (with_reducible refine LeO.bind ?_ (fun _ => ?_))
      | exact ih0 _ _ _ _ _
      | exact ih1 _ _ _ _ _ _ _ _
      | exact ih2 _ _ _ _ _ _ _ _ _
      | exact crossdockref07_row.mono _ _ _
      | exact LeO.none _
      | refine LeO.ite ?_ ?_
      | refine LeO.bind ?_ (fun _ => ?_)
set_option maxHeartbeats 8000000 in
set_option maxRecDepth 100000 in
theorem crossdockref07_Codes.calls (k : Nat) (A0 : Option Addr) (c0 : Nat) (l0 : List Int) (a1 : Bool) (r1 : List ByteArray) (r2 : Int) (w : World) (hr0 : Kd.C (Kd.int .i64) w A0 l0.length l0) (hc0 : l0.length ≤ c0) (h : crossdockref07_Codes.f k l0 a1 = some (r1, r2)) :
    Calls Try.prog 9 #[.slice A0 l0.length c0, .bool a1] w fun e w' => ∃ v0_ : Value, e = .returned (.tuple #[v0_, .int .i64 r2]) ∧ Kd.R Kd.string 9 w' w.heap.size (fun _ => True) v0_ r1 ∧ Below w.heap.size w w' := by
  have HR0 := Aside0.mk hr0
  have HC0 := Aside0.mk hc0
  clear hr0 hc0
  have HB := Aside0.mk (Below.refl w.heap.size w)
  have H : (if (l0.length : Int) > 320 then (some (([] : List ByteArray), 3)) else (crossdockref07_Codes.l0 k l0 a1 l0 (l0.length : Int) 0)) = some (r1, r2) := h
  clear h
  by_cases c3 : (l0.length : Int) > 320
  · rw [if_pos c3] at H
    have c3b0 : decide (320 < (l0.length : Int)) = true := decide_eq_true c3
    have c3b1 : decide (320 < l0.length) = true := decide_eq_true (by omega)
    clear c3
    simp only [Option.some.injEq, Prod.mk.injEq] at H
    obtain ⟨rfl, rfl⟩ := H
    go_enter Try.func9, Try.ntmps9
    go_wp2
    go_ret2
    exact ⟨_, by first | rfl | (simp [errW_none, errW_some] <;> rfl) | (simp [*, errW_none, errW_some] <;> rfl), by first | exact Kd.R_nil _ _ _ _ _ | exact Kd.N_nil _ _ _ _ _ | exact Kd.V_nil _ _ _ _ _ | exact Kd.Q_nil _ _ _ _ _ | exact Kd.S_nil _ _ _ _ _, by repeat (first | (with_reducible first | exact HB.out | apply below_alloc | apply pw_below_drewN | apply below_drew1) | exact HB.out)⟩
  · rw [if_neg c3] at H
    have c3b0 : decide (320 < (l0.length : Int)) = false := decide_eq_false c3
    have c3b1 : decide (320 < l0.length) = false := decide_eq_false (by omega)
    clear c3
    have H' := Aside0.mk H
    clear H
    go_enter Try.func9, Try.ntmps9
    go_wp2
    go_loopg [20] k (fun kq v20 w' => ∃ (x20_1 : Int), v20 = .int .i64 x20_1 ∧ Aside0 (crossdockref07_Codes.l0 kq l0 a1 l0 (l0.length : Int) x20_1 = some (r1, r2)) ∧ Aside0 (kq ≤ k) ∧ Aside0 (Below w.heap.size w w'))
    case atStart => exact ⟨(0), (by first | rfl | (simp; done) | (simp [*]; done)), H', ⟨Nat.le_refl _⟩, ⟨by repeat (first | (with_reducible first | exact HB.out | apply below_alloc | apply pw_below_drewN | apply below_drew1) | exact HB.out)⟩⟩
    case round =>
      clear H'
      try clear p2
      try clear c3
      try clear c3b0
      try clear c3b1
      obtain ⟨x20_1, rfl, HA, HK1, HB⟩ := hrel
      cases gk with
      | zero => exact absurd HA.out (by simp [crossdockref07_Codes.l0])
      | succ k1 =>
        have H := HA.out
        clear HA
        simp only [crossdockref07_Codes.l0] at H
        by_cases c4 : x20_1 < (l0.length : Int)
        · rw [if_pos c4] at H
          have c4b0 : decide (x20_1 < (l0.length : Int)) = true := decide_eq_true c4
          clear c4
          by_cases c5 : 0 ≤ x20_1
          · rw [if_pos c5] at H
            have c5b0 : decide (0 ≤ x20_1) = true := decide_eq_true c5
            clear c5
            by_cases c6 : x20_1 < (l0.length : Int)
            · rw [if_pos c6] at H
              have c6b0 : decide (x20_1 < (l0.length : Int)) = true := decide_eq_true c6
              clear c6
              by_cases c7 : (rd l0 x20_1) < 0
              · rw [if_pos c7] at H
                have c7b0 : decide ((rd l0 x20_1) < 0) = true := decide_eq_true c7
                clear c7
                simp only [Option.some.injEq, Prod.mk.injEq] at H
                obtain ⟨rfl, rfl⟩ := H
                have p104 : 0 ≤ (x20_1 : Int) := of_decide_eq_true (by first | (with_reducible assumption) | assumption)
                have q104 : x20_1 < (l0.length : Int) := of_decide_eq_true (by first | (with_reducible assumption) | assumption)
                obtain ⟨ad104, e104, hx104_0⟩ := Kd.at_int HR0.out x20_1 p104 q104
                cases e104
                replace hx104_0 := (HB.out.cell (World.block_lt_of_cell? w _ hx104_0)).trans hx104_0
                replace p104 := eq_true p104
                replace q104 := eq_true q104
                go_wp2
                go_ret2
                exact ⟨_, by first | rfl | (simp [errW_none, errW_some] <;> rfl) | (simp [*, errW_none, errW_some] <;> rfl), by first | exact Kd.R_nil _ _ _ _ _ | exact Kd.N_nil _ _ _ _ _ | exact Kd.V_nil _ _ _ _ _ | exact Kd.Q_nil _ _ _ _ _ | exact Kd.S_nil _ _ _ _ _, by repeat (first | (with_reducible first | exact HB.out | apply below_alloc | apply pw_below_drewN | apply below_drew1) | exact HB.out)⟩
              · rw [if_neg c7] at H
                have c7b0 : decide ((rd l0 x20_1) < 0) = false := decide_eq_false c7
                clear c7
                by_cases c8 : (rd l0 x20_1) > 15
                · rw [if_pos c8] at H
                  have c8b0 : decide (15 < (rd l0 x20_1)) = true := decide_eq_true c8
                  clear c8
                  simp only [Option.some.injEq, Prod.mk.injEq] at H
                  obtain ⟨rfl, rfl⟩ := H
                  have p104 : 0 ≤ (x20_1 : Int) := of_decide_eq_true (by first | (with_reducible assumption) | assumption)
                  have q104 : x20_1 < (l0.length : Int) := of_decide_eq_true (by first | (with_reducible assumption) | assumption)
                  obtain ⟨ad104, e104, hx104_0⟩ := Kd.at_int HR0.out x20_1 p104 q104
                  cases e104
                  replace hx104_0 := (HB.out.cell (World.block_lt_of_cell? w _ hx104_0)).trans hx104_0
                  replace p104 := eq_true p104
                  replace q104 := eq_true q104
                  go_wp2
                  go_ret2
                  exact ⟨_, by first | rfl | (simp [errW_none, errW_some] <;> rfl) | (simp [*, errW_none, errW_some] <;> rfl), by first | exact Kd.R_nil _ _ _ _ _ | exact Kd.N_nil _ _ _ _ _ | exact Kd.V_nil _ _ _ _ _ | exact Kd.Q_nil _ _ _ _ _ | exact Kd.S_nil _ _ _ _ _, by repeat (first | (with_reducible first | exact HB.out | apply below_alloc | apply pw_below_drewN | apply below_drew1) | exact HB.out)⟩
                · rw [if_neg c8] at H
                  have c8b0 : decide (15 < (rd l0 x20_1)) = false := decide_eq_false c8
                  clear c8
                  have H' := Aside0.mk H
                  clear H
                  have p104 : 0 ≤ (x20_1 : Int) := of_decide_eq_true (by first | (with_reducible assumption) | assumption)
                  have q104 : x20_1 < (l0.length : Int) := of_decide_eq_true (by first | (with_reducible assumption) | assumption)
                  obtain ⟨ad104, e104, hx104_0⟩ := Kd.at_int HR0.out x20_1 p104 q104
                  cases e104
                  replace hx104_0 := (HB.out.cell (World.block_lt_of_cell? w _ hx104_0)).trans hx104_0
                  replace p104 := eq_true p104
                  replace q104 := eq_true q104
                  go_wp2
                  go_roundg k1
                  case measure => have := HK1.out; omega
                  case rel => exact ⟨(wrap64 (x20_1 + 1)), (by first | rfl | (simp; done) | (simp [*]; done)), H', ⟨by have := HK1.out; omega⟩, ⟨by repeat (first | (with_reducible first | exact HB.out | apply below_alloc | apply pw_below_drewN | apply below_drew1) | exact HB.out)⟩⟩
            · rw [if_neg c6] at H
              exact absurd H (by simp)
          · rw [if_neg c5] at H
            exact absurd H (by simp)
        · rw [if_neg c4] at H
          have c4b0 : decide (x20_1 < (l0.length : Int)) = false := decide_eq_false c4
          clear c4
          by_cases c9 : 0 ≤ (l0.length : Int)
          · rw [if_pos c9] at H
            have c9b0 := eq_true c9
            have c9b1 : decide (0 ≤ (l0.length : Int)) = true := decide_eq_true c9
            clear c9
            by_cases c10 : ((l0.length : Int) : Int).toNat ≤ 17592186044416
            · rw [if_pos c10] at H
              have c10b0 := eq_true c10
              have c10b1 : decide (((l0.length : Int) : Int).toNat ≤ 17592186044416) = true := decide_eq_true c10
              clear c10
              obtain ⟨y105, hy105⟩ : ∃ y_ : List ByteArray, y_ = (List.replicate ((l0.length : Int) : Int).toNat (⟨#[]⟩ : ByteArray)) := ⟨_, rfl⟩
              replace H : (crossdockref07_Codes.l1 k1 l0 a1 y105 0 0 0 0 1) = some (r1, r2) := by first | (rw [hy105]; with_reducible exact H) | (have H2_ := (Option.bind_some _ _).symm.trans H; rw [hy105]; with_reducible exact H2_) | (have H2_ := (Option.bind_some _ _).symm.trans H; with_reducible exact H2_) | with_reducible exact H | (rw [hy105]; exact H) | exact H
              have Ny105 := Aside0.mk hy105
              clear hy105
              have H' := Aside0.mk H
              clear H
              go_wp2_with (first | ((with_reducible refine gate_dst (N := 33) rfl ?_); refine Kd.R_make Kd.string _ 9 rfl (N := 33) rfl 29 _ _ rfl (l0.length : Int) rfl rfl Try.underlying29 (.string ⟨#[]⟩) 16 info9 rfl (by decide) (by omega) (⟨#[]⟩ : ByteArray) (ok := fun _ => True) (okp := fun _ => True) rfl (fun _ hk => hk) trivial (of_decide_eq_true (by first | (with_reducible assumption) | assumption)) (Nat.le_trans (Nat.mul_le_mul_right _ (of_decide_eq_true (by first | (with_reducible assumption) | assumption) : (l0.length : Int).toNat ≤ 17592186044416)) (by omega)) (Below.refl _ _) (Nat.le_refl _) ?_; intro v106 w11 ho12 hb hg_ hnew_; clear hg_ hnew_; (first | rw [← Ny105.out] at ho12 | (simp only [Int.reduceToNat] at ho12; rw [← Ny105.out] at ho12)); have n0_ := Aside0.mk (Kd.R_lower ho12 (below_size (by repeat (first | (with_reducible first | exact HB.out | apply below_alloc | apply pw_below_drewN | apply below_drew1) | exact HB.out)))); have n1_ := Aside0.mk (below_step (by repeat (first | (with_reducible first | exact HB.out | apply below_alloc | apply pw_below_drewN | apply below_drew1) | exact HB.out)) hb); clear HB; have HO107 := n0_; have HB := n1_; clear n0_ n1_; clear hb ho12))
              go_loopg [9, 10, 11, 12, 13] k1 (fun kq v9 v10 v11 v12 v13 w' => ∃ (x8_2 : List ByteArray) (x9_2 : Int) (x10_2 : Int) (x11_2 : Int) (x12_2 : Int) (x13_2 : Int), v9 = .int .i64 x9_2 ∧ v10 = .int .i64 x10_2 ∧ v11 = .int .i64 x11_2 ∧ v12 = .int .i64 x12_2 ∧ v13 = .int .i64 x13_2 ∧ Aside0 (crossdockref07_Codes.l1 kq l0 a1 x8_2 x9_2 x10_2 x11_2 x12_2 x13_2 = some (r1, r2)) ∧ Aside0 (kq ≤ k1) ∧ Aside0 (Kd.R Kd.string 9 w' w.heap.size (fun _ => True) v106 x8_2) ∧ Aside0 (Below w.heap.size w w'))
              case atStart => exact ⟨(y105), (0), (0), (0), (0), (1), (by first | rfl | (simp; done) | (simp [*]; done)), (by first | rfl | (simp; done) | (simp [*]; done)), (by first | rfl | (simp; done) | (simp [*]; done)), (by first | rfl | (simp; done) | (simp [*]; done)), (by first | rfl | (simp; done) | (simp [*]; done)), H', ⟨Nat.le_refl _⟩, ⟨by (with_reducible repeat (first | apply Kd.R_alloc | apply Kd.R_drewN | apply Kd.R_drew)); exact HO107.out⟩, ⟨by repeat (first | (with_reducible first | exact HB.out | apply below_alloc | apply pw_below_drewN | apply below_drew1) | exact HB.out)⟩⟩
              case round =>
                clear H'
                try clear c1
                try clear p1
                try clear q1
                try clear hx1
                try clear p2
                try clear c3
                try clear c3b0
                try clear c3b1
                try clear c4
                try clear c4b0
                try clear c5
                try clear c5b0
                try clear c6
                try clear c6b0
                try clear p6
                try clear c7
                try clear c7b0
                try clear c8
                try clear c8b0
                try clear c9
                try clear c9b0
                try clear c9b1
                try clear c10
                try clear c10b0
                try clear c10b1
                try clear p10
                try clear q10
                try clear hx10
                try clear hx104_0
                try clear p104
                try clear p2
                try clear q104
                obtain ⟨x8_2, x9_2, x10_2, x11_2, x12_2, x13_2, rfl, rfl, rfl, rfl, rfl, HA, HK2, HO_8, HB⟩ := hrel
                cases gk with
                | zero => exact absurd HA.out (by simp [crossdockref07_Codes.l1])
                | succ k2 =>
                  have H := HA.out
                  clear HA
                  simp only [crossdockref07_Codes.l1] at H
                  by_cases c13 : x13_2 ≤ 15
                  · rw [if_pos c13] at H
                    have c13b0 : decide (x13_2 ≤ 15) = true := decide_eq_true c13
                    clear c13
                    have H' := Aside0.mk H
                    clear H
                    go_wp2
                    go_loopg [9, 10, 11, 12, 14] k2 (fun kq v9 v10 v11 v12 v14 w' => ∃ (x8_3 : List ByteArray) (x9_3 : Int) (x10_3 : Int) (x11_3 : Int) (x12_3 : Int) (x14_3 : Int), v9 = .int .i64 x9_3 ∧ v10 = .int .i64 x10_3 ∧ v11 = .int .i64 x11_3 ∧ v12 = .int .i64 x12_3 ∧ v14 = .int .i64 x14_3 ∧ Aside0 (crossdockref07_Codes.l2 kq l0 a1 x8_3 x9_3 x10_3 x11_3 x12_3 x13_2 x14_3 = some (r1, r2)) ∧ Aside0 (kq ≤ k2) ∧ Aside0 (Kd.R Kd.string 9 w' w.heap.size (fun _ => True) v106 x8_3) ∧ Aside0 (Below w.heap.size w w'))
                    case atStart => exact ⟨(x8_2), (wrap64 (x9_2 * 2)), (x10_2), (x11_2), (x12_2), (0), (by first | rfl | (simp; done) | (simp [*]; done)), (by first | rfl | (simp; done) | (simp [*]; done)), (by first | rfl | (simp; done) | (simp [*]; done)), (by first | rfl | (simp; done) | (simp [*]; done)), (by first | rfl | (simp; done) | (simp [*]; done)), H', ⟨Nat.le_refl _⟩, ⟨by (with_reducible repeat (first | apply Kd.R_alloc | apply Kd.R_drewN | apply Kd.R_drew)); exact HO_8.out⟩, ⟨by repeat (first | (with_reducible first | exact HB.out | apply below_alloc | apply pw_below_drewN | apply below_drew1) | exact HB.out)⟩⟩
                    case round =>
                      clear H'
                      try clear c1
                      try clear p1
                      try clear q1
                      try clear hx1
                      try clear p2
                      try clear c3
                      try clear c3b0
                      try clear c3b1
                      try clear c4
                      try clear c4b0
                      try clear c5
                      try clear c5b0
                      try clear c6
                      try clear c6b0
                      try clear p6
                      try clear c7
                      try clear c7b0
                      try clear c8
                      try clear c8b0
                      try clear c9
                      try clear c9b0
                      try clear c9b1
                      try clear c10
                      try clear c10b0
                      try clear c10b1
                      try clear p10
                      try clear q10
                      try clear hx10
                      try clear c13
                      try clear c13b0
                      try clear hx104_0
                      try clear p1
                      try clear p10
                      try clear p104
                      try clear p2
                      try clear p6
                      try clear q1
                      try clear q10
                      try clear q104
                      obtain ⟨x8_3, x9_3, x10_3, x11_3, x12_3, x14_3, rfl, rfl, rfl, rfl, rfl, HA, HK3, HO_8, HB⟩ := hrel
                      cases gk with
                      | zero => exact absurd HA.out (by simp [crossdockref07_Codes.l2])
                      | succ k3 =>
                        have H := HA.out
                        clear HA
                        simp only [crossdockref07_Codes.l2] at H
                        by_cases c14 : x14_3 < (l0.length : Int)
                        · rw [if_pos c14] at H
                          have c14b0 : decide (x14_3 < (l0.length : Int)) = true := decide_eq_true c14
                          clear c14
                          by_cases c15 : 0 ≤ x14_3
                          · rw [if_pos c15] at H
                            have c15b0 : decide (0 ≤ x14_3) = true := decide_eq_true c15
                            clear c15
                            by_cases c16 : (rd l0 x14_3) = x13_2
                            · rw [if_pos c16] at H
                              have c16b0 : ((rd l0 x14_3) == x13_2) = true := beq_iff_eq.mpr c16
                              have c16b1 : ((rd l0 x14_3) != x13_2) = false := bne_eq_false_iff_eq.mpr c16
                              clear c16
                              obtain ⟨ji17, hji17⟩ : ∃ j_ : Int, (IntKind.u64.wrap (x13_2)) = j_ := ⟨_, rfl⟩
                              replace H : (if 0 ≤ (ji17) then (if x9_3 ≥ (shl .i64 1 (ji17)) then (some (([] : List ByteArray), 14)) else ((crossdockref07_row.f k3 x9_3 x13_2).bind fun t109 => (if x14_3 < (x8_3.length : Int) then ((some (x8_3.set (x14_3 : Int).toNat t109 : List ByteArray)).bind fun y110 => (if 0 ≤ (IntKind.u64.wrap (wrap64 (15 - x13_2))) then (if x13_2 = 1 then (crossdockref07_Codes.l2 k3 l0 a1 y110 (wrap64 (x9_3 + 1)) (wrap64 (x10_3 + (shl .i64 1 (IntKind.u64.wrap (wrap64 (15 - x13_2)))))) (wrap64 (x11_3 + 1)) (wrap64 (x12_3 + 1)) x13_2 (wrap64 (x14_3 + 1))) else (crossdockref07_Codes.l2 k3 l0 a1 y110 (wrap64 (x9_3 + 1)) (wrap64 (x10_3 + (shl .i64 1 (IntKind.u64.wrap (wrap64 (15 - x13_2)))))) (wrap64 (x11_3 + 1)) x12_3 x13_2 (wrap64 (x14_3 + 1)))) else (none))) else (none)))) else (none)) = some (r1, r2) := by first | (rw [hji17] at H; exact H) | (simp only [hji17] at H ⊢; exact H)
                              by_cases c18 : 0 ≤ (ji17)
                              · rw [if_pos c18] at H
                                have c18b0 := eq_true c18
                                have c18b1 : decide (0 ≤ (ji17)) = true := decide_eq_true c18
                                clear c18
                                obtain ⟨ji19, hji19⟩ : ∃ j_ : Int, (shl .i64 1 (ji17)) = j_ := ⟨_, rfl⟩
                                replace H : (if x9_3 ≥ (ji19) then (some (([] : List ByteArray), 14)) else ((crossdockref07_row.f k3 x9_3 x13_2).bind fun t109 => (if x14_3 < (x8_3.length : Int) then ((some (x8_3.set (x14_3 : Int).toNat t109 : List ByteArray)).bind fun y110 => (if 0 ≤ (IntKind.u64.wrap (wrap64 (15 - x13_2))) then (if x13_2 = 1 then (crossdockref07_Codes.l2 k3 l0 a1 y110 (wrap64 (x9_3 + 1)) (wrap64 (x10_3 + (shl .i64 1 (IntKind.u64.wrap (wrap64 (15 - x13_2)))))) (wrap64 (x11_3 + 1)) (wrap64 (x12_3 + 1)) x13_2 (wrap64 (x14_3 + 1))) else (crossdockref07_Codes.l2 k3 l0 a1 y110 (wrap64 (x9_3 + 1)) (wrap64 (x10_3 + (shl .i64 1 (IntKind.u64.wrap (wrap64 (15 - x13_2)))))) (wrap64 (x11_3 + 1)) x12_3 x13_2 (wrap64 (x14_3 + 1)))) else (none))) else (none)))) = some (r1, r2) := by first | (rw [hji19] at H; exact H) | (simp only [hji19] at H ⊢; exact H)
                                have hji19_ : (IntKind.i64.wrap (1 * 2 ^ min (ji17).toNat 64)) = ji19 := hji19
                                have hji19z : (ji17) ≤ 64 → (IntKind.i64.wrap (1 * 2 ^ (ji17).toNat)) = ji19 := shl_small hji19
                                have hji19u : (IntKind.i64.wrap (2 ^ min (ji17).toNat 64)) = ji19 := by have h_ := hji19_; rw [Int.one_mul] at h_; exact h_
                                have hji19v : (ji17) ≤ 64 → (IntKind.i64.wrap (2 ^ (ji17).toNat)) = ji19 := fun hle_ => by have h_ := hji19z hle_; rw [Int.one_mul] at h_; exact h_
                                have hji19y : (wrap64 (1 * 2 ^ min (ji17).toNat 64)) = ji19 := (i64_w _).symm.trans hji19_
                                have hji19x : (ji17) ≤ 64 → (wrap64 (1 * 2 ^ (ji17).toNat)) = ji19 := fun h_ => (i64_w _).symm.trans (hji19z h_)
                                by_cases c20 : x9_3 ≥ (ji19)
                                · rw [if_pos c20] at H
                                  have c20b0 : decide ((ji19) ≤ x9_3) = true := decide_eq_true c20
                                  clear c20
                                  simp only [Option.some.injEq, Prod.mk.injEq] at H
                                  obtain ⟨rfl, rfl⟩ := H
                                  have p108 : 0 ≤ (x14_3 : Int) := of_decide_eq_true (by first | (with_reducible assumption) | assumption)
                                  have q108 : x14_3 < (l0.length : Int) := of_decide_eq_true (by first | (with_reducible assumption) | assumption)
                                  obtain ⟨ad108, e108, hx108_0⟩ := Kd.at_int HR0.out x14_3 p108 q108
                                  cases e108
                                  replace hx108_0 := (HB.out.cell (World.block_lt_of_cell? w _ hx108_0)).trans hx108_0
                                  replace p108 := eq_true p108
                                  replace q108 := eq_true q108
                                  go_wp2
                                  go_ret2
                                  exact ⟨_, by first | rfl | (simp [errW_none, errW_some] <;> rfl) | (simp only [← hji17, ← hji19]; first | rfl | (simp [errW_none, errW_some] <;> rfl)) | (simp [*, errW_none, errW_some] <;> rfl), by first | exact Kd.R_nil _ _ _ _ _ | exact Kd.N_nil _ _ _ _ _ | exact Kd.V_nil _ _ _ _ _ | exact Kd.Q_nil _ _ _ _ _ | exact Kd.S_nil _ _ _ _ _, by repeat (first | (with_reducible first | exact HB.out | apply below_alloc | apply pw_below_drewN | apply below_drew1) | exact HB.out)⟩
                                · rw [if_neg c20] at H
                                  have c20b0 : decide ((ji19) ≤ x9_3) = false := decide_eq_false c20
                                  clear c20
                                  replace H := Option.bind_eq_some_iff.mp H
                                  obtain ⟨t109, A210, H⟩ := H
                                  replace H : (if x14_3 < (x8_3.length : Int) then ((some (x8_3.set (x14_3 : Int).toNat t109 : List ByteArray)).bind fun y110 => (if 0 ≤ (IntKind.u64.wrap (wrap64 (15 - x13_2))) then (if x13_2 = 1 then (crossdockref07_Codes.l2 k3 l0 a1 y110 (wrap64 (x9_3 + 1)) (wrap64 (x10_3 + (shl .i64 1 (IntKind.u64.wrap (wrap64 (15 - x13_2)))))) (wrap64 (x11_3 + 1)) (wrap64 (x12_3 + 1)) x13_2 (wrap64 (x14_3 + 1))) else (crossdockref07_Codes.l2 k3 l0 a1 y110 (wrap64 (x9_3 + 1)) (wrap64 (x10_3 + (shl .i64 1 (IntKind.u64.wrap (wrap64 (15 - x13_2)))))) (wrap64 (x11_3 + 1)) x12_3 x13_2 (wrap64 (x14_3 + 1)))) else (none))) else (none)) = some (r1, r2) := H
                                  have A21 := Aside0.mk A210
                                  clear A210
                                  by_cases c22 : x14_3 < (x8_3.length : Int)
                                  · rw [if_pos c22] at H
                                    have c22b0 : decide (x14_3 < (x8_3.length : Int)) = true := decide_eq_true c22
                                    clear c22
                                    obtain ⟨y110, hy110⟩ : ∃ y_ : List ByteArray, y_ = (x8_3.set (x14_3 : Int).toNat t109) := ⟨_, rfl⟩
                                    replace H : (if 0 ≤ (IntKind.u64.wrap (wrap64 (15 - x13_2))) then (if x13_2 = 1 then (crossdockref07_Codes.l2 k3 l0 a1 y110 (wrap64 (x9_3 + 1)) (wrap64 (x10_3 + (shl .i64 1 (IntKind.u64.wrap (wrap64 (15 - x13_2)))))) (wrap64 (x11_3 + 1)) (wrap64 (x12_3 + 1)) x13_2 (wrap64 (x14_3 + 1))) else (crossdockref07_Codes.l2 k3 l0 a1 y110 (wrap64 (x9_3 + 1)) (wrap64 (x10_3 + (shl .i64 1 (IntKind.u64.wrap (wrap64 (15 - x13_2)))))) (wrap64 (x11_3 + 1)) x12_3 x13_2 (wrap64 (x14_3 + 1)))) else (none)) = some (r1, r2) := by first | (rw [hy110]; with_reducible exact H) | (have H2_ := (Option.bind_some _ _).symm.trans H; rw [hy110]; with_reducible exact H2_) | (have H2_ := (Option.bind_some _ _).symm.trans H; with_reducible exact H2_) | with_reducible exact H | (rw [hy110]; exact H) | exact H
                                    have Ny110 := Aside0.mk hy110
                                    clear hy110
                                    obtain ⟨ji24, hji24⟩ : ∃ j_ : Int, (IntKind.u64.wrap (wrap64 (15 - x13_2))) = j_ := ⟨_, rfl⟩
                                    replace H : (if 0 ≤ (ji24) then (if x13_2 = 1 then (crossdockref07_Codes.l2 k3 l0 a1 y110 (wrap64 (x9_3 + 1)) (wrap64 (x10_3 + (shl .i64 1 (ji24)))) (wrap64 (x11_3 + 1)) (wrap64 (x12_3 + 1)) x13_2 (wrap64 (x14_3 + 1))) else (crossdockref07_Codes.l2 k3 l0 a1 y110 (wrap64 (x9_3 + 1)) (wrap64 (x10_3 + (shl .i64 1 (ji24)))) (wrap64 (x11_3 + 1)) x12_3 x13_2 (wrap64 (x14_3 + 1)))) else (none)) = some (r1, r2) := by first | (rw [hji24] at H; exact H) | (simp only [hji24] at H ⊢; exact H)
                                    (try rw [hji24] at A21)
                                    by_cases c25 : 0 ≤ (ji24)
                                    · rw [if_pos c25] at H
                                      have c25b0 := eq_true c25
                                      have c25b1 : decide (0 ≤ (ji24)) = true := decide_eq_true c25
                                      clear c25
                                      obtain ⟨ji26, hji26⟩ : ∃ j_ : Int, (shl .i64 1 (ji24)) = j_ := ⟨_, rfl⟩
                                      replace H : (if x13_2 = 1 then (crossdockref07_Codes.l2 k3 l0 a1 y110 (wrap64 (x9_3 + 1)) (wrap64 (x10_3 + (ji26))) (wrap64 (x11_3 + 1)) (wrap64 (x12_3 + 1)) x13_2 (wrap64 (x14_3 + 1))) else (crossdockref07_Codes.l2 k3 l0 a1 y110 (wrap64 (x9_3 + 1)) (wrap64 (x10_3 + (ji26))) (wrap64 (x11_3 + 1)) x12_3 x13_2 (wrap64 (x14_3 + 1)))) = some (r1, r2) := by first | (rw [hji26] at H; exact H) | (simp only [hji26] at H ⊢; exact H)
                                      (try rw [hji26] at A21)
                                      have hji26_ : (IntKind.i64.wrap (1 * 2 ^ min (ji24).toNat 64)) = ji26 := hji26
                                      have hji26z : (ji24) ≤ 64 → (IntKind.i64.wrap (1 * 2 ^ (ji24).toNat)) = ji26 := shl_small hji26
                                      have hji26u : (IntKind.i64.wrap (2 ^ min (ji24).toNat 64)) = ji26 := by have h_ := hji26_; rw [Int.one_mul] at h_; exact h_
                                      have hji26v : (ji24) ≤ 64 → (IntKind.i64.wrap (2 ^ (ji24).toNat)) = ji26 := fun hle_ => by have h_ := hji26z hle_; rw [Int.one_mul] at h_; exact h_
                                      have hji26y : (wrap64 (1 * 2 ^ min (ji24).toNat 64)) = ji26 := (i64_w _).symm.trans hji26_
                                      have hji26x : (ji24) ≤ 64 → (wrap64 (1 * 2 ^ (ji24).toNat)) = ji26 := fun h_ => (i64_w _).symm.trans (hji26z h_)
                                      by_cases c27 : x13_2 = 1
                                      · rw [if_pos c27] at H
                                        have c27b0 : (x13_2 == 1) = true := beq_iff_eq.mpr c27
                                        have c27b1 : (x13_2 != 1) = false := bne_eq_false_iff_eq.mpr c27
                                        clear c27
                                        have H' := Aside0.mk H
                                        clear H
                                        have p108 : 0 ≤ (x14_3 : Int) := of_decide_eq_true (by first | (with_reducible assumption) | assumption)
                                        have q108 : x14_3 < (l0.length : Int) := of_decide_eq_true (by first | (with_reducible assumption) | assumption)
                                        obtain ⟨ad108, e108, hx108_0⟩ := Kd.at_int HR0.out x14_3 p108 q108
                                        cases e108
                                        replace hx108_0 := (HB.out.cell (World.block_lt_of_cell? w _ hx108_0)).trans hx108_0
                                        replace p108 := eq_true p108
                                        replace q108 := eq_true q108
                                        go_wp2_with (first | ((with_reducible refine gate_callee (f := 33) rfl ?_); refine goesL_ (some 61) rfl rfl Try.func33 (by kernel_rfl) rfl #[.int .i64 x9_3, .int .i64 x13_2] rfl (by (try simp only [List.map_toArray, List.map_cons, List.map_nil]); first | done | rfl | (simp only [List.length_drop, List.length_take]; rfl)) ?_; (with_reducible refine (crossdockref07_row.calls k3 x9_3 x13_2 t109 _ A21.out).mono ?_); rintro e w' ⟨rfl, ⟨nd, rfl⟩⟩; refine ⟨_, rfl, ?_⟩; (try (rw [drewN_self wr]; generalize hq_ : World.drewN wr _ = wr; have n0_ : Aside0 (Kd.R Kd.string 9 wr w.heap.size (fun _ => True) v106 x8_3) := ⟨by rw [← hq_]; exact (by (with_reducible repeat (first | apply Kd.R_alloc | apply Kd.R_drewN | apply Kd.R_drew)); exact HO_8.out)⟩; have n1_ : Aside0 (Below w.heap.size w wr) := ⟨by rw [← hq_]; exact (by repeat (first | (with_reducible first | exact HB.out | apply below_alloc | apply pw_below_drewN | apply below_drew1) | exact HB.out))⟩; clear HO_8 HB hq_; have HO_8 := n0_; have HB := n1_; clear n0_ n1_)); have p23 : 0 ≤ (x14_3 : Int) := of_decide_eq_true (by first | (with_reducible assumption) | assumption); have q23 : (x14_3 : Int) < ((x8_3.length : Int) : Int) := of_decide_eq_true (by first | (with_reducible assumption) | assumption); obtain ⟨go23, co23, eo23, gb23, gl23, cl23, HG23⟩ := Kd.R_form HO_8.out (by omega); (first | cases eo23 | (injection eo23 with ea_ en_ ec_; (first | subst ea_ | (injection ea_ with ea_; subst ea_)); subst ec_; clear en_)); have GB23 := Aside0.mk gb23; have GG23 := Aside0.mk HG23; clear gb23 gl23 HG23; obtain ⟨hx23_0, hf23_0⟩ := Kd.R_celln (⟨#[]⟩ : ByteArray) HO_8.out (x14_3 : Int) p23 q23; replace p23 := eq_true p23; replace q23 := eq_true q23; obtain ⟨hy28_, hz28_⟩ := Kd.R_celln (⟨#[]⟩ : ByteArray) HO_8.out (x14_3 : Int) (of_decide_eq_true (by first | (with_reducible assumption) | assumption)) (of_decide_eq_true (by first | (with_reducible assumption) | assumption)); have HP28 := Kd.R_putg HO_8.out (x14_3 : Int) t109) | ((with_reducible refine gate_store (t := 9) (p := 62) rfl ?_); refine store_event (t := 9) (p := 62) (v := ?vo_w29) (w1 := (wr.setCell ⟨go23, (x14_3 : Int).toNat, none⟩ (.string t109))) ?hg ?ho ?hn ?hr ?_; (case ho => rfl); (case hg => rfl); (case hn => rfl); (case hr => first | (go_simp; done) | (go_simp; rfl)); intro w29 hw; have hg : wr.grownBy w29 (some go23) := (by rw [hw]; exact HP28.2); have hp_ : Kd.R Kd.string 9 w29 w.heap.size (fun _ => True) (.slice (some ⟨go23, 0, none⟩) x8_3.length co23) y110 := (by rw [hw, Ny110.out]; exact HP28.1); clear HP28; have n0_ := Aside0.mk (hp_); have n1_ := Aside0.mk ((by rw [hw]; exact below_set (HB.out) GB23.out : Below w.heap.size w w29)); clear HO_8; clear HB; have HO_8 := n0_; have HB := n1_; clear n0_ n1_; clear hg hw hp_))
                                        go_roundg k3
                                        case measure => have := HK1.out; have := HK2.out; have := HK3.out; omega
                                        case rel => exact ⟨(y110), (wrap64 (x9_3 + 1)), (wrap64 (x10_3 + (ji26))), (wrap64 (x11_3 + 1)), (wrap64 (x12_3 + 1)), (wrap64 (x14_3 + 1)), (by first | rfl | (simp; done) | (simp [*]; done)), (by first | rfl | (simp; done) | (simp only [← hji26] <;> (first | rfl | simp)) | (simp [*]; done)), (by first | rfl | (simp; done) | (simp [*]; done)), (by first | rfl | (simp; done) | (simp [*]; done)), (by first | rfl | (simp; done) | (simp [*]; done)), H', ⟨by have := HK1.out; have := HK2.out; have := HK3.out; omega⟩, ⟨by (with_reducible repeat (first | apply Kd.R_alloc | apply Kd.R_drewN | apply Kd.R_drew)); exact HO_8.out⟩, ⟨by repeat (first | (with_reducible first | exact HB.out | apply below_alloc | apply pw_below_drewN | apply below_drew1) | exact HB.out)⟩⟩
                                      · rw [if_neg c27] at H
                                        have c27b0 : (x13_2 == 1) = false := beq_eq_false_iff_ne.mpr c27
                                        have c27b1 : (x13_2 != 1) = true := bne_iff_ne.mpr c27
                                        have H' := Aside0.mk H
                                        clear H
                                        have p108 : 0 ≤ (x14_3 : Int) := of_decide_eq_true (by first | (with_reducible assumption) | assumption)
                                        have q108 : x14_3 < (l0.length : Int) := of_decide_eq_true (by first | (with_reducible assumption) | assumption)
                                        obtain ⟨ad108, e108, hx108_0⟩ := Kd.at_int HR0.out x14_3 p108 q108
                                        cases e108
                                        replace hx108_0 := (HB.out.cell (World.block_lt_of_cell? w _ hx108_0)).trans hx108_0
                                        replace p108 := eq_true p108
                                        replace q108 := eq_true q108
                                        go_wp2_with (first | ((with_reducible refine gate_callee (f := 33) rfl ?_); refine goesL_ (some 61) rfl rfl Try.func33 (by kernel_rfl) rfl #[.int .i64 x9_3, .int .i64 x13_2] rfl (by (try simp only [List.map_toArray, List.map_cons, List.map_nil]); first | done | rfl | (simp only [List.length_drop, List.length_take]; rfl)) ?_; (with_reducible refine (crossdockref07_row.calls k3 x9_3 x13_2 t109 _ A21.out).mono ?_); rintro e w' ⟨rfl, ⟨nd, rfl⟩⟩; refine ⟨_, rfl, ?_⟩; (try (rw [drewN_self wr]; generalize hq_ : World.drewN wr _ = wr; have n0_ : Aside0 (Kd.R Kd.string 9 wr w.heap.size (fun _ => True) v106 x8_3) := ⟨by rw [← hq_]; exact (by (with_reducible repeat (first | apply Kd.R_alloc | apply Kd.R_drewN | apply Kd.R_drew)); exact HO_8.out)⟩; have n1_ : Aside0 (Below w.heap.size w wr) := ⟨by rw [← hq_]; exact (by repeat (first | (with_reducible first | exact HB.out | apply below_alloc | apply pw_below_drewN | apply below_drew1) | exact HB.out))⟩; clear HO_8 HB hq_; have HO_8 := n0_; have HB := n1_; clear n0_ n1_)); have p23 : 0 ≤ (x14_3 : Int) := of_decide_eq_true (by first | (with_reducible assumption) | assumption); have q23 : (x14_3 : Int) < ((x8_3.length : Int) : Int) := of_decide_eq_true (by first | (with_reducible assumption) | assumption); obtain ⟨go23, co23, eo23, gb23, gl23, cl23, HG23⟩ := Kd.R_form HO_8.out (by omega); (first | cases eo23 | (injection eo23 with ea_ en_ ec_; (first | subst ea_ | (injection ea_ with ea_; subst ea_)); subst ec_; clear en_)); have GB23 := Aside0.mk gb23; have GG23 := Aside0.mk HG23; clear gb23 gl23 HG23; obtain ⟨hx23_0, hf23_0⟩ := Kd.R_celln (⟨#[]⟩ : ByteArray) HO_8.out (x14_3 : Int) p23 q23; replace p23 := eq_true p23; replace q23 := eq_true q23; obtain ⟨hy30_, hz30_⟩ := Kd.R_celln (⟨#[]⟩ : ByteArray) HO_8.out (x14_3 : Int) (of_decide_eq_true (by first | (with_reducible assumption) | assumption)) (of_decide_eq_true (by first | (with_reducible assumption) | assumption)); have HP30 := Kd.R_putg HO_8.out (x14_3 : Int) t109) | ((with_reducible refine gate_store (t := 9) (p := 62) rfl ?_); refine store_event (t := 9) (p := 62) (v := ?vo_w31) (w1 := (wr.setCell ⟨go23, (x14_3 : Int).toNat, none⟩ (.string t109))) ?hg ?ho ?hn ?hr ?_; (case ho => rfl); (case hg => rfl); (case hn => rfl); (case hr => first | (go_simp; done) | (go_simp; rfl)); intro w31 hw; have hg : wr.grownBy w31 (some go23) := (by rw [hw]; exact HP30.2); have hp_ : Kd.R Kd.string 9 w31 w.heap.size (fun _ => True) (.slice (some ⟨go23, 0, none⟩) x8_3.length co23) y110 := (by rw [hw, Ny110.out]; exact HP30.1); clear HP30; have n0_ := Aside0.mk (hp_); have n1_ := Aside0.mk ((by rw [hw]; exact below_set (HB.out) GB23.out : Below w.heap.size w w31)); clear HO_8; clear HB; have HO_8 := n0_; have HB := n1_; clear n0_ n1_; clear hg hw hp_))
                                        go_roundg k3
                                        case measure => have := HK1.out; have := HK2.out; have := HK3.out; omega
                                        case rel => exact ⟨(y110), (wrap64 (x9_3 + 1)), (wrap64 (x10_3 + (ji26))), (wrap64 (x11_3 + 1)), (x12_3), (wrap64 (x14_3 + 1)), (by first | rfl | (simp; done) | (simp [*]; done)), (by first | rfl | (simp; done) | (simp only [← hji26] <;> (first | rfl | simp)) | (simp [*]; done)), (by first | rfl | (simp; done) | (simp [*]; done)), (by first | rfl | (simp; done) | (simp [*]; done)), (by first | rfl | (simp; done) | (simp [*]; done)), H', ⟨by have := HK1.out; have := HK2.out; have := HK3.out; omega⟩, ⟨by (with_reducible repeat (first | apply Kd.R_alloc | apply Kd.R_drewN | apply Kd.R_drew)); exact HO_8.out⟩, ⟨by repeat (first | (with_reducible first | exact HB.out | apply below_alloc | apply pw_below_drewN | apply below_drew1) | exact HB.out)⟩⟩
                                    · rw [if_neg c25] at H
                                      exact absurd H (by simp)
                                  · rw [if_neg c22] at H
                                    exact absurd H (by simp)
                              · rw [if_neg c18] at H
                                exact absurd H (by simp)
                            · rw [if_neg c16] at H
                              have c16b0 : ((rd l0 x14_3) == x13_2) = false := beq_eq_false_iff_ne.mpr c16
                              have c16b1 : ((rd l0 x14_3) != x13_2) = true := bne_iff_ne.mpr c16
                              have H' := Aside0.mk H
                              clear H
                              have p108 : 0 ≤ (x14_3 : Int) := of_decide_eq_true (by first | (with_reducible assumption) | assumption)
                              have q108 : x14_3 < (l0.length : Int) := of_decide_eq_true (by first | (with_reducible assumption) | assumption)
                              obtain ⟨ad108, e108, hx108_0⟩ := Kd.at_int HR0.out x14_3 p108 q108
                              cases e108
                              replace hx108_0 := (HB.out.cell (World.block_lt_of_cell? w _ hx108_0)).trans hx108_0
                              replace p108 := eq_true p108
                              replace q108 := eq_true q108
                              go_wp2
                              go_roundg k3
                              case measure => have := HK1.out; have := HK2.out; have := HK3.out; omega
                              case rel => exact ⟨(x8_3), (x9_3), (x10_3), (x11_3), (x12_3), (wrap64 (x14_3 + 1)), (by first | rfl | (simp; done) | (simp [*]; done)), (by first | rfl | (simp; done) | (simp [*]; done)), (by first | rfl | (simp; done) | (simp [*]; done)), (by first | rfl | (simp; done) | (simp [*]; done)), (by first | rfl | (simp; done) | (simp [*]; done)), H', ⟨by have := HK1.out; have := HK2.out; have := HK3.out; omega⟩, ⟨by (with_reducible repeat (first | apply Kd.R_alloc | apply Kd.R_drewN | apply Kd.R_drew)); exact HO_8.out⟩, ⟨by repeat (first | (with_reducible first | exact HB.out | apply below_alloc | apply pw_below_drewN | apply below_drew1) | exact HB.out)⟩⟩
                          · rw [if_neg c15] at H
                            exact absurd H (by simp)
                        · rw [if_neg c14] at H
                          have c14b0 : decide (x14_3 < (l0.length : Int)) = false := decide_eq_false c14
                          clear c14
                          have H' := Aside0.mk H
                          clear H
                          go_wp2
                          go_roundg k3
                          case measure => have := HK1.out; have := HK2.out; have := HK3.out; omega
                          case rel => exact ⟨(x8_3), (x9_3), (x10_3), (x11_3), (x12_3), (wrap64 (x13_2 + 1)), (by first | rfl | (simp; done) | (simp [*]; done)), (by first | rfl | (simp; done) | (simp [*]; done)), (by first | rfl | (simp; done) | (simp [*]; done)), (by first | rfl | (simp; done) | (simp [*]; done)), (by first | rfl | (simp; done) | (simp [*]; done)), H', ⟨by have := HK1.out; have := HK2.out; have := HK3.out; omega⟩, ⟨by (with_reducible repeat (first | apply Kd.R_alloc | apply Kd.R_drewN | apply Kd.R_drew)); exact HO_8.out⟩, ⟨by repeat (first | (with_reducible first | exact HB.out | apply below_alloc | apply pw_below_drewN | apply below_drew1) | exact HB.out)⟩⟩
                  · rw [if_neg c13] at H
                    have c13b0 : decide (x13_2 ≤ 15) = false := decide_eq_false c13
                    clear c13
                    by_cases c32 : x10_2 = 32768
                    · rw [if_pos c32] at H
                      have c32b0 : (x10_2 == 32768) = true := beq_iff_eq.mpr c32
                      have c32b1 : (x10_2 != 32768) = false := bne_eq_false_iff_eq.mpr c32
                      clear c32
                      simp only [Option.some.injEq, Prod.mk.injEq] at H
                      obtain ⟨rfl, rfl⟩ := H
                      go_wp2
                      go_ret2
                      exact ⟨_, by first | rfl | (simp [errW_none, errW_some] <;> rfl) | (simp [*, errW_none, errW_some] <;> rfl), by (with_reducible repeat (first | apply Kd.R_alloc | apply Kd.R_drewN | apply Kd.R_drew)); exact HO_8.out, by repeat (first | (with_reducible first | exact HB.out | apply below_alloc | apply pw_below_drewN | apply below_drew1) | exact HB.out)⟩
                    · rw [if_neg c32] at H
                      have c32b0 : (x10_2 == 32768) = false := beq_eq_false_iff_ne.mpr c32
                      have c32b1 : (x10_2 != 32768) = true := bne_iff_ne.mpr c32
                      by_cases c33 : a1 = true
                      · subst c33
                        have H1 : (if x11_2 = 0 then (some (x8_2, 0)) else (if x11_2 = 1 then (if x12_2 = 1 then (some (x8_2, 0)) else (some (([] : List ByteArray), 2))) else (some (([] : List ByteArray), 2)))) = some (r1, r2) := by rw [if_pos rfl] at H; exact H
                        clear H
                        have H := H1
                        clear H1
                        by_cases c34 : x11_2 = 0
                        · rw [if_pos c34] at H
                          have c34b0 : (x11_2 == 0) = true := beq_iff_eq.mpr c34
                          have c34b1 : (x11_2 != 0) = false := bne_eq_false_iff_eq.mpr c34
                          clear c34
                          simp only [Option.some.injEq, Prod.mk.injEq] at H
                          obtain ⟨rfl, rfl⟩ := H
                          go_wp2
                          go_ret2
                          exact ⟨_, by first | rfl | (simp [errW_none, errW_some] <;> rfl) | (simp [*, errW_none, errW_some] <;> rfl), by (with_reducible repeat (first | apply Kd.R_alloc | apply Kd.R_drewN | apply Kd.R_drew)); exact HO_8.out, by repeat (first | (with_reducible first | exact HB.out | apply below_alloc | apply pw_below_drewN | apply below_drew1) | exact HB.out)⟩
                        · rw [if_neg c34] at H
                          have c34b0 : (x11_2 == 0) = false := beq_eq_false_iff_ne.mpr c34
                          have c34b1 : (x11_2 != 0) = true := bne_iff_ne.mpr c34
                          by_cases c35 : x11_2 = 1
                          · rw [if_pos c35] at H
                            have c35b0 : (x11_2 == 1) = true := beq_iff_eq.mpr c35
                            have c35b1 : (x11_2 != 1) = false := bne_eq_false_iff_eq.mpr c35
                            clear c35
                            by_cases c36 : x12_2 = 1
                            · rw [if_pos c36] at H
                              have c36b0 : (x12_2 == 1) = true := beq_iff_eq.mpr c36
                              have c36b1 : (x12_2 != 1) = false := bne_eq_false_iff_eq.mpr c36
                              clear c36
                              simp only [Option.some.injEq, Prod.mk.injEq] at H
                              obtain ⟨rfl, rfl⟩ := H
                              go_wp2
                              go_ret2
                              exact ⟨_, by first | rfl | (simp [errW_none, errW_some] <;> rfl) | (simp [*, errW_none, errW_some] <;> rfl), by (with_reducible repeat (first | apply Kd.R_alloc | apply Kd.R_drewN | apply Kd.R_drew)); exact HO_8.out, by repeat (first | (with_reducible first | exact HB.out | apply below_alloc | apply pw_below_drewN | apply below_drew1) | exact HB.out)⟩
                            · rw [if_neg c36] at H
                              have c36b0 : (x12_2 == 1) = false := beq_eq_false_iff_ne.mpr c36
                              have c36b1 : (x12_2 != 1) = true := bne_iff_ne.mpr c36
                              simp only [Option.some.injEq, Prod.mk.injEq] at H
                              obtain ⟨rfl, rfl⟩ := H
                              go_wp2
                              go_ret2
                              exact ⟨_, by first | rfl | (simp [errW_none, errW_some] <;> rfl) | (simp [*, errW_none, errW_some] <;> rfl), by first | exact Kd.R_nil _ _ _ _ _ | exact Kd.N_nil _ _ _ _ _ | exact Kd.V_nil _ _ _ _ _ | exact Kd.Q_nil _ _ _ _ _ | exact Kd.S_nil _ _ _ _ _, by repeat (first | (with_reducible first | exact HB.out | apply below_alloc | apply pw_below_drewN | apply below_drew1) | exact HB.out)⟩
                          · rw [if_neg c35] at H
                            have c35b0 : (x11_2 == 1) = false := beq_eq_false_iff_ne.mpr c35
                            have c35b1 : (x11_2 != 1) = true := bne_iff_ne.mpr c35
                            simp only [Option.some.injEq, Prod.mk.injEq] at H
                            obtain ⟨rfl, rfl⟩ := H
                            go_wp2
                            go_ret2
                            exact ⟨_, by first | rfl | (simp [errW_none, errW_some] <;> rfl) | (simp [*, errW_none, errW_some] <;> rfl), by first | exact Kd.R_nil _ _ _ _ _ | exact Kd.N_nil _ _ _ _ _ | exact Kd.V_nil _ _ _ _ _ | exact Kd.Q_nil _ _ _ _ _ | exact Kd.S_nil _ _ _ _ _, by repeat (first | (with_reducible first | exact HB.out | apply below_alloc | apply pw_below_drewN | apply below_drew1) | exact HB.out)⟩
                      · replace c33 := Bool.eq_false_iff.mpr c33
                        subst c33
                        have H1 : (some (([] : List ByteArray), 2)) = some (r1, r2) := by rw [if_neg (show ¬ (false = true) by decide)] at H; exact H
                        clear H
                        have H := H1
                        clear H1
                        simp only [Option.some.injEq, Prod.mk.injEq] at H
                        obtain ⟨rfl, rfl⟩ := H
                        go_wp2
                        go_ret2
                        exact ⟨_, by first | rfl | (simp [errW_none, errW_some] <;> rfl) | (simp [*, errW_none, errW_some] <;> rfl), by first | exact Kd.R_nil _ _ _ _ _ | exact Kd.N_nil _ _ _ _ _ | exact Kd.V_nil _ _ _ _ _ | exact Kd.Q_nil _ _ _ _ _ | exact Kd.S_nil _ _ _ _ _, by repeat (first | (with_reducible first | exact HB.out | apply below_alloc | apply pw_below_drewN | apply below_drew1) | exact HB.out)⟩
            · rw [if_neg c10] at H
              exact absurd H (by simp)
          · rw [if_neg c9] at H
            exact absurd H (by simp)

/-! ### crossdocknum_Ints: function 10 -/
def crossdocknum_Ints.l0 : Nat → List Int → List Int → Int → Int → Option (Bool)
  | 0, _, _, _, _ => none
  | k + 1, x0, x1, x12, x13 => if x13 < x12 then (if 0 ≤ x13 then (if x13 < (x0.length : Int) then (if x13 < (x1.length : Int) then (if (rd x0 x13) = (rd x1 x13) then (crossdocknum_Ints.l0 k x0 x1 x12 (wrap64 (x13 + 1))) else (some false)) else (none)) else (none)) else (none)) else (some true)
def crossdocknum_Ints.f (k : Nat) (l0 : List Int) (l1 : List Int) : Option (Bool) := if (l0.length : Int) = (l1.length : Int) then (crossdocknum_Ints.l0 k l0 l1 (l0.length : Int) 0) else (some false)
theorem crossdocknum_Ints.mono_l : ∀ k, (∀ y0 y1 y2 y3, LeO (crossdocknum_Ints.l0 k y0 y1 y2 y3) (crossdocknum_Ints.l0 (k + 1) y0 y1 y2 y3))
  | 0 => fun _ _ _ _ r h => by simp [crossdocknum_Ints.l0] at h
  | k + 1 => by
    have ih0 := crossdocknum_Ints.mono_l k
    · intro y0 y1 y2 y3
      unfold crossdocknum_Ints.l0
      repeat' first
      | (with_reducible exact ih0 _ _ _ _)
      | (with_reducible exact LeO.refl _)
      | (with_reducible exact LeO.none _)
      | (with_reducible refine LeO.ite ?_ ?_)
      | (with_reducible refine LeO.bind ?_ (fun _ => ?_))
      | exact ih0 _ _ _ _
      | exact LeO.none _
      | refine LeO.ite ?_ ?_
      | refine LeO.bind ?_ (fun _ => ?_)
theorem crossdocknum_Ints.mono : ∀ a0 a1 k, LeO (crossdocknum_Ints.f k a0 a1) (crossdocknum_Ints.f (k + 1) a0 a1) := by
  intro a0 a1 k
  have ih0 := crossdocknum_Ints.mono_l k
  unfold crossdocknum_Ints.f
  repeat' first
      | (with_reducible exact ih0 _ _ _ _)
      | (with_reducible exact LeO.refl _)
      | (with_reducible exact LeO.none _)
      | (with_reducible refine LeO.ite ?_ ?_)
      | (with_reducible refine LeO.bind ?_ (fun _ => ?_))
      | exact ih0 _ _ _ _
      | exact LeO.none _
      | refine LeO.ite ?_ ?_
      | refine LeO.bind ?_ (fun _ => ?_)
set_option maxHeartbeats 8000000 in
set_option maxRecDepth 100000 in
theorem crossdocknum_Ints.calls (k : Nat) (A0 : Option Addr) (c0 : Nat) (l0 : List Int) (A1 : Option Addr) (c1 : Nat) (l1 : List Int) (r : Bool) (w : World) (hr0 : Kd.C (Kd.int .i64) w A0 l0.length l0) (hc0 : l0.length ≤ c0) (hr1 : Kd.C (Kd.int .i64) w A1 l1.length l1) (hc1 : l1.length ≤ c1) (h : crossdocknum_Ints.f k l0 l1 = some r) :
    Calls Try.prog 10 #[.slice A0 l0.length c0, .slice A1 l1.length c1] w fun e w' => e = .returned (.bool r) ∧ Drawn0 w w' := by
  have HR0 := Aside0.mk hr0
  have HC0 := Aside0.mk hc0
  clear hr0 hc0
  have HR1 := Aside0.mk hr1
  have HC1 := Aside0.mk hc1
  clear hr1 hc1
  have H : (if (l0.length : Int) = (l1.length : Int) then (crossdocknum_Ints.l0 k l0 l1 (l0.length : Int) 0) else (some false)) = some r := h
  clear h
  by_cases c3 : (l0.length : Int) = (l1.length : Int)
  · rw [if_pos c3] at H
    have c3b0 : ((l0.length : Int) == (l1.length : Int)) = true := beq_iff_eq.mpr c3
    have c3b1 : ((l0.length : Int) != (l1.length : Int)) = false := bne_eq_false_iff_eq.mpr c3
    have c3b2 : (l0.length == l1.length) = true := by first | simpa using c3 | (simp at c3 ⊢; omega)
    clear c3
    have H' := Aside0.mk H
    clear H
    go_enter Try.func10, Try.ntmps10
    go_wp2
    repeat (go_quiet (fail); try go_wp2)
    go_loopg [13] k (fun kq v13 w' => ∃ (x13_1 : Int), v13 = .int .i64 x13_1 ∧ Aside0 (crossdocknum_Ints.l0 kq l0 l1 (l0.length : Int) x13_1 = some r) ∧ Aside0 (kq ≤ k) ∧ Drawn0 w w')
    case atStart => exact ⟨(0), (by first | rfl | (simp; done) | (simp [*]; done)), H', ⟨Nat.le_refl _⟩, by repeat (first | exact Drawn0.refl _ | apply Drawn0.step)⟩
    case round =>
      clear H'
      try clear c1
      try clear p2
      try clear c3
      try clear c3b0
      try clear c3b1
      try clear c3b2
      obtain ⟨x13_1, rfl, HA, HK1, ⟨m1, rfl⟩⟩ := hrel
      cases gk with
      | zero => exact absurd HA.out (by simp [crossdocknum_Ints.l0])
      | succ k1 =>
        have H := HA.out
        clear HA
        simp only [crossdocknum_Ints.l0] at H
        by_cases c4 : x13_1 < (l0.length : Int)
        · rw [if_pos c4] at H
          have c4b0 : decide (x13_1 < (l0.length : Int)) = true := decide_eq_true c4
          clear c4
          by_cases c5 : 0 ≤ x13_1
          · rw [if_pos c5] at H
            have c5b0 : decide (0 ≤ x13_1) = true := decide_eq_true c5
            clear c5
            by_cases c6 : x13_1 < (l0.length : Int)
            · rw [if_pos c6] at H
              have c6b0 : decide (x13_1 < (l0.length : Int)) = true := decide_eq_true c6
              clear c6
              by_cases c7 : x13_1 < (l1.length : Int)
              · rw [if_pos c7] at H
                have c7b0 : decide (x13_1 < (l1.length : Int)) = true := decide_eq_true c7
                clear c7
                by_cases c8 : (rd l0 x13_1) = (rd l1 x13_1)
                · rw [if_pos c8] at H
                  have c8b0 : ((rd l0 x13_1) == (rd l1 x13_1)) = true := beq_iff_eq.mpr c8
                  have c8b1 : ((rd l0 x13_1) != (rd l1 x13_1)) = false := bne_eq_false_iff_eq.mpr c8
                  clear c8
                  have H' := Aside0.mk H
                  clear H
                  have p111 : 0 ≤ (x13_1 : Int) := of_decide_eq_true (by first | (with_reducible assumption) | assumption)
                  have q111 : x13_1 < (l0.length : Int) := of_decide_eq_true (by first | (with_reducible assumption) | assumption)
                  obtain ⟨ad111, e111, hx111_0⟩ := Kd.at_int HR0.out x13_1 p111 q111
                  cases e111
                  replace p111 := eq_true p111
                  replace q111 := eq_true q111
                  have p112 : 0 ≤ (x13_1 : Int) := of_decide_eq_true (by first | (with_reducible assumption) | assumption)
                  have q112 : x13_1 < (l1.length : Int) := of_decide_eq_true (by first | (with_reducible assumption) | assumption)
                  obtain ⟨ad112, e112, hx112_0⟩ := Kd.at_int HR1.out x13_1 p112 q112
                  cases e112
                  replace p112 := eq_true p112
                  replace q112 := eq_true q112
                  go_wp2
                  repeat (go_quiet (fail); try go_wp2)
                  go_roundg k1
                  case measure => have := HK1.out; omega
                  case rel => exact ⟨(wrap64 (x13_1 + 1)), (by first | rfl | (simp; done) | (simp [*]; done)), H', ⟨by have := HK1.out; omega⟩, by repeat (first | exact Drawn0.refl _ | apply Drawn0.step)⟩
                · rw [if_neg c8] at H
                  have c8b0 : ((rd l0 x13_1) == (rd l1 x13_1)) = false := beq_eq_false_iff_ne.mpr c8
                  have c8b1 : ((rd l0 x13_1) != (rd l1 x13_1)) = true := bne_iff_ne.mpr c8
                  obtain rfl := Option.some.inj H
                  have p111 : 0 ≤ (x13_1 : Int) := of_decide_eq_true (by first | (with_reducible assumption) | assumption)
                  have q111 : x13_1 < (l0.length : Int) := of_decide_eq_true (by first | (with_reducible assumption) | assumption)
                  obtain ⟨ad111, e111, hx111_0⟩ := Kd.at_int HR0.out x13_1 p111 q111
                  cases e111
                  replace p111 := eq_true p111
                  replace q111 := eq_true q111
                  have p112 : 0 ≤ (x13_1 : Int) := of_decide_eq_true (by first | (with_reducible assumption) | assumption)
                  have q112 : x13_1 < (l1.length : Int) := of_decide_eq_true (by first | (with_reducible assumption) | assumption)
                  obtain ⟨ad112, e112, hx112_0⟩ := Kd.at_int HR1.out x13_1 p112 q112
                  cases e112
                  replace p112 := eq_true p112
                  replace q112 := eq_true q112
                  go_wp2
                  repeat (go_quiet (fail); try go_wp2)
                  go_ret
                  exact ⟨by first | rfl | (simp; done) | (simp [*]; done), by repeat (first | exact Drawn0.refl _ | apply Drawn0.step)⟩
              · rw [if_neg c7] at H
                exact absurd H (by simp)
            · rw [if_neg c6] at H
              exact absurd H (by simp)
          · rw [if_neg c5] at H
            exact absurd H (by simp)
        · rw [if_neg c4] at H
          have c4b0 : decide (x13_1 < (l0.length : Int)) = false := decide_eq_false c4
          clear c4
          obtain rfl := Option.some.inj H
          go_wp2
          repeat (go_quiet (fail); try go_wp2)
          go_ret
          exact ⟨by first | rfl | (simp; done) | (simp [*]; done), by repeat (first | exact Drawn0.refl _ | apply Drawn0.step)⟩
  · rw [if_neg c3] at H
    have c3b0 : ((l0.length : Int) == (l1.length : Int)) = false := beq_eq_false_iff_ne.mpr c3
    have c3b1 : ((l0.length : Int) != (l1.length : Int)) = true := bne_iff_ne.mpr c3
    have c3b2 : (l0.length == l1.length) = false := by first | simpa using c3 | (simp at c3 ⊢; omega)
    obtain rfl := Option.some.inj H
    go_enter Try.func10, Try.ntmps10
    go_wp2
    repeat (go_quiet (fail); try go_wp2)
    go_ret
    exact ⟨by first | rfl | (simp; done) | (simp [*]; done), by repeat (first | exact Drawn0.refl _ | apply Drawn0.step)⟩


end Go.Proofs.Ytlgpmpnobcdogaa.MyDocCodes

/- The document's codes, plainly: its rows of bits, and what it answers to which lengths. -/
namespace Go.Proofs.Ytlgpmpnobcdogaa.My
open Go.RowKit Go.Proofs.Ytlgpmpnobcdogaa.Huf Go.Proofs.Ytlgpmpnobcdogaa.PHuffCodes Go.Proofs.Ytlgpmpnobcdogaa.MyDocCodes Go.Proofs.YtlgpmpnobcdogaaW.PrintWords Go.Proofs.YtlgpmpnobcdogaaW.PrintLast Go.Proofs.YtlgpmpnobcdogaaW.PrintMore
set_option linter.unusedVariables false
set_option linter.unusedSimpArgs false

theorem wn (x : Int) (h0 : -9223372036854775808 ≤ x) (h : x ≤ 9223372036854775807) : wrap64 x = x := by unfold wrap64; omega
theorem un (x : Int) (h0 : 0 ≤ x) (h : x ≤ 18446744073709551615) : IntKind.u64.wrap x = x := IntWalk.u64_in x ⟨h0, h⟩
/-- A bit as a digit. -/
def bitc (x i : Nat) : ByteArray := if x / 2 ^ i % 2 = 1 then ⟨#[49]⟩ else ⟨#[48]⟩
theorem bitc_size (x i : Nat) : (bitc x i).size = 1 := by unfold bitc; split <;> rfl
/-- So many bits, behind a text. -/
def rowF (x : Nat) : Nat → ByteArray → ByteArray
  | 0, acc => acc
  | j + 1, acc => rowF x j (acc ++ bitc x j)
theorem shr_nat (x j : Nat) (h : j ≤ 60) : shr .i64 (x : Int) (IntKind.u64.wrap (j : Int)) = ((x / 2 ^ j : Nat) : Int) := by
  rw [un (j : Int) (by omega) (by omega)]
  show (x : Int) / 2 ^ min (j : Int).toNat 64 = _
  rw [Nat.min_eq_left (by omega)]
  simp
theorem size_app (a b : ByteArray) : (a ++ b).size = a.size + b.size := ByteArray.size_append
theorem rowD_run (x : Nat) : ∀ (j k : Nat) (acc : ByteArray), j ≤ 60 → acc.size + j ≤ 1000 → crossdockref07_row.l0 (k + j + 1) x acc ((j : Int) - 1) = some (rowF x j acc)
  | 0, k, acc, _, _ => by
    simp only [crossdockref07_row.l0, rowF]
    rw [if_neg (by omega)]
  | j + 1, k, acc, hj, hs => by
    rw [show k + (j + 1) + 1 = (k + j + 1) + 1 from rfl]
    simp only [crossdockref07_row.l0, rowF]
    rw [if_pos (by omega), show (((j + 1 : Nat) : Int) - 1) = (j : Int) from by omega, if_pos (by rw [un (j : Int) (by omega) (by omega)]; omega), shr_nat x j (by omega)]
    rw [wn ((j : Int) - 1) (by omega) (by omega)]
    have ih := rowD_run x j k (acc ++ bitc x j) (by omega) (by rw [size_app, bitc_size]; omega)
    unfold bitc at ih ⊢
    have ht : Int.tmod ((x / 2 ^ j : Nat) : Int) 2 = ((x / 2 ^ j % 2 : Nat) : Int) := by rw [Int.tmod_eq_emod_of_nonneg (Int.natCast_nonneg _)]; exact (Int.natCast_emod _ _).symm
    rw [ht]
    generalize x / 2 ^ j % 2 = q at *
    by_cases hb : q = 1
    · rw [if_pos hb] at ih ⊢
      rw [if_pos (by omega), if_pos (by omega)]
      exact ih
    · rw [if_neg hb] at ih ⊢
      rw [if_neg (by omega), if_pos (by omega)]
      exact ih
theorem rowD (x n k : Nat) (h : n ≤ 60) : crossdockref07_row.f (k + n + 1) x n = some (rowF x n ⟨#[]⟩) := by
  unfold crossdockref07_row.f
  rw [wn _ (by omega) (by omega)]
  exact rowD_run x n k _ h (by show 0 + n ≤ 1000; omega)
theorem digit (x j : Nat) (hx : x < 9223372036854775808) : strOfNums [wrap64 (48 + Go.bits .and .i64 ((x / 2 ^ j : Nat) : Int) 1) % 256] = bitc x j := by
  have h1 : x / 2 ^ j < 9223372036854775808 := Nat.lt_of_le_of_lt (Nat.div_le_self _ _) hx
  rw [Go.Proofs.and_one _ h1]
  unfold bitc
  have h2 : x / 2 ^ j % 2 < 2 := Nat.mod_lt _ (by decide)
  by_cases hb : x / 2 ^ j % 2 = 1
  · rw [if_pos hb, hb]; decide +kernel
  · rw [if_neg hb, show x / 2 ^ j % 2 = 0 by omega]; decide +kernel
theorem rowL_run (x : Nat) (hx : x < 9223372036854775808) : ∀ (j k : Nat) (acc : ByteArray), j ≤ 60 → acc.size + j ≤ 1000 → crossdocklaw07_row.l0 (k + j + 1) x acc ((j : Int) - 1) = some (rowF x j acc)
  | 0, k, acc, _, _ => by
    simp only [crossdocklaw07_row.l0, rowF]
    rw [if_neg (by omega)]
  | j + 1, k, acc, hj, hs => by
    rw [show k + (j + 1) + 1 = (k + j + 1) + 1 from rfl]
    simp only [crossdocklaw07_row.l0, rowF]
    rw [if_pos (by omega), show (((j + 1 : Nat) : Int) - 1) = (j : Int) from by omega, if_pos (by rw [un (j : Int) (by omega) (by omega)]; omega), shr_nat x j (by omega)]
    rw [wn ((j : Int) - 1) (by omega) (by omega)]
    rw [Option.bind_some, digit x j hx, if_pos (by rw [bitc_size]; omega)]
    exact rowL_run x hx j k (acc ++ bitc x j) (by omega) (by rw [size_app, bitc_size]; omega)
theorem rowL (x n k : Nat) (hx : x < 9223372036854775808) (h : n ≤ 60) : crossdocklaw07_row.f (k + n + 1) x n = some (rowF x n ⟨#[]⟩) := by
  unfold crossdocklaw07_row.f
  rw [wn _ (by omega) (by omega)]
  exact rowL_run x hx n k _ h (by show 0 + n ≤ 1000; omega)
end Go.Proofs.Ytlgpmpnobcdogaa.My

/- The document's Codes answers what New does. -/
namespace Go.Proofs.Ytlgpmpnobcdogaa.My
open Go.RowKit Go.Proofs.Ytlgpmpnobcdogaa.Huf Go.Proofs.Ytlgpmpnobcdogaa.PHuffCodes Go.Proofs.Ytlgpmpnobcdogaa.MyDocCodes Go.Proofs.YtlgpmpnobcdogaaW.PrintWords Go.Proofs.YtlgpmpnobcdogaaW.PrintLast Go.Proofs.YtlgpmpnobcdogaaW.PrintMore
set_option linter.unusedVariables false
set_option linter.unusedSimpArgs false

def rowOf (L : List Int) (u : Nat) : ByteArray := rowF (code L u) (L.getD u 0).toNat ⟨#[]⟩
/-- All codes as rows of bits. -/
def wantL (L : List Int) : List ByteArray := (List.range L.length).map (rowOf L)
/-- Those that are laid so far: all of lengths below n, and of length n those ahead of t. -/
def outL (L : List Int) (n t : Nat) : List ByteArray := (List.range L.length).map fun u => if L.getD u 0 ≠ 0 ∧ (L.getD u 0 < (n : Int) ∨ L.getD u 0 = (n : Int) ∧ u < t) then rowOf L u else ⟨#[]⟩
theorem outL_len (L : List Int) (n t : Nat) : (outL L n t).length = L.length := by simp [outL]
theorem map_range_congr {α : Type} (n : Nat) (f g : Nat → α) (h : ∀ u, u < n → f u = g u) : (List.range n).map f = (List.range n).map g := by
  apply List.map_congr_left
  intro u hu
  exact h u (List.mem_range.1 hu)
theorem outL_skip (L : List Int) (n s : Nat) (h : L.getD s 0 ≠ (n : Int)) : outL L n (s + 1) = outL L n s := map_range_congr _ _ _ fun u hu => by
  have : (L.getD u 0 ≠ 0 ∧ (L.getD u 0 < (n : Int) ∨ L.getD u 0 = (n : Int) ∧ u < s + 1)) ↔ (L.getD u 0 ≠ 0 ∧ (L.getD u 0 < (n : Int) ∨ L.getD u 0 = (n : Int) ∧ u < s)) := by
    by_cases e : u = s
    · subst e
      exact ⟨fun ⟨a, b⟩ => ⟨a, b.elim .inl fun c => absurd c.1 h⟩, fun ⟨a, b⟩ => ⟨a, b.elim .inl fun c => absurd c.1 h⟩⟩
    · exact ⟨fun ⟨a, b⟩ => ⟨a, b.elim .inl fun c => .inr ⟨c.1, by omega⟩⟩, fun ⟨a, b⟩ => ⟨a, b.elim .inl fun c => .inr ⟨c.1, by omega⟩⟩⟩
  simp only [this]
theorem outL_set (L : List Int) (n s : Nat) (hn : n ≠ 0) (h : L.getD s 0 = (n : Int)) : (outL L n s).set s (rowOf L s) = outL L n (s + 1) := by
  apply List.ext_getElem
  · simp [outL]
  · intro u a b
    rw [List.getElem_set]
    simp only [outL, List.getElem_map, List.getElem_range]
    split
    · next e =>
      subst e
      rw [if_pos ⟨by rw [h]; omega, .inr ⟨h, by omega⟩⟩]
    · next e =>
      have : (L.getD u 0 ≠ 0 ∧ (L.getD u 0 < (n : Int) ∨ L.getD u 0 = (n : Int) ∧ u < s + 1)) ↔ (L.getD u 0 ≠ 0 ∧ (L.getD u 0 < (n : Int) ∨ L.getD u 0 = (n : Int) ∧ u < s)) :=
        ⟨fun ⟨a, b⟩ => ⟨a, b.elim .inl fun c => .inr ⟨c.1, by omega⟩⟩, fun ⟨a, b⟩ => ⟨a, b.elim .inl fun c => .inr ⟨c.1, by omega⟩⟩⟩
      simp only [this]
theorem outL_next (L : List Int) (n : Nat) : outL L n L.length = outL L (n + 1) 0 := map_range_congr _ _ _ fun u hu => by
  have : (L.getD u 0 ≠ 0 ∧ (L.getD u 0 < (n : Int) ∨ L.getD u 0 = (n : Int) ∧ u < L.length)) ↔ (L.getD u 0 ≠ 0 ∧ (L.getD u 0 < ((n + 1 : Nat) : Int) ∨ L.getD u 0 = ((n + 1 : Nat) : Int) ∧ u < 0)) :=
    ⟨fun ⟨a, b⟩ => ⟨a, b.elim (fun c => .inl (by omega)) fun c => .inl (by omega)⟩, fun ⟨a, b⟩ => ⟨a, b.elim (fun c => by by_cases e : L.getD u 0 = (n : Int); exact .inr ⟨e, hu⟩; exact .inl (by omega)) fun c => by omega⟩⟩
  simp only [this]
theorem getD_ok (L : List Int) (hok : okL L = true) (u : Nat) (hu : u < L.length) : 0 ≤ L.getD u 0 ∧ L.getD u 0 ≤ 15 := by
  have hmem : L.getD u 0 ∈ L := by rw [List.getD_eq_getElem?_getD, List.getElem?_eq_getElem hu]; exact List.getElem_mem _
  have := List.all_eq_true.1 hok _ hmem
  simpa using this
theorem outL_all (L : List Int) (hok : okL L = true) : outL L 16 0 = wantL L := map_range_congr _ _ _ fun u hu => by
  have h := getD_ok L hok u hu
  by_cases e : L.getD u 0 = 0
  · rw [if_neg (fun c => c.1 e)]
    unfold rowOf
    rw [e]
    rfl
  · rw [if_pos ⟨e, .inl (by omega)⟩]
theorem outL_none (L : List Int) (hok : okL L = true) : List.replicate L.length (⟨#[]⟩ : ByteArray) = outL L 1 0 := by
  apply List.ext_getElem
  · simp [outL]
  · intro u a b
    have hu : u < L.length := by simpa using a
    have h := getD_ok L hok u hu
    simp only [outL, List.getElem_replicate, List.getElem_map, List.getElem_range]
    rw [if_neg (fun c => by rcases c.2 with d | d <;> omega)]
theorem shl_one (n : Nat) (h : n ≤ 40) : shl .i64 1 (IntKind.u64.wrap (n : Int)) = ((2 ^ n : Nat) : Int) := by
  rw [un (n : Int) (by omega) (by omega)]
  have h1 : 2 ^ n ≤ 2 ^ 40 := Nat.pow_le_pow_right (by decide) h
  show IntKind.i64.wrap (1 * 2 ^ min (n : Int).toNat 64) = _
  rw [Nat.min_eq_left (by omega), Int.toNat_natCast, Int.one_mul, show ((2 : Int) ^ n) = ((2 ^ n : Nat) : Int) by push_cast; rfl, IntKind.wrap_i64]
  generalize 2 ^ n = q at *
  omega
def onesF (L : List Int) (n s : Nat) : Nat := if n = 1 then cn (L.take s) 1 else cn L 1
theorem step_mul (a b q : Nat) : (a + (b + 1)) * q = (a + b) * q + q := by rw [← Nat.add_assoc]; exact Nat.succ_mul _ _
theorem wr2 (a b n : Nat) (h15 : n ≤ 15) (hle : a + b ≤ 2 ^ n) : wrap64 ((((a + b) * 2 ^ (15 - n) : Nat) : Int) + ((2 ^ (15 - n) : Nat) : Int)) = (((a + (b + 1)) * 2 ^ (15 - n) : Nat) : Int) := by
  have hu : 2 ^ n * 2 ^ (15 - n) = 2 ^ 15 := by rw [← Nat.pow_add]; congr 1; omega
  have hu2 : (a + b) * 2 ^ (15 - n) ≤ 2 ^ 15 := by rw [← hu]; exact Nat.mul_le_mul_right _ hle
  have hu3 : 2 ^ (15 - n) ≤ 2 ^ 15 := Nat.pow_le_pow_right (by decide) (by omega)
  rw [step_mul]
  clear hu hle
  generalize (a + b) * 2 ^ (15 - n) = q1 at *
  generalize 2 ^ (15 - n) = q2 at *
  have h1 : q1 ≤ 32768 := hu2
  have h2 : q2 ≤ 32768 := hu3
  clear hu2 hu3
  rw [wn _ (by omega) (by omega)]
  omega
theorem wr1 (x : Nat) (h : x ≤ 1000000) : wrap64 ((x : Int) + 1) = ((x + 1 : Nat) : Int) := by rw [wn _ (by omega) (by omega)]; omega
theorem beg_le2 (L : List Int) (hl : L.length ≤ 320) (n s : Nat) (h15 : n ≤ 15) : beg L n + cn (L.take s) n ≤ 1000000 := by
  have h4 := beg_le L n
  have h5 := cn_take_le L s n
  have h6 := cn_le L n
  have h7 : n * L.length ≤ 15 * 320 := Nat.mul_le_mul h15 hl
  omega
theorem ones_le (L : List Int) (hl : L.length ≤ 320) (n s : Nat) : onesF L n s ≤ 1000000 := by
  unfold onesF
  split
  · have := cn_take_le L s 1; have := cn_le L 1; omega
  · have := cn_le L 1; omega
theorem pow15 (n x : Nat) (h15 : n ≤ 15) (h : x ≤ 2 ^ n) : x ≤ 1000000 := by
  have h1 : 2 ^ n ≤ 2 ^ 15 := Nat.pow_le_pow_right (by decide) h15
  exact Nat.le_trans h (Nat.le_trans h1 (by decide))
theorem l2_run (L : List Int) (lone : Bool) (hl : L.length ≤ 320) (n : Nat) (h1 : 1 ≤ n) (h15 : n ≤ 15) (k : Nat) (hk : 17 ≤ k) : ∀ d s, s + d = L.length → fst L n + cn (L.take s) n ≤ 2 ^ n →
    crossdockref07_Codes.l2 (k + 1 + d) L lone (outL L n s) ((fst L n + cn (L.take s) n : Nat) : Int) (((fst L n + cn (L.take s) n) * 2 ^ (15 - n) : Nat) : Int) ((beg L n + cn (L.take s) n : Nat) : Int) ((onesF L n s : Nat) : Int) (n : Int) (s : Int) =
      if over L n then some ([], 14) else crossdockref07_Codes.l1 k L lone (outL L n L.length) ((fst L n + cn L n : Nat) : Int) (((fst L n + cn L n) * 2 ^ (15 - n) : Nat) : Int) ((beg L n + cn L n : Nat) : Int) ((onesF L n L.length : Nat) : Int) ((n + 1 : Nat) : Int)
  | 0, s, hs, hle => by
    have : s = L.length := by omega
    subst this
    rw [List.take_length] at hle ⊢
    rw [Nat.add_zero, show k + 1 = Nat.succ k from rfl]
    simp only [crossdockref07_Codes.l2]
    rw [if_neg (by omega), wn _ (by omega) (by omega), if_neg (show ¬ over L n = true by unfold over; simpa using hle)]
    rfl
  | d + 1, s, hs, hle => by
    have hlt : s < L.length := by omega
    have hx := getD_some L s hlt
    have ih := l2_run L lone hl n h1 h15 k hk d (s + 1) (by omega)
    rw [show k + 1 + (d + 1) = Nat.succ (k + 1 + d) from rfl]
    simp only [crossdockref07_Codes.l2]
    rw [if_pos (by omega), if_pos (by omega), show rd L (s : Int) = L.getD s 0 from by unfold rd; rw [Int.toNat_natCast]]
    rw [cn_take L s n _ hx] at ih
    have hs1 : wrap64 ((s : Int) + 1) = ((s + 1 : Nat) : Int) := by rw [wn _ (by omega) (by omega)]; omega
    by_cases e : L.getD s 0 = (n : Int)
    · rw [if_pos e, if_pos (by rw [un _ (by omega) (by omega)]; omega), shl_one n (by omega)]
      rw [if_pos e] at ih
      have hcl := cn_take_le L (s + 1) n
      rw [cn_take L s n _ hx, if_pos e] at hcl
      by_cases hov : fst L n + cn (L.take s) n = 2 ^ n
      · rw [if_pos (by omega), if_pos (show over L n = true by unfold over; exact decide_eq_true (by omega))]
      · rw [if_neg (by omega), show k + 1 + d = (k + d - n) + n + 1 by omega, rowD _ n _ (by omega), Option.bind_some, if_pos (by rw [outL_len]; omega), Option.bind_some]
        have hcode : rowF (fst L n + cn (L.take s) n) n ⟨#[]⟩ = rowOf L s := by
          unfold rowOf code
          rw [e]
          simp only [Int.toNat_natCast]
          rw [if_neg (by omega)]
        rw [hcode, Int.toNat_natCast, outL_set L n s (by omega) e]
        have h15n : wrap64 (15 - (n : Int)) = ((15 - n : Nat) : Int) := by rw [wn _ (by omega) (by omega)]; omega
        rw [h15n, if_pos (by rw [un _ (by omega) (by omega)]; omega), shl_one (15 - n) (by omega)]
        have w1 : wrap64 (((fst L n + cn (L.take s) n : Nat) : Int) + 1) = ((fst L n + (cn (L.take s) n + 1) : Nat) : Int) := wr1 _ (pow15 n _ h15 hle)
        have w2 := wr2 (fst L n) (cn (L.take s) n) n h15 hle
        have w3 : wrap64 (((beg L n + cn (L.take s) n : Nat) : Int) + 1) = ((beg L n + (cn (L.take s) n + 1) : Nat) : Int) := wr1 _ (beg_le2 L hl n s h15)
        have w4 : wrap64 (((onesF L n s : Nat) : Int) + 1) = ((onesF L n s + 1 : Nat) : Int) := wr1 _ (ones_le L hl n s)
        have hle1 : fst L n + (cn (L.take s) n + 1) ≤ 2 ^ n := Nat.succ_le_of_lt (Nat.lt_of_le_of_ne hle hov)
        have hkk : k + d - n + n + 1 = k + 1 + d := by clear w1 w2 w3 w4 ih hle hov hle1; omega
        have hn1i : n = 1 → ((n : Int) = 1) := fun e => by rw [e]; rfl
        have hn1j : n ≠ 1 → ¬ ((n : Int) = 1) := fun e e2 => e (by clear w1 w2 w3 w4 ih hle hov hle1; omega)
        replace ih := ih hle1
        rw [hkk, w1, w2, w3, w4, hs1]
        by_cases hn1 : n = 1
        · rw [if_pos (hn1i hn1), ← ih]
          have : onesF L n (s + 1) = onesF L n s + 1 := by
            unfold onesF
            subst hn1
            rw [if_pos rfl, if_pos rfl, cn_take L s 1 _ hx, if_pos e]
          rw [this]
        · rw [if_neg (hn1j hn1), ← ih]
          have : onesF L n (s + 1) = onesF L n s := by unfold onesF; rw [if_neg hn1, if_neg hn1]
          rw [this]
    · rw [if_neg e, hs1]
      rw [if_neg e, Nat.add_zero, outL_skip L n s e] at ih
      rw [← ih hle]
      have : onesF L n (s + 1) = onesF L n s := by
        unfold onesF
        split
        · next hn1 => subst hn1; rw [cn_take L s 1 _ hx, if_neg e]; rfl
        · rfl
      rw [this]
/-- How many codes there are up to a length, of that length. -/
def pre (L : List Int) (n : Nat) : Nat := fst L (n - 1) + c0 L (n - 1)
def doneR (L : List Int) (lone : Bool) (b : Bool) : List ByteArray × Int :=
  if b = true then ([], 14) else if fst L 15 + cn L 15 = 32768 then (wantL L, 0) else if lone = true ∧ aloneL L = true then (wantL L, 0) else ([], 2)
theorem pre_succ (L : List Int) (n : Nat) (h1 : 1 ≤ n) : pre L (n + 1) = fst L n + cn L n := by
  unfold pre
  rw [Nat.add_sub_cancel]
  unfold c0
  rw [if_neg (by omega)]
theorem fst_pre (L : List Int) (n : Nat) (h1 : 1 ≤ n) : fst L n = pre L n * 2 := by
  obtain ⟨m, rfl⟩ : ∃ m, n = m + 1 := ⟨n - 1, by omega⟩
  rw [fst]
  unfold pre
  rw [Nat.add_sub_cancel, Nat.mul_comm]
theorem used_pre (L : List Int) (n : Nat) (h1 : 1 ≤ n) (h15 : n ≤ 15) : pre L n * 2 ^ (16 - n) = fst L n * 2 ^ (15 - n) := by
  rw [fst_pre L n h1, Nat.mul_assoc, show 16 - n = (15 - n) + 1 by omega, Nat.pow_succ, Nat.mul_comm 2 (2 ^ (15 - n))]
theorem beg_succ (L : List Int) (n : Nat) (h1 : 1 ≤ n) : beg L (n + 1) = beg L n + cn L n := by rw [beg]; unfold c0; rw [if_neg (by omega)]
theorem aloneL_iff (L : List Int) : aloneL L = true ↔ (beg L 16 = 0 ∨ beg L 16 = 1 ∧ cn L 1 = 1) := by
  unfold aloneL c0
  simp
theorem l1_run (L : List Int) (lone : Bool) (hok : okL L = true) (hl : L.length ≤ 320) (k : Nat) (hk : 17 ≤ k) : ∀ j n, n + j = 16 → 1 ≤ n → (∀ i, 1 ≤ i → i < n → over L i = false) →
    crossdockref07_Codes.l1 (k + (L.length + 2) * j + 1) L lone (outL L n 0) ((pre L n : Nat) : Int) ((pre L n * 2 ^ (16 - n) : Nat) : Int) ((beg L n : Nat) : Int) ((if n = 1 then 0 else cn L 1 : Nat) : Int) (n : Int) = some (doneR L lone (anyOver L j n))
  | 0, n, hn, h1, ho => by
    have : n = 16 := by omega
    subst this
    simp only [crossdockref07_Codes.l1]
    rw [if_neg (by omega), pre_succ L 15 (by omega), outL_all L hok]
    have e0 : (fst L 15 + cn L 15) * 2 ^ (16 - 16) = fst L 15 + cn L 15 := Nat.mul_one _
    rw [e0, show anyOver L 0 16 = false from rfl]
    unfold doneR
    rw [if_neg (show ¬ (false = true) by decide)]
    have ha := aloneL_iff L
    have e1 : (if 16 = 1 then 0 else cn L 1) = cn L 1 := if_neg (by decide)
    rw [e1]
    by_cases c : fst L 15 + cn L 15 = 32768
    · rw [if_pos (by omega), if_pos c]
    · rw [if_neg (by omega), if_neg c]
      cases lone with
      | false => rw [if_neg (by decide), if_neg (fun h => absurd h.1 (by decide))]
      | true =>
        rw [if_pos rfl]
        by_cases b0 : beg L 16 = 0
        · rw [if_pos (by omega), if_pos ⟨rfl, ha.2 (.inl b0)⟩]
        · rw [if_neg (by omega)]
          by_cases b1 : beg L 16 = 1
          · rw [if_pos (by omega)]
            by_cases b2 : cn L 1 = 1
            · rw [if_pos (by omega), if_pos ⟨rfl, ha.2 (.inr ⟨b1, b2⟩)⟩]
            · rw [if_neg (by omega), if_neg (fun h => (ha.1 h.2).elim b0 (fun h => b2 h.2))]
          · rw [if_neg (by omega), if_neg (fun h => (ha.1 h.2).elim b0 (fun h => b1 h.1))]
  | j + 1, n, hn, h1, ho => by
    have h15 : n ≤ 15 := by omega
    have hf := fst_le L n ho
    have hfuel : k + (L.length + 2) * (j + 1) + 1 = Nat.succ ((k + (L.length + 2) * j + 1) + 1 + L.length) := by rw [Nat.mul_succ]; omega
    rw [hfuel]
    simp only [crossdockref07_Codes.l1]
    rw [if_pos (by omega)]
    have hp := fst_pre L n h1
    have hpl := pow15 n _ h15 hf
    have w0 : wrap64 (((pre L n : Nat) : Int) * 2) = ((fst L n : Nat) : Int) := by rw [wn _ (by omega) (by omega)]; omega
    rw [w0, used_pre L n h1 h15]
    have h2 := l2_run L lone hl n h1 h15 (k + (L.length + 2) * j + 1) (by omega) L.length 0 (by omega) (by simpa [cn] using hf)
    have e0 : cn (L.take 0) n = 0 := by simp [cn]
    have e1 : onesF L n 0 = if n = 1 then 0 else cn L 1 := by unfold onesF; simp [cn]
    rw [e0, Nat.add_zero, Nat.add_zero, e1] at h2
    refine h2.trans ?_
    rw [anyOver]
    by_cases hov : over L n = true
    · rw [if_pos hov, hov, Bool.true_or]
      unfold doneR
      rw [if_pos rfl]
    · have hov' : over L n = false := by simpa using hov
      rw [if_neg hov, hov', Bool.false_or]
      have ih := l1_run L lone hok hl k hk j (n + 1) (by omega) (by omega) (fun i hi1 hi2 => by
        by_cases e : i = n
        · rw [e]; exact hov'
        · exact ho i hi1 (by omega))
      rw [pre_succ L n h1, beg_succ L n h1, show 16 - (n + 1) = 15 - n by omega, if_neg (by omega), ← outL_next L n] at ih
      have e2 : onesF L n L.length = cn L 1 := by
        unfold onesF
        split
        · rw [List.take_length]
        · rfl
      rw [e2]
      exact ih
theorem l0_run (L : List Int) (lone : Bool) (hl : L.length ≤ 320) (k : Nat) : ∀ d s, s + d = L.length → (∀ u, u < s → 0 ≤ L.getD u 0 ∧ L.getD u 0 ≤ 15) →
    crossdockref07_Codes.l0 (k + d + 1) L lone L (L.length : Int) (s : Int) = if okL L = true then crossdockref07_Codes.l1 k L lone (List.replicate L.length ⟨#[]⟩) 0 0 0 0 1 else some ([], 1)
  | 0, s, hs, ho => by
    simp only [crossdockref07_Codes.l0]
    have hok : okL L = true := all_true L (fun i x hx => by
      have hi := (List.getElem?_eq_some_iff.1 hx).1
      have := ho i (by omega)
      rw [List.getD_eq_getElem?_getD, hx] at this
      exact this)
    rw [if_neg (by omega), if_pos (by omega), if_pos (by omega), if_pos hok, Int.toNat_natCast]
  | d + 1, s, hs, ho => by
    rw [show k + (d + 1) + 1 = (k + d + 1) + 1 by omega]
    simp only [crossdockref07_Codes.l0]
    rw [if_pos (by omega), if_pos (by omega), if_pos (by omega), show rd L (s : Int) = L.getD s 0 from by unfold rd; rw [Int.toNat_natCast]]
    have hx := getD_some L s (by omega)
    have hbad := all_take L s _ hx
    by_cases c1 : L.getD s 0 < 0
    · rw [if_pos c1, if_neg (by rw [hbad (by omega)]; decide)]
    · rw [if_neg c1]
      by_cases c2 : L.getD s 0 > 15
      · rw [if_pos c2, if_neg (by rw [hbad (by omega)]; decide)]
      · rw [if_neg c2, wr1 s (by omega)]
        exact l0_run L lone hl k d (s + 1) (by omega) (fun u hu => by
          by_cases e : u = s
          · subst e; omega
          · exact ho u (by omega))
/-- The document's answer. -/
def docR (L : List Int) (lone : Bool) : List ByteArray × Int := match newR L lone with | none => (wantL L, 0) | some c => ([], c)
theorem doc_codes (L : List Int) (lone : Bool) : ∃ k, crossdockref07_Codes.f k L lone = some (docR L lone) := by
  refine ⟨(17 + (L.length + 2) * 15 + 1) + L.length + 1, ?_⟩
  unfold crossdockref07_Codes.f docR newR
  by_cases h320 : 320 < L.length
  · rw [if_pos (by omega), if_pos h320]
  · rw [if_neg (by omega), if_neg h320]
    have h0 := l0_run L lone (by omega) (17 + (L.length + 2) * 15 + 1) L.length 0 (by omega) (fun u hu => by omega)
    refine h0.trans ?_
    by_cases hok : okL L = true
    · rw [if_pos hok, if_neg (by rw [hok]; decide)]
      have h1 := l1_run L lone hok (by omega) 17 (Nat.le_refl _) 15 1 (by omega) (by omega) (fun i h1 h2 => by omega)
      rw [← outL_none L hok] at h1
      have hp : pre L 1 = 0 := by unfold pre; simp [fst, c0]
      have hb : beg L 1 = 0 := by simp [beg, c0]
      rw [hp, hb, if_pos rfl, Nat.zero_mul] at h1
      refine h1.trans ?_
      unfold doneR numR
      by_cases hov : anyOver L 15 1 = true
      · rw [if_pos hov, if_pos hov, if_pos (by decide)]
      · rw [if_neg hov, if_neg hov]
        have hov' : anyOver L 15 1 = false := by simpa using hov
        have h15 := over_all L 15 1 hov' 15 (by omega) (by omega)
        have h16 : fst L 15 + cn L 15 ≤ 32768 := by
          unfold over at h15
          have h17 := of_decide_eq_false h15
          rw [show 2 ^ 15 = 32768 from rfl] at h17
          omega
        rw [if_neg (show ¬ (32768 - ((fst L 15 + cn L 15 : Nat) : Int) < 0) by omega)]
        by_cases c : fst L 15 + cn L 15 = 32768
        · rw [if_pos c, if_neg (show ¬ (0 < 32768 - ((fst L 15 + cn L 15 : Nat) : Int) ∧ ¬ (lone = true ∧ aloneL L = true)) by omega)]
        · rw [if_neg c]
          by_cases c2 : lone = true ∧ aloneL L = true
          · rw [if_pos c2, if_neg (fun h => h.2 c2)]
          · rw [if_neg c2, if_pos ⟨by omega, c2⟩]
    · rw [if_neg hok, if_pos (by simpa using hok)]
end Go.Proofs.Ytlgpmpnobcdogaa.My

/- The walk of crossdocknum's Num. -/
namespace Go.Proofs.Ytlgpmpnobcdogaa.My
open Go.RowKit Go.Proofs.YtlgpmpnobcdogaaW.PrintWords Go.Proofs.YtlgpmpnobcdogaaW.PrintLast Go.Proofs.YtlgpmpnobcdogaaW.PrintMore

def numE : Option Int → Int
  | none => 0
  | some c => c
theorem num_calls (e : Option Int) (w : World) (h : ∀ c, e = some c → c ≠ 0) : Calls Try.prog 11 #[errV e] w fun r w' => r = .returned (.int .i64 (numE e)) ∧ w = w' := by
  cases e with
  | none =>
    show Calls Try.prog 11 #[.nilIface] w _
    go_enter Try.func11, Try.ntmps11
    go_wp2
    go_ret
    exact ⟨rfl, rfl⟩
  | some c =>
    have h1 : (c == 0) = false := beq_eq_false_iff_ne.2 (h c rfl)
    have h2 : (c != 0) = true := bne_iff_ne.2 (h c rfl)
    have hta : ∀ (v : Value) (W : World), (Instr.typeAssert (.iface 52 v) 26 52 true).run Try.prog W = .ok (.tuple #[v, .bool true]) W := fun v W => by rfl
    clear h
    show Calls Try.prog 11 #[.iface 52 (.int .i64 c)] w _
    have u1 := Try.underlying26
    have u2 := Try.underlying52
    go_enter Try.func11, Try.ntmps11
    go_wp2
    go_ret
    exact ⟨rfl, rfl⟩
end Go.Proofs.Ytlgpmpnobcdogaa.My

/- A Code that lives, and what New refuses. -/
namespace Go.Proofs.Ytlgpmpnobcdogaa.My
open Go.RowKit Go.Proofs.Ytlgpmpnobcdogaa.Huf Go.Proofs.YtlgpmpnobcdogaaW.PrintWords Go.Proofs.YtlgpmpnobcdogaaW.PrintLast Go.Proofs.YtlgpmpnobcdogaaW.PrintMore
set_option linter.unusedVariables false
set_option linter.unusedSimpArgs false

theorem alive_new : newR [2, 1, 3, 3] false = none := by decide +kernel
theorem alive_code : code [2, 1, 3, 3] 2 = 6 := by decide +kernel
set_option maxHeartbeats 1000000 in
theorem alive_calls (w : World) : Calls Try.prog 7 #[] w fun e w' => e = .returned (.bool true) ∧ Below w.heap.size w w' := by
  have HN : Aside0 (Calls Try.prog 8 #[.slice (some ⟨w.heap.size, 0, none⟩) 4 4, .bool false] (w.alloc (.cells (nums .i64 [2, 1, 3, 3]).toArray 3)) fun e w' => ∃ g, e = .returned (.tuple #[.pointer (some ⟨g, 0, none⟩), .nilIface]) ∧ Below (w.alloc (.cells (nums .i64 [2, 1, 3, 3]).toArray 3)).heap.size (w.alloc (.cells (nums .i64 [2, 1, 3, 3]).toArray 3)) w' ∧
      CodeAt w' (w.alloc (.cells (nums .i64 [2, 1, 3, 3]).toArray 3)).heap.size w'.heap.size g [2, 1, 3, 3]) := ⟨by
    have h : IRow (w.alloc (.cells (nums .i64 [2, 1, 3, 3]).toArray 3)) w.heap.size 3 [2, 1, 3, 3] := alloc_self _ _
    refine (new_calls _ (some ⟨w.heap.size, 0, none⟩) 4 4 [2, 1, 3, 3] false (h.reads (by decide)) (by decide) rfl (fun h => by cases h)).mono ?_
    rintro e w' ⟨v, rfl, hb, _, h2⟩
    obtain ⟨g, rfl, hc⟩ := h2 alive_new
    exact ⟨g, by rw [alive_new]; rfl, hb, hc⟩⟩
  go_enter Try.func7, Try.ntmps7
  go_wp2_with fail
  refine (HN.out).mono ?_
  rintro e w2 ⟨g, rfl, hb, hc⟩
  have HO := Aside0.mk (of_calls w2 _ _ g _ hc (by decide) 2 (by decide))
  have HB := Aside0.mk (below_then (below_alloc (Below.refl _ _) _) (by rw [alloc_size]; omega) hb)
  clear hb hc
  go_wp2_with fail
  refine (HO.out).mono ?_
  rintro e w3 ⟨rfl, hb3⟩
  rw [alive_code]
  have HB3 := Aside0.mk (below_then HB.out HB.out.size hb3)
  clear hb3
  have e3 : List.getD [(2 : Int), 1, 3, 3] 2 0 = 3 := rfl
  rw [e3]
  go_wp2_with fail
  go_ret
  exact ⟨rfl, HB3.out⟩
theorem own_none {w : World} {base n c : Nat} {e : TypeId} {size : Nat} {A : Option Addr} {xs : List Value} (h : w.ownsRow base e size (.slice A n c) n xs) : A = none → n = 0 ∧ c = 0 := by
  rintro rfl
  rcases h.2 with ⟨h1, h2⟩ | ⟨g, cap, cur, h1, _⟩
  · injection h1 with _ _ h3
    exact ⟨h2, h3⟩
  · injection h1 with h1
    cases h1
theorem newR_ne (L : List Int) (lone : Bool) (c : Int) (h : newR L lone = some c) : c ≠ 0 := by
  unfold newR at h
  split at h
  · cases h; decide
  · split at h
    · cases h; decide
    · split at h
      · cases h; decide
      · split at h
        · cases h; decide
        · cases h
theorem newR_none (L : List Int) (lone : Bool) (h : newR L lone = none) : L.length ≤ 320 ∧ okL L = true := by
  unfold newR at h
  split at h
  · cases h
  · split at h
    · cases h
    · next h1 h2 => exact ⟨by omega, by simpa using h2⟩
theorem newR_over (L : List Int) (lone : Bool) (h : newR L lone = none) : anyOver L 15 1 = false := by
  cases hov : anyOver L 15 1 with
  | false => rfl
  | true =>
    unfold newR at h
    split at h
    · cases h
    · split at h
      · cases h
      · rw [if_pos (by unfold numR; rw [if_pos hov]; decide)] at h
        cases h
theorem code_lt (L : List Int) (lone : Bool) (h : newR L lone = none) (s : Nat) (hs : s < L.length) : code L s < 1000000 := by
  obtain ⟨h1, h2⟩ := newR_none L lone h
  have h3 := newR_over L lone h
  have h4 := getD_ok L h2 s hs
  obtain ⟨n, hn⟩ := Int.eq_ofNat_of_zero_le h4.1
  unfold code
  rw [hn, Int.toNat_natCast]
  show (if n = 0 then 0 else fst L n + cn (L.take s) n) < 1000000
  split
  · decide
  · have h5 := fst_le L n (fun j h1 h2 => over_all L 15 1 h3 j h1 (by omega))
    have h6 := pow15 n _ (by omega) h5
    have h7 := cn_take_le L s n
    have h8 := cn_le L n
    have h9 : 2 ^ n ≤ 2 ^ 15 := Nat.pow_le_pow_right (by decide) (by omega)
    have h10 : (2 : Nat) ^ 15 = 32768 := rfl
    omega
theorem wantL_len (L : List Int) : (wantL L).length = L.length := by simp [wantL]
theorem wantL_get (L : List Int) (s : Nat) (h : s < L.length) : rdOf ByteArray.empty (wantL L) (s : Int) = rowOf L s := by
  unfold rdOf wantL
  simp [List.getD_eq_getElem?_getD, h]
end Go.Proofs.Ytlgpmpnobcdogaa.My

/- Taking a sign off bits, plainly. No program in sight. -/
namespace Go.Proofs.Ytlgpmpnobcdogaa.Huf
set_option linter.unusedVariables false
set_option linter.unusedSimpArgs false

/-- A bit of a number, and so many bits from a bit on, the first one the highest. -/
def bv (V i : Nat) : Nat := V / 2 ^ i % 2
def cd (V a : Nat) : Nat → Nat
  | 0 => 0
  | n + 1 => 2 * cd V a n + bv V (a + n)
theorem bv_lt (V i : Nat) : bv V i < 2 := Nat.mod_lt _ (by decide)
theorem cd_lt (V a : Nat) : ∀ n, cd V a n < 2 ^ n
  | 0 => by simp [cd]
  | n + 1 => by
    have := cd_lt V a n
    have := bv_lt V (a + n)
    rw [cd, Nat.pow_succ]
    omega
theorem cd_div (V a n : Nat) : ∀ k, cd V a (n + k) / 2 ^ k = cd V a n
  | 0 => by simp
  | k + 1 => by
    rw [← Nat.add_assoc, cd, Nat.pow_succ, Nat.mul_comm (2 ^ k) 2, ← Nat.div_div_eq_div_mul]
    have := bv_lt V (a + (n + k))
    rw [show (2 * cd V a (n + k) + bv V (a + (n + k))) / 2 = cd V a (n + k) by omega]
    exact cd_div V a n k
/-- A sign with so many ahead of it of its length. -/
theorem sign_at (L : List Int) (n q : Nat) : ∀ i, i ≤ L.length → q < cn (L.take i) n → ∃ s, s < i ∧ L.getD s 0 = (n : Int) ∧ cn (L.take s) n = q
  | 0, _, h => by simp [cn] at h
  | i + 1, hi, h => by
    have hx : L[i]? = some (L.getD i 0) := by rw [List.getD_eq_getElem?_getD, List.getElem?_eq_getElem (by omega)]; rfl
    rw [cn_take L i n _ hx] at h
    by_cases h1 : q < cn (L.take i) n
    · obtain ⟨s, a, b, c⟩ := sign_at L n q i (by omega) h1
      exact ⟨s, by omega, b, c⟩
    · by_cases e : L.getD i 0 = (n : Int)
      · rw [if_pos e] at h
        exact ⟨i, by omega, e, by omega⟩
      · rw [if_neg e] at h
        omega
/-- Is this the sign's length? -/
def Has (L : List Int) (s n : Nat) : Prop := s < L.length ∧ n ≠ 0 ∧ L.getD s 0 = (n : Int)
theorem code_has (L : List Int) (s n : Nat) (h : Has L s n) : code L s = fst L n + cn (L.take s) n := by
  unfold code
  rw [h.2.2, Int.toNat_natCast]
  exact if_neg h.2.1
theorem has_range (L : List Int) (s n : Nat) (h : Has L s n) : fst L n ≤ code L s ∧ code L s < fst L n + cn L n := by
  rw [code_has L s n h]
  have := pos_lt L s h.1 n h.2.2 h.2.1
  omega
theorem range_has (L : List Int) (n c : Nat) (h0 : n ≠ 0) (h1 : fst L n ≤ c) (h2 : c < fst L n + cn L n) : ∃ s, Has L s n ∧ code L s = c := by
  obtain ⟨s, a, b, e⟩ := sign_at L n (c - fst L n) L.length (Nat.le_refl _) (by rw [List.take_length]; omega)
  have h : Has L s n := ⟨a, h0, b⟩
  exact ⟨s, h, by rw [code_has L s n h, e]; omega⟩
theorem fst_grow (L : List Int) (n : Nat) (h0 : n ≠ 0) : ∀ k, (fst L n + cn L n) * 2 ^ (k + 1) ≤ fst L (n + (k + 1))
  | 0 => by
    rw [fst]
    unfold c0
    rw [if_neg h0]
    omega
  | k + 1 => by
    have h := fst_grow L n h0 k
    rw [show n + (k + 1 + 1) = (n + (k + 1)) + 1 by omega, fst, Nat.pow_succ, ← Nat.mul_assoc]
    omega
/-- No code begins with another one. -/
theorem apart (L : List Int) (s t n m : Nat) (hs : Has L s n) (ht : Has L t m) (hnm : n < m) : code L t / 2 ^ (m - n) ≠ code L s := by
  obtain ⟨k, rfl⟩ : ∃ k, m = n + (k + 1) := ⟨m - n - 1, by omega⟩
  have h1 := fst_grow L n hs.2.1 k
  have h2 := has_range L s n hs
  have h3 := has_range L t _ ht
  rw [show n + (k + 1) - n = k + 1 by omega]
  intro e
  have h4 : (code L s + 1) * 2 ^ (k + 1) ≤ (fst L n + cn L n) * 2 ^ (k + 1) := Nat.mul_le_mul_right _ (by omega)
  have h5 : code L t < (code L s + 1) * 2 ^ (k + 1) := by
    rw [← e, Nat.add_mul, Nat.one_mul]
    exact Nat.lt_div_mul_add (Nat.two_pow_pos _)
  omega
theorem cn_step (L : List Int) (s t n : Nat) (hs : Has L s n) (h : s < t) (ht : t ≤ L.length) : cn (L.take s) n < cn (L.take t) n := by
  have hx : L[s]? = some (L.getD s 0) := by rw [List.getD_eq_getElem?_getD, List.getElem?_eq_getElem hs.1]; rfl
  have h1 := cn_take L s n _ hx
  rw [if_pos hs.2.2] at h1
  obtain ⟨k, rfl⟩ : ∃ k, t = (s + 1) + k := ⟨t - (s + 1), by omega⟩
  have := cn_mono L n (s + 1) k
  omega
/-- Signs of a length have codes of their own. -/
theorem code_inj (L : List Int) (s t n : Nat) (hs : Has L s n) (ht : Has L t n) (e : code L s = code L t) : s = t := by
  rw [code_has L s n hs, code_has L t n ht] at e
  rcases Nat.lt_trichotomy s t with h | h | h
  · have := cn_step L s t n hs h (Nat.le_of_lt ht.1); omega
  · exact h
  · have := cn_step L t s n ht h (Nat.le_of_lt hs.1); omega
/-- The bits begin with the sign's code; or they end within it. -/
def Fits (L : List Int) (V a left s n : Nat) : Prop := Has L s n ∧ n ≤ left ∧ code L s = cd V a n
def Cuts (L : List Int) (V a left s n : Nat) : Prop := Has L s n ∧ left < n ∧ code L s / 2 ^ (n - left) = cd V a left
theorem fits_one (L : List Int) (V a left s t n m : Nat) (h : Fits L V a left s n) (k : Fits L V a left t m) : s = t ∧ n = m := by
  rcases Nat.lt_trichotomy n m with c | c | c
  · obtain ⟨d, rfl⟩ : ∃ d, m = n + d := ⟨m - n, by omega⟩
    exact absurd (by rw [k.2.2, h.2.2, show n + d - n = d by omega]; exact cd_div V a n d) (apart L s t n (n + d) h.1 k.1 c)
  · subst c
    exact ⟨code_inj L s t n h.1 k.1 (by rw [h.2.2, k.2.2]), rfl⟩
  · obtain ⟨d, rfl⟩ : ∃ d, n = m + d := ⟨n - m, by omega⟩
    exact absurd (by rw [h.2.2, k.2.2, show m + d - m = d by omega]; exact cd_div V a m d) (apart L t s m (m + d) k.1 h.1 c)
/-- The middle numbers of a length: is there one that begins with these bits? -/
def meets (L : List Int) (c len n : Nat) : Bool := decide (0 < cn L n) && (decide (fst L n < (c + 1) * 2 ^ (n - len)) && decide (c * 2 ^ (n - len) < fst L n + cn L n))
theorem meets_iff (L : List Int) (c len n : Nat) (h0 : n ≠ 0) : meets L c len n = true ↔ ∃ s, Has L s n ∧ code L s / 2 ^ (n - len) = c := by
  unfold meets
  generalize n - len = k
  constructor
  · intro h
    simp only [Bool.and_eq_true, decide_eq_true_eq] at h
    obtain ⟨h1, h2, h3⟩ := h
    have hp := Nat.two_pow_pos k
    have h5 : (c + 1) * 2 ^ k = c * 2 ^ k + 2 ^ k := Nat.succ_mul _ _
    by_cases hm : fst L n ≤ c * 2 ^ k
    · obtain ⟨s, hs, e⟩ := range_has L n (c * 2 ^ k) h0 hm h3
      exact ⟨s, hs, by rw [e]; exact Nat.mul_div_cancel _ hp⟩
    · obtain ⟨s, hs, e⟩ := range_has L n (fst L n) h0 (Nat.le_refl _) (by omega)
      refine ⟨s, hs, ?_⟩
      rw [e]
      apply Nat.div_eq_of_lt_le
      · omega
      · exact h2
  · rintro ⟨s, hs, e⟩
    have h := has_range L s n hs
    have hp := Nat.two_pow_pos k
    have h5 : (c + 1) * 2 ^ k = c * 2 ^ k + 2 ^ k := Nat.succ_mul _ _
    have h6 : c * 2 ^ k ≤ code L s := by rw [← e]; exact Nat.div_mul_le_self _ _
    have h7 : code L s < c * 2 ^ k + 2 ^ k := by rw [← e]; exact Nat.lt_div_mul_add hp
    simp only [Bool.and_eq_true, decide_eq_true_eq]
    omega
/-- Bits that end: one of so many lengths, from n on, has a code that begins with them. -/
def anyMeets (L : List Int) (c len : Nat) : Nat → Nat → Bool
  | 0, _ => false
  | k + 1, n => meets L c len n || anyMeets L c len k (n + 1)
theorem anyMeets_iff (L : List Int) (c len : Nat) : ∀ k n, anyMeets L c len k n = true ↔ ∃ m, n ≤ m ∧ m < n + k ∧ meets L c len m = true
  | 0, n => by simp [anyMeets]; intro m h1 h2; omega
  | k + 1, n => by
    rw [anyMeets, Bool.or_eq_true, anyMeets_iff L c len k (n + 1)]
    constructor
    · rintro (h | ⟨m, h1, h2, h3⟩)
      · exact ⟨n, Nat.le_refl _, by omega, h⟩
      · exact ⟨m, by omega, by omega, h3⟩
    · rintro ⟨m, h1, h2, h3⟩
      by_cases e : m = n
      · subst e; exact .inl h3
      · exact .inr ⟨m, by omega, by omega, h3⟩
/-- What Take answers: a sign and how many bits it took, or an error. -/
inductive TakeR (L : List Int) (V a left : Nat) : Int → Nat → Option Int → Prop
  | sign (s n : Nat) (h : Fits L V a left s n) : TakeR L V a left (s : Int) n none
  | ends (h : ∀ s n, ¬ Fits L V a left s n) (s n : Nat) (h1 : Cuts L V a left s n) : TakeR L V a left 0 0 (some 10)
  | form (h : ∀ s n, ¬ Fits L V a left s n) (h1 : ∀ s n, ¬ Cuts L V a left s n) : TakeR L V a left 0 0 (some 2)
theorem takeR_one {L : List Int} {V a left : Nat} {x y : Int} {n m : Nat} {e f : Option Int} (h : TakeR L V a left x n e) (k : TakeR L V a left y m f) : x = y ∧ n = m ∧ e = f := by
  cases h with
  | sign s n h =>
    cases k with
    | sign t m k => obtain ⟨rfl, rfl⟩ := fits_one L V a left s t n m h k; exact ⟨rfl, rfl, rfl⟩
    | ends k => exact absurd h (k _ _)
    | form k => exact absurd h (k _ _)
  | ends h s n h1 =>
    cases k with
    | sign t m k => exact absurd k (h _ _)
    | ends => exact ⟨rfl, rfl, rfl⟩
    | form _ k => exact absurd h1 (k _ _)
  | form h h1 =>
    cases k with
    | sign t m k => exact absurd k (h _ _)
    | ends _ s n k => exact absurd k (h1 _ _)
    | form => exact ⟨rfl, rfl, rfl⟩
end Go.Proofs.Ytlgpmpnobcdogaa.Huf

/- The walk of huff.Code's short. -/
namespace Go.Proofs.Ytlgpmpnobcdogaa.My
open Go.RowKit Go.Proofs.Ytlgpmpnobcdogaa.Huf Go.Proofs.YtlgpmpnobcdogaaW.PrintWords Go.Proofs.YtlgpmpnobcdogaaW.PrintLast Go.Proofs.YtlgpmpnobcdogaaW.PrintMore
set_option linter.unusedVariables false
set_option linter.unusedSimpArgs false

theorem wr_lo (c len n : Nat) (hc : c < 2 ^ len) (h : len ≤ n) (h15 : n ≤ 15) : wrap64 ((c : Int) * 2 ^ (n - len)) = ((c * 2 ^ (n - len) : Nat) : Int) ∧ c * 2 ^ (n - len) ≤ 32768 := by
  have h1 : c * 2 ^ (n - len) ≤ 2 ^ len * 2 ^ (n - len) := Nat.mul_le_mul_right _ (Nat.le_of_lt hc)
  rw [← Nat.pow_add, show len + (n - len) = n by omega] at h1
  have h2 : 2 ^ n ≤ 2 ^ 15 := Nat.pow_le_pow_right (by decide) h15
  have h3 : c * 2 ^ (n - len) ≤ 32768 := Nat.le_trans h1 h2
  have e : (c : Int) * 2 ^ (n - len) = ((c * 2 ^ (n - len) : Nat) : Int) := by push_cast; rfl
  rw [e]
  clear h1 h2 e
  generalize c * 2 ^ (n - len) = q at *
  exact ⟨by unfold wrap64; omega, h3⟩
theorem wr_one (n : Nat) (h15 : n ≤ 15) : wrap64 (2 ^ n) = ((2 ^ n : Nat) : Int) ∧ 2 ^ n ≤ 32768 := by
  have h2 : 2 ^ n ≤ 2 ^ 15 := Nat.pow_le_pow_right (by decide) h15
  have h3 : 2 ^ n ≤ 32768 := h2
  have e : (2 : Int) ^ n = ((2 ^ n : Nat) : Int) := by push_cast; rfl
  rw [e]
  clear h2 e
  generalize 2 ^ n = q at *
  exact ⟨by unfold wrap64; omega, h3⟩
theorem wr_hi (a b : Nat) (h1 : a ≤ 32768) (h2 : b ≤ 32768) : wrap64 ((a : Int) + (b : Int)) = ((a + b : Nat) : Int) := by unfold wrap64; omega
theorem meets_eq (L : List Int) (c len n : Nat) : meets L c len n = (decide (0 < cn L n) && (decide (fst L n < c * 2 ^ (n - len) + 2 ^ (n - len)) && decide (c * 2 ^ (n - len) < fst L n + cn L n))) := by
  unfold meets
  rw [Nat.succ_mul]
set_option maxHeartbeats 4000000 in
set_option maxRecDepth 100000 in
theorem short_calls (w : World) (lo hi g : Nat) (L : List Int) (k : CodeAt w lo hi g L) (hl : L.length ≤ 1000000) (hov : anyOver L 15 1 = false) (c len : Nat) (hc : c < 2 ^ len) (hlen : len ≤ 15) :
    Calls Try.prog 38 #[.pointer (some ⟨g, 0, none⟩), .int .i64 c, .int .i64 len] w fun e w' => e = .returned (errV (some (if anyMeets L c len (15 - len) (len + 1) then 10 else 2))) ∧ ∃ m, w' = w.drewN m := by
  obtain ⟨r, hr⟩ : ∃ r : Int, r = if anyMeets L c len (15 - len) (len + 1) then 10 else 2 := ⟨_, rfl⟩
  rw [← hr]
  have HR := Aside0.mk hr
  obtain ⟨A, A1, A2, c0, c1, c2, S, k, r0, r1, r2, hS, h1, h2⟩ := k.out
  have HK0 := Aside0.mk k
  have HOv := Aside0.mk hov
  have HLn := Aside0.mk hl
  have hlen2 : (len : Int) ≤ 15 := by omega
  have HC := Aside0.mk hc
  clear k r0 r1 r2 hS hov hl hc hr
  go_enter Try.func38, Try.ntmps38
  go_wp2_with fail
  go_loopg [7] 16 (fun kq v7 wr => ∃ d : Nat, v7 = .int .i64 ((len : Int) + 1 + d) ∧ len + 1 + d ≤ 16 ∧ Aside0 (kq = 16 - d) ∧ Aside0 (∃ m, wr = w.drewN m) ∧ Aside0 (anyMeets L c len (15 - len - d) (len + 1 + d) = anyMeets L c len (15 - len) (len + 1)))
  case atStart => exact ⟨0, by simp, by omega, ⟨rfl⟩, ⟨0, rfl⟩, ⟨rfl⟩⟩
  case round =>
    obtain ⟨d, rfl, hd, HK, HW, HA⟩ := hrel
    obtain ⟨m, rfl⟩ := HW.out
    by_cases hlt : len + 1 + d ≤ 15
    · have hlt' : (len : Int) + 1 + (d : Int) ≤ 15 := by omega
      go_upto_region 6 with fail
      obtain ⟨w1, b1⟩ := wr_lo c len (len + 1 + d) HC.out (by omega) hlt
      obtain ⟨w2, b2⟩ := wr_one (len + 1 + d - len) (by omega)
      rw [w1, w2, wr_hi _ _ b1 b2]
      have hme := meets_eq L c len (len + 1 + d)
      have hov := over_all L 15 1 HOv.out
      have hF := pow15 (len + 1 + d) _ hlt (fst_le L (len + 1 + d) (fun j h1 h2 => hov j h1 (by omega)))
      have hC := Nat.le_trans (cn_le L (len + 1 + d)) HLn.out
      have cf := HK0.out.cf (len + 1 + d) (by omega)
      rw [upto_get _ _ (len + 1 + d) (by omega) (by omega)] at cf
      have cm := HK0.out.cm (len + 1 + d) (by omega)
      rw [tab_get _ (len + 1 + d) (by omega), show Huf.c0 L (len + 1 + d) = cn L (len + 1 + d) by unfold Huf.c0; rw [if_neg (by omega)]] at cm
      have hany : anyMeets L c len (15 - len - d) (len + 1 + d) = (meets L c len (len + 1 + d) || anyMeets L c len (15 - len - (d + 1)) (len + 1 + (d + 1))) := by
        rw [show 15 - len - d = (15 - len - (d + 1)) + 1 by omega]
        rfl
      have HAny := Aside0.mk hany
      have hFi : ((fst L (len + 1 + d) : Nat) : Int) ≤ 1000000 := by omega
      have hCi : ((cn L (len + 1 + d) : Nat) : Int) ≤ 1000000 := by omega
      have HN15 := Aside0.mk hlt
      clear w1 w2 hov hF hC hany
      generalize c * 2 ^ (len + 1 + d - len) = X at *
      generalize 2 ^ (len + 1 + d - len) = Y at *
      generalize fst L (len + 1 + d) = F at *
      generalize cn L (len + 1 + d) = N at *
      have bx : ((X + Y : Nat) : Int) ≤ 65536 := by omega
      by_cases q1 : 0 < N
      · have q1' : (0 : Int) < (N : Int) := by omega
        by_cases q2 : F < X + Y
        · have q2' : (F : Int) < ((X + Y : Nat) : Int) := by omega
          by_cases q3 : X < F + N
          · have q3' : (X : Int) < (F : Int) + (N : Int) := by omega
            have HM : Aside0 (r = 10) := ⟨by
              have h1 : meets L c len (len + 1 + d) = true := by rw [hme]; simp [q1, q2, q3]
              have h2 := HAny.out
              rw [h1, Bool.true_or, HA.out] at h2
              rw [HR.out, if_pos h2]⟩
            clear hme HAny
            generalize X + Y = Z at *
            go_quiet (fail)
            go_wp2_with fail
            go_ret
            have hr2 := HM.out
            subst hr2
            exact ⟨rfl, _, rfl⟩
          · have q3' : ¬ (X : Int) < (F : Int) + (N : Int) := by omega
            have HM : Aside0 (anyMeets L c len (15 - len - (d + 1)) (len + 1 + (d + 1)) = anyMeets L c len (15 - len) (len + 1)) := ⟨by
              have h1 : meets L c len (len + 1 + d) = false := by rw [hme]; simp; omega
              have h2 := HAny.out
              rw [h1, Bool.false_or, HA.out] at h2
              exact h2.symm⟩
            clear hme HAny
            generalize X + Y = Z at *
            go_quiet (fail)
            go_wp2_with fail
            have e1 : (len : Int) + 1 + (d : Int) + 1 = (len : Int) + 1 + ((d + 1 : Nat) : Int) := by omega
            rw [e1]
            go_roundg (16 - (d + 1))
            case measure => have := HK.out; omega
            case rel => exact ⟨d + 1, rfl, by have := HN15.out; omega, ⟨rfl⟩, ⟨_, rfl⟩, HM⟩
        · have q2' : ¬ (F : Int) < ((X + Y : Nat) : Int) := by omega
          have HM : Aside0 (anyMeets L c len (15 - len - (d + 1)) (len + 1 + (d + 1)) = anyMeets L c len (15 - len) (len + 1)) := ⟨by
            have h1 : meets L c len (len + 1 + d) = false := by rw [hme]; simp; omega
            have h2 := HAny.out
            rw [h1, Bool.false_or, HA.out] at h2
            exact h2.symm⟩
          clear hme HAny
          generalize X + Y = Z at *
          go_quiet (fail)
          go_wp2_with fail
          have e1 : (len : Int) + 1 + (d : Int) + 1 = (len : Int) + 1 + ((d + 1 : Nat) : Int) := by omega
          rw [e1]
          go_roundg (16 - (d + 1))
          case measure => have := HK.out; omega
          case rel => exact ⟨d + 1, rfl, by have := HN15.out; omega, ⟨rfl⟩, ⟨_, rfl⟩, HM⟩
      · have q1' : ¬ (0 : Int) < (N : Int) := by omega
        have HM : Aside0 (anyMeets L c len (15 - len - (d + 1)) (len + 1 + (d + 1)) = anyMeets L c len (15 - len) (len + 1)) := ⟨by
          have h1 : meets L c len (len + 1 + d) = false := by rw [hme]; simp; omega
          have h2 := HAny.out
          rw [h1, Bool.false_or, HA.out] at h2
          exact h2.symm⟩
        clear hme HAny
        generalize X + Y = Z at *
        go_quiet (fail)
        go_wp2_with fail
        have e1 : (len : Int) + 1 + (d : Int) + 1 = (len : Int) + 1 + ((d + 1 : Nat) : Int) := by omega
        rw [e1]
        go_roundg (16 - (d + 1))
        case measure => have := HK.out; omega
        case rel => exact ⟨d + 1, rfl, by have := HN15.out; omega, ⟨rfl⟩, ⟨_, rfl⟩, HM⟩
    · have hlt' : ¬ (len : Int) + 1 + (d : Int) ≤ 15 := by omega
      have HM : Aside0 (anyMeets L c len (15 - len) (len + 1) = false) := ⟨by rw [← HA.out, show 15 - len - d = 0 by omega]; rfl⟩
      go_wp2_with fail
      go_ret
      have hr2 := HR.out
      rw [HM.out] at hr2
      subst hr2
      exact ⟨rfl, m, rfl⟩
end Go.Proofs.Ytlgpmpnobcdogaa.My

/- The walks of bits.Writer. -/
namespace Go.Proofs.Ytlgpmpnobcdogaa.My
open Go.RowKit Go.Proofs.YtlgpmpnobcdogaaW.PrintWords Go.Proofs.YtlgpmpnobcdogaaW.PrintLast Go.Proofs.YtlgpmpnobcdogaaW.PrintMore

/-- A writer at a block: its text's slice, the text, what is held, how many bits that is. -/
structure Wr (w : World) (B g : Nat) (v : Value) (t : List Int) (h m : Nat) : Prop where
  blk : w.heap[g]? = some (.cells #[v, .int .u64 h, .int .i64 m] 74 (0, 0))
  row : w.ownsRow B 5 1 v t.length (nums .u8 t)
  bg : B ≤ g
/-- What a call on a writer has turned: its block, its text's row. -/
structure Grew (w w' : World) (g : Nat) (v v' : Value) : Prop where
  os : w'.os = w.os
  tape : w'.tape = w.tape
  output : w'.output = w.output
  keep : KeepBut w w' g v.ownBlock
  at_ : v'.ownBlock = v.ownBlock ∨ ∃ b, v'.ownBlock = some b ∧ w.heap.size ≤ b
theorem Grew.refl (w : World) (g : Nat) (v : Value) : Grew w w g v v := ⟨rfl, rfl, rfl, KeepBut.refl _ _ _, .inl rfl⟩
theorem Grew.trans {w w1 w2 : World} {g : Nat} {v v1 v2 : Value} (h : Grew w w1 g v v1) (k : Grew w1 w2 g v1 v2) : Grew w w2 g v v2 :=
  ⟨k.os.trans h.os, k.tape.trans h.tape, k.output.trans h.output, h.keep.trans k.keep h.at_, by
    rcases k.at_ with e | ⟨b, e, hb⟩
    · rw [e]; exact h.at_
    · exact .inr ⟨b, e, Nat.le_trans h.keep.1 hb⟩⟩
theorem Grew.drewN {w w1 : World} {g : Nat} {v v1 : Value} (h : Grew w w1 g v v1) (n : Nat) : Grew w (w1.drewN n) g v v1 := ⟨h.os, h.tape, h.output, ⟨h.keep.1, h.keep.2⟩, h.at_⟩
theorem Grew.cut {w w1 : World} {g : Nat} {v v1 : Value} (h : Grew w.drew w1 g v v1) : Grew w w1 g v v1 := ⟨h.os, h.tape, h.output, ⟨h.keep.1, h.keep.2⟩, h.at_⟩
theorem Grew.drew {w w1 : World} {g : Nat} {v v1 : Value} (h : Grew w w1 g v v1) : Grew w w1.drew g v v1 := ⟨h.os, h.tape, h.output, ⟨h.keep.1, h.keep.2⟩, h.at_⟩
theorem Grew.set {w w1 : World} {g : Nat} {v v1 : Value} (h : Grew w w1 g v v1) (j : Nat) (u : Value) : Grew w (w1.setCell ⟨g, j, none⟩ u) g v v1 := ⟨h.os, h.tape, h.output, h.keep.set_ j u, h.at_⟩
theorem Wr.drewN {w : World} {B g : Nat} {v : Value} {t : List Int} {h m : Nat} (k : Wr w B g v t h m) (n : Nat) : Wr (w.drewN n) B g v t h m := ⟨k.blk, pw_own_below k.row (pw_below_drewN (Below.refl _ _) n), k.bg⟩
theorem Wr.drew {w : World} {B g : Nat} {v : Value} {t : List Int} {h m : Nat} (k : Wr w B g v t h m) : Wr w.drew B g v t h m := ⟨k.blk, pw_own_below k.row (below_drew (Below.refl _ _)), k.bg⟩
theorem Wr.ne {w : World} {B g : Nat} {v : Value} {t : List Int} {h m : Nat} (k : Wr w B g v t h m) : some g ≠ v.ownBlock := own_ne k.row k.blk (by decide)
/-- held and many are written. -/
theorem Wr.set1 {w : World} {B g : Nat} {v : Value} {t : List Int} {h m : Nat} (k : Wr w B g v t h m) (h' : Nat) : Wr (w.setCell ⟨g, 1, none⟩ (.int .u64 h')) B g v t h' m :=
  ⟨by have := blk_set k.blk 1 (.int .u64 h'); simpa using this, own_setCell k.row k.ne _, k.bg⟩
theorem Wr.set2 {w : World} {B g : Nat} {v : Value} {t : List Int} {h m : Nat} (k : Wr w B g v t h m) (m' : Nat) : Wr (w.setCell ⟨g, 2, none⟩ (.int .i64 m')) B g v t h m' :=
  ⟨by have := blk_set k.blk 2 (.int .i64 m'); simpa using this, own_setCell k.row k.ne _, k.bg⟩
end Go.Proofs.Ytlgpmpnobcdogaa.My

/- Bits as a number: what a writer holds, what a reader takes. No program in sight. -/
namespace Go.Proofs.Ytlgpmpnobcdogaa.My
open Go.RowKit

/-- The bytes of a number, the lowest one first. -/
def leB (V k : Nat) : List Int := (List.range k).map fun i => ((V / 2 ^ (8 * i) % 256 : Nat) : Int)
@[simp] theorem leB_len (V k : Nat) : (leB V k).length = k := by simp [leB]
theorem leB_succ (V k : Nat) : leB V (k + 1) = leB V k ++ [((V / 2 ^ (8 * k) % 256 : Nat) : Int)] := by simp [leB, List.range_succ]
theorem leB_congr {V V' k : Nat} (h : V % 2 ^ (8 * k) = V' % 2 ^ (8 * k)) : leB V k = leB V' k := by
  have aux : ∀ U i, i < k → U / 2 ^ (8 * i) % 256 = U % 2 ^ (8 * k) / 2 ^ (8 * i) % 256 := by
    intro U i hi
    have e : 2 ^ (8 * k) = 2 ^ (8 * i) * 2 ^ (8 * (k - i)) := by rw [← Nat.pow_add]; congr 1; omega
    rw [e, Nat.mod_mul_right_div_self]
    exact (Nat.mod_mod_of_dvd _ (Nat.pow_dvd_pow (m := 8) 2 (by omega))).symm
  unfold leB
  refine List.map_congr_left fun i hi => ?_
  rw [aux V i (List.mem_range.1 hi), h, ← aux V' i (List.mem_range.1 hi)]
theorem leB_add (V x N k : Nat) (h : 8 * k ≤ N) : leB (V + x * 2 ^ N) k = leB V k := by
  refine leB_congr ?_
  rw [show 2 ^ N = 2 ^ (N - 8 * k) * 2 ^ (8 * k) by rw [← Nat.pow_add]; congr 1; omega, ← Nat.mul_assoc, Nat.add_mul_mod_self_right]
theorem held_add (V x N q : Nat) (h : 8 * q ≤ N) : (V + x * 2 ^ N) / 2 ^ (8 * q) = V / 2 ^ (8 * q) + x * 2 ^ (N - 8 * q) := by
  rw [show 2 ^ N = 2 ^ (N - 8 * q) * 2 ^ (8 * q) by rw [← Nat.pow_add]; congr 1; omega, ← Nat.mul_assoc, Nat.add_mul_div_right _ _ (Nat.two_pow_pos _)]
theorem held_lt {V N : Nat} (h : V < 2 ^ N) (q : Nat) (hq : 8 * q ≤ N) : V / 2 ^ (8 * q) < 2 ^ (N - 8 * q) := by
  rw [Nat.div_lt_iff_lt_mul (Nat.two_pow_pos _), ← Nat.pow_add]
  rwa [show N - 8 * q + 8 * q = N by omega]
theorem held_div (V q : Nat) : V / 2 ^ (8 * q) / 256 = V / 2 ^ (8 * (q + 1)) := by
  rw [Nat.div_div_eq_div_mul, show (256 : Nat) = 2 ^ 8 from rfl, ← Nat.pow_add]
  congr 2
theorem held_end {V N : Nat} (h : V < 2 ^ N) : V < 2 ^ (N + 0) := h
theorem val_lt {V x N n : Nat} (h : V < 2 ^ N) (hx : x < 2 ^ n) : V + x * 2 ^ N < 2 ^ (N + n) := by
  have h1 : (x + 1) * 2 ^ N ≤ 2 ^ n * 2 ^ N := Nat.mul_le_mul_right _ hx
  rw [Nat.pow_add, Nat.mul_comm (2 ^ N) (2 ^ n)]
  rw [Nat.add_mul, Nat.one_mul] at h1
  omega
theorem or_low (h x m : Nat) (hh : h < 2 ^ m) : h ||| x * 2 ^ m = h + x * 2 ^ m := by
  rw [Nat.or_comm, Nat.mul_comm x, ← Nat.two_pow_add_eq_or_of_lt hh]
  omega
theorem or_nat64 (a b : Nat) (ha : a < 2 ^ 64) (hb : b < 2 ^ 64) : Go.bits .or .u64 a b = ((a ||| b : Nat) : Int) := by
  have hl : a ||| b < 2 ^ 64 := Nat.or_lt_two_pow ha hb
  show IntKind.u64.wrap ((BitVec.ofInt 64 (a : Int) ||| BitVec.ofInt 64 (b : Int)).toNat : Int) = _
  rw [BitVec.ofInt_natCast, BitVec.ofInt_natCast, BitVec.toNat_or, BitVec.toNat_ofNat, BitVec.toNat_ofNat, Nat.mod_eq_of_lt ha, Nat.mod_eq_of_lt hb, IntKind.wrap_u64]
  omega
/-- What the writer's first step makes of what it holds. -/
theorem or_put (h x m n : Nat) (hh : h < 2 ^ m) (hx : x < 2 ^ n) (hm : m < 8) (hn : n ≤ 32) :
    Go.bits .or .u64 (h : Int) (IntKind.u64.wrap (IntKind.u64.wrap (x : Int) * 2 ^ m)) = ((h + x * 2 ^ m : Nat) : Int) ∧ h + x * 2 ^ m < 2 ^ 40 := by
  have hl : h + x * 2 ^ m < 2 ^ 40 := Nat.lt_of_lt_of_le (val_lt hh hx) (Nat.pow_le_pow_right (by decide) (by omega))
  have hx2 : x < 2 ^ 32 := Nat.lt_of_lt_of_le hx (Nat.pow_le_pow_right (by decide) hn)
  have e0 : IntKind.u64.wrap (x : Int) = x := by rw [IntKind.wrap_u64]; omega
  have e : ((x : Int) * 2 ^ m) = ((x * 2 ^ m : Nat) : Int) := by simp
  have e1 : IntKind.u64.wrap ((x * 2 ^ m : Nat) : Int) = ((x * 2 ^ m : Nat) : Int) := by rw [IntKind.wrap_u64]; omega
  refine ⟨?_, hl⟩
  rw [e0, e, e1, or_nat64 h (x * 2 ^ m) (by omega) (by omega), or_low h x m hh]

theorem leB_getD (V k j : Nat) (h : j < k) : (leB V k).getD j 0 = ((V / 2 ^ (8 * j) % 256 : Nat) : Int) := by simp [leB, List.getD_eq_getElem?_getD, h]
/-- One more byte ahead of what is held. -/
theorem peek_step (V i m : Nat) : V / 2 ^ (8 * i) % 2 ^ (8 * (m + 1)) = V / 2 ^ (8 * (i + 1)) % 2 ^ (8 * m) * 256 + V / 2 ^ (8 * i) % 256 := by
  rw [← held_div, show 8 * (m + 1) = 8 + 8 * m by omega, Nat.pow_add, Nat.mod_mul, show (2 : Nat) ^ 8 = 256 from rfl, Nat.mul_comm]
  omega
theorem peek_or (h b : Nat) (hh : h < 2 ^ 32) (hb : b < 256) : Go.bits .or .u64 ((h : Int) * 256) (b : Int) = ((h * 256 + b : Nat) : Int) := by
  rw [show (h : Int) * 256 = ((h * 256 : Nat) : Int) by simp, or_nat64 _ _ (by omega) (by omega), Nat.or_comm, show h * 256 = h * 2 ^ 8 from rfl, or_low b h 8 hb]
  congr 1
  omega
theorem and_nat64 (a b : Nat) (ha : a < 2 ^ 64) (hb : b < 2 ^ 64) : Go.bits .and .u64 a b = ((a &&& b : Nat) : Int) := by
  have hl : a &&& b < 2 ^ 64 := Nat.and_lt_two_pow _ hb
  show IntKind.u64.wrap ((BitVec.ofInt 64 (a : Int) &&& BitVec.ofInt 64 (b : Int)).toNat : Int) = _
  rw [BitVec.ofInt_natCast, BitVec.ofInt_natCast, BitVec.toNat_and, BitVec.toNat_ofNat, BitVec.toNat_ofNat, Nat.mod_eq_of_lt ha, Nat.mod_eq_of_lt hb, IntKind.wrap_u64]
  omega
theorem peek_end (V a p r k q : Nat) (ha : a = 8 * p + r) (hk : r + k ≤ 8 * (q - p)) : V / 2 ^ (8 * p) % 2 ^ (8 * (q - p)) / 2 ^ r % 2 ^ k = V / 2 ^ a % 2 ^ k := by
  rw [show 8 * (q - p) = r + (8 * (q - p) - r) by omega, Nat.pow_add, Nat.mod_mul_right_div_self, Nat.div_div_eq_div_mul, ← Nat.pow_add, ← ha]
  exact Nat.mod_mod_of_dvd _ (Nat.pow_dvd_pow 2 (by omega))
theorem peek_mask (h r k : Nat) (hh : h < 2 ^ 64) (hk : k ≤ 32) : Go.bits .and .u64 ((h : Int) / 2 ^ r) ((2 : Int) ^ k - 1) = ((h / 2 ^ r % 2 ^ k : Nat) : Int) := by
  have h1 : (2 : Nat) ^ k ≤ 2 ^ 32 := Nat.pow_le_pow_right (by decide) hk
  have h0 : 0 < (2 : Nat) ^ k := Nat.two_pow_pos _
  have e1 : ((2 : Int) ^ k - 1) = ((2 ^ k - 1 : Nat) : Int) := by rw [Int.natCast_sub h0]; simp
  have e2 : (h : Int) / 2 ^ r = ((h / 2 ^ r : Nat) : Int) := by simp
  rw [e1, e2, and_nat64 _ _ (Nat.lt_of_le_of_lt (Nat.div_le_self _ _) hh) (by omega), Nat.and_two_pow_sub_one_eq_mod]
/-- The number of bytes. -/
def ofB : List Int → Nat
  | [] => 0
  | z :: t => z.toNat + 256 * ofB t
theorem ofB_lt : ∀ l : List Int, (∀ z ∈ l, 0 ≤ z ∧ z < 256) → ofB l < 2 ^ (8 * l.length)
  | [], _ => by simp [ofB]
  | z :: t, h => by
    have h1 := ofB_lt t fun y hy => h y (by simp [hy])
    have h2 := h z (by simp)
    simp only [ofB, List.length_cons]
    rw [show 8 * (t.length + 1) = 8 + 8 * t.length by omega, Nat.pow_add, show (2 : Nat) ^ 8 = 256 from rfl]
    omega
theorem leB_zero (V : Nat) : leB V 0 = [] := rfl
theorem leB_app : ∀ (l : List Int) (V q : Nat), (∀ z ∈ l, 0 ≤ z ∧ z < 256) → V < 2 ^ (8 * q) → leB (V + ofB l * 2 ^ (8 * q)) (q + l.length) = leB V q ++ l
  | [], V, q, _, _ => by simp [ofB]
  | z :: t, V, q, h, hV => by
    have h2 := h z (by simp)
    have hz : V + z.toNat * 2 ^ (8 * q) < 2 ^ (8 * (q + 1)) := by
      have := val_lt (n := 8) (x := z.toNat) hV (by omega)
      rwa [show 8 * q + 8 = 8 * (q + 1) by omega] at this
    have e := leB_app t (V + z.toNat * 2 ^ (8 * q)) (q + 1) (fun y hy => h y (by simp [hy])) hz
    have e1 : V + z.toNat * 2 ^ (8 * q) + ofB t * 2 ^ (8 * (q + 1)) = V + ofB (z :: t) * 2 ^ (8 * q) := by
      simp only [ofB]
      rw [show 8 * (q + 1) = 8 + 8 * q by omega, Nat.pow_add, show (2 : Nat) ^ 8 = 256 from rfl, Nat.add_mul, ← Nat.mul_assoc, Nat.mul_comm (ofB t) 256]
      omega
    rw [e1, show q + 1 + t.length = q + (z :: t).length by simp; omega] at e
    rw [e, leB_succ, leB_add V _ _ _ (Nat.le_refl _)]
    have e2 : (V + z.toNat * 2 ^ (8 * q)) / 2 ^ (8 * q) % 256 = z.toNat := by
      rw [Nat.add_mul_div_right _ _ (Nat.two_pow_pos _), Nat.div_eq_of_lt hV]
      omega
    rw [e2]
    simp
    omega
theorem leB_ofB (l : List Int) (h : ∀ z ∈ l, 0 ≤ z ∧ z < 256) : leB (ofB l) l.length = l := by
  have := leB_app l 0 0 h (by decide)
  simpa [leB_zero] using this
theorem mask_wrap (k : Nat) (hk : k ≤ 32) : IntKind.u64.wrap (IntKind.u64.wrap ((2 : Int) ^ k) - 1) = (2 : Int) ^ k - 1 := by
  have h1 : (2 : Nat) ^ k ≤ 2 ^ 32 := Nat.pow_le_pow_right (by decide) hk
  have h0 : 0 < (2 : Nat) ^ k := Nat.two_pow_pos _
  rw [show (2 : Int) ^ k = ((2 ^ k : Nat) : Int) by simp, IntKind.wrap_u64, IntKind.wrap_u64]
  omega
end Go.Proofs.Ytlgpmpnobcdogaa.My

/- The walk of bits.Writer.put. -/
namespace Go.Proofs.Ytlgpmpnobcdogaa.My
open Go.RowKit Go.Proofs.YtlgpmpnobcdogaaW.PrintWords Go.Proofs.YtlgpmpnobcdogaaW.PrintLast Go.Proofs.YtlgpmpnobcdogaaW.PrintMore

/-- A writer that has written N bits, the number V. -/
structure Writ (w : World) (B g : Nat) (v : Value) (V N : Nat) : Prop where
  wr : Wr w B g v (leB V (N / 8)) (V / 2 ^ (8 * (N / 8))) (N % 8)
  lt : V < 2 ^ N

theorem cells_of {w : World} {g : Nat} {v : Value} {h m : Nat} (k : w.heap[g]? = some (.cells #[v, .int .u64 h, .int .i64 m] 74 (0, 0))) : w.cell? ⟨g, 0, none⟩ = some v ∧ w.cell? ⟨g, 1, none⟩ = some (.int .u64 h) ∧ w.cell? ⟨g, 2, none⟩ = some (.int .i64 m) ∧
    w.frozen? ⟨g, 0, none⟩ = false ∧ w.frozen? ⟨g, 1, none⟩ = false ∧ w.frozen? ⟨g, 2, none⟩ = false := by
  refine ⟨?_, ?_, ?_, ?_, ?_, ?_⟩ <;> first | (rw [blk_cell k]; rfl) | exact blk_frozen k _
theorem Wr.cells {w : World} {B g : Nat} {v : Value} {t : List Int} {h m : Nat} (k : Wr w B g v t h m) : w.cell? ⟨g, 0, none⟩ = some v ∧ w.cell? ⟨g, 1, none⟩ = some (.int .u64 h) ∧ w.cell? ⟨g, 2, none⟩ = some (.int .i64 m) ∧
    w.frozen? ⟨g, 0, none⟩ = false ∧ w.frozen? ⟨g, 1, none⟩ = false ∧ w.frozen? ⟨g, 2, none⟩ = false := cells_of k.blk
theorem Wr.appended {w w1 : World} {B g : Nat} {v v1 : Value} {t t1 : List Int} {h m : Nat} (k : Wr w B g v t h m) (ho : w1.ownsRow B 5 1 v1 t1.length (nums .u8 t1)) (hg : w.grownBy w1 v.ownBlock)
    (ha : v1.ownBlock = v.ownBlock ∨ ∃ b, v1.ownBlock = some b ∧ w.heap.size ≤ b) : w1.heap[g]? = some (.cells #[v, .int .u64 h, .int .i64 m] 74 (0, 0)) ∧ Wr (w1.setCell ⟨g, 0, none⟩ v1) B g v1 t1 h m ∧ Grew w (w1.setCell ⟨g, 0, none⟩ v1) g v v1 := by
  have hb : w1.heap[g]? = some (.cells #[v, .int .u64 h, .int .i64 m] 74 (0, 0)) := (hg.block g (blk_lt k.blk) k.ne).trans k.blk
  have hne : some g ≠ v1.ownBlock := own_ne ho hb (by decide)
  refine ⟨hb, ⟨?_, own_setCell ho hne _, k.bg⟩, ⟨hg.os, hg.tape, hg.output, (KeepBut.of_grown hg g).set_ 0 v1, ha⟩⟩
  have := blk_set hb 0 v1
  simpa using this

/-- One byte is put behind the text. -/
theorem Wr.byte {w w1 : World} {B g q : Nat} {v v1 : Value} {U h m : Nat} (k : Wr w B g v (leB U q) h m) (ho : w1.ownsRow B 5 1 v1 ((leB U q).length + 1) (nums .u8 (leB U q) ++ [.int .u8 (IntKind.u8.wrap (h : Int))])) (hh : h = U / 2 ^ (8 * q)) (hg : w.grownBy w1 v.ownBlock)
    (ha : v1.ownBlock = v.ownBlock ∨ ∃ b, v1.ownBlock = some b ∧ w.heap.size ≤ b) : Wr (w1.setCell ⟨g, 0, none⟩ v1) B g v1 (leB U (q + 1)) h m ∧ Grew w (w1.setCell ⟨g, 0, none⟩ v1) g v v1 := by
  refine (k.appended (t1 := leB U (q + 1)) ?_ hg ha).2
  have e : IntKind.u8.wrap (h : Int) = ((U / 2 ^ (8 * q) % 256 : Nat) : Int) := by rw [IntKind.wrap_u8, hh]; omega
  rw [leB_len, leB_succ]
  rw [e] at ho
  simpa [nums] using ho

theorem putw_calls (w : World) (B g : Nat) (v : Value) (V N x n : Nat) (hB : B ≤ w.heap.size) (hw : Writ w B g v V N) (hx : x < 2 ^ n) (hn : n ≤ 32) (hN : N ≤ 1000000000000000) :
    Calls Try.prog 43 #[.pointer (some ⟨g, 0, none⟩), .int .u32 x, .int .i64 n] w fun e w' => e = .returned (.tuple #[]) ∧ ∃ v', Writ w' B g v' (V + x * 2 ^ N) (N + n) ∧ Grew w w' g v v' := by
  obtain ⟨U, hU⟩ : ∃ U, U = V + x * 2 ^ N := ⟨_, rfl⟩
  rw [← hU]
  have HUlt : Aside0 (U < 2 ^ (N + n)) := ⟨hU ▸ val_lt hw.lt hx⟩
  have HU := Aside0.mk hU
  clear hU
  obtain ⟨hW, hV⟩ := hw
  have hor := or_put (V / 2 ^ (8 * (N / 8))) x (N % 8) n (by have := held_lt hV (N / 8) (by omega); rwa [show N - 8 * (N / 8) = N % 8 by omega] at this) hx (by omega) hn
  obtain ⟨c0, c1, c2, f0, f1, f2⟩ := hW.cells
  have hm : N % 8 < 8 := Nat.mod_lt _ (by decide)
  generalize hh : V / 2 ^ (8 * (N / 8)) = h at *
  generalize hmm : N % 8 = m at *
  have HW := Aside0.mk hW
  have hh0 := hor.1
  have HH := Aside0.mk hor.2
  have H1 := Aside0.mk hx
  have H2 := Aside0.mk hN
  have H3 := Aside0.mk hh
  have H4 := Aside0.mk hmm
  clear hor hx hN hh hmm hW
  go_enter Try.func43, Try.ntmps43
  go_wp2_with fail
  go_region
  go_wp2_with fail
  go_loopg [] ((N + n) / 8 - N / 8) (fun kq wr => ∃ (q : Nat) (A : Option Addr) (c : Nat), Aside0 (8 * q ≤ N + n ∧ N / 8 ≤ q ∧ kq = (N + n) / 8 - q) ∧ Aside0 (Wr wr B g (.slice A q c) (leB U q) (U / 2 ^ (8 * q)) (N + n - 8 * q)) ∧ Aside0 (Grew w wr g v (.slice A q c)) ∧ B ≤ wr.heap.size)
  case atStart =>
    obtain ⟨A, c, rfl⟩ := own_slice HW.out.row
    have k := ((HW.out.set1 (h + x * 2 ^ m)).set2 (m + n)).drew
    have k2 := ((Grew.refl w g (.slice A (leB V (N / 8)).length c)).set 1 (.int .u64 (h + x * 2 ^ m : Nat))).set 2 (.int .i64 (m + n : Nat))
    have p1 : ((h + x * 2 ^ m : Nat) : Int) = ↑h + ↑x * 2 ^ m := by simp
    have p2 : ((m + n : Nat) : Int) = ↑m + ↑n := by simp
    rw [leB_len, p1, p2] at *
    have e1 : leB U (N / 8) = leB V (N / 8) := by rw [HU.out]; exact leB_add _ _ _ _ (by omega)
    have e2 : U / 2 ^ (8 * (N / 8)) = h + x * 2 ^ m := by rw [HU.out, held_add _ _ _ _ (by omega), H3.out, show N - 8 * (N / 8) = m by have := H4.out; omega]
    have e3 : N + n - 8 * (N / 8) = m + n := by have := H4.out; omega
    refine ⟨N / 8, A, c, ⟨by omega, by omega, by omega⟩, ⟨?_⟩, ⟨k2.drew⟩, ?_⟩
    · rw [e1, e2, e3]; exact k
    · simpa using hB
  case round =>
    obtain ⟨q, A, c, HQ, HWq, HG, hBq⟩ := hrel
    by_cases hge : 8 * q + 8 ≤ N + n
    · obtain ⟨d0, d1, d2, e0, e1, e2⟩ := HWq.out.cells
      have b1 : (8 : Int) ≤ ((N + n - 8 * q : Nat) : Int) := by omega
      generalize hM : N + n - 8 * q = M at *
      generalize hH : U / 2 ^ (8 * q) = H at *
      have HM := Aside0.mk hM
      have HHq := Aside0.mk hH
      have b2 : (M : Int) ≤ 100 := by have := HQ.out; have := HM.out; omega
      clear hM hH
      go_wp2_with fail
      have hrow := HWq.out.drew.row
      have d3 := (cells_of (blk_alloc HWq.out.blk (.cells #[.int .u8 (IntKind.u8.wrap (H : Int))] 5))).1
      have hnb := Aside0.mk HWq.out.drew
      have hq1 : ((leB U q).length + 1) * 1 ≤ 140737488355328 := by rw [leB_len]; have := HQ.out; have := H2.out; omega
      go_region_law (refine step_append_cells (W := wr.drew) (w0 := wr.drew) B rfl (.tmp 44) (.tmp 50) 39 5 (.int .u8 0) 1 1 rfl Try.underlying39 info_u8 rfl (by decide) (by decide) _ _ _ [.int .u8 (IntKind.u8.wrap (H : Int))] rfl rfl rfl (by simp [Value.oneCell']) hrow (Below.refl _ _) hBq hq1 ?_; intro v1 w1 HO1 _ HG1 HA1; obtain ⟨A1, c1, rfl⟩ := own_slice HO1; obtain ⟨p0, p1, p2, q0, q1, q2⟩ := cells_of ((HG1.block g (blk_lt hnb.out.blk) hnb.out.ne).trans hnb.out.blk); have HY := Aside0.mk (hnb.out.byte HO1 HHq.out.symm HG1 HA1); have HZ := Aside0.mk (Nat.le_trans hBq HG1.size); clear HO1 HG1 HA1)
      go_wp2_with fail
      all_goals
        go_roundg (gk - 1)
        case measure => have := HQ.out; omega
        case rel =>
          have k := ((HY.out.1.set1 (H / 256)).set2 (M - 8))
          have k2 := (((HG.out.trans (HY.out.2.cut)).set 1 (.int .u64 (H / 256 : Nat))).set 2 (.int .i64 (M - 8 : Nat)))
          have p1 : ((H / 256 : Nat) : Int) = ↑H / 256 := by omega
          have p2 : ((M - 8 : Nat) : Int) = ↑M - 8 := by omega
          rw [leB_len, p1, p2] at k k2
          have e2 : U / 2 ^ (8 * (q + 1)) = H / 256 := by rw [← HHq.out]; exact (held_div U q).symm
          have e3 : N + n - 8 * (q + 1) = M - 8 := by have := HM.out; omega
          refine ⟨q + 1, A1, c1, ⟨by omega, by have := HQ.out; omega, by have := HQ.out; omega⟩, ⟨?_⟩, ⟨k2⟩, ?_⟩
          · rw [e2, e3]; exact k
          · simpa using HZ.out
    · obtain ⟨d0, d1, d2, e0, e1, e2⟩ := HWq.out.cells
      have b1 : ((N + n - 8 * q : Nat) : Int) < 8 := by omega
      generalize hM : N + n - 8 * q = M at *
      have HM := Aside0.mk hM
      clear hM
      go_wp2
      refine bodyPost_end (results_none rfl _ _ _) rfl ?_
      have eq : q = (N + n) / 8 := by have := HQ.out; omega
      have eM : M = (N + n) % 8 := by have := HM.out; omega
      have k := HWq.out
      have kU := HUlt.out
      have kG := HG.out
      rw [eq, eM] at k
      rw [eq] at kG
      first
        | exact ⟨rfl, _, ⟨k, kU⟩, kG⟩
        | exact ⟨rfl, _, ⟨k.drew, kU⟩, kG.drew⟩
end Go.Proofs.Ytlgpmpnobcdogaa.My

/- The walks of bits.Writer: fits, asks, Put, NewWriter, Align, Len. -/
namespace Go.Proofs.Ytlgpmpnobcdogaa.My
open Go.RowKit Go.Proofs.YtlgpmpnobcdogaaW.PrintWords Go.Proofs.YtlgpmpnobcdogaaW.PrintLast Go.Proofs.YtlgpmpnobcdogaaW.PrintMore

theorem bitLenAux_le : ∀ f n x : Nat, x < 2 ^ f → (Lib.bitLenAux f x ≤ n ↔ x < 2 ^ n)
  | 0, n, x, h => by simp at h; subst h; simp [Lib.bitLenAux, Nat.two_pow_pos]
  | f + 1, n, x, h => by
    unfold Lib.bitLenAux
    by_cases h0 : x = 0
    · subst h0; simp [Nat.two_pow_pos]
    · rw [if_neg h0]
      cases n with
      | zero => constructor <;> intro h1 <;> simp at h1 ⊢ <;> omega
      | succ n =>
        have := bitLenAux_le f n (x / 2) (by rw [Nat.pow_succ] at h; omega)
        rw [Nat.pow_succ 2 n]
        constructor
        · intro h1; have := this.1 (by omega); omega
        · intro h1; have := this.2 (by omega); omega
theorem bitLen_le (x n : Nat) (h : x < 4294967296) : (Lib.bitLen x ≤ n ↔ x < 2 ^ n) := bitLenAux_le 64 n x (by omega)

/-- So many bits are a number's. -/
def inW (n : Int) : Bool := decide (0 ≤ n ∧ n ≤ 32)
/-- A number has so many bits. -/
def okW (x : Nat) (n : Int) : Bool := decide (0 ≤ n ∧ n ≤ 32 ∧ x < 2 ^ n.toNat)
theorem okW_iff (x : Nat) (n : Int) (h : x < 4294967296) : okW x n = (inW n && decide ((Lib.bitLen x : Int) ≤ n)) := by
  unfold okW inW
  by_cases h0 : 0 ≤ n
  · obtain ⟨m, rfl⟩ := Int.eq_ofNat_of_zero_le h0
    have := bitLen_le x m h
    by_cases h1 : (m : Int) ≤ 32
    · simp [h1, ← this]
    · simp [h1]
  · simp [h0]

theorem fitsw_calls (n : Int) (w : World) : Calls Try.prog 35 #[.int .i64 n] w fun e w' => e = .returned (.bool (inW n)) ∧ w = w' := by
  by_cases h1 : 0 ≤ n
  · by_cases h2 : n ≤ 32
    · rw [show inW n = true from decide_eq_true ⟨h1, h2⟩]
      go_enter Try.func35, Try.ntmps35
      go_wp2
      go_ret
      exact ⟨rfl, rfl⟩
    · rw [show inW n = false from decide_eq_false fun h => h2 h.2]
      go_enter Try.func35, Try.ntmps35
      go_wp2
      go_ret
      exact ⟨rfl, rfl⟩
  · rw [show inW n = false from decide_eq_false fun h => h1 h.1]
    go_enter Try.func35, Try.ntmps35
    go_wp2
    go_ret
    exact ⟨rfl, rfl⟩

/-- What asks answers. -/
def askE (x : Nat) (n : Int) : Option Int := if okW x n then none else some 1
theorem asks_calls (g x : Nat) (n : Int) (w : World) (hx : x < 4294967296) :
    Calls Try.prog 42 #[.pointer (some ⟨g, 0, none⟩), .int .u32 x, .int .i64 n] w fun e w' => e = .returned (errV (askE x n)) ∧ w = w' := by
  have HL : Aside0 (∀ w : World, Calls Try.prog 47 #[.int .u32 x] w fun e w' => e = .returned (.int .i64 (Lib.bitLen x)) ∧ w = w') :=
    ⟨fun w => (Try.bits_Len32 x w (by omega) (by omega)).mono fun e w' h => ⟨by rw [h.1]; rfl, h.2.symm⟩⟩
  have HE := Aside0.mk (okW_iff x n hx)
  obtain ⟨b, hb⟩ : ∃ b, inW n = b := ⟨_, rfl⟩
  have HF : Aside0 (∀ w : World, Calls Try.prog 35 #[.int .i64 n] w fun e w' => e = .returned (.bool b) ∧ w = w') := ⟨fun w => hb ▸ fitsw_calls n w⟩
  rw [hb] at HE
  clear hb
  generalize Lib.bitLen x = L at *
  have u1 := Try.underlying26
  cases b with
  | false =>
    have he : askE x n = some 1 := by unfold askE; rw [HE.out]; rfl
    rw [he]
    clear he HE hx
    go_enter Try.func42, Try.ntmps42
    go_wp2_with (first
      | (go_at_call 35; refine (HF.out _).mono ?_; rintro e w' ⟨rfl, rfl⟩)
      | (go_at_call 47; refine (HL.out _).mono ?_; rintro e w' ⟨rfl, rfl⟩))
    go_ret
    exact ⟨rfl, rfl⟩
  | true =>
    by_cases hl : (L : Int) ≤ n
    · have he : askE x n = none := by unfold askE; rw [HE.out]; simp [hl]
      rw [he]
      clear he HE hx
      go_enter Try.func42, Try.ntmps42
      go_wp2_with (first
        | (go_at_call 35; refine (HF.out _).mono ?_; rintro e w' ⟨rfl, rfl⟩)
        | (go_at_call 47; refine (HL.out _).mono ?_; rintro e w' ⟨rfl, rfl⟩))
      go_ret
      exact ⟨rfl, rfl⟩
    · have he : askE x n = some 1 := by unfold askE; rw [HE.out]; simp [hl]
      rw [he]
      clear he HE hx
      go_enter Try.func42, Try.ntmps42
      go_wp2_with (first
        | (go_at_call 35; refine (HF.out _).mono ?_; rintro e w' ⟨rfl, rfl⟩)
        | (go_at_call 47; refine (HL.out _).mono ?_; rintro e w' ⟨rfl, rfl⟩))
      go_ret
      exact ⟨rfl, rfl⟩

theorem newWriter_calls (w : World) : Calls Try.prog 22 #[] w fun e w' => e = .returned (.pointer (some ⟨w.heap.size, 0, none⟩)) ∧ w' = w.alloc (.cells #[.slice none 0 0, .int .u64 0, .int .i64 0] 74) := by
  go_enter Try.func22, Try.ntmps22
  go_wp2
  go_ret
  exact ⟨rfl, rfl⟩
theorem Writ.new (w : World) (B : Nat) (hB : B ≤ w.heap.size) : Writ (w.alloc (.cells #[.slice none 0 0, .int .u64 0, .int .i64 0] 74)) B w.heap.size (.slice none 0 0) 0 0 :=
  ⟨⟨alloc_self _ _, own_nil _ _ _ _, hB⟩, by decide⟩

theorem wlen_calls (w : World) (B g : Nat) (v : Value) (V N : Nat) (hw : Writ w B g v V N) (hN : N ≤ 1000000000000000) :
    Calls Try.prog 25 #[.pointer (some ⟨g, 0, none⟩)] w fun e w' => e = .returned (.int .i64 N) ∧ ∃ m, w' = w.drewN m := by
  obtain ⟨c0, c1, c2, f0, f1, f2⟩ := hw.wr.cells
  obtain ⟨A, c, rfl⟩ := own_slice hw.wr.row
  rw [leB_len] at c0
  have e : (N : Int) = 8 * ((N / 8 : Nat) : Int) + ((N % 8 : Nat) : Int) := by omega
  have h1 : ((N / 8 : Nat) : Int) ≤ 1000000000000000 := by omega
  have h2 : ((N % 8 : Nat) : Int) ≤ 8 := by omega
  rw [e]
  clear e hw
  generalize N / 8 = q at *
  generalize N % 8 = m at *
  go_enter Try.func25, Try.ntmps25
  go_wp2_with fail
  first | go_region | skip
  first | go_wp2_with fail | skip
  go_ret
  first
    | exact ⟨rfl, 0, (World.drewN_zero _).symm⟩
    | exact ⟨rfl, _, rfl⟩
    | exact ⟨rfl, 1, rfl⟩
end Go.Proofs.Ytlgpmpnobcdogaa.My

/- The walk of slices.Clone of bytes. -/
namespace Go.Proofs.Ytlgpmpnobcdogaa.My
open Go.RowKit Go.Proofs.YtlgpmpnobcdogaaW.PrintWords Go.Proofs.YtlgpmpnobcdogaaW.PrintLast Go.Proofs.YtlgpmpnobcdogaaW.PrintMore

theorem clone_calls (A : Option Addr) (n c : Nat) (xs : List Int) (w : World) (hx : (Kd.int .u8).C w A n xs) (hn : n ≤ 140737488355328) (hl : xs.length = n) (hcap : A = none → n = 0 ∧ c = 0) :
    Calls Try.prog 34 #[.slice A n c] w fun e w' => ∃ v', e = .returned v' ∧ w'.ownsRow w.heap.size 5 1 v' xs.length (nums .u8 xs) ∧ Below w.heap.size w w' := by
  cases A with
  | none =>
    obtain ⟨rfl, rfl⟩ := hcap rfl
    have : xs = [] := List.eq_nil_of_length_eq_zero hl
    subst this
    clear hx hl hcap hn
    have i1 : ∀ w : World, (binOp .eql 39 (.slice none 0 0) (.slice none 0 0)).run Try.prog w = .ok (.bool true) w := fun w => by rfl
    go_enter Try.func34, Try.ntmps34
    go_wp2
    go_ret
    exact ⟨_, rfl, own_nil _ _ _ _, Below.refl _ _⟩
  | some ad =>
    have HX := Aside0.mk hx
    have HL := Aside0.mk hl
    clear hx hcap hl
    have i1 : ∀ w : World, (binOp .eql 39 (.slice (some ad) n c) (.slice none 0 0)).run Try.prog w = .ok (.bool false) w := fun w => by rfl
    go_enter Try.func34, Try.ntmps34
    go_wp2_with ((with_reducible refine gate_dst (N := 7) rfl ?_); refine print_append_row (w0 := w) w.heap.size rfl (.tmp 5) (.tmp 6) 39 5 .u8 1 rfl Try.underlying39 info_u8 (by decide) _ [] xs (some ad) _ c rfl rfl (own_lit w w.heap.size 5 .u8 [] (Nat.le_refl _) (by decide)) (reads_of_C (Kd.C_alloc HX.out _)) (below_alloc (Below.refl _ _) _) (by simp) (by simp; omega) ?_; intro v1 w2 ho hb hg hk; clear hg hk; rw [List.nil_append] at ho; have HB2 := Aside0.mk hb; have HO := Aside0.mk ho; clear hb ho)
    go_ret
    exact ⟨_, rfl, HO.out, HB2.out⟩
end Go.Proofs.Ytlgpmpnobcdogaa.My

/- The walk of bits.Reader.Peek, and the readers' small ones. -/
namespace Go.Proofs.Ytlgpmpnobcdogaa.My
open Go.RowKit Go.Proofs.YtlgpmpnobcdogaaW.PrintWords Go.Proofs.YtlgpmpnobcdogaaW.PrintLast Go.Proofs.YtlgpmpnobcdogaaW.PrintMore

/-- A reader of L bytes, the number V, that is at a bit. -/
structure Rdr (w : World) (B g : Nat) (v : Value) (V L at_ : Nat) : Prop where
  blk : w.heap[g]? = some (.cells #[v, .int .i64 at_] 67 (0, 0))
  row : w.ownsRow B 5 1 v L (nums .u8 (leB V L))
  lt : V < 2 ^ (8 * L)
  le : at_ ≤ 8 * L
  bg : B ≤ g
theorem Rdr.cells {w : World} {B g : Nat} {v : Value} {V L a : Nat} (k : Rdr w B g v V L a) : w.cell? ⟨g, 0, none⟩ = some v ∧ w.cell? ⟨g, 1, none⟩ = some (.int .i64 a) ∧ w.frozen? ⟨g, 1, none⟩ = false := by
  refine ⟨?_, ?_, ?_⟩ <;> first | (rw [blk_cell k.blk]; rfl) | exact blk_frozen k.blk _
theorem Rdr.drewN {w : World} {B g : Nat} {v : Value} {V L a : Nat} (k : Rdr w B g v V L a) (n : Nat) : Rdr (w.drewN n) B g v V L a := ⟨k.blk, pw_own_below k.row (pw_below_drewN (Below.refl _ _) n), k.lt, k.le, k.bg⟩
theorem Rdr.drew {w : World} {B g : Nat} {v : Value} {V L a : Nat} (k : Rdr w B g v V L a) : Rdr w.drew B g v V L a := ⟨k.blk, pw_own_below k.row (below_drew (Below.refl _ _)), k.lt, k.le, k.bg⟩
theorem Rdr.ne {w : World} {B g : Nat} {v : Value} {V L a : Nat} (k : Rdr w B g v V L a) : some g ≠ v.ownBlock := own_ne k.row k.blk (by decide)
theorem Rdr.set {w : World} {B g : Nat} {v : Value} {V L a : Nat} (k : Rdr w B g v V L a) (a' : Nat) (h : a' ≤ 8 * L) : Rdr (w.setCell ⟨g, 1, none⟩ (.int .i64 a')) B g v V L a' :=
  ⟨by have := blk_set k.blk 1 (.int .i64 a'); simpa using this, own_setCell k.row k.ne _, k.lt, h, k.bg⟩

theorem left_calls (w : World) (B g : Nat) (v : Value) (V L a : Nat) (hr : Rdr w B g v V L a) (hL : L ≤ 100000000000000) :
    Calls Try.prog 36 #[.pointer (some ⟨g, 0, none⟩)] w fun e w' => e = .returned (.int .i64 (8 * L - a : Nat)) ∧ ∃ m, w' = w.drewN m := by
  obtain ⟨c0, c1, f1⟩ := hr.cells
  obtain ⟨A, c, rfl⟩ := own_slice hr.row
  have hle := hr.le
  have e : ((8 * L - a : Nat) : Int) = 8 * (L : Int) - (a : Int) := by omega
  rw [e]
  have h1 : (a : Int) ≤ 8 * (L : Int) := by omega
  have h2 : (L : Int) ≤ 100000000000000 := by omega
  clear e hr
  go_enter Try.func36, Try.ntmps36
  go_wp2_with fail
  first | go_region | skip
  first | go_wp2_with fail | skip
  go_ret
  first
    | exact ⟨rfl, 0, (World.drewN_zero _).symm⟩
    | exact ⟨rfl, 1, rfl⟩
    | exact ⟨rfl, _, rfl⟩

set_option maxRecDepth 100000 in
theorem peek_calls (w : World) (B g : Nat) (v : Value) (V L a : Nat) (n : Nat) (hn : n ≤ 32) (hr : Rdr w B g v V L a) (hL : L ≤ 100000000000000) :
    Calls Try.prog 37 #[.pointer (some ⟨g, 0, none⟩), .int .i64 n] w fun e w' => e = .returned (.tuple #[.int .u32 (V / 2 ^ a % 2 ^ (min n (8 * L - a)) : Nat), .int .i64 (min n (8 * L - a) : Nat)]) ∧ ∃ m, w' = w.drewN m := by
  have HF : Aside0 (∀ w : World, Calls Try.prog 35 #[.int .i64 n] w fun e w' => e = .returned (.bool true) ∧ w = w') := ⟨fun w => (show inW n = true from decide_eq_true ⟨by omega, by omega⟩) ▸ fitsw_calls n w⟩
  have HLf : Aside0 (Calls Try.prog 36 #[.pointer (some ⟨g, 0, none⟩)] w fun e w' => e = .returned (.int .i64 (8 * L - a : Nat)) ∧ ∃ m, w' = w.drewN m) := ⟨left_calls w B g v V L a hr hL⟩
  obtain ⟨c0, c1, f1⟩ := hr.cells
  obtain ⟨A, c, rfl⟩ := own_slice hr.row
  obtain ⟨A', c', e', hcc, hC⟩ := own_slice' hr.row
  cases e'
  have hle := hr.le
  have HC := Aside0.mk hC
  obtain ⟨k, hk⟩ : ∃ k, k = min n (8 * L - a) := ⟨_, rfl⟩
  have hmin : min (n : Int) ((8 * L - a : Nat) : Int) = (k : Int) := by omega
  have hk32 : (k : Int) ≤ 32 := by omega
  rw [← hk]
  have HK := Aside0.mk (show a + k ≤ 8 * L by omega)
  obtain ⟨p, hp⟩ : ∃ p, p = a / 8 := ⟨_, rfl⟩
  obtain ⟨r, hr8⟩ : ∃ r, r = a % 8 := ⟨_, rfl⟩
  obtain ⟨q, hq⟩ : ∃ q, q = min (p + 5) L := ⟨_, rfl⟩
  have hd : (a : Int) / 8 = (p : Int) := by omega
  have hm : (a : Int).tmod 8 = (r : Int) := by rw [Int.tmod_eq_emod_of_nonneg (by omega)]; omega
  have hmin2 : min ((p : Int) + 5) (L : Int) = (q : Int) := by omega
  have hpq := Aside0.mk (show p ≤ q ∧ q ≤ L ∧ q ≤ p + 5 ∧ a = 8 * p + r ∧ r < 8 ∧ r + k ≤ 8 * (q - p) by omega)
  have hqL : (q : Int) ≤ 100000000000000 := by omega
  have hpL : (p : Int) ≤ 100000000000000 := by omega
  have h1 : (a : Int) ≤ 8 * (L : Int) := by omega
  have h2 : (L : Int) ≤ 100000000000000 := by omega
  generalize hlf : 8 * L - a = lf at *
  clear hr hC hk hle hlf hp hr8 hq
  obtain ⟨res, hres⟩ : ∃ res, res = V / 2 ^ a % 2 ^ k := ⟨_, rfl⟩
  have HE : Aside0 (res < 4294967296) := ⟨hres ▸ Nat.lt_of_lt_of_le (Nat.mod_lt _ (Nat.two_pow_pos _)) (Nat.pow_le_pow_right (n := 2) (by decide) (show k ≤ 32 by omega))⟩
  rw [← hres]
  have HRES := Aside0.mk hres
  clear hres
  go_enter Try.func37, Try.ntmps37
  go_wp2_with (first
    | (go_at_call 35; refine (HF.out _).mono ?_; rintro e w' ⟨rfl, rfl⟩)
    | (go_at_call 36; refine HLf.out.mono ?_; rintro e w' ⟨rfl, m1, rfl⟩))
  go_loopg [8, 9] (q - p) (fun kq v8 v9 wr => ∃ (i h : Nat), v8 = .int .u64 h ∧ v9 = .int .i64 ((i : Int) - 1) ∧ i ≤ q ∧ p ≤ i ∧ Aside0 (kq = i - p ∧ h = V / 2 ^ (8 * i) % 2 ^ (8 * (q - i))) ∧ Aside0 (∃ m, wr = w.drewN m))
  case atStart => exact ⟨q, 0, rfl, rfl, Nat.le_refl _, hpq.out.1, ⟨rfl, by simp [Nat.mod_one]⟩, ⟨_, rfl⟩⟩
  case round =>
    obtain ⟨i, h, rfl, rfl, hi, hpi, HI, HWr⟩ := hrel
    obtain ⟨m, rfl⟩ := HWr.out
    by_cases hgt : p < i
    · obtain ⟨j, rfl⟩ : ∃ j, i = j + 1 := ⟨i - 1, by omega⟩
      obtain ⟨ad, rfl, hcell⟩ := Kd.at_int HC.out (j : Int) (by omega) (by have := hpq.out; omega)
      rw [Int.toNat_natCast] at hcell
      have hx : rd (leB V L) (j : Int) = ((V / 2 ^ (8 * j) % 256 : Nat) : Int) := by unfold rd; rw [Int.toNat_natCast]; exact leB_getD _ _ _ (by have := hpq.out; omega)
      rw [hx] at hcell
      have hst := peek_step V j (q - (j + 1))
      rw [show q - (j + 1) + 1 = q - j by omega, ← HI.out.2] at hst
      have hx256 : V / 2 ^ (8 * j) % 256 < 256 := Nat.mod_lt _ (by decide)
      have hh32 : h < 2 ^ 32 := by
        rw [HI.out.2]
        exact Nat.lt_of_lt_of_le (Nat.mod_lt _ (Nat.two_pow_pos _)) (Nat.pow_le_pow_right (by decide) (by have := hpq.out; omega))
      generalize V / 2 ^ (8 * j) % 256 = x at *
      have hor := peek_or h x hh32 hx256
      have e1 : ((j + 1 : Nat) : Int) - 1 = (j : Int) := by omega
      have b1 : (p : Int) ≤ (j : Int) := by omega
      have b2 : (j : Int) < (L : Int) := by have := hpq.out; omega
      have b3 : (h : Int) < 4294967296 := by omega
      have b4 : (x : Int) < 256 := by omega
      have HS := Aside0.mk hst
      have HJ := Aside0.mk (show j ≤ q ∧ p ≤ j by omega)
      rw [e1]
      clear hx hst hh32 hx256 e1 hgt hpi hi
      go_wp2
      go_roundg (gk - 1)
      case measure => have := HI.out.1; omega
      case rel => exact ⟨j, h * 256 + x, by simp, rfl, HJ.out.1, HJ.out.2, ⟨by have := HI.out.1; omega, HS.out.symm⟩, HWr⟩
    · have ei : i = p := by omega
      subst ei
      have hh := HI.out.2
      have hend := peek_end V a i r k q hpq.out.2.2.2.1 hpq.out.2.2.2.2.2
      rw [← hh] at hend
      have hlt : h < 2 ^ 64 := by
        rw [hh]
        exact Nat.lt_of_lt_of_le (Nat.mod_lt _ (Nat.two_pow_pos _)) (Nat.pow_le_pow_right (by decide) (by have := hpq.out; omega))
      have hmask := peek_mask h r k hlt (by omega)
      rw [hend] at hmask
      rw [← HRES.out] at hmask
      have b1 : ((i : Int) - 1) < (i : Int) := by omega
      have br : (r : Int) < 8 := by have := hpq.out; omega
      clear hh hend hlt hgt hi hpi HI
      go_wp2_with fail
      go_region
      go_wp2_with fail
      go_ret2
      refine ⟨?_, _, rfl⟩
      show Ending.returned (.tuple #[.int .u32 (bits .and .u64 ((h : Int) / 2 ^ r) (IntKind.u64.wrap (IntKind.u64.wrap (2 ^ k) - 1)) % 4294967296), .int .i64 (k : Int)]) = _
      rw [mask_wrap k (by omega), hmask, show (res : Int) % 4294967296 = res by have := HE.out; omega]
end Go.Proofs.Ytlgpmpnobcdogaa.My

/- The walks of bits.Reader: NewReader, At, Align, Bits. -/
namespace Go.Proofs.Ytlgpmpnobcdogaa.My
open Go.RowKit Go.Proofs.YtlgpmpnobcdogaaW.PrintWords Go.Proofs.YtlgpmpnobcdogaaW.PrintLast Go.Proofs.YtlgpmpnobcdogaaW.PrintMore

/-- What a call on a reader has turned: its block alone. -/
structure Gone (w w' : World) (g : Nat) : Prop where
  os : w'.os = w.os
  tape : w'.tape = w.tape
  output : w'.output = w.output
  keep : KeepBut w w' g none
theorem Gone.refl (w : World) (g : Nat) : Gone w w g := ⟨rfl, rfl, rfl, KeepBut.refl _ _ _⟩
theorem Gone.trans {w w1 w2 : World} {g : Nat} (h : Gone w w1 g) (k : Gone w1 w2 g) : Gone w w2 g :=
  ⟨k.os.trans h.os, k.tape.trans h.tape, k.output.trans h.output, h.keep.trans k.keep (.inl rfl)⟩
theorem Gone.drewN {w w1 : World} {g : Nat} (h : Gone w w1 g) (n : Nat) : Gone w (w1.drewN n) g := ⟨h.os, h.tape, h.output, ⟨h.keep.1, h.keep.2⟩⟩
theorem Gone.drew {w w1 : World} {g : Nat} (h : Gone w w1 g) : Gone w w1.drew g := ⟨h.os, h.tape, h.output, ⟨h.keep.1, h.keep.2⟩⟩
theorem Gone.set {w w1 : World} {g : Nat} (h : Gone w w1 g) (j : Nat) (u : Value) : Gone w (w1.setCell ⟨g, j, none⟩ u) g := ⟨h.os, h.tape, h.output, h.keep.set_ j u⟩
theorem Gone.below {w0 w w1 : World} {B g : Nat} (h : Gone w w1 g) (hb : Below B w0 w) (hB : B ≤ w.heap.size) (hg : B ≤ g) : Below B w0 w1 :=
  ⟨h.os.trans hb.os, h.tape.trans hb.tape, h.output.trans hb.output, Nat.le_trans hb.size h.keep.1, fun k hk =>
    (h.keep.2 k (by omega) (by omega) (fun e => by cases e)).trans (hb.block k hk)⟩

theorem at_calls (w : World) (B g : Nat) (v : Value) (V L a : Nat) (hr : Rdr w B g v V L a) :
    Calls Try.prog 20 #[.pointer (some ⟨g, 0, none⟩)] w fun e w' => e = .returned (.int .i64 a) ∧ w' = w := by
  obtain ⟨c0, c1, f1⟩ := hr.cells
  clear hr
  go_enter Try.func20, Try.ntmps20
  go_wp2
  go_ret
  exact ⟨rfl, rfl⟩

theorem peekx_calls (g : Nat) (n : Int) (w : World) (h : inW n = false) :
    Calls Try.prog 37 #[.pointer (some ⟨g, 0, none⟩), .int .i64 n] w fun e w' => e = .returned (.tuple #[.int .u32 0, .int .i64 0]) ∧ w' = w := by
  have HF : Aside0 (∀ w : World, Calls Try.prog 35 #[.int .i64 n] w fun e w' => e = .returned (.bool false) ∧ w = w') := ⟨fun w => h ▸ fitsw_calls n w⟩
  clear h
  go_enter Try.func37, Try.ntmps37
  go_wp2_with (go_at_call 35; refine (HF.out _).mono ?_; rintro e w' ⟨rfl, rfl⟩)
  go_ret2
  exact ⟨rfl, rfl⟩

/-- What Bits answers. -/
def bitsE (n : Int) (l : Nat) : Option Int := if inW n then (if n ≤ l then none else some 10) else some 1
def bitsX (V a l : Nat) (n : Int) : Nat := if (bitsE n l).isNone then V / 2 ^ a % 2 ^ n.toNat else 0
theorem rbits_calls (w : World) (B g : Nat) (v : Value) (V L a : Nat) (n : Int) (hr : Rdr w B g v V L a) (hL : L ≤ 100000000000000) :
    Calls Try.prog 17 #[.pointer (some ⟨g, 0, none⟩), .int .i64 n] w fun e w' => e = .returned (.tuple #[.int .u32 (bitsX V a (8 * L - a) n), errV (bitsE n (8 * L - a))]) ∧
      Rdr w' B g v V L (if (bitsE n (8 * L - a)).isNone then a + n.toNat else a) ∧ Gone w w' g := by
  have HLf : Aside0 (Calls Try.prog 36 #[.pointer (some ⟨g, 0, none⟩)] w fun e w' => e = .returned (.int .i64 (8 * L - a : Nat)) ∧ ∃ m, w' = w.drewN m) := ⟨left_calls w B g v V L a hr hL⟩
  have HF : Aside0 (∀ w : World, Calls Try.prog 35 #[.int .i64 n] w fun e w' => e = .returned (.bool (inW n)) ∧ w = w') := ⟨fun w => fitsw_calls n w⟩
  cases hf : inW n with
  | false =>
    have e1 : bitsE n (8 * L - a) = some 1 := by unfold bitsE; rw [hf]; rfl
    have e2 : bitsX V a (8 * L - a) n = 0 := by unfold bitsX; rw [e1]; rfl
    rw [e1, e2]
    have HR := Aside0.mk hr
    have HF : Aside0 (∀ w : World, Calls Try.prog 35 #[.int .i64 n] w fun e w' => e = .returned (.bool false) ∧ w = w') := ⟨fun w => hf ▸ fitsw_calls n w⟩
    clear hr e1 e2 hf
    go_enter Try.func17, Try.ntmps17
    go_wp2_with (go_at_call 35; refine (HF.out _).mono ?_; rintro e w' ⟨rfl, rfl⟩)
    go_ret2
    exact ⟨rfl, HR.out, Gone.refl _ _⟩
  | true =>
    have HF : Aside0 (∀ w : World, Calls Try.prog 35 #[.int .i64 n] w fun e w' => e = .returned (.bool true) ∧ w = w') := ⟨fun w => hf ▸ fitsw_calls n w⟩
    have hin : 0 ≤ n ∧ n ≤ 32 := of_decide_eq_true hf
    obtain ⟨k, rfl⟩ := Int.eq_ofNat_of_zero_le hin.1
    rw [Int.toNat_natCast]
    by_cases hl : k ≤ 8 * L - a
    · have e1 : bitsE (k : Int) (8 * L - a) = none := by unfold bitsE; rw [hf, if_pos rfl, if_pos (by omega)]
      have e2 : bitsX V a (8 * L - a) (k : Int) = V / 2 ^ a % 2 ^ k := by unfold bitsX; rw [e1]; rfl
      rw [e1, e2]
      have hp := peek_calls w B g v V L a k (by omega) hr hL
      rw [Nat.min_eq_left hl] at hp
      have HP : Aside0 (∀ m, Calls Try.prog 37 #[.pointer (some ⟨g, 0, none⟩), .int .i64 k] (w.drewN m) fun e w' => e = .returned (.tuple #[.int .u32 (V / 2 ^ a % 2 ^ k : Nat), .int .i64 k]) ∧ ∃ m', w' = w.drewN m') := by
        refine ⟨fun m => ?_⟩
        have hp := peek_calls (w.drewN m) B g v V L a k (by omega) (hr.drewN m) hL
        rw [Nat.min_eq_left hl] at hp
        refine hp.mono ?_
        rintro e w' ⟨rfl, m', rfl⟩
        exact ⟨rfl, m + m', by simp⟩
      obtain ⟨c0, c1, f1⟩ := hr.cells
      have hle := hr.le
      have h0 : ((k : Nat) : Int) ≤ ((8 * L - a : Nat) : Int) := by omega
      have HR : Aside0 (∀ m, Rdr ((w.drewN m).setCell ⟨g, 1, none⟩ (.int .i64 ((a : Int) + (k : Int)))) B g v V L (a + k)) := ⟨fun m => by
        have := (hr.drewN m).set (a + k) (by omega)
        rwa [show ((a + k : Nat) : Int) = (a : Int) + (k : Int) by omega] at this⟩
      have HG := Aside0.mk (Gone.refl w g)
      have h1 : (a : Int) ≤ 800000000000000 := by omega
      have h2 : (k : Int) ≤ 32 := by omega
      generalize V / 2 ^ a % 2 ^ k = res at *
      generalize 8 * L - a = l at *
      clear hr hle hf e1 e2 hp hin hl
      go_enter Try.func17, Try.ntmps17
      go_wp2_with (first
        | (go_at_call 35; refine (HF.out _).mono ?_; rintro e w' ⟨rfl, rfl⟩)
        | (go_at_call 36; refine HLf.out.mono ?_; rintro e w' ⟨rfl, m1, rfl⟩)
        | (go_at_call 37; refine (HP.out _).mono ?_; rintro e w' ⟨rfl, m2, rfl⟩))
      go_ret2
      first
        | exact ⟨rfl, HR.out _, (HG.out.drewN _).set _ _⟩
        | exact ⟨rfl, (HR.out _).drew, ((HG.out.drewN _).set _ _).drew⟩
    · have e1 : bitsE (k : Int) (8 * L - a) = some 10 := by unfold bitsE; rw [hf, if_pos rfl, if_neg (by omega)]
      have e2 : bitsX V a (8 * L - a) (k : Int) = 0 := by unfold bitsX; rw [e1]; rfl
      rw [e1, e2]
      have HR := Aside0.mk hr
      have h0 : ((8 * L - a : Nat) : Int) < ((k : Nat) : Int) := by omega
      generalize 8 * L - a = l at *
      clear hr hf e1 e2 hin hl
      go_enter Try.func17, Try.ntmps17
      go_wp2_with (first
        | (go_at_call 35; refine (HF.out _).mono ?_; rintro e w' ⟨rfl, rfl⟩)
        | (go_at_call 36; refine HLf.out.mono ?_; rintro e w' ⟨rfl, m1, rfl⟩))
      go_ret2
      exact ⟨rfl, HR.out.drewN _, (Gone.refl _ _).drewN _⟩
end Go.Proofs.Ytlgpmpnobcdogaa.My

/- The walk of bits.NewReader, and of bits.Reader.Bytes. -/
namespace Go.Proofs.Ytlgpmpnobcdogaa.My
open Go.RowKit Go.Proofs.YtlgpmpnobcdogaaW.PrintWords Go.Proofs.YtlgpmpnobcdogaaW.PrintLast Go.Proofs.YtlgpmpnobcdogaaW.PrintMore

theorem newReader_calls (A : Option Addr) (n c V : Nat) (w : World) (hx : (Kd.int .u8).C w A n (leB V n)) (hV : V < 2 ^ (8 * n)) (hn : n ≤ 100000000000000) (hcap : A = none → n = 0 ∧ c = 0) :
    Calls Try.prog 16 #[.slice A n c] w fun e w' => ∃ g v, e = .returned (.pointer (some ⟨g, 0, none⟩)) ∧ Rdr w' w.heap.size g v V n 0 ∧ Below w.heap.size w w' := by
  have HC := Aside0.mk (clone_calls A n c (leB V n) w hx (by omega) (leB_len _ _) hcap)
  have HV := Aside0.mk hV
  clear hx hV hcap
  go_enter Try.func16, Try.ntmps16
  go_wp2_with (go_at_call 34; refine HC.out.mono ?_; rintro e w1 ⟨v1, rfl, HO, HB⟩; rw [leB_len] at HO; obtain ⟨A1, c1, rfl⟩ := own_slice HO; replace HO := Aside0.mk HO; replace HB := Aside0.mk HB)
  go_ret
  exact ⟨w1.heap.size, _, rfl, ⟨alloc_self _ _, HO.out.alloc _, HV.out, Nat.zero_le _, HB.out.size⟩, below_alloc HB.out _⟩
end Go.Proofs.Ytlgpmpnobcdogaa.My

/- Bits turned round, as Go's library does it: plain. -/
namespace Go.Proofs.Ytlgpmpnobcdogaa.My
open Go.RowKit

theorem or_nat32 (a b : Nat) (ha : a < 2 ^ 32) (hb : b < 2 ^ 32) : Go.bits .or .u32 a b = ((a ||| b : Nat) : Int) := by
  have hl : a ||| b < 2 ^ 32 := Nat.or_lt_two_pow ha hb
  show IntKind.u32.wrap ((BitVec.ofInt 32 (a : Int) ||| BitVec.ofInt 32 (b : Int)).toNat : Int) = _
  rw [BitVec.ofInt_natCast, BitVec.ofInt_natCast, BitVec.toNat_or, BitVec.toNat_ofNat, BitVec.toNat_ofNat, Nat.mod_eq_of_lt ha, Nat.mod_eq_of_lt hb, IntKind.wrap_u32]
  omega
theorem and_nat32 (a b : Nat) (ha : a < 2 ^ 32) (hb : b < 2 ^ 32) : Go.bits .and .u32 a b = ((a &&& b : Nat) : Int) := by
  have hl : a &&& b < 2 ^ 32 := Nat.and_lt_two_pow _ hb
  show IntKind.u32.wrap ((BitVec.ofInt 32 (a : Int) &&& BitVec.ofInt 32 (b : Int)).toNat : Int) = _
  rw [BitVec.ofInt_natCast, BitVec.ofInt_natCast, BitVec.toNat_and, BitVec.toNat_ofNat, BitVec.toNat_ofNat, Nat.mod_eq_of_lt ha, Nat.mod_eq_of_lt hb, IntKind.wrap_u32]
  omega
/-- One step: every second group of bits changes its place with the next one. -/
def sw (m d x : Int) : Int := bits .or .u32 (bits .and .u32 (x / d) m) (bits .and .u32 x m * d % 4294967296)
def half (x : Int) : Int := bits .or .u32 (x / 65536) (x * 65536 % 4294967296)
def swB (m : Nat) (k : Nat) (b : BitVec 32) : BitVec 32 := ((b >>> k) &&& BitVec.ofNat 32 m) ||| ((b &&& BitVec.ofNat 32 m) <<< k)
def halfB (b : BitVec 32) : BitVec 32 := (b >>> 16) ||| (b <<< 16)
theorem sw_eq (m k : Nat) (b : BitVec 32) (hm : m < 2 ^ 32) (d : Int) (hd : d = ((2 ^ k : Nat) : Int)) : sw m d b.toNat = (swB m k b).toNat := by
  have hb : b.toNat < 2 ^ 32 := b.isLt
  have h1 : b.toNat / 2 ^ k < 2 ^ 32 := Nat.lt_of_le_of_lt (Nat.div_le_self _ _) hb
  have h2 : b.toNat / 2 ^ k &&& m < 2 ^ 32 := Nat.and_lt_two_pow _ hm
  have h3 : (b.toNat &&& m) * 2 ^ k % 4294967296 < 2 ^ 32 := Nat.mod_lt _ (by decide)
  unfold sw
  rw [hd, show ((b.toNat : Int) / ((2 ^ k : Nat) : Int)) = ((b.toNat / 2 ^ k : Nat) : Int) from rfl, and_nat32 _ m h1 hm, and_nat32 _ m hb hm]
  rw [show (((b.toNat &&& m : Nat) : Int) * ((2 ^ k : Nat) : Int) % 4294967296) = (((b.toNat &&& m) * 2 ^ k % 4294967296 : Nat) : Int) by rw [← Int.natCast_mul]; rfl]
  rw [or_nat32 _ _ h2 h3]
  congr 1
  simp only [swB, BitVec.toNat_or, BitVec.toNat_and, BitVec.toNat_ushiftRight, BitVec.toNat_shiftLeft, BitVec.toNat_ofNat, Nat.shiftRight_eq_div_pow, Nat.shiftLeft_eq, Nat.mod_eq_of_lt hm]
theorem half_eq (b : BitVec 32) : half b.toNat = (halfB b).toNat := by
  have hb : b.toNat < 2 ^ 32 := b.isLt
  unfold half
  rw [show ((b.toNat : Int) / 65536) = ((b.toNat / 65536 : Nat) : Int) from rfl, show ((b.toNat : Int) * 65536 % 4294967296) = ((b.toNat * 65536 % 4294967296 : Nat) : Int) from rfl,
    or_nat32 _ _ (by omega) (by omega)]
  congr 1
  simp only [halfB, BitVec.toNat_or, BitVec.toNat_ushiftRight, BitVec.toNat_shiftLeft, Nat.shiftRight_eq_div_pow, Nat.shiftLeft_eq]
theorem rev_all (b : BitVec 32) : halfB (swB 16711935 8 (swB 252645135 4 (swB 858993459 2 (swB 1431655765 1 b)))) = b.reverse := by
  apply BitVec.eq_of_getLsbD_eq
  intro i hi
  rw [BitVec.getLsbD_reverse]
  unfold halfB swB
  rcases i with _|_|_|_|_|_|_|_|_|_|_|_|_|_|_|_|_|_|_|_|_|_|_|_|_|_|_|_|_|_|_|_|i
  all_goals first
    | (exfalso; omega)
    | simp [BitVec.getMsbD]

/-- The lowest n bits of a number, turned round. -/
def rv (x n : Nat) : Nat := (BitVec.ofNat 32 x).reverse.toNat / 2 ^ (32 - n)
theorem rv_bit (x n i : Nat) (hn : n ≤ 32) : (rv x n).testBit i = (decide (i < n) && x.testBit (n - 1 - i)) := by
  unfold rv
  rw [← Nat.shiftRight_eq_div_pow, Nat.testBit_shiftRight]
  show (BitVec.reverse (BitVec.ofNat 32 x)).getLsbD (32 - n + i) = _
  rw [BitVec.getLsbD_reverse, BitVec.getMsbD_eq_getLsbD, BitVec.getLsbD_ofNat]
  by_cases h : i < n
  · rw [show 32 - 1 - (32 - n + i) = n - 1 - i by omega]
    simp [h, show n - 1 - i < 32 by omega, show 32 - n + i < 32 by omega]
  · simp [h, show ¬ 32 - n + i < 32 by omega]
theorem rv_lt (x n : Nat) (hn : n ≤ 32) : rv x n < 2 ^ n := by
  refine Nat.lt_pow_two_of_testBit _ fun i hi => ?_
  rw [rv_bit x n i hn]
  simp [show ¬ i < n by omega]
end Go.Proofs.Ytlgpmpnobcdogaa.My

/- The walk of huff.Code's Take. -/
namespace Go.Proofs.Ytlgpmpnobcdogaa.My
open Go.RowKit Go.Proofs.Ytlgpmpnobcdogaa.Huf Go.Proofs.YtlgpmpnobcdogaaW.PrintWords Go.Proofs.YtlgpmpnobcdogaaW.PrintLast Go.Proofs.YtlgpmpnobcdogaaW.PrintMore
set_option linter.unusedVariables false
set_option linter.unusedSimpArgs false

theorem has_le (L : List Int) (hok : okL L = true) (s n : Nat) (h : Has L s n) : n ≤ 15 := by
  have h1 := h.1
  have hmem : L.getD s 0 ∈ L := by rw [List.getD_eq_getElem?_getD, List.getElem?_eq_getElem h1]; exact List.getElem_mem _
  have h2 := List.all_eq_true.1 hok _ hmem
  have h3 : 0 ≤ L.getD s 0 ∧ L.getD s 0 ≤ 15 := by simpa using h2
  rw [h.2.2] at h3
  omega
theorem takeR_short (L : List Int) (hok : okL L = true) (V a d : Nat) (hno : ∀ s n, n ≤ d → ¬ Fits L V a d s n) : TakeR L V a d 0 0 (some (if anyMeets L (cd V a d) d (15 - d) (d + 1) then 10 else 2)) := by
  have hno' : ∀ s n, ¬ Fits L V a d s n := fun s n h => hno s n h.2.1 h
  by_cases h : anyMeets L (cd V a d) d (15 - d) (d + 1) = true
  · rw [if_pos h]
    obtain ⟨m, h1, h2, h3⟩ := (anyMeets_iff L (cd V a d) d (15 - d) (d + 1)).1 h
    obtain ⟨s, hs, e⟩ := (meets_iff L (cd V a d) d m (by omega)).1 h3
    exact .ends hno' s m ⟨hs, by omega, e⟩
  · rw [if_neg h]
    refine .form hno' fun s n hc => h ((anyMeets_iff L (cd V a d) d (15 - d) (d + 1)).2 ⟨n, hc.2.1, ?_, (meets_iff L (cd V a d) d n hc.1.2.1).2 ⟨s, hc.1, hc.2.2⟩⟩)
    have := has_le L hok s n hc.1
    omega
theorem takeR_form (L : List Int) (hok : okL L = true) (V a left : Nat) (hl : 15 ≤ left) (hno : ∀ s n, n ≤ 15 → ¬ Fits L V a left s n) : TakeR L V a left 0 0 (some 2) :=
  .form (fun s n h => hno s n (has_le L hok s n h.1) h) (fun s n h => by have := has_le L hok s n h.1; have := h.2.1; omega)
theorem Gone.grown {w w1 : World} {g : Nat} (h : Gone w w1 g) : w.grownBy w1 (some g) := ⟨h.os, h.tape, h.output, h.keep.1, fun i hi hr => h.keep.2 i hi (fun e => hr (by rw [e])) (by simp)⟩
theorem or_nat63 (a b : Nat) (ha : a < 2 ^ 62) (hb : b < 2 ^ 62) : Go.bits .or .i64 a b = ((a ||| b : Nat) : Int) := by
  have hl : a ||| b < 2 ^ 62 := Nat.or_lt_two_pow ha hb
  show IntKind.i64.wrap ((BitVec.ofInt 64 (a : Int) ||| BitVec.ofInt 64 (b : Int)).toNat : Int) = _
  rw [BitVec.ofInt_natCast, BitVec.ofInt_natCast, BitVec.toNat_or, BitVec.toNat_ofNat, BitVec.toNat_ofNat, Nat.mod_eq_of_lt (by omega), Nat.mod_eq_of_lt (by omega), IntKind.wrap_i64]
  omega
theorem next_bit (c b : Nat) (hc : c ≤ 32768) (hb : b < 2) : Go.bits .or .i64 ((c : Int) * 2) (b : Int) = ((2 * c + b : Nat) : Int) := by
  have h := or_nat63 (2 * c) b (by omega) (by omega)
  rw [show ((2 * c : Nat) : Int) = (c : Int) * 2 by omega] at h
  rw [h, Nat.or_comm, show 2 * c = c * 2 ^ 1 by omega, or_low b c 1 (by omega), Nat.add_comm]
theorem held_bit (V a th d : Nat) (hd : d < th) (h15 : th ≤ 15) : Go.bits .and .u32 (((V / 2 ^ a % 2 ^ th : Nat) : Int) / 2 ^ d) 1 = ((bv V (a + d) : Nat) : Int) := by
  have h1 : V / 2 ^ a % 2 ^ th < 2 ^ th := Nat.mod_lt _ (Nat.two_pow_pos _)
  have h2 : 2 ^ th ≤ 2 ^ 15 := Nat.pow_le_pow_right (by decide) h15
  have h3 : V / 2 ^ a % 2 ^ th / 2 ^ d < 2 ^ 32 := Nat.lt_of_le_of_lt (Nat.div_le_self _ _) (Nat.lt_of_lt_of_le h1 (Nat.le_trans h2 (by decide)))
  rw [show ((V / 2 ^ a % 2 ^ th : Nat) : Int) / 2 ^ d = ((V / 2 ^ a % 2 ^ th / 2 ^ d : Nat) : Int) by simp, show (1 : Int) = ((1 : Nat) : Int) from rfl, and_nat32 _ 1 h3 (by decide), Nat.and_one_is_mod]
  congr 1
  unfold bv
  obtain ⟨e, rfl⟩ : ∃ e, th = d + (1 + e) := ⟨th - d - 1, by omega⟩
  rw [Nat.pow_add 2 d, Nat.mod_mul_right_div_self, Nat.pow_add 2 a d, ← Nat.div_div_eq_div_mul, Nat.pow_add, Nat.mod_mul_right_mod]
set_option maxHeartbeats 4000000 in
set_option maxRecDepth 100000 in
theorem take_calls (w : World) (lo hi g : Nat) (L : List Int) (k : CodeAt w lo hi g L) (hl : L.length ≤ 320) (hok : okL L = true) (hov : anyOver L 15 1 = false) (B gr : Nat) (v : Value) (V lb a : Nat) (hr : Rdr w B gr v V lb a) (hlb : lb ≤ 1000000) (hgr : gr < lo ∨ hi ≤ gr) :
    Calls Try.prog 19 #[.pointer (some ⟨g, 0, none⟩), .pointer (some ⟨gr, 0, none⟩)] w fun e w' => ∃ x n er, TakeR L V a (8 * lb - a) x n er ∧ e = .returned (.tuple #[.int .i64 x, errV er]) ∧ Rdr w' B gr v V lb (a + n) ∧ Gone w w' gr := by
  have HP : Aside0 (Calls Try.prog 37 #[.pointer (some ⟨gr, 0, none⟩), .int .i64 15] w fun e w' => e = .returned (.tuple #[.int .u32 (V / 2 ^ a % 2 ^ (min 15 (8 * lb - a)) : Nat), .int .i64 (min 15 (8 * lb - a) : Nat)]) ∧ ∃ m, w' = w.drewN m) := ⟨peek_calls w B gr v V lb a 15 (by omega) hr (by omega)⟩
  have HB : Aside0 (∀ (wx : World) (n : Nat), Rdr wx B gr v V lb a → Calls Try.prog 17 #[.pointer (some ⟨gr, 0, none⟩), .int .i64 n] wx fun e w' => e = .returned (.tuple #[.int .u32 (bitsX V a (8 * lb - a) n), errV (bitsE n (8 * lb - a))]) ∧ Rdr w' B gr v V lb (if (bitsE n (8 * lb - a)).isNone then a + n else a) ∧ Gone wx w' gr) := ⟨fun wx n h => rbits_calls wx B gr v V lb a n h (by omega)⟩
  have HS : Aside0 (∀ (m c len : Nat), c < 2 ^ len → len ≤ 15 → Calls Try.prog 38 #[.pointer (some ⟨g, 0, none⟩), .int .i64 c, .int .i64 len] (w.drewN m) fun e w' => e = .returned (errV (some (if anyMeets L c len (15 - len) (len + 1) then 10 else 2))) ∧ ∃ m', w' = (w.drewN m).drewN m') := ⟨fun m c len h1 h2 => short_calls _ lo hi g L (k.drewN m) (by omega) hov c len h1 h2⟩
  have HK := Aside0.mk k
  have HR := Aside0.mk hr
  have HOk := Aside0.mk hok
  have HOv := Aside0.mk hov
  have HGr := Aside0.mk hgr
  have HLe := Aside0.mk hr.le
  obtain ⟨A, A1, A2, c, c1, c2, S, kc, r0, r1, r2, hS, h1, h2⟩ := k.out
  have HC := Aside0.mk kc
  have HLn := Aside0.mk hl
  clear kc r0 r1 r2 hS k hr hok hov hgr hl
  obtain ⟨left, hleft⟩ : ∃ left, left = 8 * lb - a := ⟨_, rfl⟩
  rw [← hleft] at HP HB ⊢
  have HLeft := Aside0.mk hleft
  obtain ⟨th, hth⟩ : ∃ th, th = min 15 left := ⟨_, rfl⟩
  rw [← hth] at HP
  have HTh := Aside0.mk hth
  obtain ⟨held, hheld⟩ : ∃ held, held = V / 2 ^ a % 2 ^ th := ⟨_, rfl⟩
  rw [← hheld] at HP
  have HHeld := Aside0.mk hheld
  have t15 : (th : Int) ≤ 15 := by omega
  clear hleft hth hheld
  go_enter Try.func19, Try.ntmps19
  go_wp2_with (go_at_call 37; refine (HP.out).mono ?_; rintro e w1 ⟨rfl, m1, rfl⟩)
  go_loopg [8, 9] 15 (fun kq v8 v9 wr => ∃ d : Nat, v9 = .int .i64 ((d : Int) + 1) ∧ v8 = .int .i64 ((cd V a d : Nat) : Int) ∧ d ≤ 15 ∧ Aside0 (kq = 15 - d) ∧ Aside0 (d ≤ th) ∧ Aside0 (∃ m, wr = w.drewN m) ∧ Aside0 (∀ s n, n ≤ d → ¬ Fits L V a left s n))
  case atStart => exact ⟨0, rfl, rfl, by omega, ⟨rfl⟩, ⟨Nat.zero_le _⟩, ⟨m1, rfl⟩, ⟨fun s n hn h => h.1.2.1 (by omega)⟩⟩
  case round =>
    obtain ⟨d, rfl, rfl, hd, HKq, HDt, HW, HNo⟩ := hrel
    obtain ⟨m, rfl⟩ := HW.out
    by_cases hlt : d < 15
    · have hlt' : (d : Int) + 1 ≤ 15 := by omega
      by_cases hth : d < th
      · have hth' : (d : Int) + 1 ≤ (th : Int) := by omega
        have hcd := cd_lt V a d
        have h2d : 2 ^ d ≤ 2 ^ 15 := Nat.pow_le_pow_right (by decide) hd
        have h32 : cd V a d ≤ 32768 := Nat.le_trans (Nat.le_of_lt hcd) h2d
        have hcdi : ((cd V a d : Nat) : Int) ≤ 32768 := by omega
        have HCd := Aside0.mk hcd
        have hnext : Go.bits .or .i64 ((cd V a d : Int) * 2) (wrap64 (Go.bits .and .u32 ((held : Int) / 2 ^ d) 1)) = ((cd V a (d + 1) : Nat) : Int) := by
          have hb := bv_lt V (a + d)
          rw [HHeld.out, held_bit V a th d hth (by omega), wn _ (by omega) (by omega), next_bit _ _ h32 hb, cd]
        have hcd1 := cd_lt V a (d + 1)
        have h2d1 : 2 ^ (d + 1) ≤ 2 ^ 15 := Nat.pow_le_pow_right (by decide) hlt
        have h321 : cd V a (d + 1) ≤ 32768 := Nat.le_trans (Nat.le_of_lt hcd1) h2d1
        have hcdi1 : ((cd V a (d + 1) : Nat) : Int) ≤ 32768 := by omega
        have p1 : (0 : Int) ≤ ((cd V a (d + 1) : Nat) : Int) := by omega
        clear hcd h2d h32 hcd1 h2d1 h321
        go_upto_region 11 with fail
        clear hnext hcdi HCd
        have hF := pow15 (d + 1) _ (by omega) (fst_le L (d + 1) (fun j h1 h2 => over_all L 15 1 HOv.out j h1 (by omega)))
        have hN := Nat.le_trans (cn_le L (d + 1)) HLn.out
        have cf := HC.out.cf (d + 1) (by omega)
        rw [upto_get _ _ (d + 1) (by omega) (by omega)] at cf
        have cm := HC.out.cm (d + 1) (by omega)
        rw [tab_get _ (d + 1) (by omega), show Huf.c0 L (d + 1) = cn L (d + 1) by unfold Huf.c0; rw [if_neg (by omega)]] at cm
        have bF : ((fst L (d + 1) : Nat) : Int) ≤ 1000000 := by omega
        have bN : ((cn L (d + 1) : Nat) : Int) ≤ 320 := by omega
        have hit := range_has L (d + 1) (cd V a (d + 1)) (by omega)
        have HHit := Aside0.mk hit
        have hmiss : ∀ s n, n ≤ d + 1 → ¬ (fst L (d + 1) ≤ cd V a (d + 1) ∧ cd V a (d + 1) < fst L (d + 1) + cn L (d + 1)) → ¬ Fits L V a left s n := fun s n hn hno h => by
          by_cases e : n = d + 1
          · subst e
            have := has_range L s (d + 1) h.1
            rw [h.2.2] at this
            exact hno this
          · exact HNo.out s n (by omega) h
        have HMiss := Aside0.mk hmiss
        have HTHD := Aside0.mk hth
        clear hF hN hit hmiss
        generalize hXe : cd V a (d + 1) = X at *
        generalize hFe : fst L (d + 1) = F at *
        generalize hNe : cn L (d + 1) = N at *
        have HXe := Aside0.mk hXe
        have HFe := Aside0.mk hFe
        have HNe := Aside0.mk hNe
        clear hXe hFe hNe
        by_cases q1 : F ≤ X
        · have q1' : (0 : Int) ≤ (X : Int) - (F : Int) := by omega
          by_cases q2 : X < F + N
          · have q2' : (X : Int) - (F : Int) < (N : Int) := by omega
            obtain ⟨s, hs, hsc⟩ := range_has L (d + 1) X (by omega) (by rw [HFe.out]; exact q1) (by rw [HFe.out, HNe.out]; exact q2)
            have hfit : Fits L V a left s (d + 1) := ⟨hs, by have := HTh.out; have := HTHD.out; omega, by rw [hsc, HXe.out]⟩
            have HFit := Aside0.mk hfit
            have hcs := code_has L s (d + 1) hs
            rw [hsc, HFe.out] at hcs
            have hps := pos_eq L s (d + 1) hs.2.2
            have hpin := pos_in L s (d + 1) hs.1 (by omega) hlt hs.2.2
            rw [← hps] at hpin
            have HB1 : Aside0 (Calls Try.prog 17 #[.pointer (some ⟨gr, 0, none⟩), .int .i64 ((d : Int) + 1)] (w.drewN m) fun e w' => ∃ x, e = .returned (.tuple #[.int .u32 x, .nilIface]) ∧ Rdr w' B gr v V lb (a + (d + 1)) ∧ Gone (w.drewN m) w' gr) := ⟨by
              have h := HB.out (w.drewN m) (d + 1) (HR.out.drewN m)
              have hE : bitsE ((d + 1 : Nat) : Int) left = none := by
                unfold bitsE inW
                rw [if_pos (by simp; omega), if_pos (by have := hfit.2.1; omega)]
              rw [hE] at h
              rw [show ((d + 1 : Nat) : Int) = (d : Int) + 1 by omega] at h
              refine h.mono ?_
              rintro e w' ⟨rfl, h1, h2⟩
              exact ⟨_, rfl, h1, h2⟩⟩
            have hidx : ((beg L (d + 1) : Nat) : Int) + ((X : Int) - (F : Int)) = ((pos L s : Nat) : Int) := by omega
            have HPin := Aside0.mk hpin
            have HHs := Aside0.mk hs
            clear hfit hcs hps hpin hsc hs
            go_wp2_with fail
            refine (HB1.out).mono ?_
            rintro e w2 ⟨xb, rfl, hr2, hg2⟩
            have k2 := (HK.out.drewN m).grown hg2.grown (fun r e => by cases e; exact HGr.out)
            obtain ⟨A', A1', A2', c', c1', c2', S', kc2, r02, r12, r22, hS2, _, _⟩ := k2.out
            have d4 := kc2.c4
            have db := kc2.cb (d + 1) (by omega)
            rw [upto_get _ _ (d + 1) (by omega) (by omega)] at db
            obtain ⟨a1, rfl, e1⟩ := rb_at r12 (pos L s) HPin.out
            rw [hS2.2 s HHs.out.1 (by rw [HHs.out.2.2]; omega)] at e1
            have hpT : ((pos L s : Nat) : Int) < ((beg L 16 : Nat) : Int) := by have := HPin.out; omega
            have hT6 : ((beg L 16 : Nat) : Int) ≤ 320 := by have := beg_all L HOk.out 16; have := HLn.out; omega
            have hbg : ((beg L (d + 1) : Nat) : Int) ≤ 320 := by have := beg_all L HOk.out (d + 1); have := HLn.out; omega
            have HR2 := Aside0.mk hr2
            have HG2 := Aside0.mk hg2
            clear k2 kc2 r02 r12 r22 hS2 hr2 hg2
            generalize pos L s = P at *
            generalize beg L (d + 1) = Bg at *
            generalize beg L 16 = T at *
            go_wp2_with fail
            go_quiet (fail)
            go_wp2_with fail
            go_ret2
            exact ⟨_, _, none, .sign s (d + 1) HFit.out, rfl, HR2.out.drewN _, ((Gone.refl w gr).drewN m).trans (HG2.out.drewN _)⟩
          · have q2' : ¬ (X : Int) - (F : Int) < (N : Int) := by omega
            have HNo1 : Aside0 (∀ s n, n ≤ d + 1 → ¬ Fits L V a left s n) := ⟨fun s n hn => HMiss.out s n hn (fun h => q2 h.2)⟩
            go_wp2_with fail
            have e1 : (d : Int) + 1 + 1 = ((d + 1 : Nat) : Int) + 1 := by omega
            rw [e1]
            go_roundg (15 - (d + 1))
            case measure => have := HKq.out; omega
            case rel => exact ⟨d + 1, rfl, by rw [HXe.out], hlt, ⟨rfl⟩, ⟨HTHD.out⟩, ⟨_, rfl⟩, HNo1⟩
        · have q1' : ¬ (0 : Int) ≤ (X : Int) - (F : Int) := by omega
          have HNo1 : Aside0 (∀ s n, n ≤ d + 1 → ¬ Fits L V a left s n) := ⟨fun s n hn => HMiss.out s n hn (fun h => q1 h.1)⟩
          go_wp2_with fail
          have e1 : (d : Int) + 1 + 1 = ((d + 1 : Nat) : Int) + 1 := by omega
          rw [e1]
          go_roundg (15 - (d + 1))
          case measure => have := HKq.out; omega
          case rel => exact ⟨d + 1, rfl, by rw [HXe.out], hlt, ⟨rfl⟩, ⟨HTHD.out⟩, ⟨_, rfl⟩, HNo1⟩
      · have hdt : d = th := by have := HDt.out; omega
        have hdl : left = d := by have := HTh.out; omega
        have hth' : (th : Int) < (d : Int) + 1 := by omega
        have HT : Aside0 (TakeR L V a left 0 0 (some (if anyMeets L (cd V a d) d (15 - d) (d + 1) then 10 else 2))) := ⟨by
          rw [hdl]
          exact takeR_short L HOk.out V a d (fun s n hn => by have := HNo.out s n hn; rw [hdl] at this; exact this)⟩
        have HS1 := Aside0.mk (HS.out m (cd V a d) d (cd_lt V a d) hd)
        obtain ⟨r, hr⟩ : ∃ r : Int, r = if anyMeets L (cd V a d) d (15 - d) (d + 1) then 10 else 2 := ⟨_, rfl⟩
        rw [← hr] at HS1 HT
        have hcd := cd_lt V a d
        have h2d : 2 ^ d ≤ 2 ^ 15 := Nat.pow_le_pow_right (by decide) hd
        have h32 : cd V a d ≤ 32768 := Nat.le_trans (Nat.le_of_lt hcd) h2d
        clear hr hdl hdt hcd h2d h32
        generalize cd V a d = X at *
        go_wp2_with fail
        refine (HS1.out).mono ?_
        rintro e w2 ⟨rfl, m2, rfl⟩
        simp only [errV]
        go_wp2_with fail
        go_ret2
        exact ⟨_, _, _, HT.out, rfl, (HR.out.drewN _).drewN _, ((Gone.refl w gr).drewN m).drewN _⟩
    · have hd15 : d = 15 := by omega
      have HT : Aside0 (TakeR L V a left 0 0 (some 2)) := ⟨takeR_form L HOk.out V a left (by have := HTh.out; have := HDt.out; omega) (fun s n hn => HNo.out s n (by omega))⟩
      have hlt' : ¬ (d : Int) + 1 ≤ 15 := by omega
      go_wp2_with fail
      go_ret2
      exact ⟨_, _, _, HT.out, rfl, HR.out.drewN _, (Gone.refl w gr).drewN m⟩
theorem taken_calls (w : World) (v : Value) : Calls Try.prog 19 #[.pointer none, v] w fun e w' => e = .returned (.tuple #[.int .i64 0, errV (some 4)]) ∧ w = w' := by
  go_enter Try.func19, Try.ntmps19
  go_wp2
  go_ret2
  exact ⟨rfl, rfl⟩
theorem takeg_calls (w : World) (a : Addr) : Calls Try.prog 19 #[.pointer (some a), .pointer none] w fun e w' => e = .returned (.tuple #[.int .i64 0, errV (some 4)]) ∧ w = w' := by
  go_enter Try.func19, Try.ntmps19
  go_wp2
  go_ret2
  exact ⟨rfl, rfl⟩
end Go.Proofs.Ytlgpmpnobcdogaa.My

/- What is put is there, plainly. No program in sight but for the words of bits. -/
namespace Go.Proofs.Ytlgpmpnobcdogaa.My
open Go.RowKit Go.Proofs.Ytlgpmpnobcdogaa.Huf
set_option linter.unusedVariables false
set_option linter.unusedSimpArgs false

def slen (L D : List Int) : Nat := (D.map fun s => (L.getD s.toNat 0).toNat).sum
/-- Signs whose codes are written behind one another are this number, of so many bits. -/
inductive Enc (L : List Int) : Nat → Nat → List Int → Prop
  | nil : Enc L 0 0 []
  | snoc (V N s n : Nat) (D : List Int) (h : Enc L V N D) (hs : Has L s n) (hc : code L s < 2 ^ n) (h15 : n ≤ 15) : Enc L (V + rv (code L s) n * 2 ^ N) (N + n) (D ++ [(s : Int)])
theorem bv_test (V i : Nat) : bv V i = if V.testBit i then 1 else 0 := by
  unfold bv
  rw [Nat.testBit_eq_decide_div_mod_eq]
  have := Nat.mod_lt (V / 2 ^ i) (show 0 < 2 by decide)
  by_cases h : V / 2 ^ i % 2 = 1
  · simp [h]
  · simp [h]; omega
theorem bv_low (V x N j : Nat) (hj : j < N) : bv (V + x * 2 ^ N) j = bv V j := by
  unfold bv
  obtain ⟨d, rfl⟩ : ∃ d, N = j + (d + 1) := ⟨N - j - 1, by omega⟩
  rw [Nat.pow_add, ← Nat.mul_assoc, Nat.mul_right_comm, Nat.add_mul_div_right _ _ (Nat.two_pow_pos _), Nat.pow_succ, ← Nat.mul_assoc, Nat.add_mul_mod_self_right]
theorem bv_high (V x N j : Nat) (hV : V < 2 ^ N) : bv (V + x * 2 ^ N) (N + j) = bv x j := by
  unfold bv
  rw [Nat.pow_add, ← Nat.div_div_eq_div_mul, Nat.add_mul_div_right _ _ (Nat.two_pow_pos _), Nat.div_eq_of_lt hV, Nat.zero_add]
theorem cd_congr (V V' a a' : Nat) : ∀ n, (∀ j, j < n → bv V (a + j) = bv V' (a' + j)) → cd V a n = cd V' a' n
  | 0, _ => rfl
  | n + 1, h => by rw [cd, cd, cd_congr V V' a a' n (fun j hj => h j (by omega)), h n (by omega)]
/-- The bits of a code, the highest one first, are the code. -/
theorem cd_rv (c n : Nat) (hn : n ≤ 32) (hc : c < 2 ^ n) : cd (rv c n) 0 n = c := by
  have aux : ∀ k, k ≤ n → cd (rv c n) 0 k = c / 2 ^ (n - k) := by
    intro k
    induction k with
    | zero => intro _; rw [cd, Nat.sub_zero, Nat.div_eq_of_lt hc]
    | succ k ih =>
      intro hk
      rw [cd, ih (by omega), Nat.zero_add, bv_test, rv_bit c n k hn]
      have e : n - k = (n - (k + 1)) + 1 := by omega
      have e2 : n - 1 - k = n - (k + 1) := by omega
      rw [e, Nat.pow_succ, ← Nat.div_div_eq_div_mul, e2]
      have h1 : c.testBit (n - (k + 1)) = decide (c / 2 ^ (n - (k + 1)) % 2 = 1) := Nat.testBit_eq_decide_div_mod_eq
      rw [h1]
      generalize c / 2 ^ (n - (k + 1)) = q
      have := Nat.mod_lt q (show 0 < 2 by decide)
      by_cases h : q % 2 = 1
      · simp [h, show k < n by omega]; omega
      · simp [h, show k < n by omega]; omega
  have := aux n (Nat.le_refl _)
  simpa using this
theorem slen_snoc (L D : List Int) (s n : Nat) (h : L.getD s 0 = (n : Int)) : slen L (D ++ [(s : Int)]) = slen L D + n := by
  unfold slen
  rw [List.map_append, List.sum_append]
  simp only [List.map_cons, List.map_nil, List.sum_cons, List.sum_nil, Int.toNat_natCast, h, Nat.add_zero]
theorem enc_len {L : List Int} {V N : Nat} {D : List Int} (h : Enc L V N D) : N = slen L D ∧ V < 2 ^ N := by
  induction h with
  | nil => exact ⟨rfl, by decide⟩
  | snoc V N s n D h hs hc h15 ih =>
    refine ⟨by rw [slen_snoc L D s n hs.2.2, ih.1], ?_⟩
    have h1 := rv_lt (code L s) n (by omega)
    have h2 : (rv (code L s) n + 1) * 2 ^ N ≤ 2 ^ n * 2 ^ N := Nat.mul_le_mul_right _ h1
    rw [Nat.pow_add, Nat.mul_comm (2 ^ N) (2 ^ n)]
    rw [Nat.add_mul, Nat.one_mul] at h2
    have := ih.2
    omega
/-- At each sign's place its code begins what is left. -/
theorem enc_at {L : List Int} {V N : Nat} {D : List Int} (h : Enc L V N D) : ∀ i, i < D.length → ∃ (s n : Nat), D.getD i 0 = (s : Int) ∧ Has L s n ∧ slen L (D.take i) + n ≤ N ∧ slen L (D.take (i + 1)) = slen L (D.take i) + n ∧ cd V (slen L (D.take i)) n = code L s := by
  induction h with
  | nil => intro i hi; simp at hi
  | snoc V N s n D h hs hc h15 ih =>
    intro i hi
    rw [List.length_append, List.length_singleton] at hi
    have hl := enc_len h
    by_cases e : i < D.length
    · obtain ⟨t, m, h1, h2, h3, h4, h5⟩ := ih i e
      refine ⟨t, m, ?_, h2, ?_, ?_, ?_⟩
      · rw [← h1, List.getD_eq_getElem?_getD, List.getElem?_append_left e, ← List.getD_eq_getElem?_getD]
      · rw [List.take_append_of_le_length (by omega)]; omega
      · rw [List.take_append_of_le_length (by omega), List.take_append_of_le_length (by omega)]; exact h4
      · rw [List.take_append_of_le_length (by omega), ← h5]
        exact cd_congr _ _ _ _ m (fun j hj => bv_low V _ N _ (by omega))
    · obtain rfl : i = D.length := by omega
      have e1 : (D ++ [(s : Int)]).take D.length = D := by simp
      have e2 : (D ++ [(s : Int)]).take (D.length + 1) = D ++ [(s : Int)] := List.take_of_length_le (by simp)
      refine ⟨s, n, by simp, hs, ?_, ?_, ?_⟩
      · rw [e1, ← hl.1]; omega
      · rw [e2, e1, slen_snoc L D s n hs.2.2]
      · rw [e1, ← hl.1]
        exact (cd_congr _ (rv (code L s) n) N 0 n (fun j hj => (bv_high V _ N j hl.2).trans (by rw [Nat.zero_add]))).trans (cd_rv (code L s) n (by omega) hc)
end Go.Proofs.Ytlgpmpnobcdogaa.My

/- The walk of bits.Writer.Text. -/
namespace Go.Proofs.Ytlgpmpnobcdogaa.My
open Go.RowKit Go.Proofs.YtlgpmpnobcdogaaW.PrintWords Go.Proofs.YtlgpmpnobcdogaaW.PrintLast Go.Proofs.YtlgpmpnobcdogaaW.PrintMore

theorem own_cap {w : World} {B n : Nat} {e : TypeId} {A : Option Addr} {m c : Nat} {xs : List Value} (h : w.ownsRow B e 1 (.slice A m c) n xs) : A = none → m = 0 ∧ c = 0 := by
  intro hA
  rcases h.2 with ⟨h1, h2⟩ | ⟨g, cap, cur, h1, _⟩
  · cases h1; exact ⟨rfl, rfl⟩
  · subst hA; cases h1
theorem wtext_calls (w : World) (B g : Nat) (v : Value) (V N : Nat) (hw : Writ w B g v V N) (hN : N ≤ 1000000000000000) :
    Calls Try.prog 24 #[.pointer (some ⟨g, 0, none⟩)] w fun e w' => ∃ v', e = .returned v' ∧ w'.ownsRow w.heap.size 5 1 v' ((N + 7) / 8) (nums .u8 (leB V ((N + 7) / 8))) ∧ Below w.heap.size w w' := by
  obtain ⟨c0, c1, c2, f0, f1, f2⟩ := hw.wr.cells
  obtain ⟨A, cc, rfl⟩ := own_slice hw.wr.row
  obtain ⟨A', c', e', hcc, hC⟩ := own_slice' hw.wr.row
  cases e'
  have hcap := own_cap hw.wr.row
  rw [leB_len] at c0 hC hcap
  have hcl := Aside0.mk (clone_calls A (N / 8) cc (leB V (N / 8)) w hC (by omega) (leB_len _ _) hcap)
  have hblk := Aside0.mk hw.wr.blk
  have hV := Aside0.mk hw.lt
  have hm8 : N % 8 < 8 := Nat.mod_lt _ (by decide)
  have HD := Aside0.mk (show N = 8 * (N / 8) + N % 8 by omega)
  by_cases hm : N % 8 = 0
  · have e1 : (N + 7) / 8 = N / 8 := by omega
    rw [hm] at c2
    rw [e1]
    clear hw hC hm e1 HD
    go_enter Try.func24, Try.ntmps24
    go_wp2_with (go_at_call 34; refine hcl.out.mono ?_; rintro e w' ⟨v', rfl, HO, HB⟩; rw [leB_len] at HO; obtain ⟨A2, k2, rfl⟩ := own_slice HO; have p2 := pw_cell_below HB c2; replace HO := Aside0.mk HO; replace HB := Aside0.mk HB)
    go_ret
    exact ⟨_, rfl, HO.out, HB.out⟩
  · have e1 : (N + 7) / 8 = N / 8 + 1 := by omega
    have hm0 : (0 : Int) < ((N % 8 : Nat) : Int) := by omega
    rw [e1]
    clear hw hC hm e1
    generalize hh : V / 2 ^ (8 * (N / 8)) = h at *
    have HH := Aside0.mk hh
    clear hh
    generalize N % 8 = m at *
    go_enter Try.func24, Try.ntmps24
    go_wp2_with (first
      | (go_at_call 34; refine hcl.out.mono ?_; rintro e w' ⟨v', rfl, HO, HB⟩; rw [leB_len] at HO; obtain ⟨A2, k2, rfl⟩ := own_slice HO; have p2 := pw_cell_below HB c2; have p1 := pw_cell_below HB c1; replace HO := Aside0.mk HO; replace HB := Aside0.mk HB)
      | ((with_reducible refine gate_dst (N := 23) rfl ?_); refine print_append_num (w0 := w) w.heap.size rfl (.tmp 16) (.tmp 22) 39 5 .u8 1 rfl Try.underlying39 info_u8 (by decide) _ (leB V (N / 8)) _ rfl rfl (by rw [leB_len]; exact HO.out) HB.out HB.out.size (by rw [leB_len]; omega) ?_; intro v1 w2 ho hb hg hk; clear hg hk; have HB2 := Aside0.mk hb; have HO2 := Aside0.mk ho; clear hb ho))
    go_ret
    have k := HO2.out
    have e2 : (h : Int) % 256 = ((V / 2 ^ (8 * (N / 8)) % 256 : Nat) : Int) := by rw [HH.out]; omega
    rw [e2, ← leB_succ, leB_len] at k
    exact ⟨_, rfl, k, HB2.out⟩
end Go.Proofs.Ytlgpmpnobcdogaa.My

/- The walk of bits.Reverse32. -/
namespace Go.Proofs.Ytlgpmpnobcdogaa.My
open Go.RowKit Go.Proofs.YtlgpmpnobcdogaaW.PrintWords Go.Proofs.YtlgpmpnobcdogaaW.PrintLast Go.Proofs.YtlgpmpnobcdogaaW.PrintMore

theorem revb_calls (x : Int) (w : World) : Calls Try.prog 48 #[.int .u32 x] w fun e w' => e = .returned (.int .u32 (half (sw 16711935 256 x))) ∧ w = w' := by
  go_enter Try.func48, Try.ntmps48
  go_wp2
  go_ret
  exact ⟨rfl, rfl⟩
theorem rev_calls (x : Nat) (w : World) (hx : x < 4294967296) : Calls Try.prog 44 #[.int .u32 x] w fun e w' => e = .returned (.int .u32 (BitVec.ofNat 32 x).reverse.toNat) ∧ w = w' := by
  have HE : Aside0 (half (sw 16711935 256 (sw 252645135 16 (sw 858993459 4 (sw 1431655765 2 x)))) = ((BitVec.ofNat 32 x).reverse.toNat : Int)) := by
    refine ⟨?_⟩
    have e0 : x = (BitVec.ofNat 32 x).toNat := by rw [BitVec.toNat_ofNat]; omega
    rw [← rev_all, ← half_eq, ← sw_eq _ 8 _ (by decide) 256 rfl, ← sw_eq _ 4 _ (by decide) 16 rfl, ← sw_eq _ 2 _ (by decide) 4 rfl, ← sw_eq _ 1 _ (by decide) 2 rfl, ← e0]
    rfl
  rw [← HE.out]
  clear HE hx
  go_enter Try.func44, Try.ntmps44
  go_wp2_with (go_at_call 48; refine (revb_calls _ _).mono ?_; rintro e w' ⟨rfl, rfl⟩)
  go_ret
  exact ⟨rfl, rfl⟩
end Go.Proofs.Ytlgpmpnobcdogaa.My

/- The walks of bits.Writer: Code, Bytes; and of a nil one. -/
namespace Go.Proofs.Ytlgpmpnobcdogaa.My
open Go.RowKit Go.Proofs.YtlgpmpnobcdogaaW.PrintWords Go.Proofs.YtlgpmpnobcdogaaW.PrintLast Go.Proofs.YtlgpmpnobcdogaaW.PrintMore

theorem code_calls' (w : World) (B g : Nat) (v : Value) (V N x : Nat) (n : Int) (hB : B ≤ w.heap.size) (hw : Writ w B g v V N) (hx : x < 4294967296) (hN : N ≤ 1000000000000000) :
    Calls Try.prog 39 #[.pointer (some ⟨g, 0, none⟩), .int .u32 x, .int .i64 n] w fun e w' => e = .returned (errV (askE x n)) ∧
      ((okW x n = false ∧ w' = w) ∨ (okW x n = true ∧ ∃ v', Writ w' B g v' (V + rv x n.toNat * 2 ^ N) (N + n.toNat) ∧ Grew w w' g v v')) := by
  have u1 := Try.underlying26
  cases ho : okW x n with
  | false =>
    have e0 : askE x n = some 1 := by unfold askE; rw [ho]; rfl
    have HA : Aside0 (∀ w : World, Calls Try.prog 42 #[.pointer (some ⟨g, 0, none⟩), .int .u32 x, .int .i64 n] w fun e w' => e = .returned (errV (some 1)) ∧ w = w') := ⟨fun w => e0 ▸ asks_calls g x n w hx⟩
    rw [e0]
    clear hw e0 ho
    go_enter Try.func39, Try.ntmps39
    go_wp2_with (go_at_call 42; refine (HA.out _).mono ?_; rintro e w' ⟨rfl, rfl⟩; unfold errV)
    go_ret
    exact ⟨rfl, .inl ⟨by trivial, rfl⟩⟩
  | true =>
    have e0 : askE x n = none := by unfold askE; rw [ho]; rfl
    have HA : Aside0 (∀ w : World, Calls Try.prog 42 #[.pointer (some ⟨g, 0, none⟩), .int .u32 x, .int .i64 n] w fun e w' => e = .returned (errV none) ∧ w = w') := ⟨fun w => e0 ▸ asks_calls g x n w hx⟩
    rw [e0]
    have hk : 0 ≤ n ∧ n ≤ 32 ∧ x < 2 ^ n.toNat := of_decide_eq_true ho
    obtain ⟨k, rfl⟩ := Int.eq_ofNat_of_zero_le hk.1
    rw [Int.toNat_natCast] at *
    have hk32 : k ≤ 32 := by omega
    have HP := Aside0.mk (putw_calls w B g v V N (rv x k) k hB hw (rv_lt x k hk32) hk32 hN)
    have hr32 : ((BitVec.ofNat 32 x).reverse.toNat : Int) < 4294967296 := by have := (BitVec.ofNat 32 x).reverse.isLt; omega
    have HR := Aside0.mk (show rv x k = (BitVec.ofNat 32 x).reverse.toNat / 2 ^ (32 - k) from rfl)
    have HRV : Aside0 (∀ w : World, Calls Try.prog 44 #[.int .u32 x] w fun e w' => e = .returned (.int .u32 (BitVec.ofNat 32 x).reverse.toNat) ∧ w = w') := ⟨fun w => rev_calls x w hx⟩
    generalize (BitVec.ofNat 32 x).reverse.toNat = r at *
    have HQ : Aside0 ((r : Int) / 2 ^ (32 - k) % 4294967296 = ((rv x k : Nat) : Int)) := by
      refine ⟨?_⟩
      rw [HR.out, show (r : Int) / 2 ^ (32 - k) = ((r / 2 ^ (32 - k) : Nat) : Int) by simp]
      have : r / 2 ^ (32 - k) ≤ r := Nat.div_le_self _ _
      generalize r / 2 ^ (32 - k) = q at *
      omega
    have h32k : (32 : Int) - (k : Int) = ((32 - k : Nat) : Int) := by omega
    have hkk : (k : Int) ≤ 32 := by omega
    clear hw e0 ho hk hx
    go_enter Try.func39, Try.ntmps39
    go_wp2_with (first
      | (go_at_call 42; refine (HA.out _).mono ?_; rintro e w' ⟨rfl, rfl⟩; unfold errV)
      | (go_at_call 44; refine (HRV.out _).mono ?_; rintro e w' ⟨rfl, rfl⟩)
      | (go_at_call 43; rw [HQ.out]; refine HP.out.mono ?_; rintro e w' ⟨rfl, v', HV⟩; replace HV := Aside0.mk HV))
    go_ret
    exact ⟨rfl, .inr ⟨by trivial, v', HV.out⟩⟩

/-! ### A nil one -/
theorem coden_calls (x n : Int) (w : World) : Calls Try.prog 39 #[.pointer none, .int .u32 x, .int .i64 n] w fun e w' => e = .returned (errV (some 4)) ∧ w = w' := by
  have u1 := Try.underlying26
  have HA : Aside0 (∀ w : World, Calls Try.prog 42 #[.pointer none, .int .u32 x, .int .i64 n] w fun e w' => e = .returned (errV (some 4)) ∧ w = w') := by
    refine ⟨fun w => ?_⟩
    go_enter Try.func42, Try.ntmps42
    go_wp2
    go_ret
    exact ⟨rfl, rfl⟩
  go_enter Try.func39, Try.ntmps39
  go_wp2_with (go_at_call 42; refine (HA.out _).mono ?_; rintro e w' ⟨rfl, rfl⟩; unfold errV)
  go_ret
  exact ⟨rfl, rfl⟩
theorem lenn_calls (w : World) : Calls Try.prog 25 #[.pointer none] w fun e w' => e = .returned (.int .i64 0) ∧ w = w' := by
  go_enter Try.func25, Try.ntmps25
  go_wp2
  go_ret
  exact ⟨rfl, rfl⟩
theorem textn_calls (w : World) : Calls Try.prog 24 #[.pointer none] w fun e w' => e = .returned (.slice none 0 0) ∧ w = w' := by
  go_enter Try.func24, Try.ntmps24
  go_wp2
  go_ret
  exact ⟨rfl, rfl⟩
end Go.Proofs.Ytlgpmpnobcdogaa.My

/- The walk of huff.Code's Put. -/
namespace Go.Proofs.Ytlgpmpnobcdogaa.My
open Go.RowKit Go.Proofs.Ytlgpmpnobcdogaa.Huf Go.Proofs.YtlgpmpnobcdogaaW.PrintWords Go.Proofs.YtlgpmpnobcdogaaW.PrintLast Go.Proofs.YtlgpmpnobcdogaaW.PrintMore
set_option linter.unusedVariables false
set_option linter.unusedSimpArgs false

/-- A sign without a code. -/
theorem putx_calls (w : World) (lo hi g gw : Nat) (L : List Int) (k : CodeAt w lo hi g L) (hl : L.length ≤ 1000000) (s : Int) (hs : s < 0 ∨ (L.length : Int) ≤ s ∨ ∃ m : Nat, s = m ∧ m < L.length ∧ L.getD m 0 = 0) :
    Calls Try.prog 23 #[.pointer (some ⟨g, 0, none⟩), .pointer (some ⟨gw, 0, none⟩), .int .i64 s] w fun e w' => e = .returned (errV (some 1)) ∧ Below w.heap.size w w' := by
  have HO : Aside0 (Calls Try.prog 12 #[.pointer (some ⟨g, 0, none⟩), .int .i64 s] w fun e w' => ∃ x : Int, e = .returned (.tuple #[.int .i64 x, .int .i64 0]) ∧ Below w.heap.size w w') := ⟨by
    rcases hs with h | h | ⟨m, rfl, h1, h2⟩
    · exact (of_out_calls w lo hi g L k hl s (.inl h)).mono fun e w' h => ⟨0, h.1, by rw [h.2]; exact Below.refl _ _⟩
    · exact (of_out_calls w lo hi g L k hl s (.inr h)).mono fun e w' h => ⟨0, h.1, by rw [h.2]; exact Below.refl _ _⟩
    · have h3 := of_calls w lo hi g L k hl m h1
      rw [h2] at h3
      exact h3.mono fun e w' h => ⟨_, h.1, h.2⟩⟩
  clear k hs
  go_enter Try.func23, Try.ntmps23
  go_wp2_with fail
  refine (HO.out).mono ?_
  rintro e w1 ⟨x, rfl, hb⟩
  go_wp2_with fail
  go_ret
  exact ⟨rfl, hb⟩
theorem putn_calls (w : World) (v : Value) (s : Int) : Calls Try.prog 23 #[.pointer none, v, .int .i64 s] w fun e w' => e = .returned (errV (some 4)) ∧ w' = w := by
  have HO : Aside0 (Calls Try.prog 12 #[.pointer none, .int .i64 s] w fun e w' => e = .returned (.tuple #[.int .i64 0, .int .i64 0]) ∧ w' = w) := ⟨of_nil_calls w s⟩
  go_enter Try.func23, Try.ntmps23
  go_wp2_with fail
  refine (HO.out).mono ?_
  rintro e w1 ⟨rfl, rfl⟩
  go_wp2_with fail
  go_ret
  exact ⟨rfl, rfl⟩
/-- A sign that has a code. -/
theorem putc_calls (w : World) (lo hi g : Nat) (L : List Int) (k : CodeAt w lo hi g L) (hl : L.length ≤ 1000000) (B gw : Nat) (v : Value) (V N : Nat) (hB : B ≤ w.heap.size) (hw : Writ w B gw v V N) (hN : N ≤ 1000000) (s n : Nat) (hs : Has L s n) (hc : code L s < 2 ^ n) (h15 : n ≤ 15) :
    Calls Try.prog 23 #[.pointer (some ⟨g, 0, none⟩), .pointer (some ⟨gw, 0, none⟩), .int .i64 s] w fun e w' => e = .returned .nilIface ∧ ∃ w1 v', Below w.heap.size w w1 ∧ Writ w' B gw v' (V + rv (code L s) n * 2 ^ N) (N + n) ∧ Grew w1 w' gw v v' := by
  have h15' : code L s < 32768 := Nat.lt_of_lt_of_le hc (Nat.pow_le_pow_right (by decide) h15)
  have HO : Aside0 (Calls Try.prog 12 #[.pointer (some ⟨g, 0, none⟩), .int .i64 s] w fun e w' => e = .returned (.tuple #[.int .i64 (code L s : Nat), .int .i64 n]) ∧ Below w.heap.size w w') := ⟨by
    have h := of_calls w lo hi g L k hl s hs.1
    rw [hs.2.2] at h
    exact h⟩
  have HC : Aside0 (∀ w1, Below w.heap.size w w1 → Calls Try.prog 39 #[.pointer (some ⟨gw, 0, none⟩), .int .u32 (code L s : Nat), .int .i64 n] w1 fun e w' => e = .returned .nilIface ∧ ∃ v', Writ w' B gw v' (V + rv (code L s) n * 2 ^ N) (N + n) ∧ Grew w1 w' gw v v') := ⟨fun w1 hb => by
    have hw1 : Writ w1 B gw v V N := ⟨⟨blk_below hw.wr.blk hb, pw_own_below hw.wr.row hb, hw.wr.bg⟩, hw.lt⟩
    have h := code_calls' w1 B gw v V N (code L s) n (Nat.le_trans hB hb.size) hw1 (by omega) (by omega)
    have hok : okW (code L s) n = true := decide_eq_true ⟨by omega, by omega, by simpa using hc⟩
    refine h.mono ?_
    rintro e w' ⟨rfl, h2⟩
    rcases h2 with ⟨h3, _⟩ | ⟨_, v', h3, h4⟩
    · rw [hok] at h3; cases h3
    · refine ⟨?_, v', by simpa using h3, h4⟩
      unfold askE
      rw [hok]
      rfl⟩
  have hn0 := hs.2.1
  have hn0' : ((n : Int) == 0) = false := by simp; exact hn0
  have hci : ((code L s : Nat) : Int) < 32768 := by omega
  clear k hs hc hw
  generalize code L s = x at *
  go_enter Try.func23, Try.ntmps23
  go_wp2_with fail
  refine (HO.out).mono ?_
  rintro e w1 ⟨rfl, hb⟩
  go_wp2_with fail
  refine (HC.out _ hb).mono ?_
  rintro e w2 ⟨rfl, v', h1, h2⟩
  go_wp2_with fail
  go_ret
  exact ⟨rfl, w1, v', hb, h1, h2⟩
end Go.Proofs.Ytlgpmpnobcdogaa.My

/- The walks of crossdocknum's Num and Bytes. -/
namespace Go.Proofs.Ytlgpmpnobcdogaa.My
open Go.RowKit Go.Proofs.YtlgpmpnobcdogaaW.PrintWords Go.Proofs.YtlgpmpnobcdogaaW.PrintLast Go.Proofs.YtlgpmpnobcdogaaW.PrintMore

def Byts (l : List Int) : Prop := ∀ x ∈ l, 0 ≤ x ∧ x < 256
/-- The text of byte values. -/
def byts (l : List Int) : List UInt8 := l.map fun n => UInt8.ofNat n.toNat
theorem str_toList (l : List Int) : (strOfNums l).toList = byts l := by rw [ByteArray.toList_eq]; rfl
theorem byts_inj {a b : List Int} (ha : Byts a) (hb : Byts b) (h1 : byts a = byts b) : a = b := by
  have hi : ∀ (x y : Int), 0 ≤ x ∧ x < 256 → 0 ≤ y ∧ y < 256 → UInt8.ofNat x.toNat = UInt8.ofNat y.toNat → x = y := by
    intro x y hx hy he
    have := congrArg UInt8.toNat he
    simp only [UInt8.toNat_ofNat'] at this
    omega
  unfold byts at h1
  induction a generalizing b with
  | nil => cases b with
    | nil => rfl
    | cons y b => simp at h1
  | cons x a ih =>
    cases b with
    | nil => simp at h1
    | cons y b =>
      simp only [List.map_cons, List.cons.injEq] at h1
      rw [hi x y (ha x (by simp)) (hb y (by simp)) h1.1, ih (fun z hz => ha z (by simp [hz])) (fun z hz => hb z (by simp [hz])) h1.2]
end Go.Proofs.Ytlgpmpnobcdogaa.My

/- Layer 6: alive. -/
namespace Go.Proofs.Ytlgpmpnobcdogaa.My
open Go.RowKit Go.Proofs.YtlgpmpnobcdogaaW.PrintWords Go.Proofs.YtlgpmpnobcdogaaW.PrintLast Go.Proofs.YtlgpmpnobcdogaaW.PrintMore

theorem Grew.below {w0 w w1 : World} {B g : Nat} {v v1 : Value} (h : Grew w w1 g v v1) (hb : Below B w0 w) (hB : B ≤ w.heap.size) (hg : B ≤ g) (hv : ∀ k, v.ownBlock = some k → B ≤ k) : Below B w0 w1 :=
  ⟨h.os.trans hb.os, h.tape.trans hb.tape, h.output.trans hb.output, Nat.le_trans hb.size h.keep.1, fun k hk =>
    (h.keep.2 k (by omega) (by omega) (fun e => by have := hv k e.symm; omega)).trans (hb.block k hk)⟩
theorem Writ.base {w : World} {B g : Nat} {v : Value} {V N : Nat} (k : Writ w B g v V N) : ∀ j, v.ownBlock = some j → B ≤ j := own_base k.wr.row
end Go.Proofs.Ytlgpmpnobcdogaa.My

/- BitsNone: nil readers and nil writers. -/
namespace Go.Proofs.Ytlgpmpnobcdogaa.My
open Go.RowKit Go.Proofs.YtlgpmpnobcdogaaW.PrintWords Go.Proofs.YtlgpmpnobcdogaaW.PrintLast Go.Proofs.YtlgpmpnobcdogaaW.PrintMore

theorem is_calls (e : Option Int) (c : Int) (w : World) (h : ∀ c, e = some c → c ≠ 0) : Calls Try.prog 21 #[errV e, .int .i64 c] w fun r w' => r = .returned (.bool (numE e == c)) ∧ w = w' := by
  have HN : Aside0 (∀ w : World, Calls Try.prog 11 #[errV e] w fun r w' => r = .returned (.int .i64 (numE e)) ∧ w = w') := ⟨fun w => num_calls e w h⟩
  clear h
  generalize numE e = n at *
  generalize errV e = v at *
  go_enter Try.func21, Try.ntmps21
  go_wp2_with (go_at_call 11; refine (HN.out _).mono ?_; rintro e w' ⟨rfl, rfl⟩)
  go_ret
  exact ⟨rfl, rfl⟩
theorem rbitsn_calls (n : Int) (w : World) : Calls Try.prog 17 #[.pointer none, .int .i64 n] w fun e w' => e = .returned (.tuple #[.int .u32 0, errV (some 4)]) ∧ w = w' := by
  go_enter Try.func17, Try.ntmps17
  go_wp2
  go_ret2
  exact ⟨rfl, rfl⟩
theorem rpeekn_calls (n : Int) (w : World) : Calls Try.prog 37 #[.pointer none, .int .i64 n] w fun e w' => e = .returned (.tuple #[.int .u32 0, .int .i64 0]) ∧ w = w' := by
  go_enter Try.func37, Try.ntmps37
  go_wp2
  go_ret2
  exact ⟨rfl, rfl⟩
theorem ratn_calls (w : World) : Calls Try.prog 20 #[.pointer none] w fun e w' => e = .returned (.int .i64 0) ∧ w = w' := by
  go_enter Try.func20, Try.ntmps20
  go_wp2
  go_ret
  exact ⟨rfl, rfl⟩
theorem rleftn_calls (w : World) : Calls Try.prog 36 #[.pointer none] w fun e w' => e = .returned (.int .i64 0) ∧ w = w' := by
  go_enter Try.func36, Try.ntmps36
  go_wp2
  go_ret
  exact ⟨rfl, rfl⟩

theorem below_from {W w1 : World} {o : Obj} (h : Below (W.alloc o).heap.size (W.alloc o) w1) : Below W.heap.size W w1 :=
  below_then (below_alloc (Below.refl _ _) o) (by simp) h
theorem kept_new {W w1 : World} {o : Obj} (h : Below (W.alloc o).heap.size (W.alloc o) w1) : w1.heap[W.heap.size]? = some o := by
  rw [h.block W.heap.size (by simp)]
  exact alloc_self W o
end Go.Proofs.Ytlgpmpnobcdogaa.My

/- The law HuffBack: its walk. -/
namespace Go.Proofs.Ytlgpmpnobcdogaa.My
open Go.RowKit Go.Proofs.Ytlgpmpnobcdogaa.Huf Go.Proofs.YtlgpmpnobcdogaaW.PrintWords Go.Proofs.YtlgpmpnobcdogaaW.PrintLast Go.Proofs.YtlgpmpnobcdogaaW.PrintMore
set_option linter.unusedVariables false
set_option linter.unusedSimpArgs false

theorem Writ.below {w w1 : World} {B g : Nat} {v : Value} {V N : Nat} (k : Writ w B g v V N) (h : Below w.heap.size w w1) : Writ w1 B g v V N := ⟨⟨blk_below k.wr.blk h, pw_own_below k.wr.row h, k.wr.bg⟩, k.lt⟩
theorem Writ.other {w w1 : World} {B g : Nat} {v : Value} {V N : Nat} (k : Writ w B g v V N) {row : Option Nat} (h : w.grownBy w1 row) (h1 : some g ≠ row) (h2 : v.ownBlock = none ∨ v.ownBlock ≠ row) : Writ w1 B g v V N := ⟨⟨blk_grown k.wr.blk h h1, own_other k.wr.row h h2, k.wr.bg⟩, k.lt⟩
theorem pow_code (L : List Int) (hok : okL L = true) (hov : anyOver L 15 1 = false) (s n : Nat) (h : Has L s n) : code L s < 2 ^ n ∧ n ≤ 15 := by
  have h15 := has_le L hok s n h
  refine ⟨?_, h15⟩
  have h1 := has_range L s n h
  have h2 := over_all L 15 1 hov n (by have := h.2.1; omega) (by omega)
  unfold over at h2
  have h3 := of_decide_eq_false h2
  generalize 2 ^ n = q at *
  omega
/-- The state of the first loop. -/
structure StB (w0 wr : World) (gw : Nat) (L : List Int) (v' : Value) (V N : Nat) (A8 : Option Addr) (c8 : Nat) (D : List Int) : Prop where
  bel : Below w0.heap.size w0 wr
  wri : Writ wr w0.heap.size gw v' V N
  row : wr.ownsRow w0.heap.size 3 1 (.slice A8 D.length c8) D.length (nums .i64 D)
  enc : Enc L V N D
theorem StB.below {w0 wr w1 : World} {gw : Nat} {L : List Int} {v' : Value} {V N : Nat} {A8 : Option Addr} {c8 : Nat} {D : List Int} (h : StB w0 wr gw L v' V N A8 c8 D) (hb : Below wr.heap.size wr w1) : StB w0 w1 gw L v' V N A8 c8 D :=
  ⟨below_then h.bel h.bel.size hb, h.wri.below hb, pw_own_below h.row hb, h.enc⟩
/-- A sign is put. -/
theorem StB.put {w0 wr w1 w2 : World} {gw : Nat} {L : List Int} {v' v1 : Value} {V N : Nat} {A8 : Option Addr} {c8 : Nat} {D : List Int} (h : StB w0 wr gw L v' V N A8 c8 D) (hb : Below wr.heap.size wr w1) {x n : Nat} (hw : Writ w2 w0.heap.size gw v1 (V + x * 2 ^ N) (N + n)) (hg : Grew w1 w2 gw v' v1) :
    Below w0.heap.size w0 w2 ∧ w2.ownsRow w0.heap.size 3 1 (.slice A8 D.length c8) D.length (nums .i64 D) := by
  have h1 := h.below hb
  refine ⟨hg.below h1.bel h1.bel.size h1.wri.wr.bg (own_base h1.wri.wr.row), hg.keep.own h1.row (fun e => own_ne h1.row h1.wri.wr.blk (by decide) e.symm) ?_⟩
  exact own_type_ne h1.row h1.wri.wr.row (by decide)
/-- What is appended to the signs leaves the writer. -/
theorem StB.app {w0 w1 w2 : World} {gw : Nat} {v : Value} {V N : Nat} {vd : Value} {n : Nat} {xs : List Value} (hw : Writ w1 w0.heap.size gw v V N) (hd : w1.ownsRow w0.heap.size 3 1 vd n xs) (hg : w1.grownBy w2 vd.ownBlock) : Writ w2 w0.heap.size gw v V N :=
  hw.other hg (own_ne hd hw.wr.blk (by decide)) (own_type_ne hw.wr.row hd (by decide))
theorem own_none' {w : World} {base n : Nat} {e : TypeId} {size : Nat} {v : Value} {xs : List Value} (h : w.ownsRow base e size v n xs) : ∀ A c, v = .slice A n c → A = none → n = 0 ∧ c = 0 := by
  rintro A c rfl
  exact own_none h
set_option maxHeartbeats 40000000 in
set_option maxRecDepth 100000 in
theorem back_walk (A : Option Addr) (len cap : Nat) (zs : List Int) (As : Option Addr) (ls cs : Nat) (zz : List Int) (w : World) (hrow : IsRow .i64 w A len cap zs) (_hcb : len * 8 ≤ 140737488351232) (hrows : IsRow .i64 w As ls cs zz) (_hcb2 : ls * 8 ≤ 140737488351232) :
    Calls Try.prog 5 #[.slice A len cap, .slice As ls cs] w fun e w' => e = .returned (.bool true) ∧ Below w.heap.size w w' := by
  have HA : Aside0 (∀ w : World, Calls Try.prog 7 #[] w fun e w' => e = .returned (.bool true) ∧ Below w.heap.size w w') := ⟨alive_calls⟩
  obtain ⟨L, hzl, hzc, hzC, hzw⟩ := row_C hrow
  rw [hzl] at hzC
  have HC := Aside0.mk hzC
  have HCC := Aside0.mk hzc
  have HL := Aside0.mk hzl
  obtain ⟨S, hsl, hsc, hsC, hsw⟩ := row_C hrows
  rw [hsl] at hsC
  have HSC := Aside0.mk hsC
  have HSL := Aside0.mk hsl
  have HSW := Aside0.mk hsw
  have hcapA : A = none → len = 0 ∧ cap = 0 := by
    rcases hrow with ⟨h1, h2, h3, _⟩ | ⟨x, h1, _⟩
    · exact fun _ => ⟨h2, h3⟩
    · intro h; rw [h1] at h; cases h
  have HCapA := Aside0.mk hcapA
  clear hrow hrows hzw hzl hzC hzc hsl hsc hsC hsw hcapA
  by_cases h1 : len ≤ 330 ∧ ls ≤ 60
  · have b1 : (len : Int) ≤ 330 := by omega
    have b2 : (ls : Int) ≤ 60 := by omega
    have HLB := Aside0.mk h1
    clear h1
    have HNew : Aside0 (∀ w1, Below w.heap.size w w1 → Calls Try.prog 8 #[.slice A len cap, .bool true] w1 fun e w' => ∃ v, e = .returned (.tuple #[v, errV (newR L true)]) ∧ Below w1.heap.size w1 w' ∧ (newR L true ≠ none → v = .pointer none) ∧
        (newR L true = none → ∃ g, v = .pointer (some ⟨g, 0, none⟩) ∧ CodeAt w' w1.heap.size w'.heap.size g L)) := ⟨fun w1 hb => new_calls w1 A len cap L true (Kd.C_below HC.out hb) (by have := HLB.out; omega) HL.out HCapA.out⟩
    cases hnew : newR L true with
    | some cc =>
      rw [hnew] at HNew
      simp only [errV] at HNew
      go_enter Try.func5, Try.ntmps5
      go_wp2_with (first
        | (go_at_call 7; refine (HA.out _).mono ?_; rintro e w1 ⟨rfl, hb⟩; replace hb := Aside0.mk hb)
        | (go_at_call 8; refine (HNew.out _ hb.out).mono ?_; rintro e w2 ⟨v6, rfl, hb2, hv1, hv2⟩; obtain rfl := hv1 (by simp); clear hv1 hv2; replace hb2 := Aside0.mk (below_then hb.out hb.out.size hb2)))
      go_ret
      exact ⟨rfl, hb2.out⟩
    | none =>
      rw [hnew] at HNew
      have HOK := Aside0.mk (newR_none L true hnew)
      have HOV := Aside0.mk (newR_over L true hnew)
      simp only [errV] at HNew
      go_enter Try.func5, Try.ntmps5
      go_wp2_with (first
        | (go_at_call 7; refine (HA.out _).mono ?_; rintro e w1 ⟨rfl, hb⟩; replace hb := Aside0.mk hb)
        | (go_at_call 8; refine (HNew.out _ hb.out).mono ?_; rintro e w2 ⟨v6, rfl, hb2, hv1, hv2⟩; obtain ⟨g, rfl, hca⟩ := hv2 trivial; clear hv1 hv2; replace hb2 := Aside0.mk (below_then hb.out hb.out.size hb2); replace hca := Aside0.mk hca)
        | (go_at_call 22; refine (newWriter_calls _).mono ?_; rintro e w3 ⟨rfl, rfl⟩))
      have HW0 := Aside0.mk ((Writ.new w2 w2.heap.size (Nat.le_refl _)).below (below_alloc (Below.refl _ _) (.cells #[] 3)))
      have HB0 := Aside0.mk (below_alloc (below_alloc (Below.refl w2.heap.size w2) (.cells #[.slice none 0 0, .int .u64 0, .int .i64 0] 74)) (.cells #[] 3))
      have hd0 := own_lit (w2.alloc (.cells #[.slice none 0 0, .int .u64 0, .int .i64 0] 74)) w2.heap.size 3 .i64 [] (by rw [alloc_size]; omega) (by decide)
      rw [alloc_size] at hd0
      have HD0 := Aside0.mk hd0
      clear hd0
      have HPx : Aside0 (∀ (wx : World) (s : Int), Below w2.heap.size w2 wx → (s < 0 ∨ (len : Int) ≤ s ∨ ∃ m : Nat, s = m ∧ m < len ∧ L.getD m 0 = 0) → Calls Try.prog 23 #[.pointer (some ⟨g, 0, none⟩), .pointer (some ⟨w2.heap.size, 0, none⟩), .int .i64 s] wx fun e w' => e = .returned (.iface 52 (.int .i64 1)) ∧ Below wx.heap.size wx w') := ⟨fun wx s hb h =>
        putx_calls wx _ _ g w2.heap.size L (hca.out.below hb) (by have := HOK.out.1; omega) s (by rw [HL.out]; exact h)⟩
      have HPc : Aside0 (∀ (wx : World) (v : Value) (V N s n : Nat), Below w2.heap.size w2 wx → Writ wx w2.heap.size w2.heap.size v V N → N ≤ 1000000 → Has L s n → Calls Try.prog 23 #[.pointer (some ⟨g, 0, none⟩), .pointer (some ⟨w2.heap.size, 0, none⟩), .int .i64 s] wx fun e w' => e = .returned .nilIface ∧ ∃ w1 v', Below wx.heap.size wx w1 ∧ Writ w' w2.heap.size w2.heap.size v' (V + rv (code L s) n * 2 ^ N) (N + n) ∧ Grew w1 w' w2.heap.size v v') := ⟨fun wx v V N s n hb hw hN hs =>
        putc_calls wx _ _ g L (hca.out.below hb) (by have := HOK.out.1; omega) w2.heap.size w2.heap.size v V N hb.size hw hN s n hs (pow_code L HOK.out.2 HOV.out s n hs).1 (pow_code L HOK.out.2 HOV.out s n hs).2⟩
      have HIs : Aside0 (∀ wx, Calls Try.prog 21 #[.iface 52 (.int .i64 1), .int .i64 1] wx fun r w' => r = .returned (.bool true) ∧ wx = w') := ⟨fun wx => is_calls (some 1) 1 wx (fun c h => by cases h; decide)⟩
      clear HNew HA hb
      go_loopg [8, 9, 41] ls (fun kq v8 v9 v41 wr => ∃ (i N V : Nat) (D : List Int) (A8 : Option Addr) (c8 : Nat) (v' : Value), v8 = .slice A8 D.length c8 ∧ v9 = .int .i64 N ∧ v41 = .int .i64 i ∧ i ≤ ls ∧ Aside0 (kq = ls - i) ∧ Aside0 (N ≤ 15 * i ∧ D.length ≤ i) ∧ Aside0 (StB w2 wr w2.heap.size L v' V N A8 c8 D))
      case atStart => exact ⟨0, 0, 0, [], _, 0, _, rfl, rfl, rfl, Nat.zero_le _, ⟨rfl⟩, ⟨by omega, by simp⟩, ⟨HB0.out, HW0.out, HD0.out, .nil⟩⟩
      case round =>
        obtain ⟨i, N, V, D, A8, c8, v', rfl, rfl, rfl, hi, HK, HN, HSt⟩ := hrel
        have hNi : (N : Int) ≤ 1000 := by have := HN.out.1; have := HLB.out; omega
        by_cases hlt : i < ls
        · have hlt' : (i : Int) < (ls : Int) := by omega
          have hBw := below_then hb2.out hb2.out.size HSt.out.bel
          obtain ⟨ads, rfl, hcs⟩ := num_at (Kd.C_below HSC.out hBw) i hlt
          have HCr := Aside0.mk (Kd.C_below HC.out hBw)
          generalize hs : S.getD i 0 = s at hcs
          clear hBw
          by_cases q1 : s < 0
          · have HP1 := Aside0.mk (HPx.out wr s HSt.out.bel (.inl q1))
            go_wp2_with (first
              | (go_at_call 23; refine (HP1.out).mono ?_; rintro e w6 ⟨rfl, hb6⟩; replace hb6 := Aside0.mk hb6)
              | (go_at_call 21; refine (HIs.out _).mono ?_; rintro e w7 ⟨rfl, rfl⟩))
            have e1 : ((i : Int) + 1) = ((i + 1 : Nat) : Int) := by omega
            rw [e1]
            go_roundg (ls - (i + 1))
            case measure => have := HK.out; omega
            case rel => exact ⟨i + 1, N, V, D, A8, c8, v', rfl, rfl, rfl, by omega, ⟨rfl⟩, ⟨by have := HN.out; omega, by have := HN.out; omega⟩, ⟨HSt.out.below hb6.out⟩⟩
          · by_cases q2 : (len : Int) ≤ s
            · have HP1 := Aside0.mk (HPx.out wr s HSt.out.bel (.inr (.inl q2)))
              go_wp2_with (first
                | (go_at_call 23; refine (HP1.out).mono ?_; rintro e w6 ⟨rfl, hb6⟩; replace hb6 := Aside0.mk hb6)
                | (go_at_call 21; refine (HIs.out _).mono ?_; rintro e w7 ⟨rfl, rfl⟩))
              have e1 : ((i : Int) + 1) = ((i + 1 : Nat) : Int) := by omega
              rw [e1]
              go_roundg (ls - (i + 1))
              case measure => have := HK.out; omega
              case rel => exact ⟨i + 1, N, V, D, A8, c8, v', rfl, rfl, rfl, by omega, ⟨rfl⟩, ⟨by have := HN.out; omega, by have := HN.out; omega⟩, ⟨HSt.out.below hb6.out⟩⟩
            · obtain ⟨m, rfl⟩ := Int.eq_ofNat_of_zero_le (show 0 ≤ s by omega)
              have hm : m < len := by omega
              have hmi : (m : Int) < (len : Int) := by omega
              obtain ⟨adl, rfl, hcl⟩ := num_at HCr.out m hm
              have hgo := getD_ok L HOK.out.2 m (by rw [HL.out]; exact hm)
              clear q1 q2
              by_cases q3 : L.getD m 0 = 0
              · have HP1 := Aside0.mk (HPx.out wr m HSt.out.bel (.inr (.inr ⟨m, rfl, hm, q3⟩)))
                rw [q3] at hcl
                clear hgo q3
                go_upto_region 15 with (go_at_call 23; refine (HP1.out).mono ?_; rintro e w6 ⟨rfl, hb6⟩; have hcl6 := pw_cell_below hb6 hcl; replace hb6 := Aside0.mk hb6; clear hcl)
                go_wp2_with (go_at_call 21; refine (HIs.out _).mono ?_; rintro e w7 ⟨rfl, rfl⟩)
                have e1 : ((i : Int) + 1) = ((i + 1 : Nat) : Int) := by omega
                rw [e1]
                go_roundg (ls - (i + 1))
                case measure => have := HK.out; omega
                case rel => exact ⟨i + 1, N, V, D, A8, c8, v', rfl, rfl, rfl, by omega, ⟨rfl⟩, ⟨by have := HN.out; omega, by have := HN.out; omega⟩, ⟨HSt.out.below hb6.out⟩⟩
              · obtain ⟨n, hn⟩ := Int.eq_ofNat_of_zero_le hgo.1
                have hhas : Has L m n := ⟨by rw [HL.out]; exact hm, by intro e; subst e; exact q3 hn, hn⟩
                have HHas := Aside0.mk hhas
                have HP1 := Aside0.mk (HPc.out wr v' V N m n HSt.out.bel HSt.out.wri (by omega) hhas)
                have hn15 : (n : Int) ≤ 15 := by omega
                have hn0 : ((n : Int) == 0) = false := by simp; exact hhas.2.1
                have HCl : Aside0 (∀ wx, Below w2.heap.size w2 wx → wx.cell? (adl.add m) = some (.int .i64 n)) := ⟨fun wx hb => by
                  obtain ⟨ad', e', h'⟩ := num_at (Kd.C_below HC.out (below_then hb2.out hb2.out.size hb)) m hm
                  cases e'
                  rw [h', hn]⟩
                have hDl := HN.out.2
                have HDl := Aside0.mk hDl
                clear hgo q3 hhas hcl hn hDl
                go_upto_region 15 with (go_at_call 23; refine (HP1.out).mono ?_; rintro e w6 ⟨rfl, w5, v6, hb5, hw6, hg6⟩; have hput := HSt.out.put hb5 hw6 hg6; have hcl6 := HCl.out _ hput.1; have HPut := Aside0.mk hput; have HW6 := Aside0.mk hw6; clear hb5 hw6 hg6 hput)
                go_upto_region 20 with fail
                have ha1 := pw_own_below HPut.out.2 (below_alloc (Below.refl _ _) (.cells (nums .i64 [(m : Int)]).toArray 3))
                have ha2 := reads_of_C (C_block _ w6.heap.size .i64 [(m : Int)] 3 (0, 0) (alloc_self w6 (.cells (nums .i64 [(m : Int)]).toArray 3)) (by simp))
                have ha3 := below_then HPut.out.1 HPut.out.1.size (below_alloc (Below.refl _ _) (.cells (nums .i64 [(m : Int)]).toArray 3))
                have ha4 : w2.heap.size ≤ (w6.alloc (.cells (nums .i64 [(m : Int)]).toArray 3)).heap.size := Nat.le_trans HPut.out.1.size (by rw [alloc_size]; omega)
                have ha5 : (D.length + 1) * 8 ≤ 140737488355328 := by have h1 := HDl.out; have h2 := HLB.out; omega
                have ha6 := HW6.out.below (below_alloc (Below.refl _ _) (.cells (nums .i64 [(m : Int)]).toArray 3))
                have HH := Aside0.mk (And.intro ha1 (And.intro ha2 (And.intro ha3 (And.intro ha4 (And.intro ha5 ha6)))))
                clear ha1 ha2 ha3 ha4 ha5 ha6
                go_wp2_with ((with_reducible refine gate_dst (N := 72) rfl ?_); refine print_append_row (w0 := w2) w2.heap.size rfl (.tmp 69) (.tmp 71) 22 3 .i64 8 rfl Try.underlying22 info_i64 (by decide) (.slice A8 D.length c8) D [(m : Int)] (some ⟨w6.heap.size, 0, none⟩) 1 1 rfl rfl HH.out.1 HH.out.2.1 HH.out.2.2.1 HH.out.2.2.2.1 HH.out.2.2.2.2.1 ?_; intro v7 w7 ho7 hb7 hg7 hk7; obtain ⟨A9, c9, rfl⟩ := own_slice ho7; have hcl7 := HCl.out _ hb7; have HO7 := Aside0.mk ho7; have HB7 := Aside0.mk hb7; have HW7 := Aside0.mk (StB.app HH.out.2.2.2.2.2 HH.out.1 hg7); clear ho7 hb7 hg7 hk7)
                have e1 : ((i : Int) + 1) = ((i + 1 : Nat) : Int) := by omega
                rw [e1]
                go_roundg (ls - (i + 1))
                case measure => have := HK.out; omega
                case rel =>
                  refine ⟨i + 1, N + n, _, D ++ [(m : Int)], A9, c9, v6, by simp, by rw [show (N : Int) + (n : Int) = ((N + n : Nat) : Int) by omega], rfl, by omega, ⟨rfl⟩, ⟨by have := HN.out; omega, by have := HN.out; simp; omega⟩, ⟨HB7.out, HW7.out, HO7.out, .snoc V N m n D HSt.out.enc HHas.out (pow_code L HOK.out.2 HOV.out m n HHas.out).1 (by omega)⟩⟩
        · have hlt' : ¬ (i : Int) < (ls : Int) := by omega
          have hD60 : (D.length : Int) ≤ 60 := by have := HN.out.2; have := HLB.out; omega
          have hN900 : N ≤ 900 := by have := HN.out.1; have := HLB.out; omega
          have HN900 := Aside0.mk hN900
          have hel := enc_len HSt.out.enc
          have HEl := Aside0.mk hel
          have HTx := Aside0.mk (wtext_calls wr w2.heap.size w2.heap.size v' V N HSt.out.wri (by omega))
          clear hel hN900 HPx HPc HIs
          go_wp2_with (first
            | (go_at_call 24; refine (HTx.out).mono ?_; rintro e wt ⟨vt, rfl, hot, hbt⟩; have hnt := own_none' hot; obtain ⟨At, ct, rfl, hct, hCt⟩ := own_slice' hot; replace hnt := Aside0.mk hnt; replace hCt := Aside0.mk hCt; replace hbt := Aside0.mk hbt; clear hot)
            | (go_at_call 16; refine (newReader_calls At ((N + 7) / 8) ct V wt hCt.out (Nat.lt_of_lt_of_le HEl.out.2 (Nat.pow_le_pow_right (by decide) (by omega))) (by have := HN900.out; omega) (hnt.out _ _ rfl)).mono ?_; rintro e w9 ⟨gr, vr, rfl, hr9, hb9⟩; replace hr9 := Aside0.mk hr9; replace hb9 := Aside0.mk hb9))
          have hgrw := hr9.out.bg
          have hsz1 := hbt.out.size
          have hsz0 := HSt.out.bel.size
          have HGr : Aside0 (w2.heap.size ≤ gr ∧ wr.heap.size ≤ gr ∧ w.heap.size ≤ gr) := ⟨by have := hb2.out.size; omega⟩
          have hbb := below_then hbt.out hbt.out.size hb9.out
          have HB9 := Aside0.mk (below_then HSt.out.bel HSt.out.bel.size hbb)
          have HW9 := Aside0.mk (HSt.out.wri.below hbb)
          have HO9 := Aside0.mk (pw_own_below HSt.out.row hbb)
          have HLd := Aside0.mk (own_lt HSt.out.row)
          have HLw := Aside0.mk (own_lt HSt.out.wri.wr.row)
          have HEn := Aside0.mk HSt.out.enc
          have HGw := Aside0.mk (blk_lt HSt.out.wri.wr.blk)
          have HNi := Aside0.mk HN.out
          clear hgrw hsz1 hsz0 hbb hbt hb9 HTx hnt hCt HSt
          go_loopg [85] D.length (fun kq v85 wx => ∃ i : Nat, v85 = .int .i64 i ∧ i ≤ D.length ∧ Aside0 (kq = D.length - i) ∧ Aside0 (Rdr wx wt.heap.size gr vr V ((N + 7) / 8) (slen L (D.take i))) ∧ Aside0 (w9.grownBy wx (some gr)))
          case atStart => exact ⟨0, rfl, Nat.zero_le _, ⟨rfl⟩, hr9, ⟨grown_refl _ _⟩⟩
          case round =>
            obtain ⟨j, rfl, hj, HK2, HR, HG⟩ := hrel
            have hno : (Value.slice A8 D.length c8).ownBlock = none ∨ (Value.slice A8 D.length c8).ownBlock ≠ some gr := by
              by_cases e : (Value.slice A8 D.length c8).ownBlock = none
              · exact .inl e
              · exact .inr fun e2 => by have := HLd.out gr e2; have := HGr.out.2.1; omega
            by_cases hlt2 : j < D.length
            · have hlt2' : (j : Int) < (D.length : Int) := by omega
              obtain ⟨A9, c9, e9, _, hC9⟩ := own_slice' (own_other HO9.out HG.out hno)
              cases e9
              obtain ⟨ad8, rfl, hc8⟩ := num_at hC9 j hlt2
              obtain ⟨s, n, h1, h2, h3, h4, h5⟩ := enc_at HEn.out j hlt2
              rw [h1] at hc8
              have hle := HR.out.le
              have HTk : Aside0 (Calls Try.prog 19 #[.pointer (some ⟨g, 0, none⟩), .pointer (some ⟨gr, 0, none⟩)] wr fun e w' => e = .returned (.tuple #[.int .i64 s, .nilIface]) ∧ Rdr w' wt.heap.size gr vr V ((N + 7) / 8) (slen L (D.take (j + 1))) ∧ wr.grownBy w' (some gr)) := ⟨by
                have h := take_calls wr _ _ g L ((hca.out.below HB9.out).grown HG.out (fun r e => by cases e; exact .inr HGr.out.1)) HOK.out.1 HOK.out.2 HOV.out _ gr vr V ((N + 7) / 8) (slen L (D.take j)) HR.out (by have := HN900.out; omega) (.inr HGr.out.1)
                refine h.mono ?_
                rintro e w' ⟨x', n', er', hT', rfl, k1, k2⟩
                obtain ⟨rfl, rfl, rfl⟩ := takeR_one (.sign s n ⟨h2, by omega, h5.symm⟩) hT'
                exact ⟨rfl, by rw [h4]; exact k1, k2.grown⟩⟩
              have e1 : ((s : Int) != (s : Int)) = false := by simp
              clear hC9 h1 h2 h3 h4 h5 hle hno
              go_wp2_with (go_at_call 19; refine (HTk.out).mono ?_; rintro e w8 ⟨rfl, hr8, hg8⟩; replace hr8 := Aside0.mk hr8; replace hg8 := Aside0.mk (grown_trans HG.out hg8))
              have e1 : ((j : Int) + 1) = ((j + 1 : Nat) : Int) := by omega
              rw [e1]
              go_roundg (D.length - (j + 1))
              case measure => have := HK2.out; omega
              case rel => exact ⟨j + 1, rfl, by omega, ⟨rfl⟩, hr8, hg8⟩
            · have hlt2' : ¬ (j : Int) < (D.length : Int) := by omega
              have hjd : j = D.length := by omega
              have hsl : slen L (D.take j) = N := by rw [hjd, List.take_length]; exact HEl.out.1.symm
              have HAt : Aside0 (Calls Try.prog 20 #[.pointer (some ⟨gr, 0, none⟩)] wr fun e w' => e = .returned (.int .i64 N) ∧ w' = wr) := ⟨by
                have := at_calls wr _ gr vr V ((N + 7) / 8) (slen L (D.take j)) HR.out
                rw [hsl] at this
                exact this⟩
              have HWx : Writ wr w2.heap.size w2.heap.size v' V N := HW9.out.other HG.out (by intro e; injection e with e; have h1 := HGw.out; have h2 := HGr.out.2.1; omega) (by
                by_cases e : v'.ownBlock = none
                · exact .inl e
                · exact .inr fun e2 => by have := HLw.out gr e2; have := HGr.out.2.1; omega)
              have HLe := Aside0.mk (wlen_calls wr w2.heap.size w2.heap.size v' V N HWx (by have := HN900.out; omega))
              have HBx := Aside0.mk (pw_below_grown (below_then hb2.out hb2.out.size HB9.out) (some gr) (Nat.le_trans hb2.out.size HB9.out.size) HG.out (fun k e => by cases e; exact HGr.out.2.2))
              have e1 : ((N : Int) == (N : Int)) = true := by simp
              clear hsl hno HWx
              go_wp2_with (first
                | (go_at_call 20; refine (HAt.out).mono ?_; rintro e w8 ⟨rfl, rfl⟩)
                | (go_at_call 25; refine (HLe.out).mono ?_; rintro e w8 ⟨rfl, m8, rfl⟩))
              go_ret
              exact ⟨rfl, pw_below_drewN HBx.out _⟩
  · go_enter Try.func5, Try.ntmps5
    by_cases h2 : len ≤ 330
    · have b2 : (len : Int) ≤ 330 := by omega
      have b3 : (60 : Int) < (ls : Int) := by omega
      clear h1
      go_wp2_with (go_at_call 7; refine (HA.out _).mono ?_; rintro e w1 ⟨rfl, hb⟩; replace hb := Aside0.mk hb)
      go_ret
      exact ⟨rfl, hb.out⟩
    · have b2 : (330 : Int) < (len : Int) := by omega
      clear h1
      go_wp2_with (go_at_call 7; refine (HA.out _).mono ?_; rintro e w1 ⟨rfl, hb⟩; replace hb := Aside0.mk hb)
      go_ret
      exact ⟨rfl, hb.out⟩
end Go.Proofs.Ytlgpmpnobcdogaa.My
