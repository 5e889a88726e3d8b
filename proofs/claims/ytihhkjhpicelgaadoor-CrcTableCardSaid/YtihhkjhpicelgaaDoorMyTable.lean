import Derived.Test.YtihhkjhpicelgaaDoorMyWalk
import Derived.Laws.Rows
namespace Go.Proofs.YtihhkjhpicelgaaDoor.My
open Go.RowKit Go.Proofs.YtihhkjhpicelgaaDoor.Plain Go.Proofs.YtihhkjhpicelgaaDoorW.PrintWords

def tabL (i : Nat) : List Int := (List.range 16).map fun j => if j < i then T j else 0
theorem tabL_length (i : Nat) : (tabL i).length = 16 := by simp [tabL]
theorem tabL_set : ∀ i : Nat, i < 16 → (nums .u32 (tabL i)).set i (.int .u32 (T i)) = nums .u32 (tabL (i + 1)) := by
  intro i hi
  rw [nums, ← List.map_set]
  congr 1
  revert i
  decide
/-- A block known whole, behind draws. -/
structure Blk (w : World) (g : Nat) (xs : List Value) (t : TypeId) : Prop where mk :: (out : w.heap[g]? = some (.cells xs.toArray t (0, 0)))
theorem Blk.drewN {w : World} {g : Nat} {xs : List Value} {t : TypeId} (h : Blk w g xs t) (n : Nat) : Blk (w.drewN n) g xs t := ⟨h.out⟩

theorem table_calls (w : World) :
    Calls Tryd.prog 12 #[] w fun e w' => e = .returned (.agg (nums .u32 (tabL 16)).toArray) ∧ Below w.heap.size w w' := by
  go_enter Tryd.func12, Tryd.ntmps12
  go_wp2
  go_loopg [2, 3, 4, 5] 16 (fun kq _ _ _ v5 wr => ∃ i : Nat, i ≤ 16 ∧ v5 = .int .i64 i ∧ Aside0 (kq = 16 - i) ∧ Blk wr w.heap.size (nums .u32 (tabL 0)) 31 ∧ Blk wr (w.heap.size + 1) (nums .u32 (tabL i)) 31 ∧ Aside0 (Below w.heap.size w wr))
  case atStart => exact ⟨0, by omega, rfl, ⟨rfl⟩, ⟨heap_alloc2_old _ _ _⟩, ⟨heap_alloc2_new _ _ _⟩, ⟨by repeat (first | exact Below.refl _ _ | apply below_alloc)⟩⟩
  case round =>
    obtain ⟨i, hi, rfl, HK, HA, HB, HW⟩ := hrel
    by_cases hlt : i < 16
    · go_wp2
      obtain ⟨wo, rfl⟩ : ∃ wo : World, wo = wr := ⟨_, rfl⟩
      obtain ⟨gk0, rfl⟩ : ∃ g : Nat, g = gk := ⟨_, rfl⟩
      go_loopg [3, 4, 10] 4 (fun kq v3 _ v10 w2 => ∃ (j r : Nat), j ≤ 4 ∧ v3 = .int .u32 r ∧ v10 = .int .i64 j ∧ Aside0 (kq = 4 - j ∧ r = stps j i ∧ r < 2 ^ 32) ∧ Drawn0 wo w2)
      case atStart => exact ⟨0, i, by omega, rfl, rfl, ⟨rfl, rfl, by omega⟩, Drawn0.refl _⟩
      case round =>
        obtain ⟨j, r, hj, rfl, rfl, HJ, ⟨n1, rfl⟩⟩ := hrel
        by_cases hjlt : j < 4
        · have h1 : bits .and .u32 (r : Int) 1 = ((r % 2 : Nat) : Int) := by
            rw [show (1 : Int) = ((1 : Nat) : Int) from rfl, and_nat r 1 HJ.out.2.2 (by decide), Nat.and_one_is_mod]
          by_cases hr : r % 2 = 1
          · have h2 : (bits .and .u32 (r : Int) 1 == 1) = true := by rw [h1, hr]; rfl
            have HS : Aside0 (bits .xor .u32 ((r : Int) / 2) 3988292384 = ((stp r : Nat) : Int) ∧ stp r < 2 ^ 32) := by
              refine ⟨?_, stp_lt r HJ.out.2.2⟩
              unfold stp; rw [if_pos hr, show (3988292384 : Int) = ((P32 : Nat) : Int) from rfl, show (r : Int) / 2 = ((r / 2 : Nat) : Int) from by omega, xor_nat _ _ (by have := HJ.out; omega) P32_lt]
            clear h1 hr
            go_wp2
            go_roundg (gk - 1)
            case measure => have := HJ.out; omega
            case rel => exact ⟨j + 1, stp r, by omega, by rw [HS.out.1], by go_num, ⟨by have := HJ.out; omega, by rw [stps_add, ← HJ.out.2.1]; rfl, HS.out.2⟩, by repeat (first | exact Drawn0.refl _ | apply Drawn0.step)⟩
          · have h2 : (bits .and .u32 (r : Int) 1 == 1) = false := by rw [h1]; simp; omega
            have HS : Aside0 ((r : Int) / 2 = ((stp r : Nat) : Int) ∧ stp r < 2 ^ 32) := by
              refine ⟨?_, stp_lt r HJ.out.2.2⟩
              unfold stp; rw [if_neg hr]; omega
            clear h1 hr
            go_wp2
            go_roundg (gk - 1)
            case measure => have := HJ.out; omega
            case rel => exact ⟨j + 1, stp r, by omega, by rw [HS.out.1], by go_num, ⟨by have := HJ.out; omega, by rw [stps_add, ← HJ.out.2.1]; rfl, HS.out.2⟩, by repeat (first | exact Drawn0.refl _ | apply Drawn0.step)⟩
        · have hc : wo.cell? ⟨w.heap.size + 1, i, none⟩ = some (.int .u32 ((tabL i).getD i 0)) := by
            rw [blk_cell HB.out]
            have : i < (tabL i).length := by rw [tabL_length]; omega
            simp [nums, this]
          have hf : wo.frozen? ⟨w.heap.size + 1, i, none⟩ = false := blk_frozen HB.out i
          have HR : Aside0 ((r : Int) = T i) := ⟨by rw [T_nat i hlt, HJ.out.2.1, show j = 4 from by omega]⟩
          have HB1 := Aside0.mk (blk_set HB.out i (.int .u32 (r : Int)))
          have HA1 := Aside0.mk (blk_far HA.out (p := ⟨w.heap.size + 1, i, none⟩) (by simp) (.int .u32 (r : Int)))
          have HW1 := Aside0.mk (HW.out.setCell (p := ⟨w.heap.size + 1, i, none⟩) (by simp) (.int .u32 (r : Int)))
          go_wp2
          go_roundg (gk0 - 1)
          case measure => have := HK.out; omega
          case rel =>
            refine ⟨i + 1, by omega, by go_num, ⟨by have := HK.out; omega⟩, ⟨HA1.out⟩, ⟨?_⟩, ⟨by (first | exact pw_below_drewN HW1.out _ | exact HW1.out)⟩⟩
            have := HB1.out
            rw [HR.out] at this
            rw [← tabL_set i hlt, HR.out]
            show (wo.setCell ⟨w.heap.size + 1, i, none⟩ (.int .u32 (T i))).heap[w.heap.size + 1]? = _
            simpa using this
    · obtain rfl : i = 16 := by omega
      have HB' := Aside0.mk HB.out
      go_wp2_with (first
        | ((with_reducible refine gate_dst (N := 25) rfl ?_); refine wpList_load_row rfl 31 (.tmp 1) rfl _ rfl 31 _ (0, 0) _ HB'.out Tryd.underlying31 rfl (by kernel_rfl) ?_)
        | (refine wpList_store_row rfl 31 (.tmp 0) (.tmp 25) rfl _ _ rfl rfl 31 _ HA.out (by kernel_rfl) (by kernel_rfl) (by kernel_rfl) ?_))
      exact bodyPost_ret (v := .agg (nums .u32 (tabL 16)).toArray) (results_cell_row (ty := 31) (p := 0) rfl _ _ w.heap.size 31 _ (0, 0) _ rfl (setRow_heap _ _ _ _ _ _ HA.out) Tryd.underlying31 rfl (by kernel_rfl)) rfl
        ⟨rfl, HW.out.trans ⟨rfl, rfl, rfl, by simp, fun k hk => setRow_other _ _ _ _ (by omega)⟩⟩

theorem tab_cell {w : World} {g : Nat} (h : Blk w g (nums .u32 (tabL 16)) 31) (q : Nat) (hq : q < 16) : w.cell? ⟨g, q, none⟩ = some (.int .u32 (T q)) := by
  rw [blk_cell h.out]
  simp [nums, tabL, hq]
theorem table_law (x : Nat) (w : World) (ht : TabW w) (hx : x < 256) :
    Calls Tryd.prog 6 #[.int .u8 x] w fun e w' => e = .returned (.bool true) ∧ Below w.heap.size w w' := by
  have HT := Aside0.mk ht
  clear ht
  go_enter Tryd.func6, Tryd.ntmps6
  go_wp2_with (first
    | (go_at_call 7; refine (alive_calls _ HT.out).mono ?_; rintro e w1 ⟨rfl, hb⟩; have HB := Aside0.mk hb; have HT1 := Aside0.mk (HT.out.below hb); clear hb)
    | (go_at_call 12; refine (table_calls _).mono ?_; rintro e w2 ⟨rfl, hb⟩; have HB2 := Aside0.mk hb; clear hb)
    | (refine wpList_store_row rfl 31 (.tmp 3) (.tmp 9) rfl _ _ rfl rfl 31 _ (heap_alloc_new _ _) (by kernel_rfl) (by kernel_rfl) (by kernel_rfl) ?_
       generalize hw3 : World.setRow _ _ _ = w3
       have HB3 : Blk w3 w2.heap.size (nums .u32 (tabL 16)) 31 := ⟨by rw [← hw3]; exact setRow_heap _ _ _ _ _ _ (heap_alloc_new _ _)⟩
       have HW3 : Aside0 (Below w.heap.size w w3) := ⟨by
         refine below_then HB.out HB.out.size (below_then HB2.out HB2.out.size ?_)
         rw [← hw3]
         exact (below_alloc (Below.refl _ _) _).trans ⟨rfl, rfl, rfl, by simp, fun k hk => setRow_other _ _ _ _ (by omega)⟩⟩
       clear hw3))
  go_loopg [4, 5, 10] 16 (fun kq _ _ v10 wr => ∃ i : Nat, i ≤ 16 ∧ v10 = .int .i64 i ∧ Aside0 (kq = 16 - i) ∧ Drawn0 w3 wr)
  case atStart => exact ⟨0, by omega, rfl, ⟨rfl⟩, Drawn0.refl _⟩
  case round =>
    obtain ⟨i, hi, rfl, HK, ⟨m1, rfl⟩⟩ := hrel
    by_cases hlt : i < 16
    · go_wp2
      obtain ⟨gk0, rfl⟩ : ∃ g : Nat, g = gk := ⟨_, rfl⟩
      go_loopg [5, 15] 4 (fun kq v5 v15 w4 => ∃ (j r : Nat), j ≤ 4 ∧ v5 = .int .u32 r ∧ v15 = .int .i64 j ∧ r < 4294967296 ∧ Aside0 (kq = 4 - j ∧ r = stps j i ∧ r < 2 ^ 32) ∧ Drawn0 w3 w4)
      case atStart => exact ⟨0, i, by omega, rfl, rfl, by omega, ⟨rfl, rfl, by omega⟩, ⟨⟨_, rfl⟩⟩⟩
      case round =>
        obtain ⟨j, r, hj, rfl, rfl, hr32, HJ, ⟨n1, rfl⟩⟩ := hrel
        by_cases hjlt : j < 4
        · have h1 : (r : Int).tmod 2 = ((r % 2 : Nat) : Int) := by rw [Int.tmod_eq_emod_of_nonneg (by omega)]; omega
          have h3 : (r : Int).tdiv 2 = ((r / 2 : Nat) : Int) := by rw [Int.tdiv_eq_ediv_of_nonneg (by omega)]; omega
          have h4 : r / 2 < 4294967296 := by omega
          by_cases hr : r % 2 = 1
          · have h2 : (((r % 2 : Nat) : Int) == 1) = true := by rw [hr]; rfl
            have HS : Aside0 (bits .xor .u32 ((r / 2 : Nat) : Int) 3988292384 = ((stp r : Nat) : Int) ∧ stp r < 2 ^ 32) := by
              refine ⟨?_, stp_lt r HJ.out.2.2⟩
              unfold stp; rw [if_pos hr, show (3988292384 : Int) = ((P32 : Nat) : Int) from rfl, xor_nat _ _ (by have := HJ.out; omega) P32_lt]
            clear hr
            go_wp2
            go_roundg (gk - 1)
            case measure => have := HJ.out; omega
            case rel => exact ⟨j + 1, stp r, by omega, by rw [← HS.out.1]; rfl, by go_num, by have := HS.out.2; omega, ⟨by have := HJ.out; omega, by rw [stps_add, ← HJ.out.2.1]; rfl, HS.out.2⟩, by repeat (first | exact Drawn0.refl _ | apply Drawn0.step)⟩
          · have h2 : (((r % 2 : Nat) : Int) == 1) = false := by simp; omega
            have HS : Aside0 (((r / 2 : Nat) : Int) = ((stp r : Nat) : Int) ∧ stp r < 2 ^ 32) := by
              refine ⟨?_, stp_lt r HJ.out.2.2⟩
              unfold stp; rw [if_neg hr]
            clear hr
            go_wp2
            go_roundg (gk - 1)
            case measure => have := HJ.out; omega
            case rel => exact ⟨j + 1, stp r, by omega, by rw [← HS.out.1]; rfl, by go_num, by have := HS.out.2; omega, ⟨by have := HJ.out; omega, by rw [stps_add, ← HJ.out.2.1]; rfl, HS.out.2⟩, by repeat (first | exact Drawn0.refl _ | apply Drawn0.step)⟩
        · have hc : w3.cell? ⟨w2.heap.size, i, none⟩ = some (.int .u32 (r : Int)) := by
            rw [tab_cell HB3 i hlt, T_nat i hlt, HJ.out.2.1, show j = 4 from by omega]
          go_wp2
          go_roundg (gk0 - 1)
          case measure => have := HK.out; omega
          case rel => exact ⟨i + 1, by omega, by go_num, ⟨by have := HK.out; omega⟩, by repeat (first | exact Drawn0.refl _ | apply Drawn0.step)⟩
    · have cell : ∀ q : Nat, q < 16 → w3.cell? ⟨w2.heap.size, q, none⟩ = some (.int .u32 (T q)) := by
        intro q hq
        exact tab_cell HB3 q hq
      obtain ⟨R0, hR0⟩ : ∃ R : Nat, R = M32 ^^^ x := ⟨_, rfl⟩
      have l0 : R0 < 4294967296 := by rw [hR0]; exact Nat.xor_lt_two_pow M32_lt (by omega)
      obtain ⟨R1, hR1⟩ : ∃ R : Nat, R = stps 4 R0 := ⟨_, rfl⟩
      have l1 : R1 < 4294967296 := by rw [hR1]; exact stps_lt 4 R0 l0
      obtain ⟨R2, hR2⟩ : ∃ R : Nat, R = stps 4 R1 := ⟨_, rfl⟩
      have l2 : R2 < 4294967296 := by rw [hR2]; exact stps_lt 4 R1 l1
      have E0 : bits .xor .u32 IntKind.u32.max (x : Int) = (R0 : Int) := by
        rw [show IntKind.u32.max = ((M32 : Nat) : Int) from by decide, xor_nat _ _ M32_lt (by omega), hR0]
      have M0 : (R0 : Int).tmod 16 = ((R0 % 16 : Nat) : Int) := by rw [Int.tmod_eq_emod_of_nonneg (by omega)]; omega
      have D0 : (R0 : Int).tdiv 16 = ((R0 / 16 : Nat) : Int) := by rw [Int.tdiv_eq_ediv_of_nonneg (by omega)]; omega
      have C0 := cell (R0 % 16) (by omega)
      have E1 : bits .xor .u32 (T (R0 % 16)) ((R0 : Int) / 16) = (R1 : Int) := by
        rw [show (R0 : Int) / 16 = ((R0 / 16 : Nat) : Int) from by omega, T_nat _ (by omega), xor_nat _ _ (stps_lt _ _ (by omega)) (by omega), hR1, stps_low 4 R0]
      have M1 : (R1 : Int).tmod 16 = ((R1 % 16 : Nat) : Int) := by rw [Int.tmod_eq_emod_of_nonneg (by omega)]; omega
      have D1 : (R1 : Int).tdiv 16 = ((R1 / 16 : Nat) : Int) := by rw [Int.tdiv_eq_ediv_of_nonneg (by omega)]; omega
      have C1 := cell (R1 % 16) (by omega)
      have E2 : bits .xor .u32 (T (R1 % 16)) ((R1 : Int) / 16) = (R2 : Int) := by
        rw [show (R1 : Int) / 16 = ((R1 / 16 : Nat) : Int) from by omega, T_nat _ (by omega), xor_nat _ _ (stps_lt _ _ (by omega)) (by omega), hR2, stps_low 4 R1]
      have q0 : R0 % 16 < 16 := by omega
      have q1 : R1 % 16 < 16 := by omega
      have z0 : R0 / 16 < 4294967296 := by omega
      have z1 : R1 / 16 < 4294967296 := by omega
      have HF : Aside0 (addF 0 [(x : Int)] = bits .xor .u32 IntKind.u32.max (R2 : Int)) := ⟨by
        have h := addF_nat 0 [x] (by decide) (fun y hy => by simp at hy; omega)
        rw [show IntKind.u32.max = ((M32 : Nat) : Int) from by decide, xor_nat _ _ M32_lt (by omega), hR2, hR1, ← stps_add, hR0]
        rw [show ints [x] = [(x : Int)] from rfl] at h
        rw [show (0 : Int) = ((0 : Nat) : Int) from rfl, h]
        rfl⟩
      have b0 : 0 ≤ (bits .xor .u32 IntKind.u32.max (x : Int)).tmod 16 := by rw [E0, M0]; omega
      have b1 : (bits .xor .u32 IntKind.u32.max (x : Int)).tmod 16 < 16 := by rw [E0, M0]; omega
      clear hR0 hR1 hR2 cell
      have HT3 := Aside0.mk (HT.out.below HW3.out)
      clear HB3 HK
      go_wp2_with fail
      refine (of_calls _ 1 [(x : Int)] _ ((HT3.out.drewN _).below (below_alloc (Below.refl _ _) _)) (C_block _ _ _ _ _ (alloc_self _ _) (by simp)) (by simp)).mono ?_
      rintro e w' ⟨rfl, ⟨nd, rfl⟩⟩
      rw [HF.out]
      go_wp2
      go_ret
      exact ⟨rfl, by repeat (first | exact HW3.out | apply pw_below_drewN | refine Below.alloc ?_ (by have := HW3.out.size; simpa using this) _)⟩
end Go.Proofs.YtihhkjhpicelgaaDoor.My
