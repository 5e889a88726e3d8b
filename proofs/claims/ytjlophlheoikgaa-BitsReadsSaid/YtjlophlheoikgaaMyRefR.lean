/- The document's reader of layer 6: Number, Peek, Bits, Align, Bytes. -/
import Derived.Test.YtjlophlheoikgaaMyRef6
import Derived.Test.YtjlophlheoikgaaMyRbytes
import Derived.Test.YtjlophlheoikgaaPNumberx1
import Derived.Test.YtjlophlheoikgaaPPeekx1
namespace Go.Proofs.Ytjlophlheoikgaa.My
open Go.RowKit Go.Proofs.YtjlophlheoikgaaW.PrintWords Go.Proofs.YtjlophlheoikgaaW.PrintLast Go.Proofs.YtjlophlheoikgaaW.PrintMore Go.Proofs.Ytjlophlheoikgaa.PNumber

theorem num_step (U i : Nat) (m : Nat) : U / 2 ^ i % 2 ^ (m + 1) = U / 2 ^ (i + 1) % 2 ^ m * 2 + U / 2 ^ i % 2 := by
  rw [show U / 2 ^ (i + 1) = U / 2 ^ i / 2 by rw [Nat.pow_succ, Nat.div_div_eq_div_mul], Nat.pow_succ, Nat.mul_comm (2 ^ m) 2, Nat.mod_mul]
  omega
theorem number_l0 (U n : Nat) (hn : n ≤ 32) : ∀ i, i ≤ n → crossdockref06_Number.l0 (i + 1) (btL U n) ((U / 2 ^ i % 2 ^ (n - i) : Nat) : Int) ((i : Int) - 1) = some ((U % 2 ^ n : Nat) : Int)
  | 0, _ => by
    have h1 : U % 2 ^ n < 2 ^ 32 := Nat.lt_of_lt_of_le (Nat.mod_lt _ (Nat.two_pow_pos _)) (Nat.pow_le_pow_right (by decide) hn)
    rw [crossdockref06_Number.l0, if_neg (by omega)]
    simp only [Nat.pow_zero, Nat.div_one, Nat.sub_zero]
    congr 1
    omega
  | i + 1, h => by
    have h0 : U / 2 ^ (i + 1) % 2 ^ (n - (i + 1)) < 2 ^ 32 := Nat.lt_of_lt_of_le (Nat.mod_lt _ (Nat.two_pow_pos _)) (Nat.pow_le_pow_right (by decide) (by omega))
    have hb : U / 2 ^ i % 2 < 2 := Nat.mod_lt _ (by decide)
    have hs := num_step U i (n - (i + 1))
    rw [show n - (i + 1) + 1 = n - i by omega] at hs
    have ih := number_l0 U n hn i (by omega)
    rw [crossdockref06_Number.l0, if_pos (by omega), if_pos (by omega), btL_len, if_pos (by omega)]
    rw [show ((i + 1 : Nat) : Int) - 1 = (i : Int) by omega, btL_rd U n i (by omega)]
    rw [hs] at ih
    rw [show IntKind.u64.wrap (IntKind.u64.wrap (((U / 2 ^ (i + 1) % 2 ^ (n - (i + 1)) : Nat) : Int) * 2) + IntKind.u64.wrap ((U / 2 ^ i % 2 : Nat) : Int)) = ((U / 2 ^ (i + 1) % 2 ^ (n - (i + 1)) * 2 + U / 2 ^ i % 2 : Nat) : Int) by
      generalize U / 2 ^ (i + 1) % 2 ^ (n - (i + 1)) = x at *
      generalize U / 2 ^ i % 2 = y at *
      rw [IntKind.wrap_u64, IntKind.wrap_u64, IntKind.wrap_u64]
      omega, show wrap64 ((i : Int) - 1) = (i : Int) - 1 by unfold wrap64; omega]
    exact ih
theorem number_f (U n : Nat) (hn : n ≤ 32) : crossdockref06_Number.f (n + 1) (btL U n) = some ((U % 2 ^ n : Nat) : Int) := by
  have h := number_l0 U n hn n (Nat.le_refl _)
  rw [Nat.sub_self, Nat.pow_zero, Nat.mod_one] at h
  unfold crossdockref06_Number.f
  rw [btL_len, show wrap64 ((n : Int) - 1) = (n : Int) - 1 by unfold wrap64; omega]
  exact h
theorem number_calls (A : Option Addr) (c U n : Nat) (w : World) (hn : n ≤ 32) (hl : (Kd.int .u8).C w A n (btL U n)) (hc : n ≤ c) :
    Calls Try.prog 37 #[.slice A n c] w fun e w' => e = .returned (.int .u32 (U % 2 ^ n : Nat)) ∧ ∃ m, w' = w.drewN m := by
  have h := crossdockref06_Number.calls (n + 1) A c (btL U n) _ w (by rw [btL_len]; exact hl) (by rw [btL_len]; exact hc) (number_f U n hn)
  rw [btL_len] at h
  refine h.mono ?_
  rintro e w' ⟨rfl, ⟨m, rfl⟩⟩
  exact ⟨rfl, m, rfl⟩
theorem btL_mid (V N p k : Nat) (h : p + k ≤ N) : ((btL V N).take (p + k)).drop p = btL (V / 2 ^ p) k := by
  apply List.ext_getElem
  · simp; omega
  · intro i h1 h2
    have hi : i < k := by simpa using h2
    simp only [List.getElem_drop, List.getElem_take, btL, List.getElem_map, List.getElem_range]
    rw [Nat.div_div_eq_div_mul, ← Nat.pow_add]

theorem refAlign_calls (A : Option Addr) (N c a : Nat) (w : World) (ha : a ≤ 1000000000000) :
    Calls Try.prog 27 #[.agg #[.slice A N c, .int .i64 a]] w fun e w' => e = .returned (.tuple #[.int .i64 ((8 - a % 8) % 8 : Nat), .agg #[.slice A N c, .int .i64 (a + (8 - a % 8) % 8 : Nat)]]) ∧ Below w.heap.size w w' := by
  have HA := Aside0.mk ha
  obtain ⟨d, hd⟩ : ∃ d, d = (8 - a % 8) % 8 := ⟨_, rfl⟩
  rw [← hd]
  have HD := Aside0.mk hd
  clear hd ha
  go_enter Try.func27, Try.ntmps27
  go_wp2_with fail
  go_loopg [4] d (fun kq v4 wr => ∃ j : Nat, v4 = .int .i64 j ∧ j ≤ d ∧ Aside0 (kq = d - j) ∧ Aside0 (wr.heap[w.heap.size]? = some (.cells #[.slice A N c, .int .i64 (a + j : Nat)] 50 (0, 0))) ∧ Aside0 (wr.heap[w.heap.size + 1]? = some (.cells #[.slice none 0 0, .int .i64 0] 50 (0, 0))) ∧ Aside0 (Below w.heap.size w wr))
  case atStart =>
    refine ⟨0, rfl, Nat.zero_le _, ⟨rfl⟩, ⟨?_⟩, ⟨?_⟩, ⟨below_alloc (below_alloc (Below.refl _ _) _) _⟩⟩
    · exact blk_alloc (alloc_self _ _) _
    · have := alloc_self (w.alloc (.cells #[.slice A N c, .int .i64 a] 50)) (.cells #[.slice none 0 0, .int .i64 0] 50)
      simpa using this
  case round =>
    obtain ⟨j, rfl, hj, HK, HB1, HB2, HB⟩ := hrel
    have b5 : ((a + j : Nat) : Int) ≤ 1000000000010 := by have := HA.out; have := HD.out; omega
    have b6 : (j : Int) ≤ 10 := by have := HD.out; omega
    have c0 := blk_cell HB1.out 0
    have c1 := blk_cell HB1.out 1
    have f0 := blk_frozen HB1.out 0
    have f1 := blk_frozen HB1.out 1
    have d0 := blk_cell HB2.out 0
    have d1 := blk_cell HB2.out 1
    have e0 := blk_frozen HB2.out 0
    have e1 := blk_frozen HB2.out 1
    simp only [Array.getElem?_eq_getElem, List.size_toArray, List.length_cons, List.length_nil, Nat.reduceAdd, Nat.reduceLT, List.getElem_toArray, List.getElem_cons_succ, List.getElem_cons_zero] at c0 c1 d0 d1
    by_cases hlt : j < d
    · have b1 : ((((a + j : Nat) : Int).tmod 8) != 0) = true := by rw [Int.tmod_eq_emod_of_nonneg (by omega)]; simp; have := HD.out; omega
      have b2 : ((((a + j : Nat) : Int) % 8) != 0) = true := by simp; have := HD.out; omega
      have HJ := Aside0.mk hlt
      clear hlt hj
      go_wp2_with fail
      go_roundg (gk - 1)
      case measure => have := HK.out; have := HJ.out; omega
      case rel =>
        refine ⟨j + 1, by go_num, HJ.out, ⟨by have := HK.out; omega⟩, ⟨?_⟩, ⟨?_⟩, ⟨?_⟩⟩
        · have := blk_set HB1.out 1 (.int .i64 (((a + j : Nat) : Int) + 1))
          rw [← Nat.add_assoc, Int.natCast_add (a + j) 1]
          simpa using this
        · exact blk_far HB2.out (by simp) _
        · exact HB.out.setCell (Nat.le_refl _) _
    · obtain rfl : j = d := by omega
      have b1 : ((((a + j : Nat) : Int).tmod 8) != 0) = false := by rw [Int.tmod_eq_emod_of_nonneg (by omega)]; simp; have := HD.out; omega
      have b2 : ((((a + j : Nat) : Int) % 8) != 0) = false := by simp; have := HD.out; omega
      clear hlt hj
      go_wp2_with fail
      go_region
      all_goals (first | go_wp2_with fail | skip)
      all_goals
        refine bodyPost_ret (results_list (rs := [.tmp 2, .cell 3 50]) rfl (by simp) (.tmp (.cell (w.heap.size + 1) 50 #[.slice A N c, .int .i64 ((a : Int) + (j : Int))] (0, 0) _ rfl (by (with_reducible repeat (first | refine blk_drewN ?_ _ | refine blk_drew ?_ | refine blk_alloc ?_ _)); refine blk_put (cs := #[.slice A N c, .int .i64 0]) ?_ 1 _ rfl; (with_reducible repeat (first | refine blk_drewN ?_ _ | refine blk_drew ?_ | refine blk_alloc ?_ _)); refine blk_put (cs := #[.slice none 0 0, .int .i64 0]) ?_ 0 _ rfl; (with_reducible repeat (first | refine blk_drewN ?_ _ | refine blk_drew ?_ | refine blk_alloc ?_ _)); exact HB2.out) Try.underlying50 rfl (by kernel_rfl) .nil))) rfl ⟨by simp, ?_⟩
        exact ((HB.out.setCell (by simp) _).setCell (by simp) _).drew

theorem new2 (w : World) (o o' : Obj) : ((w.alloc o).alloc o').heap[w.heap.size + 1]? = some o' := by
  have := alloc_self (w.alloc o) o'
  simpa using this
theorem refBits_bad (A : Option Addr) (N c a : Nat) (n : Int) (e : Int) (w : World) (hN : N ≤ 1000000000000) (ha : a ≤ N) (hE : bitsE n (N - a) = some e) :
    Calls Try.prog 25 #[.agg #[.slice A N c, .int .i64 a], .int .i64 n] w fun r w' => r = .returned (.tuple #[.int .u32 0, .agg #[.slice A N c, .int .i64 a], .int .i64 e]) ∧ Below w.heap.size w w' := by
  have b1 : (a : Int) ≤ 1000000000000 := by omega
  have b2 : (N : Int) ≤ 1000000000000 := by omega
  unfold bitsE at hE
  cases hf : inW n with
  | false =>
    rw [hf] at hE
    cases hE
    by_cases h0 : n < 0
    · clear hf
      go_enter Try.func25, Try.ntmps25
      go_wp2_with fail
      go_region
      all_goals (first | go_wp2_with fail | skip)
      all_goals
        refine bodyPost_ret (results_list (rs := [.tmp 4, .cell 5 50, .tmp 6]) rfl (by simp) (.tmp (.cell (w.heap.size + 1) 50 #[.slice A N c, .int .i64 a] (0, 0) _ rfl (by (with_reducible repeat (first | refine blk_drewN ?_ _ | refine blk_drew ?_)); exact new2 _ _ _) Try.underlying50 rfl (by kernel_rfl) (.tmp .nil)))) rfl ⟨rfl, by (with_reducible repeat (first | refine pw_below_drewN ?_ _ | refine below_drew ?_ | refine below_alloc ?_ _)); exact Below.refl _ _⟩
    · have h1 : (32 : Int) < n := by
        have := of_decide_eq_false hf
        omega
      have h2 : decide (n < 0) = false := by simpa using h0
      clear hf h0
      go_enter Try.func25, Try.ntmps25
      go_wp2_with fail
      go_region
      all_goals (first | go_wp2_with fail | skip)
      all_goals
        refine bodyPost_ret (results_list (rs := [.tmp 4, .cell 5 50, .tmp 6]) rfl (by simp) (.tmp (.cell (w.heap.size + 1) 50 #[.slice A N c, .int .i64 a] (0, 0) _ rfl (by (with_reducible repeat (first | refine blk_drewN ?_ _ | refine blk_drew ?_)); exact new2 _ _ _) Try.underlying50 rfl (by kernel_rfl) (.tmp .nil)))) rfl ⟨rfl, by (with_reducible repeat (first | refine pw_below_drewN ?_ _ | refine below_drew ?_ | refine below_alloc ?_ _)); exact Below.refl _ _⟩
  | true =>
    have hin : 0 ≤ n ∧ n ≤ 32 := of_decide_eq_true hf
    rw [hf, if_pos rfl] at hE
    by_cases hl : n ≤ ((N - a : Nat) : Int)
    · rw [if_pos hl] at hE; cases hE
    · rw [if_neg hl] at hE
      cases hE
      have h0 : 0 ≤ n := hin.1
      have h1 : n ≤ 32 := hin.2
      have h3 : (N : Int) < (a : Int) + n := by omega
      clear hf hin hl ha
      go_enter Try.func25, Try.ntmps25
      go_wp2_with fail
      go_region
      all_goals (first | go_wp2_with fail | skip)
      all_goals
        refine bodyPost_ret (results_list (rs := [.tmp 4, .cell 5 50, .tmp 6]) rfl (by simp) (.tmp (.cell (w.heap.size + 1) 50 #[.slice A N c, .int .i64 a] (0, 0) _ rfl (by (with_reducible repeat (first | refine blk_drewN ?_ _ | refine blk_drew ?_)); exact new2 _ _ _) Try.underlying50 rfl (by kernel_rfl) (.tmp .nil)))) rfl ⟨rfl, by (with_reducible repeat (first | refine pw_below_drewN ?_ _ | refine below_drew ?_ | refine below_alloc ?_ _)); exact Below.refl _ _⟩

theorem refBits_calls (A : Option Addr) (V N c a : Nat) (n : Nat) (w : World) (hN : N ≤ 1000000000000) (ha : a ≤ N) (hC : (Kd.int .u8).C w A N (btL V N)) (hc : N ≤ c) (hcap : A = none → N = 0 ∧ c = 0) (hE : bitsE n (N - a) = none) :
    Calls Try.prog 25 #[.agg #[.slice A N c, .int .i64 a], .int .i64 n] w fun r w' => r = .returned (.tuple #[.int .u32 (V / 2 ^ a % 2 ^ n : Nat), .agg #[.slice A N c, .int .i64 ((a : Int) + (n : Int))], .int .i64 0]) ∧ Below w.heap.size w w' := by
  have b1 : (a : Int) ≤ 1000000000000 := by omega
  have b2 : (N : Int) ≤ 1000000000000 := by omega
  unfold bitsE at hE
  cases hf : inW (n : Int) with
  | false => rw [hf] at hE; cases hE
  | true =>
    have hin : 0 ≤ (n : Int) ∧ (n : Int) ≤ 32 := of_decide_eq_true hf
    rw [hf, if_pos rfl] at hE
    by_cases hl : (n : Int) ≤ ((N - a : Nat) : Int)
    · have h1 : (n : Int) ≤ 32 := hin.2
      have h3 : (a : Int) + (n : Int) ≤ (N : Int) := by omega
      obtain ⟨i0, hi0, hz⟩ := Option.map_eq_some_iff.1 info_u8
      simp only [Prod.mk.injEq] at hz
      obtain ⟨A1, hcut, hC1, hnil⟩ := cut_mid (P := Try.prog) (k := .u8) 26 5 Try.underlying26 hi0 hz.2.1 A N c (btL V N) a (a + n) (by omega) (by omega) (btL_len _ _) hc hcap
      have hcut' : ∀ W : World, (Instr.slice 26 (.slice A N c) (some (.int .i64 a)) (some (.int .i64 ((a : Int) + (n : Int)))) none).run Try.prog W = .ok (.slice A1 (a + n - a) (c - a)) W := fun W => by
        have := hcut .i64 .i64 W
        rwa [Int.natCast_add] at this
      rw [show a + n - a = n by omega] at hcut' hC1
      rw [btL_mid V N a n (by omega)] at hC1
      have HNum : Aside0 (∀ w1, Below w.heap.size w w1 → Calls Try.prog 37 #[.slice A1 n (c - a)] w1 fun e w' => e = .returned (.int .u32 (V / 2 ^ a % 2 ^ n : Nat)) ∧ ∃ m, w' = w1.drewN m) :=
        ⟨fun w1 hb => number_calls A1 (c - a) (V / 2 ^ a) n w1 (by omega) (Kd.C_below (hC1 _ hC) hb) (by omega)⟩
      generalize V / 2 ^ a % 2 ^ n = R at *
      clear hf hin hl ha hE hC hc hcap hi0 hz hcut hC1 hnil
      go_enter Try.func25, Try.ntmps25
      go_wp2_with (go_at_call 37; refine (HNum.out _ (by (with_reducible repeat (first | refine pw_below_drewN ?_ _ | refine below_drew ?_ | refine below_alloc ?_ _)); exact Below.refl _ _)).mono ?_; rintro e w' ⟨rfl, m, rfl⟩)
      go_region
      all_goals (first | go_wp2_with fail | skip)
      all_goals
        refine bodyPost_ret (results_list (rs := [.tmp 4, .cell 5 50, .tmp 6]) rfl (by simp) (.tmp (.cell (w.heap.size + 1) 50 #[.slice A N c, .int .i64 ((a : Int) + (n : Int))] (0, 0) _ rfl (by (with_reducible repeat (first | refine blk_drewN ?_ _ | refine blk_drew ?_)); refine blk_put (cs := #[.slice A N c, .int .i64 0]) ?_ 1 _ rfl; refine blk_put (cs := #[.slice none 0 0, .int .i64 0]) ?_ 0 _ rfl; refine blk_far ?_ (by simp) _; (with_reducible repeat (first | refine blk_drewN ?_ _ | refine blk_drew ?_)); exact new2 _ _ _) Try.underlying50 rfl (by kernel_rfl) (.tmp .nil)))) rfl ⟨rfl, ?_⟩
        refine Below.drew (Below.setCell (Below.setCell (Below.setCell ?_ (by simp) _) (by simp) _) (by simp) _)
        (with_reducible repeat (first | refine pw_below_drewN ?_ _ | refine below_drew ?_ | refine below_alloc ?_ _))
        exact Below.refl _ _
    · rw [if_neg hl] at hE; cases hE

theorem refBytes_bad (A : Option Addr) (N c a : Nat) (n : Int) (e : Int) (w : World) (hN : N ≤ 1000000000000) (ha : a ≤ N) (hE : byteE n a (N - a) = some e) :
    Calls Try.prog 28 #[.agg #[.slice A N c, .int .i64 a], .int .i64 n] w fun r w' => r = .returned (.tuple #[.slice none 0 0, .agg #[.slice A N c, .int .i64 a], .int .i64 e]) ∧ Below w.heap.size w w' := by
  have b1' : (a : Int) ≤ 1000000000000 := by omega
  have b2' : (N : Int) ≤ 1000000000000 := by omega
  unfold byteE at hE
  by_cases h1 : n < 0
  · rw [if_pos h1] at hE
    cases hE
    clear ha
    go_enter Try.func28, Try.ntmps28
    go_wp2_with fail
    go_region
    all_goals (first | go_wp2_with fail | skip)
    all_goals
      refine bodyPost_ret (results_list (rs := [.tmp 4, .cell 5 50, .tmp 6]) rfl (by simp) (.tmp (.cell (w.heap.size + 1) 50 #[.slice A N c, .int .i64 a] (0, 0) _ rfl (by (with_reducible repeat (first | refine blk_drewN ?_ _ | refine blk_drew ?_)); exact new2 _ _ _) Try.underlying50 rfl (by kernel_rfl) (.tmp .nil)))) rfl ⟨rfl, by (with_reducible repeat (first | refine pw_below_drewN ?_ _ | refine below_drew ?_ | refine below_alloc ?_ _)); exact Below.refl _ _⟩
  · rw [if_neg h1] at hE
    by_cases h2 : a % 8 = 0
    · rw [if_neg (by omega)] at hE
      by_cases h3 : n > (((N - a) / 8 : Nat) : Int)
      · rw [if_pos h3] at hE
        cases hE
        have b1 : (((a : Int).tmod 8) != 0) = false := by rw [Int.tmod_eq_emod_of_nonneg (by omega)]; simp; omega
        have b2 : (((a : Int) % 8) != 0) = false := by simp; omega
        have b3 : ((N : Int) - (a : Int)) / 8 < n := by omega
        have b4 : (a : Int) ≤ (N : Int) := by omega
        clear h2 h3 ha hN
        go_enter Try.func28, Try.ntmps28
        go_wp2_with fail
        go_region
        all_goals (first | go_wp2_with fail | skip)
        all_goals
          refine bodyPost_ret (results_list (rs := [.tmp 4, .cell 5 50, .tmp 6]) rfl (by simp) (.tmp (.cell (w.heap.size + 1) 50 #[.slice A N c, .int .i64 a] (0, 0) _ rfl (by (with_reducible repeat (first | refine blk_drewN ?_ _ | refine blk_drew ?_)); exact new2 _ _ _) Try.underlying50 rfl (by kernel_rfl) (.tmp .nil)))) rfl ⟨rfl, by (with_reducible repeat (first | refine pw_below_drewN ?_ _ | refine below_drew ?_ | refine below_alloc ?_ _)); exact Below.refl _ _⟩
      · rw [if_neg h3] at hE; cases hE
    · rw [if_pos h2] at hE
      cases hE
      have b1 : (((a : Int).tmod 8) != 0) = true := by rw [Int.tmod_eq_emod_of_nonneg (by omega)]; simp; omega
      have b2 : (((a : Int) % 8) != 0) = true := by simp; omega
      clear h2 ha hN
      go_enter Try.func28, Try.ntmps28
      go_wp2_with fail
      go_region
      all_goals (first | go_wp2_with fail | skip)
      all_goals
        refine bodyPost_ret (results_list (rs := [.tmp 4, .cell 5 50, .tmp 6]) rfl (by simp) (.tmp (.cell (w.heap.size + 1) 50 #[.slice A N c, .int .i64 a] (0, 0) _ rfl (by (with_reducible repeat (first | refine blk_drewN ?_ _ | refine blk_drew ?_)); exact new2 _ _ _) Try.underlying50 rfl (by kernel_rfl) (.tmp .nil)))) rfl ⟨rfl, by (with_reducible repeat (first | refine pw_below_drewN ?_ _ | refine below_drew ?_ | refine below_alloc ?_ _)); exact Below.refl _ _⟩

/-- The document's Text at a row of bits, whatever number it is cut of. -/
theorem btL_mod (U n : Nat) : btL U n = btL (U % 2 ^ n) n := by
  apply List.ext_getElem
  · simp
  · intro i h1 h2
    have hi : i < n := by simpa using h1
    simp only [btL, List.getElem_map, List.getElem_range]
    congr 1
    rw [show 2 ^ n = 2 ^ i * 2 ^ (n - i) by rw [← Nat.pow_add]; congr 1; omega, Nat.mod_mul_right_div_self]
    exact (Nat.mod_mod_of_dvd _ ⟨2 ^ (n - i - 1), by rw [Nat.mul_comm, ← Nat.pow_succ]; congr 1; omega⟩).symm
theorem refText_row (A : Option Addr) (c U n : Nat) (w : World) (hn : n ≤ 10000000000) (hl : (Kd.int .u8).C w A (8 * n) (btL U (8 * n))) (hc : 8 * n ≤ c) :
    Calls Try.prog 19 #[.slice A (8 * n) c] w fun e w' => ∃ A' c', e = .returned (.slice A' n c') ∧ w'.ownsRow w.heap.size 5 1 (.slice A' n c') n (nums .u8 (leB U n)) ∧ Below w.heap.size w w' := by
  have hV : U % 2 ^ (8 * n) < 2 ^ (8 * n) := Nat.mod_lt _ (Nat.two_pow_pos _)
  have h := PText.crossdockref06_Text.calls (8 * n + 1) A c (btL (U % 2 ^ (8 * n)) (8 * n)) _ w (by rw [btL_len, ← btL_mod]; exact hl) (by rw [btL_len]; exact hc) (text_f _ (8 * n) hV (by omega))
  rw [btL_len] at h
  refine h.mono ?_
  rintro e w' ⟨v, rfl, hr, hb⟩
  have ho := Kd.own_of_R (enc := Value.int .u8) hr
  rw [leB_len, show (8 * n + 7) / 8 = n by omega] at ho
  rw [leB_congr (V := U % 2 ^ (8 * n)) (V' := U) (by rw [Nat.mod_mod])] at ho
  obtain ⟨A', c', rfl⟩ := own_slice ho
  exact ⟨A', c', rfl, ho, hb⟩
theorem refBytes_calls (A : Option Addr) (V N c a : Nat) (n : Nat) (w : World) (hN : N ≤ 1000000000) (ha : a ≤ N) (hC : (Kd.int .u8).C w A N (btL V N)) (hc : N ≤ c) (hcap : A = none → N = 0 ∧ c = 0) (hE : byteE n a (N - a) = none) :
    Calls Try.prog 28 #[.agg #[.slice A N c, .int .i64 a], .int .i64 n] w fun r w' => ∃ A' c', r = .returned (.tuple #[.slice A' n c', .agg #[.slice A N c, .int .i64 ((a : Int) + 8 * (n : Int))], .int .i64 0]) ∧ w'.ownsRow w.heap.size 5 1 (.slice A' n c') n (nums .u8 (leB (V / 2 ^ a) n)) ∧ Below w.heap.size w w' := by
  have b1' : (a : Int) ≤ 1000000000000 := by omega
  have b2' : (N : Int) ≤ 1000000000000 := by omega
  unfold byteE at hE
  rw [if_neg (by omega)] at hE
  by_cases h2 : a % 8 = 0
  · rw [if_neg (by omega)] at hE
    by_cases h3 : (n : Int) > (((N - a) / 8 : Nat) : Int)
    · rw [if_pos h3] at hE; cases hE
    · have h3' : a + 8 * n ≤ N := by omega
      obtain ⟨i0, hi0, hz⟩ := Option.map_eq_some_iff.1 info_u8
      simp only [Prod.mk.injEq] at hz
      obtain ⟨A1, hcut, hC1, hnil⟩ := cut_mid (P := Try.prog) (k := .u8) 26 5 Try.underlying26 hi0 hz.2.1 A N c (btL V N) a (a + 8 * n) (by omega) h3' (btL_len _ _) hc hcap
      have hcut' : ∀ W : World, (Instr.slice 26 (.slice A N c) (some (.int .i64 a)) (some (.int .i64 ((a : Int) + 8 * (n : Int)))) none).run Try.prog W = .ok (.slice A1 (8 * n) (c - a)) W := fun W => by
        have := hcut .i64 .i64 W
        rw [show a + 8 * n - a = 8 * n by omega] at this
        rwa [show ((a + 8 * n : Nat) : Int) = (a : Int) + 8 * (n : Int) by omega] at this
      rw [show a + 8 * n - a = 8 * n by omega, btL_mid V N a (8 * n) h3'] at hC1
      have HTx : Aside0 (∀ w1, Below w.heap.size w w1 → Calls Try.prog 19 #[.slice A1 (8 * n) (c - a)] w1 fun e w' => ∃ A' c', e = .returned (.slice A' n c') ∧ w'.ownsRow w1.heap.size 5 1 (.slice A' n c') n (nums .u8 (leB (V / 2 ^ a) n)) ∧ Below w1.heap.size w1 w') :=
        ⟨fun w1 hb => refText_row A1 (c - a) (V / 2 ^ a) n w1 (by omega) (Kd.C_below (hC1 _ hC) hb) (by omega)⟩
      have b1 : (((a : Int).tmod 8) != 0) = false := by rw [Int.tmod_eq_emod_of_nonneg (by omega)]; simp; omega
      have b2 : (((a : Int) % 8) != 0) = false := by simp; omega
      have b3 : (n : Int) ≤ ((N : Int) - (a : Int)) / 8 := by omega
      have b4 : (a : Int) ≤ (N : Int) := by omega
      have b5 : (n : Int) ≤ 1000000000000 := by omega
      clear h2 h3 h3' hE ha hC hc hcap hi0 hz hcut hC1 hnil hN
      go_enter Try.func28, Try.ntmps28
      go_wp2_with (go_at_call 19; refine (HTx.out _ (by (with_reducible repeat (first | refine pw_below_drewN ?_ _ | refine below_drew ?_ | refine below_alloc ?_ _)); exact Below.refl _ _)).mono ?_; rintro e w2 ⟨A2, c2, rfl, hC2, hb2⟩; have hbx := blk_below (blk_alloc (alloc_self w (.cells #[.slice A N c, .int .i64 a] 50)) (.cells #[.slice none 0 0, .int .i64 0] 50)) hb2; have m0 := blk_cell hbx 0; have m1 := blk_cell hbx 1; have f1 := blk_frozen hbx 1; have hby := blk_below (new2 w (.cells #[.slice A N c, .int .i64 a] 50) (.cells #[.slice none 0 0, .int .i64 0] 50)) hb2; have k0 := blk_cell hby 0; have k1 := blk_cell hby 1; have g0 := blk_frozen hby 0; have g1 := blk_frozen hby 1; simp only [Array.getElem?_eq_getElem, List.size_toArray, List.length_cons, List.length_nil, Nat.reduceAdd, Nat.reduceLT, List.getElem_toArray, List.getElem_cons_succ, List.getElem_cons_zero] at m0 m1 k0 k1; replace hC2 := Aside0.mk hC2; replace hb2 := Aside0.mk hb2; replace hbx := Aside0.mk hbx; replace hby := Aside0.mk hby)
      go_region
      all_goals (first | go_wp2_with fail | skip)
      all_goals
        refine bodyPost_ret (results_list (rs := [.tmp 4, .cell 5 50, .tmp 6]) rfl (by simp) (.tmp (.cell (w.heap.size + 1) 50 #[.slice A N c, .int .i64 ((a : Int) + 8 * (n : Int))] (0, 0) _ rfl (by (with_reducible repeat (first | refine blk_drewN ?_ _ | refine blk_drew ?_)); refine blk_put (cs := #[.slice A N c, .int .i64 0]) ?_ 1 _ rfl; refine blk_put (cs := #[.slice none 0 0, .int .i64 0]) ?_ 0 _ rfl; refine blk_far ?_ (by simp) _; exact hby.out) Try.underlying50 rfl (by kernel_rfl) (.tmp .nil)))) rfl ⟨_, _, rfl, ?_, ?_⟩
        · have hne0 : some w.heap.size ≠ (Value.slice A2 n c2).ownBlock := fun h => by have := own_base hC2.out _ h.symm; simp at this; omega
          have hne1 : some (w.heap.size + 1) ≠ (Value.slice A2 n c2).ownBlock := fun h => by have := own_base hC2.out _ h.symm; simp at this; omega
          exact own_weaken (own_drew (own_setCell (own_setCell (own_setCell hC2.out hne0 _) hne1 _) hne1 _)) (by simp; omega)
        · have hsz : w.heap.size ≤ ((w.alloc (.cells #[.slice A N c, .int .i64 a] 50)).alloc (.cells #[.slice none 0 0, .int .i64 0] 50)).heap.size := by simp; omega
          exact Below.drew (Below.setCell (Below.setCell (Below.setCell (Below.trans (below_alloc (below_alloc (Below.refl _ _) _) _) (hb2.out.mono hsz)) (by simp) _) (by simp) _) (by simp) _)
    
  · rw [if_pos h2] at hE; cases hE
theorem number_same : ∀ (k : Nat) (l : List Int) (x i : Int), PPeek.crossdockref06_Number.l0 k l x i = crossdockref06_Number.l0 k l x i
  | 0, _, _, _ => rfl
  | k + 1, l, x, i => by
    rw [PPeek.crossdockref06_Number.l0, crossdockref06_Number.l0]
    simp only [number_same k]
theorem refPeek_calls (A : Option Addr) (V N c a : Nat) (n : Nat) (w : World) (hn : n ≤ 32) (hN : N ≤ 1000000000) (ha : a ≤ N) (hC : (Kd.int .u8).C w A N (btL V N)) (hc : N ≤ c) :
    Calls Try.prog 26 #[.agg #[.slice A N c, .int .i64 a], .int .i64 n] w fun r w' => r = .returned (.tuple #[.int .u32 (V / 2 ^ a % 2 ^ (min n (N - a)) : Nat), .int .i64 (min n (N - a) : Nat)]) ∧ Below w.heap.size w w' := by
  have e1 : wrap64 ((N : Int) - (a : Int)) = ((N - a : Nat) : Int) := by unfold wrap64; omega
  have e2 : mn (n : Int) ((N - a : Nat) : Int) = ((min n (N - a) : Nat) : Int) := by unfold mn; omega
  obtain ⟨k, hk⟩ : ∃ k, k = min n (N - a) := ⟨_, rfl⟩
  have e3 : wrap64 ((a : Int) + (k : Int)) = ((a + k : Nat) : Int) := by unfold wrap64; omega
  have hf : PPeek.crossdockref06_Peek.f (k + 1) (btL V N) (a : Int) (n : Int) = some (((V / 2 ^ a % 2 ^ k : Nat) : Int), ((k : Nat) : Int)) := by
    unfold PPeek.crossdockref06_Peek.f
    rw [if_neg (by omega), if_neg (by omega), if_pos (by omega), btL_len, e1, e2, ← hk, e3, if_pos (by omega), if_pos (by omega), Int.toNat_natCast, Int.toNat_natCast, btL_mid V N a k (by omega)]
    have h := number_f (V / 2 ^ a) k (by omega)
    unfold crossdockref06_Number.f at h
    unfold PPeek.crossdockref06_Number.f
    rw [number_same, h]
    rfl
  have h := PPeek.crossdockref06_Peek.calls (k + 1) A c (btL V N) a n _ _ w (by rw [btL_len]; exact hC) (by rw [btL_len]; exact hc) hf
  rw [btL_len, hk] at h
  exact h
theorem refPeek_bad (A : Option Addr) (V N c a : Nat) (n : Int) (w : World) (hn : inW n = false) (hC : (Kd.int .u8).C w A N (btL V N)) (hc : N ≤ c) :
    Calls Try.prog 26 #[.agg #[.slice A N c, .int .i64 a], .int .i64 n] w fun r w' => r = .returned (.tuple #[.int .u32 0, .int .i64 0]) ∧ Below w.heap.size w w' := by
  have hn' := of_decide_eq_false hn
  have hf : PPeek.crossdockref06_Peek.f 1 (btL V N) (a : Int) n = some (0, 0) := by
    unfold PPeek.crossdockref06_Peek.f
    by_cases h : n < 0
    · rw [if_pos h]
    · rw [if_neg h, if_pos (by omega)]
  have h := PPeek.crossdockref06_Peek.calls 1 A c (btL V N) a n _ _ w (by rw [btL_len]; exact hC) (by rw [btL_len]; exact hc) hf
  rw [btL_len] at h
  exact h
end Go.Proofs.Ytjlophlheoikgaa.My
