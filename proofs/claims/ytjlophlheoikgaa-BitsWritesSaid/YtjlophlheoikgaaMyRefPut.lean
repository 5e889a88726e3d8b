/- The walk of the document's Put of layer 6. -/
import Derived.Test.YtjlophlheoikgaaMyRef6
import Derived.Test.YtjlophlheoikgaaMyWbytes
namespace Go.Proofs.Ytjlophlheoikgaa.My
open Go.RowKit Go.Proofs.YtjlophlheoikgaaW.PrintWords Go.Proofs.YtjlophlheoikgaaW.PrintLast Go.Proofs.YtjlophlheoikgaaW.PrintMore

def putL (x n : Nat) (high : Bool) (i : Nat) : List Int := (List.range i).map fun j => ((x / 2 ^ (if high then n - 1 - j else j) % 2 : Nat) : Int)
@[simp] theorem putL_len (x n : Nat) (high : Bool) (i : Nat) : (putL x n high i).length = i := by simp [putL]
theorem putL_succ (x n : Nat) (high : Bool) (i : Nat) : putL x n high (i + 1) = putL x n high i ++ [((x / 2 ^ (if high then n - 1 - i else i) % 2 : Nat) : Int)] := by simp [putL, List.range_succ]
theorem bit_div (a i : Nat) : a / 2 ^ i % 2 = (a.testBit i).toNat := by
  rw [Nat.testBit_eq_decide_div_mod_eq]
  have h : a / 2 ^ i % 2 < 2 := Nat.mod_lt _ (by decide)
  by_cases e : a / 2 ^ i % 2 = 1
  · simp [e]
  · have : a / 2 ^ i % 2 = 0 := by omega
    simp [this]
theorem btL_put (V N x n : Nat) (high : Bool) (hV : V < 2 ^ N) (hn : n ≤ 32) : btL V N ++ putL x n high n = btL (V + (if high then rv x n else x) * 2 ^ N) (N + n) := by
  apply List.ext_getElem
  · simp
  · intro t h1 h2
    have ht : t < N + n := by simpa using h2
    by_cases h : t < N
    · rw [List.getElem_append_left (by simpa using h)]
      simp only [btL, List.getElem_map, List.getElem_range]
      congr 1
      rw [show 2 ^ N = 2 ^ (N - (t + 1)) * 2 ^ (t + 1) by rw [← Nat.pow_add]; congr 1; omega, ← Nat.mul_assoc, Nat.pow_succ, Nat.mul_comm (2 ^ t) 2, ← Nat.mul_assoc, Nat.add_mul_div_right _ _ (Nat.two_pow_pos _), Nat.add_mul_mod_self_right]
    · rw [List.getElem_append_right (by simp; omega)]
      simp only [btL, putL, List.getElem_map, List.getElem_range, List.length_map, List.length_range]
      congr 1
      have e : (V + (if high then rv x n else x) * 2 ^ N) / 2 ^ t = (if high then rv x n else x) / 2 ^ (t - N) := by
        rw [show 2 ^ t = 2 ^ N * 2 ^ (t - N) by rw [← Nat.pow_add]; congr 1; omega, ← Nat.div_div_eq_div_mul, Nat.add_mul_div_right _ _ (Nat.two_pow_pos _), Nat.div_eq_of_lt hV, Nat.zero_add]
      rw [e]
      cases high with
      | false => rfl
      | true =>
        simp only [if_true]
        rw [bit_div, bit_div, rv_bit _ _ _ hn]
        simp [show t - N < n by omega]
theorem and_one (x k : Nat) (hx : x < 4294967296) : Go.bits .and .u32 ((x : Int) / 2 ^ k) 1 = ((x / 2 ^ k % 2 : Nat) : Int) := by
  have h1 : x / 2 ^ k < 2 ^ 32 := Nat.lt_of_le_of_lt (Nat.div_le_self _ _) hx
  rw [show (x : Int) / 2 ^ k = ((x / 2 ^ k : Nat) : Int) by simp, show (1 : Int) = ((1 : Nat) : Int) from rfl, and_nat32 _ 1 h1 (by decide), Nat.and_one_is_mod]

theorem refPut_bad (A : Option Addr) (len c : Nat) (x : Nat) (n : Int) (high : Bool) (w : World) (hx : x < 4294967296) (hok : okW x n = false) :
    Calls Try.prog 9 #[.slice A len c, .int .u32 x, .int .i64 n, .bool high] w fun e w' => e = .returned (.tuple #[.slice A len c, .int .i64 1]) ∧ w' = w := by
  by_cases h1 : n < 0
  · go_enter Try.func9, Try.ntmps9
    go_wp2
    go_ret2
    exact ⟨rfl, rfl⟩
  · by_cases h2 : 32 < n
    · go_enter Try.func9, Try.ntmps9
      go_wp2
      go_ret2
      exact ⟨rfl, rfl⟩
    · obtain ⟨k, rfl⟩ := Int.eq_ofNat_of_zero_le (show 0 ≤ n by omega)
      have h3 : 2 ^ k ≤ x := by
        have := of_decide_eq_false hok
        rw [Int.toNat_natCast] at this
        omega
      have h4 : (((x : Int) / 2 ^ k) != 0) = true := by
        rw [show (x : Int) / 2 ^ k = ((x / 2 ^ k : Nat) : Int) by simp]
        have h0 : 0 < x / 2 ^ k := Nat.div_pos h3 (Nat.two_pow_pos _)
        generalize x / 2 ^ k = q at h0 ⊢
        exact bne_iff_ne.2 (by omega)
      have h5 : (k : Int) ≤ 32 := by omega
      have h6 : IntKind.u64.wrap (x : Int) = x := by rw [IntKind.wrap_u64]; omega
      have h7 : IntKind.u64.wrap (k : Int) = k := by rw [IntKind.wrap_u64]; omega
      clear hok h1 h2 h3 hx
      go_enter Try.func9, Try.ntmps9
      go_wp2
      go_ret2
      exact ⟨rfl, rfl⟩

theorem refPut_calls (A : Option Addr) (c V N : Nat) (x n : Nat) (high : Bool) (w : World) (hx : x < 2 ^ n) (hn : n ≤ 32) (hV : V < 2 ^ N) (hN : N ≤ 1000000000000) (hl : (Kd.int .u8).C w A N (btL V N)) :
    Calls Try.prog 9 #[.slice A N c, .int .u32 x, .int .i64 n, .bool high] w fun e w' => ∃ v', e = .returned (.tuple #[v', .int .i64 0]) ∧ w'.ownsRow w.heap.size 5 1 v' (N + n) (nums .u8 (btL (V + (if high then rv x n else x) * 2 ^ N) (N + n))) ∧ Below w.heap.size w w' := by
  have hx32 : x < 4294967296 := Nat.lt_of_lt_of_le hx (Nat.pow_le_pow_right (n := 2) (by decide) hn)
  have h4 : (((x : Int) / 2 ^ n) != 0) = false := by
    rw [show (x : Int) / 2 ^ n = ((x / 2 ^ n : Nat) : Int) by simp, Nat.div_eq_of_lt hx]
    rfl
  have h5 : (n : Int) ≤ 32 := by omega
  have h6 : IntKind.u64.wrap (x : Int) = x := by rw [IntKind.wrap_u64]; omega
  have h7 : IntKind.u64.wrap (n : Int) = n := by rw [IntKind.wrap_u64]; omega
  have HX := Aside0.mk hl
  have HFin := Aside0.mk (btL_put V N x n high hV hn)
  have HN := Aside0.mk hN
  have HX32 := Aside0.mk hx32
  clear hl hV hx hN hx32
  rw [← HFin.out]
  go_enter Try.func9, Try.ntmps9
  go_wp2_with ((with_reducible refine gate_dst (N := 29) rfl ?_); refine print_append_row (w0 := w) w.heap.size rfl (.tmp 27) (.tmp 28) 26 5 .u8 1 rfl Try.underlying26 info_u8 (by decide) _ [] (btL V N) A _ c rfl rfl (own_lit w w.heap.size 5 .u8 [] (Nat.le_refl _) (by decide)) (reads_of_C (Kd.C_alloc HX.out _)) (below_alloc (Below.refl _ _) _) (by simp) (by have := HN.out; simp; omega) ?_; intro v1 w2 ho hb hg hk; clear hg hk; rw [List.nil_append, btL_len] at ho; obtain ⟨A1, c1, rfl⟩ := own_slice ho; have HB2 := Aside0.mk hb; have HO := Aside0.mk ho; clear hb ho)
  go_loopg [0, 10] n (fun kq v0 v10 wr => ∃ (i : Nat) (Ai : Option Addr) (ci : Nat), v0 = .slice Ai (N + i) ci ∧ v10 = .int .i64 i ∧ i ≤ n ∧ Aside0 (kq = n - i) ∧ Aside0 (wr.ownsRow w.heap.size 5 1 (.slice Ai (N + i) ci) (N + i) (nums .u8 (btL V N ++ putL x n high i))) ∧ Aside0 (Below w.heap.size w wr))
  case atStart => exact ⟨0, A1, c1, rfl, rfl, Nat.zero_le _, ⟨rfl⟩, ⟨by simpa [putL] using HO.out⟩, HB2⟩
  case round =>
    obtain ⟨i, Ai, ci, rfl, rfl, hi, HK, HOi, HBi⟩ := hrel
    by_cases hlt : i < n
    · have hlt' : (i : Int) < (n : Int) := by omega
      cases high with
      | true =>
        have hkn : n - 1 - i + i + 1 = n := by omega
        obtain ⟨k, hk⟩ : ∃ k, k = n - 1 - i := ⟨_, rfl⟩
        have hb := and_one x k HX32.out
        have hsucc := putL_succ x n true i
        rw [if_pos rfl, ← hk] at hsucc
        have hb2 : x / 2 ^ k % 2 < 2 := Nat.mod_lt _ (by decide)
        generalize x / 2 ^ k % 2 = b at *
        have hkk : (n : Int) - 1 - (i : Int) = (k : Int) := by omega
        have hw : IntKind.u64.wrap (k : Int) = k := by rw [IntKind.wrap_u64]; omega
        have hk32 : (k : Int) ≤ 32 := by omega
        have hb1 : (b : Int) < 2 := by omega
        have HSucc := Aside0.mk hsucc
        have HI := Aside0.mk (show i + 1 ≤ n by omega)
        clear hsucc hb2 hk hkn hi hlt
        go_wp2_with ((with_reducible refine gate_dst (N := 49) rfl ?_); refine print_append_num (w0 := w) w.heap.size rfl (.tmp 41) (.tmp 48) 26 5 .u8 1 rfl Try.underlying26 info_u8 (by decide) _ (btL V N ++ putL x n true i) _ rfl rfl (by rw [List.length_append, btL_len, putL_len]; exact HOi.out) HBi.out HBi.out.size (by rw [List.length_append, btL_len, putL_len]; have := HN.out; have := HI.out; omega) ?_; intro v3 w3 ho hb3 hg hk3; clear hg hk3; obtain ⟨A3, c3, rfl⟩ := own_slice ho; have HB3 := Aside0.mk hb3; have HO3 := Aside0.mk ho; clear hb3 ho)
        go_roundg (gk - 1)
        case measure => have := HK.out; have := HI.out; omega
        case rel =>
          have k3 := HO3.out
          rw [List.append_assoc] at k3
          rw [← HSucc.out, List.length_append, btL_len, putL_len] at k3
          exact ⟨i + 1, A3, c3, rfl, by go_num, HI.out, ⟨by have := HK.out; omega⟩, ⟨k3⟩, HB3⟩
      | false =>
        have hb := and_one x i HX32.out
        have hsucc := putL_succ x n false i
        rw [if_neg (by decide)] at hsucc
        have hb2 : x / 2 ^ i % 2 < 2 := Nat.mod_lt _ (by decide)
        generalize x / 2 ^ i % 2 = b at *
        have hw : IntKind.u64.wrap (i : Int) = i := by rw [IntKind.wrap_u64]; omega
        have hk32 : (i : Int) ≤ 32 := by omega
        have hb1 : (b : Int) < 2 := by omega
        have HSucc := Aside0.mk hsucc
        have HI := Aside0.mk (show i + 1 ≤ n by omega)
        clear hsucc hb2 hi hlt
        go_wp2_with ((with_reducible refine gate_dst (N := 49) rfl ?_); refine print_append_num (w0 := w) w.heap.size rfl (.tmp 41) (.tmp 48) 26 5 .u8 1 rfl Try.underlying26 info_u8 (by decide) _ (btL V N ++ putL x n false i) _ rfl rfl (by rw [List.length_append, btL_len, putL_len]; exact HOi.out) HBi.out HBi.out.size (by rw [List.length_append, btL_len, putL_len]; have := HN.out; have := HI.out; omega) ?_; intro v3 w3 ho hb3 hg hk3; clear hg hk3; obtain ⟨A3, c3, rfl⟩ := own_slice ho; have HB3 := Aside0.mk hb3; have HO3 := Aside0.mk ho; clear hb3 ho)
        go_roundg (gk - 1)
        case measure => have := HK.out; have := HI.out; omega
        case rel =>
          have k3 := HO3.out
          rw [List.append_assoc] at k3
          rw [← HSucc.out, List.length_append, btL_len, putL_len] at k3
          exact ⟨i + 1, A3, c3, rfl, by go_num, HI.out, ⟨by have := HK.out; omega⟩, ⟨k3⟩, HB3⟩
    · obtain rfl : i = n := by omega
      have hni : ¬ ((i : Int) < (i : Int)) := by omega
      clear hi hlt
      go_wp2_with fail
      go_ret2
      exact ⟨_, rfl, HOi.out, HBi.out⟩
end Go.Proofs.Ytjlophlheoikgaa.My
