/- The walks of bits.Writer: Code, Bytes; and of a nil one. -/
import Derived.Test.YtjlophlheoikgaaMyWtext
import Derived.Test.YtjlophlheoikgaaMyRev
namespace Go.Proofs.Ytjlophlheoikgaa.My
open Go.RowKit Go.Proofs.YtjlophlheoikgaaW.PrintWords Go.Proofs.YtjlophlheoikgaaW.PrintLast Go.Proofs.YtjlophlheoikgaaW.PrintMore

theorem code_calls' (w : World) (B g : Nat) (v : Value) (V N x : Nat) (n : Int) (hB : B ≤ w.heap.size) (hw : Writ w B g v V N) (hx : x < 4294967296) (hN : N ≤ 1000000000000000) :
    Calls Try.prog 11 #[.pointer (some ⟨g, 0, none⟩), .int .u32 x, .int .i64 n] w fun e w' => e = .returned (errV (askE x n)) ∧
      ((okW x n = false ∧ w' = w) ∨ (okW x n = true ∧ ∃ v', Writ w' B g v' (V + rv x n.toNat * 2 ^ N) (N + n.toNat) ∧ Grew w w' g v v')) := by
  have u1 := Try.underlying31
  cases ho : okW x n with
  | false =>
    have e0 : askE x n = some 1 := by unfold askE; rw [ho]; rfl
    have HA : Aside0 (∀ w : World, Calls Try.prog 32 #[.pointer (some ⟨g, 0, none⟩), .int .u32 x, .int .i64 n] w fun e w' => e = .returned (errV (some 1)) ∧ w = w') := ⟨fun w => e0 ▸ asks_calls g x n w hx⟩
    rw [e0]
    clear hw e0 ho
    go_enter Try.func11, Try.ntmps11
    go_wp2_with (go_at_call 32; refine (HA.out _).mono ?_; rintro e w' ⟨rfl, rfl⟩; unfold errV)
    go_ret
    exact ⟨rfl, .inl ⟨by trivial, rfl⟩⟩
  | true =>
    have e0 : askE x n = none := by unfold askE; rw [ho]; rfl
    have HA : Aside0 (∀ w : World, Calls Try.prog 32 #[.pointer (some ⟨g, 0, none⟩), .int .u32 x, .int .i64 n] w fun e w' => e = .returned (errV none) ∧ w = w') := ⟨fun w => e0 ▸ asks_calls g x n w hx⟩
    rw [e0]
    have hk : 0 ≤ n ∧ n ≤ 32 ∧ x < 2 ^ n.toNat := of_decide_eq_true ho
    obtain ⟨k, rfl⟩ := Int.eq_ofNat_of_zero_le hk.1
    rw [Int.toNat_natCast] at *
    have hk32 : k ≤ 32 := by omega
    have HP := Aside0.mk (putw_calls w B g v V N (rv x k) k hB hw (rv_lt x k hk32) hk32 hN)
    have hr32 : ((BitVec.ofNat 32 x).reverse.toNat : Int) < 4294967296 := by have := (BitVec.ofNat 32 x).reverse.isLt; omega
    have HR := Aside0.mk (show rv x k = (BitVec.ofNat 32 x).reverse.toNat / 2 ^ (32 - k) from rfl)
    have HRV : Aside0 (∀ w : World, Calls Try.prog 34 #[.int .u32 x] w fun e w' => e = .returned (.int .u32 (BitVec.ofNat 32 x).reverse.toNat) ∧ w = w') := ⟨fun w => rev_calls x w hx⟩
    generalize (BitVec.ofNat 32 x).reverse.toNat = r at *
    have HQ : Aside0 ((r : Int) / 2 ^ (32 - k) % 4294967296 = ((rv x k : Nat) : Int)) := by
      refine ⟨?_⟩
      rw [HR.out, show (r : Int) / 2 ^ (32 - k) = ((r / 2 ^ (32 - k) : Nat) : Int) by simp]
      have : r / 2 ^ (32 - k) ≤ r := Nat.div_le_self _ _
      generalize r / 2 ^ (32 - k) = q at *
      omega
    have h32k : (32 : Int) - (k : Int) = ((32 - k : Nat) : Int) := by omega
    have hkk : (k : Int) ≤ 32 := by omega
    clear hw e0 ho hk hx
    go_enter Try.func11, Try.ntmps11
    go_wp2_with (first
      | (go_at_call 32; refine (HA.out _).mono ?_; rintro e w' ⟨rfl, rfl⟩; unfold errV)
      | (go_at_call 34; refine (HRV.out _).mono ?_; rintro e w' ⟨rfl, rfl⟩)
      | (go_at_call 33; rw [HQ.out]; refine HP.out.mono ?_; rintro e w' ⟨rfl, v', HV⟩; replace HV := Aside0.mk HV))
    go_ret
    exact ⟨rfl, .inr ⟨by trivial, v', HV.out⟩⟩

/-! ### A nil one -/
theorem putn_calls (x n : Int) (w : World) : Calls Try.prog 10 #[.pointer none, .int .u32 x, .int .i64 n] w fun e w' => e = .returned (errV (some 4)) ∧ w = w' := by
  have u1 := Try.underlying31
  have HA : Aside0 (∀ w : World, Calls Try.prog 32 #[.pointer none, .int .u32 x, .int .i64 n] w fun e w' => e = .returned (errV (some 4)) ∧ w = w') := by
    refine ⟨fun w => ?_⟩
    go_enter Try.func32, Try.ntmps32
    go_wp2
    go_ret
    exact ⟨rfl, rfl⟩
  go_enter Try.func10, Try.ntmps10
  go_wp2_with (go_at_call 32; refine (HA.out _).mono ?_; rintro e w' ⟨rfl, rfl⟩; unfold errV)
  go_ret
  exact ⟨rfl, rfl⟩
theorem coden_calls (x n : Int) (w : World) : Calls Try.prog 11 #[.pointer none, .int .u32 x, .int .i64 n] w fun e w' => e = .returned (errV (some 4)) ∧ w = w' := by
  have u1 := Try.underlying31
  have HA : Aside0 (∀ w : World, Calls Try.prog 32 #[.pointer none, .int .u32 x, .int .i64 n] w fun e w' => e = .returned (errV (some 4)) ∧ w = w') := by
    refine ⟨fun w => ?_⟩
    go_enter Try.func32, Try.ntmps32
    go_wp2
    go_ret
    exact ⟨rfl, rfl⟩
  go_enter Try.func11, Try.ntmps11
  go_wp2_with (go_at_call 32; refine (HA.out _).mono ?_; rintro e w' ⟨rfl, rfl⟩; unfold errV)
  go_ret
  exact ⟨rfl, rfl⟩
theorem alignn_calls (w : World) : Calls Try.prog 12 #[.pointer none] w fun e w' => e = .returned (.int .i64 0) ∧ w = w' := by
  go_enter Try.func12, Try.ntmps12
  go_wp2
  go_ret
  exact ⟨rfl, rfl⟩
theorem lenn_calls (w : World) : Calls Try.prog 16 #[.pointer none] w fun e w' => e = .returned (.int .i64 0) ∧ w = w' := by
  go_enter Try.func16, Try.ntmps16
  go_wp2
  go_ret
  exact ⟨rfl, rfl⟩
theorem textn_calls (w : World) : Calls Try.prog 18 #[.pointer none] w fun e w' => e = .returned (.slice none 0 0) ∧ w = w' := by
  go_enter Try.func18, Try.ntmps18
  go_wp2
  go_ret
  exact ⟨rfl, rfl⟩
theorem bytesn_calls (A : Option Addr) (n c : Nat) (w : World) : Calls Try.prog 14 #[.pointer none, .slice A n c] w fun e w' => e = .returned (errV (some 4)) ∧ w = w' := by
  go_enter Try.func14, Try.ntmps14
  go_wp2
  go_ret
  exact ⟨rfl, rfl⟩
end Go.Proofs.Ytjlophlheoikgaa.My
