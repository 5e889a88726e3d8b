/- The walk of bits.Reverse32. -/
import Derived.Test.YtjlophlheoikgaaMyBase
import Derived.Test.YtjlophlheoikgaaMyRevP
namespace Go.Proofs.Ytjlophlheoikgaa.My
open Go.RowKit Go.Proofs.YtjlophlheoikgaaW.PrintWords Go.Proofs.YtjlophlheoikgaaW.PrintLast Go.Proofs.YtjlophlheoikgaaW.PrintMore

theorem revb_calls (x : Int) (w : World) : Calls Try.prog 39 #[.int .u32 x] w fun e w' => e = .returned (.int .u32 (half (sw 16711935 256 x))) ∧ w = w' := by
  go_enter Try.func39, Try.ntmps39
  go_wp2
  go_ret
  exact ⟨rfl, rfl⟩
theorem rev_calls (x : Nat) (w : World) (hx : x < 4294967296) : Calls Try.prog 34 #[.int .u32 x] w fun e w' => e = .returned (.int .u32 (BitVec.ofNat 32 x).reverse.toNat) ∧ w = w' := by
  have HE : Aside0 (half (sw 16711935 256 (sw 252645135 16 (sw 858993459 4 (sw 1431655765 2 x)))) = ((BitVec.ofNat 32 x).reverse.toNat : Int)) := by
    refine ⟨?_⟩
    have e0 : x = (BitVec.ofNat 32 x).toNat := by rw [BitVec.toNat_ofNat]; omega
    rw [← rev_all, ← half_eq, ← sw_eq _ 8 _ (by decide) 256 rfl, ← sw_eq _ 4 _ (by decide) 16 rfl, ← sw_eq _ 2 _ (by decide) 4 rfl, ← sw_eq _ 1 _ (by decide) 2 rfl, ← e0]
    rfl
  rw [← HE.out]
  clear HE hx
  go_enter Try.func34, Try.ntmps34
  go_wp2_with (go_at_call 39; refine (revb_calls _ _).mono ?_; rintro e w' ⟨rfl, rfl⟩)
  go_ret
  exact ⟨rfl, rfl⟩
end Go.Proofs.Ytjlophlheoikgaa.My
