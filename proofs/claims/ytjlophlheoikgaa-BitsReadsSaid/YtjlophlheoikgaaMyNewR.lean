/- The walk of bits.NewReader, and of bits.Reader.Bytes. -/
import Derived.Test.YtjlophlheoikgaaMyReader
namespace Go.Proofs.Ytjlophlheoikgaa.My
open Go.RowKit Go.Proofs.YtjlophlheoikgaaW.PrintWords Go.Proofs.YtjlophlheoikgaaW.PrintLast Go.Proofs.YtjlophlheoikgaaW.PrintMore

theorem newReader_calls (A : Option Addr) (n c V : Nat) (w : World) (hx : (Kd.int .u8).C w A n (leB V n)) (hV : V < 2 ^ (8 * n)) (hn : n ≤ 100000000000000) (hcap : A = none → n = 0 ∧ c = 0) :
    Calls Try.prog 20 #[.slice A n c] w fun e w' => ∃ g v, e = .returned (.pointer (some ⟨g, 0, none⟩)) ∧ Rdr w' w.heap.size g v V n 0 ∧ Below w.heap.size w w' := by
  have HC := Aside0.mk (clone_calls A n c (leB V n) w hx (by omega) (leB_len _ _) hcap)
  have HV := Aside0.mk hV
  clear hx hV hcap
  go_enter Try.func20, Try.ntmps20
  go_wp2_with (go_at_call 35; refine HC.out.mono ?_; rintro e w1 ⟨v1, rfl, HO, HB⟩; rw [leB_len] at HO; obtain ⟨A1, c1, rfl⟩ := own_slice HO; replace HO := Aside0.mk HO; replace HB := Aside0.mk HB)
  go_ret
  exact ⟨w1.heap.size, _, rfl, ⟨alloc_self _ _, HO.out.alloc _, HV.out, Nat.zero_le _, HB.out.size⟩, below_alloc HB.out _⟩
end Go.Proofs.Ytjlophlheoikgaa.My
