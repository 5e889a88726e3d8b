/- The document's Of of layer 6, as a number: plain. -/
import Derived.Test.YtjlophlheoikgaaMyRef6
namespace Go.Proofs.Ytjlophlheoikgaa.My
open Go.RowKit Go.Proofs.YtjlophlheoikgaaW.PrintWords Go.Proofs.YtjlophlheoikgaaW.PrintLast Go.Proofs.YtjlophlheoikgaaW.PrintMore Go.Proofs.Ytjlophlheoikgaa.POf

theorem btL_succ (V m : Nat) : btL V (m + 1) = btL V m ++ [((V / 2 ^ m % 2 : Nat) : Int)] := by simp [btL, List.range_succ]
theorem bit_of (y t : Nat) (hy : y < 256) (ht : t < 8) : Go.bits .and .u8 (shr .u8 (y : Int) (IntKind.u64.wrap (t : Int))) 1 = ((y / 2 ^ t % 2 : Nat) : Int) := by
  have : ∀ y : Fin 256, ∀ t : Fin 8, Go.bits .and .u8 (shr .u8 (y.val : Int) (IntKind.u64.wrap (t.val : Int))) 1 = ((y.val / 2 ^ t.val % 2 : Nat) : Int) := by decide +kernel
  exact this ⟨y, hy⟩ ⟨t, ht⟩
theorem byte_bit (V i t : Nat) (ht : t < 8) : V / 2 ^ (8 * i) % 256 / 2 ^ t % 2 = V / 2 ^ (8 * i + t) % 2 := by
  rw [show (256 : Nat) = 2 ^ t * 2 ^ (8 - t) by rw [← Nat.pow_add, show t + (8 - t) = 8 by omega], Nat.mod_mul_right_div_self, Nat.div_div_eq_div_mul, ← Nat.pow_add]
  exact Nat.mod_mod_of_dvd _ ⟨2 ^ (7 - t), by rw [Nat.mul_comm, ← Nat.pow_succ]; congr 1; omega⟩
theorem of_bit (V n i t k : Nat) (hi : i < n) (ht : t < 8) (hn : n ≤ 1000000000000) : crossdockref06_Of.l1 (k + 1) (leB V n) (btL V (8 * i + t)) (i : Int) (t : Int) = crossdockref06_Of.l1 k (leB V n) (btL V (8 * i + (t + 1))) (i : Int) ((t + 1 : Nat) : Int) := by
  have c1 : (t : Int) < 8 := by omega
  have c2 : (0 : Int) ≤ (i : Int) := Int.natCast_nonneg _
  have c3 : (i : Int) < (n : Int) := by omega
  have c4 : (0 : Int) ≤ IntKind.u64.wrap (t : Int) := by rw [IntKind.wrap_u64]; omega
  have c5 : 8 * i + t < 140737488355328 := by omega
  have hy : V / 2 ^ (8 * i) % 256 < 256 := Nat.mod_lt _ (by decide)
  rw [crossdockref06_Of.l1, if_pos c1, if_pos c2, leB_len, if_pos c3, if_pos c4, btL_len, if_pos c5, leB_rd _ _ _ hi, bit_of _ _ hy ht, byte_bit _ _ _ ht, ← btL_succ, next1 t (by omega)]
  rfl
theorem of_in (V n i k : Nat) (hi : i < n) (x3 : List Int) : crossdockref06_Of.l0 (k + 1) (leB V n) x3 (i : Int) = crossdockref06_Of.l1 k (leB V n) x3 (i : Int) ((0 : Nat) : Int) := by
  have c1 : (i : Int) < (n : Int) := by omega
  rw [crossdockref06_Of.l0, leB_len, if_pos c1]
  rfl
theorem of_next (V n i k : Nat) (hi : i ≤ 1000000000000) (x3 : List Int) : crossdockref06_Of.l1 (k + 1) (leB V n) x3 (i : Int) ((8 : Nat) : Int) = crossdockref06_Of.l0 k (leB V n) x3 ((i + 1 : Nat) : Int) := by
  rw [crossdockref06_Of.l1, if_neg (by decide), next1 i (by omega)]
theorem of_round (V n i k : Nat) (hi : i < n) (hn : n ≤ 1000000000000) : crossdockref06_Of.l0 (k + 10) (leB V n) (btL V (8 * i)) (i : Int) = crossdockref06_Of.l0 k (leB V n) (btL V (8 * (i + 1))) ((i + 1 : Nat) : Int) := by
  rw [of_in V n i (k + 9) hi]
  exact (of_bit V n i 0 (k + 8) hi (by decide) hn).trans ((of_bit V n i 1 (k + 7) hi (by decide) hn).trans ((of_bit V n i 2 (k + 6) hi (by decide) hn).trans ((of_bit V n i 3 (k + 5) hi (by decide) hn).trans ((of_bit V n i 4 (k + 4) hi (by decide) hn).trans
    ((of_bit V n i 5 (k + 3) hi (by decide) hn).trans ((of_bit V n i 6 (k + 2) hi (by decide) hn).trans ((of_bit V n i 7 (k + 1) hi (by decide) hn).trans (of_next V n i k (by omega) _))))))))
theorem of_l0 (V n : Nat) (hn : n ≤ 1000000000000) : ∀ d i, n = i + d → crossdockref06_Of.l0 (10 * d + 1) (leB V n) (btL V (8 * i)) (i : Int) = some (btL V (8 * n)) := by
  intro d
  induction d with
  | zero =>
    intro i e
    obtain rfl : n = i := by omega
    rw [Nat.mul_zero, Nat.zero_add, crossdockref06_Of.l0, leB_len, if_neg (Int.lt_irrefl _)]
  | succ d ih =>
    intro i e
    rw [show 10 * (d + 1) + 1 = 10 * d + 1 + 10 by omega, of_round V n i _ (by omega) hn]
    exact ih (i + 1) (by omega)
theorem of_f (V n : Nat) (hn : n ≤ 1000000000000) : crossdockref06_Of.f (10 * n + 1) (leB V n) = some (btL V (8 * n)) := of_l0 V n hn n 0 (by omega)
end Go.Proofs.Ytjlophlheoikgaa.My
