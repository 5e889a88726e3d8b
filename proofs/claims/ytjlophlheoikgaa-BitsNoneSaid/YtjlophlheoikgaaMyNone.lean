/- BitsNone: nil readers and nil writers. -/
import Derived.Test.YtjlophlheoikgaaMyW6
import Derived.Test.YtjlophlheoikgaaMyArgs
namespace Go.Proofs.Ytjlophlheoikgaa.My
open Go.RowKit Go.Proofs.YtjlophlheoikgaaW.PrintWords Go.Proofs.YtjlophlheoikgaaW.PrintLast Go.Proofs.YtjlophlheoikgaaW.PrintMore

theorem is_calls (e : Option Int) (c : Int) (w : World) (h : ∀ c, e = some c → c ≠ 0) : Calls Try.prog 31 #[errV e, .int .i64 c] w fun r w' => r = .returned (.bool (numE e == c)) ∧ w = w' := by
  have HN : Aside0 (∀ w : World, Calls Try.prog 15 #[errV e] w fun r w' => r = .returned (.int .i64 (numE e)) ∧ w = w') := ⟨fun w => num_calls e w h⟩
  clear h
  generalize numE e = n at *
  generalize errV e = v at *
  go_enter Try.func31, Try.ntmps31
  go_wp2_with (go_at_call 15; refine (HN.out _).mono ?_; rintro e w' ⟨rfl, rfl⟩)
  go_ret
  exact ⟨rfl, rfl⟩
theorem rbitsn_calls (n : Int) (w : World) : Calls Try.prog 21 #[.pointer none, .int .i64 n] w fun e w' => e = .returned (.tuple #[.int .u32 0, errV (some 4)]) ∧ w = w' := by
  go_enter Try.func21, Try.ntmps21
  go_wp2
  go_ret2
  exact ⟨rfl, rfl⟩
theorem rpeekn_calls (n : Int) (w : World) : Calls Try.prog 22 #[.pointer none, .int .i64 n] w fun e w' => e = .returned (.tuple #[.int .u32 0, .int .i64 0]) ∧ w = w' := by
  go_enter Try.func22, Try.ntmps22
  go_wp2
  go_ret2
  exact ⟨rfl, rfl⟩
theorem rbytesn_calls (n : Int) (w : World) : Calls Try.prog 29 #[.pointer none, .int .i64 n] w fun e w' => e = .returned (.tuple #[.slice none 0 0, errV (some 4)]) ∧ w = w' := by
  go_enter Try.func29, Try.ntmps29
  go_wp2
  go_ret2
  exact ⟨rfl, rfl⟩
theorem ralignn_calls (w : World) : Calls Try.prog 24 #[.pointer none] w fun e w' => e = .returned (.int .i64 0) ∧ w = w' := by
  go_enter Try.func24, Try.ntmps24
  go_wp2
  go_ret
  exact ⟨rfl, rfl⟩
theorem ratn_calls (w : World) : Calls Try.prog 23 #[.pointer none] w fun e w' => e = .returned (.int .i64 0) ∧ w = w' := by
  go_enter Try.func23, Try.ntmps23
  go_wp2
  go_ret
  exact ⟨rfl, rfl⟩
theorem rleftn_calls (w : World) : Calls Try.prog 30 #[.pointer none] w fun e w' => e = .returned (.int .i64 0) ∧ w = w' := by
  go_enter Try.func30, Try.ntmps30
  go_wp2
  go_ret
  exact ⟨rfl, rfl⟩

theorem below_from {W w1 : World} {o : Obj} (h : Below (W.alloc o).heap.size (W.alloc o) w1) : Below W.heap.size W w1 :=
  below_then (below_alloc (Below.refl _ _) o) (by simp) h
theorem kept_new {W w1 : World} {o : Obj} (h : Below (W.alloc o).heap.size (W.alloc o) w1) : w1.heap[W.heap.size]? = some o := by
  rw [h.block W.heap.size (by simp)]
  exact alloc_self W o
theorem none_walk' (kd n x : Int) (A : Option Addr) (len cap : Nat) (w : World) : Calls Try.prog 6 #[.agg #[.int .i64 kd, .int .i64 n, .int .u32 x, .slice A len cap]] w fun e w' => e = .returned (.bool true) ∧ Below w.heap.size w w' := by
  have HA : Aside0 (∀ w : World, Calls Try.prog 7 #[] w fun e w' => e = .returned (.bool true) ∧ Below w.heap.size w w') := ⟨alive_calls⟩
  have HI : Aside0 (∀ w : World, Calls Try.prog 31 #[.iface 62 (.int .i64 4), .int .i64 4] w fun e w' => e = .returned (.bool true) ∧ w = w') := ⟨fun w => is_calls (some 4) 4 w (by rintro c ⟨⟩; decide)⟩
  go_enter Try.func6, Try.ntmps6
  go_wp2_with (first
    | (go_at_call 7; refine (HA.out _).mono ?_; rintro e w1 ⟨rfl, hb⟩; have hk := kept_new hb; have k0 := blk_cell hk 0; have k1 := blk_cell hk 1; have k2 := blk_cell hk 2; have k3 := blk_cell hk 3; simp only [Array.getElem?_eq_getElem, List.size_toArray, List.length_cons, List.length_nil, Nat.reduceAdd, Nat.reduceLT, List.getElem_toArray, List.getElem_cons_succ, List.getElem_cons_zero] at k0 k1 k2 k3; have HB := Aside0.mk (below_from hb); clear hb hk)
    | (go_at_call 31; refine (HI.out _).mono ?_; rintro e w' ⟨rfl, rfl⟩)
    | (go_at_call 21; refine (rbitsn_calls _ _).mono ?_; rintro e w' ⟨rfl, rfl⟩; try unfold errV)
    | (go_at_call 22; refine (rpeekn_calls _ _).mono ?_; rintro e w' ⟨rfl, rfl⟩; try unfold errV)
    | (go_at_call 29; refine (rbytesn_calls _ _).mono ?_; rintro e w' ⟨rfl, rfl⟩; try unfold errV)
    | (go_at_call 24; refine (ralignn_calls _).mono ?_; rintro e w' ⟨rfl, rfl⟩; try unfold errV)
    | (go_at_call 23; refine (ratn_calls _).mono ?_; rintro e w' ⟨rfl, rfl⟩; try unfold errV)
    | (go_at_call 30; refine (rleftn_calls _).mono ?_; rintro e w' ⟨rfl, rfl⟩; try unfold errV)
    | (go_at_call 10; refine (putn_calls _ _ _).mono ?_; rintro e w' ⟨rfl, rfl⟩; try unfold errV)
    | (go_at_call 11; refine (coden_calls _ _ _).mono ?_; rintro e w' ⟨rfl, rfl⟩; try unfold errV)
    | (go_at_call 14; refine (bytesn_calls _ _ _ _).mono ?_; rintro e w' ⟨rfl, rfl⟩; try unfold errV)
    | (go_at_call 12; refine (alignn_calls _).mono ?_; rintro e w' ⟨rfl, rfl⟩; try unfold errV)
    | (go_at_call 16; refine (lenn_calls _).mono ?_; rintro e w' ⟨rfl, rfl⟩; try unfold errV)
    | (go_at_call 18; refine (textn_calls _).mono ?_; rintro e w' ⟨rfl, rfl⟩; try unfold errV))
  go_ret
  first
    | exact ⟨rfl, HB.out⟩
    | exact ⟨rfl, below_drew HB.out⟩
theorem none_walk (kd n x : Int) (A : Option Addr) (len cap : Nat) (zs : List Int) (W : World) (_ : (Lit.int .i64 kd).wf = true) (_ : (Lit.int .i64 n).wf = true) (_ : (Lit.int .u32 x).wf = true) (_ : IsRow .u8 W A len cap zs) :
    Calls Try.prog 6 #[.agg #[.int .i64 kd, .int .i64 n, .int .u32 x, .slice A len cap]] W fun e w' => e = .returned (.bool true) ∧ Below W.heap.size W w' := none_walk' kd n x A len cap W
end Go.Proofs.Ytjlophlheoikgaa.My
