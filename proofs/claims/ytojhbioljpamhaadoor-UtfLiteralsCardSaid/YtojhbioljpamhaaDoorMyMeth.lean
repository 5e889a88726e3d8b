/- guard.Try and guard.In of a method that is bound. -/
import Derived.Test.YtojhbioljpamhaaDoorMyTry
namespace Go.Proofs.YtojhbioljpamhaaDoor.My
open Go.RowKit Go.Proofs.YtojhbioljpamhaaDoorW.PrintWords Go.Proofs.YtojhbioljpamhaaDoorW.PrintLast Go.Proofs.YtojhbioljpamhaaDoorW.PrintMore

theorem try_meth (F : FuncId) (cap : Array Value) (w : World) (D : World → Prop) (T : Nat → World → Prop)
    (hcf : ∀ W : World, (callFunc F cap).run Tryd.prog W = .ok (.enter F cap) W)
    (hR : Calls Tryd.prog F cap (w.alloc (.cells #[.nilIface] 26)) (Ends w.heap.size D T)) :
    Calls Tryd.prog 22 #[.func (.func F) cap #[]] w (Tried w.heap.size D T) := by
  have hmf : ∀ (fn : Fn) (first cap : Array Value) (w : World), (Instr.makeFunc fn first cap).run Tryd.prog w = .ok (.func fn first cap) w := fun _ _ _ _ => rfl
  have hnf : ∀ (fn : Fn) (first cap : Array Value) (W : World), (Go.binOp .eql 1 (Value.func fn first cap) Value.nilFunc).run Tryd.prog W = .ok (.bool false) W := fun _ _ _ _ => rfl
  have HR := Aside0.mk hR
  clear hR
  go_enter_defers Tryd.func22, Tryd.ntmps22
  go_wp2_with fail
  refine HR.out.mono ?_
  rintro e w1 ⟨hb, ⟨v, rfl, hD⟩ | ⟨g, rfl, hT⟩⟩
  · have hc : w1.cell? ⟨w.heap.size, 0, none⟩ = some .nilIface := by rw [blk_cell hb]; rfl
    have hz : w1.frozen? ⟨w.heap.size, 0, none⟩ = false := blk_frozen hb 0
    have HD := Aside0.mk hD
    have HB := Aside0.mk hb
    clear hD hb
    go_wp2
    refine leaves_cons (f := 34) (args := #[.pointer (some ⟨w.heap.size, 0, none⟩)]) (by simp) (by simp [go_sem]) ?_
    refine (catch_idle w.heap.size _).mono ?_
    rintro e u' w'' ⟨rfl, rfl, rfl⟩
    have hb' := blk_set HB.out 0 .nilIface
    simp [Leaves, settle, results, Tryd.results22, go_sem, hc]
    exact .inl ⟨rfl, w1, HD.out, rfl⟩
  · have hc : w1.cell? ⟨w.heap.size, 0, none⟩ = some .nilIface := by rw [blk_cell hb]; rfl
    have hz : w1.frozen? ⟨w.heap.size, 0, none⟩ = false := blk_frozen hb 0
    have HT := Aside0.mk hT
    have HB := Aside0.mk hb
    clear hT hb
    go_wp2
    refine leaves_cons (f := 34) (args := #[.pointer (some ⟨w.heap.size, 0, none⟩)]) (by simp) (by simp [go_sem]) ?_
    refine (catch_flt w.heap.size .nilIface g [] _ hc hz).mono ?_
    rintro e u' w'' ⟨rfl, rfl, rfl⟩
    simp [Leaves, settle, results, Tryd.results22, go_sem, hc]
    exact .inr ⟨g, rfl, w1, HT.out, rfl⟩
end Go.Proofs.YtojhbioljpamhaaDoor.My
