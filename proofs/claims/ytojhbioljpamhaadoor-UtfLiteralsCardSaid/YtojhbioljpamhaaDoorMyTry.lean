/- The walk of guard.Try: a fault is caught. -/
import Derived.Test.YtojhbioljpamhaaDoorMyGuard
namespace Go.Proofs.YtojhbioljpamhaaDoor.My
open Go.RowKit Go.Proofs.YtojhbioljpamhaaDoorW.PrintWords Go.Proofs.YtojhbioljpamhaaDoorW.PrintLast Go.Proofs.YtojhbioljpamhaaDoorW.PrintMore

theorem catch_flt (b : Nat) (x : Value) (g : Nat) (older : List PanicEntry) (w : World) (hc : w.cell? ⟨b, 0, none⟩ = some x) (hz : w.frozen? ⟨b, 0, none⟩ = false) :
    CallsD Tryd.prog 34 #[.pointer (some ⟨b, 0, none⟩)] (.panicking ({ v := fltV g, recovered := false } :: older)) w fun e u' w' =>
      e = .returned (.tuple #[]) ∧ u' = .panicking ({ v := fltV g, recovered := true } :: older) ∧ w' = w.setCell ⟨b, 0, none⟩ (fltV g) := by
  have hta : ∀ (v : Value) (W : World), (Instr.typeAssert (.iface 64 v) 20 64 true).run Tryd.prog W = .ok (.tuple #[v, .bool true]) W := fun _ _ => rfl
  unfold fltV
  refine callsD_of_wpS Tryd.func34 rfl fun c₀ cs hu => ?_
  apply wpS_seq
  apply wpS_region
  simp [wpOpsS, go_sem, recoverD, hu, Tryd.ntmps34, Exit.thenS]
  rw [show ∀ (p v : Value), #[p] ++ (Array.replicate 11 undef).setIfInBounds 3 v = #[p, undef, undef, undef, v, undef, undef, undef, undef, undef, undef, undef] from fun _ _ => rfl]
  refine wpS_of_wp ?_
  clear hu
  go_wp2
  simp [bodyPostS, results, Tryd.results34]
theorem catch_idle (b : Nat) (w : World) :
    CallsD Tryd.prog 34 #[.pointer (some ⟨b, 0, none⟩)] .returning w fun e u' w' => e = .returned (.tuple #[]) ∧ u' = .returning ∧ w' = w := by
  refine callsD_of_wpS Tryd.func34 rfl fun c₀ cs hu => ?_
  apply wpS_seq
  apply wpS_region
  simp [wpOpsS, go_sem, recoverD, hu, Tryd.ntmps34, Exit.thenS]
  rw [show ∀ (p v : Value), #[p] ++ (Array.replicate 11 undef).setIfInBounds 3 v = #[p, undef, undef, undef, v, undef, undef, undef, undef, undef, undef, undef] from fun _ _ => rfl]
  refine wpS_of_wp ?_
  have HU := Aside0.mk hu
  clear hu
  go_wp2
  have hu := HU.out
  cases c₀
  simp_all [bodyPostS, results, Tryd.results34]
/-- What isn't a fault goes on: it is panicked with anew. -/
theorem catch_int (b : Nat) (n : Int) (older : List PanicEntry) (w : World) :
    CallsD Tryd.prog 34 #[.pointer (some ⟨b, 0, none⟩)] (.panicking ({ v := .iface 3 (.int .i64 n), recovered := false } :: older)) w fun e u' w' =>
      e = .panicked [{ v := .iface 3 (.int .i64 n), recovered := false }] ∧ u' = .panicking ({ v := .iface 3 (.int .i64 n), recovered := true } :: older) ∧ w' = w := by
  have hta : ∀ (v : Value) (W : World), (Instr.typeAssert (.iface 3 v) 20 64 true).run Tryd.prog W = .ok (.tuple #[.pointer none, .bool false]) W := fun _ _ => rfl
  refine callsD_of_wpS Tryd.func34 rfl fun c₀ cs hu => ?_
  apply wpS_seq
  apply wpS_region
  simp [wpOpsS, go_sem, recoverD, hu, Tryd.ntmps34, Exit.thenS]
  rw [show ∀ (p v : Value), #[p] ++ (Array.replicate 11 undef).setIfInBounds 3 v = #[p, undef, undef, undef, v, undef, undef, undef, undef, undef, undef, undef] from fun _ _ => rfl]
  refine wpS_of_wp ?_
  clear hu
  go_wp2
  simp [bodyPostS]
/-- What a function does that is handed to Try: it ends, or it throws a fault; the variable that Try has made stays as it is. -/
def Ends (k : Nat) (D : World → Prop) (T : Nat → World → Prop) (e : Ending) (w : World) : Prop :=
  w.heap[k]? = some (.cells #[.nilIface] 26 (0, 0)) ∧ ((∃ v, e = .returned v ∧ D w) ∨ (∃ g, e = .panicked [{ v := fltV g, recovered := false }] ∧ T g w))
/-- What Try answers then. -/
def Tried (k : Nat) (D : World → Prop) (T : Nat → World → Prop) (e : Ending) (w : World) : Prop :=
  (e = .returned .nilIface ∧ ∃ w1, D w1 ∧ w = w1.setCell ⟨k, 0, none⟩ .nilIface) ∨ (∃ g, e = .returned (fltV g) ∧ ∃ w1, T g w1 ∧ w = w1.setCell ⟨k, 0, none⟩ (fltV g))
theorem try_fun (F : FuncId) (cap : Array Value) (w : World) (D : World → Prop) (T : Nat → World → Prop)
    (hcf : ∀ W : World, (callFunc F cap).run Tryd.prog W = .ok (.enter F cap) W)
    (hR : Calls Tryd.prog F cap (w.alloc (.cells #[.nilIface] 26)) (Ends w.heap.size D T)) :
    Calls Tryd.prog 22 #[.func (.func F) #[] cap] w (Tried w.heap.size D T) := by
  have hmf : ∀ (fn : Fn) (first cap : Array Value) (w : World), (Instr.makeFunc fn first cap).run Tryd.prog w = .ok (.func fn first cap) w := fun _ _ _ _ => rfl
  have hnf : ∀ (fn : Fn) (first cap : Array Value) (W : World), (Go.binOp .eql 1 (Value.func fn first cap) Value.nilFunc).run Tryd.prog W = .ok (.bool false) W := fun _ _ _ _ => rfl
  have HR := Aside0.mk hR
  clear hR
  go_enter_defers Tryd.func22, Tryd.ntmps22
  go_wp2_with fail
  refine HR.out.mono ?_
  rintro e w1 ⟨hb, ⟨v, rfl, hD⟩ | ⟨g, rfl, hT⟩⟩
  · have hc : w1.cell? ⟨w.heap.size, 0, none⟩ = some .nilIface := by rw [blk_cell hb]; rfl
    have hz : w1.frozen? ⟨w.heap.size, 0, none⟩ = false := blk_frozen hb 0
    have HD := Aside0.mk hD
    have HB := Aside0.mk hb
    clear hD hb
    go_wp2
    refine leaves_cons (f := 34) (args := #[.pointer (some ⟨w.heap.size, 0, none⟩)]) (by simp) (by simp [go_sem]) ?_
    refine (catch_idle w.heap.size _).mono ?_
    rintro e u' w'' ⟨rfl, rfl, rfl⟩
    have hb' := blk_set HB.out 0 .nilIface
    simp [Leaves, settle, results, Tryd.results22, go_sem, hc]
    exact .inl ⟨rfl, w1, HD.out, rfl⟩
  · have hc : w1.cell? ⟨w.heap.size, 0, none⟩ = some .nilIface := by rw [blk_cell hb]; rfl
    have hz : w1.frozen? ⟨w.heap.size, 0, none⟩ = false := blk_frozen hb 0
    have HT := Aside0.mk hT
    have HB := Aside0.mk hb
    clear hT hb
    go_wp2
    refine leaves_cons (f := 34) (args := #[.pointer (some ⟨w.heap.size, 0, none⟩)]) (by simp) (by simp [go_sem]) ?_
    refine (catch_flt w.heap.size .nilIface g [] _ hc hz).mono ?_
    rintro e u' w'' ⟨rfl, rfl, rfl⟩
    simp [Leaves, settle, results, Tryd.results22, go_sem, hc]
    exact .inr ⟨g, rfl, w1, HT.out, rfl⟩
end Go.Proofs.YtojhbioljpamhaaDoor.My
