/- The walks of guard: faults that are thrown, and caught. -/
import Derived.Test.YtojhbioljpamhaaDoorMyBase
import Derived.Defers
import Derived.Recover
namespace Go.Proofs.YtojhbioljpamhaaDoor.My
open Go.RowKit Go.Proofs.YtojhbioljpamhaaDoorW.PrintWords Go.Proofs.YtojhbioljpamhaaDoorW.PrintLast Go.Proofs.YtojhbioljpamhaaDoorW.PrintMore

/-- A fault as an error; what lies behind it. -/
abbrev fltV (g : Nat) : Value := .iface 64 (.pointer (some ⟨g, 0, none⟩))
structure Flt (w : World) (g : Nat) (c : Int) (s : ByteArray) : Prop where mk :: (out : w.heap[g]? = some (.cells #[.int .i64 c, .string s] 69 (0, 0)))
theorem Flt.below {w w1 : World} {g : Nat} {c : Int} {s : ByteArray} (h : Flt w g c s) (hb : Below w.heap.size w w1) : Flt w1 g c s := ⟨(hb.block g (blk_lt h.out)).trans h.out⟩
theorem Flt.drewN {w : World} {g : Nat} {c : Int} {s : ByteArray} (h : Flt w g c s) (n : Nat) : Flt (w.drewN n) g c s := ⟨h.out⟩
theorem Flt.grown {w w1 : World} {g : Nat} {c : Int} {s : ByteArray} {row : Option Nat} (h : Flt w g c s) (hg : w.grownBy w1 row) (hne : some g ≠ row) : Flt w1 g c s := ⟨blk_grown h.out hg hne⟩

theorem post_panic {P : Program} {fn : Func} {R : Ending → World → Prop} {chain : List PanicEntry} {a : Act} {w : World} (hd : a.defers = []) (h : R (.panicked chain) w) : bodyPost P fn R (.panic chain) a w := ⟨hd, h⟩
theorem throw_calls (c : Int) (s : ByteArray) (w : World) :
    Calls Tryd.prog 38 #[.int .i64 c, .string s] w fun e w' => e = .panicked [{ v := fltV w.heap.size, recovered := false }] ∧ w' = w.alloc (.cells #[.int .i64 c, .string s] 69) := by
  go_enter Tryd.func38, Tryd.ntmps38
  go_wp2
  exact post_panic rfl ⟨rfl, rfl⟩
theorem must_yes (c : Int) (s : ByteArray) (w : World) :
    Calls Tryd.prog 35 #[.bool true, .int .i64 c, .string s] w fun e w' => e = .returned (.tuple #[]) ∧ w = w' := by
  go_enter Tryd.func35, Tryd.ntmps35
  go_wp2
  go_end0
  exact ⟨rfl, rfl⟩
theorem must_no (c : Int) (s : ByteArray) (w : World) :
    Calls Tryd.prog 35 #[.bool false, .int .i64 c, .string s] w fun e w' => e = .panicked [{ v := fltV w.heap.size, recovered := false }] ∧ w' = w.alloc (.cells #[.int .i64 c, .string s] 69) := by
  go_enter Tryd.func35, Tryd.ntmps35
  go_wp2_with (go_at_call 38; refine (throw_calls c s w).mono ?_; rintro e w' ⟨rfl, rfl⟩)
  exact post_panic rfl ⟨rfl, rfl⟩

/-- A nil fault as an error; an error of a number. -/
abbrev fltN : Value := .iface 64 (.pointer none)
abbrev numV (c : Int) : Value := .iface 32 (.int .i64 c)
theorem code_nil (w : World) : Calls Tryd.prog 24 #[.nilIface] w fun e w' => e = .returned (.int .i64 0) ∧ w = w' := by
  go_enter Tryd.func24, Tryd.ntmps24
  go_wp2
  go_ret
  exact ⟨rfl, rfl⟩
theorem code_flt (g : Nat) (c : Int) (s : ByteArray) (w : World) (h : Flt w g c s) : Calls Tryd.prog 24 #[fltV g] w fun e w' => e = .returned (.int .i64 c) ∧ w = w' := by
  have c0 : w.cell? ⟨g, 0, none⟩ = some (.int .i64 c) := by rw [blk_cell h.out]; rfl
  have hta : ∀ (v : Value) (W : World), (Instr.typeAssert (.iface 64 v) 26 64 true).run Tryd.prog W = .ok (.tuple #[v, .bool true]) W := fun _ _ => rfl
  clear h
  show Calls Tryd.prog 24 #[.iface 64 (.pointer (some ⟨g, 0, none⟩))] w _
  go_enter Tryd.func24, Tryd.ntmps24
  go_wp2
  go_ret
  exact ⟨rfl, rfl⟩
theorem code_err (c : Int) (w : World) : Calls Tryd.prog 24 #[numV c] w fun e w' => e = .returned (.int .i64 c) ∧ w = w' := by
  have htb : ∀ (v : Value) (W : World), (Instr.typeAssert (.iface 32 v) 26 64 true).run Tryd.prog W = .ok (.tuple #[.pointer none, .bool false]) W := fun _ _ => rfl
  have htc : ∀ (v : Value) (W : World), (Instr.typeAssert (.iface 32 v) 26 32 true).run Tryd.prog W = .ok (.tuple #[v, .bool true]) W := fun _ _ => rfl
  show Calls Tryd.prog 24 #[.iface 32 (.int .i64 c)] w _
  go_enter Tryd.func24, Tryd.ntmps24
  go_wp2
  go_ret
  exact ⟨rfl, rfl⟩
theorem code_fltN (w : World) : Calls Tryd.prog 24 #[fltN] w fun e w' => e = .returned (.int .i64 11) ∧ w = w' := by
  have hta : ∀ (v : Value) (W : World), (Instr.typeAssert (.iface 64 v) 26 64 true).run Tryd.prog W = .ok (.tuple #[v, .bool true]) W := fun _ _ => rfl
  have htd : ∀ (v : Value) (W : World), (Instr.typeAssert (.iface 64 v) 26 32 true).run Tryd.prog W = .ok (.tuple #[.int .i64 0, .bool false]) W := fun _ _ => rfl
  show Calls Tryd.prog 24 #[.iface 64 (.pointer none)] w _
  go_enter Tryd.func24, Tryd.ntmps24
  go_wp2
  go_ret
  exact ⟨rfl, rfl⟩
end Go.Proofs.YtojhbioljpamhaaDoor.My
