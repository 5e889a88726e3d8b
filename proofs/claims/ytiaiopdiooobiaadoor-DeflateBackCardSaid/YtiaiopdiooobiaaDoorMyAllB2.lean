/- MyGuard, MyTry, MyIn, MyThrows, MyPackW, MyWbytes, MyPacker, MyStoreW, MyCut, MyFinder, MyFind, MyTokW, MyFixedW, MyUntQ, MyAlive9, MyStoP, MyInflL, MyPeek, MyReader, MyNewR, MyRbytes, MyDocC, MyDocD, MyShort, MyNum, MyTakeW, MyMac, MyInf1, MyInf2: laid into one text by merge.py. -/
import Derived.Test.YtiaiopdiooobiaaDoorMyAllB1
import Derived.Defers
import Derived.Recover
import Derived.Test.YtiaiopdiooobiaaDoorMyShelf
import Derived.OwnWalk
import Derived.StillTailTactics
import Derived.Lib.Walk
import Derived.RegionTactic
import Derived.Deep.RegionLaw
import Derived.Lib.SlBytesConst
import Derived.Test.YtiaiopdiooobiaaDoorMyDocs
import Derived.Lib.RabinKarpLaws

/- The walks of guard: faults that are thrown, and caught. -/
namespace Go.Proofs.YtiaiopdiooobiaaDoor.My
open Go.RowKit Go.Proofs.YtiaiopdiooobiaaDoorW.PrintWords Go.Proofs.YtiaiopdiooobiaaDoorW.PrintLast Go.Proofs.YtiaiopdiooobiaaDoorW.PrintMore
set_option maxRecDepth 100000

/-- A fault as an error; what lies behind it. -/
abbrev fltV (g : Nat) : Value := .iface 60 (.pointer (some ⟨g, 0, none⟩))
structure Flt (w : World) (g : Nat) (c : Int) (s : ByteArray) : Prop where mk :: (out : w.heap[g]? = some (.cells #[.int .i64 c, .string s] 70 (0, 0)))
theorem Flt.below {w w1 : World} {g : Nat} {c : Int} {s : ByteArray} (h : Flt w g c s) (hb : Below w.heap.size w w1) : Flt w1 g c s := ⟨(hb.block g (blk_lt h.out)).trans h.out⟩
theorem Flt.drewN {w : World} {g : Nat} {c : Int} {s : ByteArray} (h : Flt w g c s) (n : Nat) : Flt (w.drewN n) g c s := ⟨h.out⟩
theorem Flt.grown {w w1 : World} {g : Nat} {c : Int} {s : ByteArray} {row : Option Nat} (h : Flt w g c s) (hg : w.grownBy w1 row) (hne : some g ≠ row) : Flt w1 g c s := ⟨blk_grown h.out hg hne⟩

theorem post_panic {P : Program} {fn : Func} {R : Ending → World → Prop} {chain : List PanicEntry} {a : Act} {w : World} (hd : a.defers = []) (h : R (.panicked chain) w) : bodyPost P fn R (.panic chain) a w := ⟨hd, h⟩
theorem throw_calls (c : Int) (s : ByteArray) (w : World) :
    Calls Tryd.prog 55 #[.int .i64 c, .string s] w fun e w' => e = .panicked [{ v := fltV w.heap.size, recovered := false }] ∧ w' = w.alloc (.cells #[.int .i64 c, .string s] 70) := by
  go_enter Tryd.func55, Tryd.ntmps55
  go_wp2
  exact post_panic rfl ⟨rfl, rfl⟩
/-- A nil fault as an error; an error of a number. -/
abbrev fltN : Value := .iface 60 (.pointer none)
abbrev numV (c : Int) : Value := .iface 42 (.int .i64 c)
theorem code_nil (w : World) : Calls Tryd.prog 17 #[.nilIface] w fun e w' => e = .returned (.int .i64 0) ∧ w = w' := by
  go_enter Tryd.func17, Tryd.ntmps17
  go_wp2
  go_ret
  exact ⟨rfl, rfl⟩
theorem code_flt (g : Nat) (c : Int) (s : ByteArray) (w : World) (h : Flt w g c s) : Calls Tryd.prog 17 #[fltV g] w fun e w' => e = .returned (.int .i64 c) ∧ w = w' := by
  have c0 : w.cell? ⟨g, 0, none⟩ = some (.int .i64 c) := by rw [blk_cell h.out]; rfl
  have hta : ∀ (v : Value) (W : World), (Instr.typeAssert (.iface 60 v) 26 60 true).run Tryd.prog W = .ok (.tuple #[v, .bool true]) W := fun _ _ => rfl
  clear h
  show Calls Tryd.prog 17 #[.iface 60 (.pointer (some ⟨g, 0, none⟩))] w _
  go_enter Tryd.func17, Tryd.ntmps17
  go_wp2
  go_ret
  exact ⟨rfl, rfl⟩
theorem code_err (c : Int) (w : World) : Calls Tryd.prog 17 #[numV c] w fun e w' => e = .returned (.int .i64 c) ∧ w = w' := by
  have htb : ∀ (v : Value) (W : World), (Instr.typeAssert (.iface 42 v) 26 60 true).run Tryd.prog W = .ok (.tuple #[.pointer none, .bool false]) W := fun _ _ => rfl
  have htc : ∀ (v : Value) (W : World), (Instr.typeAssert (.iface 42 v) 26 42 true).run Tryd.prog W = .ok (.tuple #[v, .bool true]) W := fun _ _ => rfl
  show Calls Tryd.prog 17 #[.iface 42 (.int .i64 c)] w _
  go_enter Tryd.func17, Tryd.ntmps17
  go_wp2
  go_ret
  exact ⟨rfl, rfl⟩
theorem code_fltN (w : World) : Calls Tryd.prog 17 #[fltN] w fun e w' => e = .returned (.int .i64 11) ∧ w = w' := by
  have hta : ∀ (v : Value) (W : World), (Instr.typeAssert (.iface 60 v) 26 60 true).run Tryd.prog W = .ok (.tuple #[v, .bool true]) W := fun _ _ => rfl
  have htd : ∀ (v : Value) (W : World), (Instr.typeAssert (.iface 60 v) 26 42 true).run Tryd.prog W = .ok (.tuple #[.int .i64 0, .bool false]) W := fun _ _ => rfl
  show Calls Tryd.prog 17 #[.iface 60 (.pointer none)] w _
  go_enter Tryd.func17, Tryd.ntmps17
  go_wp2
  go_ret
  exact ⟨rfl, rfl⟩
theorem where_nil (w : World) : Calls Tryd.prog 58 #[.nilIface] w fun e w' => e = .returned (.string ⟨#[]⟩) ∧ w = w' := by
  have htn : ∀ (W : World), (Instr.typeAssert .nilIface 26 60 true).run Tryd.prog W = .ok (.tuple #[.pointer none, .bool false]) W := fun _ => rfl
  show Calls Tryd.prog 58 #[.nilIface] w _
  go_enter Tryd.func58, Tryd.ntmps58
  go_wp2
  go_ret
  exact ⟨rfl, rfl⟩
theorem where_err (c : Int) (w : World) : Calls Tryd.prog 58 #[numV c] w fun e w' => e = .returned (.string ⟨#[]⟩) ∧ w = w' := by
  have htb : ∀ (v : Value) (W : World), (Instr.typeAssert (.iface 42 v) 26 60 true).run Tryd.prog W = .ok (.tuple #[.pointer none, .bool false]) W := fun _ _ => rfl
  have htc : ∀ (v : Value) (W : World), (Instr.typeAssert (.iface 42 v) 26 42 true).run Tryd.prog W = .ok (.tuple #[v, .bool true]) W := fun _ _ => rfl
  show Calls Tryd.prog 58 #[.iface 42 (.int .i64 c)] w _
  go_enter Tryd.func58, Tryd.ntmps58
  go_wp2
  go_ret
  exact ⟨rfl, rfl⟩
theorem where_fltN (w : World) : Calls Tryd.prog 58 #[fltN] w fun e w' => e = .returned (.string ⟨#[]⟩) ∧ w = w' := by
  have hta : ∀ (v : Value) (W : World), (Instr.typeAssert (.iface 60 v) 26 60 true).run Tryd.prog W = .ok (.tuple #[v, .bool true]) W := fun _ _ => rfl
  show Calls Tryd.prog 58 #[.iface 60 (.pointer none)] w _
  go_enter Tryd.func58, Tryd.ntmps58
  go_wp2
  go_ret
  exact ⟨rfl, rfl⟩
theorem where_flt (g : Nat) (c : Int) (s : ByteArray) (w : World) (h : Flt w g c s) : Calls Tryd.prog 58 #[fltV g] w fun e w' => e = .returned (.string s) ∧ w = w' := by
  have c1 : w.cell? ⟨g, 1, none⟩ = some (.string s) := by rw [blk_cell h.out]; rfl
  clear h
  have hta : ∀ (v : Value) (W : World), (Instr.typeAssert (.iface 60 v) 26 60 true).run Tryd.prog W = .ok (.tuple #[v, .bool true]) W := fun _ _ => rfl
  show Calls Tryd.prog 58 #[.iface 60 (.pointer (some ⟨g, 0, none⟩))] w _
  go_enter Tryd.func58, Tryd.ntmps58
  go_wp2
  go_ret
  exact ⟨rfl, rfl⟩
end Go.Proofs.YtiaiopdiooobiaaDoor.My

/- The walk of guard.Try: a fault is caught. -/
namespace Go.Proofs.YtiaiopdiooobiaaDoor.My
open Go.RowKit Go.Proofs.YtiaiopdiooobiaaDoorW.PrintWords Go.Proofs.YtiaiopdiooobiaaDoorW.PrintLast Go.Proofs.YtiaiopdiooobiaaDoorW.PrintMore
set_option maxRecDepth 100000

theorem catch_flt (b : Nat) (x : Value) (g : Nat) (older : List PanicEntry) (w : World) (hc : w.cell? ⟨b, 0, none⟩ = some x) (hz : w.frozen? ⟨b, 0, none⟩ = false) :
    CallsD Tryd.prog 24 #[.pointer (some ⟨b, 0, none⟩)] (.panicking ({ v := fltV g, recovered := false } :: older)) w fun e u' w' =>
      e = .returned (.tuple #[]) ∧ u' = .panicking ({ v := fltV g, recovered := true } :: older) ∧ w' = w.setCell ⟨b, 0, none⟩ (fltV g) := by
  have hta : ∀ (v : Value) (W : World), (Instr.typeAssert (.iface 60 v) 20 60 true).run Tryd.prog W = .ok (.tuple #[v, .bool true]) W := fun _ _ => rfl
  unfold fltV
  refine callsD_of_wpS Tryd.func24 rfl fun c₀ cs hu => ?_
  apply wpS_seq
  apply wpS_region
  simp [wpOpsS, go_sem, recoverD, hu, Tryd.ntmps24, Exit.thenS]
  rw [show ∀ (p v : Value), #[p] ++ (Array.replicate 11 undef).setIfInBounds 3 v = #[p, undef, undef, undef, v, undef, undef, undef, undef, undef, undef, undef] from fun _ _ => rfl]
  refine wpS_of_wp ?_
  clear hu
  go_wp2
  simp [bodyPostS, results, Tryd.results24]
theorem catch_idle (b : Nat) (w : World) :
    CallsD Tryd.prog 24 #[.pointer (some ⟨b, 0, none⟩)] .returning w fun e u' w' => e = .returned (.tuple #[]) ∧ u' = .returning ∧ w' = w := by
  refine callsD_of_wpS Tryd.func24 rfl fun c₀ cs hu => ?_
  apply wpS_seq
  apply wpS_region
  simp [wpOpsS, go_sem, recoverD, hu, Tryd.ntmps24, Exit.thenS]
  rw [show ∀ (p v : Value), #[p] ++ (Array.replicate 11 undef).setIfInBounds 3 v = #[p, undef, undef, undef, v, undef, undef, undef, undef, undef, undef, undef] from fun _ _ => rfl]
  refine wpS_of_wp ?_
  have HU := Aside0.mk hu
  clear hu
  go_wp2
  have hu := HU.out
  cases c₀
  simp_all [bodyPostS, results, Tryd.results24]
/-- What isn't a fault goes on: it is panicked with anew. -/
theorem catch_int (b : Nat) (n : Int) (older : List PanicEntry) (w : World) :
    CallsD Tryd.prog 24 #[.pointer (some ⟨b, 0, none⟩)] (.panicking ({ v := .iface 3 (.int .i64 n), recovered := false } :: older)) w fun e u' w' =>
      e = .panicked [{ v := .iface 3 (.int .i64 n), recovered := false }] ∧ u' = .panicking ({ v := .iface 3 (.int .i64 n), recovered := true } :: older) ∧ w' = w := by
  have hta : ∀ (v : Value) (W : World), (Instr.typeAssert (.iface 3 v) 20 60 true).run Tryd.prog W = .ok (.tuple #[.pointer none, .bool false]) W := fun _ _ => rfl
  refine callsD_of_wpS Tryd.func24 rfl fun c₀ cs hu => ?_
  apply wpS_seq
  apply wpS_region
  simp [wpOpsS, go_sem, recoverD, hu, Tryd.ntmps24, Exit.thenS]
  rw [show ∀ (p v : Value), #[p] ++ (Array.replicate 11 undef).setIfInBounds 3 v = #[p, undef, undef, undef, v, undef, undef, undef, undef, undef, undef, undef] from fun _ _ => rfl]
  refine wpS_of_wp ?_
  clear hu
  go_wp2
  simp [bodyPostS]
/-- What a function does that is handed to Try: it ends, or it throws a fault; the variable that Try has made stays as it is. -/
def Ends (k : Nat) (D : World → Prop) (T : Nat → World → Prop) (e : Ending) (w : World) : Prop :=
  w.heap[k]? = some (.cells #[.nilIface] 26 (0, 0)) ∧ ((∃ v, e = .returned v ∧ D w) ∨ (∃ g, e = .panicked [{ v := fltV g, recovered := false }] ∧ T g w))
/-- What Try answers then. -/
def Tried (k : Nat) (D : World → Prop) (T : Nat → World → Prop) (e : Ending) (w : World) : Prop :=
  (e = .returned .nilIface ∧ ∃ w1, D w1 ∧ w = w1.setCell ⟨k, 0, none⟩ .nilIface) ∨ (∃ g, e = .returned (fltV g) ∧ ∃ w1, T g w1 ∧ w = w1.setCell ⟨k, 0, none⟩ (fltV g))
theorem try_fun (F : FuncId) (cap : Array Value) (w : World) (D : World → Prop) (T : Nat → World → Prop)
    (hcf : ∀ W : World, (callFunc F cap).run Tryd.prog W = .ok (.enter F cap) W)
    (hR : Calls Tryd.prog F cap (w.alloc (.cells #[.nilIface] 26)) (Ends w.heap.size D T)) :
    Calls Tryd.prog 14 #[.func (.func F) #[] cap] w (Tried w.heap.size D T) := by
  have hmf : ∀ (fn : Fn) (first cap : Array Value) (w : World), (Instr.makeFunc fn first cap).run Tryd.prog w = .ok (.func fn first cap) w := fun _ _ _ _ => rfl
  have hnf : ∀ (fn : Fn) (first cap : Array Value) (W : World), (Go.binOp .eql 1 (Value.func fn first cap) Value.nilFunc).run Tryd.prog W = .ok (.bool false) W := fun _ _ _ _ => rfl
  have HR := Aside0.mk hR
  clear hR
  go_enter_defers Tryd.func14, Tryd.ntmps14
  go_wp2_with fail
  refine HR.out.mono ?_
  rintro e w1 ⟨hb, ⟨v, rfl, hD⟩ | ⟨g, rfl, hT⟩⟩
  · have hc : w1.cell? ⟨w.heap.size, 0, none⟩ = some .nilIface := by rw [blk_cell hb]; rfl
    have hz : w1.frozen? ⟨w.heap.size, 0, none⟩ = false := blk_frozen hb 0
    have HD := Aside0.mk hD
    have HB := Aside0.mk hb
    clear hD hb
    go_wp2
    refine leaves_cons (f := 24) (args := #[.pointer (some ⟨w.heap.size, 0, none⟩)]) (by simp) (by simp [go_sem]) ?_
    refine (catch_idle w.heap.size _).mono ?_
    rintro e u' w'' ⟨rfl, rfl, rfl⟩
    have hb' := blk_set HB.out 0 .nilIface
    simp [Leaves, settle, results, Tryd.results14, go_sem, hc]
    exact .inl ⟨rfl, w1, HD.out, rfl⟩
  · have hc : w1.cell? ⟨w.heap.size, 0, none⟩ = some .nilIface := by rw [blk_cell hb]; rfl
    have hz : w1.frozen? ⟨w.heap.size, 0, none⟩ = false := blk_frozen hb 0
    have HT := Aside0.mk hT
    have HB := Aside0.mk hb
    clear hT hb
    go_wp2
    refine leaves_cons (f := 24) (args := #[.pointer (some ⟨w.heap.size, 0, none⟩)]) (by simp) (by simp [go_sem]) ?_
    refine (catch_flt w.heap.size .nilIface g [] _ hc hz).mono ?_
    rintro e u' w'' ⟨rfl, rfl, rfl⟩
    simp [Leaves, settle, results, Tryd.results14, go_sem, hc]
    exact .inr ⟨g, rfl, w1, HT.out, rfl⟩
end Go.Proofs.YtiaiopdiooobiaaDoor.My

/- The walks of guard.In and guard.Pass. -/
namespace Go.Proofs.YtiaiopdiooobiaaDoor.My
open Go.RowKit Go.Proofs.YtiaiopdiooobiaaDoorW.PrintWords Go.Proofs.YtiaiopdiooobiaaDoorW.PrintLast Go.Proofs.YtiaiopdiooobiaaDoorW.PrintMore
set_option maxRecDepth 100000

theorem Flt.set {w : World} {g k : Nat} {c : Int} {s : ByteArray} {x : Value} (h : Flt w g c s) (hk : w.heap[k]? = some (.cells #[x] 26 (0, 0))) (v : Value) : Flt (w.setCell ⟨k, 0, none⟩ v) g c s := by
  refine ⟨?_⟩
  have hne : g ≠ k := by
    rintro rfl
    rw [h.out] at hk
    simp at hk
  rw [Below.heap_setCell w ⟨k, 0, none⟩ v g hne]
  exact h.out
/-- A place ahead of a place. -/
def joinW (a b : ByteArray) : ByteArray := if b.toList.isEmpty then a else a ++ (⟨#[46]⟩ ++ b)
theorem pass_nil (w : World) : Calls Tryd.prog 38 #[.nilIface] w fun e w' => e = .returned (.tuple #[]) ∧ w = w' := by
  go_enter Tryd.func38, Tryd.ntmps38
  go_wp2
  go_end0
  exact ⟨rfl, rfl⟩
theorem pass_flt (g : Nat) (c : Int) (s : ByteArray) (w : World) (h : Flt w g c s) : Calls Tryd.prog 38 #[fltV g] w fun e w' =>
    e = .panicked [{ v := fltV w.heap.size, recovered := false }] ∧ w' = w.alloc (.cells #[.int .i64 c, .string s] 70) := by
  have H1 := Aside0.mk h
  clear h
  go_enter Tryd.func38, Tryd.ntmps38
  go_wp2_with (first
    | (go_at_call 58; refine (where_flt g c s _ H1.out).mono ?_; rintro e w2 ⟨rfl, rfl⟩)
    | (go_at_call 17; refine (code_flt g c s _ H1.out).mono ?_; rintro e w2 ⟨rfl, rfl⟩)
    | (go_at_call 55; refine (throw_calls _ _ _).mono ?_; rintro e w2 ⟨rfl, rfl⟩))
  exact post_panic rfl ⟨rfl, rfl⟩
theorem pass_err (c : Int) (w : World) : Calls Tryd.prog 38 #[numV c] w fun e w' =>
    e = .panicked [{ v := fltV w.heap.size, recovered := false }] ∧ w' = w.alloc (.cells #[.int .i64 c, .string ⟨#[]⟩] 70) := by
  go_enter Tryd.func38, Tryd.ntmps38
  go_wp2_with (first
    | (go_at_call 58; refine (where_err c _).mono ?_; rintro e w2 ⟨rfl, rfl⟩)
    | (go_at_call 17; refine (code_err c _).mono ?_; rintro e w2 ⟨rfl, rfl⟩)
    | (go_at_call 55; refine (throw_calls _ _ _).mono ?_; rintro e w2 ⟨rfl, rfl⟩))
  exact post_panic rfl ⟨rfl, rfl⟩
end Go.Proofs.YtiaiopdiooobiaaDoor.My

/- Try and In over functions that leave what was there alone: short rules. -/
namespace Go.Proofs.YtiaiopdiooobiaaDoor.My
open Go.RowKit Go.Proofs.YtiaiopdiooobiaaDoorW.PrintWords Go.Proofs.YtiaiopdiooobiaaDoorW.PrintLast Go.Proofs.YtiaiopdiooobiaaDoorW.PrintMore
set_option maxRecDepth 100000

/-- A fault is thrown; nothing that was there has turned. -/
def Throws (c : Int) (s : ByteArray) (W : World) (e : Ending) (w' : World) : Prop :=
  ∃ w2, Below W.heap.size W w2 ∧ e = .panicked [{ v := fltV w2.heap.size, recovered := false }] ∧ w' = w2.alloc (.cells #[.int .i64 c, .string s] 70)
/-- It ends; nothing that was there has turned. -/
def Quiet (W : World) (e : Ending) (w' : World) : Prop := (∃ v, e = .returned v) ∧ Below W.heap.size W w'

theorem throw_throws (c : Int) (s : ByteArray) (W : World) : Calls Tryd.prog 55 #[.int .i64 c, .string s] W (Throws c s W) :=
  (throw_calls c s W).mono fun _ _ ⟨h1, h2⟩ => ⟨W, Below.refl _ _, h1, h2⟩
theorem below_from {W w1 : World} {o : Obj} (h : Below (W.alloc o).heap.size (W.alloc o) w1) : Below W.heap.size W w1 :=
  below_then (below_alloc (Below.refl _ _) o) (by simp) h
theorem kept_new {W w1 : World} {o : Obj} (h : Below (W.alloc o).heap.size (W.alloc o) w1) : w1.heap[W.heap.size]? = some o := by
  rw [h.block W.heap.size (by simp)]
  exact alloc_self W o
theorem ends_throws {c : Int} {s : ByteArray} {W : World} {e : Ending} {w' : World} (h : Throws c s (W.alloc (.cells #[.nilIface] 26)) e w') :
    Ends W.heap.size (fun _ => False) (fun g w1 => ∃ c' s', Flt w1 g c' s' ∧ (c' = c ∧ s' = s ∧ Below W.heap.size W w1 ∧ w1.heap[W.heap.size]? = some (.cells #[.nilIface] 26 (0, 0))) ∧ w1.heap[W.heap.size]? = some (.cells #[.nilIface] 26 (0, 0))) e w' := by
  obtain ⟨w2, hb, rfl, rfl⟩ := h
  have h2 := below_alloc hb (.cells #[.int .i64 c, .string s] 70)
  have hk := kept_new h2
  exact ⟨hk, .inr ⟨_, rfl, c, s, ⟨alloc_self _ _⟩, ⟨rfl, rfl, below_from h2, hk⟩, hk⟩⟩
theorem ends_throws' {c : Int} {s : ByteArray} {W : World} {e : Ending} {w' : World} (h : Throws c s (W.alloc (.cells #[.nilIface] 26)) e w') :
    Ends W.heap.size (fun _ => False) (fun g w1 => Flt w1 g c s ∧ Below W.heap.size W w1 ∧ w1.heap[W.heap.size]? = some (.cells #[.nilIface] 26 (0, 0)) ∧ W.heap.size < g) e w' := by
  obtain ⟨w2, hb, rfl, rfl⟩ := h
  have h2 := below_alloc hb (.cells #[.int .i64 c, .string s] 70)
  have hk := kept_new h2
  exact ⟨hk, .inr ⟨_, rfl, ⟨alloc_self _ _⟩, below_from h2, hk, by have := hb.size; simp at this; omega⟩⟩
theorem try_throws (F : FuncId) (cap : Array Value) (c : Int) (s : ByteArray) (W : World) (hcf : ∀ W : World, (callFunc F cap).run Tryd.prog W = .ok (.enter F cap) W)
    (h : Calls Tryd.prog F cap (W.alloc (.cells #[.nilIface] 26)) (Throws c s (W.alloc (.cells #[.nilIface] 26)))) :
    Calls Tryd.prog 14 #[.func (.func F) #[] cap] W fun e w' => ∃ g, e = .returned (fltV g) ∧ Flt w' g c s ∧ Below W.heap.size W w' ∧ W.heap.size < g := by
  refine (try_fun F cap W _ _ hcf (h.mono fun _ _ h => ends_throws' h)).mono ?_
  rintro e w' (⟨_, w1, hD, _⟩ | ⟨g, rfl, w1, ⟨hF, hb, hk, hg⟩, rfl⟩)
  · exact hD.elim
  · exact ⟨g, rfl, hF.set hk _, hb.setCell (Nat.le_refl _) _, hg⟩
theorem ends_quiet {W : World} {e : Ending} {w' : World} (T : Nat → World → Prop) (h : Quiet (W.alloc (.cells #[.nilIface] 26)) e w') :
    Ends W.heap.size (fun w1 => Below W.heap.size W w1) T e w' := by
  obtain ⟨⟨v, rfl⟩, hb⟩ := h
  exact ⟨kept_new hb, .inl ⟨v, rfl, below_from hb⟩⟩
theorem try_quiet (F : FuncId) (cap : Array Value) (W : World) (hcf : ∀ W : World, (callFunc F cap).run Tryd.prog W = .ok (.enter F cap) W)
    (h : Calls Tryd.prog F cap (W.alloc (.cells #[.nilIface] 26)) (Quiet (W.alloc (.cells #[.nilIface] 26)))) :
    Calls Tryd.prog 14 #[.func (.func F) #[] cap] W fun e w' => e = .returned .nilIface ∧ Below W.heap.size W w' := by
  refine (try_fun F cap W _ (fun _ _ => False) hcf (h.mono fun _ _ h => ends_quiet _ h)).mono ?_
  rintro e w' (⟨rfl, w1, hD, rfl⟩ | ⟨g, rfl, w1, hF, rfl⟩)
  · exact ⟨rfl, hD.setCell (Nat.le_refl _) _⟩
  · exact hF.elim
end Go.Proofs.YtiaiopdiooobiaaDoor.My

/- The walks of the packer's small functions: distance, length, put. -/
namespace Go.Proofs.YtiaiopdiooobiaaDoor.My
open Go.RowKit Go.Proofs.YtiaiopdiooobiaaDoor.Huf Go.Proofs.YtiaiopdiooobiaaDoorW.PrintWords Go.Proofs.YtiaiopdiooobiaaDoorW.PrintLast Go.Proofs.YtiaiopdiooobiaaDoorW.PrintMore
set_option maxRecDepth 100000
set_option linter.unusedVariables false
set_option linter.unusedSimpArgs false

theorem and_nat63 (a b : Nat) (ha : a < 2 ^ 63) (hb : b < 2 ^ 63) : Go.bits .and .i64 a b = ((a &&& b : Nat) : Int) := by
  have hl : a &&& b < 2 ^ 63 := Nat.and_lt_two_pow _ hb
  show IntKind.i64.wrap ((BitVec.ofInt 64 (a : Int) &&& BitVec.ofInt 64 (b : Int)).toNat : Int) = _
  rw [BitVec.ofInt_natCast, BitVec.ofInt_natCast, BitVec.toNat_and, BitVec.toNat_ofNat, BitVec.toNat_ofNat, Nat.mod_eq_of_lt (by omega), Nat.mod_eq_of_lt (by omega), IntWalk.i64_in _ ⟨by omega, by omega⟩]
theorem and_mask (q k m : Nat) (hq : q < 2 ^ 62) (hk : k ≤ 32) (hm : m = 2 ^ k - 1) : Go.bits .and .i64 (q : Int) (m : Int) = ((q % 2 ^ k : Nat) : Int) := by
  have h1 : (2 : Nat) ^ k ≤ 2 ^ 32 := Nat.pow_le_pow_right (by decide) hk
  subst hm
  rw [and_nat63 _ _ (by omega) (by omega), Nat.and_two_pow_sub_one_eq_mod]
theorem disS_big (q k : Nat) (h4 : ¬ q < 4) (hb : Lib.bitLen q = k + 2) : disS (q + 1) = (2 * (k + 1) + q / 2 ^ k - 2, q % 2 ^ k, k) := by
  unfold disS
  rw [show q + 1 - 1 = q by omega, if_neg h4, hb]
  rfl
theorem tup3 {x y z x' y' z' : Int} (h1 : x = x') (h2 : y = y') (h3 : z = z') : Ending.returned (.tuple #[.int .i64 x, .int .i64 y, .int .i64 z]) = Ending.returned (.tuple #[.int .i64 x', .int .i64 y', .int .i64 z']) := by rw [h1, h2, h3]
theorem distance_calls (w : World) (d : Nat) (h0 : 1 ≤ d) (h1 : d ≤ 32768) :
    Calls Tryd.prog 67 #[.int .i64 d] w fun e w' => e = .returned (.tuple #[.int .i64 ((disS d).1 : Nat), .int .i64 ((disS d).2.1 : Nat), .int .i64 ((disS d).2.2 : Nat)]) ∧ Below w.heap.size w w' := by
  obtain ⟨q, rfl⟩ : ∃ q, d = q + 1 := ⟨d - 1, by omega⟩
  have e0 : ((q + 1 : Nat) : Int) = (q : Int) + 1 := by omega
  rw [e0]
  have hq : (q : Int) ≤ 32767 := by omega
  by_cases h4 : q < 4
  · have hS : disS (q + 1) = (q, 0, 0) := by unfold disS; rw [show q + 1 - 1 = q by omega, if_pos h4]
    have h4' : (q : Int) < 4 := by omega
    rw [hS]
    clear h0 h1 h4 hS e0
    go_enter Tryd.func67, Tryd.ntmps67
    go_wp2_with fail
    go_ret3
    exact ⟨rfl, Below.refl _ _⟩
  · obtain ⟨k, k1, k13, hlo, hhi⟩ := pow_between q (by omega) (by omega)
    have hb : Lib.bitLen q = k + 2 := bitLen_of q (k + 1) hlo hhi (by omega)
    have hS := disS_big q k h4 hb
    have h4' : (4 : Int) ≤ (q : Int) := by omega
    have HL : Aside0 (∀ w : World, Calls Tryd.prog 78 #[.int .u64 q] w fun e w' => e = .returned (.int .i64 ((k + 2 : Nat) : Int)) ∧ w = w') :=
      ⟨fun w => (Tryd.bits_Len q w (by omega) (by omega)).mono fun e w' h => ⟨by rw [h.1, Int.toNat_natCast, hb], h.2.symm⟩⟩
    rw [hS]
    have hm : ∀ m : Nat, m = 2 ^ k - 1 → Go.bits .and .i64 (q : Int) (m : Int) = ((q % 2 ^ k : Nat) : Int) := fun m hm => and_mask q k m (by omega) (by omega) hm
    have hdv : 1 ≤ q / 2 ^ k := (Nat.le_div_iff_mul_le (Nat.two_pow_pos k)).2 (by rw [Nat.pow_succ] at hlo; omega)
    have HM := Aside0.mk hm
    have HDV := Aside0.mk hdv
    clear h0 h1 h4 hS e0 hb hlo hhi hm hdv
    have hk : k = 1 ∨ k = 2 ∨ k = 3 ∨ k = 4 ∨ k = 5 ∨ k = 6 ∨ k = 7 ∨ k = 8 ∨ k = 9 ∨ k = 10 ∨ k = 11 ∨ k = 12 ∨ k = 13 := by omega
    clear k1 k13
    rcases hk with rfl | rfl | rfl | rfl | rfl | rfl | rfl | rfl | rfl | rfl | rfl | rfl | rfl
    all_goals
      go_enter Tryd.func67, Tryd.ntmps67
      go_wp2_with (go_at_call 78; refine (HL.out _).mono ?_; rintro e w' ⟨rfl, rfl⟩)
      go_quiet (fail)
      go_wp2_with fail
      go_ret3
      refine ⟨?_, pw_below_drewN (Below.refl _ _) _⟩
      have a := HM.out _ rfl
      have b := HDV.out
      simp only [Nat.reducePow, Nat.reduceSub, Nat.reduceAdd, Nat.reduceMul] at a b ⊢
      refine tup3 ?_ a ?_
      · omega
      · rfl
theorem lenS_big (q k : Nat) (h8 : ¬ q < 8) (h255 : q ≠ 255) (hb : Lib.bitLen q = k + 3) : lenS (q + 3) = (257 + 4 * (k + 1) + q / 2 ^ k - 4, q % 2 ^ k, k) := by
  unfold lenS
  rw [show q + 3 - 3 = q by omega, if_neg h255, if_neg h8, hb]
  rfl
theorem length_calls (w : World) (l : Nat) (h0 : 3 ≤ l) (h1 : l ≤ 258) :
    Calls Tryd.prog 66 #[.int .i64 l] w fun e w' => e = .returned (.tuple #[.int .i64 ((lenS l).1 : Nat), .int .i64 ((lenS l).2.1 : Nat), .int .i64 ((lenS l).2.2 : Nat)]) ∧ Below w.heap.size w w' := by
  obtain ⟨q, rfl⟩ : ∃ q, l = q + 3 := ⟨l - 3, by omega⟩
  have e0 : ((q + 3 : Nat) : Int) = (q : Int) + 3 := by omega
  rw [e0]
  have hq : (q : Int) ≤ 255 := by omega
  by_cases h255 : q = 255
  · subst h255
    clear hq h0 h1 e0
    go_enter Tryd.func66, Tryd.ntmps66
    go_wp2_with fail
    go_ret3
    exact ⟨rfl, Below.refl _ _⟩
  by_cases h8 : q < 8
  · have hS : lenS (q + 3) = (257 + q, 0, 0) := by unfold lenS; rw [show q + 3 - 3 = q by omega, if_neg h255, if_pos h8]
    have h8' : (q : Int) < 8 := by omega
    have hne : ((q : Int) == 255) = false := by simp; omega
    rw [hS]
    clear h0 h1 h8 hS e0
    go_enter Tryd.func66, Tryd.ntmps66
    go_wp2_with fail
    go_ret3
    exact ⟨rfl, Below.refl _ _⟩
  · obtain ⟨k', k1, k13, hlo, hhi⟩ := pow_between q (by omega) (by omega)
    obtain ⟨k, rfl⟩ : ∃ k, k' = k + 1 := ⟨k' - 1, by omega⟩
    have hb : Lib.bitLen q = k + 3 := bitLen_of q (k + 2) hlo hhi (by omega)
    have hS := lenS_big q k h8 h255 hb
    have h8' : (8 : Int) ≤ (q : Int) := by omega
    have hne : ((q : Int) == 255) = false := by simp; omega
    have HL : Aside0 (∀ w : World, Calls Tryd.prog 78 #[.int .u64 q] w fun e w' => e = .returned (.int .i64 ((k + 3 : Nat) : Int)) ∧ w = w') :=
      ⟨fun w => (Tryd.bits_Len q w (by omega) (by omega)).mono fun e w' h => ⟨by rw [h.1, Int.toNat_natCast, hb], h.2.symm⟩⟩
    rw [hS]
    have hm : ∀ m : Nat, m = 2 ^ k - 1 → Go.bits .and .i64 (q : Int) (m : Int) = ((q % 2 ^ k : Nat) : Int) := fun m hm => and_mask q k m (by omega) (by omega) hm
    have HM := Aside0.mk hm
    have hkk : 1 ≤ k ∧ k ≤ 5 := by
      constructor
      · cases k with
        | zero => simp at hhi; omega
        | succ k => omega
      · by_cases h : k ≤ 5
        · exact h
        · have : 2 ^ 8 ≤ 2 ^ (k + 1 + 1) := Nat.pow_le_pow_right (by decide) (by omega)
          omega
    clear h0 h1 h8 hS e0 hb hlo hhi hm k1 k13
    have hk : k = 1 ∨ k = 2 ∨ k = 3 ∨ k = 4 ∨ k = 5 := by omega
    clear hkk h255
    rcases hk with rfl | rfl | rfl | rfl | rfl
    all_goals
      go_enter Tryd.func66, Tryd.ntmps66
      go_wp2_with (go_at_call 78; refine (HL.out _).mono ?_; rintro e w' ⟨rfl, rfl⟩)
      go_quiet (fail)
      go_wp2_with fail
      go_ret3
      refine ⟨?_, pw_below_drewN (Below.refl _ _) _⟩
      have a := HM.out _ rfl
      simp only [Nat.reducePow, Nat.reduceSub, Nat.reduceAdd, Nat.reduceMul] at a ⊢
      refine tup3 ?_ a ?_
      · omega
      · rfl
end Go.Proofs.YtiaiopdiooobiaaDoor.My

/- The walk of bits.Writer.Bytes. -/
namespace Go.Proofs.YtiaiopdiooobiaaDoor.My
open Go.RowKit Go.Proofs.YtiaiopdiooobiaaDoorW.PrintWords Go.Proofs.YtiaiopdiooobiaaDoorW.PrintLast Go.Proofs.YtiaiopdiooobiaaDoorW.PrintMore
set_option maxRecDepth 100000

theorem wbytes_form (w : World) (B g : Nat) (v : Value) (V N : Nat) (A : Option Addr) (n c : Nat) (hw : Writ w B g v V N) (hm : N % 8 ≠ 0) :
    Calls Tryd.prog 39 #[.pointer (some ⟨g, 0, none⟩), .slice A n c] w fun e w' => e = .returned (errV (some 2)) ∧ w' = w := by
  obtain ⟨c0, c1, c2, f0, f1, f2⟩ := hw.wr.cells
  have hm0 : ((N % 8 : Nat) : Int) ≠ 0 := by omega
  clear hw hm
  generalize N % 8 = m at *
  go_enter Tryd.func39, Tryd.ntmps39
  go_wp2
  go_ret
  exact ⟨rfl, rfl⟩
theorem wbytes_calls (w : World) (B g : Nat) (v : Value) (V N : Nat) (A : Option Addr) (n c : Nat) (zs : List Int) (hB : B ≤ w.heap.size) (hw : Writ w B g v V N) (hm : N % 8 = 0) (hN : N ≤ 100000000000000)
    (hz : (Kd.int .u8).C w A n zs) (hn : zs.length = n) (hn1 : n ≤ 10000000000000) (hb : ∀ z ∈ zs, 0 ≤ z ∧ z < 256) :
    Calls Tryd.prog 39 #[.pointer (some ⟨g, 0, none⟩), .slice A n c] w fun e w' => e = .returned (errV none) ∧ ∃ v', Writ w' B g v' (V + ofB zs * 2 ^ N) (N + 8 * n) ∧ Grew w w' g v v' := by
  obtain ⟨c0, c1, c2, f0, f1, f2⟩ := hw.wr.cells
  obtain ⟨A0, k0, rfl⟩ := own_slice hw.wr.row
  have hW := hw.wr
  have hV := hw.lt
  have hh : V / 2 ^ (8 * (N / 8)) = 0 := Nat.div_eq_of_lt (by rwa [show 8 * (N / 8) = N by omega])
  rw [hh, hm] at hW
  rw [hm] at c2
  rw [hh] at c1
  rw [leB_len] at c0 hW ⊢
  have happ := leB_app zs V (N / 8) hb (by rwa [show 8 * (N / 8) = N by omega])
  rw [show 8 * (N / 8) = N by omega] at happ
  have hlt := val_lt hV (ofB_lt zs hb)
  rw [hn] at happ hlt
  have HW := Aside0.mk hW
  have HZ := Aside0.mk hz
  have HA := Aside0.mk happ
  have HT := Aside0.mk hlt
  have HBB := Aside0.mk hB
  have HN8 := Aside0.mk (show (N + 8 * n) / 8 = N / 8 + n ∧ (N + 8 * n) % 8 = 0 ∧ 8 * (N / 8 + n) = N + 8 * n by omega)
  have HNB := Aside0.mk hN
  have HM := Aside0.mk hm
  have HLN := Aside0.mk (show (leB V (N / 8) ++ zs).length = N / 8 + n by rw [List.length_append, leB_len, hn])
  clear hw hW hV hz happ hlt hh hm hb hB hN
  go_enter Tryd.func39, Tryd.ntmps39
  go_wp2_with ((with_reducible refine gate_dst (N := 22) rfl ?_); refine print_append_row (w0 := w) B rfl (.tmp 20) (.tmp 21) 22 5 .u8 1 rfl Tryd.underlying22 info_u8 (by decide) _ (leB V (N / 8)) zs A _ c rfl rfl HW.out.row (reads_of_C HZ.out) (Below.refl _ _) HBB.out (by rw [leB_len]; have := HNB.out; omega) ?_; intro v1 w2 ho hb hg hk; obtain ⟨A1, c1', rfl⟩ := own_slice ho; have HAp := HW.out.appended ho hg hk; obtain ⟨p0, p1, p2, q0, q1, q2⟩ := cells_of HAp.1; replace HAp := Aside0.mk HAp; clear ho hb hg hk)
  go_ret
  have k := HAp.out.2
  rw [HLN.out, ← HA.out] at k
  have hx := HT.out
  have h0 : (V + ofB zs * 2 ^ N) / 2 ^ (8 * (N / 8 + n)) = 0 := Nat.div_eq_of_lt (by rw [HN8.out.2.2]; exact hx)
  refine ⟨rfl, _, ⟨?_, hx⟩, k.2⟩
  rw [HN8.out.1, HN8.out.2.1, h0]
  exact k.1
end Go.Proofs.YtiaiopdiooobiaaDoor.My

/- The walks of the packer: put, a sign, a token. -/
namespace Go.Proofs.YtiaiopdiooobiaaDoor.My
open Go.RowKit Go.Proofs.YtiaiopdiooobiaaDoor.Huf Go.Proofs.YtiaiopdiooobiaaDoorW.PrintWords Go.Proofs.YtiaiopdiooobiaaDoorW.PrintLast Go.Proofs.YtiaiopdiooobiaaDoorW.PrintMore
set_option maxRecDepth 100000
set_option linter.unusedVariables false
set_option linter.unusedSimpArgs false

/-! ### Frames -/
theorem Grew.of_below {w w1 : World} (h : Below w.heap.size w w1) (g : Nat) (v : Value) : Grew w w1 g v v := ⟨h.os, h.tape, h.output, KeepBut.of_below h g _, .inl rfl⟩
theorem Grew.obj {w w1 : World} {g k : Nat} {v v1 : Value} {o : Obj} (h : Grew w w1 g v v1) (ho : w.heap[k]? = some o) (h1 : k ≠ g) (h2 : some k ≠ v.ownBlock) : w1.heap[k]? = some o := by
  have hlt : k < w.heap.size := by
    rcases Nat.lt_or_ge k w.heap.size with hlt | hge
    · exact hlt
    · rw [Array.getElem?_eq_none hge] at ho; cases ho
  exact (h.keep.2 k hlt h1 h2).trans ho
theorem cell_same {w w1 : World} {ad : Addr} (h : w1.heap[ad.block]? = w.heap[ad.block]?) : w1.cell? ad = w.cell? ad := by
  unfold World.cell?
  rw [h]
theorem RB.same {w w1 : World} {lo hi : Nat} {A : Option Addr} {n : Nat} {xs : List Int} (h : RB w lo hi A n xs) (hs : ∀ k, lo ≤ k → k < hi → w1.heap[k]? = w.heap[k]?) : RB w1 lo hi A n xs := by
  refine ⟨C_of_readsInt ?_, h.b⟩
  obtain ⟨h1, h2, h3⟩ := reads_of_C h.c
  refine ⟨h1, h2, fun hn => ?_⟩
  obtain ⟨ad, e, hc⟩ := h3 hn
  refine ⟨ad, e, fun j hj => ?_⟩
  have hb := h.b ad e
  have e2 := cell_same (w := w) (w1 := w1) (ad := ad.add j) (by rw [add_block]; exact hs ad.block hb.1 hb.2)
  rw [e2]
  exact hc j hj
theorem CodeAt.same {w w1 : World} {lo hi g : Nat} {L : List Int} (h : CodeAt w lo hi g L) (hs : ∀ k, lo ≤ k → k < hi → w1.heap[k]? = w.heap[k]?) : CodeAt w1 lo hi g L := by
  obtain ⟨A, A1, A2, c, c1, c2, S, k, r0, r1, r2, hS, h1, h2⟩ := h.out
  exact ⟨A, A1, A2, c, c1, c2, S, ⟨(hs g h1 h2).trans k.blk, k.lf, k.lm, k.lb⟩, r0.same hs, r1.same hs, r2.same hs, hS, h1, h2⟩
theorem CodeAt.mono {w : World} {lo hi lo' hi' g : Nat} {L : List Int} (h : CodeAt w lo hi g L) (h1 : lo' ≤ lo) (h2 : hi ≤ hi') : CodeAt w lo' hi' g L := by
  obtain ⟨A, A1, A2, c, c1, c2, S, k, r0, r1, r2, hS, h3, h4⟩ := h.out
  exact ⟨A, A1, A2, c, c1, c2, S, k, r0.mono h1 h2, r1.mono h1 h2, r2.mono h1 h2, hS, by omega, by omega⟩
theorem Writ.below' {w w1 : World} {B g : Nat} {v : Value} {V N : Nat} (k : Writ w B g v V N) (h : Below w.heap.size w w1) : Writ w1 B g v V N := ⟨⟨blk_below k.wr.blk h, pw_own_below k.wr.row h, k.wr.bg⟩, k.lt⟩
/-- A packer: its own block, its writer. -/
structure Pk (w : World) (gp gw : Nat) (pa pb v : Value) (b : Bs) : Prop where
  blk : w.heap[gp]? = some (.cells #[.pointer (some ⟨gw, 0, none⟩), pa, pb] 66 (0, 0))
  wri : Writ w gw gw v b.V b.N
  lt : gw < gp
theorem Pk.step {w w1 : World} {gp gw : Nat} {pa pb v v1 : Value} {b b1 : Bs} (h : Pk w gp gw pa pb v b) (hw : Writ w1 gw gw v1 b1.V b1.N) (hg : Grew w w1 gw v v1) : Pk w1 gp gw pa pb v1 b1 :=
  ⟨hg.obj h.blk (by have := h.lt; omega) (own_ne h.wri.wr.row h.blk (by decide)), hw, h.lt⟩
theorem Pk.below {w w1 : World} {gp gw : Nat} {pa pb v : Value} {b : Bs} (h : Pk w gp gw pa pb v b) (hb : Below w.heap.size w w1) : Pk w1 gp gw pa pb v b :=
  h.step (h.wri.below' hb) (Grew.of_below hb gw v)
/-- With its codes, in blocks from lo up to hi. -/
structure Pks (w : World) (lo hi gp gw ga gb : Nat) (v : Value) (b : Bs) : Prop where
  pk : Pk w gp gw (.pointer (some ⟨ga, 0, none⟩)) (.pointer (some ⟨gb, 0, none⟩)) v b
  ca : CodeAt w lo hi ga letters
  cb : CodeAt w lo hi gb fixD
  glo : gw < lo
  hih : hi ≤ w.heap.size
  own : ∀ k, v.ownBlock = some k → hi ≤ k
theorem Pks.step {w w1 : World} {lo hi gp gw ga gb : Nat} {v v1 : Value} {b b1 : Bs} (h : Pks w lo hi gp gw ga gb v b) (hw : Writ w1 gw gw v1 b1.V b1.N) (hg : Grew w w1 gw v v1) : Pks w1 lo hi gp gw ga gb v1 b1 := by
  have hs : ∀ k, lo ≤ k → k < hi → w1.heap[k]? = w.heap[k]? := fun k h1 h2 => hg.keep.2 k (by have := h.hih; omega) (by have := h.glo; omega) (fun e => by have := h.own k e.symm; omega)
  refine ⟨h.pk.step hw hg, h.ca.same hs, h.cb.same hs, h.glo, Nat.le_trans h.hih hg.keep.1, fun k hk => ?_⟩
  rcases hg.at_ with e | ⟨q, e, hq⟩
  · rw [e] at hk; exact h.own k hk
  · rw [e] at hk; cases hk; exact Nat.le_trans h.hih hq
theorem Pks.below {w w1 : World} {lo hi gp gw ga gb : Nat} {v : Value} {b : Bs} (h : Pks w lo hi gp gw ga gb v b) (hb : Below w.heap.size w w1) : Pks w1 lo hi gp gw ga gb v b :=
  h.step (h.pk.wri.below' hb) (Grew.of_below hb gw v)
theorem Pk.cells {w : World} {gp gw : Nat} {pa pb v : Value} {b : Bs} (h : Pk w gp gw pa pb v b) : w.cell? ⟨gp, 0, none⟩ = some (.pointer (some ⟨gw, 0, none⟩)) ∧ w.cell? ⟨gp, 1, none⟩ = some pa ∧ w.cell? ⟨gp, 2, none⟩ = some pb ∧
    w.frozen? ⟨gp, 1, none⟩ = false ∧ w.frozen? ⟨gp, 2, none⟩ = false := by
  refine ⟨?_, ?_, ?_, ?_, ?_⟩ <;> first | (rw [blk_cell h.blk]; rfl) | exact blk_frozen h.blk _
theorem Pk.gwlt {w : World} {gp gw : Nat} {pa pb v : Value} {b : Bs} (h : Pk w gp gw pa pb v b) : gw ≤ w.heap.size := Nat.le_of_lt (blk_lt h.wri.wr.blk)

/-! ### put -/
theorem pput_calls (w : World) (gp gw : Nat) (pa pb v : Value) (b : Bs) (h : Pk w gp gw pa pb v b) (x n : Nat) (hx : x < 2 ^ n) (hn : n ≤ 32) (hN : b.N ≤ 1000000000) :
    Calls Tryd.prog 36 #[.pointer (some ⟨gp, 0, none⟩), .int .i64 x, .int .i64 n] w fun e w' => e = .returned (.tuple #[]) ∧ ∃ v', Writ w' gw gw v' (b.put x n).V (b.put x n).N ∧ Grew w w' gw v v' := by
  obtain ⟨c0, c1, c2, f1, f2⟩ := h.cells
  have hx32 : x < 4294967296 := Nat.lt_of_lt_of_le hx (Nat.pow_le_pow_right (n := 2) (by decide) hn)
  have hok : okW x n = true := decide_eq_true ⟨by omega, by omega, by simpa using hx⟩
  have HP : Aside0 (Calls Tryd.prog 56 #[.pointer (some ⟨gw, 0, none⟩), .int .u32 x, .int .i64 n] w fun e w' => e = .returned .nilIface ∧ ∃ v', Writ w' gw gw v' (b.put x n).V (b.put x n).N ∧ Grew w w' gw v v') := ⟨by
    refine (put_calls w gw gw v b.V b.N x n h.gwlt h.wri hx32 (by omega)).mono ?_
    rintro e w' ⟨rfl, h2⟩
    rcases h2 with ⟨h3, _⟩ | ⟨_, v', h3, h4⟩
    · rw [hok] at h3; cases h3
    · refine ⟨by unfold askE; rw [hok]; rfl, v', by rw [Int.toNat_natCast] at h3; exact h3, h4⟩⟩
  have hxi : (x : Int) < 4294967296 := by omega
  have hni : (n : Int) ≤ 32 := by omega
  clear h hx hn hN hok hx32
  go_enter Tryd.func36, Tryd.ntmps36
  go_wp2_with (first
    | (go_at_call 56; refine HP.out.mono ?_; rintro e w1 ⟨rfl, v', hW, hG⟩; have HW := Aside0.mk hW; have HG := Aside0.mk hG; clear hW hG)
    | (go_at_call 38; refine (pass_nil _).mono ?_; rintro e w2 ⟨rfl, rfl⟩))
  refine bodyPost_end (results_none rfl _ _ _) rfl ?_
  exact ⟨rfl, v', HW.out, HG.out⟩

/-! ### A sign -/
theorem has_of (L : List Int) (s : Nat) (hs : s < L.length) (h : 0 < L.getD s 0) : Has L s (L.getD s 0).toNat := ⟨hs, by omega, by omega⟩
theorem letters_ok : ∀ s : Fin 288, 0 < letters.getD s.val 0 ∧ letters.getD s.val 0 ≤ 15 ∧ code letters s.val < 2 ^ (letters.getD s.val 0).toNat := by decide +kernel
theorem fixD_ok : ∀ s : Fin 32, 0 < fixD.getD s.val 0 ∧ fixD.getD s.val 0 ≤ 15 ∧ code fixD s.val < 2 ^ (fixD.getD s.val 0).toNat := by decide +kernel
theorem csign (w : World) (lo hi g : Nat) (L : List Int) (k : CodeAt w lo hi g L) (hl : L.length ≤ 1000000) (gw : Nat) (v : Value) (b : Bs) (hB : gw ≤ w.heap.size) (hw : Writ w gw gw v b.V b.N) (hN : b.N ≤ 1000000000) (s : Nat) (hs : s < L.length) (h1 : 0 < L.getD s 0) (h2 : L.getD s 0 ≤ 15) (h3 : code L s < 2 ^ (L.getD s 0).toNat) :
    Calls Tryd.prog 43 #[.pointer (some ⟨g, 0, none⟩), .pointer (some ⟨gw, 0, none⟩), .int .i64 s] w fun e w' => e = .returned .nilIface ∧ ∃ v', Writ w' gw gw v' (sgB L b s).V (sgB L b s).N ∧ Grew w w' gw v v' := by
  refine (putc_calls w lo hi g L k hl gw gw v b.V b.N hB hw hN s (L.getD s 0).toNat (has_of L s hs h1) h3 (by omega)).mono ?_
  rintro e w' ⟨rfl, w1, v', hb, hW, hG⟩
  exact ⟨rfl, v', hW, (Grew.of_below hb gw v).trans hG⟩
theorem csignA (w : World) (lo hi gp gw ga gb : Nat) (v : Value) (b : Bs) (h : Pks w lo hi gp gw ga gb v b) (hN : b.N ≤ 1000000000) (s : Nat) (hs : s < 288) :
    Calls Tryd.prog 43 #[.pointer (some ⟨ga, 0, none⟩), .pointer (some ⟨gw, 0, none⟩), .int .i64 s] w fun e w' => e = .returned .nilIface ∧ ∃ v', Pks w' lo hi gp gw ga gb v' (sgB letters b s) ∧ Grew w w' gw v v' := by
  have k := letters_ok ⟨s, hs⟩
  refine (csign w lo hi ga letters h.ca (by rw [letters_len']; omega) gw v b h.pk.gwlt h.pk.wri hN s (by rw [letters_len']; exact hs) k.1 k.2.1 k.2.2).mono ?_
  rintro e w' ⟨rfl, v', hW, hG⟩
  exact ⟨rfl, v', h.step hW hG, hG⟩
theorem csignB (w : World) (lo hi gp gw ga gb : Nat) (v : Value) (b : Bs) (h : Pks w lo hi gp gw ga gb v b) (hN : b.N ≤ 1000000000) (s : Nat) (hs : s < 32) :
    Calls Tryd.prog 43 #[.pointer (some ⟨gb, 0, none⟩), .pointer (some ⟨gw, 0, none⟩), .int .i64 s] w fun e w' => e = .returned .nilIface ∧ ∃ v', Pks w' lo hi gp gw ga gb v' (sgB fixD b s) ∧ Grew w w' gw v v' := by
  have k := fixD_ok ⟨s, hs⟩
  refine (csign w lo hi gb fixD h.cb (by rw [fixD_len']; omega) gw v b h.pk.gwlt h.pk.wri hN s (by rw [fixD_len']; exact hs) k.1 k.2.1 k.2.2).mono ?_
  rintro e w' ⟨rfl, v', hW, hG⟩
  exact ⟨rfl, v', h.step hW hG, hG⟩
theorem pputs_calls (w : World) (lo hi gp gw ga gb : Nat) (v : Value) (b : Bs) (h : Pks w lo hi gp gw ga gb v b) (hN : b.N ≤ 1000000000) (x n : Nat) (hx : x < 2 ^ n) (hn : n ≤ 32) :
    Calls Tryd.prog 36 #[.pointer (some ⟨gp, 0, none⟩), .int .i64 x, .int .i64 n] w fun e w' => e = .returned (.tuple #[]) ∧ ∃ v', Pks w' lo hi gp gw ga gb v' (b.put x n) ∧ Grew w w' gw v v' := by
  refine (pput_calls w gp gw _ _ v b h.pk x n hx hn hN).mono ?_
  rintro e w' ⟨rfl, v', hW, hG⟩
  exact ⟨rfl, v', h.step hW hG, hG⟩

/-! ### A token -/
/-- The token's own box. -/
structure Box (w : World) (g : Nat) (k : Tk) : Prop where mk :: (out : w.heap[g]? = some (.cells #[.int .u8 k.b, .int .i64 k.l, .int .i64 k.d] 41 (0, 0)))
theorem Box.grew {w w1 : World} {g gw : Nat} {k : Tk} {v v1 : Value} {n : Nat} {B : Nat} {xs : List Value} (h : Box w g k) (hg : Grew w w1 gw v v1) (hne : g ≠ gw) (ho : w.ownsRow B 5 1 v n xs) : Box w1 g k := ⟨hg.obj h.out hne (own_ne ho h.out (by decide))⟩
theorem Box.cells {w : World} {g : Nat} {k : Tk} (h : Box w g k) : w.cell? ⟨g, 0, none⟩ = some (.int .u8 k.b) ∧ w.cell? ⟨g, 1, none⟩ = some (.int .i64 k.l) ∧ w.cell? ⟨g, 2, none⟩ = some (.int .i64 k.d) := by
  refine ⟨?_, ?_, ?_⟩ <;> (rw [blk_cell h.out]; rfl)
/-- What a call on the packer answers, over any world that grew out of this one. -/
def PkCall (F : FuncId) (args : Array Value) (r : Value) (w : World) (lo hi gp gw ga gb : Nat) (v : Value) (b : Bs) : Prop :=
  ∀ W, Below w.heap.size w W → Calls Tryd.prog F args W fun e w' => e = .returned r ∧ ∃ v', Pks w' lo hi gp gw ga gb v' b ∧ Grew w w' gw v v'
section
variable {w : World} {lo hi gp gw ga gb : Nat} {v : Value} {b : Bs}
theorem pk_signA (h : Pks w lo hi gp gw ga gb v b) (hN : b.N ≤ 1000000000) (s : Nat) (hs : s < 288) : PkCall 43 #[.pointer (some ⟨ga, 0, none⟩), .pointer (some ⟨gw, 0, none⟩), .int .i64 s] .nilIface w lo hi gp gw ga gb v (sgB letters b s) := fun W hb => by
  refine (csignA W lo hi gp gw ga gb v b (h.below hb) hN s hs).mono ?_
  rintro e w' ⟨rfl, v', hP, hG⟩
  exact ⟨rfl, v', hP, (Grew.of_below hb gw v).trans hG⟩
theorem pk_signB (h : Pks w lo hi gp gw ga gb v b) (hN : b.N ≤ 1000000000) (s : Nat) (hs : s < 32) : PkCall 43 #[.pointer (some ⟨gb, 0, none⟩), .pointer (some ⟨gw, 0, none⟩), .int .i64 s] .nilIface w lo hi gp gw ga gb v (sgB fixD b s) := fun W hb => by
  refine (csignB W lo hi gp gw ga gb v b (h.below hb) hN s hs).mono ?_
  rintro e w' ⟨rfl, v', hP, hG⟩
  exact ⟨rfl, v', hP, (Grew.of_below hb gw v).trans hG⟩
theorem pk_put (h : Pks w lo hi gp gw ga gb v b) (hN : b.N ≤ 1000000000) (x n : Nat) (hx : x < 2 ^ n) (hn : n ≤ 32) : PkCall 36 #[.pointer (some ⟨gp, 0, none⟩), .int .i64 x, .int .i64 n] (.tuple #[]) w lo hi gp gw ga gb v (b.put x n) := fun W hb => by
  refine (pputs_calls W lo hi gp gw ga gb v b (h.below hb) hN x n hx hn).mono ?_
  rintro e w' ⟨rfl, v', hP, hG⟩
  exact ⟨rfl, v', hP, (Grew.of_below hb gw v).trans hG⟩
theorem Pks.cells (h : Pks w lo hi gp gw ga gb v b) : w.cell? ⟨gp, 0, none⟩ = some (.pointer (some ⟨gw, 0, none⟩)) ∧ w.cell? ⟨gp, 1, none⟩ = some (.pointer (some ⟨ga, 0, none⟩)) ∧ w.cell? ⟨gp, 2, none⟩ = some (.pointer (some ⟨gb, 0, none⟩)) := ⟨h.pk.cells.1, h.pk.cells.2.1, h.pk.cells.2.2.1⟩
end
theorem sg_N1 (L : List Int) (b : Bs) (s : Nat) (h : L.getD s 0 ≤ 15) : (sgB L b s).N ≤ b.N + 15 := by show b.N + _ ≤ _; omega
set_option maxHeartbeats 2000000 in
theorem token_byte (w : World) (lo hi gp gw ga gb : Nat) (v : Value) (b : Bs) (h : Pks w lo hi gp gw ga gb v b) (hN : b.N ≤ 999999900) (k : Tk) (hk : TkOk k) (h0 : k.l = 0) :
    Calls Tryd.prog 42 #[.pointer (some ⟨gp, 0, none⟩), .agg #[.int .u8 k.b, .int .i64 k.l, .int .i64 k.d]] w fun e w' => e = .returned (.tuple #[]) ∧ ∃ v', Pks w' lo hi gp gw ga gb v' (tokB letters fixD b k) ∧ Grew w w' gw v v' := by
  obtain ⟨kb, kl, kd⟩ := k
  obtain ⟨z, hz⟩ := Int.eq_ofNat_of_zero_le hk.b.1
  have hz1 : (z : Int) < 256 := by have := hk.b.2; rw [hz] at this; exact this
  have hT : tokB letters fixD b ⟨kb, kl, kd⟩ = sgB letters b z := by unfold tokB; rw [if_pos h0]; show sgB letters b kb.toNat = _; rw [show kb = (z : Int) from hz, Int.toNat_natCast]
  rw [hT]
  simp only at hz h0
  subst hz h0
  show Calls Tryd.prog 42 #[.pointer (some ⟨gp, 0, none⟩), .agg #[.int .u8 (z : Int), .int .i64 0, .int .i64 kd]] w _
  have hb1 := below_alloc (Below.refl w.heap.size w) (.cells #[.int .u8 (z : Int), .int .i64 0, .int .i64 kd] 41)
  have HB := Aside0.mk (Grew.of_below hb1 gw v)
  have HP := Aside0.mk (h.below hb1)
  have hx : Box (w.alloc (.cells #[.int .u8 (z : Int), .int .i64 0, .int .i64 kd] 41)) w.heap.size ⟨(z : Int), 0, kd⟩ := ⟨alloc_self _ _⟩
  have HX := Aside0.mk hx
  have HN := Aside0.mk hN
  clear hT h hk hb1 hx hN
  go_enter Tryd.func42, Tryd.ntmps42
  go_upto_region 1 with fail
  generalize w.alloc (.cells #[.int .u8 (z : Int), .int .i64 0, .int .i64 kd] 41) = w1 at *
  generalize w.heap.size = gt at *
  obtain ⟨x0, x1, x2⟩ := HX.out.cells
  obtain ⟨c0, c1, c2⟩ := HP.out.cells
  have HS := Aside0.mk (pk_signA HP.out (by have := HN.out; omega) z (by omega))
  go_wp2_with fail
  go_still_tail 11, (by kernel_rfl)
  change wpList _ _ _ _ _ (World.drew _)
  go_wp2_with (first
    | (go_at_call 43; refine (HS.out _ (below_drew (Below.refl _ _))).mono ?_; rintro e w3 ⟨rfl, v', hW, hG⟩; have HW := Aside0.mk hW; have HG := Aside0.mk hG; clear hW hG)
    | (go_at_call 38; refine (pass_nil _).mono ?_; rintro e w4 ⟨rfl, rfl⟩))
  exact bodyPost_ret (results_none rfl _ _ _) rfl ⟨rfl, v', HW.out, HB.out.trans HG.out⟩
theorem Box.pk {w w1 : World} {lo hi gp gw ga gb g : Nat} {v v1 : Value} {b : Bs} {k : Tk} (h : Box w g k) (hp : Pks w lo hi gp gw ga gb v b) (hg : Grew w w1 gw v v1) : Box w1 g k := by
  refine h.grew hg ?_ hp.pk.wri.wr.row
  intro e
  have h1 := h.out
  rw [e, hp.pk.wri.wr.blk] at h1
  simp at h1
set_option maxHeartbeats 2000000 in
theorem token_match (w : World) (lo hi gp gw ga gb : Nat) (v : Value) (b : Bs) (h : Pks w lo hi gp gw ga gb v b) (hN : b.N ≤ 999999900) (k : Tk) (hk : TkOk k) (h0 : k.l ≠ 0) :
    Calls Tryd.prog 42 #[.pointer (some ⟨gp, 0, none⟩), .agg #[.int .u8 k.b, .int .i64 k.l, .int .i64 k.d]] w fun e w' => e = .returned (.tuple #[]) ∧ ∃ v', Pks w' lo hi gp gw ga gb v' (tokB letters fixD b k) ∧ Grew w w' gw v v' := by
  have hT : tokB letters fixD b k = (sgB fixD ((sgB letters b (lenS k.l).1).put (lenS k.l).2.1 (lenS k.l).2.2) (disS k.d).1).put (disS k.d).2.1 (disS k.d).2.2 := by unfold tokB; rw [if_neg h0]
  rw [hT]
  obtain ⟨hl0, hl1, hd0, hd1⟩ := hk.l.resolve_left h0
  have ls0 := (lenS_ok k.l hl0 hl1).s0
  have ls1 := (lenS_ok k.l hl0 hl1).s1
  have lm := (lenS_ok k.l hl0 hl1).m
  have lk := (lenS_ok k.l hl0 hl1).k
  have ds1 := (disS_ok k.d hd0 hd1).s1
  have dm := (disS_ok k.d hd0 hd1).m
  have dk := (disS_ok k.d hd0 hd1).k
  have HLen : Aside0 (∀ W, Calls Tryd.prog 66 #[.int .i64 k.l] W fun e w' => e = .returned (.tuple #[.int .i64 ((lenS k.l).1 : Nat), .int .i64 ((lenS k.l).2.1 : Nat), .int .i64 ((lenS k.l).2.2 : Nat)]) ∧ Below W.heap.size W w') := ⟨fun W => length_calls W k.l hl0 hl1⟩
  have HDis : Aside0 (∀ W, Calls Tryd.prog 67 #[.int .i64 k.d] W fun e w' => e = .returned (.tuple #[.int .i64 ((disS k.d).1 : Nat), .int .i64 ((disS k.d).2.1 : Nat), .int .i64 ((disS k.d).2.2 : Nat)]) ∧ Below W.heap.size W w') := ⟨fun W => distance_calls W k.d hd0 hd1⟩
  have hb1 := below_alloc (Below.refl w.heap.size w) (.cells #[.int .u8 k.b, .int .i64 k.l, .int .i64 k.d] 41)
  have HB := Aside0.mk (Grew.of_below hb1 gw v)
  have HP := Aside0.mk (h.below hb1)
  have hx : Box (w.alloc (.cells #[.int .u8 k.b, .int .i64 k.l, .int .i64 k.d] 41)) w.heap.size k := ⟨alloc_self _ _⟩
  have HX := Aside0.mk hx
  have HN := Aside0.mk hN
  have hz : ((k.l : Int) == 0) = false := by simp; exact h0
  have HFac := Aside0.mk (And.intro (And.intro ls0 (And.intro ls1 (And.intro lm lk))) (And.intro ds1 (And.intro dm dk)))
  clear hT h hk hb1 hx hN hl0 hl1 hd0 hd1 ls0 ls1 lm lk ds1 dm dk h0
  generalize (lenS k.l).1 = s1 at *
  generalize (lenS k.l).2.1 = m1 at *
  generalize (lenS k.l).2.2 = q1 at *
  generalize (disS k.d).1 = s2 at *
  generalize (disS k.d).2.1 = m2 at *
  generalize (disS k.d).2.2 = q2 at *
  go_enter Tryd.func42, Tryd.ntmps42
  go_upto_region 1 with fail
  generalize w.alloc (.cells #[.int .u8 k.b, .int .i64 k.l, .int .i64 k.d] 41) = w1 at *
  generalize w.heap.size = gt at *
  obtain ⟨x0, x1, x2⟩ := HX.out.cells
  go_wp2_with fail
  refine (HLen.out _).mono ?_
  rintro e w2 ⟨rfl, hb2⟩
  have HG2 := Aside0.mk (HB.out.trans (Grew.of_below hb2 gw v))
  have HX2 := Aside0.mk (HX.out.pk HP.out (Grew.of_below hb2 gw v))
  have HP2 := Aside0.mk (HP.out.below hb2)
  clear hb2 x0 x1 x2 HP HX HB
  obtain ⟨c0, c1, c2⟩ := HP2.out.cells
  have HS := Aside0.mk (pk_signA HP2.out (by have := HN.out; omega) s1 (by have := HFac.out; omega))
  go_wp2_with fail
  go_still_tail 9, (by kernel_rfl)
  change wpList _ _ _ _ _ (World.drew _)
  go_upto_region 5 with (first
    | (go_at_call 43; refine (HS.out _ (below_drew (Below.refl _ _))).mono ?_; rintro e w3 ⟨rfl, v3, hW, hG⟩; have HP3 := Aside0.mk hW; have HX3 := Aside0.mk (HX2.out.pk HP2.out hG); have HG3 := Aside0.mk (HG2.out.trans hG); clear hW hG)
    | (go_at_call 38; refine (pass_nil _).mono ?_; rintro e w4 ⟨rfl, rfl⟩))
  clear c0 c1 c2 HS
  have hn1 : Aside0 ((sgB letters b s1).N ≤ b.N + 15) := ⟨sg_N1 letters b s1 (by have := letters_ok ⟨s1, by have := HFac.out; omega⟩; exact this.2.1)⟩
  have HU := Aside0.mk (pk_put HP3.out (by have := hn1.out; have := HN.out; omega) m1 q1 HFac.out.1.2.2.1 (by have := HFac.out.1.2.2.2; omega))
  go_upto_region 6 with (go_at_call 36; refine (HU.out _ (Below.refl _ _)).mono ?_; rintro e w5 ⟨rfl, v5, hW, hG⟩; have HP5 := Aside0.mk hW; have HX5 := Aside0.mk (HX3.out.pk HP3.out hG); have HG5 := Aside0.mk (HG3.out.trans hG); clear hW hG)
  clear HU
  obtain ⟨x0, x1, x2⟩ := HX5.out.cells
  go_wp2_with fail
  refine (HDis.out _).mono ?_
  rintro e w6 ⟨rfl, hb6⟩
  have HG6 := Aside0.mk (HG5.out.trans (Grew.of_below hb6 gw v5))
  have HP6 := Aside0.mk (HP5.out.below hb6)
  clear hb6 x0 x1 x2
  obtain ⟨c0, c1, c2⟩ := HP6.out.cells
  have hn2 : Aside0 (((sgB letters b s1).put m1 q1).N ≤ b.N + 20) := ⟨by show (sgB letters b s1).N + q1 ≤ _; have := hn1.out; have := HFac.out.1.2.2.2; omega⟩
  have HS := Aside0.mk (pk_signB HP6.out (by have := hn2.out; have := HN.out; omega) s2 (by have := HFac.out; omega))
  go_wp2_with fail
  go_still_tail 9, (by kernel_rfl)
  change wpList _ _ _ _ _ (World.drew _)
  go_upto_region 8 with (first
    | (go_at_call 43; refine (HS.out _ (below_drew (Below.refl _ _))).mono ?_; rintro e w7 ⟨rfl, v7, hW, hG⟩; have HP7 := Aside0.mk hW; have HG7 := Aside0.mk (HG6.out.trans hG); clear hW hG)
    | (go_at_call 38; refine (pass_nil _).mono ?_; rintro e w8 ⟨rfl, rfl⟩))
  clear c0 c1 c2 HS
  have hn3 : Aside0 ((sgB fixD ((sgB letters b s1).put m1 q1) s2).N ≤ b.N + 35) := ⟨by have h1 := sg_N1 fixD ((sgB letters b s1).put m1 q1) s2 (by have := fixD_ok ⟨s2, by have := HFac.out; omega⟩; exact this.2.1); have := hn2.out; omega⟩
  have HU := Aside0.mk (pk_put HP7.out (by have := hn3.out; have := HN.out; omega) m2 q2 HFac.out.2.2.1 (by have := HFac.out.2.2.2; omega))
  go_wp2_with (go_at_call 36; refine (HU.out _ (Below.refl _ _)).mono ?_; rintro e w9 ⟨rfl, v9, hW, hG⟩; have HP9 := Aside0.mk hW; have HG9 := Aside0.mk (HG7.out.trans hG); clear hW hG)
  refine bodyPost_end (results_none rfl _ _ _) rfl ?_
  exact ⟨rfl, v9, HP9.out, HG9.out⟩
theorem token_calls (w : World) (lo hi gp gw ga gb : Nat) (v : Value) (b : Bs) (h : Pks w lo hi gp gw ga gb v b) (hN : b.N ≤ 999999900) (k : Tk) (hk : TkOk k) :
    Calls Tryd.prog 42 #[.pointer (some ⟨gp, 0, none⟩), .agg #[.int .u8 k.b, .int .i64 k.l, .int .i64 k.d]] w fun e w' => e = .returned (.tuple #[]) ∧ ∃ v', Pks w' lo hi gp gw ga gb v' (tokB letters fixD b k) ∧ Grew w w' gw v v' := by
  by_cases h0 : k.l = 0
  · exact token_byte w lo hi gp gw ga gb v b h hN k hk h0
  · exact token_match w lo hi gp gw ga gb v b h hN k hk h0
end Go.Proofs.YtiaiopdiooobiaaDoor.My

/- The walk of the packer's plain: a text as a block of kind 0. -/
namespace Go.Proofs.YtiaiopdiooobiaaDoor.My
open Go.RowKit Go.Proofs.YtiaiopdiooobiaaDoor.Huf Go.Proofs.YtiaiopdiooobiaaDoorW.PrintWords Go.Proofs.YtiaiopdiooobiaaDoorW.PrintLast Go.Proofs.YtiaiopdiooobiaaDoorW.PrintMore
set_option maxRecDepth 100000
set_option linter.unusedVariables false
set_option linter.unusedSimpArgs false

theorem Grew.under {B gw : Nat} {w0 w w1 : World} {v v1 : Value} {V N : Nat} (hG : Grew w w1 gw v v1) (hw : Writ w gw gw v V N) (h0 : Below B w0 w) (hB : B ≤ gw) : Below B w0 w1 := by
  have hl := blk_lt hw.wr.blk
  refine ⟨hG.os.trans h0.os, hG.tape.trans h0.tape, hG.output.trans h0.output, Nat.le_trans h0.size hG.keep.1, fun k hk => ?_⟩
  rw [hG.keep.2 k (by omega) (by omega) (fun e => by have := own_base hw.wr.row k e.symm; omega)]
  exact h0.block k hk
theorem slice_to8 (A : Option Addr) (n c a : Nat) (h : a ≤ c) (W : World) : (Instr.slice 22 (.slice A n c) none (some (.int .i64 a)) none).run Tryd.prog W = .ok (.slice A a c) W := by
  obtain ⟨i0, hi, hz⟩ := Option.map_eq_some_iff.1 info_u8
  simp only [Prod.mk.injEq] at hz
  have hel : Tryd.prog.elem 22 = 5 := by simp [Program.elem, Tryd.underlying22]
  have hu : Tryd.prog.underlying 22 = some (.slice (Tryd.prog.elem 22)) := by rw [hel]; exact Tryd.underlying22
  rw [run_slice_h W 22 A n c hu .i64 a (by omega) (by omega), hel]
  simp [sizeOf, typeInfo, hi, hz.2.1, sliced, Result.andThen]
  intro _
  cases A with
  | none => rfl
  | some ad => simp [Addr.add]
theorem slice_from8 (A : Option Addr) (n c a : Nat) (h : a ≤ n) (hc : n ≤ c) : ∃ A', ∀ W : World, (Instr.slice 22 (.slice A n c) (some (.int .i64 a)) none none).run Tryd.prog W = .ok (.slice A' (n - a) (c - a)) W := by
  obtain ⟨i0, hi, hz⟩ := Option.map_eq_some_iff.1 info_u8
  simp only [Prod.mk.injEq] at hz
  have hel : Tryd.prog.elem 22 = 5 := by simp [Program.elem, Tryd.underlying22]
  have hu : Tryd.prog.underlying 22 = some (.slice (Tryd.prog.elem 22)) := by rw [hel]; exact Tryd.underlying22
  refine ⟨if c = a then A else A.map (·.add a), fun W => ?_⟩
  rw [run_slice_l W 22 A n c hu .i64 a (by omega) (by omega), hel]
  simp [sizeOf, typeInfo, hi, hz.2.1, sliced, Result.andThen]
theorem xor_mask (n : Nat) (h : n ≤ 65535) : Go.bits .xor .i64 (n : Int) 65535 = ((65535 - n : Nat) : Int) := by
  have e : n ^^^ 65535 = 65535 - n := by
    apply Nat.eq_of_testBit_eq
    intro i
    have h1 : (65535 : Nat).testBit i = decide (i < 16) := by rw [show (65535 : Nat) = 2 ^ 16 - 1 from rfl]; exact Nat.testBit_two_pow_sub_one ..
    rw [Nat.testBit_xor, h1, show 65535 - n = 2 ^ 16 - (n + 1) by omega, Nat.testBit_two_pow_sub_succ (by omega)]
    by_cases hi : i < 16
    · simp [hi]
    · simp [hi]
      exact Nat.testBit_lt_two_pow (Nat.lt_of_lt_of_le (show n < 2 ^ 16 by omega) (Nat.pow_le_pow_right (by decide) (by omega)))
  have hl : n ^^^ 65535 < 2 ^ 63 := by rw [e]; omega
  show IntKind.i64.wrap ((BitVec.ofInt 64 (n : Int) ^^^ BitVec.ofInt 64 ((65535 : Nat) : Int)).toNat : Int) = _
  rw [BitVec.ofInt_natCast, BitVec.ofInt_natCast, BitVec.toNat_xor, BitVec.toNat_ofNat, BitVec.toNat_ofNat, Nat.mod_eq_of_lt (by omega), Nat.mod_eq_of_lt (by omega), IntWalk.i64_in _ ⟨by omega, by omega⟩, e]
/-- The bits of a block of kind 0. -/
def stB (t : List Int) : Bs := ⟨1 + t.length * 2 ^ 8 + (65535 - t.length) * 2 ^ 24 + ofB t * 2 ^ 40, 40 + 8 * t.length⟩
theorem st_b3 (n : Nat) (hn : n ≤ 65535) : (1 + n * 256 + (65535 - n) * 16777216) / 16777216 % 256 = 255 - n % 256 := by
  have : (1 + n * 256 + (65535 - n) * 16777216) / 16777216 = 65535 - n := by omega
  rw [this]; omega
theorem st_b4 (n : Nat) (hn : n ≤ 65535) : (1 + n * 256 + (65535 - n) * 16777216) / 4294967296 % 256 = 255 - n / 256 := by
  have : (1 + n * 256 + (65535 - n) * 16777216) / 16777216 = 65535 - n := by omega
  rw [show (4294967296 : Nat) = 16777216 * 256 from rfl, ← Nat.div_div_eq_div_mul, this]; omega
theorem st_leB (t : List Int) (ht : ∀ z ∈ t, 0 ≤ z ∧ z < 256) (hn : t.length ≤ 65535) : leB (stB t).V (((stB t).N + 7) / 8) = plainL t := by
  have hV : 1 + t.length * 2 ^ 8 + (65535 - t.length) * 2 ^ 24 < 2 ^ (8 * 5) := by omega
  have h := leB_app t (1 + t.length * 2 ^ 8 + (65535 - t.length) * 2 ^ 24) 5 ht hV
  have e1 : ((stB t).N + 7) / 8 = 5 + t.length := by show (40 + 8 * t.length + 7) / 8 = _; omega
  rw [e1]
  show leB (1 + t.length * 2 ^ 8 + (65535 - t.length) * 2 ^ 24 + ofB t * 2 ^ (8 * 5)) (5 + t.length) = _
  rw [h]
  unfold plainL
  congr 1
  generalize t.length = n at *
  simp only [leB, List.range_succ, List.range_zero, List.map_append, List.map_cons, List.map_nil, List.nil_append, List.cons_append, List.cons.injEq, and_true, Nat.reducePow, Nat.reduceMul]
  refine ⟨?_, ?_, ?_, ?_, ?_⟩ <;> first | omega | (refine congrArg (fun x : Nat => (x : Int)) ?_; first | exact st_b3 n hn | exact st_b4 n hn)
set_option maxHeartbeats 2000000 in
theorem plain_calls (w0 w : World) (gp gw : Nat) (pa pb v : Value) (h : Pk w gp gw pa pb v ⟨0, 0⟩) (hb0 : Below w0.heap.size w0 w) (hgw : w0.heap.size ≤ gw) (A : Option Addr) (n c : Nat) (t : List Int) (ht : (Kd.int .u8).C w0 A n t) (hc : n ≤ c) (hl : t.length = n) (hby : ∀ z ∈ t, 0 ≤ z ∧ z < 256) (hn : n ≤ 65535) :
    Calls Tryd.prog 26 #[.pointer (some ⟨gp, 0, none⟩), .slice A n c] w fun e w' => e = .returned (.tuple #[]) ∧ ∃ v', Pk w' gp gw pa pb v' (stB t) ∧ Grew w w' gw v v' := by
  have hn' : (n : Int) ≤ 65535 := by omega
  have hmin : min (n : Int) 65535 = (n : Int) := by omega
  have hxor := xor_mask n hn
  have hto : ∀ W : World, (Instr.slice 22 (.slice A n c) none (some (.int .i64 n)) none).run Tryd.prog W = .ok (.slice A n c) W := fun W => slice_to8 A n c n hc W
  obtain ⟨A', hfrom⟩ := slice_from8 A n c n (Nat.le_refl _) hc
  have heq : ((n : Int) == (n : Int)) = true := by simp
  have HP := Aside0.mk h
  have HB0 := Aside0.mk (And.intro hb0 hgw)
  have HT := Aside0.mk (And.intro ht (And.intro hl (And.intro hby hn)))
  have HU1 := Aside0.mk (pput_calls w gp gw pa pb v ⟨0, 0⟩ h 1 3 (by decide) (by decide) (by decide))
  clear h hb0 hgw ht hl hby hn hc
  go_enter Tryd.func26, Tryd.ntmps26
  go_wp2_with fail
  go_loopg [1] 0 (fun kq v1 wr => v1 = .slice A n c ∧ Aside0 (kq = 0) ∧ wr = w)
  case atStart => exact ⟨rfl, ⟨rfl⟩, rfl⟩
  case round =>
    obtain ⟨rfl, HK, rfl⟩ := hrel
    clear HK
    go_upto_region 5 with (go_at_call 36; refine HU1.out.mono ?_; rintro e w1 ⟨rfl, v1, hW, hG⟩; have HP1 := Aside0.mk (HP.out.step (b1 := ⟨1, 3⟩) hW hG); have HG1 := Aside0.mk hG; have HB1 := Aside0.mk (hG.under HP.out.wri HB0.out.1 HB0.out.2); clear hW hG)
    clear HU1
    obtain ⟨c0, c1, c2, _, _⟩ := HP1.out.cells
    have HU2 := Aside0.mk (align_calls w1 gw gw v1 1 3 HP1.out.gwlt HP1.out.wri (by decide))
    go_upto_region 6 with (go_at_call 37; refine HU2.out.mono ?_; rintro e w2 ⟨rfl, v2, hW, hG⟩; have HP2 := Aside0.mk (HP1.out.step (b1 := ⟨1, 8⟩) hW hG); have HG2 := Aside0.mk (HG1.out.trans hG); have HB2 := Aside0.mk (hG.under HP1.out.wri HB1.out HB0.out.2); clear hW hG)
    clear HU2 c0 c1 c2
    have HU3 := Aside0.mk (pput_calls w2 gp gw pa pb v2 ⟨1, 8⟩ HP2.out n 16 (by have := HT.out; omega) (by decide) (by decide))
    go_upto_region 7 with (go_at_call 36; refine HU3.out.mono ?_; rintro e w3 ⟨rfl, v3, hW, hG⟩; have HP3 := Aside0.mk (HP2.out.step (b1 := ⟨1 + n * 2 ^ 8, 24⟩) hW hG); have HG3 := Aside0.mk (HG2.out.trans hG); have HB3 := Aside0.mk (hG.under HP2.out.wri HB2.out HB0.out.2); clear hW hG)
    clear HU3
    have HU4 := Aside0.mk (pput_calls w3 gp gw pa pb v3 ⟨1 + n * 2 ^ 8, 24⟩ HP3.out (65535 - n) 16 (by omega) (by decide) (show 24 ≤ _ by decide))
    go_upto_region 8 with (go_at_call 36; refine HU4.out.mono ?_; rintro e w4 ⟨rfl, v4, hW, hG⟩; have HP4 := Aside0.mk (HP3.out.step (b1 := ⟨1 + n * 2 ^ 8 + (65535 - n) * 2 ^ 24, 40⟩) hW hG); have HG4 := Aside0.mk (HG3.out.trans hG); have HB4 := Aside0.mk (hG.under HP3.out.wri HB3.out HB0.out.2); clear hW hG)
    clear HU4
    obtain ⟨c0, c1, c2, _, _⟩ := HP4.out.cells
    have HU5 : Aside0 (∀ W, Below w4.heap.size w4 W → Calls Tryd.prog 39 #[.pointer (some ⟨gw, 0, none⟩), .slice A n c] W fun e w' => e = .returned .nilIface ∧ ∃ v', Writ w' gw gw v' (stB t).V (stB t).N ∧ Grew w4 w' gw v4 v') := ⟨fun W hb => by
      have hP := HP4.out.below hb
      refine (wbytes_calls W gw gw v4 _ _ A n c t hP.gwlt hP.wri (by show 40 % 8 = 0; decide) (by show 40 ≤ _; decide) (Kd.C_below (Kd.C_below HT.out.1 HB4.out) hb) HT.out.2.1 (by have := HT.out.2.2.2; omega) HT.out.2.2.1).mono ?_
      rintro e w' ⟨rfl, v', hW, hG⟩
      refine ⟨rfl, v', ?_, (Grew.of_below hb gw v4).trans hG⟩
      unfold stB
      rw [HT.out.2.1]
      exact hW⟩
    go_wp2_with fail
    go_still_tail 7, (by kernel_rfl)
    change wpList _ _ _ _ _ (World.drew _)
    go_wp2_with (first
      | (go_at_call 39; refine (HU5.out _ (below_drew (Below.refl _ _))).mono ?_; rintro e w5 ⟨rfl, v5, hW, hG⟩; have HP5 := Aside0.mk (HP4.out.step (b1 := stB t) hW hG); have HG5 := Aside0.mk (HG4.out.trans hG); clear hW hG)
      | (go_at_call 38; refine (pass_nil _).mono ?_; rintro e w8 ⟨rfl, rfl⟩))
    exact bodyPost_ret (results_none rfl _ _ _) rfl ⟨rfl, v5, HP5.out, HG5.out⟩
end Go.Proofs.YtiaiopdiooobiaaDoor.My

/- Slices of slices of numbers: the run of 'xs[a:b]', what it reads as, and that it is nil only where it is empty. -/
namespace Go.Proofs.YtiaiopdiooobiaaDoor.My
open Go.RowKit Go.Proofs.YtiaiopdiooobiaaDoorW.PrintWords Go.Proofs.YtiaiopdiooobiaaDoorW.PrintLast Go.Proofs.YtiaiopdiooobiaaDoorW.PrintMore
set_option maxRecDepth 100000

theorem cut_mid {P : Program} {k : IntKind} (t e : TypeId) {i : TypeInfo} (ht : P.underlying t = some (.slice e)) (hi : P.info? e = some i) (hsz : i.size = 1) (A : Option Addr) (n c : Nat) (xs : List Int) (a b : Nat) (h1 : a ≤ b) (hm : b ≤ n) (hl : xs.length = n) (hc : n ≤ c) (hcap : A = none → n = 0 ∧ c = 0) :
    ∃ A' : Option Addr, (∀ (kl kh : IntKind) (W : World), (Instr.slice t (.slice A n c) (some (.int kl a)) (some (.int kh b)) none).run P W = .ok (.slice A' (b - a) (c - a)) W) ∧
      (∀ w : World, (Kd.int k).C w A n xs → (Kd.int k).C w A' (b - a) ((xs.take b).drop a)) ∧ (A' = none → b - a = 0 ∧ c - a = 0) := by
  subst hl
  have hlt : (xs.take b).length = b := by rw [List.length_take]; omega
  have hll : ((xs.take b).drop a).length = b - a := by rw [List.length_drop, hlt]
  refine ⟨if c = a then A else A.map (·.add a), fun kl kh W => ?_, fun w h => ?_, fun h => ?_⟩
  · have hel : P.elem t = e := by simp [Program.elem, ht]
    have hu : P.underlying t = some (.slice (P.elem t)) := by rw [hel]; exact ht
    rw [run_slice_lh W t A xs.length c hu kl kh a b (by omega) (by omega) (by omega), hel]
    simp [sizeOf, typeInfo, hi, hsz, sliced, Result.andThen]
  · have h2 := (ReadsOf.take_ (d := (0 : Int)) (reads_of_C h) b (by omega)).drop_ (c := c) a (by omega) (by omega)
    rw [← hll]
    refine Kd.C_of_reads (d := 0) ?_
    rw [hll]
    exact h2
  · by_cases e : c = a
    · rw [if_pos e] at h
      have := hcap h
      omega
    · rw [if_neg e] at h
      have hA : A = none := by cases A with
        | none => rfl
        | some x => simp at h
      have := hcap hA
      omega
end Go.Proofs.YtiaiopdiooobiaaDoor.My

/- The walks of deflate's finder. -/
namespace Go.Proofs.YtiaiopdiooobiaaDoor.My
open Go.RowKit Go.Proofs.YtiaiopdiooobiaaDoorW.PrintWords Go.Proofs.YtiaiopdiooobiaaDoorW.PrintLast Go.Proofs.YtiaiopdiooobiaaDoorW.PrintMore
set_option maxRecDepth 100000
set_option linter.unusedVariables false
set_option linter.unusedSimpArgs false

/-- A finder at a block: its text, of each hash the last place, of each place the one ahead. -/
structure Fnd (w : World) (B g gb : Nat) (A : Option Addr) (c : Nat) (t last back : List Int) : Prop where
  blk : w.heap[g]? = some (.cells (.slice A t.length c :: (nums .i64 last ++ [.slice (some ⟨gb, 0, none⟩) t.length t.length])).toArray 47 (0, 0))
  len : last.length = 4096
  txt : (Kd.int .u8).C w A t.length t
  row : w.ownsRow B 3 1 (.slice (some ⟨gb, 0, none⟩) t.length t.length) t.length (nums .i64 back)
  bg : B ≤ g
theorem Fnd.c0 {w : World} {B g gb : Nat} {A : Option Addr} {c : Nat} {t last back : List Int} (k : Fnd w B g gb A c t last back) : w.cell? ⟨g, 0, none⟩ = some (.slice A t.length c) := by
  rw [blk_cell k.blk]; rfl
theorem Fnd.cl {w : World} {B g gb : Nat} {A : Option Addr} {c : Nat} {t last back : List Int} (k : Fnd w B g gb A c t last back) (h : Nat) (hh : h < 4096) : w.cell? ⟨g, 1 + h, none⟩ = some (.int .i64 (last.getD h 0)) := by
  have hl := k.len
  rw [blk_cell k.blk, Nat.add_comm 1 h]
  simp only [List.getElem?_toArray, List.getElem?_cons_succ]
  rw [List.getElem?_append_left (by rw [nums_length]; omega)]
  simp [nums, List.getD_eq_getElem?_getD, List.getElem?_eq_getElem (show h < last.length by omega)]
theorem Fnd.cb {w : World} {B g gb : Nat} {A : Option Addr} {c : Nat} {t last back : List Int} (k : Fnd w B g gb A c t last back) : w.cell? ⟨g, 4097, none⟩ = some (.slice (some ⟨gb, 0, none⟩) t.length t.length) := by
  have hl := k.len
  rw [blk_cell k.blk]
  simp only [List.getElem?_toArray, List.getElem?_cons_succ]
  rw [List.getElem?_append_right (by rw [nums_length]; omega), nums_length, hl]
  rfl
theorem Fnd.drewN {w : World} {B g gb : Nat} {A : Option Addr} {c : Nat} {t last back : List Int} (k : Fnd w B g gb A c t last back) (n : Nat) : Fnd (w.drewN n) B g gb A c t last back := ⟨k.blk, k.len, Kd.C_drewN k.txt n, k.row, k.bg⟩
theorem byte_at {w : World} {A : Option Addr} {n : Nat} {t : List Int} (h : (Kd.int .u8).C w A n t) (i : Nat) (hi : i < n) : ∃ ad, A = some ad ∧ w.cell? (ad.add i) = some (.int .u8 (t.getD i 0)) := by
  obtain ⟨ad, e, hc⟩ := Kd.at_int h (i : Int) (by omega) (by omega)
  rw [Int.toNat_natCast] at hc
  exact ⟨ad, e, by simpa [rd] using hc⟩

set_option maxRecDepth 100000 in
theorem hash_calls (w : World) (B g gb : Nat) (A : Option Addr) (c : Nat) (t last back : List Int) (i : Nat) (k : Fnd w B g gb A c t last back) (hi : i + 3 ≤ t.length) (hn : t.length ≤ 1000000000) :
    Calls Tryd.prog 22 #[.pointer (some ⟨g, 0, none⟩), .int .i64 i] w fun e w' => e = .returned (.int .i64 (hsh t i)) ∧ ∃ m, w' = w.drewN m := by
  have c0 := k.c0
  obtain ⟨ad, rfl, b0⟩ := byte_at k.txt i (by omega)
  obtain ⟨ad', e1, b1⟩ := byte_at k.txt (i + 1) (by omega)
  cases e1
  obtain ⟨ad', e1, b2⟩ := byte_at k.txt (i + 2) (by omega)
  cases e1
  unfold hsh
  generalize t.getD i 0 = x at *
  generalize t.getD (i + 1) 0 = y at *
  generalize t.getD (i + 2) 0 = z at *
  have h1 : (i : Int) + 1 < ((t.length : Nat) : Int) := by omega
  have h2 : (i : Int) + 2 < ((t.length : Nat) : Int) := by omega
  have h0 : (i : Int) < ((t.length : Nat) : Int) := by omega
  have h3 : (i : Int) ≤ 1000000000 := by omega
  generalize t.length = n at *
  clear k hi
  go_enter Tryd.func22, Tryd.ntmps22
  have w1 : IntKind.i64.wrap ((i : Int) + 1) = (i : Int) + 1 := by rw [IntKind.wrap_i64]; omega
  have w2 : IntKind.i64.wrap ((i : Int) + 2) = (i : Int) + 2 := by rw [IntKind.wrap_i64]; omega
  have w3 : (0 : Int) ≤ (i : Int) + 1 := by omega
  have w4 : (0 : Int) ≤ (i : Int) + 2 := by omega
  have b1' : w.cell? ⟨ad.block, ad.off + (i + 1), none⟩ = some (.int .u8 y) := b1
  have b2' : w.cell? ⟨ad.block, ad.off + (i + 1 + 1), none⟩ = some (.int .u8 z) := b2
  have b2'' : w.cell? ⟨ad.block, ad.off + (i + 2), none⟩ = some (.int .u8 z) := b2
  have b2a : w.cell? (ad.add (i + 1 + 1)) = some (.int .u8 z) := b2
  go_wp2_with fail
  go_region
  go_wp2_with fail
  go_ret
  first
    | exact ⟨rfl, _, rfl⟩
    | exact ⟨rfl, 1, rfl⟩

set_option maxRecDepth 100000 in
theorem alike_calls (w : World) (B g gb : Nat) (A : Option Addr) (c : Nat) (t last back : List Int) (p a : Nat) (k : Fnd w B g gb A c t last back) (hp : p < a) (ha : a ≤ t.length) (hn : t.length ≤ 1000000000) :
    Calls Tryd.prog 23 #[.pointer (some ⟨g, 0, none⟩), .int .i64 p, .int .i64 a] w fun e w' => e = .returned (.int .i64 (alk t p a)) ∧ ∃ m, w' = w.drewN m := by
  have c0 := k.c0
  have HT := Aside0.mk k.txt
  have h3 : (a : Int) ≤ 1000000000 := by omega
  have h4 : (p : Int) ≤ 1000000000 := by omega
  have HP := Aside0.mk (show p < a ∧ a ≤ t.length from ⟨hp, ha⟩)
  obtain ⟨R, hR⟩ : ∃ R, R = alk t p a := ⟨_, rfl⟩
  rw [← hR]
  have HR := Aside0.mk hR
  have HN := Aside0.mk hn
  clear k hp ha hR hn
  go_enter Tryd.func23, Tryd.ntmps23
  go_wp2_with fail
  go_loopg [7] 258 (fun kq v7 wr => ∃ n : Nat, v7 = .int .i64 n ∧ n ≤ 258 ∧ Aside0 (kq = 258 - n ∧ alkL t p a (258 - n) n = R) ∧ Aside0 (∃ m, wr = w.drewN m))
  case atStart => exact ⟨0, rfl, Nat.zero_le _, ⟨rfl, HR.out.symm⟩, ⟨0, (World.drewN_zero _).symm⟩⟩
  case round =>
    obtain ⟨n, rfl, hn, HK, HM⟩ := hrel
    obtain ⟨m, rfl⟩ := HM.out
    have b1 : (n : Int) ≤ 258 := by omega
    have e1 : IntKind.i64.wrap ((a : Int) + (n : Int)) = (a : Int) + (n : Int) := by rw [IntKind.wrap_i64]; omega
    have e2 : IntKind.i64.wrap ((p : Int) + (n : Int)) = (p : Int) + (n : Int) := by rw [IntKind.wrap_i64]; omega
    have hlen : ((t.length : Nat) : Int) ≤ 1000000000 := by have := HN.out; omega
    by_cases hlt : n < 258
    · have d1 : decide ((n : Int) < 258) = true := by simp; omega
      obtain ⟨f, hf⟩ : ∃ f, 258 - n = f + 1 := ⟨258 - n - 1, by omega⟩
      have hk := HK.out.2
      rw [hf, alkL] at hk
      by_cases hin : a + n < t.length
      · have d2 : decide ((a : Int) + (n : Int) < ((t.length : Nat) : Int)) = true := by simp; omega
        obtain ⟨ad, rfl, x1⟩ := byte_at HT.out (p + n) (by have := HP.out; omega)
        obtain ⟨ad', e3, x2⟩ := byte_at HT.out (a + n) hin
        cases e3
        have g1 : (0 : Int) ≤ (a : Int) + (n : Int) := by omega
        have g2 : (a : Int) + (n : Int) < ((t.length : Nat) : Int) := by omega
        have g3 : (0 : Int) ≤ (p : Int) + (n : Int) := by omega
        have g4 : (p : Int) + (n : Int) < ((t.length : Nat) : Int) := by have := HP.out; omega
        by_cases heq : t.getD (p + n) 0 = t.getD (a + n) 0
        · rw [if_pos ⟨hin, heq⟩] at hk
          rw [heq] at x1
          generalize t.getD (a + n) 0 = z at *
          have d3 : (z == z) = true := by simp
          have HH := Aside0.mk (show 258 - (n + 1) = f ∧ n + 1 ≤ 258 ∧ n < 258 by omega)
          have HKK := Aside0.mk hk
          generalize t.length = L at *
          clear hk heq hin hlt hf hn
          go_wp2_with fail
          go_region
          go_wp2_with fail
          go_roundg (gk - 1)
          case measure => have := HK.out.1; have := HH.out; omega
          case rel => exact ⟨n + 1, by go_num, HH.out.2.1, ⟨by have := HK.out.1; have := HH.out; omega, by rw [HH.out.1]; exact HKK.out⟩, ⟨_, rfl⟩⟩
        · rw [if_neg (fun h => heq h.2)] at hk
          have d3 : (t.getD (p + n) 0 == t.getD (a + n) 0) = false := beq_eq_false_iff_ne.2 heq
          have HF := Aside0.mk hk
          generalize t.getD (p + n) 0 = z at *
          generalize t.getD (a + n) 0 = z' at *
          generalize t.length = L at *
          clear hk heq hin hlt hf hn
          go_wp2_with fail
          go_region
          go_wp2_with fail
          go_ret
          first
            | exact ⟨by rw [HF.out]; rfl, _, rfl⟩
            | exact ⟨by rw [HF.out]; rfl, m + 1, rfl⟩
      · have d2 : decide ((a : Int) + (n : Int) < ((t.length : Nat) : Int)) = false := by simp; omega
        rw [if_neg (fun h => hin h.1)] at hk
        have HF := Aside0.mk hk
        generalize t.length = L at *
        clear hk hin hlt hf hn
        go_wp2_with fail
        go_region
        go_wp2_with fail
        go_ret
        first
          | exact ⟨by rw [HF.out]; rfl, _, rfl⟩
          | exact ⟨by rw [HF.out]; rfl, m + 1, rfl⟩
    · have d1 : decide ((n : Int) < 258) = false := by simp; omega
      have hk := HK.out.2
      rw [show 258 - n = 0 by omega] at hk
      have HF : Aside0 (n = R) := ⟨hk⟩
      generalize t.length = L at *
      clear hk hlt hn
      go_wp2_with fail
      go_region
      go_wp2_with fail
      go_ret
      first
        | exact ⟨by rw [HF.out]; rfl, _, rfl⟩
        | exact ⟨by rw [HF.out]; rfl, m + 1, rfl⟩

/-- What a call on a finder has turned: its block, its row of places. -/
structure Moved (w w' : World) (g gb : Nat) : Prop where
  os : w'.os = w.os
  tape : w'.tape = w.tape
  output : w'.output = w.output
  size : w.heap.size ≤ w'.heap.size
  blk : ∀ i, i < w.heap.size → i ≠ g → i ≠ gb → w'.heap[i]? = w.heap[i]?
theorem Moved.refl (w : World) (g gb : Nat) : Moved w w g gb := ⟨rfl, rfl, rfl, Nat.le_refl _, fun _ _ _ _ => rfl⟩
theorem Moved.trans {w w1 w2 : World} {g gb : Nat} (h : Moved w w1 g gb) (k : Moved w1 w2 g gb) : Moved w w2 g gb :=
  ⟨k.os.trans h.os, k.tape.trans h.tape, k.output.trans h.output, Nat.le_trans h.size k.size, fun i hi h1 h2 => (k.blk i (Nat.lt_of_lt_of_le hi h.size) h1 h2).trans (h.blk i hi h1 h2)⟩
theorem Moved.drewN {w w1 : World} {g gb : Nat} (h : Moved w w1 g gb) (n : Nat) : Moved w (w1.drewN n) g gb := ⟨h.os, h.tape, h.output, h.size, h.blk⟩
theorem Moved.drew {w w1 : World} {g gb : Nat} (h : Moved w w1 g gb) : Moved w w1.drew g gb := ⟨h.os, h.tape, h.output, h.size, h.blk⟩
theorem Moved.set {w w1 : World} {g gb : Nat} (h : Moved w w1 g gb) (p : Addr) (u : Value) (hp : p.block = g ∨ p.block = gb) : Moved w (w1.setCell p u) g gb :=
  ⟨h.os, h.tape, h.output, by simpa [World.setCell] using h.size, fun i hi h1 h2 => (Below.heap_setCell w1 p u i (by rcases hp with e | e <;> omega)).trans (h.blk i hi h1 h2)⟩
theorem Moved.below {w0 w w1 : World} {B g gb : Nat} (h : Moved w w1 g gb) (hb : Below B w0 w) (hB : B ≤ w.heap.size) (h1 : B ≤ g) (h2 : B ≤ gb) : Below B w0 w1 :=
  ⟨h.os.trans hb.os, h.tape.trans hb.tape, h.output.trans hb.output, Nat.le_trans hb.size h.size, fun k hk => (h.blk k (by omega) (by omega) (by omega)).trans (hb.block k hk)⟩
theorem Fnd.below {w w1 : World} {B g gb : Nat} {A : Option Addr} {c : Nat} {t last back : List Int} (k : Fnd w B g gb A c t last back) (h : Below w.heap.size w w1) : Fnd w1 B g gb A c t last back :=
  ⟨blk_below k.blk h, k.len, Kd.C_below k.txt h, pw_own_below k.row h, k.bg⟩
theorem Fnd.ne {w : World} {B g gb : Nat} {A : Option Addr} {c : Nat} {t last back : List Int} (k : Fnd w B g gb A c t last back) : g ≠ gb := fun e => own_ne k.row k.blk (by decide) (by rw [e]; rfl)
theorem add_blk (ad : Addr) (j : Nat) : (ad.add j).block = ad.block := by
  unfold Addr.add
  split <;> rfl
/-- A place is made known. -/
theorem Fnd.stored {w : World} {B g gb : Nat} {A : Option Addr} {c : Nat} {t last back : List Int} (k : Fnd w B g gb A c t last back) (a H : Nat) (x y : Int) (hH : H < 4096)
    (htx : ∀ ad, A = some ad → ad.block ≠ g ∧ ad.block ≠ gb) : Fnd ((w.setCell ⟨gb, a, none⟩ (.int .i64 x)).setCell ⟨g, 1 + H, none⟩ (.int .i64 y)) B g gb A c t (last.set H y) (back.set a x) := by
  have hl := k.len
  have h1 := (own_store k.row (a : Int) x).1
  rw [Int.toNat_natCast] at h1
  refine ⟨?_, by rw [List.length_set]; exact hl, ?_, own_setCell h1 (fun e => own_ne k.row k.blk (by decide) e) _, k.bg⟩
  · refine blk_put (blk_far k.blk k.ne _) (1 + H) _ ?_
    simp only [List.setIfInBounds_toArray, Nat.add_comm 1 H, List.set_cons_succ]
    congr 2
    rw [List.set_append_left _ _ (by rw [nums_length]; omega)]
    simp [nums, List.map_set]
  · refine Kd.C_of_reads (d := 0) ?_
    obtain ⟨e1, e2, e3⟩ := Kd.reads_of_C (d := 0) k.txt
    refine ⟨e1, e2, fun hn => ?_⟩
    obtain ⟨ad, rfl, hc⟩ := e3 hn
    refine ⟨ad, rfl, fun j hj => ?_⟩
    have := htx ad rfl
    refine (World.cell?_setCell_other _ _ _ _ ?_).trans ((World.cell?_setCell_other _ _ _ _ ?_).trans (hc j hj))
    · intro e
      have e1 := congrArg Addr.block e
      rw [add_blk] at e1
      simp only at e1
      omega
    · intro e
      have e1 := congrArg Addr.block e
      rw [add_blk] at e1
      simp only at e1
      omega
end Go.Proofs.YtiaiopdiooobiaaDoor.My

/- The walks of deflate's finder: find and add. -/
namespace Go.Proofs.YtiaiopdiooobiaaDoor.My
open Go.RowKit Go.Proofs.YtiaiopdiooobiaaDoorW.PrintWords Go.Proofs.YtiaiopdiooobiaaDoorW.PrintLast Go.Proofs.YtiaiopdiooobiaaDoorW.PrintMore
set_option maxRecDepth 100000
set_option linter.unusedVariables false
set_option linter.unusedSimpArgs false

theorem hsh_nat (t : List Int) (i : Nat) : ∃ H : Nat, hsh t i = (H : Int) ∧ H < 4096 := by
  have := hv_lt (t.getD i 0) (t.getD (i + 1) 0) (t.getD (i + 2) 0)
  refine ⟨(hsh t i).toNat, ?_, ?_⟩ <;> unfold hsh <;> omega
/-- What the finder knows ahead of a place. -/
structure Knows (t last back : List Int) (a : Nat) : Prop where
  last : ∀ H : Nat, H < 4096 → last.getD H 0 = ((prv t (H : Int) a : Nat) : Int)
  back : ∀ y, y < a → y + 3 ≤ t.length → back.getD y 0 = ((prv t (hsh t y) y : Nat) : Int)
theorem Knows.more {t last back : List Int} {a : Nat} (k : Knows t last back a) (H : Nat) (hH : hsh t a = (H : Int)) (h4 : H < 4096) (ha : a + 3 ≤ t.length) (hl : last.length = 4096) (hb : back.length = t.length) :
    Knows t (last.set H ((a : Int) + 1)) (back.set a (last.getD H 0)) (a + 1) := by
  refine ⟨fun H' h' => ?_, fun y hy hy3 => ?_⟩
  · unfold prv
    by_cases e : H' = H
    · subst e
      rw [if_pos ⟨ha, hH⟩]
      simp [List.getD_eq_getElem?_getD, hl, h']
    · rw [if_neg (fun h => e (by omega)), ← k.last H' h']
      simp [List.getD_eq_getElem?_getD, List.getElem?_set, Ne.symm e]
  · by_cases e : y = a
    · subst e
      rw [hH, ← k.last H h4]
      simp [List.getD_eq_getElem?_getD, hb, show y < t.length by omega]
    · rw [← k.back y (by omega) hy3]
      simp [List.getD_eq_getElem?_getD, List.getElem?_set, Ne.symm e]
theorem Knows.same {t last back : List Int} {a : Nat} (k : Knows t last back a) (ha : ¬ a + 3 ≤ t.length) : Knows t last back (a + 1) := by
  refine ⟨fun H h => ?_, fun y hy hy3 => k.back y (by omega) hy3⟩
  unfold prv
  rw [if_neg (fun h => ha h.1)]
  exact k.last H h

set_option maxHeartbeats 1000000 in
set_option maxRecDepth 100000 in
theorem add_calls (w : World) (B g gb : Nat) (A : Option Addr) (c : Nat) (t last back : List Int) (a : Nat) (k : Fnd w B g gb A c t last back) (ha : a < t.length) (hn : t.length ≤ 1000000000) (hk : Knows t last back a) (htx : ∀ ad, A = some ad → ad.block ≠ g ∧ ad.block ≠ gb) (hbl : back.length = t.length) :
    Calls Tryd.prog 13 #[.pointer (some ⟨g, 0, none⟩), .int .i64 a] w fun e w' => e = .returned (.tuple #[]) ∧ ∃ last' back', Fnd w' B g gb A c t last' back' ∧ Knows t last' back' (a + 1) ∧ back'.length = t.length ∧ Moved w w' g gb := by
  have c0 := k.c0
  have h3 : (a : Int) ≤ 1000000000 := by omega
  have hlen : ((t.length : Nat) : Int) ≤ 1000000000 := by omega
  by_cases h : a + 3 ≤ t.length
  · obtain ⟨H, hH, h4⟩ := hsh_nat t a
    have HM := Aside0.mk (hk.more H hH h4 h k.len hbl)
    have HH : Aside0 (Calls Tryd.prog 22 #[.pointer (some ⟨g, 0, none⟩), .int .i64 a] w fun e w' => e = .returned (.int .i64 H) ∧ ∃ m, w' = w.drewN m) := ⟨hH ▸ hash_calls w B g gb A c t last back a k h hn⟩
    have d1 : decide ((a : Int) + 3 ≤ ((t.length : Nat) : Int)) = true := by simp; omega
    have d2 : (a : Int) + 3 ≤ ((t.length : Nat) : Int) := by omega
    have cl := k.cl H h4
    have cb := k.cb
    obtain ⟨ck, fk⟩ := own_at k.row (a : Int) (by omega) (by omega)
    rw [Int.toNat_natCast] at ck fk
    have fg := blk_frozen k.blk (1 + H)
    have hne := k.ne
    have HS := Aside0.mk (fun m => (k.drewN m).stored a H (last.getD H 0) ((a : Int) + 1) h4 htx)
    have HMv := Aside0.mk (fun m => (((Moved.refl w g gb).drewN m).set ⟨gb, a, none⟩ (.int .i64 (last.getD H 0)) (.inr rfl)).set ⟨g, 1 + H, none⟩ (.int .i64 ((a : Int) + 1)) (.inl rfl))
    have HBL : Aside0 ((back.set a (last.getD H 0)).length = t.length) := ⟨by rw [List.length_set]; exact hbl⟩
    have b4 : (H : Int) < 4096 := by omega
    have b5 : (a : Int) < ((t.length : Nat) : Int) := by omega
    generalize last.getD H 0 = x at *
    generalize rd back (a : Int) = y at *
    clear k hk htx h ha hn hH h4 hbl
    go_enter Tryd.func13, Tryd.ntmps13
    go_wp2_with (go_at_call 22; refine HH.out.mono ?_; rintro e w' ⟨rfl, m, rfl⟩)
    go_region
    all_goals (first | go_wp2_with fail | skip)
    refine bodyPost_end (results_none rfl _ _ _) rfl ?_
    exact ⟨rfl, _, _, HS.out _, HM.out, HBL.out, HMv.out _⟩
  · have HM := Aside0.mk (hk.same h)
    have d1 : decide ((a : Int) + 3 ≤ ((t.length : Nat) : Int)) = false := by simp; omega
    have d2 : ((t.length : Nat) : Int) < (a : Int) + 3 := by omega
    have HK := Aside0.mk k
    have HBL := Aside0.mk hbl
    clear k hk htx h ha hn hbl
    go_enter Tryd.func13, Tryd.ntmps13
    go_wp2_with fail
    refine bodyPost_end (results_none rfl _ _ _) rfl ?_
    first
      | exact ⟨rfl, last, back, HK.out, HM.out, HBL.out, Moved.refl _ _ _⟩
      | exact ⟨rfl, last, back, HK.out.drewN 1, HM.out, HBL.out, (Moved.refl _ _ _).drewN 1⟩

theorem new2 (w : World) (o o' : Obj) : ((w.alloc o).alloc o').heap[w.heap.size + 1]? = some o' := by
  have := alloc_self (w.alloc o) o'
  simpa using this
/-- A token as a value. -/
def tkV (b : Int) (l d : Nat) : Value := .agg #[.int .u8 b, .int .i64 l, .int .i64 d]
set_option maxHeartbeats 4000000 in
set_option maxRecDepth 100000 in
theorem find_calls (w : World) (B g gb : Nat) (A : Option Addr) (c : Nat) (t last back : List Int) (a : Nat) (k : Fnd w B g gb A c t last back) (ha : a < t.length) (hn : t.length ≤ 1000000000) (hk : Knows t last back a) :
    Calls Tryd.prog 12 #[.pointer (some ⟨g, 0, none⟩), .int .i64 a] w fun e w' => e = .returned (tkV 0 (scan t a a 0 0 0).1 (scan t a a 0 0 0).2) ∧ Below w.heap.size w w' := by
  have c0 := k.c0
  have h3 : (a : Int) ≤ 1000000000 := by omega
  have hlen : ((t.length : Nat) : Int) ≤ 1000000000 := by omega
  by_cases h : a + 3 ≤ t.length
  · obtain ⟨H, hH, h4⟩ := hsh_nat t a
    have HF := Aside0.mk k
    have HK := Aside0.mk hk
    have HH : Aside0 (∀ w1 m, Below w.heap.size w w1 → Calls Tryd.prog 22 #[.pointer (some ⟨g, 0, none⟩), .int .i64 a] (w1.drewN m) fun e w' => e = .returned (.int .i64 H) ∧ ∃ k, w' = (w1.drewN m).drewN k) := ⟨fun w1 m hb => hH ▸ hash_calls _ B g gb A c t last back a ((k.below hb).drewN m) h hn⟩
    have HAl : Aside0 (∀ w1 y, Below w.heap.size w w1 → y < a → Calls Tryd.prog 23 #[.pointer (some ⟨g, 0, none⟩), .int .i64 y, .int .i64 a] w1 fun e w' => e = .returned (.int .i64 (alk t y a)) ∧ ∃ m, w' = w1.drewN m) := ⟨fun w1 y hb hy => alike_calls w1 B g gb A c t last back y a (k.below hb) hy (by omega) hn⟩
    have d1 : decide ((a : Int) + 3 ≤ ((t.length : Nat) : Int)) = true := by simp; omega
    have d2 : (a : Int) + 3 ≤ ((t.length : Nat) : Int) := by omega
    have cl := k.cl H h4
    have cb := k.cb
    rw [hk.last H h4] at cl
    have b4 : (H : Int) < 4096 := by omega
    have HS := Aside0.mk (scan_skip t a a 0 0 0 (Nat.le_refl _))
    have HSP := Aside0.mk (prv_spec t (H : Int) a)
    obtain ⟨R, hR⟩ : ∃ R, R = scan t a a 0 0 0 := ⟨_, rfl⟩
    rw [← hR]
    have HR := Aside0.mk hR
    have HHx := Aside0.mk hH
    have HN := Aside0.mk (show a + 3 ≤ t.length ∧ t.length ≤ 1000000000 from ⟨h, hn⟩)
    obtain ⟨x0, hx0⟩ : ∃ x0, x0 = prv t (H : Int) a := ⟨_, rfl⟩
    rw [← hx0] at cl
    have HX0 := Aside0.mk hx0
    have c0a := pw_cell_below (below_alloc (below_alloc (Below.refl w.heap.size w) (.cells #[.int .u8 0, .int .i64 0, .int .i64 0] 41)) (.cells #[.int .u8 0, .int .i64 0, .int .i64 0] 41)) c0
    have cla := pw_cell_below (below_alloc (below_alloc (Below.refl w.heap.size w) (.cells #[.int .u8 0, .int .i64 0, .int .i64 0] 41)) (.cells #[.int .u8 0, .int .i64 0, .int .i64 0] 41)) cl
    have HW0 := Aside0.mk (fun o o' : Obj => (below_alloc (below_alloc (Below.refl w.heap.size w) o) o'))
    clear k hk ha hn h hH h4 hR hx0
    go_enter Tryd.func12, Tryd.ntmps12
    go_wp2_with fail
    go_quiet ((go_at_call 22; exact Calls.quiet_of (HH.out _ _ (HW0.out _ _))))
    go_wp2_with fail
    go_loopg [6, 7] x0 (fun kq v6 v7 wr => ∃ lk x bl bd : Nat, v6 = .int .i64 lk ∧ v7 = .int .i64 x ∧ Aside0 (kq = x) ∧ Aside0 (x ≤ a ∧ lk ≤ 64 ∧ bl ≤ 258 ∧ bd ≤ 32768) ∧ Aside0 (x = 0 ∨ ∃ y, x = y + 1 ∧ y < a ∧ y + 3 ≤ t.length ∧ hsh t y = (H : Int)) ∧ Aside0 (scan t a x lk bl bd = R) ∧
      Aside0 (wr.heap[w.heap.size + 1]? = some (.cells #[.int .u8 0, .int .i64 bl, .int .i64 bd] 41 (0, 0))) ∧ Aside0 (wr.heap[w.heap.size]? = some (.cells #[.int .u8 0, .int .i64 0, .int .i64 0] 41 (0, 0))) ∧ Aside0 (Below w.heap.size w wr))
    case atStart =>
      refine ⟨0, x0, 0, 0, rfl, rfl, ⟨rfl⟩, ⟨by rw [HX0.out]; exact prv_le t _ a, by omega, by omega, by omega⟩, ⟨?_⟩, ⟨?_⟩, ⟨?_⟩, ⟨?_⟩, ⟨?_⟩⟩
      · rcases HSP.out with h | ⟨y, h1, h2⟩
        · exact .inl (HX0.out.trans h)
        · exact .inr ⟨y, HX0.out.trans h1, h2⟩
      · rw [HX0.out, ← HHx.out, ← HS.out]; exact HR.out.symm
      · first | exact blk_drewN (new2 _ _ _) _ | exact new2 _ _ _
      · first | exact blk_drewN (blk_alloc (alloc_self _ _) _) _ | exact blk_alloc (alloc_self _ _) _
      · first | exact pw_below_drewN (HW0.out _ _) _ | exact HW0.out _ _
    case round =>
      obtain ⟨lk, x, bl, bd, rfl, rfl, HKq, HX, HP, HSc, HB5, HB4, HBl⟩ := hrel
      have c0r := pw_cell_below HBl.out c0
      have cbr := pw_cell_below HBl.out cb
      have m0 := blk_cell HB5.out 0
      have m1 := blk_cell HB5.out 1
      have m2 := blk_cell HB5.out 2
      have f0 := blk_frozen HB5.out 0
      have f1 := blk_frozen HB5.out 1
      have f2 := blk_frozen HB5.out 2
      have n0 := blk_cell HB4.out 0
      have n1 := blk_cell HB4.out 1
      have n2 := blk_cell HB4.out 2
      have q0 := blk_frozen HB4.out 0
      have q1 := blk_frozen HB4.out 1
      have q2 := blk_frozen HB4.out 2
      simp only [Array.getElem?_eq_getElem, List.size_toArray, List.length_cons, List.length_nil, Nat.reduceAdd, Nat.reduceLT, List.getElem_toArray, List.getElem_cons_succ, List.getElem_cons_zero] at m0 m1 m2 n0 n1 n2
      have e1 : (x : Int) ≤ (a : Int) := by have := HX.out; omega
      have e2 : (lk : Int) ≤ 64 := by have := HX.out; omega
      have e3 : (bl : Int) ≤ 258 := by have := HX.out; omega
      by_cases hc : 0 < x ∧ a - (x - 1) ≤ 32768 ∧ lk < 64
      · obtain ⟨y, rfl, hya, hy3, hyh⟩ : ∃ y, x = y + 1 ∧ y < a ∧ y + 3 ≤ t.length ∧ hsh t y = (H : Int) := by
          rcases HP.out with h | h
          · omega
          · exact h
        have g1 : decide ((0 : Int) < ((y + 1 : Nat) : Int)) = true := decide_eq_true (by omega)
        have g2 : decide ((a : Int) - (y : Int) ≤ 32768) = true := decide_eq_true (by omega)
        have g3 : decide ((lk : Int) < 64) = true := decide_eq_true (by omega)
        have e5 : ((y + 1 : Nat) : Int) - 1 = (y : Int) := by omega
        have e6 : (a : Int) - (y : Int) ≤ 32768 := by omega
        have e7 : (lk : Int) < 64 := by omega
        have e8 : (y : Int) < (a : Int) := by omega
        have e9 : (y : Int) < ((t.length : Nat) : Int) := by omega
        have hAl := Aside0.mk (HAl.out wr y HBl.out hya)
        obtain ⟨ck, fk⟩ := own_at (HF.out.below HBl.out).row (y : Int) (by omega) (by omega)
        rw [Int.toNat_natCast] at ck fk
        have hbk := HK.out.back y hya hy3
        rw [hyh] at hbk
        have hrd : rd back (y : Int) = ((prv t (H : Int) y : Nat) : Int) := by unfold rd; rw [Int.toNat_natCast]; exact hbk
        rw [hrd] at ck
        have hsc := HSc.out
        rw [scan, if_pos ⟨by omega, hc.2.2⟩] at hsc
        have hskip := fun lk bl bd => scan_skip t a y lk bl bd (by omega)
        rw [HHx.out] at hskip
        have hsp := Aside0.mk (prv_spec t (H : Int) y)
        have hpl := Aside0.mk (prv_le t (H : Int) y)
        have HY := Aside0.mk (show y < a from hya)
        have HC3 := Aside0.mk (show a - y ≤ 32768 ∧ lk < 64 by omega)
        obtain ⟨n, hn⟩ : ∃ n, n = alk t y a := ⟨_, rfl⟩
        have hn258 : n ≤ 258 := by rw [hn]; exact alk_le t y a
        rw [← hn] at hAl hsc
        have e10 : (n : Int) ≤ 258 := by omega
        clear hbk hrd hyh hy3 hya hc hn
        generalize prv t (H : Int) y = z at *
        have hrel' : z = 0 ∨ ∃ y', z = y' + 1 ∧ y' < a ∧ y' + 3 ≤ t.length ∧ hsh t y' = (H : Int) := by
          rcases hsp.out with h | ⟨y', h1, h2, h3⟩
          · exact .inl h
          · exact .inr ⟨y', h1, by have := HY.out; omega, h3⟩
        have HREL := Aside0.mk hrel'
        clear hrel'
        by_cases h3 : n < 3
        · rw [if_pos h3, hskip] at hsc
          have HSC := Aside0.mk hsc
          have d3 : decide ((n : Int) < 3) = true := decide_eq_true (by omega)
          have d3' : (n : Int) < 3 := by omega
          clear hsc hskip h3 hn258
          go_wp2_with (go_at_call 23; refine hAl.out.mono ?_; rintro e w' ⟨rfl, m5, rfl⟩)
          go_roundg z
          case measure => have := HKq.out; have := hpl.out; omega
          case rel => exact ⟨lk, z, bl, bd, rfl, rfl, ⟨rfl⟩, ⟨by have := HX.out; have := hpl.out; omega⟩, HREL, HSC, ⟨blk_drewN HB5.out _⟩, ⟨blk_drewN HB4.out _⟩, ⟨pw_below_drewN HBl.out _⟩⟩
        · have d3 : decide ((n : Int) < 3) = false := decide_eq_false (by omega)
          have d3' : (3 : Int) ≤ (n : Int) := by omega
          rw [if_neg h3] at hsc
          by_cases hlt : bl < n
          · rw [if_pos hlt, hskip] at hsc
            have HSC := Aside0.mk hsc
            have d4 : decide ((bl : Int) < (n : Int)) = true := decide_eq_true (by omega)
            have d4' : (bl : Int) < (n : Int) := by omega
            have e11 : ((a - y : Nat) : Int) = (a : Int) - (y : Int) := by have := HY.out; omega
            have HE11 := Aside0.mk e11
            have hgs := blk_lt HF.out.blk
            have hbs := own_lt HF.out.row gb rfl
            have x1 : gb ≠ w.heap.size + 1 := by omega
            have x2 : w.heap.size + 1 ≠ gb := by omega
            have x3 : g ≠ w.heap.size + 1 := by omega
            have x4 : w.heap.size + 1 ≠ g := by omega
            clear hgs hbs
            have HN258 := Aside0.mk hn258
            clear hsc hskip h3 hn258 hlt e11
            go_wp2_with (go_at_call 23; refine hAl.out.mono ?_; rintro e w' ⟨rfl, m5, rfl⟩)
            go_roundg z
            case measure => have := HKq.out; have := hpl.out; omega
            case rel =>
              refine ⟨lk + 1, z, n, a - y, by go_num, rfl, ⟨rfl⟩, ⟨by have := HX.out; have := hpl.out; have := HC3.out; have := HN258.out; omega⟩, HREL, HSC, ⟨?_⟩, ⟨?_⟩, ⟨?_⟩⟩
              · rw [HE11.out]
                refine blk_put (cs := #[.int .u8 0, .int .i64 n, .int .i64 bd]) ?_ 2 _ rfl
                refine blk_put (cs := #[.int .u8 0, .int .i64 bl, .int .i64 bd]) ?_ 1 _ rfl
                refine blk_put (cs := #[.int .u8 0, .int .i64 bl, .int .i64 bd]) ?_ 0 _ rfl
                exact blk_drewN HB5.out _
              · exact blk_far (blk_far (blk_far (blk_drewN HB4.out _) (by simp) _) (by simp) _) (by simp) _
              · exact Below.setCell (Below.setCell (Below.setCell (pw_below_drewN HBl.out _) (by simp) _) (by simp) _) (by simp) _
          · rw [if_neg hlt, hskip] at hsc
            have HSC := Aside0.mk hsc
            have d4 : decide ((bl : Int) < (n : Int)) = false := decide_eq_false (by omega)
            have d4' : (n : Int) ≤ (bl : Int) := by omega
            clear hsc hskip h3 hn258 hlt
            go_wp2_with (go_at_call 23; refine hAl.out.mono ?_; rintro e w' ⟨rfl, m5, rfl⟩)
            go_roundg z
            case measure => have := HKq.out; have := hpl.out; omega
            case rel => exact ⟨lk + 1, z, bl, bd, by go_num, rfl, ⟨rfl⟩, ⟨by have := HX.out; have := hpl.out; have := HC3.out; omega⟩, HREL, HSC, ⟨blk_drewN HB5.out _⟩, ⟨blk_drewN HB4.out _⟩, ⟨pw_below_drewN HBl.out _⟩⟩
      · have hend : R = (bl, bd) := by
          rw [← HSc.out]
          cases x with
          | zero => rfl
          | succ y =>
            unfold scan
            rw [if_neg (fun h => hc ⟨Nat.succ_pos y, by simpa using h.1, h.2⟩)]
        have HEnd := Aside0.mk hend
        clear hend
        by_cases h0 : 0 < x
        · have g1 : decide ((0 : Int) < (x : Int)) = true := decide_eq_true (by omega)
          by_cases h1 : a - (x - 1) ≤ 32768
          · have g2 : decide ((a : Int) - ((x : Int) - 1) ≤ 32768) = true := decide_eq_true (by have := HX.out; omega)
            have g3 : decide ((lk : Int) < 64) = false := decide_eq_false (by omega)
            have g1' : (0 : Int) < (x : Int) := by omega
            have g2' : (a : Int) - ((x : Int) - 1) ≤ 32768 := by have := HX.out; omega
            have g3' : (64 : Int) ≤ (lk : Int) := by omega
            clear hc h0 h1
            go_wp2_with fail
            rw [HEnd.out]
            refine bodyPost_ret (results_single (r := .cell 4 41) rfl (.cell w.heap.size 41 #[.int .u8 0, .int .i64 bl, .int .i64 bd] (0, 0) _ rfl (by refine blk_put (cs := #[.int .u8 0, .int .i64 bl, .int .i64 0]) ?_ 2 _ rfl; refine blk_put (cs := #[.int .u8 0, .int .i64 0, .int .i64 0]) ?_ 1 _ rfl; refine blk_put (cs := #[.int .u8 0, .int .i64 0, .int .i64 0]) ?_ 0 _ rfl; exact HB4.out) Tryd.underlying41 rfl (by kernel_rfl) .nil)) rfl ⟨rfl, ?_⟩
            exact Below.setCell (Below.setCell (Below.setCell HBl.out (by simp) _) (by simp) _) (by simp) _
          · have g2 : decide ((a : Int) - ((x : Int) - 1) ≤ 32768) = false := decide_eq_false (by have := HX.out; omega)
            have g1' : (0 : Int) < (x : Int) := by omega
            have g2' : 32768 < (a : Int) - ((x : Int) - 1) := by have := HX.out; omega
            clear hc h0 h1
            go_wp2_with fail
            rw [HEnd.out]
            refine bodyPost_ret (results_single (r := .cell 4 41) rfl (.cell w.heap.size 41 #[.int .u8 0, .int .i64 bl, .int .i64 bd] (0, 0) _ rfl (by refine blk_put (cs := #[.int .u8 0, .int .i64 bl, .int .i64 0]) ?_ 2 _ rfl; refine blk_put (cs := #[.int .u8 0, .int .i64 0, .int .i64 0]) ?_ 1 _ rfl; refine blk_put (cs := #[.int .u8 0, .int .i64 0, .int .i64 0]) ?_ 0 _ rfl; exact HB4.out) Tryd.underlying41 rfl (by kernel_rfl) .nil)) rfl ⟨rfl, ?_⟩
            exact Below.setCell (Below.setCell (Below.setCell HBl.out (by simp) _) (by simp) _) (by simp) _
        · have g1 : decide ((0 : Int) < (x : Int)) = false := decide_eq_false (by omega)
          have g1' : (x : Int) ≤ 0 := by omega
          clear hc h0
          go_wp2_with fail
          rw [HEnd.out]
          refine bodyPost_ret (results_single (r := .cell 4 41) rfl (.cell w.heap.size 41 #[.int .u8 0, .int .i64 bl, .int .i64 bd] (0, 0) _ rfl (by refine blk_put (cs := #[.int .u8 0, .int .i64 bl, .int .i64 0]) ?_ 2 _ rfl; refine blk_put (cs := #[.int .u8 0, .int .i64 0, .int .i64 0]) ?_ 1 _ rfl; refine blk_put (cs := #[.int .u8 0, .int .i64 0, .int .i64 0]) ?_ 0 _ rfl; exact HB4.out) Tryd.underlying41 rfl (by kernel_rfl) .nil)) rfl ⟨rfl, ?_⟩
          exact Below.setCell (Below.setCell (Below.setCell HBl.out (by simp) _) (by simp) _) (by simp) _
  · have d1 : ((t.length : Nat) : Int) < (a : Int) + 3 := by omega
    have d2 : decide (((t.length : Nat) : Int) < (a : Int) + 3) = true := by simp; omega
    rw [scan_short t a (by omega)]
    have c0a := pw_cell_below (below_alloc (below_alloc (Below.refl w.heap.size w) (.cells #[.int .u8 0, .int .i64 0, .int .i64 0] 41)) (.cells #[.int .u8 0, .int .i64 0, .int .i64 0] 41)) c0
    unfold tkV
    clear k hk ha hn h
    go_enter Tryd.func12, Tryd.ntmps12
    go_wp2_with fail
    exact bodyPost_ret (results_single (r := .cell 4 41) rfl (.cell w.heap.size 41 #[.int .u8 0, .int .i64 0, .int .i64 0] (0, 0) _ rfl (by exact blk_alloc (alloc_self _ _) _) Tryd.underlying41 rfl (by kernel_rfl) .nil)) rfl ⟨rfl, below_alloc (below_alloc (Below.refl _ _) _) _⟩
end Go.Proofs.YtiaiopdiooobiaaDoor.My

/- The walk of deflate's Tokens. -/
namespace Go.Proofs.YtiaiopdiooobiaaDoor.My
open Go.RowKit Go.Proofs.YtiaiopdiooobiaaDoorW.PrintWords Go.Proofs.YtiaiopdiooobiaaDoorW.PrintLast Go.Proofs.YtiaiopdiooobiaaDoorW.PrintMore
set_option maxRecDepth 100000
set_option linter.unusedVariables false
set_option linter.unusedSimpArgs false

/-- A new finder's cells. -/
def fcells (x y : Value) : Array Value := (x :: (nums .i64 (List.replicate 4096 0) ++ [y])).toArray
theorem new_finder (x y : Value) : (Tryd.zeroCells47.setIfInBounds 0 x).setIfInBounds 4097 y = fcells x y := by kernel_rfl
theorem info_tok : (Tryd.prog.info? 41).map (fun i => (i.zero, i.size, i.bytes)) = some (some (.agg #[.int .u8 0, .int .i64 0, .int .i64 0]), 3, 24) := by kernel_rfl
theorem info_int : (Tryd.prog.info? 3).map (fun i => (i.zero, i.size, i.bytes)) = some (some (.int .i64 0), 1, 8) := by kernel_rfl
theorem tmake_ints (n : Nat) (hn : n ≤ 16777216) (W : World) : (Instr.makeSlice 44 (.int .i64 n) (.int .i64 n)).run Tryd.prog W = .ok (.slice (some ⟨W.heap.size, 0, none⟩) n n) (W.alloc (.cells (nums .i64 (List.replicate n 0)).toArray 3)) := by
  obtain ⟨i0, hi, hz⟩ := Option.map_eq_some_iff.1 info_int
  simp only [Prod.mk.injEq] at hz
  have h := run_makeSlice W (P := Tryd.prog) 44 3 i0 (.int .i64 0) Tryd.underlying44 hi hz.1 .i64 .i64 n n (by omega) (by omega) (by rw [hz.2.1]; omega) (by rw [hz.2.2]; omega) (by omega)
  rw [hz.2.1] at h
  rw [← made_nums]
  simpa [Value.cells] using h
/-- Tokens' cells. -/
def tkCells (l : List Tk) : List Value := l.flatMap fun k => [.int .u8 k.b, .int .i64 k.l, .int .i64 k.d]
set_option maxHeartbeats 4000000 in
set_option maxRecDepth 100000 in
theorem tokens_calls (w : World) (A : Option Addr) (c : Nat) (t : List Int) (n : Nat) (ht : (Kd.int .u8).C w A n t) (hn : n ≤ 16000000) :
    Calls Tryd.prog 6 #[.slice A n c] w fun e w' => ∃ v, e = .returned v ∧ w'.ownsRow w.heap.size 41 3 v (toks t).length (tkCells (toks t)) ∧ Below w.heap.size w w' := by
  have hl : t.length = n := ht.1
  have hmk := tmake_ints n (by omega)
  have h3 : (n : Int) ≤ 16000000 := by omega
  have HT := Aside0.mk ht
  have HL := Aside0.mk hl
  clear ht hn hl
  go_enter Tryd.func6, Tryd.ntmps6
  go_wp2_with fail
  have hknow : Knows t (List.replicate 4096 0) (List.replicate n 0) 0 := ⟨fun H hH => (by show (List.replicate 4096 (0 : Int)).getD H 0 = 0; rw [List.getD_eq_getElem?_getD, List.getElem?_replicate]; split <;> rfl), fun y hy => by omega⟩
  have hf0 : Fnd ((w.alloc (.cells (nums .i64 (List.replicate n 0)).toArray 3)).alloc (.cells ((Tryd.zeroCells47.setIfInBounds 0 (.slice A n c)).setIfInBounds 4097 (.slice (some ⟨w.heap.size, 0, none⟩) n n)) 47)) w.heap.size (w.heap.size + 1) w.heap.size A c t (List.replicate 4096 0) (List.replicate n 0) := by
    rw [new_finder]
    refine ⟨?_, by simp, ?_, ?_, by omega⟩
    · have := new2 w (.cells (nums .i64 (List.replicate n 0)).toArray 3) (.cells (fcells (.slice A n c) (.slice (some ⟨w.heap.size, 0, none⟩) n n)) 47)
      rw [HL.out]
      exact this
    · rw [HL.out]; exact Kd.C_alloc (Kd.C_alloc HT.out _) _
    · rw [HL.out]
      have := own_made w w.heap.size 3 .i64 n (Nat.le_refl _) (by omega)
      rw [made_nums] at this
      exact own_alloc this _
  have HF0 := Aside0.mk hf0
  have HK0 := Aside0.mk hknow
  have HB0 := Aside0.mk (below_alloc (below_alloc (Below.refl w.heap.size w) (.cells (nums .i64 (List.replicate n 0)).toArray 3)) (.cells ((Tryd.zeroCells47.setIfInBounds 0 (.slice A n c)).setIfInBounds 4097 (.slice (some ⟨w.heap.size, 0, none⟩) n n)) 47))
  clear hf0 hknow hmk
  go_loopg [4, 5] n (fun kq v4 v5 wr => ∃ (a : Nat) (l : List Tk) (last back : List Int), v5 = .int .i64 a ∧ a ≤ n ∧ Aside0 (kq = n - a) ∧ Aside0 (Fnd wr w.heap.size (w.heap.size + 1) w.heap.size A c t last back ∧ Knows t last back a ∧ back.length = t.length) ∧ Aside0 (wr.ownsRow w.heap.size 41 3 v4 l.length (tkCells l)) ∧ Aside0 (l ++ rest t a = toks t ∧ l.length ≤ a) ∧ Aside0 (Below w.heap.size w wr))
  case atStart =>
    refine ⟨0, [], _, _, rfl, Nat.zero_le _, ⟨rfl⟩, ⟨HF0.out, HK0.out, by simp [HL.out]⟩, ⟨own_nil _ _ _ _⟩, ⟨?_, Nat.le_refl _⟩, HB0⟩
    unfold rest toks
    simp
  case round =>
    obtain ⟨a, l, last, back, rfl, ha, HK, HF, HO, HR, HB⟩ := hrel
    obtain ⟨Ao, co, rfl⟩ := own_slice HO.out
    by_cases hlt : a < n
    · have hlt' : (a : Int) < (n : Int) := by omega
      have c0 := HF.out.1.c0
      obtain ⟨ad, rfl, hby⟩ := byte_at HT.out a hlt
      have hadl := World.block_lt_of_cell? w _ hby
      rw [add_blk] at hadl
      have HAD : Aside0 (ad.block ≠ w.heap.size + 1 ∧ ad.block ≠ w.heap.size) := ⟨by omega, by omega⟩
      have hbr := pw_cell_below HB.out hby
      have hrs := rest_step t a (by have := HL.out; omega)
      have hfit := tok_fits t a (by have := HL.out; omega)
      have hlen := tok_le t a
      have hfind := find_calls wr w.heap.size (w.heap.size + 1) w.heap.size (some ad) c t last back a HF.out.1 (by have := HL.out; omega) (by have := HL.out; omega) HF.out.2.1
      have htk : tok t a = if (scan t a a 0 0 0).1 = 0 then ⟨t.getD a 0, 0, (scan t a a 0 0 0).2⟩ else ⟨0, (scan t a a 0 0 0).1, (scan t a a 0 0 0).2⟩ := rfl
      generalize hsl : (scan t a a 0 0 0).1 = sl at *
      generalize hsd : (scan t a a 0 0 0).2 = sd at *
      have hsl258 : (sl : Int) ≤ 258 := by have := tok_l t a; rw [hsl] at this; omega
      have HFi := Aside0.mk hfind
      obtain ⟨b, hb⟩ : ∃ b, b = (tok t a).b := ⟨_, rfl⟩
      have htl : (tok t a).l = sl := by rw [tok_l, hsl]
      have htd : (tok t a).d = sd := by rw [htk]; split <;> rfl
      have htt : tok t a = ⟨b, sl, sd⟩ := by
        rw [hb, ← htl, ← htd]
      have HTT := Aside0.mk htt
      have hmx0 : max sl 1 = max sl 1 := rfl
      have HBX : Aside0 (if sl = 0 then b = t.getD a 0 else b = 0) := ⟨by rw [hb, htk]; split <;> rfl⟩
      obtain ⟨m, hm⟩ : ∃ m, m = max sl 1 := ⟨_, rfl⟩
      have hmx : max (sl : Int) 1 = (m : Int) := by omega
      have HFit : Aside0 (a + m ≤ n) := ⟨by rw [htl] at hfit; have := HL.out; omega⟩
      have HRS : Aside0 (rest t a = ⟨b, sl, sd⟩ :: rest t (a + m)) := ⟨by rw [hrs, htt, hm]⟩
      have hm258 : (m : Int) ≤ 258 := by omega
      have HM1 : Aside0 (1 ≤ m) := ⟨by omega⟩
      have HL0 := Aside0.mk (show l.length ≤ a from HR.out.2)
      have HA := Aside0.mk (show a < n from hlt)
      have hofin : ∀ (v : Value), tkCells l ++ [.int .u8 b, .int .i64 sl, .int .i64 sd] = tkCells (l ++ [⟨b, sl, sd⟩]) := fun _ => by simp [tkCells]
      have HOF := Aside0.mk (hofin undef)
      clear hofin htk htl htd htt hb hsl hsd hfit hrs hlen hfind hlt ha hadl hmx0 hmx
      by_cases hz : sl = 0
      · have dz : ((sl : Int) == 0) = true := by simp [hz]
        have hs0 : (sl : Int) ≤ 0 := by omega
        obtain rfl : m = 1 := by omega
        have hbx : b = t.getD a 0 := by have := HBX.out; rwa [if_pos hz] at this
        rw [← hbx] at hbr
        clear hbx
        clear hz hm
        go_wp2_with (first
          | (go_at_call 12; refine HFi.out.mono ?_; rintro e w2 ⟨rfl, hb2⟩; unfold tkV; have hbr2 := pw_cell_below (below_alloc hb2 (.cells #[.int .u8 0, .int .i64 sl, .int .i64 sd] 41)) hbr; have HF2 := Aside0.mk (HF.out.1.below (below_alloc hb2 (.cells #[.int .u8 b, .int .i64 sl, .int .i64 sd] 41))); have HO2 := Aside0.mk (pw_own_below HO.out (below_alloc hb2 (.cells #[.int .u8 b, .int .i64 sl, .int .i64 sd] 41))); have HB2 := Aside0.mk (HB.out.trans ((below_alloc hb2 (.cells #[.int .u8 b, .int .i64 sl, .int .i64 sd] 41)).mono HB.out.size)); have hn2 := Aside0.mk (alloc_self w2 (.cells #[.int .u8 b, .int .i64 sl, .int .i64 sd] 41)); have HS2 := Aside0.mk hb2.size; clear hb2)
          | ((with_reducible refine gate_dst (N := 31) rfl ?_); refine print_append_cells (w0 := w) w.heap.size rfl (.tmp 28) (.tmp 30) 29 41 _ 3 24 rfl Tryd.underlying29 info_tok rfl (by decide) (by decide) _ _ _ [.int .u8 b, .int .i64 sl, .int .i64 sd] rfl (by show Value.slice (some ⟨w2.heap.size + 1, 0, none⟩) 1 1 = _; simp) rfl (by simp [Value.oneCell']) HO2.out HB2.out HB2.out.size (by have := HL0.out; have := HA.out; omega) ?_; intro v3 w3 ho3 hb3 hg3 hk3; obtain ⟨A3, c3, rfl⟩ := own_slice ho3; have hn3 := blk_grown hn2.out hg3 (fun h => by have := own_lt HO.out _ h.symm; have := HS2.out; omega); have m1 := blk_cell hn3 1; simp only [Array.getElem?_eq_getElem, List.size_toArray, List.length_cons, List.length_nil, Nat.reduceAdd, Nat.reduceLT, List.getElem_toArray, List.getElem_cons_succ, List.getElem_cons_zero] at m1; rw [HOF.out] at ho3; have HO3 := Aside0.mk ho3; have HB3 := Aside0.mk hb3; have HG3 := Aside0.mk hg3; clear ho3 hb3 hg3 hk3 hn3))
        have HF3 : Aside0 (Fnd w3 w.heap.size (w.heap.size + 1) w.heap.size (some ad) c t last back) := by
          refine ⟨⟨blk_grown HF2.out.blk HG3.out (own_ne HO2.out HF2.out.blk (by decide)), HF2.out.len, ?_, own_other HF2.out.row HG3.out (own_type_ne HF2.out.row HO2.out (by decide)), HF2.out.bg⟩⟩
          rw [HL.out]
          exact Kd.C_below HT.out HB3.out
        have HKn := Aside0.mk HF.out.2
        have HNG : Aside0 (∀ k, (Value.slice A3 (l.length + 1) c3).ownBlock = some k → True) := ⟨fun _ _ => trivial⟩
        obtain ⟨wo, rfl⟩ : ∃ wo : World, wo = wr := ⟨_, rfl⟩
        have hM : 1 ≤ 258 := by omega
        go_loopg [5, 35] 1 (fun kq v5 v35 w4 => ∃ (i j : Nat) (last' back' : List Int), v5 = .int .i64 i ∧ v35 = .int .i64 j ∧ Aside0 (i = a + j ∧ j ≤ 1 ∧ kq = 1 - j) ∧ Aside0 (Fnd w4 w.heap.size (w.heap.size + 1) w.heap.size (some ad) c t last' back' ∧ Knows t last' back' i ∧ back'.length = t.length) ∧
          Aside0 (w4.ownsRow w.heap.size 41 3 (.slice A3 (l.length + 1) c3) (l.length + 1) (tkCells (l ++ [⟨b, sl, sd⟩]))) ∧ Aside0 (Below w.heap.size w w4))
        case atStart => exact ⟨a, 0, last, back, rfl, rfl, ⟨by omega⟩, ⟨HF3.out, HKn.out⟩, HO3, HB3⟩
        case round =>
          obtain ⟨i, j, last', back', rfl, rfl, HJ, HF4, HO4, HB4⟩ := hrel
          have b5 : (i : Int) ≤ 16000000 := by have := HJ.out; have := HFit.out; omega
          have b6 : (j : Int) ≤ 258 := by have := HJ.out; omega
          by_cases hj : j < 1
          · have hj' : (j : Int) < 1 := by omega
            have HAdd := Aside0.mk (add_calls wr w.heap.size (w.heap.size + 1) w.heap.size (some ad) c t last' back' i HF4.out.1 (by have := HL.out; have := HJ.out; have := HFit.out; omega) (by have := HL.out; omega) HF4.out.2.1 (fun ad' e => by cases e; exact HAD.out) HF4.out.2.2)
            have HJ2 := Aside0.mk hj
            clear hj
            go_wp2_with (go_at_call 13; refine HAdd.out.mono ?_; rintro e w5 ⟨rfl, last2, back2, hf5, hk5, hl5, hm5⟩; have HF5 := Aside0.mk (And.intro hf5 (And.intro hk5 hl5)); have HM5 := Aside0.mk hm5; clear hf5 hk5 hl5 hm5)
            go_roundg (1 - (j + 1))
            case measure => have := HJ.out; have := HJ2.out; omega
            case rel =>
              refine ⟨i + 1, j + 1, last2, back2, by go_num, by go_num, ⟨by have := HJ.out; have := HJ2.out; omega⟩, HF5, ⟨?_⟩, ⟨?_⟩⟩
              · refine own_move HO4.out fun k hk => HM5.out.blk k (own_lt HO4.out k hk) (fun e => ?_) (fun e => ?_)
                · exact own_ne HO4.out HF4.out.1.blk (by decide) (by rw [hk, e])
                · rcases own_type_ne HO4.out HF4.out.1.row (by decide) with h | h
                  · rw [hk] at h; cases h
                  · exact h (by rw [hk, e]; rfl)
              · exact HM5.out.below HB4.out HB4.out.size (by omega) (Nat.le_refl _)
          · have hj' : ¬ ((j : Int) < 1) := by omega
            have HEq : Aside0 (i = a + 1) := ⟨by have := HJ.out; omega⟩
            clear hj
            go_wp2_with fail
            go_roundg (n - (a + 1))
            case measure => have := HK.out; have := HA.out; have := HM1.out; omega
            case rel =>
              refine ⟨a + 1, l ++ [⟨b, sl, sd⟩], last', back', by rw [HEq.out], HFit.out, ⟨rfl⟩, ⟨HF4.out.1, by rw [← HEq.out]; exact HF4.out.2.1, HF4.out.2.2⟩, ⟨?_⟩, ⟨?_, ?_⟩, HB4⟩
              · rw [List.length_append]; exact HO4.out
              · rw [← HR.out.1, HRS.out]; simp
              · have := HL0.out; have := HM1.out; simp; omega
      · have dz : ((sl : Int) == 0) = false := beq_eq_false_iff_ne.2 (by omega)
        have hs0 : (1 : Int) ≤ (sl : Int) := by omega
        obtain rfl : sl = m := by omega
        have hbx : b = 0 := by have := HBX.out; rwa [if_neg hz] at this
        subst hbx
        clear hz hm
        go_wp2_with (first
          | (go_at_call 12; refine HFi.out.mono ?_; rintro e w2 ⟨rfl, hb2⟩; unfold tkV; have hbr2 := pw_cell_below (below_alloc hb2 (.cells #[.int .u8 0, .int .i64 sl, .int .i64 sd] 41)) hbr; have HF2 := Aside0.mk (HF.out.1.below (below_alloc hb2 (.cells #[.int .u8 0, .int .i64 sl, .int .i64 sd] 41))); have HO2 := Aside0.mk (pw_own_below HO.out (below_alloc hb2 (.cells #[.int .u8 0, .int .i64 sl, .int .i64 sd] 41))); have HB2 := Aside0.mk (HB.out.trans ((below_alloc hb2 (.cells #[.int .u8 0, .int .i64 sl, .int .i64 sd] 41)).mono HB.out.size)); have hn2 := Aside0.mk (alloc_self w2 (.cells #[.int .u8 0, .int .i64 sl, .int .i64 sd] 41)); have HS2 := Aside0.mk hb2.size; clear hb2)
          | ((with_reducible refine gate_dst (N := 31) rfl ?_); refine print_append_cells (w0 := w) w.heap.size rfl (.tmp 28) (.tmp 30) 29 41 _ 3 24 rfl Tryd.underlying29 info_tok rfl (by decide) (by decide) _ _ _ [.int .u8 0, .int .i64 sl, .int .i64 sd] rfl (by show Value.slice (some ⟨w2.heap.size + 1, 0, none⟩) 1 1 = _; simp) rfl (by simp [Value.oneCell']) HO2.out HB2.out HB2.out.size (by have := HL0.out; have := HA.out; omega) ?_; intro v3 w3 ho3 hb3 hg3 hk3; obtain ⟨A3, c3, rfl⟩ := own_slice ho3; have hn3 := blk_grown hn2.out hg3 (fun h => by have := own_lt HO.out _ h.symm; have := HS2.out; omega); have m1 := blk_cell hn3 1; simp only [Array.getElem?_eq_getElem, List.size_toArray, List.length_cons, List.length_nil, Nat.reduceAdd, Nat.reduceLT, List.getElem_toArray, List.getElem_cons_succ, List.getElem_cons_zero] at m1; rw [HOF.out] at ho3; have HO3 := Aside0.mk ho3; have HB3 := Aside0.mk hb3; have HG3 := Aside0.mk hg3; clear ho3 hb3 hg3 hk3 hn3))
        have HF3 : Aside0 (Fnd w3 w.heap.size (w.heap.size + 1) w.heap.size (some ad) c t last back) := by
          refine ⟨⟨blk_grown HF2.out.blk HG3.out (own_ne HO2.out HF2.out.blk (by decide)), HF2.out.len, ?_, own_other HF2.out.row HG3.out (own_type_ne HF2.out.row HO2.out (by decide)), HF2.out.bg⟩⟩
          rw [HL.out]
          exact Kd.C_below HT.out HB3.out
        have HKn := Aside0.mk HF.out.2
        have HNG : Aside0 (∀ k, (Value.slice A3 (l.length + 1) c3).ownBlock = some k → True) := ⟨fun _ _ => trivial⟩
        obtain ⟨wo, rfl⟩ : ∃ wo : World, wo = wr := ⟨_, rfl⟩
        have hM : (sl : Int) ≤ 258 := by omega
        go_loopg [5, 35] sl (fun kq v5 v35 w4 => ∃ (i j : Nat) (last' back' : List Int), v5 = .int .i64 i ∧ v35 = .int .i64 j ∧ Aside0 (i = a + j ∧ j ≤ sl ∧ kq = sl - j) ∧ Aside0 (Fnd w4 w.heap.size (w.heap.size + 1) w.heap.size (some ad) c t last' back' ∧ Knows t last' back' i ∧ back'.length = t.length) ∧
          Aside0 (w4.ownsRow w.heap.size 41 3 (.slice A3 (l.length + 1) c3) (l.length + 1) (tkCells (l ++ [⟨0, sl, sd⟩]))) ∧ Aside0 (Below w.heap.size w w4))
        case atStart => exact ⟨a, 0, last, back, rfl, rfl, ⟨by omega⟩, ⟨HF3.out, HKn.out⟩, HO3, HB3⟩
        case round =>
          obtain ⟨i, j, last', back', rfl, rfl, HJ, HF4, HO4, HB4⟩ := hrel
          have b5 : (i : Int) ≤ 16000000 := by have := HJ.out; have := HFit.out; omega
          have b6 : (j : Int) ≤ 258 := by have := HJ.out; omega
          by_cases hj : j < sl
          · have hj' : (j : Int) < (sl : Int) := by omega
            have HAdd := Aside0.mk (add_calls wr w.heap.size (w.heap.size + 1) w.heap.size (some ad) c t last' back' i HF4.out.1 (by have := HL.out; have := HJ.out; have := HFit.out; omega) (by have := HL.out; omega) HF4.out.2.1 (fun ad' e => by cases e; exact HAD.out) HF4.out.2.2)
            have HJ2 := Aside0.mk hj
            clear hj
            go_wp2_with (go_at_call 13; refine HAdd.out.mono ?_; rintro e w5 ⟨rfl, last2, back2, hf5, hk5, hl5, hm5⟩; have HF5 := Aside0.mk (And.intro hf5 (And.intro hk5 hl5)); have HM5 := Aside0.mk hm5; clear hf5 hk5 hl5 hm5)
            go_roundg (sl - (j + 1))
            case measure => have := HJ.out; have := HJ2.out; omega
            case rel =>
              refine ⟨i + 1, j + 1, last2, back2, by go_num, by go_num, ⟨by have := HJ.out; have := HJ2.out; omega⟩, HF5, ⟨?_⟩, ⟨?_⟩⟩
              · refine own_move HO4.out fun k hk => HM5.out.blk k (own_lt HO4.out k hk) (fun e => ?_) (fun e => ?_)
                · exact own_ne HO4.out HF4.out.1.blk (by decide) (by rw [hk, e])
                · rcases own_type_ne HO4.out HF4.out.1.row (by decide) with h | h
                  · rw [hk] at h; cases h
                  · exact h (by rw [hk, e]; rfl)
              · exact HM5.out.below HB4.out HB4.out.size (by omega) (Nat.le_refl _)
          · have hj' : ¬ ((j : Int) < (sl : Int)) := by omega
            have HEq : Aside0 (i = a + sl) := ⟨by have := HJ.out; omega⟩
            clear hj
            go_wp2_with fail
            go_roundg (n - (a + sl))
            case measure => have := HK.out; have := HA.out; have := HM1.out; omega
            case rel =>
              refine ⟨a + sl, l ++ [⟨0, sl, sd⟩], last', back', by rw [HEq.out], HFit.out, ⟨rfl⟩, ⟨HF4.out.1, by rw [← HEq.out]; exact HF4.out.2.1, HF4.out.2.2⟩, ⟨?_⟩, ⟨?_, ?_⟩, HB4⟩
              · rw [List.length_append]; exact HO4.out
              · rw [← HR.out.1, HRS.out]; simp
              · have := HL0.out; have := HM1.out; simp; omega
    · obtain rfl : a = n := by omega
      have hni : ¬ ((a : Int) < (a : Int)) := by omega
      clear ha hlt
      have HEnd := Aside0.mk (rest_end t a (by have := HL.out; omega))
      go_wp2_with fail
      go_ret
      have h := HR.out.1
      rw [HEnd.out, List.append_nil] at h
      exact ⟨_, rfl, h ▸ HO.out, HB.out⟩
end Go.Proofs.YtiaiopdiooobiaaDoor.My

/- The walk of the packer's fixed: a text as a block of kind 1. -/
namespace Go.Proofs.YtiaiopdiooobiaaDoor.My
open Go.RowKit Go.Proofs.YtiaiopdiooobiaaDoor.Huf Go.Proofs.YtiaiopdiooobiaaDoorW.PrintWords Go.Proofs.YtiaiopdiooobiaaDoorW.PrintLast Go.Proofs.YtiaiopdiooobiaaDoorW.PrintMore
set_option maxRecDepth 100000
set_option linter.unusedVariables false
set_option linter.unusedSimpArgs false

section
variable {w w1 : World} {gp gw : Nat} {pa pb v : Value} {b : Bs}
theorem Pk.far (h : Pk w gp gw pa pb v b) (j : Nat) (x : Value) : Writ (w.setCell ⟨gp, j, none⟩ x) gw gw v b.V b.N :=
  ⟨⟨blk_far h.wri.wr.blk (p := ⟨gp, j, none⟩) (by have := h.lt; show gw ≠ gp; omega) x, own_setCell h.wri.wr.row (p := ⟨gp, j, none⟩) (own_ne h.wri.wr.row h.blk (by decide)) x, h.wri.wr.bg⟩, h.wri.lt⟩
theorem Pk.set1 (h : Pk w gp gw pa pb v b) (x : Value) : Pk (w.setCell ⟨gp, 1, none⟩ x) gp gw x pb v b := ⟨by have := blk_set h.blk 1 x; simpa using this, h.far 1 x, h.lt⟩
theorem Pk.set2 (h : Pk w gp gw pa pb v b) (x : Value) : Pk (w.setCell ⟨gp, 2, none⟩ x) gp gw pa x v b := ⟨by have := blk_set h.blk 2 x; simpa using this, h.far 2 x, h.lt⟩
end
theorem Pk.grown {w w1 : World} {gp gw : Nat} {pa pb v : Value} {b : Bs} (h : Pk w gp gw pa pb v b) {row : Option Nat} (hg : w.grownBy w1 row) (h1 : some gp ≠ row) (h2 : some gw ≠ row) (h3 : v.ownBlock = none) : Pk w1 gp gw pa pb v b :=
  ⟨blk_grown h.blk hg h1, ⟨⟨blk_grown h.wri.wr.blk hg h2, own_other h.wri.wr.row hg (.inl h3), h.wri.wr.bg⟩, h.wri.lt⟩, h.lt⟩
def toTi (k : Tk) : Ti := ⟨k.b, k.l, k.d⟩
theorem tk_ti (l : List Tk) : tkCells l = tiCells (l.map toTi) := by
  induction l with
  | nil => rfl
  | cons a t ih => simp only [tkCells, tiCells, List.flatMap_cons, List.map_cons] at *; rw [ih]; rfl
/-- Tokens that are read, in a block of tokens. -/
structure TRow (w : World) (A : Option Addr) (T : List Tk) : Prop where
  cells : TkR w A (T.map toTi)
  ty : ∀ ad, A = some ad → ∃ cs, w.heap[ad.block]? = some (.cells cs 41 (0, 0))
theorem TRow.of_own {w : World} {B n c : Nat} {A : Option Addr} {T : List Tk} (h : w.ownsRow B 41 3 (.slice A n c) T.length (tkCells T)) : TRow w A T := by
  refine ⟨?_, ?_⟩
  · rw [tk_ti, show T.length = (T.map toTi).length by rw [List.length_map]] at h
    exact tk_of_own h
  · intro ad e
    rcases h.2 with ⟨h1, h2⟩ | ⟨g, cap, cur, h1, _, hh, _⟩
    · cases h1; cases e
    · cases h1; cases e; exact ⟨cur, hh⟩
theorem TRow.grew {w w1 : World} {A : Option Addr} {T : List Tk} {gw : Nat} {v v1 : Value} {V N : Nat} (h : TRow w A T) (hG : Grew w w1 gw v v1) (hW : Writ w gw gw v V N) : TRow w1 A T := by
  have hk : ∀ ad, A = some ad → w1.heap[ad.block]? = w.heap[ad.block]? := fun ad e => by
    obtain ⟨cs, hc⟩ := h.ty ad e
    refine (hG.obj hc ?_ (own_ne hW.wr.row hc (by decide))).trans hc.symm
    intro e2
    rw [e2, hW.wr.blk] at hc
    simp at hc
  refine ⟨fun i k hi => ?_, fun ad e => by obtain ⟨cs, hc⟩ := h.ty ad e; exact ⟨cs, (hk ad e).trans hc⟩⟩
  obtain ⟨ad, e, x0, x1, x2⟩ := h.cells i k hi
  have hb := hk ad e
  refine ⟨ad, e, ?_, ?_, ?_⟩
  · rw [cell_same (w := w) (by rw [add_block]; exact hb)]; exact x0
  · rw [cell_same (w := w) (by show w1.heap[(ad.add (i * 3)).block]? = _; rw [add_block]; exact hb)]; exact x1
  · rw [cell_same (w := w) (by show w1.heap[(ad.add (i * 3)).block]? = _; rw [add_block]; exact hb)]; exact x2
theorem TRow.below {w w1 : World} {A : Option Addr} {T : List Tk} (h : TRow w A T) (hb : Below w.heap.size w w1) : TRow w1 A T :=
  ⟨h.cells.below hb, fun ad e => by obtain ⟨cs, hc⟩ := h.ty ad e; exact ⟨cs, blk_below hc hb⟩⟩
theorem newR_L : newR letters false = none := by decide +kernel
theorem newR_D : newR fixD false = none := by decide +kernel
theorem new_free (w : World) (A : Option Addr) (n c : Nat) (L : List Int) (hL : (Kd.int .i64).C w A n L) (hn : n ≤ 1000000) (hl : L.length = n) (h0 : 0 < n) (hr : newR L false = none) :
    Calls Tryd.prog 41 #[.slice A n c, .bool false] w fun e w' => ∃ g, e = .returned (.tuple #[.pointer (some ⟨g, 0, none⟩), .nilIface]) ∧ CodeAt w' w.heap.size w'.heap.size g L ∧ Below w.heap.size w w' := by
  refine (new_calls w A n c L false hL hn hl (fun e => by
    obtain ⟨h1, h2, h3⟩ := reads_of_C hL
    obtain ⟨ad, e2, _⟩ := h3 h0
    rw [e] at e2; cases e2)).mono ?_
  rintro e w' ⟨v, rfl, hb, _, h2⟩
  obtain ⟨g, rfl, hk⟩ := h2 hr
  rw [hr]
  exact ⟨g, rfl, hk, hb⟩
set_option maxHeartbeats 4000000 in
theorem packfix_calls (w0 w : World) (gp gw : Nat) (pa pb v : Value) (h : Pk w gp gw pa pb v ⟨0, 0⟩) (hv : v.ownBlock = none) (hb0 : Below w0.heap.size w0 w) (hgw : w0.heap.size ≤ gw) (A : Option Addr) (n c : Nat) (t : List Int) (ht : (Kd.int .u8).C w0 A n t) (hl : t.length = n) (hby : ∀ z ∈ t, 0 ≤ z ∧ z < 256) (hn : n ≤ 1048576) :
    Calls Tryd.prog 27 #[.pointer (some ⟨gp, 0, none⟩), .slice A n c] w fun e w' => e = .returned (.tuple #[]) ∧ ∃ pa' pb' v', Pk w' gp gw pa' pb' v' (fixB' letters fixD t) ∧ Below w0.heap.size w0 w' := by
  have HB0 := Aside0.mk (And.intro hb0 (And.intro hgw hv))
  have HT := Aside0.mk (And.intro ht (And.intro hl (And.intro hby hn)))
  have HP := Aside0.mk h
  clear h hv hb0 hgw ht hl hby hn
  go_enter Tryd.func27, Tryd.ntmps27
  go_wp2_with (go_at_call 40; refine (fixed_calls w).mono ?_; rintro e w1 ⟨A1, A2, c1, c2, rfl, hC1, ⟨g, rfl, rfl, hg, hr⟩, hc1, hb⟩; have HC1 := Aside0.mk hC1; have HR := Aside0.mk (And.intro hr hg); have HB := Aside0.mk hb; clear hC1 hr hb hg hc1)
  refine (new_free w1 A1 288 c1 letters HC1.out (by omega) letters_len' (by omega) newR_L).mono ?_
  rintro e w2 ⟨ga, rfl, hka, hb2⟩
  have hr2 : IRow w2 g 3 dists := blk_below HR.out.1 hb2
  have hP2 := (HP.out.below HB.out).below hb2
  obtain ⟨c0, p1, p2, f1, f2⟩ := hP2.cells
  have HP2 := Aside0.mk hP2
  have HB2 := Aside0.mk (HB0.out.1.trans ((HB.out.trans (hb2.mono HB.out.size)).mono HB0.out.1.size))
  have HK2 := Aside0.mk (And.intro hka (Nat.le_trans HB.out.size (Nat.le_refl _)))
  have HR2 := Aside0.mk (And.intro hr2 HR.out.2)
  clear hka hb2 hr2 hP2
  go_upto_region 4 with (go_at_call 38; refine (pass_nil _).mono ?_; rintro e w4 ⟨rfl, rfl⟩)
  have hgp := blk_lt HP.out.blk
  have HGP := Aside0.mk hgp
  have hP3 := HP2.out.set1 (.pointer (some ⟨ga, 0, none⟩))
  have hB3 := HB2.out.setCell (p := ⟨gp, 1, none⟩) (by show w0.heap.size ≤ gp; have := HB0.out.2.1; have := HP.out.lt; omega) (.pointer (some ⟨ga, 0, none⟩))
  have hK3 := HK2.out.1.grown (grown_set w2 gp 1 (.pointer (some ⟨ga, 0, none⟩))) (fun r e => by cases e; left; have := HK2.out.2; omega)
  have hne : g ≠ gp := by have := HR2.out.2; omega
  have hr3 : IRow (w2.setCell ⟨gp, 1, none⟩ (.pointer (some ⟨ga, 0, none⟩))) g 3 dists := blk_far HR2.out.1 (p := ⟨gp, 1, none⟩) hne _
  have hsz3 : (w2.setCell ⟨gp, 1, none⟩ (.pointer (some ⟨ga, 0, none⟩))).heap.size = w2.heap.size := by simp [World.setCell]
  rw [← hsz3] at hK3
  have HP3 := Aside0.mk hP3
  have HB3 := Aside0.mk hB3
  have HK3 := Aside0.mk (And.intro hK3 HK2.out.2)
  have HR3 := Aside0.mk (And.intro hr3 HR2.out.2)
  have HSZ3 : Aside0 (w.heap.size ≤ (w2.setCell ⟨gp, 1, none⟩ (.pointer (some ⟨ga, 0, none⟩))).heap.size) := ⟨by
    have := hK3.out
    rw [hsz3]
    obtain ⟨_, _, _, _, _, _, _, _, _, _, _, _, h1, h2⟩ := HK2.out.1.out
    have := HK2.out.2
    omega⟩
  clear hP3 hB3 hK3 hr3 hsz3 c0 p1 p2 f1 f2 HP2 HB2 HK2 HR2 hgp hne
  generalize w2.setCell ⟨gp, 1, none⟩ (.pointer (some ⟨ga, 0, none⟩)) = w3 at *
  have hlt := blk_lt HR3.out.1
  have hown : w3.ownsRow w.heap.size 3 1 (.slice (some ⟨g, 0, none⟩) 30 30) dists.length (nums .i64 dists) := by
    refine ⟨by rw [nums_length, Nat.mul_one], .inr ⟨g, 30, (nums .i64 dists).toArray, rfl, HR3.out.2, HR3.out.1, by decide, by unfold maxLen; decide, by rw [List.size_toArray, nums_length]; rfl, by rw [List.take_of_length_le (by simp [nums_length])]⟩⟩
  have HOw := Aside0.mk hown
  have HRd : Aside0 (∀ W : World, ReadsInt (W.alloc (.cells #[.int .i64 5, .int .i64 5] 3)) .i64 (some ⟨W.heap.size, 0, none⟩) 2 [5, 5]) := ⟨fun W => reads_of_C (C_block (W.alloc (.cells #[.int .i64 5, .int .i64 5] 3)) W.heap.size .i64 [5, 5] 3 (0, 0) (alloc_self _ _) (by simp))⟩
  have HLt := Aside0.mk hlt
  clear hown hlt
  go_wp2_with ((with_reducible refine gate_dst (N := 27) rfl ?_); refine print_append_row (w0 := w3) w.heap.size rfl (.tmp 25) (.tmp 26) 44 3 .i64 8 rfl Tryd.underlying44 info_i64 (by decide) (.slice (some ⟨g, 0, none⟩) 30 30) dists [5, 5] (some ⟨w3.heap.size, 0, none⟩) 2 2 rfl rfl (HOw.out.alloc _) (HRd.out w3) ((below_alloc (Below.refl w3.heap.size w3) _).mono HSZ3.out) (by have := HSZ3.out; simp; omega) (by decide) ?_)
  intro v4 w4 ho hb4 hg4 _
  obtain ⟨A3, c3, rfl, hc3, hC3⟩ := own_slice' ho
  have hg4' : w3.grownBy w4 (some g) := ⟨hg4.os, hg4.tape, hg4.output, Nat.le_trans (by simp) hg4.size, fun k hk hne => (hg4.block k (by simp; omega) hne).trans (Below.heap_alloc w3 _ k hk)⟩
  have hl32 : dists.length + 2 = 32 := by decide
  rw [hl32] at *
  have HP4 := Aside0.mk (HP3.out.grown hg4' (by intro e; cases e; have := HR3.out.2; have := HGP.out; omega) (by intro e; cases e; have := HR3.out.2; have := HGP.out; have := HP.out.lt; omega) HB0.out.2.2)
  have HK4 := Aside0.mk (HK3.out.1.grown hg4' (fun r e => by cases e; left; exact blk_lt HR.out.1))
  have HB4 := Aside0.mk (HB3.out.trans (hb4.mono HB0.out.1.size))
  have HN4 := Aside0.mk (new_free w4 A3 32 c3 fixD hC3 (by omega) fixD_len' (by omega) newR_D)
  have HSZ4 := Aside0.mk hg4'.size
  clear ho hb4 hg4 hc3 hC3 hg4' HOw HRd HLt HP3 HK3 HB3 HC1
  go_wp2_with fail
  refine HN4.out.mono ?_
  rintro e w5 ⟨gb, rfl, hkb, hb5⟩
  have hP5 := HP4.out.below hb5
  obtain ⟨c0, p1, p2, f1, f2⟩ := hP5.cells
  have HP5 := Aside0.mk hP5
  have HB5 := Aside0.mk (HB4.out.trans (hb5.mono HB4.out.size))
  have HA5 := Aside0.mk (HK4.out.below hb5)
  have HC5 := Aside0.mk hkb
  have HSZ5 := Aside0.mk hb5.size
  clear hP5 hkb hb5 HP4 HB4 HK4 HN4
  go_upto_region 6 with (go_at_call 38; refine (pass_nil _).mono ?_; rintro e w4 ⟨rfl, rfl⟩)
  have hlow : w.heap.size ≤ w1.heap.size := HB.out.size
  have hP6 := HP5.out.set2 (.pointer (some ⟨gb, 0, none⟩))
  have hB6 := HB5.out.setCell (p := ⟨gp, 2, none⟩) (by show w0.heap.size ≤ gp; have := HB0.out.2.1; have := HP.out.lt; omega) (.pointer (some ⟨gb, 0, none⟩))
  have hA6 := HA5.out.grown (grown_set w5 gp 2 (.pointer (some ⟨gb, 0, none⟩))) (fun r e => by cases e; left; have := HGP.out; omega)
  have hC6 := HC5.out.grown (grown_set w5 gp 2 (.pointer (some ⟨gb, 0, none⟩))) (fun r e => by cases e; left; have := HGP.out; have := HSZ3.out; have := HSZ4.out; omega)
  have hsz6 : (w5.setCell ⟨gp, 2, none⟩ (.pointer (some ⟨gb, 0, none⟩))).heap.size = w5.heap.size := by simp [World.setCell]
  have hS6 : Pks (w5.setCell ⟨gp, 2, none⟩ (.pointer (some ⟨gb, 0, none⟩))) w.heap.size w5.heap.size gp gw ga gb v ⟨0, 0⟩ :=
    ⟨hP6, hA6.mono hlow (by have := HSZ4.out; have := HSZ5.out; omega), hC6.mono (by have := HSZ3.out; have := HSZ4.out; omega) (Nat.le_refl _), by have := HGP.out; have := HP.out.lt; omega, by rw [hsz6]; exact Nat.le_refl _, fun k hk => by rw [HB0.out.2.2] at hk; cases hk⟩
  have HS6 := Aside0.mk hS6
  have HB6 := Aside0.mk hB6
  clear hP6 hB6 hA6 hC6 hsz6 hS6 hlow c0 p1 p2 f1 f2 HP5 HB5 HA5 HC5
  generalize w5.setCell ⟨gp, 2, none⟩ (.pointer (some ⟨gb, 0, none⟩)) = w6 at *
  have HU := Aside0.mk (pk_put HS6.out (by decide) 3 3 (by decide) (by decide))
  go_upto_region 7 with (go_at_call 36; refine (HU.out _ (Below.refl _ _)).mono ?_; rintro e w7 ⟨rfl, v7, hW, hG⟩; have HS7 := Aside0.mk hW; have HB7 := Aside0.mk (hG.under HS6.out.pk.wri HB6.out HB0.out.2.1); clear hW hG)
  clear HU
  have HTk := Aside0.mk (tokens_calls w7 A c t n (Kd.C_below HT.out.1 HB7.out) (by have := HT.out.2.2.2; omega))
  have HTo := Aside0.mk (And.intro (toks_ok t HT.out.2.2.1) (toks_len t))
  obtain ⟨bF, hbF⟩ : ∃ b, b = fixB' letters fixD t := ⟨_, rfl⟩
  have HFx : Aside0 (bF = sgB letters ((toks t).foldl (tokB letters fixD) ⟨3, 3⟩) 256) := ⟨hbF⟩
  have HQ := Aside0.mk hbF
  clear hbF
  generalize toks t = T at *
  go_wp2_with fail
  refine HTk.out.mono ?_
  rintro e w8 ⟨vt, rfl, ho, hb8⟩
  obtain ⟨At, ct, rfl⟩ := own_slice ho
  have HR8 := Aside0.mk (TRow.of_own ho)
  have HS8 := Aside0.mk (HS7.out.below hb8)
  have HB8 := Aside0.mk (HB7.out.trans (hb8.mono HB7.out.size))
  clear ho hb8 HTk HS7 HB7 HS6 HB6
  obtain ⟨m, hm⟩ : ∃ m, m = T.length := ⟨_, rfl⟩
  have HM := Aside0.mk hm
  rw [← hm]
  have hmb : (m : Int) ≤ 1048576 := by have := HTo.out.2; have := HT.out.2.1; have := HT.out.2.2.2; omega
  clear hm
  go_wp2_with fail
  go_loopg [40] m (fun kq v40 wr => ∃ (i : Nat) (b : Bs) (v' : Value), v40 = .int .i64 i ∧ i ≤ m ∧ Aside0 (kq = m - i) ∧ Aside0 (Pks wr w.heap.size w5.heap.size gp gw ga gb v' b) ∧ Aside0 (TRow wr At T) ∧ Aside0 (Below w0.heap.size w0 wr) ∧ Aside0 (b.N ≤ 3 + 60 * i ∧ (T.drop i).foldl (tokB letters fixD) b = T.foldl (tokB letters fixD) ⟨3, 3⟩))
  case atStart => exact ⟨0, ⟨3, 3⟩, v7, rfl, Nat.zero_le _, ⟨rfl⟩, HS8, HR8, HB8, ⟨by decide, rfl⟩⟩
  case round =>
    obtain ⟨i, b, v', rfl, hi, HK, HS, HR', HBr, HN⟩ := hrel
    by_cases hlt : i < m
    · have hlt' : (i : Int) < (m : Int) := by omega
      have hget : T[i]? = some (T[i]'(by have := HM.out; omega)) := List.getElem?_eq_getElem _
      have hdrop : T.drop i = T[i]'(by have := HM.out; omega) :: T.drop (i + 1) := List.drop_eq_getElem_cons _
      have hok := HTo.out.1 (T[i]'(by have := HM.out; omega)) (List.getElem_mem _)
      generalize (T[i]'(by have := HM.out; omega)) = k at *
      obtain ⟨ad, rfl, x0, x1, x2⟩ := HR'.out.cells i (toTi k) (by rw [List.getElem?_map, hget]; rfl)
      have HDr := Aside0.mk hdrop
      have HOk := Aside0.mk hok
      clear hdrop hok hget
      have hbx := below_alloc (Below.refl wr.heap.size wr) (.cells #[.int .u8 (toTi k).b, .int .i64 (toTi k).l, .int .i64 (toTi k).d] 41)
      have hX9 : Box (wr.alloc (.cells #[.int .u8 (toTi k).b, .int .i64 (toTi k).l, .int .i64 (toTi k).d] 41)) wr.heap.size k := ⟨alloc_self _ _⟩
      have HS9 := Aside0.mk (HS.out.below hbx)
      have HR9 := Aside0.mk (HR'.out.below hbx)
      have HB9 := Aside0.mk (HBr.out.trans (hbx.mono HBr.out.size))
      have HX9 := Aside0.mk hX9
      clear hbx hX9
      go_upto_region 10 with fail
      generalize wr.alloc (.cells #[.int .u8 (toTi k).b, .int .i64 (toTi k).l, .int .i64 (toTi k).d] 41) = w9 at *
      generalize wr.heap.size = g9 at *
      clear x0 x1 x2
      obtain ⟨y0, y1, y2⟩ := HX9.out.cells
      have HT9 := Aside0.mk (token_calls w9 _ _ gp gw ga gb v' b HS9.out (by have := HN.out.1; omega) k HOk.out)
      go_wp2_with (go_at_call 42; refine HT9.out.mono ?_; rintro e w10 ⟨rfl, v10, hW, hG⟩; have HS10 := Aside0.mk hW; have HB10 := Aside0.mk (hG.under HS9.out.pk.wri HB9.out HB0.out.2.1); have HR10 := Aside0.mk (HR9.out.grew hG HS9.out.pk.wri); clear hW hG)
      go_roundg (gk - 1)
      case measure => have := HK.out; omega
      case rel =>
        refine ⟨i + 1, tokB letters fixD b k, v10, by go_num, by omega, ⟨by have := HK.out; omega⟩, HS10, HR10, HB10, ⟨?_, ?_⟩⟩
        · have := tokB_N b HOk.out; have := HN.out.1; omega
        · have h1 := HN.out.2
          rw [HDr.out, List.foldl_cons] at h1
          exact h1
    · have hni : ¬ ((i : Int) < (m : Int)) := by omega
      obtain ⟨c0, c1', c2⟩ := HS.out.cells
      have hbF : bF = sgB letters b 256 := by
        rw [HFx.out, ← HN.out.2, List.drop_of_length_le (by have := HM.out; omega), List.foldl_nil]
      have HU := Aside0.mk (pk_signA HS.out (by have := HN.out.1; omega) 256 (by decide))
      rw [← hbF] at HU
      clear hbF
      go_wp2_with fail
      go_still_tail 8, (by kernel_rfl)
      change wpList _ _ _ _ _ (World.drew _)
      go_wp2_with (first
        | (go_at_call 43; refine (HU.out _ (below_drew (Below.refl _ _))).mono ?_; rintro e w10 ⟨rfl, v10, hW, hG⟩; have HS10 := Aside0.mk hW; have HB10 := Aside0.mk (hG.under HS.out.pk.wri HBr.out HB0.out.2.1); clear hW hG)
        | (go_at_call 38; refine (pass_nil _).mono ?_; rintro e w4 ⟨rfl, rfl⟩))
      refine bodyPost_end (results_none rfl _ _ _) rfl ?_
      exact ⟨rfl, _, _, v10, HQ.out ▸ HS10.out.pk, HB10.out⟩
end Go.Proofs.YtiaiopdiooobiaaDoor.My

/- Untokens of a text's tokens, plainly. -/
namespace Go.Proofs.YtiaiopdiooobiaaDoor.My
open Go.RowKit
set_option maxRecDepth 100000
set_option linter.unusedVariables false
set_option linter.unusedSimpArgs false

theorem cpy_inf (d : Nat) : ∀ l out, My.cpy d l out = Inf.cpy d l out
  | 0, out => rfl
  | l + 1, out => by rw [My.cpy, Inf.cpy, cpy_inf d l]
/-- A byte's token has no distance, a match's no byte. -/
def Neat (k : Tk) : Prop := (k.l = 0 → k.d = 0) ∧ (k.l ≠ 0 → k.b = 0)
theorem scan_zero (t : List Int) (a : Nat) : ∀ x lk bl bd, (bl = 0 → bd = 0) → ((scan t a x lk bl bd).1 = 0 → (scan t a x lk bl bd).2 = 0)
  | 0, _, _, _, h => h
  | x + 1, lk, bl, bd, h => by
    unfold scan
    split
    · split
      · exact scan_zero t a x lk bl bd h
      · split
        · exact scan_zero t a x (lk + 1) _ _ (fun h0 => by omega)
        · exact scan_zero t a x (lk + 1) bl bd h
    · exact h
theorem tok_neat (t : List Int) (a : Nat) : Neat (tok t a) := by
  have h := scan_zero t a a 0 0 0 (fun _ => rfl)
  unfold tok
  split
  · rename_i h0
    exact ⟨fun _ => h h0, fun k => absurd rfl k⟩
  · rename_i h0
    exact ⟨fun k => absurd k h0, fun _ => rfl⟩
theorem toksF_neat (t : List Int) : ∀ f a, ∀ k ∈ toksF t f a, Neat k
  | 0, _, k, h => by simp [toksF] at h
  | f + 1, a, k, h => by
    unfold toksF at h
    split at h
    · rcases List.mem_cons.1 h with e | e
      · rw [e]; exact tok_neat t a
      · exact toksF_neat t f _ k e
    · simp at h
theorem unt_run : ∀ (T : List Tk) (out : List Int), (∀ k ∈ T, TkOk k) → (∀ k ∈ T, Neat k) → vld T out.length → out.length + tot T ≤ 1048576 → unt (T.map toTi) out = (untL T out, 0)
  | [], out, _, _, _, _ => rfl
  | k :: T, out, hT, hN, hv, hl => by
    have hok := hT k (by simp)
    have hn := hN k (by simp)
    have hT' : ∀ x ∈ T, TkOk x := fun x hx => hT x (by simp [hx])
    have hN' : ∀ x ∈ T, Neat x := fun x hx => hN x (by simp [hx])
    have htot : tot (k :: T) = max k.l 1 + tot T := rfl
    rw [htot] at hl
    have hv2 : vld T (out.length + max k.l 1) := hv.2
    rw [List.map_cons, unt]
    by_cases h0 : k.l = 0
    · have hnb : ¬ badT (toTi k) := by
        have hd := hn.1 h0
        unfold badT toTi
        show ¬ ((k.l : Int) < 0 ∨ (k.l : Int) = 1 ∨ (k.l : Int) = 2 ∨ 258 < (k.l : Int) ∨ ((k.l : Int) = 0 ∧ (k.d : Int) ≠ 0) ∨ ((k.l : Int) ≠ 0 ∧ (k.d : Int) = 0) ∨ (0 < (k.l : Int) ∧ k.b ≠ 0))
        omega
      rw [h0] at hl hv2
      rw [if_neg hnb, if_pos (show (toTi k).l = 0 by show (k.l : Int) = 0; omega), if_neg (by omega), show (toTi k).b = k.b from rfl, unt_run T (out ++ [k.b]) hT' hN' (by simpa using hv2) (by simp; omega)]
      show _ = (untL T (if k.l = 0 then out ++ [k.b] else _), 0)
      rw [if_pos h0]
    · obtain ⟨h1, h2, h3, h4⟩ := hok.l.resolve_left h0
      have hb := hn.2 h0
      have hdo : k.d ≤ out.length := hv.1 h0
      have hnb : ¬ badT (toTi k) := by
        unfold badT toTi
        show ¬ ((k.l : Int) < 0 ∨ (k.l : Int) = 1 ∨ (k.l : Int) = 2 ∨ 258 < (k.l : Int) ∨ ((k.l : Int) = 0 ∧ (k.d : Int) ≠ 0) ∨ ((k.l : Int) ≠ 0 ∧ (k.d : Int) = 0) ∨ (0 < (k.l : Int) ∧ k.b ≠ 0))
        rw [hb]
        omega
      have hm : max k.l 1 = k.l := by omega
      rw [hm] at hl hv2
      rw [if_neg hnb, if_neg (show ¬ (toTi k).l = 0 by show ¬ (k.l : Int) = 0; omega), if_neg (by show ¬ ((k.d : Int) < 1 ∨ 32768 < (k.d : Int) ∨ (out.length : Int) < (k.d : Int)); omega), if_neg (by show ¬ (1048576 < (out.length : Int) + (k.l : Int)); omega)]
      have e1 : (toTi k).d.toNat = k.d := by show ((k.d : Nat) : Int).toNat = _; simp
      have e2 : (toTi k).l.toNat = k.l := by show ((k.l : Nat) : Int).toNat = _; simp
      rw [e1, e2, cpy_inf, unt_run T _ hT' hN' (by rw [cpy_len']; exact hv2) (by rw [cpy_len']; omega)]
      show _ = (untL T (if k.l = 0 then _ else Inf.cpy k.d k.l out), 0)
      rw [if_neg h0]
theorem unt_back (t : List Int) (ht : ∀ z ∈ t, 0 ≤ z ∧ z < 256) (hn : t.length ≤ 1048576) : unt ((toks t).map toTi) [] = (t, 0) := by
  have h := unt_toks t
  rw [unt_run (toks t) [] (toks_ok t ht) (toksF_neat t _ _) h.2.2 (by rw [h.2.1]; simpa using hn), h.1]
end Go.Proofs.YtiaiopdiooobiaaDoor.My

/- The fixed fact of layer 9, the bound. -/
namespace Go.Proofs.YtiaiopdiooobiaaDoor.My
open Go.RowKit Go.Proofs.YtiaiopdiooobiaaDoor.Huf Go.Proofs.YtiaiopdiooobiaaDoorW.PrintWords Go.Proofs.YtiaiopdiooobiaaDoorW.PrintLast Go.Proofs.YtiaiopdiooobiaaDoorW.PrintMore
set_option maxRecDepth 100000
set_option linter.unusedVariables false
set_option linter.unusedSimpArgs false

theorem toks_a : toks [97, 97, 97, 97] = [⟨97, 0, 0⟩, ⟨0, 3, 1⟩] := by kernel_rfl
set_option maxHeartbeats 2000000 in
theorem alive_calls (w : World) : Calls Tryd.prog 4 #[] w fun e w' => e = .returned (.bool true) ∧ Below w.heap.size w w' := by
  have HT : Aside0 (∀ W : World, (Kd.int .u8).C W (some ⟨w.heap.size, 0, none⟩) 4 [97, 97, 97, 97] → Calls Tryd.prog 6 #[.slice (some ⟨w.heap.size, 0, none⟩) 4 4] W fun e w' => ∃ A' c', e = .returned (.slice A' 2 c') ∧ TkR w' A' [⟨97, 0, 0⟩, ⟨0, 3, 1⟩] ∧ Below W.heap.size W w') := by
    refine ⟨fun W hC => ?_⟩
    have ht := tokens_calls W _ 4 _ 4 hC (by decide)
    rw [toks_a] at ht
    refine ht.mono ?_
    rintro e w' ⟨v, rfl, ho, hb⟩
    obtain ⟨A', c', rfl⟩ := own_slice ho
    exact ⟨A', c', rfl, (TRow.of_own ho).cells, hb⟩
  have kc := fun (C : Array Value) (n c : Nat) => Lib.run_convert_bytes_const (P := Tryd.prog) w 22 5 C n c Tryd.underlying22 Tryd.underlying5
  have u45 := Tryd.underlying41
  have u5 := Tryd.underlying5
  have u3 := Tryd.underlying3
  have HW := Aside0.mk (fun o : Obj => below_alloc (Below.refl w.heap.size w) o)
  go_enter Tryd.func4, Tryd.ntmps4
  go_wp2_with (go_at_call 6; refine (HT.out _ (C_block _ _ _ _ _ _ (alloc_self _ _) (by decide))).mono ?_; rintro e w1 ⟨A1, c1, rfl, hR, hb⟩; obtain ⟨ad, rfl, x0, x1, x2⟩ := hR 0 _ rfl; obtain ⟨ad', e1, y0, y1, y2⟩ := hR 1 _ rfl; cases e1; rw [show ad.add (0 * 3) = ad by simp [Addr.add]] at x0 x1 x2; rw [show ad.add (1 * 3) = ⟨ad.block, ad.off + 3, none⟩ by simp [Addr.add]] at y0 y1 y2; replace hb := Aside0.mk hb; clear hR)
  go_ret
  exact ⟨rfl, (HW.out _).trans (hb.out.mono (HW.out _).size)⟩
theorem bound_calls (w : World) (n : Nat) (hn : n ≤ 1000000) : Calls Tryd.prog 10 #[.int .i64 n] w fun e w' => e = .returned (.int .i64 ((n : Int) + (n : Int) / 10 + 16)) ∧ ∃ k, w' = w.drewN k := by
  have h0 : (0 : Int) ≤ (n : Int) := by omega
  have h1 : (n : Int) ≤ 1000000 := by omega
  have h2 : max (n : Int) 0 = (n : Int) := by omega
  clear hn
  go_enter Tryd.func10, Tryd.ntmps10
  go_wp2_with fail
  first | go_quiet (fail) | skip
  first | go_wp2_with fail | skip
  go_ret
  first | exact ⟨rfl, 0, (World.drewN_zero _).symm⟩ | exact ⟨rfl, _, rfl⟩
end Go.Proofs.YtiaiopdiooobiaaDoor.My

/- Inflating, plainly: a block of kind 0. -/
namespace Go.Proofs.YtiaiopdiooobiaaDoor.Inf
open Go.Proofs.YtiaiopdiooobiaaDoor.Huf Go.Proofs.YtiaiopdiooobiaaDoor.My
set_option maxRecDepth 100000
set_option linter.unusedVariables false
theorem ofB_app : ∀ (a b : List Int), (∀ z ∈ a, 0 ≤ z ∧ z < 256) → ofB (a ++ b) = ofB a + ofB b * 2 ^ (8 * a.length)
  | [], b, _ => by simp [ofB]
  | z :: t, b, h => by
    rw [List.cons_append, ofB, ofB_app t b (fun y hy => h y (by simp [hy])), ofB, List.length_cons, show 8 * (t.length + 1) = 8 + 8 * t.length by omega, Nat.pow_add, show (2 : Nat) ^ 8 = 256 from rfl, Nat.mul_add, ← Nat.mul_assoc, ← Nat.mul_assoc, Nat.mul_comm 256 (ofB b)]
    omega
theorem ofB_mod (a b : List Int) (h : ∀ z ∈ a, 0 ≤ z ∧ z < 256) : ofB (a ++ b) % 2 ^ (8 * a.length) = ofB a := by
  rw [ofB_app a b h, Nat.add_mul_mod_self_right]
  exact Nat.mod_eq_of_lt (ofB_lt a h)
/-- The number from a byte on. -/
theorem ofB_drop (b : List Int) (h : ∀ z ∈ b, 0 ≤ z ∧ z < 256) (p : Nat) (hp : p ≤ b.length) : ofB b / 2 ^ (8 * p) = ofB (b.drop p) := by
  have ht : ∀ z ∈ b.take p, 0 ≤ z ∧ z < 256 := fun z hz => h z (List.mem_of_mem_take hz)
  have hl : (b.take p).length = p := by rw [List.length_take]; omega
  have e := ofB_app (b.take p) (b.drop p) ht
  rw [List.take_append_drop, hl] at e
  have hlt := ofB_lt (b.take p) ht
  rw [hl] at hlt
  rw [e, Nat.add_mul_div_right _ _ (Nat.two_pow_pos _), Nat.div_eq_of_lt hlt, Nat.zero_add]
theorem div_more (V a n : Nat) : V / 2 ^ (a + n) = V / 2 ^ a / 2 ^ n := by rw [Nat.pow_add, Nat.div_div_eq_div_mul]
/-- The head of a block of kind 0, of so many bytes. -/
def hd0 (i n : Nat) : List Int := [(i : Int), ((n % 256 : Nat) : Int), ((n / 256 : Nat) : Int), ((255 - n % 256 : Nat) : Int), ((255 - n / 256 : Nat) : Int)]
theorem hd0_bytes (i n : Nat) (hi : i < 256) (hn : n < 65536) : ∀ z ∈ hd0 i n, 0 ≤ z ∧ z < 256 := by
  intro z hz
  simp only [hd0, List.mem_cons, List.not_mem_nil, or_false] at hz
  omega
theorem block_stored (b : List Int) (hb : ∀ z ∈ b, 0 ≤ z ∧ z < 256) (lim : Int) (p i : Nat) (part rest : List Int) (hi : i < 2) (hn : part.length < 65536) (hp : p ≤ b.length) (hd : b.drop p = hd0 i part.length ++ (part ++ rest)) (out : List Int) (st : Nat) :
    block (ofB b) b.length lim ⟨8 * p, out, st⟩ = if (part.length : Int) > lim - (out.length : Int) then .er 3 else .ok (decide (i = 1)) ⟨8 * (p + 5 + part.length), out ++ part, st + 1 + part.length⟩ := by
  have hlen : b.length = p + (5 + (part.length + rest.length)) := by
    have h1 := congrArg List.length hd
    rw [List.length_drop] at h1
    simp only [hd0, List.length_append, List.length_cons, List.length_nil] at h1
    omega
  have hbr : ∀ z ∈ part ++ rest, 0 ≤ z ∧ z < 256 := fun z hz => hb z (List.mem_of_mem_drop (i := p) (by rw [hd]; exact List.mem_append_right _ hz))
  obtain ⟨n, hnn⟩ : ∃ n, n = part.length := ⟨_, rfl⟩
  obtain ⟨R, hR⟩ : ∃ R, R = ofB (part ++ rest) := ⟨_, rfl⟩
  have h0 : ofB b / 2 ^ (8 * p) = i + 256 * (n % 256 + 256 * (n / 256 + 256 * (255 - n % 256 + 256 * (255 - n / 256 + 256 * R)))) := by
    rw [ofB_drop b hb p hp, hd, hR, hnn]
    simp only [hd0, List.cons_append, List.nil_append, ofB, Int.toNat_natCast]
  have n1 : number (ofB b) b.length 1 ⟨8 * p, out, st + 1⟩ = .ok i ⟨8 * p + 1, out, st + 1⟩ := by
    unfold number
    rw [if_pos (by show 8 * p + 1 ≤ _; omega)]
    show Res.ok (ofB b / 2 ^ (8 * p) % 2 ^ 1) _ = _
    rw [h0]
    congr 1
    omega
  have n2 : number (ofB b) b.length 2 ⟨8 * p + 1, out, st + 1⟩ = .ok 0 ⟨8 * p + 3, out, st + 1⟩ := by
    unfold number
    rw [if_pos (by show 8 * p + 1 + 2 ≤ _; omega)]
    show Res.ok (ofB b / 2 ^ (8 * p + 1) % 2 ^ 2) _ = _
    rw [div_more, h0]
    congr 1
    omega
  have n3 : number (ofB b) b.length 16 ⟨8 * p + 8, out, st + 1⟩ = .ok n ⟨8 * p + 24, out, st + 1⟩ := by
    unfold number
    rw [if_pos (by show 8 * p + 8 + 16 ≤ _; omega)]
    show Res.ok (ofB b / 2 ^ (8 * p + 8) % 2 ^ 16) _ = _
    rw [div_more, h0]
    congr 1
    omega
  have n4 : number (ofB b) b.length 16 ⟨8 * p + 24, out, st + 1⟩ = .ok (65535 - n) ⟨8 * p + 40, out, st + 1⟩ := by
    unfold number
    rw [if_pos (by show 8 * p + 24 + 16 ≤ _; omega)]
    show Res.ok (ofB b / 2 ^ (8 * p + 24) % 2 ^ 16) _ = _
    have e0 : ofB b / 2 ^ (8 * p) / 2 ^ 24 = 255 - n % 256 + 256 * (255 - n / 256 + 256 * R) := by
      rw [h0]
      generalize 255 - n % 256 + 256 * (255 - n / 256 + 256 * R) = Y
      omega
    rw [div_more, e0]
    congr 1
    clear e0 h0
    omega
  have hal : 8 * p + 3 + (8 - (8 * p + 3) % 8) % 8 = 8 * p + 8 := by omega
  have hs : Inf.stored (ofB b) b.length lim ⟨8 * p + 3, out, st + 1⟩ = if (n : Int) > lim - (out.length : Int) then .er 3 else .ok () ⟨8 * (p + 5 + n), out ++ part, st + 1 + n⟩ := by
    unfold Inf.stored
    dsimp only
    rw [hal, n3, bind_ok, n4, bind_ok, if_neg (by omega)]
    unfold room
    dsimp only
    split
    · rfl
    · rw [bind_ok]
      dsimp only
      rw [if_pos (by omega)]
      congr 1
      have e1 : ofB b / 2 ^ (8 * p + 40) = R := by
        have e0 : ofB b / 2 ^ (8 * p) / 2 ^ 24 = 255 - n % 256 + 256 * (255 - n / 256 + 256 * R) := by
          rw [h0]
          generalize 255 - n % 256 + 256 * (255 - n / 256 + 256 * R) = Y
          omega
        rw [show 8 * p + 40 = 8 * p + 24 + 16 by omega, div_more, div_more, e0]
        clear e0 h0
        omega
      rw [e1, hR]
      have e2 : leB (ofB (part ++ rest)) n = part := by
        have hpb : ∀ z ∈ part, 0 ≤ z ∧ z < 256 := fun z hz => hbr z (List.mem_append_left _ hz)
        rw [hnn, leB_congr (V' := ofB part) (by rw [ofB_mod part rest hpb, Nat.mod_eq_of_lt (ofB_lt part hpb)]), leB_ofB part hpb]
      rw [e2]
      congr 1
      omega
  unfold block
  dsimp only
  rw [n1, bind_ok, n2, bind_ok, if_pos rfl, hs, ← hnn]
  split
  · rfl
  · rfl
end Go.Proofs.YtiaiopdiooobiaaDoor.Inf

/- What Deflate answers is inflated to the text, plainly, whatever stands behind it. -/
namespace Go.Proofs.YtiaiopdiooobiaaDoor.My
open Go.RowKit Go.Proofs.YtiaiopdiooobiaaDoor.Inf Go.Proofs.YtiaiopdiooobiaaDoor.Huf
set_option maxRecDepth 100000
set_option linter.unusedVariables false
set_option linter.unusedSimpArgs false

theorem leB_bytes (V k : Nat) : ∀ z ∈ leB V k, 0 ≤ z ∧ z < 256 := by
  intro z hz
  obtain ⟨i, _, rfl⟩ := List.mem_map.1 hz
  have := Nat.mod_lt (V / 2 ^ (8 * i)) (show 0 < 256 by decide)
  omega
theorem ofB_leB (V : Nat) : ∀ k, ofB (leB V k) = V % 2 ^ (8 * k)
  | 0 => by simp [leB, ofB, Nat.mod_one]
  | k + 1 => by
    rw [leB_succ, ofB_app _ _ (leB_bytes V k), ofB_leB V k, leB_len]
    simp only [ofB, Int.toNat_natCast, Nat.mul_zero, Nat.add_zero]
    rw [show 8 * (k + 1) = 8 * k + 8 by omega, Nat.pow_add, Nat.mod_mul, show (2 : Nat) ^ 8 = 256 from rfl, Nat.mul_comm (2 ^ (8 * k))]
/-- The text as bytes. -/
def Byt (t : List Int) : Prop := ∀ z ∈ t, 0 ≤ z ∧ z < 256
theorem infl_fixed (t rest : List Int) (ht : Byt t) (lim : Int) (h0 : 0 ≤ lim) :
    Inf.inflate (ofB (fixedL letters fixD t ++ rest)) (fixedL letters fixD t ++ rest).length lim = if (t.length : Int) > lim then .er 3 else .ok () ⟨(fixB' letters fixD t).N, t, 1 + (toks t).length + 1⟩ := by
  have hok3 : (⟨3, 3⟩ : Bs).ok := show (3 : Nat) < 2 ^ 3 by decide
  have hfo := fold_ok (toks t) (toks_ok t ht) ⟨3, 3⟩ hok3
  have hF : (fixB' letters fixD t).ok := sg_ok letters15 hfo.1 256
  obtain ⟨F, hFe⟩ : ∃ F, F = fixB' letters fixD t := ⟨_, rfl⟩
  obtain ⟨k, hk⟩ : ∃ k, k = (F.N + 7) / 8 := ⟨_, rfl⟩
  have hL : fixedL letters fixD t = leB F.V k := by rw [hk, hFe]; rfl
  have hFok : F.V < 2 ^ F.N := by rw [hFe]; exact hF
  have hVlt : F.V < 2 ^ (8 * k) := Nat.lt_of_lt_of_le hFok (Nat.pow_le_pow_right (by decide) (by omega))
  have hV : ofB (fixedL letters fixD t ++ rest) = F.V + ofB rest * 2 ^ (8 * k) := by
    rw [hL, ofB_app _ _ (leB_bytes _ _), ofB_leB, leB_len, Nat.mod_eq_of_lt hVlt]
  have hlen : (fixedL letters fixD t ++ rest).length = k + rest.length := by rw [List.length_append, hL, leB_len]
  have hE : Ext F (F.V + ofB rest * 2 ^ (8 * k)) := by
    refine ⟨ofB rest * 2 ^ (8 * k - F.N), ?_⟩
    rw [Nat.mul_assoc, ← Nat.pow_add, show 8 * k - F.N + F.N = 8 * k by omega]
  rw [hV, hlen, ← hFe]
  generalize F.V + ofB rest * 2 ^ (8 * k) = V at *
  obtain ⟨lb, hlb⟩ : ∃ lb, lb = k + rest.length := ⟨_, rfl⟩
  rw [← hlb]
  have hNl : F.N ≤ 8 * lb := by omega
  have hE' : Ext (sgB letters ((toks t).foldl (tokB letters fixD) ⟨3, 3⟩) 256) V := by rw [hFe] at hE; exact hE
  have hN' : (sgB letters ((toks t).foldl (tokB letters fixD) ⟨3, 3⟩) 256).N ≤ 8 * lb := by rw [hFe] at hNl; exact hNl
  have hE3 := fold_ext (toks t) ⟨3, 3⟩ V hE'.left
  have hfN := fold_N (toks t) (toks_ok t ht) ⟨3, 3⟩
  have h8 : 3 + (toks t).length + 7 ≤ 8 * lb := by
    have h7 := (hasA 256 (by decide)).2.2.1
    rw [sg_len] at hN'
    have : (⟨3, 3⟩ : Bs).N = 3 := rfl
    omega
  obtain ⟨y, hy⟩ := hE3
  have hy' : V = 3 + y * 8 := hy
  have hun := unt_toks t
  have hc := coded_run V lb lim (toks t) (toks_ok t ht) ⟨3, 3⟩ [] 1 (8 * lb + 1 - 3) hok3 hE' hN' (by omega) hun.2.2
  unfold Inf.inflate
  rw [Inf.blocks]
  have n1 : number V lb 1 ⟨0, [], 0 + 1⟩ = .ok 1 ⟨0 + 1, [], 0 + 1⟩ := by
    unfold number
    rw [if_pos (by show 0 + 1 ≤ _; omega)]
    show Res.ok (V / 2 ^ 0 % 2 ^ 1) _ = _
    congr 1
    rw [hy']
    omega
  have n2 : number V lb 2 ⟨0 + 1, [], 0 + 1⟩ = .ok 1 ⟨0 + 1 + 2, [], 0 + 1⟩ := by
    unfold number
    rw [if_pos (by show 0 + 1 + 2 ≤ _; omega)]
    show Res.ok (V / 2 ^ (0 + 1) % 2 ^ 2) _ = _
    congr 1
    rw [hy']
    omega
  unfold Inf.block
  dsimp only
  rw [n1, bind_ok, n2, bind_ok, if_neg (by decide), if_pos rfl]
  unfold Inf.codes
  have e : (⟨(⟨3, 3⟩ : Bs).N, [], 1⟩ : St) = ⟨0 + 1 + 2, [], 0 + 1⟩ := rfl
  have ef : fixB = fixD := rfl
  rw [← e, ef]
  show ((coded V lb lim letters fixD (8 * lb + 1 - 3) ⟨(⟨3, 3⟩ : Bs).N, [], 1⟩).bind _).bind _ = _
  rw [hc, hun.1, hun.2.1]
  have hcond : (toks t ≠ [] ∧ ((([] : List Int).length + t.length : Nat) : Int) > lim) ↔ (t.length : Int) > lim := by
    constructor
    · intro h; have := h.2; simp at this; omega
    · intro h
      refine ⟨fun e0 => ?_, by simp; omega⟩
      have := hun.2.1
      rw [e0] at this
      simp [tot] at this
      omega
  by_cases hg : (t.length : Int) > lim
  · rw [if_pos (hcond.2 hg), if_pos hg]
    rfl
  · rw [if_neg (fun h => hg (hcond.1 h)), if_neg hg, hFe]
    rfl
theorem infl_plain (t rest : List Int) (ht : Byt t) (hr : Byt rest) (hn : t.length ≤ 65535) (lim : Int) :
    Inf.inflate (ofB (plainL t ++ rest)) (plainL t ++ rest).length lim = if (t.length : Int) > lim then .er 3 else .ok () ⟨8 * (5 + t.length), t, 1 + t.length⟩ := by
  have hpl : plainL t = hd0 1 t.length ++ t := rfl
  have hb : ∀ z ∈ plainL t ++ rest, 0 ≤ z ∧ z < 256 := by
    intro z hz
    rcases List.mem_append.1 hz with h | h
    · rw [hpl] at h
      rcases List.mem_append.1 h with h | h
      · exact hd0_bytes 1 t.length (by decide) (by omega) z h
      · exact ht z h
    · exact hr z h
  have h := block_stored (plainL t ++ rest) hb lim 0 1 t rest (by decide) (by omega) (Nat.zero_le _) (by rw [List.drop_zero, hpl, List.append_assoc]) [] 0
  unfold Inf.inflate
  rw [Inf.blocks, show (⟨0, [], 0⟩ : St) = ⟨8 * 0, [], 0⟩ from rfl, h]
  by_cases hg : (t.length : Int) > lim
  · rw [if_pos (by simpa using hg), if_pos hg]; rfl
  · rw [if_neg (by simpa using hg), if_neg hg]
    rw [bind_ok, if_pos (by decide)]
    have e : ([] : List Int) ++ t = t := List.nil_append t
    rw [e, show 8 * (0 + 5 + t.length) = 8 * (5 + t.length) by omega, show 0 + 1 + t.length = 1 + t.length by omega]
/-- What a mode answers, as bytes; each is inflated to its text. -/
theorem byt_deflL (t : List Int) (m : Int) (ht : Byt t) (hn : t.length ≤ 65535) : Byt (deflL t m) := by
  have h1 : Byt (plainL t) := by
    intro z h
    have hpl : plainL t = hd0 1 t.length ++ t := rfl
    rw [hpl] at h
    rcases List.mem_append.1 h with h | h
    · exact hd0_bytes 1 t.length (by decide) (by omega) z h
    · exact ht z h
  have h2 : Byt (fixedL letters fixD t) := leB_bytes _ _
  unfold deflL pkL
  split
  · exact h1
  · split
    · exact h1
    · exact h2
theorem infl_defl (t rest : List Int) (m : Int) (ht : Byt t) (hr : Byt rest) (hn : t.length ≤ 65535) (lim : Int) (h0 : 0 ≤ lim) :
    if (t.length : Int) > lim then Inf.inflate (ofB (deflL t m ++ rest)) (deflL t m ++ rest).length lim = .er 3
    else ∃ a st, Inf.inflate (ofB (deflL t m ++ rest)) (deflL t m ++ rest).length lim = .ok () ⟨a, t, st⟩ ∧ (a + 7) / 8 = (deflL t m).length := by
  have hp := infl_plain t rest ht hr hn lim
  have hf := infl_fixed t rest ht lim h0
  have hpl : (plainL t).length = 5 + t.length := plainL_len t
  have hfl : (fixedL letters fixD t).length = ((fixB' letters fixD t).N + 7) / 8 := by unfold fixedL; rw [leB_len]
  have hcase : deflL t m = plainL t ∨ deflL t m = fixedL letters fixD t := by
    unfold deflL pkL
    split
    · exact .inl rfl
    · split
      · exact .inl rfl
      · exact .inr rfl
  by_cases hg : (t.length : Int) > lim
  · rw [if_pos hg]
    rw [if_pos hg] at hp hf
    rcases hcase with e | e
    · rw [e]; exact hp
    · rw [e]; exact hf
  · rw [if_neg hg]
    rw [if_neg hg] at hp hf
    rcases hcase with e | e
    · rw [e]; exact ⟨_, _, hp, by rw [hpl]; omega⟩
    · rw [e]; exact ⟨_, _, hf, hfl.symm⟩
end Go.Proofs.YtiaiopdiooobiaaDoor.My

/- The walk of bits.Reader.Peek, and the readers' small ones. -/
namespace Go.Proofs.YtiaiopdiooobiaaDoor.My
open Go.RowKit Go.Proofs.YtiaiopdiooobiaaDoorW.PrintWords Go.Proofs.YtiaiopdiooobiaaDoorW.PrintLast Go.Proofs.YtiaiopdiooobiaaDoorW.PrintMore
set_option maxRecDepth 100000

/-- A reader of L bytes, the number V, that is at a bit. -/
structure Rdr (w : World) (B g : Nat) (v : Value) (V L at_ : Nat) : Prop where
  blk : w.heap[g]? = some (.cells #[v, .int .i64 at_] 73 (0, 0))
  row : w.ownsRow B 5 1 v L (nums .u8 (leB V L))
  lt : V < 2 ^ (8 * L)
  le : at_ ≤ 8 * L
  bg : B ≤ g
theorem Rdr.cells {w : World} {B g : Nat} {v : Value} {V L a : Nat} (k : Rdr w B g v V L a) : w.cell? ⟨g, 0, none⟩ = some v ∧ w.cell? ⟨g, 1, none⟩ = some (.int .i64 a) ∧ w.frozen? ⟨g, 1, none⟩ = false := by
  refine ⟨?_, ?_, ?_⟩ <;> first | (rw [blk_cell k.blk]; rfl) | exact blk_frozen k.blk _
theorem Rdr.drewN {w : World} {B g : Nat} {v : Value} {V L a : Nat} (k : Rdr w B g v V L a) (n : Nat) : Rdr (w.drewN n) B g v V L a := ⟨k.blk, pw_own_below k.row (pw_below_drewN (Below.refl _ _) n), k.lt, k.le, k.bg⟩
theorem Rdr.drew {w : World} {B g : Nat} {v : Value} {V L a : Nat} (k : Rdr w B g v V L a) : Rdr w.drew B g v V L a := ⟨k.blk, pw_own_below k.row (below_drew (Below.refl _ _)), k.lt, k.le, k.bg⟩
theorem Rdr.ne {w : World} {B g : Nat} {v : Value} {V L a : Nat} (k : Rdr w B g v V L a) : some g ≠ v.ownBlock := own_ne k.row k.blk (by decide)
theorem Rdr.set {w : World} {B g : Nat} {v : Value} {V L a : Nat} (k : Rdr w B g v V L a) (a' : Nat) (h : a' ≤ 8 * L) : Rdr (w.setCell ⟨g, 1, none⟩ (.int .i64 a')) B g v V L a' :=
  ⟨by have := blk_set k.blk 1 (.int .i64 a'); simpa using this, own_setCell k.row k.ne _, k.lt, h, k.bg⟩

theorem left_calls (w : World) (B g : Nat) (v : Value) (V L a : Nat) (hr : Rdr w B g v V L a) (hL : L ≤ 100000000000000) :
    Calls Tryd.prog 71 #[.pointer (some ⟨g, 0, none⟩)] w fun e w' => e = .returned (.int .i64 (8 * L - a : Nat)) ∧ ∃ m, w' = w.drewN m := by
  obtain ⟨c0, c1, f1⟩ := hr.cells
  obtain ⟨A, c, rfl⟩ := own_slice hr.row
  have hle := hr.le
  have e : ((8 * L - a : Nat) : Int) = 8 * (L : Int) - (a : Int) := by omega
  rw [e]
  have h1 : (a : Int) ≤ 8 * (L : Int) := by omega
  have h2 : (L : Int) ≤ 100000000000000 := by omega
  clear e hr
  go_enter Tryd.func71, Tryd.ntmps71
  go_wp2_with fail
  first | go_region | skip
  first | go_wp2_with fail | skip
  go_ret
  first
    | exact ⟨rfl, 0, (World.drewN_zero _).symm⟩
    | exact ⟨rfl, 1, rfl⟩
    | exact ⟨rfl, _, rfl⟩

set_option maxRecDepth 100000 in
theorem peek_calls (w : World) (B g : Nat) (v : Value) (V L a : Nat) (n : Nat) (hn : n ≤ 32) (hr : Rdr w B g v V L a) (hL : L ≤ 100000000000000) :
    Calls Tryd.prog 72 #[.pointer (some ⟨g, 0, none⟩), .int .i64 n] w fun e w' => e = .returned (.tuple #[.int .u32 (V / 2 ^ a % 2 ^ (min n (8 * L - a)) : Nat), .int .i64 (min n (8 * L - a) : Nat)]) ∧ ∃ m, w' = w.drewN m := by
  have HF : Aside0 (∀ w : World, Calls Tryd.prog 70 #[.int .i64 n] w fun e w' => e = .returned (.bool true) ∧ w = w') := ⟨fun w => (show inW n = true from decide_eq_true ⟨by omega, by omega⟩) ▸ fitsw_calls n w⟩
  have HLf : Aside0 (Calls Tryd.prog 71 #[.pointer (some ⟨g, 0, none⟩)] w fun e w' => e = .returned (.int .i64 (8 * L - a : Nat)) ∧ ∃ m, w' = w.drewN m) := ⟨left_calls w B g v V L a hr hL⟩
  obtain ⟨c0, c1, f1⟩ := hr.cells
  obtain ⟨A, c, rfl⟩ := own_slice hr.row
  obtain ⟨A', c', e', hcc, hC⟩ := own_slice' hr.row
  cases e'
  have hle := hr.le
  have HC := Aside0.mk hC
  obtain ⟨k, hk⟩ : ∃ k, k = min n (8 * L - a) := ⟨_, rfl⟩
  have hmin : min (n : Int) ((8 * L - a : Nat) : Int) = (k : Int) := by omega
  have hk32 : (k : Int) ≤ 32 := by omega
  rw [← hk]
  have HK := Aside0.mk (show a + k ≤ 8 * L by omega)
  obtain ⟨p, hp⟩ : ∃ p, p = a / 8 := ⟨_, rfl⟩
  obtain ⟨r, hr8⟩ : ∃ r, r = a % 8 := ⟨_, rfl⟩
  obtain ⟨q, hq⟩ : ∃ q, q = min (p + 5) L := ⟨_, rfl⟩
  have hd : (a : Int) / 8 = (p : Int) := by omega
  have hm : (a : Int).tmod 8 = (r : Int) := by rw [Int.tmod_eq_emod_of_nonneg (by omega)]; omega
  have hmin2 : min ((p : Int) + 5) (L : Int) = (q : Int) := by omega
  have hpq := Aside0.mk (show p ≤ q ∧ q ≤ L ∧ q ≤ p + 5 ∧ a = 8 * p + r ∧ r < 8 ∧ r + k ≤ 8 * (q - p) by omega)
  have hqL : (q : Int) ≤ 100000000000000 := by omega
  have hpL : (p : Int) ≤ 100000000000000 := by omega
  have h1 : (a : Int) ≤ 8 * (L : Int) := by omega
  have h2 : (L : Int) ≤ 100000000000000 := by omega
  generalize hlf : 8 * L - a = lf at *
  clear hr hC hk hle hlf hp hr8 hq
  obtain ⟨res, hres⟩ : ∃ res, res = V / 2 ^ a % 2 ^ k := ⟨_, rfl⟩
  have HE : Aside0 (res < 4294967296) := ⟨hres ▸ Nat.lt_of_lt_of_le (Nat.mod_lt _ (Nat.two_pow_pos _)) (Nat.pow_le_pow_right (n := 2) (by decide) (show k ≤ 32 by omega))⟩
  rw [← hres]
  have HRES := Aside0.mk hres
  clear hres
  go_enter Tryd.func72, Tryd.ntmps72
  go_wp2_with (first
    | (go_at_call 70; refine (HF.out _).mono ?_; rintro e w' ⟨rfl, rfl⟩)
    | (go_at_call 71; refine HLf.out.mono ?_; rintro e w' ⟨rfl, m1, rfl⟩))
  go_loopg [8, 9] (q - p) (fun kq v8 v9 wr => ∃ (i h : Nat), v8 = .int .u64 h ∧ v9 = .int .i64 ((i : Int) - 1) ∧ i ≤ q ∧ p ≤ i ∧ Aside0 (kq = i - p ∧ h = V / 2 ^ (8 * i) % 2 ^ (8 * (q - i))) ∧ Aside0 (∃ m, wr = w.drewN m))
  case atStart => exact ⟨q, 0, rfl, rfl, Nat.le_refl _, hpq.out.1, ⟨rfl, by simp [Nat.mod_one]⟩, ⟨_, rfl⟩⟩
  case round =>
    obtain ⟨i, h, rfl, rfl, hi, hpi, HI, HWr⟩ := hrel
    obtain ⟨m, rfl⟩ := HWr.out
    by_cases hgt : p < i
    · obtain ⟨j, rfl⟩ : ∃ j, i = j + 1 := ⟨i - 1, by omega⟩
      obtain ⟨ad, rfl, hcell⟩ := Kd.at_int HC.out (j : Int) (by omega) (by have := hpq.out; omega)
      rw [Int.toNat_natCast] at hcell
      have hx : rd (leB V L) (j : Int) = ((V / 2 ^ (8 * j) % 256 : Nat) : Int) := by unfold rd; rw [Int.toNat_natCast]; exact leB_getD _ _ _ (by have := hpq.out; omega)
      rw [hx] at hcell
      have hst := peek_step V j (q - (j + 1))
      rw [show q - (j + 1) + 1 = q - j by omega, ← HI.out.2] at hst
      have hx256 : V / 2 ^ (8 * j) % 256 < 256 := Nat.mod_lt _ (by decide)
      have hh32 : h < 2 ^ 32 := by
        rw [HI.out.2]
        exact Nat.lt_of_lt_of_le (Nat.mod_lt _ (Nat.two_pow_pos _)) (Nat.pow_le_pow_right (by decide) (by have := hpq.out; omega))
      generalize V / 2 ^ (8 * j) % 256 = x at *
      have hor := peek_or h x hh32 hx256
      have e1 : ((j + 1 : Nat) : Int) - 1 = (j : Int) := by omega
      have b1 : (p : Int) ≤ (j : Int) := by omega
      have b2 : (j : Int) < (L : Int) := by have := hpq.out; omega
      have b3 : (h : Int) < 4294967296 := by omega
      have b4 : (x : Int) < 256 := by omega
      have HS := Aside0.mk hst
      have HJ := Aside0.mk (show j ≤ q ∧ p ≤ j by omega)
      rw [e1]
      clear hx hst hh32 hx256 e1 hgt hpi hi
      go_wp2
      go_roundg (gk - 1)
      case measure => have := HI.out.1; omega
      case rel => exact ⟨j, h * 256 + x, by simp, rfl, HJ.out.1, HJ.out.2, ⟨by have := HI.out.1; omega, HS.out.symm⟩, HWr⟩
    · have ei : i = p := by omega
      subst ei
      have hh := HI.out.2
      have hend := peek_end V a i r k q hpq.out.2.2.2.1 hpq.out.2.2.2.2.2
      rw [← hh] at hend
      have hlt : h < 2 ^ 64 := by
        rw [hh]
        exact Nat.lt_of_lt_of_le (Nat.mod_lt _ (Nat.two_pow_pos _)) (Nat.pow_le_pow_right (by decide) (by have := hpq.out; omega))
      have hmask := peek_mask h r k hlt (by omega)
      rw [hend] at hmask
      rw [← HRES.out] at hmask
      have b1 : ((i : Int) - 1) < (i : Int) := by omega
      have br : (r : Int) < 8 := by have := hpq.out; omega
      clear hh hend hlt hgt hi hpi HI
      go_wp2_with fail
      go_region
      go_wp2_with fail
      go_ret2
      refine ⟨?_, _, rfl⟩
      show Ending.returned (.tuple #[.int .u32 (bits .and .u64 ((h : Int) / 2 ^ r) (IntKind.u64.wrap (IntKind.u64.wrap (2 ^ k) - 1)) % 4294967296), .int .i64 (k : Int)]) = _
      rw [mask_wrap k (by omega), hmask, show (res : Int) % 4294967296 = res by have := HE.out; omega]
end Go.Proofs.YtiaiopdiooobiaaDoor.My

/- The walks of bits.Reader: NewReader, At, Align, Bits. -/
namespace Go.Proofs.YtiaiopdiooobiaaDoor.My
open Go.RowKit Go.Proofs.YtiaiopdiooobiaaDoorW.PrintWords Go.Proofs.YtiaiopdiooobiaaDoorW.PrintLast Go.Proofs.YtiaiopdiooobiaaDoorW.PrintMore
set_option maxRecDepth 100000

/-- What a call on a reader has turned: its block alone. -/
structure Gone (w w' : World) (g : Nat) : Prop where
  os : w'.os = w.os
  tape : w'.tape = w.tape
  output : w'.output = w.output
  keep : KeepBut w w' g none
theorem Gone.refl (w : World) (g : Nat) : Gone w w g := ⟨rfl, rfl, rfl, KeepBut.refl _ _ _⟩
theorem Gone.trans {w w1 w2 : World} {g : Nat} (h : Gone w w1 g) (k : Gone w1 w2 g) : Gone w w2 g :=
  ⟨k.os.trans h.os, k.tape.trans h.tape, k.output.trans h.output, h.keep.trans k.keep (.inl rfl)⟩
theorem Gone.drewN {w w1 : World} {g : Nat} (h : Gone w w1 g) (n : Nat) : Gone w (w1.drewN n) g := ⟨h.os, h.tape, h.output, ⟨h.keep.1, h.keep.2⟩⟩
theorem Gone.drew {w w1 : World} {g : Nat} (h : Gone w w1 g) : Gone w w1.drew g := ⟨h.os, h.tape, h.output, ⟨h.keep.1, h.keep.2⟩⟩
theorem Gone.set {w w1 : World} {g : Nat} (h : Gone w w1 g) (j : Nat) (u : Value) : Gone w (w1.setCell ⟨g, j, none⟩ u) g := ⟨h.os, h.tape, h.output, h.keep.set_ j u⟩
theorem Gone.below {w0 w w1 : World} {B g : Nat} (h : Gone w w1 g) (hb : Below B w0 w) (hB : B ≤ w.heap.size) (hg : B ≤ g) : Below B w0 w1 :=
  ⟨h.os.trans hb.os, h.tape.trans hb.tape, h.output.trans hb.output, Nat.le_trans hb.size h.keep.1, fun k hk =>
    (h.keep.2 k (by omega) (by omega) (fun e => by cases e)).trans (hb.block k hk)⟩

theorem at_calls (w : World) (B g : Nat) (v : Value) (V L a : Nat) (hr : Rdr w B g v V L a) :
    Calls Tryd.prog 21 #[.pointer (some ⟨g, 0, none⟩)] w fun e w' => e = .returned (.int .i64 a) ∧ w' = w := by
  obtain ⟨c0, c1, f1⟩ := hr.cells
  clear hr
  go_enter Tryd.func21, Tryd.ntmps21
  go_wp2
  go_ret
  exact ⟨rfl, rfl⟩

theorem peekx_calls (g : Nat) (n : Int) (w : World) (h : inW n = false) :
    Calls Tryd.prog 72 #[.pointer (some ⟨g, 0, none⟩), .int .i64 n] w fun e w' => e = .returned (.tuple #[.int .u32 0, .int .i64 0]) ∧ w' = w := by
  have HF : Aside0 (∀ w : World, Calls Tryd.prog 70 #[.int .i64 n] w fun e w' => e = .returned (.bool false) ∧ w = w') := ⟨fun w => h ▸ fitsw_calls n w⟩
  clear h
  go_enter Tryd.func72, Tryd.ntmps72
  go_wp2_with (go_at_call 70; refine (HF.out _).mono ?_; rintro e w' ⟨rfl, rfl⟩)
  go_ret2
  exact ⟨rfl, rfl⟩

theorem ralign_calls (w : World) (B g : Nat) (v : Value) (V L a : Nat) (hr : Rdr w B g v V L a) (hL : L ≤ 100000000000000) :
    Calls Tryd.prog 45 #[.pointer (some ⟨g, 0, none⟩)] w fun e w' => e = .returned (.int .i64 ((8 - a % 8) % 8 : Nat)) ∧ Rdr w' B g v V L (a + (8 - a % 8) % 8) ∧ Gone w w' g := by
  obtain ⟨c0, c1, f1⟩ := hr.cells
  have hle := hr.le
  obtain ⟨d, hd⟩ : ∃ d, d = (8 - a % 8) % 8 := ⟨_, rfl⟩
  have hm : (a : Int).tmod 8 = ((a % 8 : Nat) : Int) := by rw [Int.tmod_eq_emod_of_nonneg (by omega)]; omega
  have hm2 : ((8 : Int) - ((a % 8 : Nat) : Int)).tmod 8 = (d : Int) := by rw [Int.tmod_eq_emod_of_nonneg (by omega)]; omega
  have hm3 : (8 : Int) - (a : Int).tmod 8 = 8 - ((a % 8 : Nat) : Int) := by rw [hm]
  rw [← hd]
  have hr8 : ((a % 8 : Nat) : Int) < 8 := by omega
  have h1 : (a : Int) ≤ 800000000000000 := by omega
  have h2 : (d : Int) ≤ 7 := by omega
  have HR := Aside0.mk (hr.set (a + d) (by omega))
  have HG := Aside0.mk ((Gone.refl w g).set 1 (.int .i64 (a + d : Nat)))
  have ep : ((a + d : Nat) : Int) = (a : Int) + (d : Int) := by omega
  rw [ep] at HR HG
  clear hr hle hd ep
  generalize a % 8 = r at *
  go_enter Tryd.func45, Tryd.ntmps45
  go_wp2
  go_ret
  first
    | exact ⟨rfl, HR.out, HG.out⟩
    | exact ⟨rfl, HR.out.drew, HG.out.drew⟩

/-- What Bits answers. -/
def bitsE (n : Int) (l : Nat) : Option Int := if inW n then (if n ≤ l then none else some 10) else some 1
def bitsX (V a l : Nat) (n : Int) : Nat := if (bitsE n l).isNone then V / 2 ^ a % 2 ^ n.toNat else 0
theorem rbits_calls (w : World) (B g : Nat) (v : Value) (V L a : Nat) (n : Int) (hr : Rdr w B g v V L a) (hL : L ≤ 100000000000000) :
    Calls Tryd.prog 44 #[.pointer (some ⟨g, 0, none⟩), .int .i64 n] w fun e w' => e = .returned (.tuple #[.int .u32 (bitsX V a (8 * L - a) n), errV (bitsE n (8 * L - a))]) ∧
      Rdr w' B g v V L (if (bitsE n (8 * L - a)).isNone then a + n.toNat else a) ∧ Gone w w' g := by
  have HLf : Aside0 (Calls Tryd.prog 71 #[.pointer (some ⟨g, 0, none⟩)] w fun e w' => e = .returned (.int .i64 (8 * L - a : Nat)) ∧ ∃ m, w' = w.drewN m) := ⟨left_calls w B g v V L a hr hL⟩
  have HF : Aside0 (∀ w : World, Calls Tryd.prog 70 #[.int .i64 n] w fun e w' => e = .returned (.bool (inW n)) ∧ w = w') := ⟨fun w => fitsw_calls n w⟩
  cases hf : inW n with
  | false =>
    have e1 : bitsE n (8 * L - a) = some 1 := by unfold bitsE; rw [hf]; rfl
    have e2 : bitsX V a (8 * L - a) n = 0 := by unfold bitsX; rw [e1]; rfl
    rw [e1, e2]
    have HR := Aside0.mk hr
    have HF : Aside0 (∀ w : World, Calls Tryd.prog 70 #[.int .i64 n] w fun e w' => e = .returned (.bool false) ∧ w = w') := ⟨fun w => hf ▸ fitsw_calls n w⟩
    clear hr e1 e2 hf
    go_enter Tryd.func44, Tryd.ntmps44
    go_wp2_with (go_at_call 70; refine (HF.out _).mono ?_; rintro e w' ⟨rfl, rfl⟩)
    go_ret2
    exact ⟨rfl, HR.out, Gone.refl _ _⟩
  | true =>
    have HF : Aside0 (∀ w : World, Calls Tryd.prog 70 #[.int .i64 n] w fun e w' => e = .returned (.bool true) ∧ w = w') := ⟨fun w => hf ▸ fitsw_calls n w⟩
    have hin : 0 ≤ n ∧ n ≤ 32 := of_decide_eq_true hf
    obtain ⟨k, rfl⟩ := Int.eq_ofNat_of_zero_le hin.1
    rw [Int.toNat_natCast]
    by_cases hl : k ≤ 8 * L - a
    · have e1 : bitsE (k : Int) (8 * L - a) = none := by unfold bitsE; rw [hf, if_pos rfl, if_pos (by omega)]
      have e2 : bitsX V a (8 * L - a) (k : Int) = V / 2 ^ a % 2 ^ k := by unfold bitsX; rw [e1]; rfl
      rw [e1, e2]
      have hp := peek_calls w B g v V L a k (by omega) hr hL
      rw [Nat.min_eq_left hl] at hp
      have HP : Aside0 (∀ m, Calls Tryd.prog 72 #[.pointer (some ⟨g, 0, none⟩), .int .i64 k] (w.drewN m) fun e w' => e = .returned (.tuple #[.int .u32 (V / 2 ^ a % 2 ^ k : Nat), .int .i64 k]) ∧ ∃ m', w' = w.drewN m') := by
        refine ⟨fun m => ?_⟩
        have hp := peek_calls (w.drewN m) B g v V L a k (by omega) (hr.drewN m) hL
        rw [Nat.min_eq_left hl] at hp
        refine hp.mono ?_
        rintro e w' ⟨rfl, m', rfl⟩
        exact ⟨rfl, m + m', by simp⟩
      obtain ⟨c0, c1, f1⟩ := hr.cells
      have hle := hr.le
      have h0 : ((k : Nat) : Int) ≤ ((8 * L - a : Nat) : Int) := by omega
      have HR : Aside0 (∀ m, Rdr ((w.drewN m).setCell ⟨g, 1, none⟩ (.int .i64 ((a : Int) + (k : Int)))) B g v V L (a + k)) := ⟨fun m => by
        have := (hr.drewN m).set (a + k) (by omega)
        rwa [show ((a + k : Nat) : Int) = (a : Int) + (k : Int) by omega] at this⟩
      have HG := Aside0.mk (Gone.refl w g)
      have h1 : (a : Int) ≤ 800000000000000 := by omega
      have h2 : (k : Int) ≤ 32 := by omega
      generalize V / 2 ^ a % 2 ^ k = res at *
      generalize 8 * L - a = l at *
      clear hr hle hf e1 e2 hp hin hl
      go_enter Tryd.func44, Tryd.ntmps44
      go_wp2_with (first
        | (go_at_call 70; refine (HF.out _).mono ?_; rintro e w' ⟨rfl, rfl⟩)
        | (go_at_call 71; refine HLf.out.mono ?_; rintro e w' ⟨rfl, m1, rfl⟩)
        | (go_at_call 72; refine (HP.out _).mono ?_; rintro e w' ⟨rfl, m2, rfl⟩))
      go_ret2
      first
        | exact ⟨rfl, HR.out _, (HG.out.drewN _).set _ _⟩
        | exact ⟨rfl, (HR.out _).drew, ((HG.out.drewN _).set _ _).drew⟩
    · have e1 : bitsE (k : Int) (8 * L - a) = some 10 := by unfold bitsE; rw [hf, if_pos rfl, if_neg (by omega)]
      have e2 : bitsX V a (8 * L - a) (k : Int) = 0 := by unfold bitsX; rw [e1]; rfl
      rw [e1, e2]
      have HR := Aside0.mk hr
      have h0 : ((8 * L - a : Nat) : Int) < ((k : Nat) : Int) := by omega
      generalize 8 * L - a = l at *
      clear hr hf e1 e2 hin hl
      go_enter Tryd.func44, Tryd.ntmps44
      go_wp2_with (first
        | (go_at_call 70; refine (HF.out _).mono ?_; rintro e w' ⟨rfl, rfl⟩)
        | (go_at_call 71; refine HLf.out.mono ?_; rintro e w' ⟨rfl, m1, rfl⟩))
      go_ret2
      exact ⟨rfl, HR.out.drewN _, (Gone.refl _ _).drewN _⟩
end Go.Proofs.YtiaiopdiooobiaaDoor.My

/- The walk of bits.NewReader, and of bits.Reader.Bytes. -/
namespace Go.Proofs.YtiaiopdiooobiaaDoor.My
open Go.RowKit Go.Proofs.YtiaiopdiooobiaaDoorW.PrintWords Go.Proofs.YtiaiopdiooobiaaDoorW.PrintLast Go.Proofs.YtiaiopdiooobiaaDoorW.PrintMore
set_option maxRecDepth 100000

theorem newReader_calls (A : Option Addr) (n c V : Nat) (w : World) (hx : (Kd.int .u8).C w A n (leB V n)) (hV : V < 2 ^ (8 * n)) (hn : n ≤ 100000000000000) (hcap : A = none → n = 0 ∧ c = 0) :
    Calls Tryd.prog 18 #[.slice A n c] w fun e w' => ∃ g v, e = .returned (.pointer (some ⟨g, 0, none⟩)) ∧ Rdr w' w.heap.size g v V n 0 ∧ Below w.heap.size w w' := by
  have HC := Aside0.mk (clone_calls A n c (leB V n) w hx (by omega) (leB_len _ _) hcap)
  have HV := Aside0.mk hV
  clear hx hV hcap
  go_enter Tryd.func18, Tryd.ntmps18
  go_wp2_with (go_at_call 29; refine HC.out.mono ?_; rintro e w1 ⟨v1, rfl, HO, HB⟩; rw [leB_len] at HO; obtain ⟨A1, c1, rfl⟩ := own_slice HO; replace HO := Aside0.mk HO; replace HB := Aside0.mk HB)
  go_ret
  exact ⟨w1.heap.size, _, rfl, ⟨alloc_self _ _, HO.out.alloc _, HV.out, Nat.zero_le _, HB.out.size⟩, below_alloc HB.out _⟩
end Go.Proofs.YtiaiopdiooobiaaDoor.My

/- The walk of bits.Reader.Bytes. -/
namespace Go.Proofs.YtiaiopdiooobiaaDoor.My
open Go.RowKit Go.Proofs.YtiaiopdiooobiaaDoorW.PrintWords Go.Proofs.YtiaiopdiooobiaaDoorW.PrintLast Go.Proofs.YtiaiopdiooobiaaDoorW.PrintMore
set_option maxRecDepth 100000

theorem leB_mid (V L p k : Nat) (h : p + k ≤ L) : ((leB V L).take (p + k)).drop p = leB (V / 2 ^ (8 * p)) k := by
  apply List.ext_getElem
  · simp; omega
  · intro i h1 h2
    have hi : i < k := by simpa using h2
    simp only [List.getElem_drop, List.getElem_take, leB, List.getElem_map, List.getElem_range]
    rw [Nat.div_div_eq_div_mul, ← Nat.pow_add, Nat.mul_add]

theorem Gone.of_below {w w1 : World} (g : Nat) (hb : Below w.heap.size w w1) : Gone w w1 g := ⟨hb.os, hb.tape, hb.output, hb.size, fun i hi _ _ => hb.block i hi⟩
theorem Rdr.below {w w1 : World} {B g : Nat} {v : Value} {V L a : Nat} (k : Rdr w B g v V L a) (hb : Below w.heap.size w w1) : Rdr w1 B g v V L a := ⟨blk_below k.blk hb, pw_own_below k.row hb, k.lt, k.le, k.bg⟩
/-- What Bytes answers. -/
def byteE (n : Int) (a l : Nat) : Option Int := if n < 0 then some 1 else if a % 8 ≠ 0 then some 2 else if (n : Int) > ((l / 8 : Nat) : Int) then some 10 else none
theorem rbytes_bad (w : World) (B g : Nat) (v : Value) (V L a : Nat) (n c : Int) (hr : Rdr w B g v V L a) (hL : L ≤ 100000000000000) (hE : byteE n a (8 * L - a) = some c) :
    Calls Tryd.prog 47 #[.pointer (some ⟨g, 0, none⟩), .int .i64 n] w fun e w' => e = .returned (.tuple #[.slice none 0 0, errV (some c)]) ∧ ∃ m, w' = w.drewN m := by
  have HLf : Aside0 (Calls Tryd.prog 71 #[.pointer (some ⟨g, 0, none⟩)] w fun e w' => e = .returned (.int .i64 (8 * L - a : Nat)) ∧ ∃ m, w' = w.drewN m) := ⟨left_calls w B g v V L a hr hL⟩
  obtain ⟨c0, c1, f1⟩ := hr.cells
  have hle := hr.le
  clear hr
  unfold byteE at hE
  by_cases h1 : n < 0
  · rw [if_pos h1] at hE
    cases hE
    clear HLf hle
    go_enter Tryd.func47, Tryd.ntmps47
    go_wp2_with fail
    go_ret2
    exact ⟨rfl, 0, (World.drewN_zero _).symm⟩
  · rw [if_neg h1] at hE
    by_cases h2 : a % 8 = 0
    · rw [if_neg (by omega)] at hE
      by_cases h3 : n > (((8 * L - a) / 8 : Nat) : Int)
      · rw [if_pos h3] at hE
        cases hE
        have b1 : (((a : Int).tmod 8) != 0) = false := by rw [Int.tmod_eq_emod_of_nonneg (by omega)]; simp; omega
        have b2 : (((a : Int) % 8) != 0) = false := by simp; omega
        have b3 : ((8 * L - a : Nat) : Int) / 8 < n := by omega
        have b4 : ((8 * L - a : Nat) : Int) ≤ 800000000000000 := by omega
        have b5 : (a : Int) ≤ 800000000000000 := by omega
        generalize 8 * L - a = l at *
        clear h2 h3 hle
        go_enter Tryd.func47, Tryd.ntmps47
        go_wp2_with (go_at_call 71; refine HLf.out.mono ?_; rintro e w' ⟨rfl, m1, rfl⟩)
        go_ret2
        exact ⟨rfl, _, rfl⟩
      · rw [if_neg h3] at hE
        cases hE
    · rw [if_pos h2] at hE
      cases hE
      have b1 : (((a : Int).tmod 8) != 0) = true := by rw [Int.tmod_eq_emod_of_nonneg (by omega)]; simp; omega
      have b2 : (((a : Int) % 8) != 0) = true := by simp; omega
      have b5 : (a : Int) ≤ 800000000000000 := by omega
      clear h2 HLf hle
      go_enter Tryd.func47, Tryd.ntmps47
      go_wp2_with fail
      go_ret2
      first
        | exact ⟨rfl, 0, (World.drewN_zero _).symm⟩
        | exact ⟨rfl, _, rfl⟩
theorem rbytes_calls (w : World) (B g : Nat) (v : Value) (V L a : Nat) (n : Nat) (hr : Rdr w B g v V L a) (hL : L ≤ 100000000000000) (hE : byteE n a (8 * L - a) = none) :
    Calls Tryd.prog 47 #[.pointer (some ⟨g, 0, none⟩), .int .i64 n] w fun e w' => ∃ v', e = .returned (.tuple #[v', errV none]) ∧ w'.ownsRow w.heap.size 5 1 v' n (nums .u8 (leB (V / 2 ^ a) n)) ∧ Rdr w' B g v V L (a + 8 * n) ∧ Gone w w' g := by
  have HLf : Aside0 (Calls Tryd.prog 71 #[.pointer (some ⟨g, 0, none⟩)] w fun e w' => e = .returned (.int .i64 (8 * L - a : Nat)) ∧ ∃ m, w' = w.drewN m) := ⟨left_calls w B g v V L a hr hL⟩
  obtain ⟨c0, c1, f1⟩ := hr.cells
  have hle := hr.le
  unfold byteE at hE
  rw [if_neg (by omega)] at hE
  by_cases h2 : a % 8 = 0
  · rw [if_neg (by omega)] at hE
    by_cases h3 : (n : Int) > (((8 * L - a) / 8 : Nat) : Int)
    · rw [if_pos h3] at hE
      cases hE
    · obtain ⟨A, c, rfl⟩ := own_slice hr.row
      obtain ⟨A', c', e', hcc, hC⟩ := own_slice' hr.row
      cases e'
      obtain ⟨p, hp⟩ : ∃ p, p = a / 8 := ⟨_, rfl⟩
      have hpk : p + n ≤ L := by omega
      obtain ⟨i0, hi0, hz⟩ := Option.map_eq_some_iff.1 info_u8
      simp only [Prod.mk.injEq] at hz
      obtain ⟨A1, hcut, hC1, hnil⟩ := cut_mid (P := Tryd.prog) (k := .u8) 22 5 Tryd.underlying22 hi0 hz.2.1 A L c (leB V L) p (p + n) (by omega) hpk (leB_len _ _) hcc (own_cap hr.row)
      have hcut' : ∀ W : World, (Instr.slice 22 (.slice A L c) (some (.int .i64 p)) (some (.int .i64 ((p : Int) + (n : Int)))) none).run Tryd.prog W = .ok (.slice A1 (p + n - p) (c - p)) W := fun W => by
        have := hcut .i64 .i64 W
        rwa [Int.natCast_add] at this
      have e1 : p + n - p = n := by omega
      rw [e1] at hcut' hC1 hnil
      rw [leB_mid V L p n hpk, show 8 * p = a by omega] at hC1
      have HCl : Aside0 (∀ w1, (Kd.int .u8).C w1 A L (leB V L) → Calls Tryd.prog 29 #[.slice A1 n (c - p)] w1 fun e w' => ∃ v', e = .returned v' ∧ w'.ownsRow w1.heap.size 5 1 v' n (nums .u8 (leB (V / 2 ^ a) n)) ∧ Below w1.heap.size w1 w') := by
        refine ⟨fun w1 h => (clone_calls A1 n (c - p) _ w1 (hC1 w1 h) (by omega) (leB_len _ _) hnil).mono ?_⟩
        rintro e w' ⟨v', rfl, ho, hb⟩
        rw [leB_len] at ho
        exact ⟨v', rfl, ho, hb⟩
      have b1 : (((a : Int).tmod 8) != 0) = false := by rw [Int.tmod_eq_emod_of_nonneg (by omega)]; simp; omega
      have b2 : (((a : Int) % 8) != 0) = false := by simp; omega
      have b3 : (n : Int) ≤ ((8 * L - a : Nat) : Int) / 8 := by omega
      have b4 : ((8 * L - a : Nat) : Int) ≤ 800000000000000 := by omega
      have b5 : (a : Int) ≤ 800000000000000 := by omega
      have b6 : (a : Int) / 8 = (p : Int) := by omega
      have b7 : (p : Int) ≤ 100000000000000 := by omega
      have b8 : (n : Int) ≤ 100000000000000 := by omega
      have HR := Aside0.mk (fun m => ((hr.drewN m).set (a + 8 * n) (by omega)))
      have HG := Aside0.mk ((Gone.refl w g))
      have HCC := Aside0.mk hC
      have hne := hr.ne
      have HNE := Aside0.mk (show ∀ ad, A = some ad → 0 < L → ad.block ≠ g from fun ad h _ e => hne (by subst h; subst e; rfl))
      have ep : ((a + 8 * n : Nat) : Int) = (a : Int) + 8 * (n : Int) := by omega
      rw [ep] at HR
      generalize 8 * L - a = l at *
      clear hcut hC1 hnil hr hC hle hE h2 h3 hp hpk e1 ep hne hi0 hz hcc
      go_enter Tryd.func47, Tryd.ntmps47
      go_wp2_with (go_at_call 71; refine HLf.out.mono ?_; rintro e w' ⟨rfl, m1, rfl⟩)
      go_wp2_with (go_at_call 29; refine (HCl.out _ (C_of_readsInt (own_reads' (HR.out m1).row))).mono ?_; rintro e w2 ⟨v2, rfl, ho2, hb2⟩; replace ho2 := Aside0.mk ho2; replace hb2 := Aside0.mk hb2)
      go_ret2
      exact ⟨v2, rfl, own_weaken ho2.out (by simp), (HR.out m1).below hb2.out, ((HG.out.drewN m1).set 1 _).trans (Gone.of_below g hb2.out)⟩
  · rw [if_pos h2] at hE
    cases hE
end Go.Proofs.YtiaiopdiooobiaaDoor.My

/- The document's codes, plainly: its rows of bits, and what it answers to which lengths. -/
namespace Go.Proofs.YtiaiopdiooobiaaDoor.My
open Go.RowKit Go.Proofs.YtiaiopdiooobiaaDoor.Huf Go.Proofs.YtiaiopdiooobiaaDoor.PDeflateBack Go.Proofs.YtiaiopdiooobiaaDoorW.PrintWords Go.Proofs.YtiaiopdiooobiaaDoorW.PrintLast Go.Proofs.YtiaiopdiooobiaaDoorW.PrintMore
set_option maxRecDepth 100000
set_option linter.unusedVariables false
set_option linter.unusedSimpArgs false

theorem wn (x : Int) (h0 : -9223372036854775808 ≤ x) (h : x ≤ 9223372036854775807) : wrap64 x = x := by unfold wrap64; omega
theorem un (x : Int) (h0 : 0 ≤ x) (h : x ≤ 18446744073709551615) : IntKind.u64.wrap x = x := IntWalk.u64_in x ⟨h0, h⟩
/-- A bit as a digit. -/
def bitc (x i : Nat) : ByteArray := if x / 2 ^ i % 2 = 1 then ⟨#[49]⟩ else ⟨#[48]⟩
theorem bitc_size (x i : Nat) : (bitc x i).size = 1 := by unfold bitc; split <;> rfl
/-- So many bits, behind a text. -/
def rowF (x : Nat) : Nat → ByteArray → ByteArray
  | 0, acc => acc
  | j + 1, acc => rowF x j (acc ++ bitc x j)
theorem shr_nat (x j : Nat) (h : j ≤ 60) : shr .i64 (x : Int) (IntKind.u64.wrap (j : Int)) = ((x / 2 ^ j : Nat) : Int) := by
  rw [un (j : Int) (by omega) (by omega)]
  show (x : Int) / 2 ^ min (j : Int).toNat 64 = _
  rw [Nat.min_eq_left (by omega)]
  simp
theorem size_app (a b : ByteArray) : (a ++ b).size = a.size + b.size := ByteArray.size_append
theorem digit (x j : Nat) (hx : x < 9223372036854775808) : strOfNums [wrap64 (48 + Go.bits .and .i64 ((x / 2 ^ j : Nat) : Int) 1) % 256] = bitc x j := by
  have h1 : x / 2 ^ j < 9223372036854775808 := Nat.lt_of_le_of_lt (Nat.div_le_self _ _) hx
  rw [Go.Proofs.and_one _ h1]
  unfold bitc
  have h2 : x / 2 ^ j % 2 < 2 := Nat.mod_lt _ (by decide)
  by_cases hb : x / 2 ^ j % 2 = 1
  · rw [if_pos hb, hb]; decide +kernel
  · rw [if_neg hb, show x / 2 ^ j % 2 = 0 by omega]; decide +kernel
end Go.Proofs.YtiaiopdiooobiaaDoor.My

/- The document's Codes answers what New does. -/
namespace Go.Proofs.YtiaiopdiooobiaaDoor.My
open Go.RowKit Go.Proofs.YtiaiopdiooobiaaDoor.Huf Go.Proofs.YtiaiopdiooobiaaDoor.PDeflateBack Go.Proofs.YtiaiopdiooobiaaDoorW.PrintWords Go.Proofs.YtiaiopdiooobiaaDoorW.PrintLast Go.Proofs.YtiaiopdiooobiaaDoorW.PrintMore
set_option maxRecDepth 100000
set_option linter.unusedVariables false
set_option linter.unusedSimpArgs false

def rowOf (L : List Int) (u : Nat) : ByteArray := rowF (code L u) (L.getD u 0).toNat ⟨#[]⟩
/-- Those that are laid so far: all of lengths below n, and of length n those ahead of t. -/
def outL (L : List Int) (n t : Nat) : List ByteArray := (List.range L.length).map fun u => if L.getD u 0 ≠ 0 ∧ (L.getD u 0 < (n : Int) ∨ L.getD u 0 = (n : Int) ∧ u < t) then rowOf L u else ⟨#[]⟩
theorem outL_len (L : List Int) (n t : Nat) : (outL L n t).length = L.length := by simp [outL]
theorem map_range_congr {α : Type} (n : Nat) (f g : Nat → α) (h : ∀ u, u < n → f u = g u) : (List.range n).map f = (List.range n).map g := by
  apply List.map_congr_left
  intro u hu
  exact h u (List.mem_range.1 hu)
theorem outL_skip (L : List Int) (n s : Nat) (h : L.getD s 0 ≠ (n : Int)) : outL L n (s + 1) = outL L n s := map_range_congr _ _ _ fun u hu => by
  have : (L.getD u 0 ≠ 0 ∧ (L.getD u 0 < (n : Int) ∨ L.getD u 0 = (n : Int) ∧ u < s + 1)) ↔ (L.getD u 0 ≠ 0 ∧ (L.getD u 0 < (n : Int) ∨ L.getD u 0 = (n : Int) ∧ u < s)) := by
    by_cases e : u = s
    · subst e
      exact ⟨fun ⟨a, b⟩ => ⟨a, b.elim .inl fun c => absurd c.1 h⟩, fun ⟨a, b⟩ => ⟨a, b.elim .inl fun c => absurd c.1 h⟩⟩
    · exact ⟨fun ⟨a, b⟩ => ⟨a, b.elim .inl fun c => .inr ⟨c.1, by omega⟩⟩, fun ⟨a, b⟩ => ⟨a, b.elim .inl fun c => .inr ⟨c.1, by omega⟩⟩⟩
  simp only [this]
theorem outL_set (L : List Int) (n s : Nat) (hn : n ≠ 0) (h : L.getD s 0 = (n : Int)) : (outL L n s).set s (rowOf L s) = outL L n (s + 1) := by
  apply List.ext_getElem
  · simp [outL]
  · intro u a b
    rw [List.getElem_set]
    simp only [outL, List.getElem_map, List.getElem_range]
    split
    · next e =>
      subst e
      rw [if_pos ⟨by rw [h]; omega, .inr ⟨h, by omega⟩⟩]
    · next e =>
      have : (L.getD u 0 ≠ 0 ∧ (L.getD u 0 < (n : Int) ∨ L.getD u 0 = (n : Int) ∧ u < s + 1)) ↔ (L.getD u 0 ≠ 0 ∧ (L.getD u 0 < (n : Int) ∨ L.getD u 0 = (n : Int) ∧ u < s)) :=
        ⟨fun ⟨a, b⟩ => ⟨a, b.elim .inl fun c => .inr ⟨c.1, by omega⟩⟩, fun ⟨a, b⟩ => ⟨a, b.elim .inl fun c => .inr ⟨c.1, by omega⟩⟩⟩
      simp only [this]
theorem outL_next (L : List Int) (n : Nat) : outL L n L.length = outL L (n + 1) 0 := map_range_congr _ _ _ fun u hu => by
  have : (L.getD u 0 ≠ 0 ∧ (L.getD u 0 < (n : Int) ∨ L.getD u 0 = (n : Int) ∧ u < L.length)) ↔ (L.getD u 0 ≠ 0 ∧ (L.getD u 0 < ((n + 1 : Nat) : Int) ∨ L.getD u 0 = ((n + 1 : Nat) : Int) ∧ u < 0)) :=
    ⟨fun ⟨a, b⟩ => ⟨a, b.elim (fun c => .inl (by omega)) fun c => .inl (by omega)⟩, fun ⟨a, b⟩ => ⟨a, b.elim (fun c => by by_cases e : L.getD u 0 = (n : Int); exact .inr ⟨e, hu⟩; exact .inl (by omega)) fun c => by omega⟩⟩
  simp only [this]
theorem getD_ok (L : List Int) (hok : okL L = true) (u : Nat) (hu : u < L.length) : 0 ≤ L.getD u 0 ∧ L.getD u 0 ≤ 15 := by
  have hmem : L.getD u 0 ∈ L := by rw [List.getD_eq_getElem?_getD, List.getElem?_eq_getElem hu]; exact List.getElem_mem _
  have := List.all_eq_true.1 hok _ hmem
  simpa using this
theorem outL_none (L : List Int) (hok : okL L = true) : List.replicate L.length (⟨#[]⟩ : ByteArray) = outL L 1 0 := by
  apply List.ext_getElem
  · simp [outL]
  · intro u a b
    have hu : u < L.length := by simpa using a
    have h := getD_ok L hok u hu
    simp only [outL, List.getElem_replicate, List.getElem_map, List.getElem_range]
    rw [if_neg (fun c => by rcases c.2 with d | d <;> omega)]
theorem shl_one (n : Nat) (h : n ≤ 40) : shl .i64 1 (IntKind.u64.wrap (n : Int)) = ((2 ^ n : Nat) : Int) := by
  rw [un (n : Int) (by omega) (by omega)]
  have h1 : 2 ^ n ≤ 2 ^ 40 := Nat.pow_le_pow_right (by decide) h
  show IntKind.i64.wrap (1 * 2 ^ min (n : Int).toNat 64) = _
  rw [Nat.min_eq_left (by omega), Int.toNat_natCast, Int.one_mul, show ((2 : Int) ^ n) = ((2 ^ n : Nat) : Int) by push_cast; rfl, IntKind.wrap_i64]
  generalize 2 ^ n = q at *
  omega
def onesF (L : List Int) (n s : Nat) : Nat := if n = 1 then cn (L.take s) 1 else cn L 1
theorem step_mul (a b q : Nat) : (a + (b + 1)) * q = (a + b) * q + q := by rw [← Nat.add_assoc]; exact Nat.succ_mul _ _
theorem wr2 (a b n : Nat) (h15 : n ≤ 15) (hle : a + b ≤ 2 ^ n) : wrap64 ((((a + b) * 2 ^ (15 - n) : Nat) : Int) + ((2 ^ (15 - n) : Nat) : Int)) = (((a + (b + 1)) * 2 ^ (15 - n) : Nat) : Int) := by
  have hu : 2 ^ n * 2 ^ (15 - n) = 2 ^ 15 := by rw [← Nat.pow_add]; congr 1; omega
  have hu2 : (a + b) * 2 ^ (15 - n) ≤ 2 ^ 15 := by rw [← hu]; exact Nat.mul_le_mul_right _ hle
  have hu3 : 2 ^ (15 - n) ≤ 2 ^ 15 := Nat.pow_le_pow_right (by decide) (by omega)
  rw [step_mul]
  clear hu hle
  generalize (a + b) * 2 ^ (15 - n) = q1 at *
  generalize 2 ^ (15 - n) = q2 at *
  have h1 : q1 ≤ 32768 := hu2
  have h2 : q2 ≤ 32768 := hu3
  clear hu2 hu3
  rw [wn _ (by omega) (by omega)]
  omega
theorem wr1 (x : Nat) (h : x ≤ 1000000) : wrap64 ((x : Int) + 1) = ((x + 1 : Nat) : Int) := by rw [wn _ (by omega) (by omega)]; omega
theorem beg_le2 (L : List Int) (hl : L.length ≤ 320) (n s : Nat) (h15 : n ≤ 15) : beg L n + cn (L.take s) n ≤ 1000000 := by
  have h4 := beg_le L n
  have h5 := cn_take_le L s n
  have h6 := cn_le L n
  have h7 : n * L.length ≤ 15 * 320 := Nat.mul_le_mul h15 hl
  omega
theorem ones_le (L : List Int) (hl : L.length ≤ 320) (n s : Nat) : onesF L n s ≤ 1000000 := by
  unfold onesF
  split
  · have := cn_take_le L s 1; have := cn_le L 1; omega
  · have := cn_le L 1; omega
theorem pow15 (n x : Nat) (h15 : n ≤ 15) (h : x ≤ 2 ^ n) : x ≤ 1000000 := by
  have h1 : 2 ^ n ≤ 2 ^ 15 := Nat.pow_le_pow_right (by decide) h15
  exact Nat.le_trans h (Nat.le_trans h1 (by decide))
/-- How many codes there are up to a length, of that length. -/
def pre (L : List Int) (n : Nat) : Nat := fst L (n - 1) + c0 L (n - 1)
theorem pre_succ (L : List Int) (n : Nat) (h1 : 1 ≤ n) : pre L (n + 1) = fst L n + cn L n := by
  unfold pre
  rw [Nat.add_sub_cancel]
  unfold c0
  rw [if_neg (by omega)]
theorem fst_pre (L : List Int) (n : Nat) (h1 : 1 ≤ n) : fst L n = pre L n * 2 := by
  obtain ⟨m, rfl⟩ : ∃ m, n = m + 1 := ⟨n - 1, by omega⟩
  rw [fst]
  unfold pre
  rw [Nat.add_sub_cancel, Nat.mul_comm]
theorem used_pre (L : List Int) (n : Nat) (h1 : 1 ≤ n) (h15 : n ≤ 15) : pre L n * 2 ^ (16 - n) = fst L n * 2 ^ (15 - n) := by
  rw [fst_pre L n h1, Nat.mul_assoc, show 16 - n = (15 - n) + 1 by omega, Nat.pow_succ, Nat.mul_comm 2 (2 ^ (15 - n))]
theorem beg_succ (L : List Int) (n : Nat) (h1 : 1 ≤ n) : beg L (n + 1) = beg L n + cn L n := by rw [beg]; unfold c0; rw [if_neg (by omega)]
theorem aloneL_iff (L : List Int) : aloneL L = true ↔ (beg L 16 = 0 ∨ beg L 16 = 1 ∧ cn L 1 = 1) := by
  unfold aloneL c0
  simp
end Go.Proofs.YtiaiopdiooobiaaDoor.My

/- The walk of huff.Code's short. -/
namespace Go.Proofs.YtiaiopdiooobiaaDoor.My
open Go.RowKit Go.Proofs.YtiaiopdiooobiaaDoor.Huf Go.Proofs.YtiaiopdiooobiaaDoorW.PrintWords Go.Proofs.YtiaiopdiooobiaaDoorW.PrintLast Go.Proofs.YtiaiopdiooobiaaDoorW.PrintMore
set_option maxRecDepth 100000
set_option linter.unusedVariables false
set_option linter.unusedSimpArgs false

theorem wr_lo (c len n : Nat) (hc : c < 2 ^ len) (h : len ≤ n) (h15 : n ≤ 15) : wrap64 ((c : Int) * 2 ^ (n - len)) = ((c * 2 ^ (n - len) : Nat) : Int) ∧ c * 2 ^ (n - len) ≤ 32768 := by
  have h1 : c * 2 ^ (n - len) ≤ 2 ^ len * 2 ^ (n - len) := Nat.mul_le_mul_right _ (Nat.le_of_lt hc)
  rw [← Nat.pow_add, show len + (n - len) = n by omega] at h1
  have h2 : 2 ^ n ≤ 2 ^ 15 := Nat.pow_le_pow_right (by decide) h15
  have h3 : c * 2 ^ (n - len) ≤ 32768 := Nat.le_trans h1 h2
  have e : (c : Int) * 2 ^ (n - len) = ((c * 2 ^ (n - len) : Nat) : Int) := by push_cast; rfl
  rw [e]
  clear h1 h2 e
  generalize c * 2 ^ (n - len) = q at *
  exact ⟨by unfold wrap64; omega, h3⟩
theorem wr_one (n : Nat) (h15 : n ≤ 15) : wrap64 (2 ^ n) = ((2 ^ n : Nat) : Int) ∧ 2 ^ n ≤ 32768 := by
  have h2 : 2 ^ n ≤ 2 ^ 15 := Nat.pow_le_pow_right (by decide) h15
  have h3 : 2 ^ n ≤ 32768 := h2
  have e : (2 : Int) ^ n = ((2 ^ n : Nat) : Int) := by push_cast; rfl
  rw [e]
  clear h2 e
  generalize 2 ^ n = q at *
  exact ⟨by unfold wrap64; omega, h3⟩
theorem wr_hi (a b : Nat) (h1 : a ≤ 32768) (h2 : b ≤ 32768) : wrap64 ((a : Int) + (b : Int)) = ((a + b : Nat) : Int) := by unfold wrap64; omega
theorem meets_eq (L : List Int) (c len n : Nat) : meets L c len n = (decide (0 < cn L n) && (decide (fst L n < c * 2 ^ (n - len) + 2 ^ (n - len)) && decide (c * 2 ^ (n - len) < fst L n + cn L n))) := by
  unfold meets
  rw [Nat.succ_mul]
set_option maxHeartbeats 4000000 in
set_option maxRecDepth 100000 in
theorem short_calls (w : World) (lo hi g : Nat) (L : List Int) (k : CodeAt w lo hi g L) (hl : L.length ≤ 1000000) (hov : anyOver L 15 1 = false) (c len : Nat) (hc : c < 2 ^ len) (hlen : len ≤ 15) :
    Calls Tryd.prog 80 #[.pointer (some ⟨g, 0, none⟩), .int .i64 c, .int .i64 len] w fun e w' => e = .returned (errV (some (if anyMeets L c len (15 - len) (len + 1) then 10 else 2))) ∧ ∃ m, w' = w.drewN m := by
  obtain ⟨r, hr⟩ : ∃ r : Int, r = if anyMeets L c len (15 - len) (len + 1) then 10 else 2 := ⟨_, rfl⟩
  rw [← hr]
  have HR := Aside0.mk hr
  obtain ⟨A, A1, A2, c0, c1, c2, S, k, r0, r1, r2, hS, h1, h2⟩ := k.out
  have HK0 := Aside0.mk k
  have HOv := Aside0.mk hov
  have HLn := Aside0.mk hl
  have hlen2 : (len : Int) ≤ 15 := by omega
  have HC := Aside0.mk hc
  clear k r0 r1 r2 hS hov hl hc hr
  go_enter Tryd.func80, Tryd.ntmps80
  go_wp2_with fail
  go_loopg [7] 16 (fun kq v7 wr => ∃ d : Nat, v7 = .int .i64 ((len : Int) + 1 + d) ∧ len + 1 + d ≤ 16 ∧ Aside0 (kq = 16 - d) ∧ Aside0 (∃ m, wr = w.drewN m) ∧ Aside0 (anyMeets L c len (15 - len - d) (len + 1 + d) = anyMeets L c len (15 - len) (len + 1)))
  case atStart => exact ⟨0, by simp, by omega, ⟨rfl⟩, ⟨0, rfl⟩, ⟨rfl⟩⟩
  case round =>
    obtain ⟨d, rfl, hd, HK, HW, HA⟩ := hrel
    obtain ⟨m, rfl⟩ := HW.out
    by_cases hlt : len + 1 + d ≤ 15
    · have hlt' : (len : Int) + 1 + (d : Int) ≤ 15 := by omega
      go_upto_region 6 with fail
      obtain ⟨w1, b1⟩ := wr_lo c len (len + 1 + d) HC.out (by omega) hlt
      obtain ⟨w2, b2⟩ := wr_one (len + 1 + d - len) (by omega)
      rw [w1, w2, wr_hi _ _ b1 b2]
      have hme := meets_eq L c len (len + 1 + d)
      have hov := over_all L 15 1 HOv.out
      have hF := pow15 (len + 1 + d) _ hlt (fst_le L (len + 1 + d) (fun j h1 h2 => hov j h1 (by omega)))
      have hC := Nat.le_trans (cn_le L (len + 1 + d)) HLn.out
      have cf := HK0.out.cf (len + 1 + d) (by omega)
      rw [upto_get _ _ (len + 1 + d) (by omega) (by omega)] at cf
      have cm := HK0.out.cm (len + 1 + d) (by omega)
      rw [tab_get _ (len + 1 + d) (by omega), show Huf.c0 L (len + 1 + d) = cn L (len + 1 + d) by unfold Huf.c0; rw [if_neg (by omega)]] at cm
      have hany : anyMeets L c len (15 - len - d) (len + 1 + d) = (meets L c len (len + 1 + d) || anyMeets L c len (15 - len - (d + 1)) (len + 1 + (d + 1))) := by
        rw [show 15 - len - d = (15 - len - (d + 1)) + 1 by omega]
        rfl
      have HAny := Aside0.mk hany
      have hFi : ((fst L (len + 1 + d) : Nat) : Int) ≤ 1000000 := by omega
      have hCi : ((cn L (len + 1 + d) : Nat) : Int) ≤ 1000000 := by omega
      have HN15 := Aside0.mk hlt
      clear w1 w2 hov hF hC hany
      generalize c * 2 ^ (len + 1 + d - len) = X at *
      generalize 2 ^ (len + 1 + d - len) = Y at *
      generalize fst L (len + 1 + d) = F at *
      generalize cn L (len + 1 + d) = N at *
      have bx : ((X + Y : Nat) : Int) ≤ 65536 := by omega
      by_cases q1 : 0 < N
      · have q1' : (0 : Int) < (N : Int) := by omega
        by_cases q2 : F < X + Y
        · have q2' : (F : Int) < ((X + Y : Nat) : Int) := by omega
          by_cases q3 : X < F + N
          · have q3' : (X : Int) < (F : Int) + (N : Int) := by omega
            have HM : Aside0 (r = 10) := ⟨by
              have h1 : meets L c len (len + 1 + d) = true := by rw [hme]; simp [q1, q2, q3]
              have h2 := HAny.out
              rw [h1, Bool.true_or, HA.out] at h2
              rw [HR.out, if_pos h2]⟩
            clear hme HAny
            generalize X + Y = Z at *
            go_quiet (fail)
            go_wp2_with fail
            go_ret
            have hr2 := HM.out
            subst hr2
            exact ⟨rfl, _, rfl⟩
          · have q3' : ¬ (X : Int) < (F : Int) + (N : Int) := by omega
            have HM : Aside0 (anyMeets L c len (15 - len - (d + 1)) (len + 1 + (d + 1)) = anyMeets L c len (15 - len) (len + 1)) := ⟨by
              have h1 : meets L c len (len + 1 + d) = false := by rw [hme]; simp; omega
              have h2 := HAny.out
              rw [h1, Bool.false_or, HA.out] at h2
              exact h2.symm⟩
            clear hme HAny
            generalize X + Y = Z at *
            go_quiet (fail)
            go_wp2_with fail
            have e1 : (len : Int) + 1 + (d : Int) + 1 = (len : Int) + 1 + ((d + 1 : Nat) : Int) := by omega
            rw [e1]
            go_roundg (16 - (d + 1))
            case measure => have := HK.out; omega
            case rel => exact ⟨d + 1, rfl, by have := HN15.out; omega, ⟨rfl⟩, ⟨_, rfl⟩, HM⟩
        · have q2' : ¬ (F : Int) < ((X + Y : Nat) : Int) := by omega
          have HM : Aside0 (anyMeets L c len (15 - len - (d + 1)) (len + 1 + (d + 1)) = anyMeets L c len (15 - len) (len + 1)) := ⟨by
            have h1 : meets L c len (len + 1 + d) = false := by rw [hme]; simp; omega
            have h2 := HAny.out
            rw [h1, Bool.false_or, HA.out] at h2
            exact h2.symm⟩
          clear hme HAny
          generalize X + Y = Z at *
          go_quiet (fail)
          go_wp2_with fail
          have e1 : (len : Int) + 1 + (d : Int) + 1 = (len : Int) + 1 + ((d + 1 : Nat) : Int) := by omega
          rw [e1]
          go_roundg (16 - (d + 1))
          case measure => have := HK.out; omega
          case rel => exact ⟨d + 1, rfl, by have := HN15.out; omega, ⟨rfl⟩, ⟨_, rfl⟩, HM⟩
      · have q1' : ¬ (0 : Int) < (N : Int) := by omega
        have HM : Aside0 (anyMeets L c len (15 - len - (d + 1)) (len + 1 + (d + 1)) = anyMeets L c len (15 - len) (len + 1)) := ⟨by
          have h1 : meets L c len (len + 1 + d) = false := by rw [hme]; simp; omega
          have h2 := HAny.out
          rw [h1, Bool.false_or, HA.out] at h2
          exact h2.symm⟩
        clear hme HAny
        generalize X + Y = Z at *
        go_quiet (fail)
        go_wp2_with fail
        have e1 : (len : Int) + 1 + (d : Int) + 1 = (len : Int) + 1 + ((d + 1 : Nat) : Int) := by omega
        rw [e1]
        go_roundg (16 - (d + 1))
        case measure => have := HK.out; omega
        case rel => exact ⟨d + 1, rfl, by have := HN15.out; omega, ⟨rfl⟩, ⟨_, rfl⟩, HM⟩
    · have hlt' : ¬ (len : Int) + 1 + (d : Int) ≤ 15 := by omega
      have HM : Aside0 (anyMeets L c len (15 - len) (len + 1) = false) := ⟨by rw [← HA.out, show 15 - len - d = 0 by omega]; rfl⟩
      go_wp2_with fail
      go_ret
      have hr2 := HR.out
      rw [HM.out] at hr2
      subst hr2
      exact ⟨rfl, m, rfl⟩
end Go.Proofs.YtiaiopdiooobiaaDoor.My

/- The walks of crossdocknum's Num and Bytes. -/
namespace Go.Proofs.YtiaiopdiooobiaaDoor.My
open Go.RowKit Go.Proofs.YtiaiopdiooobiaaDoorW.PrintWords Go.Proofs.YtiaiopdiooobiaaDoorW.PrintLast Go.Proofs.YtiaiopdiooobiaaDoorW.PrintMore
set_option maxRecDepth 100000

def numE : Option Int → Int
  | none => 0
  | some c => c
def Byts (l : List Int) : Prop := ∀ x ∈ l, 0 ≤ x ∧ x < 256
/-- The text of byte values. -/
def byts (l : List Int) : List UInt8 := l.map fun n => UInt8.ofNat n.toNat
theorem str_toList (l : List Int) : (strOfNums l).toList = byts l := by rw [ByteArray.toList_eq]; rfl
theorem byts_inj {a b : List Int} (ha : Byts a) (hb : Byts b) (h1 : byts a = byts b) : a = b := by
  have hi : ∀ (x y : Int), 0 ≤ x ∧ x < 256 → 0 ≤ y ∧ y < 256 → UInt8.ofNat x.toNat = UInt8.ofNat y.toNat → x = y := by
    intro x y hx hy he
    have := congrArg UInt8.toNat he
    simp only [UInt8.toNat_ofNat'] at this
    omega
  unfold byts at h1
  induction a generalizing b with
  | nil => cases b with
    | nil => rfl
    | cons y b => simp at h1
  | cons x a ih =>
    cases b with
    | nil => simp at h1
    | cons y b =>
      simp only [List.map_cons, List.cons.injEq] at h1
      rw [hi x y (ha x (by simp)) (hb y (by simp)) h1.1, ih (fun z hz => ha z (by simp [hz])) (fun z hz => hb z (by simp [hz])) h1.2]
theorem bytes_calls (A B : Option Addr) (n m c d : Nat) (xs ys : List Int) (w : World) (hx : (Kd.int .u8).C w A n xs) (hy : (Kd.int .u8).C w B m ys) :
    Calls Tryd.prog 7 #[.slice A n c, .slice B m d] w fun r w' => r = .returned (.bool (byts xs == byts ys)) ∧ w = w' := by
  have k1 := Kd.C_string (P := Tryd.prog) (src := 22) (dst := 9) (c := c) Tryd.underlying22 Tryd.underlying5 Tryd.underlying9 hx
  have k2 := Kd.C_string (P := Tryd.prog) (src := 22) (dst := 9) (c := d) Tryd.underlying22 Tryd.underlying5 Tryd.underlying9 hy
  rw [← str_toList, ← str_toList]
  generalize strOfNums xs = s at k1 ⊢
  generalize strOfNums ys = t at k2 ⊢
  clear hx hy
  go_enter Tryd.func7, Tryd.ntmps7
  go_wp2
  go_ret
  exact ⟨rfl, rfl⟩
/-- The same bytes: yes. -/
theorem bytes_yes (A B : Option Addr) (n m c d : Nat) (xs : List Int) (w : World) (hx : (Kd.int .u8).C w A n xs) (hy : (Kd.int .u8).C w B m xs) :
    Calls Tryd.prog 7 #[.slice A n c, .slice B m d] w fun r w' => r = .returned (.bool true) ∧ w = w' :=
  (bytes_calls A B n m c d xs xs w hx hy).mono fun _ _ ⟨h1, h2⟩ => ⟨by rw [h1]; simp, h2⟩
end Go.Proofs.YtiaiopdiooobiaaDoor.My

/- The walk of huff.Code's Take. -/
namespace Go.Proofs.YtiaiopdiooobiaaDoor.My
open Go.RowKit Go.Proofs.YtiaiopdiooobiaaDoor.Huf Go.Proofs.YtiaiopdiooobiaaDoorW.PrintWords Go.Proofs.YtiaiopdiooobiaaDoorW.PrintLast Go.Proofs.YtiaiopdiooobiaaDoorW.PrintMore
set_option maxRecDepth 100000
set_option linter.unusedVariables false
set_option linter.unusedSimpArgs false

theorem has_le (L : List Int) (hok : okL L = true) (s n : Nat) (h : Has L s n) : n ≤ 15 := by
  have h1 := h.1
  have hmem : L.getD s 0 ∈ L := by rw [List.getD_eq_getElem?_getD, List.getElem?_eq_getElem h1]; exact List.getElem_mem _
  have h2 := List.all_eq_true.1 hok _ hmem
  have h3 : 0 ≤ L.getD s 0 ∧ L.getD s 0 ≤ 15 := by simpa using h2
  rw [h.2.2] at h3
  omega
theorem takeR_short (L : List Int) (hok : okL L = true) (V a d : Nat) (hno : ∀ s n, n ≤ d → ¬ Fits L V a d s n) : TakeR L V a d 0 0 (some (if anyMeets L (cd V a d) d (15 - d) (d + 1) then 10 else 2)) := by
  have hno' : ∀ s n, ¬ Fits L V a d s n := fun s n h => hno s n h.2.1 h
  by_cases h : anyMeets L (cd V a d) d (15 - d) (d + 1) = true
  · rw [if_pos h]
    obtain ⟨m, h1, h2, h3⟩ := (anyMeets_iff L (cd V a d) d (15 - d) (d + 1)).1 h
    obtain ⟨s, hs, e⟩ := (meets_iff L (cd V a d) d m (by omega)).1 h3
    exact .ends hno' s m ⟨hs, by omega, e⟩
  · rw [if_neg h]
    refine .form hno' fun s n hc => h ((anyMeets_iff L (cd V a d) d (15 - d) (d + 1)).2 ⟨n, hc.2.1, ?_, (meets_iff L (cd V a d) d n hc.1.2.1).2 ⟨s, hc.1, hc.2.2⟩⟩)
    have := has_le L hok s n hc.1
    omega
theorem takeR_form (L : List Int) (hok : okL L = true) (V a left : Nat) (hl : 15 ≤ left) (hno : ∀ s n, n ≤ 15 → ¬ Fits L V a left s n) : TakeR L V a left 0 0 (some 2) :=
  .form (fun s n h => hno s n (has_le L hok s n h.1) h) (fun s n h => by have := has_le L hok s n h.1; have := h.2.1; omega)
theorem Gone.grown {w w1 : World} {g : Nat} (h : Gone w w1 g) : w.grownBy w1 (some g) := ⟨h.os, h.tape, h.output, h.keep.1, fun i hi hr => h.keep.2 i hi (fun e => hr (by rw [e])) (by simp)⟩
theorem or_nat63 (a b : Nat) (ha : a < 2 ^ 62) (hb : b < 2 ^ 62) : Go.bits .or .i64 a b = ((a ||| b : Nat) : Int) := by
  have hl : a ||| b < 2 ^ 62 := Nat.or_lt_two_pow ha hb
  show IntKind.i64.wrap ((BitVec.ofInt 64 (a : Int) ||| BitVec.ofInt 64 (b : Int)).toNat : Int) = _
  rw [BitVec.ofInt_natCast, BitVec.ofInt_natCast, BitVec.toNat_or, BitVec.toNat_ofNat, BitVec.toNat_ofNat, Nat.mod_eq_of_lt (by omega), Nat.mod_eq_of_lt (by omega), IntKind.wrap_i64]
  omega
theorem next_bit (c b : Nat) (hc : c ≤ 32768) (hb : b < 2) : Go.bits .or .i64 ((c : Int) * 2) (b : Int) = ((2 * c + b : Nat) : Int) := by
  have h := or_nat63 (2 * c) b (by omega) (by omega)
  rw [show ((2 * c : Nat) : Int) = (c : Int) * 2 by omega] at h
  rw [h, Nat.or_comm, show 2 * c = c * 2 ^ 1 by omega, or_low b c 1 (by omega), Nat.add_comm]
theorem held_bit (V a th d : Nat) (hd : d < th) (h15 : th ≤ 15) : Go.bits .and .u32 (((V / 2 ^ a % 2 ^ th : Nat) : Int) / 2 ^ d) 1 = ((bv V (a + d) : Nat) : Int) := by
  have h1 : V / 2 ^ a % 2 ^ th < 2 ^ th := Nat.mod_lt _ (Nat.two_pow_pos _)
  have h2 : 2 ^ th ≤ 2 ^ 15 := Nat.pow_le_pow_right (by decide) h15
  have h3 : V / 2 ^ a % 2 ^ th / 2 ^ d < 2 ^ 32 := Nat.lt_of_le_of_lt (Nat.div_le_self _ _) (Nat.lt_of_lt_of_le h1 (Nat.le_trans h2 (by decide)))
  rw [show ((V / 2 ^ a % 2 ^ th : Nat) : Int) / 2 ^ d = ((V / 2 ^ a % 2 ^ th / 2 ^ d : Nat) : Int) by simp, show (1 : Int) = ((1 : Nat) : Int) from rfl, and_nat32 _ 1 h3 (by decide), Nat.and_one_is_mod]
  congr 1
  unfold bv
  obtain ⟨e, rfl⟩ : ∃ e, th = d + (1 + e) := ⟨th - d - 1, by omega⟩
  rw [Nat.pow_add 2 d, Nat.mod_mul_right_div_self, Nat.pow_add 2 a d, ← Nat.div_div_eq_div_mul, Nat.pow_add, Nat.mod_mul_right_mod]
set_option maxHeartbeats 4000000 in
set_option maxRecDepth 100000 in
theorem take_calls (w : World) (lo hi g : Nat) (L : List Int) (k : CodeAt w lo hi g L) (hl : L.length ≤ 320) (hok : okL L = true) (hov : anyOver L 15 1 = false) (B gr : Nat) (v : Value) (V lb a : Nat) (hr : Rdr w B gr v V lb a) (hlb : lb ≤ 1000000) (hgr : gr < lo ∨ hi ≤ gr) :
    Calls Tryd.prog 73 #[.pointer (some ⟨g, 0, none⟩), .pointer (some ⟨gr, 0, none⟩)] w fun e w' => ∃ x n er, TakeR L V a (8 * lb - a) x n er ∧ e = .returned (.tuple #[.int .i64 x, errV er]) ∧ Rdr w' B gr v V lb (a + n) ∧ Gone w w' gr := by
  have HP : Aside0 (Calls Tryd.prog 72 #[.pointer (some ⟨gr, 0, none⟩), .int .i64 15] w fun e w' => e = .returned (.tuple #[.int .u32 (V / 2 ^ a % 2 ^ (min 15 (8 * lb - a)) : Nat), .int .i64 (min 15 (8 * lb - a) : Nat)]) ∧ ∃ m, w' = w.drewN m) := ⟨peek_calls w B gr v V lb a 15 (by omega) hr (by omega)⟩
  have HB : Aside0 (∀ (wx : World) (n : Nat), Rdr wx B gr v V lb a → Calls Tryd.prog 44 #[.pointer (some ⟨gr, 0, none⟩), .int .i64 n] wx fun e w' => e = .returned (.tuple #[.int .u32 (bitsX V a (8 * lb - a) n), errV (bitsE n (8 * lb - a))]) ∧ Rdr w' B gr v V lb (if (bitsE n (8 * lb - a)).isNone then a + n else a) ∧ Gone wx w' gr) := ⟨fun wx n h => rbits_calls wx B gr v V lb a n h (by omega)⟩
  have HS : Aside0 (∀ (m c len : Nat), c < 2 ^ len → len ≤ 15 → Calls Tryd.prog 80 #[.pointer (some ⟨g, 0, none⟩), .int .i64 c, .int .i64 len] (w.drewN m) fun e w' => e = .returned (errV (some (if anyMeets L c len (15 - len) (len + 1) then 10 else 2))) ∧ ∃ m', w' = (w.drewN m).drewN m') := ⟨fun m c len h1 h2 => short_calls _ lo hi g L (k.drewN m) (by omega) hov c len h1 h2⟩
  have HK := Aside0.mk k
  have HR := Aside0.mk hr
  have HOk := Aside0.mk hok
  have HOv := Aside0.mk hov
  have HGr := Aside0.mk hgr
  have HLe := Aside0.mk hr.le
  obtain ⟨A, A1, A2, c, c1, c2, S, kc, r0, r1, r2, hS, h1, h2⟩ := k.out
  have HC := Aside0.mk kc
  have HLn := Aside0.mk hl
  clear kc r0 r1 r2 hS k hr hok hov hgr hl
  obtain ⟨left, hleft⟩ : ∃ left, left = 8 * lb - a := ⟨_, rfl⟩
  rw [← hleft] at HP HB ⊢
  have HLeft := Aside0.mk hleft
  obtain ⟨th, hth⟩ : ∃ th, th = min 15 left := ⟨_, rfl⟩
  rw [← hth] at HP
  have HTh := Aside0.mk hth
  obtain ⟨held, hheld⟩ : ∃ held, held = V / 2 ^ a % 2 ^ th := ⟨_, rfl⟩
  rw [← hheld] at HP
  have HHeld := Aside0.mk hheld
  have t15 : (th : Int) ≤ 15 := by omega
  clear hleft hth hheld
  go_enter Tryd.func73, Tryd.ntmps73
  go_wp2_with (go_at_call 72; refine (HP.out).mono ?_; rintro e w1 ⟨rfl, m1, rfl⟩)
  go_loopg [8, 9] 15 (fun kq v8 v9 wr => ∃ d : Nat, v9 = .int .i64 ((d : Int) + 1) ∧ v8 = .int .i64 ((cd V a d : Nat) : Int) ∧ d ≤ 15 ∧ Aside0 (kq = 15 - d) ∧ Aside0 (d ≤ th) ∧ Aside0 (∃ m, wr = w.drewN m) ∧ Aside0 (∀ s n, n ≤ d → ¬ Fits L V a left s n))
  case atStart => exact ⟨0, rfl, rfl, by omega, ⟨rfl⟩, ⟨Nat.zero_le _⟩, ⟨m1, rfl⟩, ⟨fun s n hn h => h.1.2.1 (by omega)⟩⟩
  case round =>
    obtain ⟨d, rfl, rfl, hd, HKq, HDt, HW, HNo⟩ := hrel
    obtain ⟨m, rfl⟩ := HW.out
    by_cases hlt : d < 15
    · have hlt' : (d : Int) + 1 ≤ 15 := by omega
      by_cases hth : d < th
      · have hth' : (d : Int) + 1 ≤ (th : Int) := by omega
        have hcd := cd_lt V a d
        have h2d : 2 ^ d ≤ 2 ^ 15 := Nat.pow_le_pow_right (by decide) hd
        have h32 : cd V a d ≤ 32768 := Nat.le_trans (Nat.le_of_lt hcd) h2d
        have hcdi : ((cd V a d : Nat) : Int) ≤ 32768 := by omega
        have HCd := Aside0.mk hcd
        have hnext : Go.bits .or .i64 ((cd V a d : Int) * 2) (wrap64 (Go.bits .and .u32 ((held : Int) / 2 ^ d) 1)) = ((cd V a (d + 1) : Nat) : Int) := by
          have hb := bv_lt V (a + d)
          rw [HHeld.out, held_bit V a th d hth (by omega), wn _ (by omega) (by omega), next_bit _ _ h32 hb, cd]
        have hcd1 := cd_lt V a (d + 1)
        have h2d1 : 2 ^ (d + 1) ≤ 2 ^ 15 := Nat.pow_le_pow_right (by decide) hlt
        have h321 : cd V a (d + 1) ≤ 32768 := Nat.le_trans (Nat.le_of_lt hcd1) h2d1
        have hcdi1 : ((cd V a (d + 1) : Nat) : Int) ≤ 32768 := by omega
        have p1 : (0 : Int) ≤ ((cd V a (d + 1) : Nat) : Int) := by omega
        clear hcd h2d h32 hcd1 h2d1 h321
        go_upto_region 11 with fail
        clear hnext hcdi HCd
        have hF := pow15 (d + 1) _ (by omega) (fst_le L (d + 1) (fun j h1 h2 => over_all L 15 1 HOv.out j h1 (by omega)))
        have hN := Nat.le_trans (cn_le L (d + 1)) HLn.out
        have cf := HC.out.cf (d + 1) (by omega)
        rw [upto_get _ _ (d + 1) (by omega) (by omega)] at cf
        have cm := HC.out.cm (d + 1) (by omega)
        rw [tab_get _ (d + 1) (by omega), show Huf.c0 L (d + 1) = cn L (d + 1) by unfold Huf.c0; rw [if_neg (by omega)]] at cm
        have bF : ((fst L (d + 1) : Nat) : Int) ≤ 1000000 := by omega
        have bN : ((cn L (d + 1) : Nat) : Int) ≤ 320 := by omega
        have hit := range_has L (d + 1) (cd V a (d + 1)) (by omega)
        have HHit := Aside0.mk hit
        have hmiss : ∀ s n, n ≤ d + 1 → ¬ (fst L (d + 1) ≤ cd V a (d + 1) ∧ cd V a (d + 1) < fst L (d + 1) + cn L (d + 1)) → ¬ Fits L V a left s n := fun s n hn hno h => by
          by_cases e : n = d + 1
          · subst e
            have := has_range L s (d + 1) h.1
            rw [h.2.2] at this
            exact hno this
          · exact HNo.out s n (by omega) h
        have HMiss := Aside0.mk hmiss
        have HTHD := Aside0.mk hth
        clear hF hN hit hmiss
        generalize hXe : cd V a (d + 1) = X at *
        generalize hFe : fst L (d + 1) = F at *
        generalize hNe : cn L (d + 1) = N at *
        have HXe := Aside0.mk hXe
        have HFe := Aside0.mk hFe
        have HNe := Aside0.mk hNe
        clear hXe hFe hNe
        by_cases q1 : F ≤ X
        · have q1' : (0 : Int) ≤ (X : Int) - (F : Int) := by omega
          by_cases q2 : X < F + N
          · have q2' : (X : Int) - (F : Int) < (N : Int) := by omega
            obtain ⟨s, hs, hsc⟩ := range_has L (d + 1) X (by omega) (by rw [HFe.out]; exact q1) (by rw [HFe.out, HNe.out]; exact q2)
            have hfit : Fits L V a left s (d + 1) := ⟨hs, by have := HTh.out; have := HTHD.out; omega, by rw [hsc, HXe.out]⟩
            have HFit := Aside0.mk hfit
            have hcs := code_has L s (d + 1) hs
            rw [hsc, HFe.out] at hcs
            have hps := pos_eq L s (d + 1) hs.2.2
            have hpin := pos_in L s (d + 1) hs.1 (by omega) hlt hs.2.2
            rw [← hps] at hpin
            have HB1 : Aside0 (Calls Tryd.prog 44 #[.pointer (some ⟨gr, 0, none⟩), .int .i64 ((d : Int) + 1)] (w.drewN m) fun e w' => ∃ x, e = .returned (.tuple #[.int .u32 x, .nilIface]) ∧ Rdr w' B gr v V lb (a + (d + 1)) ∧ Gone (w.drewN m) w' gr) := ⟨by
              have h := HB.out (w.drewN m) (d + 1) (HR.out.drewN m)
              have hE : bitsE ((d + 1 : Nat) : Int) left = none := by
                unfold bitsE inW
                rw [if_pos (by simp; omega), if_pos (by have := hfit.2.1; omega)]
              rw [hE] at h
              rw [show ((d + 1 : Nat) : Int) = (d : Int) + 1 by omega] at h
              refine h.mono ?_
              rintro e w' ⟨rfl, h1, h2⟩
              exact ⟨_, rfl, h1, h2⟩⟩
            have hidx : ((beg L (d + 1) : Nat) : Int) + ((X : Int) - (F : Int)) = ((pos L s : Nat) : Int) := by omega
            have HPin := Aside0.mk hpin
            have HHs := Aside0.mk hs
            clear hfit hcs hps hpin hsc hs
            go_wp2_with fail
            refine (HB1.out).mono ?_
            rintro e w2 ⟨xb, rfl, hr2, hg2⟩
            have k2 := (HK.out.drewN m).grown hg2.grown (fun r e => by cases e; exact HGr.out)
            obtain ⟨A', A1', A2', c', c1', c2', S', kc2, r02, r12, r22, hS2, _, _⟩ := k2.out
            have d4 := kc2.c4
            have db := kc2.cb (d + 1) (by omega)
            rw [upto_get _ _ (d + 1) (by omega) (by omega)] at db
            obtain ⟨a1, rfl, e1⟩ := rb_at r12 (pos L s) HPin.out
            rw [hS2.2 s HHs.out.1 (by rw [HHs.out.2.2]; omega)] at e1
            have hpT : ((pos L s : Nat) : Int) < ((beg L 16 : Nat) : Int) := by have := HPin.out; omega
            have hT6 : ((beg L 16 : Nat) : Int) ≤ 320 := by have := beg_all L HOk.out 16; have := HLn.out; omega
            have hbg : ((beg L (d + 1) : Nat) : Int) ≤ 320 := by have := beg_all L HOk.out (d + 1); have := HLn.out; omega
            have HR2 := Aside0.mk hr2
            have HG2 := Aside0.mk hg2
            clear k2 kc2 r02 r12 r22 hS2 hr2 hg2
            generalize pos L s = P at *
            generalize beg L (d + 1) = Bg at *
            generalize beg L 16 = T at *
            go_wp2_with fail
            go_quiet (fail)
            go_wp2_with fail
            go_ret2
            exact ⟨_, _, none, .sign s (d + 1) HFit.out, rfl, HR2.out.drewN _, ((Gone.refl w gr).drewN m).trans (HG2.out.drewN _)⟩
          · have q2' : ¬ (X : Int) - (F : Int) < (N : Int) := by omega
            have HNo1 : Aside0 (∀ s n, n ≤ d + 1 → ¬ Fits L V a left s n) := ⟨fun s n hn => HMiss.out s n hn (fun h => q2 h.2)⟩
            go_wp2_with fail
            have e1 : (d : Int) + 1 + 1 = ((d + 1 : Nat) : Int) + 1 := by omega
            rw [e1]
            go_roundg (15 - (d + 1))
            case measure => have := HKq.out; omega
            case rel => exact ⟨d + 1, rfl, by rw [HXe.out], hlt, ⟨rfl⟩, ⟨HTHD.out⟩, ⟨_, rfl⟩, HNo1⟩
        · have q1' : ¬ (0 : Int) ≤ (X : Int) - (F : Int) := by omega
          have HNo1 : Aside0 (∀ s n, n ≤ d + 1 → ¬ Fits L V a left s n) := ⟨fun s n hn => HMiss.out s n hn (fun h => q1 h.1)⟩
          go_wp2_with fail
          have e1 : (d : Int) + 1 + 1 = ((d + 1 : Nat) : Int) + 1 := by omega
          rw [e1]
          go_roundg (15 - (d + 1))
          case measure => have := HKq.out; omega
          case rel => exact ⟨d + 1, rfl, by rw [HXe.out], hlt, ⟨rfl⟩, ⟨HTHD.out⟩, ⟨_, rfl⟩, HNo1⟩
      · have hdt : d = th := by have := HDt.out; omega
        have hdl : left = d := by have := HTh.out; omega
        have hth' : (th : Int) < (d : Int) + 1 := by omega
        have HT : Aside0 (TakeR L V a left 0 0 (some (if anyMeets L (cd V a d) d (15 - d) (d + 1) then 10 else 2))) := ⟨by
          rw [hdl]
          exact takeR_short L HOk.out V a d (fun s n hn => by have := HNo.out s n hn; rw [hdl] at this; exact this)⟩
        have HS1 := Aside0.mk (HS.out m (cd V a d) d (cd_lt V a d) hd)
        obtain ⟨r, hr⟩ : ∃ r : Int, r = if anyMeets L (cd V a d) d (15 - d) (d + 1) then 10 else 2 := ⟨_, rfl⟩
        rw [← hr] at HS1 HT
        have hcd := cd_lt V a d
        have h2d : 2 ^ d ≤ 2 ^ 15 := Nat.pow_le_pow_right (by decide) hd
        have h32 : cd V a d ≤ 32768 := Nat.le_trans (Nat.le_of_lt hcd) h2d
        clear hr hdl hdt hcd h2d h32
        generalize cd V a d = X at *
        go_wp2_with fail
        refine (HS1.out).mono ?_
        rintro e w2 ⟨rfl, m2, rfl⟩
        simp only [errV]
        go_wp2_with fail
        go_ret2
        exact ⟨_, _, _, HT.out, rfl, (HR.out.drewN _).drewN _, ((Gone.refl w gr).drewN m).drewN _⟩
    · have hd15 : d = 15 := by omega
      have HT : Aside0 (TakeR L V a left 0 0 (some 2)) := ⟨takeR_form L HOk.out V a left (by have := HTh.out; have := HDt.out; omega) (fun s n hn => HNo.out s n (by omega))⟩
      have hlt' : ¬ (d : Int) + 1 ≤ 15 := by omega
      go_wp2_with fail
      go_ret2
      exact ⟨_, _, _, HT.out, rfl, HR.out.drewN _, (Gone.refl w gr).drewN m⟩
theorem taken_calls (w : World) (v : Value) : Calls Tryd.prog 73 #[.pointer none, v] w fun e w' => e = .returned (.tuple #[.int .i64 0, errV (some 4)]) ∧ w = w' := by
  go_enter Tryd.func73, Tryd.ntmps73
  go_wp2
  go_ret2
  exact ⟨rfl, rfl⟩
theorem takeg_calls (w : World) (a : Addr) : Calls Tryd.prog 73 #[.pointer (some a), .pointer none] w fun e w' => e = .returned (.tuple #[.int .i64 0, errV (some 4)]) ∧ w = w' := by
  go_enter Tryd.func73, Tryd.ntmps73
  go_wp2
  go_ret2
  exact ⟨rfl, rfl⟩
end Go.Proofs.YtiaiopdiooobiaaDoor.My

/- The inflater's machine in memory, and what a call of its methods leaves. -/
namespace Go.Proofs.YtiaiopdiooobiaaDoor.My
open Go.RowKit Go.Proofs.YtiaiopdiooobiaaDoor.Inf Go.Proofs.YtiaiopdiooobiaaDoorW.PrintWords Go.Proofs.YtiaiopdiooobiaaDoorW.PrintLast Go.Proofs.YtiaiopdiooobiaaDoorW.PrintMore
set_option maxRecDepth 100000
set_option linter.unusedVariables false
set_option linter.unusedSimpArgs false

/-- What was turned: the machine's block, its reader's, what it has put out, and what is new. -/
structure Frm (gm gr : Nat) (w : World) (vo : Value) (w' : World) (vo' : Value) : Prop where
  os : w'.os = w.os
  tape : w'.tape = w.tape
  output : w'.output = w.output
  size : w.heap.size ≤ w'.heap.size
  keep : ∀ k, k < w.heap.size → k ≠ gm → k ≠ gr → some k ≠ vo.ownBlock → w'.heap[k]? = w.heap[k]?
  own : vo'.ownBlock = vo.ownBlock ∨ ∃ b, vo'.ownBlock = some b ∧ w.heap.size ≤ b
section
variable {gm gr : Nat} {w w1 w2 : World} {vo v1 v2 : Value}
theorem Frm.refl (gm gr : Nat) (w : World) (vo : Value) : Frm gm gr w vo w vo := ⟨rfl, rfl, rfl, Nat.le_refl _, fun _ _ _ _ _ => rfl, .inl rfl⟩
theorem Frm.trans (h : Frm gm gr w vo w1 v1) (k : Frm gm gr w1 v1 w2 v2) : Frm gm gr w vo w2 v2 := by
  refine ⟨k.os.trans h.os, k.tape.trans h.tape, k.output.trans h.output, Nat.le_trans h.size k.size, fun i hi h1 h2 h3 => ?_, ?_⟩
  · refine (k.keep i (Nat.lt_of_lt_of_le hi h.size) h1 h2 ?_).trans (h.keep i hi h1 h2 h3)
    rcases h.own with e | ⟨b, e, hb⟩
    · rw [e]; exact h3
    · rw [e]; intro e2; injection e2 with e2; omega
  · rcases k.own with e | ⟨b, e, hb⟩
    · rw [e]; exact h.own
    · exact .inr ⟨b, e, Nat.le_trans h.size hb⟩
theorem Frm.of_below (hb : Below w.heap.size w w1) : Frm gm gr w vo w1 vo := ⟨hb.os, hb.tape, hb.output, hb.size, fun k hk _ _ _ => hb.block k hk, .inl rfl⟩
theorem Frm.below (h : Frm gm gr w vo w1 v1) (hb : Below w1.heap.size w1 w2) : Frm gm gr w vo w2 v1 := h.trans (Frm.of_below hb)
theorem Frm.drewN (h : Frm gm gr w vo w1 v1) (n : Nat) : Frm gm gr w vo (w1.drewN n) v1 := ⟨h.os, h.tape, h.output, h.size, h.keep, h.own⟩
theorem Frm.drew (h : Frm gm gr w vo w1 v1) : Frm gm gr w vo w1.drew v1 := ⟨h.os, h.tape, h.output, h.size, h.keep, h.own⟩
theorem Frm.of_gone (hg : Gone w w1 gr) : Frm gm gr w vo w1 vo := ⟨hg.os, hg.tape, hg.output, hg.keep.1, fun k hk _ h2 _ => hg.keep.2 k hk h2 (by simp), .inl rfl⟩
theorem Frm.of_grown (hg : w.grownBy w1 vo.ownBlock) (ho : v1.ownBlock = vo.ownBlock ∨ ∃ b, v1.ownBlock = some b ∧ w.heap.size ≤ b) : Frm gm gr w vo w1 v1 := ⟨hg.os, hg.tape, hg.output, hg.size, fun k hk _ _ h3 => hg.block k hk h3, ho⟩
theorem Frm.set (h : Frm gm gr w vo w1 v1) (j : Nat) (u : Value) : Frm gm gr w vo (w1.setCell ⟨gm, j, none⟩ u) v1 :=
  h.trans ⟨rfl, rfl, rfl, by simp [World.setCell], fun k _ h1 _ _ => Below.heap_setCell _ _ _ _ h1, .inl rfl⟩
theorem Frm.setr (h : Frm gm gr w vo w1 v1) (j : Nat) (u : Value) : Frm gm gr w vo (w1.setCell ⟨gr, j, none⟩ u) v1 :=
  h.trans ⟨rfl, rfl, rfl, by simp [World.setCell], fun k _ _ h2 _ => Below.heap_setCell _ _ _ _ h2, .inl rfl⟩
theorem Frm.blk (h : Frm gm gr w vo w1 v1) {k : Nat} {o : Obj} (hk : w.heap[k]? = some o) (h1 : k ≠ gm) (h2 : k ≠ gr) (h3 : some k ≠ vo.ownBlock) : w1.heap[k]? = some o := (h.keep k (blk_lt hk) h1 h2 h3).trans hk
/-- All that was turned is new. -/
theorem Frm.under (h : Frm gm gr w vo w1 v1) {W : World} (hb : Below W.heap.size W w) (h1 : W.heap.size ≤ gm) (h2 : W.heap.size ≤ gr) (h3 : ∀ k, vo.ownBlock = some k → W.heap.size ≤ k) : Below W.heap.size W w1 :=
  ⟨h.os.trans hb.os, h.tape.trans hb.tape, h.output.trans hb.output, Nat.le_trans hb.size h.size, fun k hk => (h.keep k (Nat.lt_of_lt_of_le hk hb.size) (by omega) (by omega) (by intro e; have := h3 k e.symm; omega)).trans (hb.block k hk)⟩
end

/-- A machine at a block, its reader at another one. -/
structure Mac (w : World) (B gm gr : Nat) (v : Value) (V lb : Nat) (lim : Int) (vo : Value) (s : St) : Prop where
  blk : w.heap[gm]? = some (.cells #[.pointer (some ⟨gr, 0, none⟩), vo, .int .i64 lim, .int .i64 s.st] 57 (0, 0))
  rd : Rdr w B gr v V lb s.a
  row : w.ownsRow B 5 1 vo s.out.length (nums .u8 s.out)
  sep : v.ownBlock = none ∨ v.ownBlock ≠ vo.ownBlock
  bm : B ≤ gm
  hl : lb ≤ 1000000
  l1 : lim ≤ 1048576
  ol : (s.out.length : Int) ≤ lim
  sl : s.st ≤ s.a + 1
section
variable {B gm gr : Nat} {w w1 w2 : World} {vo v1 v2 v : Value} {V lb : Nat} {lim : Int} {s : St}
theorem Mac.cells (h : Mac w B gm gr v V lb lim vo s) : w.cell? ⟨gm, 0, none⟩ = some (.pointer (some ⟨gr, 0, none⟩)) ∧ w.cell? ⟨gm, 1, none⟩ = some vo ∧ w.cell? ⟨gm, 2, none⟩ = some (.int .i64 lim) ∧ w.cell? ⟨gm, 3, none⟩ = some (.int .i64 s.st) ∧ w.frozen? ⟨gm, 1, none⟩ = false ∧ w.frozen? ⟨gm, 3, none⟩ = false := by
  refine ⟨?_, ?_, ?_, ?_, ?_, ?_⟩ <;> first | (rw [blk_cell h.blk]; rfl) | exact blk_frozen h.blk _
theorem Mac.lt (h : Mac w B gm gr v V lb lim vo s) : gm < w.heap.size := blk_lt h.blk
theorem Mac.ltr (h : Mac w B gm gr v V lb lim vo s) : gr < w.heap.size := blk_lt h.rd.blk
theorem Mac.nr (h : Mac w B gm gr v V lb lim vo s) : gm ≠ gr := blk_ne h.blk h.rd.blk (by decide)
theorem Mac.ne (h : Mac w B gm gr v V lb lim vo s) : some gm ≠ vo.ownBlock := own_ne h.row h.blk (by decide)
theorem Mac.ner (h : Mac w B gm gr v V lb lim vo s) : some gr ≠ vo.ownBlock := own_ne h.row h.rd.blk (by decide)
theorem Mac.nev (h : Mac w B gm gr v V lb lim vo s) : some gm ≠ v.ownBlock := own_ne h.rd.row h.blk (by decide)
theorem Mac.ob (h : Mac w B gm gr v V lb lim vo s) (k : Nat) (hk : vo.ownBlock = some k) : B ≤ k ∧ k < w.heap.size := ⟨own_base h.row k hk, own_lt h.row k hk⟩
theorem Mac.bs (h : Mac w B gm gr v V lb lim vo s) : B ≤ w.heap.size := by have := h.lt; have := h.bm; omega
theorem Mac.al (h : Mac w B gm gr v V lb lim vo s) : s.a ≤ 8 * lb := h.rd.le
theorem Mac.below (h : Mac w B gm gr v V lb lim vo s) (hb : Below w.heap.size w w1) : Mac w1 B gm gr v V lb lim vo s :=
  ⟨blk_below h.blk hb, h.rd.below hb, pw_own_below h.row hb, h.sep, h.bm, h.hl, h.l1, h.ol, h.sl⟩
theorem Mac.drewN (h : Mac w B gm gr v V lb lim vo s) (n : Nat) : Mac (w.drewN n) B gm gr v V lb lim vo s := h.below ⟨rfl, rfl, rfl, Nat.le_refl _, fun _ _ => rfl⟩
theorem Mac.drew (h : Mac w B gm gr v V lb lim vo s) : Mac w.drew B gm gr v V lb lim vo s := h.below ⟨rfl, rfl, rfl, Nat.le_refl _, fun _ _ => rfl⟩
/-- The reader went on. -/
theorem Mac.read (h : Mac w B gm gr v V lb lim vo s) {a' : Nat} (hr : Rdr w1 B gr v V lb a') (hg : Gone w w1 gr) (ha : s.a ≤ a') : Mac w1 B gm gr v V lb lim vo ⟨a', s.out, s.st⟩ :=
  ⟨hg.keep.blk h.blk h.nr (by simp), hr, hg.keep.own h.row (fun e => h.ner e.symm) (by cases vo.ownBlock <;> simp), h.sep, h.bm, h.hl, h.l1, h.ol, by have := h.sl; show s.st ≤ a' + 1; omega⟩
theorem Mac.step (h : Mac w B gm gr v V lb lim vo s) (n : Nat) (hn : n ≤ s.a + 1) : Mac (w.setCell ⟨gm, 3, none⟩ (.int .i64 (n : Int))) B gm gr v V lb lim vo ⟨s.a, s.out, n⟩ := by
  have hb := blk_set h.blk 3 (.int .i64 (n : Int))
  refine ⟨by simpa using hb, ⟨blk_far h.rd.blk h.nr.symm _, own_setCell h.rd.row h.nev _, h.rd.lt, h.rd.le, h.rd.bg⟩, own_setCell h.row h.ne _, h.sep, h.bm, h.hl, h.l1, h.ol, hn⟩
/-- Bytes were put out. -/
theorem Mac.put (h : Mac w B gm gr v V lb lim vo s) {ys : List Int} {n : Nat} (hn : n = s.out.length + ys.length) (hr : w1.ownsRow B 5 1 v1 n (nums .u8 (s.out ++ ys))) (hg : w.grownBy w1 vo.ownBlock)
    (ho : v1.ownBlock = vo.ownBlock ∨ ∃ b, v1.ownBlock = some b ∧ w.heap.size ≤ b) (hol : ((s.out.length + ys.length : Nat) : Int) ≤ lim) : Mac (w1.setCell ⟨gm, 1, none⟩ v1) B gm gr v V lb lim v1 ⟨s.a, s.out ++ ys, s.st⟩ := by
  subst hn
  have hbk := blk_grown h.blk hg h.ne
  have hb := blk_set hbk 1 v1
  have hrd := blk_grown h.rd.blk hg h.ner
  refine ⟨by simpa using hb, ⟨blk_far hrd h.nr.symm _, own_setCell (own_other h.rd.row hg h.sep) h.nev _, h.rd.lt, h.rd.le, h.rd.bg⟩, ?_, ?_, h.bm, h.hl, h.l1, by rw [List.length_append]; exact hol, h.sl⟩
  · rw [List.length_append]
    exact own_setCell hr (own_ne hr hbk (by decide)) _
  · rcases h.sep with e | e
    · exact .inl e
    · rcases ho with e2 | ⟨b, e2, hb2⟩
      · rw [e2]; exact .inr e
      · cases hv : v.ownBlock with
        | none => exact .inl rfl
        | some k =>
          refine .inr ?_
          rw [e2]
          intro e3
          injection e3 with e3
          have := own_lt h.rd.row k hv
          omega
/-- What a method answers, and leaves. -/
def Did {α : Type} (B gm gr : Nat) (v : Value) (V lb : Nat) (lim : Int) (w : World) (vo : Value) (r : Res α) (ret : α → Ending → World → Prop) (e : Ending) (w' : World) : Prop :=
  (∃ x s vo', r = .ok x s ∧ ret x e w' ∧ Mac w' B gm gr v V lb lim vo' s ∧ Frm gm gr w vo w' vo') ∨
  (∃ c g vo', r = .er c ∧ e = .panicked [{ v := fltV g, recovered := false }] ∧ Flt w' g c ⟨#[]⟩ ∧ w.heap.size ≤ g ∧ Frm gm gr w vo w' vo')
theorem Did.after {α : Type} {r : Res α} {ret : α → Ending → World → Prop} {e : Ending} {w' : World} (hf : Frm gm gr w vo w1 v1) (h : Did B gm gr v V lb lim w1 v1 r ret e w') : Did B gm gr v V lb lim w vo r ret e w' := by
  rcases h with ⟨x, s, vo', a, b, c, d⟩ | ⟨c, g, vo', a, b, d, f, k⟩
  · exact .inl ⟨x, s, vo', a, b, c, hf.trans d⟩
  · exact .inr ⟨c, g, vo', a, b, d, Nat.le_trans hf.size f, hf.trans k⟩
theorem frm_flt {c : Int} {k : ByteArray} (hf : Frm gm gr w vo w1 v1) : Frm gm gr w vo (w1.alloc (.cells #[.int .i64 c, .string k] 70)) v1 := hf.below (below_alloc (Below.refl _ _) _)
end
end Go.Proofs.YtiaiopdiooobiaaDoor.My

/- The walks of the inflater's small methods: number, far, sign, room, wrong, code. -/
namespace Go.Proofs.YtiaiopdiooobiaaDoor.My
open Go.RowKit Go.Proofs.YtiaiopdiooobiaaDoor.Inf Go.Proofs.YtiaiopdiooobiaaDoor.Huf Go.Proofs.YtiaiopdiooobiaaDoorW.PrintWords Go.Proofs.YtiaiopdiooobiaaDoorW.PrintLast Go.Proofs.YtiaiopdiooobiaaDoorW.PrintMore
set_option maxRecDepth 100000
set_option linter.unusedVariables false
set_option linter.unusedSimpArgs false

theorem pass_flt_post (c : Int) (w : World) : Calls Tryd.prog 38 #[errV (some c)] w fun e w' =>
    e = .panicked [{ v := fltV w.heap.size, recovered := false }] ∧ w' = w.alloc (.cells #[.int .i64 c, .string ⟨#[]⟩] 70) := pass_err c w
theorem wrong_calls (c : Int) (w : World) : Calls Tryd.prog 35 #[.int .i64 c] w fun e w' =>
    e = .panicked [{ v := fltV w.heap.size, recovered := false }] ∧ w' = w.alloc (.cells #[.int .i64 c, .string ⟨#[]⟩] 70) := by
  go_enter Tryd.func35, Tryd.ntmps35
  go_wp2_with (go_at_call 55; refine (throw_calls _ _ _).mono ?_; rintro e w2 ⟨rfl, rfl⟩)
  exact post_panic rfl ⟨rfl, rfl⟩

section
variable {B gm gr : Nat} {vo v : Value} {V lb : Nat} {lim : Int} {s : St}
theorem inumber_calls (w : World) (h : Mac w B gm gr v V lb lim vo s) (n : Nat) (hn : n ≤ 32) :
    Calls Tryd.prog 30 #[.pointer (some ⟨gm, 0, none⟩), .int .i64 n] w (Did B gm gr v V lb lim w vo (number V lb n s) fun x e _ => e = .returned (.int .i64 (x : Nat))) := by
  obtain ⟨c0, _, _, _, _, _⟩ := h.cells
  have HB := Aside0.mk (rbits_calls w B gr v V lb s.a n h.rd (by have := h.hl; omega))
  have HM := Aside0.mk h
  by_cases hl : s.a + n ≤ 8 * lb
  · have e1 : bitsE (n : Int) (8 * lb - s.a) = none := by
      unfold bitsE
      rw [if_pos (show inW (n : Int) = true from decide_eq_true ⟨by omega, by omega⟩), if_pos (by have := h.al; omega)]
    have e2 : bitsX V s.a (8 * lb - s.a) (n : Int) = V / 2 ^ s.a % 2 ^ n := by unfold bitsX; rw [e1]; rfl
    rw [e1, e2] at HB
    have HN : Aside0 (number V lb n s = .ok (V / 2 ^ s.a % 2 ^ n) ⟨s.a + n, s.out, s.st⟩) := ⟨by unfold number; rw [if_pos hl]⟩
    have hx : ((V / 2 ^ s.a % 2 ^ n : Nat) : Int) ≤ 4294967295 := by
      have := Nat.mod_lt (V / 2 ^ s.a) (Nat.two_pow_pos n)
      have := Nat.pow_le_pow_right (n := 2) (by decide) hn
      omega
    generalize V / 2 ^ s.a % 2 ^ n = x at *
    clear e1 e2 hl h
    go_enter Tryd.func30, Tryd.ntmps30
    go_wp2_with (first
      | (go_at_call 44; refine HB.out.mono ?_; rintro e w1 ⟨rfl, hr, hg⟩; have HR := Aside0.mk hr; have HG := Aside0.mk hg; clear hr hg)
      | (go_at_call 38; refine (pass_nil _).mono ?_; rintro e w2 ⟨rfl, rfl⟩))
    go_ret
    exact .inl ⟨_, _, vo, HN.out, rfl, HM.out.read HR.out HG.out (by omega), Frm.of_gone HG.out⟩
  · have e1 : bitsE (n : Int) (8 * lb - s.a) = some 10 := by
      unfold bitsE
      rw [if_pos (show inW (n : Int) = true from decide_eq_true ⟨by omega, by omega⟩), if_neg (by have := h.al; omega)]
    rw [e1] at HB
    have HN : Aside0 (number V lb n s = .er 10) := ⟨by unfold number; rw [if_neg hl]⟩
    clear e1 hl h
    go_enter Tryd.func30, Tryd.ntmps30
    go_wp2_with (first
      | (go_at_call 44; refine HB.out.mono ?_; rintro e w1 ⟨rfl, hr, hg⟩; have HG := Aside0.mk hg; clear hr hg)
      | (go_at_call 38; refine (pass_flt_post 10 _).mono ?_; rintro e w2 ⟨rfl, rfl⟩))
    exact post_panic rfl (.inr ⟨10, _, vo, HN.out, rfl, ⟨alloc_self _ _⟩, HG.out.keep.1, frm_flt (Frm.of_gone HG.out)⟩)
theorem far_calls (w : World) (h : Mac w B gm gr v V lb lim vo s) (lo hi gc : Nat) (L : List Int) (k : CodeAt w lo hi gc L) (hl : L.length ≤ 320) (hok : okL L = true) (hov : anyOver L 15 1 = false) (hgr : gr < lo ∨ hi ≤ gr) :
    Calls Tryd.prog 52 #[.pointer (some ⟨gm, 0, none⟩), .pointer (some ⟨gc, 0, none⟩)] w (Did B gm gr v V lb lim w vo (far V lb L s) fun x e _ => e = .returned (.int .i64 x)) := by
  obtain ⟨c0, _, _, _, _, _⟩ := h.cells
  have HT := Aside0.mk (take_calls w lo hi gc L k hl hok hov B gr v V lb s.a h.rd h.hl hgr)
  have HM := Aside0.mk h
  clear h k hl hok hov hgr
  go_enter Tryd.func52, Tryd.ntmps52
  go_wp2_with fail
  refine HT.out.mono ?_
  rintro e w1 ⟨x, n, er, ht, rfl, hr, hg⟩
  have HR := Aside0.mk hr
  have HG := Aside0.mk hg
  have HTk := Aside0.mk (tk_of V ht)
  clear hr hg ht
  cases er with
  | none =>
    have HN : Aside0 (far V lb L s = .ok x ⟨s.a + n, s.out, s.st⟩) := ⟨by unfold far; rw [HTk.out]⟩
    go_wp2_with (go_at_call 38; refine (pass_nil _).mono ?_; rintro e w2 ⟨rfl, rfl⟩)
    go_ret
    exact .inl ⟨_, _, vo, HN.out, rfl, HM.out.read HR.out HG.out (by omega), Frm.of_gone HG.out⟩
  | some c =>
    have HN : Aside0 (far V lb L s = .er c) := ⟨by unfold far; rw [HTk.out]⟩
    go_wp2_with (go_at_call 38; refine (pass_flt_post c _).mono ?_; rintro e w2 ⟨rfl, rfl⟩)
    exact post_panic rfl (.inr ⟨c, _, vo, HN.out, rfl, ⟨alloc_self _ _⟩, HG.out.keep.1, frm_flt (Frm.of_gone HG.out)⟩)
theorem sign_calls (w : World) (h : Mac w B gm gr v V lb lim vo s) (hst : s.st ≤ s.a) (lo hi gc : Nat) (L : List Int) (k : CodeAt w lo hi gc L) (hl : L.length ≤ 320) (hok : okL L = true) (hov : anyOver L 15 1 = false) (hgr : gr < lo ∨ hi ≤ gr) (hgm : gm < lo ∨ hi ≤ gm) :
    Calls Tryd.prog 48 #[.pointer (some ⟨gm, 0, none⟩), .pointer (some ⟨gc, 0, none⟩)] w (Did B gm gr v V lb lim w vo (sign V lb L s) fun x e _ => e = .returned (.int .i64 x)) := by
  obtain ⟨c0, _, _, c3, _, f3⟩ := h.cells
  have hb3 : ((s.st : Nat) : Int) ≤ 8000000 := by have := h.al; have := h.hl; omega
  have h1 := h.step (s.st + 1) (by omega)
  have hcast : ((s.st + 1 : Nat) : Int) = (s.st : Int) + 1 := by omega
  rw [hcast] at h1
  have hf1 := (Frm.refl gm gr w vo).set 3 (.int .i64 ((s.st : Int) + 1))
  have k1 : CodeAt (w.setCell ⟨gm, 3, none⟩ (.int .i64 ((s.st : Int) + 1))) lo hi gc L := k.grown (grown_set w gm 3 _) (fun r e => by cases e; exact hgm)
  have HT := Aside0.mk (take_calls _ lo hi gc L k1 hl hok hov B gr v V lb s.a h1.rd h.hl hgr)
  have HM := Aside0.mk h1
  have HF := Aside0.mk hf1
  obtain ⟨d0, _, _, _, _, _⟩ := h1.cells
  clear h h1 hf1 k1 k hl hok hov hgr hst hcast
  go_enter Tryd.func48, Tryd.ntmps48
  go_wp2_with fail
  refine HT.out.mono ?_
  rintro e w1 ⟨x, n, er, ht, rfl, hr, hg⟩
  have HR := Aside0.mk hr
  have HG := Aside0.mk hg
  have HTk := Aside0.mk (tk_of V ht)
  clear hr hg ht
  cases er with
  | none =>
    have HN : Aside0 (sign V lb L s = .ok x ⟨s.a + n, s.out, s.st + 1⟩) := ⟨by unfold sign far; rw [HTk.out]⟩
    go_wp2_with (go_at_call 38; refine (pass_nil _).mono ?_; rintro e w2 ⟨rfl, rfl⟩)
    go_ret
    exact .inl ⟨_, _, vo, HN.out, rfl, HM.out.read HR.out HG.out (by show s.a ≤ s.a + n; omega), HF.out.trans (Frm.of_gone HG.out)⟩
  | some c =>
    have HN : Aside0 (sign V lb L s = .er c) := ⟨by unfold sign far; rw [HTk.out]⟩
    go_wp2_with (go_at_call 38; refine (pass_flt_post c _).mono ?_; rintro e w2 ⟨rfl, rfl⟩)
    exact post_panic rfl (.inr ⟨c, _, vo, HN.out, rfl, ⟨alloc_self _ _⟩, Nat.le_trans HF.out.size HG.out.keep.1, frm_flt (HF.out.trans (Frm.of_gone HG.out))⟩)
theorem room_calls (w : World) (h : Mac w B gm gr v V lb lim vo s) (n : Nat) (hn : n ≤ 100000000) :
    Calls Tryd.prog 46 #[.pointer (some ⟨gm, 0, none⟩), .int .i64 n] w (Did B gm gr v V lb lim w vo (room lim n s) fun _ e _ => e = .returned (.tuple #[])) := by
  obtain ⟨_, c1, c2, _, _, _⟩ := h.cells
  have hol := h.ol
  have hl1 := h.l1
  have hlen : ((s.out.length : Nat) : Int) ≤ 1048576 := by omega
  obtain ⟨A, c, rfl⟩ := own_slice h.row
  have HM := Aside0.mk h
  have hn' : (n : Int) ≤ 100000000 := by omega
  clear h
  by_cases hr : (n : Int) > lim - (s.out.length : Int)
  · have HN : Aside0 (room lim n s = .er 3) := ⟨by unfold room; rw [if_pos hr]⟩
    have hr' : lim - (s.out.length : Int) < (n : Int) := hr
    go_enter Tryd.func46, Tryd.ntmps46
    go_wp2_with fail
    go_quiet (fail)
    go_wp2_with (go_at_call 35; refine (wrong_calls _ _).mono ?_; rintro e w2 ⟨rfl, rfl⟩)
    exact post_panic rfl (.inr ⟨3, _, _, HN.out, rfl, ⟨alloc_self _ _⟩, Nat.le_refl _, frm_flt ((Frm.refl _ _ _ _).drewN _)⟩)
  · have HN : Aside0 (room lim n s = .ok () s) := ⟨by unfold room; rw [if_neg hr]⟩
    have hr' : ¬ lim - (s.out.length : Int) < (n : Int) := hr
    go_enter Tryd.func46, Tryd.ntmps46
    go_wp2_with fail
    go_quiet (fail)
    go_wp2_with fail
    refine bodyPost_end (results_none rfl _ _ _) rfl ?_
    exact .inl ⟨(), s, _, HN.out, rfl, HM.out.drewN _, (Frm.refl _ _ _ _).drewN _⟩
end
/-- The code of lengths, or a fault. -/
theorem code_calls (w : World) (A : Option Addr) (n c : Nat) (L : List Int) (lone : Bool) (hL : (Kd.int .i64).C w A n L) (hn : n ≤ 1000000) (hl : L.length = n) (hcap : A = none → n = 0 ∧ c = 0) :
    Calls Tryd.prog 53 #[.slice A n c, .bool lone] w fun e w' =>
      (newR L lone = none ∧ ∃ g, e = .returned (.pointer (some ⟨g, 0, none⟩)) ∧ CodeAt w' w.heap.size w'.heap.size g L ∧ Below w.heap.size w w') ∨
      (newR L lone ≠ none ∧ ∃ g, e = .panicked [{ v := fltV g, recovered := false }] ∧ Flt w' g 2 ⟨#[]⟩ ∧ w.heap.size ≤ g ∧ Below w.heap.size w w') := by
  have HT := Aside0.mk (new_calls w A n c L lone hL hn hl hcap)
  clear hL hn hl hcap
  cases hR : newR L lone with
  | none =>
    rw [hR] at HT
    unfold errV at HT
    clear hR
    go_enter Tryd.func53, Tryd.ntmps53
    go_wp2_with fail
    refine HT.out.mono ?_
    rintro e w1 ⟨v, rfl, hb, _, h2⟩
    obtain ⟨g, rfl, hk⟩ := h2 (by simp)
    have HK := Aside0.mk hk
    have HB := Aside0.mk hb
    clear hk hb h2
    go_wp2_with fail
    go_ret
    exact .inl ⟨by simp, g, rfl, HK.out, HB.out⟩
  | some c0 =>
    rw [hR] at HT
    unfold errV at HT
    clear hR
    go_enter Tryd.func53, Tryd.ntmps53
    go_wp2_with fail
    refine HT.out.mono ?_
    rintro e w1 ⟨v, rfl, hb, h1, _⟩
    have hv := h1 (by simp)
    subst hv
    have HB := Aside0.mk hb
    clear hb h1
    go_wp2_with (go_at_call 35; refine (wrong_calls _ _).mono ?_; rintro e w2 ⟨rfl, rfl⟩)
    exact post_panic rfl (.inr ⟨by simp, _, rfl, ⟨alloc_self _ _⟩, HB.out.size, below_alloc HB.out _⟩)
end Go.Proofs.YtiaiopdiooobiaaDoor.My

/- The walk of the inflater's stored blocks. -/
namespace Go.Proofs.YtiaiopdiooobiaaDoor.Inf
set_option linter.unusedVariables false
theorem number_ok {V lb n x : Nat} {s s' : St} (h : number V lb n s = .ok x s') : s'.a = s.a + n ∧ s'.out = s.out ∧ s'.st = s.st ∧ x < 2 ^ n ∧ s.a + n ≤ 8 * lb := by
  unfold number at h
  split at h
  · injection h with h1 h2
    subst h1 h2
    exact ⟨rfl, rfl, rfl, Nat.mod_lt _ (Nat.two_pow_pos n), by assumption⟩
  · cases h
theorem room_ok {lim : Int} {n : Nat} {s s' : St} {u : Unit} (h : room lim n s = .ok u s') : s' = s ∧ (s.out.length : Int) + n ≤ lim := by
  unfold room at h
  split at h
  · cases h
  · injection h with _ h2
    exact ⟨h2.symm, by omega⟩
end Go.Proofs.YtiaiopdiooobiaaDoor.Inf
namespace Go.Proofs.YtiaiopdiooobiaaDoor.My
open Go.RowKit Go.Proofs.YtiaiopdiooobiaaDoor.Inf Go.Proofs.YtiaiopdiooobiaaDoor.Huf Go.Proofs.YtiaiopdiooobiaaDoorW.PrintWords Go.Proofs.YtiaiopdiooobiaaDoorW.PrintLast Go.Proofs.YtiaiopdiooobiaaDoorW.PrintMore
set_option maxRecDepth 100000
set_option linter.unusedVariables false
set_option linter.unusedSimpArgs false

theorem xor_nat64 (a b : Nat) (ha : a < 2 ^ 63) (hb : b < 2 ^ 63) : Go.bits .xor .i64 a b = ((a ^^^ b : Nat) : Int) := by
  have hl : a ^^^ b < 2 ^ 63 := Nat.xor_lt_two_pow ha hb
  show IntKind.i64.wrap ((BitVec.ofInt 64 (a : Int) ^^^ BitVec.ofInt 64 (b : Int)).toNat : Int) = _
  rw [BitVec.ofInt_natCast, BitVec.ofInt_natCast, BitVec.toNat_xor, BitVec.toNat_ofNat, BitVec.toNat_ofNat, Nat.mod_eq_of_lt (by omega), Nat.mod_eq_of_lt (by omega), IntKind.wrap_i64]
  omega
theorem xor_all (n : Nat) (h : n < 65536) : n ^^^ 65535 = 65535 - n := by
  have h1 := BitVec.toNat_not (x := BitVec.ofNat 16 n)
  rw [← BitVec.xor_allOnes, BitVec.toNat_xor, BitVec.toNat_allOnes, BitVec.toNat_ofNat, Nat.mod_eq_of_lt (by simpa using h)] at h1
  simpa using h1
theorem xor_sum (n t : Nat) (hn : n < 65536) (ht : t < 65536) : n ^^^ t = 65535 ↔ n + t = 65535 := by
  have h1 := xor_all n hn
  constructor
  · intro h
    have : n ^^^ (n ^^^ t) = n ^^^ 65535 := by rw [h]
    rw [← Nat.xor_assoc, Nat.xor_self, Nat.zero_xor] at this
    omega
  · intro h
    obtain rfl : t = 65535 - n := by omega
    rw [← h1, ← Nat.xor_assoc, Nat.xor_self, Nat.zero_xor]
section
variable {B gm gr : Nat} {vo v : Value} {V lb : Nat} {lim : Int} {s : St}
set_option maxHeartbeats 1000000 in
theorem stored_calls (w : World) (h : Mac w B gm gr v V lb lim vo s) (hst : s.st ≤ s.a) :
    Calls Tryd.prog 31 #[.pointer (some ⟨gm, 0, none⟩)] w (Did B gm gr v V lb lim w vo (Inf.stored V lb lim s) fun _ e _ => e = .returned (.tuple #[])) := by
  obtain ⟨c0, _, _, _, _, _⟩ := h.cells
  have HAl := Aside0.mk (ralign_calls w B gr v V lb s.a h.rd (by have := h.hl; omega))
  have HM := Aside0.mk h
  have HS := Aside0.mk hst
  clear h hst
  go_enter Tryd.func31, Tryd.ntmps31
  go_wp2_with (go_at_call 45; refine HAl.out.mono ?_; rintro e w1 ⟨rfl, hr, hg⟩; have HM1 := Aside0.mk (HM.out.read hr hg (by omega)); have HF1 := Aside0.mk (Frm.of_gone (gm := gm) (vo := vo) hg); clear hr hg)
  refine (inumber_calls w1 HM1.out 16 (by omega)).mono ?_
  rintro e w2 (⟨n, s2, v2, hn, rfl, hM2, hF2⟩ | ⟨c, g, v2, hn, rfl, hX, hgx, hF2⟩)
  rotate_left
  · have HX := Aside0.mk hX
    have HN : Aside0 (Inf.stored V lb lim s = .er c) := ⟨by unfold Inf.stored; rw [hn]; rfl⟩
    clear hn hX
    go_wp2_with fail
    exact post_panic rfl (.inr ⟨c, g, v2, HN.out, rfl, HX.out, Nat.le_trans HF1.out.size hgx, HF1.out.trans hF2⟩)
  have HN2 := Aside0.mk hn
  have HM2 := Aside0.mk hM2
  have HF2 := Aside0.mk (HF1.out.trans hF2)
  clear hn hM2 hF2
  go_wp2_with fail
  refine (inumber_calls w2 HM2.out 16 (by omega)).mono ?_
  rintro e w3 (⟨t, s3, v3, hn, rfl, hM3, hF3⟩ | ⟨c, g, v3, hn, rfl, hX, hgx, hF3⟩)
  rotate_left
  · have HX := Aside0.mk hX
    have HN : Aside0 (Inf.stored V lb lim s = .er c) := ⟨by unfold Inf.stored; rw [HN2.out, bind_ok, hn]; rfl⟩
    clear hn hX
    go_wp2_with fail
    exact post_panic rfl (.inr ⟨c, g, v3, HN.out, rfl, HX.out, Nat.le_trans HF2.out.size hgx, HF2.out.trans hF3⟩)
  have HN3 := Aside0.mk hn
  have HM3 := Aside0.mk hM3
  have HF3 := Aside0.mk (HF2.out.trans hF3)
  obtain ⟨a2, o2, t2, l2, b2⟩ := number_ok HN2.out
  obtain ⟨a3, o3, t3, l3, b3⟩ := number_ok HN3.out
  dsimp only at a2 o2 t2 b2
  have HA := Aside0.mk (show s3.a % 8 = 0 ∧ s.a ≤ s3.a ∧ s3.st = s.st ∧ n ≤ 65535 by
    omega)
  have hx : Go.bits .xor .i64 (n : Int) (t : Int) = ((n ^^^ t : Nat) : Int) := xor_nat64 n t (by omega) (by omega)
  have hxs := xor_sum n t (by omega) (by omega)
  clear hn hM3 hF3 a2 o2 t2 b2 a3 o3 t3 b3
  by_cases hq : n + t = 65535
  rotate_left
  · have HN : Aside0 (Inf.stored V lb lim s = .er 2) := ⟨by unfold Inf.stored; rw [HN2.out, bind_ok, HN3.out, bind_ok, if_pos hq]⟩
    have hx2 : ¬ (((n ^^^ t : Nat) : Int) = 65535) := by omega
    have hx3 : (((n ^^^ t : Nat) : Int) == 65535) = false := by simpa using hx2
    clear hxs hq l2 l3
    generalize n ^^^ t = xx at *
    go_wp2_with (go_at_call 35; refine (wrong_calls _ _).mono ?_; rintro e w4 ⟨rfl, rfl⟩)
    exact post_panic rfl (.inr ⟨2, _, v3, HN.out, rfl, ⟨alloc_self _ _⟩, HF3.out.size, frm_flt HF3.out⟩)
  have HQ := Aside0.mk hq
  have hx2 : ((n ^^^ t : Nat) : Int) = 65535 := by omega
  rw [hx2] at hx
  clear hxs hq l2 l3 hx2
  go_wp2_with fail
  refine (room_calls w3 HM3.out n (by have := HA.out; omega)).mono ?_
  rintro e w4 (⟨u, s4, v4, hn, rfl, hM4, hF4⟩ | ⟨c, g, v4, hn, rfl, hX, hgx, hF4⟩)
  rotate_left
  · have HX := Aside0.mk hX
    have HN : Aside0 (Inf.stored V lb lim s = .er c) := ⟨by unfold Inf.stored; rw [HN2.out, bind_ok, HN3.out, bind_ok, if_neg (by have := HQ.out; omega), hn]; rfl⟩
    clear hn hX
    go_wp2_with fail
    exact post_panic rfl (.inr ⟨c, g, v4, HN.out, rfl, HX.out, Nat.le_trans HF3.out.size hgx, HF3.out.trans hF4⟩)
  obtain ⟨rfl, hroom⟩ := room_ok hn
  have HN4 := Aside0.mk hn
  have HM4 := Aside0.mk hM4
  have HF4 := Aside0.mk (HF3.out.trans hF4)
  have HRm := Aside0.mk hroom
  obtain ⟨d0, _, _, _, _, _⟩ := hM4.cells
  clear hn hM4 hF4 hroom hx
  by_cases hb : n ≤ (8 * lb - s4.a) / 8
  rotate_left
  · have HN : Aside0 (Inf.stored V lb lim s = .er 10) := ⟨by unfold Inf.stored; rw [HN2.out, bind_ok, HN3.out, bind_ok, if_neg (by have := HQ.out; omega), HN4.out, bind_ok, if_neg hb]⟩
    have HBy := Aside0.mk (rbytes_bad w4 B gr v V lb s4.a n 10 HM4.out.rd (by have := HM4.out.hl; omega) (by unfold byteE; rw [if_neg (by omega), if_neg (by have := HA.out; omega), if_pos (by omega)]))
    clear hb
    go_wp2_with (first
      | (go_at_call 47; refine HBy.out.mono ?_; rintro e w5 ⟨rfl, m5, rfl⟩)
      | (go_at_call 38; refine (pass_flt_post 10 _).mono ?_; rintro e w6 ⟨rfl, rfl⟩))
    exact post_panic rfl (.inr ⟨10, _, v4, HN.out, rfl, ⟨alloc_self _ _⟩, HF4.out.size, frm_flt (HF4.out.drewN _)⟩)
  have HBy := Aside0.mk (rbytes_calls w4 B gr v V lb s4.a n HM4.out.rd (by have := HM4.out.hl; omega) (by unfold byteE; rw [if_neg (by omega), if_neg (by have := HA.out; omega), if_neg (by omega)]))
  have HN : Aside0 (Inf.stored V lb lim s = .ok () ⟨s4.a + 8 * n, s4.out ++ leB (V / 2 ^ s4.a) n, s4.st + n⟩) := ⟨by unfold Inf.stored; rw [HN2.out, bind_ok, HN3.out, bind_ok, if_neg (by have := HQ.out; omega), HN4.out, bind_ok, if_pos hb]⟩
  clear hb
  go_wp2_with fail
  refine HBy.out.mono ?_
  rintro e w5 ⟨vb, rfl, ho, hr, hg⟩
  have hM5 := HM4.out.read hr hg (by omega)
  have HF5 := Aside0.mk (HF4.out.trans (Frm.of_gone hg))
  have hsep : vb.ownBlock = none ∨ vb.ownBlock ≠ v4.ownBlock := by
    cases hvb : vb.ownBlock with
    | none => exact .inl rfl
    | some k =>
      refine .inr ?_
      intro e2
      have h1 := own_base ho k hvb
      have h2 := (HM4.out.ob k e2.symm).2
      omega
  obtain ⟨A5, c5, rfl, _, hC5⟩ := own_slice' ho
  obtain ⟨_, d1, _, d3, f1, f3⟩ := hM5.cells
  have HM5 := Aside0.mk hM5
  have HC5 := Aside0.mk hC5
  obtain ⟨A4, c4, rfl⟩ := own_slice hM5.row
  have hbase : B ≤ w5.heap.size := hM5.bs
  have HBB := Aside0.mk hbase
  have HSm := Aside0.mk (show (s4.out.length + n) ≤ 1048576 by have := HRm.out; have := HM4.out.l1; omega)
  clear ho hr hg hM5 hC5 hsep hbase d0
  have n0 : (n : Int) ≤ 65535 := by have := HA.out; omega
  have n1 : ((s4.st : Nat) : Int) ≤ 8000000 := by have := HA.out; have := HM4.out.al; have := HM4.out.hl; have := HS.out; omega
  go_upto_region 7 with (go_at_call 38; refine (pass_nil _).mono ?_; rintro e w2 ⟨rfl, rfl⟩)
  go_wp2_with ((with_reducible refine gate_dst (N := 40) rfl ?_); refine print_append_row (w0 := w5) B rfl (.tmp 38) (.tmp 39) 22 5 .u8 1 rfl Tryd.underlying22 info_u8 (by decide) (.slice A4 s4.out.length c4) s4.out (leB (V / 2 ^ s4.a) n) A5 n c5 rfl rfl HM5.out.row (reads_of_C HC5.out) (Below.refl _ _) HBB.out (by have := HSm.out; omega) ?_)
  intro v6 w6 ho hb hg6 hk
  obtain ⟨A6, c6, rfl⟩ := own_slice ho
  have hM6 := HM5.out.put (ys := leB (V / 2 ^ s4.a) n) (by rw [leB_len]) ho hg6 hk (by rw [leB_len]; have := HRm.out; show ((s4.out.length + n : Nat) : Int) ≤ lim; omega)
  have hS : ((s4.st + n : Nat) : Int) = (s4.st : Int) + (n : Int) := by omega
  have hM7 := hM6.step (s4.st + n) (by have := HA.out; have := HS.out; show s4.st + n ≤ s4.a + 8 * n + 1; omega)
  rw [hS] at hM7
  have HM7 := Aside0.mk hM7
  have HF6 := Aside0.mk (((HF5.out.trans (Frm.of_grown hg6 hk)).set 1 (.slice A6 (s4.out.length + n) c6)).set 3 (.int .i64 ((s4.st : Int) + (n : Int))))
  obtain ⟨p0, p1, p2, p3, q1, q3⟩ := hM6.cells
  have hpre := blk_grown HM5.out.blk hg6 HM5.out.ne
  have x1 := blk_cell hpre 1
  have x2 := blk_frozen hpre 1
  clear ho hb hg6 hk hM6 hpre hM7 hS d1 f1 f3 d3
  go_wp2_with fail
  refine bodyPost_end (results_none rfl _ _ _) rfl ?_
  exact .inl ⟨(), _, _, HN.out, rfl, HM7.out, HF6.out⟩
end
end Go.Proofs.YtiaiopdiooobiaaDoor.My
