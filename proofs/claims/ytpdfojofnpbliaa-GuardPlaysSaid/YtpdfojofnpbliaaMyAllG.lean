/- MyBase, MyGuard, MyTry, MyIn, MyThrows, MyMeth, MyAlive1: laid into one text by merge.py. -/
import Derived.Test.YtpdfojofnpbliaaProg
import Derived.Test.YtpdfojofnpbliaaWWords
import Derived.Test.YtpdfojofnpbliaaWMore
import Derived.Laws.Rows
import Derived.Lib.SlBytesConst
import Derived.WalkKit
import Derived.KernelRfl
import Derived.Deep.LoopGhost
import Derived.Deep.QuietTactic
import Derived.BigQuiet
import Derived.Deep.DeepCutAuto
import Derived.Deep.CutBlock
import Derived.WalkSpells
import Derived.WalkLawsBesides
import Derived.Outline
import Derived.Defers
import Derived.Recover
import Derived.RegionTactic

/- Small words for walks: blocks of bytes known whole, slices of the call's own. No program in sight but for its byte type's row. -/
namespace Go.Proofs.Ytpdfojofnpbliaa.My
open Go.RowKit Go.Proofs.YtpdfojofnpbliaaW.PrintWords Go.Proofs.YtpdfojofnpbliaaW.PrintLast Go.Proofs.YtpdfojofnpbliaaW.PrintMore

theorem alloc_self (w : World) (o : Obj) : (w.alloc o).heap[w.heap.size]? = some o := by
  show (w.heap.push o)[w.heap.size]? = _
  simp
theorem C_block (w : World) (g : Nat) (k : IntKind) (xs : List Int) (e : TypeId) (fr : Nat × Nat) (h : w.heap[g]? = some (.cells (nums k xs).toArray e fr)) (hm : xs.length ≤ 9223372036854775807) :
    Kd.C (Kd.int k) w (some ⟨g, 0, none⟩) xs.length xs := by
  refine Kd.C_of_reads (d := 0) ⟨rfl, hm, fun _ => ⟨_, rfl, fun j hj => ?_⟩⟩
  rw [add_plain, World.cell?]
  simp [h, nums, hj]
theorem reads_of_C {k : IntKind} {w : World} {A : Option Addr} {n : Nat} {xs : List Int} (h : (Kd.int k).C w A n xs) : ReadsInt w k A n xs := by
  refine ⟨h.1, h.2.1, fun hn => ?_⟩
  obtain ⟨ad, rfl, hc⟩ := Kd.at_int h 0 (by omega) (by omega)
  refine ⟨ad, rfl, fun j hj => ?_⟩
  obtain ⟨ad', e, hc'⟩ := Kd.at_int h j (by omega) (by omega)
  cases e
  simpa [rd] using hc'
theorem C_of_readsInt {k : IntKind} {w : World} {A : Option Addr} {n : Nat} {xs : List Int} (h : ReadsInt w k A n xs) : (Kd.int k).C w A n xs := Kd.C_of_reads (d := 0) h
theorem own_slice' {w : World} {base n : Nat} {e : TypeId} {k : IntKind} {v : Value} {xs : List Int} (h : w.ownsRow base e 1 v n (nums k xs)) : ∃ A c, v = .slice A n c ∧ n ≤ c ∧ (Kd.int k).C w A n xs := by
  obtain ⟨A, c, rfl, hr⟩ := own_reads h
  refine ⟨A, c, rfl, ?_, C_of_readsInt hr⟩
  rcases h.2 with ⟨h1, h2⟩ | ⟨g, cap, cur, h1, _, _, h3, _⟩
  · omega
  · cases h1; exact h3

theorem grown_set (w : World) (g i : Nat) (v : Value) : w.grownBy (w.setCell ⟨g, i, none⟩ v) (some g) :=
  ⟨rfl, rfl, rfl, by simp [World.setCell], fun k _ hk => Below.heap_setCell _ _ _ _ (fun e => hk (by rw [e]))⟩
theorem grown_trans {w w1 w2 : World} {row : Option Nat} (h : w.grownBy w1 row) (k : w1.grownBy w2 row) : w.grownBy w2 row :=
  ⟨k.os.trans h.os, k.tape.trans h.tape, k.output.trans h.output, Nat.le_trans h.size k.size, fun i hi hr => (k.block i (Nat.lt_of_lt_of_le hi h.size) hr).trans (h.block i hi hr)⟩
theorem grown_refl (w : World) (row : Option Nat) : w.grownBy w row := World.grownBy.refl w row
theorem grown_drewN {w w1 : World} {row : Option Nat} (h : w.grownBy w1 row) (n : Nat) : w.grownBy (w1.drewN n) row := ⟨h.os, h.tape, h.output, h.size, h.block⟩
theorem grown_drew {w w1 : World} {row : Option Nat} (h : w.grownBy w1 row) : w.grownBy w1.drew row := ⟨h.os, h.tape, h.output, h.size, h.block⟩
theorem grown_below {w w1 : World} (h : Below w.heap.size w w1) (row : Option Nat) : w.grownBy w1 row := ⟨h.os, h.tape, h.output, h.size, fun k hk _ => h.block k hk⟩
theorem below_grown {B : Nat} {w w1 w2 : World} {g : Nat} (h : Below B w w1) (k : w1.grownBy w2 (some g)) (hB : B ≤ w1.heap.size) (hg : B ≤ g) : Below B w w2 :=
  h.grown k hB (fun i hi => by cases hi; exact hg)
/-- An error of the program's own numbers, or none. -/
def errV : Option Int → Value
  | none => .nilIface
  | some c => .iface 47 (.int .i64 c)
theorem wf_u8 {n : Int} (h : (Lit.int .u8 n).wf = true) : 0 ≤ n ∧ n < 256 := by
  simp [Lit.wf, IntKind.min, IntKind.max, IntKind.bits, IntKind.signed] at h
  omega
theorem wf_u32 {n : Int} (h : (Lit.int .u32 n).wf = true) : 0 ≤ n ∧ n < 4294967296 := by
  simp [Lit.wf, IntKind.min, IntKind.max, IntKind.bits, IntKind.signed] at h
  omega
theorem wf_i64 {n : Int} (h : (Lit.int .i64 n).wf = true) : -9223372036854775808 ≤ n ∧ n ≤ 9223372036854775807 := by
  simp [Lit.wf, IntKind.min, IntKind.max, IntKind.bits, IntKind.signed] at h
  omega
end Go.Proofs.Ytpdfojofnpbliaa.My

/- The walks of guard: faults that are thrown, and caught. -/
namespace Go.Proofs.Ytpdfojofnpbliaa.My
open Go.RowKit Go.Proofs.YtpdfojofnpbliaaW.PrintWords Go.Proofs.YtpdfojofnpbliaaW.PrintLast Go.Proofs.YtpdfojofnpbliaaW.PrintMore

/-- A fault as an error; what lies behind it. -/
abbrev fltV (g : Nat) : Value := .iface 52 (.pointer (some ⟨g, 0, none⟩))
structure Flt (w : World) (g : Nat) (c : Int) (s : ByteArray) : Prop where mk :: (out : w.heap[g]? = some (.cells #[.int .i64 c, .string s] 54 (0, 0)))
theorem Flt.below {w w1 : World} {g : Nat} {c : Int} {s : ByteArray} (h : Flt w g c s) (hb : Below w.heap.size w w1) : Flt w1 g c s := ⟨(hb.block g (blk_lt h.out)).trans h.out⟩
theorem Flt.drewN {w : World} {g : Nat} {c : Int} {s : ByteArray} (h : Flt w g c s) (n : Nat) : Flt (w.drewN n) g c s := ⟨h.out⟩
theorem Flt.grown {w w1 : World} {g : Nat} {c : Int} {s : ByteArray} {row : Option Nat} (h : Flt w g c s) (hg : w.grownBy w1 row) (hne : some g ≠ row) : Flt w1 g c s := ⟨blk_grown h.out hg hne⟩

theorem post_panic {P : Program} {fn : Func} {R : Ending → World → Prop} {chain : List PanicEntry} {a : Act} {w : World} (hd : a.defers = []) (h : R (.panicked chain) w) : bodyPost P fn R (.panic chain) a w := ⟨hd, h⟩
theorem throw_calls (c : Int) (s : ByteArray) (w : World) :
    Calls Try.prog 29 #[.int .i64 c, .string s] w fun e w' => e = .panicked [{ v := fltV w.heap.size, recovered := false }] ∧ w' = w.alloc (.cells #[.int .i64 c, .string s] 54) := by
  go_enter Try.func29, Try.ntmps29
  go_wp2
  exact post_panic rfl ⟨rfl, rfl⟩
theorem must_yes (c : Int) (s : ByteArray) (w : World) :
    Calls Try.prog 31 #[.bool true, .int .i64 c, .string s] w fun e w' => e = .returned (.tuple #[]) ∧ w = w' := by
  go_enter Try.func31, Try.ntmps31
  go_wp2
  go_end0
  exact ⟨rfl, rfl⟩
theorem must_no (c : Int) (s : ByteArray) (w : World) :
    Calls Try.prog 31 #[.bool false, .int .i64 c, .string s] w fun e w' => e = .panicked [{ v := fltV w.heap.size, recovered := false }] ∧ w' = w.alloc (.cells #[.int .i64 c, .string s] 54) := by
  go_enter Try.func31, Try.ntmps31
  go_wp2_with (go_at_call 29; refine (throw_calls c s w).mono ?_; rintro e w' ⟨rfl, rfl⟩)
  exact post_panic rfl ⟨rfl, rfl⟩

/-- A nil fault as an error; an error of a number. -/
abbrev fltN : Value := .iface 52 (.pointer none)
abbrev numV (c : Int) : Value := .iface 47 (.int .i64 c)
theorem code_nil (w : World) : Calls Try.prog 22 #[.nilIface] w fun e w' => e = .returned (.int .i64 0) ∧ w = w' := by
  go_enter Try.func22, Try.ntmps22
  go_wp2
  go_ret
  exact ⟨rfl, rfl⟩
theorem code_flt (g : Nat) (c : Int) (s : ByteArray) (w : World) (h : Flt w g c s) : Calls Try.prog 22 #[fltV g] w fun e w' => e = .returned (.int .i64 c) ∧ w = w' := by
  have c0 : w.cell? ⟨g, 0, none⟩ = some (.int .i64 c) := by rw [blk_cell h.out]; rfl
  have hta : ∀ (v : Value) (W : World), (Instr.typeAssert (.iface 52 v) 26 52 true).run Try.prog W = .ok (.tuple #[v, .bool true]) W := fun _ _ => rfl
  clear h
  show Calls Try.prog 22 #[.iface 52 (.pointer (some ⟨g, 0, none⟩))] w _
  go_enter Try.func22, Try.ntmps22
  go_wp2
  go_ret
  exact ⟨rfl, rfl⟩
theorem code_err (c : Int) (w : World) : Calls Try.prog 22 #[numV c] w fun e w' => e = .returned (.int .i64 c) ∧ w = w' := by
  have htb : ∀ (v : Value) (W : World), (Instr.typeAssert (.iface 47 v) 26 52 true).run Try.prog W = .ok (.tuple #[.pointer none, .bool false]) W := fun _ _ => rfl
  have htc : ∀ (v : Value) (W : World), (Instr.typeAssert (.iface 47 v) 26 47 true).run Try.prog W = .ok (.tuple #[v, .bool true]) W := fun _ _ => rfl
  show Calls Try.prog 22 #[.iface 47 (.int .i64 c)] w _
  go_enter Try.func22, Try.ntmps22
  go_wp2
  go_ret
  exact ⟨rfl, rfl⟩
theorem code_fltN (w : World) : Calls Try.prog 22 #[fltN] w fun e w' => e = .returned (.int .i64 11) ∧ w = w' := by
  have hta : ∀ (v : Value) (W : World), (Instr.typeAssert (.iface 52 v) 26 52 true).run Try.prog W = .ok (.tuple #[v, .bool true]) W := fun _ _ => rfl
  have htd : ∀ (v : Value) (W : World), (Instr.typeAssert (.iface 52 v) 26 47 true).run Try.prog W = .ok (.tuple #[.int .i64 0, .bool false]) W := fun _ _ => rfl
  show Calls Try.prog 22 #[.iface 52 (.pointer none)] w _
  go_enter Try.func22, Try.ntmps22
  go_wp2
  go_ret
  exact ⟨rfl, rfl⟩
theorem where_nil (w : World) : Calls Try.prog 23 #[.nilIface] w fun e w' => e = .returned (.string ⟨#[]⟩) ∧ w = w' := by
  have htn : ∀ (W : World), (Instr.typeAssert .nilIface 26 52 true).run Try.prog W = .ok (.tuple #[.pointer none, .bool false]) W := fun _ => rfl
  show Calls Try.prog 23 #[.nilIface] w _
  go_enter Try.func23, Try.ntmps23
  go_wp2
  go_ret
  exact ⟨rfl, rfl⟩
theorem where_err (c : Int) (w : World) : Calls Try.prog 23 #[numV c] w fun e w' => e = .returned (.string ⟨#[]⟩) ∧ w = w' := by
  have htb : ∀ (v : Value) (W : World), (Instr.typeAssert (.iface 47 v) 26 52 true).run Try.prog W = .ok (.tuple #[.pointer none, .bool false]) W := fun _ _ => rfl
  have htc : ∀ (v : Value) (W : World), (Instr.typeAssert (.iface 47 v) 26 47 true).run Try.prog W = .ok (.tuple #[v, .bool true]) W := fun _ _ => rfl
  show Calls Try.prog 23 #[.iface 47 (.int .i64 c)] w _
  go_enter Try.func23, Try.ntmps23
  go_wp2
  go_ret
  exact ⟨rfl, rfl⟩
theorem where_fltN (w : World) : Calls Try.prog 23 #[fltN] w fun e w' => e = .returned (.string ⟨#[]⟩) ∧ w = w' := by
  have hta : ∀ (v : Value) (W : World), (Instr.typeAssert (.iface 52 v) 26 52 true).run Try.prog W = .ok (.tuple #[v, .bool true]) W := fun _ _ => rfl
  show Calls Try.prog 23 #[.iface 52 (.pointer none)] w _
  go_enter Try.func23, Try.ntmps23
  go_wp2
  go_ret
  exact ⟨rfl, rfl⟩
theorem where_flt (g : Nat) (c : Int) (s : ByteArray) (w : World) (h : Flt w g c s) : Calls Try.prog 23 #[fltV g] w fun e w' => e = .returned (.string s) ∧ w = w' := by
  have c1 : w.cell? ⟨g, 1, none⟩ = some (.string s) := by rw [blk_cell h.out]; rfl
  clear h
  have hta : ∀ (v : Value) (W : World), (Instr.typeAssert (.iface 52 v) 26 52 true).run Try.prog W = .ok (.tuple #[v, .bool true]) W := fun _ _ => rfl
  show Calls Try.prog 23 #[.iface 52 (.pointer (some ⟨g, 0, none⟩))] w _
  go_enter Try.func23, Try.ntmps23
  go_wp2
  go_ret
  exact ⟨rfl, rfl⟩
end Go.Proofs.Ytpdfojofnpbliaa.My

/- The walk of guard.Try: a fault is caught. -/
namespace Go.Proofs.Ytpdfojofnpbliaa.My
open Go.RowKit Go.Proofs.YtpdfojofnpbliaaW.PrintWords Go.Proofs.YtpdfojofnpbliaaW.PrintLast Go.Proofs.YtpdfojofnpbliaaW.PrintMore

theorem catch_flt (b : Nat) (x : Value) (g : Nat) (older : List PanicEntry) (w : World) (hc : w.cell? ⟨b, 0, none⟩ = some x) (hz : w.frozen? ⟨b, 0, none⟩ = false) :
    CallsD Try.prog 30 #[.pointer (some ⟨b, 0, none⟩)] (.panicking ({ v := fltV g, recovered := false } :: older)) w fun e u' w' =>
      e = .returned (.tuple #[]) ∧ u' = .panicking ({ v := fltV g, recovered := true } :: older) ∧ w' = w.setCell ⟨b, 0, none⟩ (fltV g) := by
  have hta : ∀ (v : Value) (W : World), (Instr.typeAssert (.iface 52 v) 20 52 true).run Try.prog W = .ok (.tuple #[v, .bool true]) W := fun _ _ => rfl
  unfold fltV
  refine callsD_of_wpS Try.func30 rfl fun c₀ cs hu => ?_
  apply wpS_seq
  apply wpS_region
  simp [wpOpsS, go_sem, recoverD, hu, Try.ntmps30, Exit.thenS]
  rw [show ∀ (p v : Value), #[p] ++ (Array.replicate 11 undef).setIfInBounds 3 v = #[p, undef, undef, undef, v, undef, undef, undef, undef, undef, undef, undef] from fun _ _ => rfl]
  refine wpS_of_wp ?_
  clear hu
  go_wp2
  simp [bodyPostS, results, Try.results30]
theorem catch_idle (b : Nat) (w : World) :
    CallsD Try.prog 30 #[.pointer (some ⟨b, 0, none⟩)] .returning w fun e u' w' => e = .returned (.tuple #[]) ∧ u' = .returning ∧ w' = w := by
  refine callsD_of_wpS Try.func30 rfl fun c₀ cs hu => ?_
  apply wpS_seq
  apply wpS_region
  simp [wpOpsS, go_sem, recoverD, hu, Try.ntmps30, Exit.thenS]
  rw [show ∀ (p v : Value), #[p] ++ (Array.replicate 11 undef).setIfInBounds 3 v = #[p, undef, undef, undef, v, undef, undef, undef, undef, undef, undef, undef] from fun _ _ => rfl]
  refine wpS_of_wp ?_
  have HU := Aside0.mk hu
  clear hu
  go_wp2
  have hu := HU.out
  cases c₀
  simp_all [bodyPostS, results, Try.results30]
/-- What isn't a fault goes on: it is panicked with anew. -/
theorem catch_int (b : Nat) (n : Int) (older : List PanicEntry) (w : World) :
    CallsD Try.prog 30 #[.pointer (some ⟨b, 0, none⟩)] (.panicking ({ v := .iface 3 (.int .i64 n), recovered := false } :: older)) w fun e u' w' =>
      e = .panicked [{ v := .iface 3 (.int .i64 n), recovered := false }] ∧ u' = .panicking ({ v := .iface 3 (.int .i64 n), recovered := true } :: older) ∧ w' = w := by
  have hta : ∀ (v : Value) (W : World), (Instr.typeAssert (.iface 3 v) 20 52 true).run Try.prog W = .ok (.tuple #[.pointer none, .bool false]) W := fun _ _ => rfl
  refine callsD_of_wpS Try.func30 rfl fun c₀ cs hu => ?_
  apply wpS_seq
  apply wpS_region
  simp [wpOpsS, go_sem, recoverD, hu, Try.ntmps30, Exit.thenS]
  rw [show ∀ (p v : Value), #[p] ++ (Array.replicate 11 undef).setIfInBounds 3 v = #[p, undef, undef, undef, v, undef, undef, undef, undef, undef, undef, undef] from fun _ _ => rfl]
  refine wpS_of_wp ?_
  clear hu
  go_wp2
  simp [bodyPostS]
/-- What a function does that is handed to Try: it ends, or it throws a fault; the variable that Try has made stays as it is. -/
def Ends (k : Nat) (D : World → Prop) (T : Nat → World → Prop) (e : Ending) (w : World) : Prop :=
  w.heap[k]? = some (.cells #[.nilIface] 26 (0, 0)) ∧ ((∃ v, e = .returned v ∧ D w) ∨ (∃ g, e = .panicked [{ v := fltV g, recovered := false }] ∧ T g w))
/-- What Try answers then. -/
def Tried (k : Nat) (D : World → Prop) (T : Nat → World → Prop) (e : Ending) (w : World) : Prop :=
  (e = .returned .nilIface ∧ ∃ w1, D w1 ∧ w = w1.setCell ⟨k, 0, none⟩ .nilIface) ∨ (∃ g, e = .returned (fltV g) ∧ ∃ w1, T g w1 ∧ w = w1.setCell ⟨k, 0, none⟩ (fltV g))
theorem try_fun (F : FuncId) (cap : Array Value) (w : World) (D : World → Prop) (T : Nat → World → Prop)
    (hcf : ∀ W : World, (callFunc F cap).run Try.prog W = .ok (.enter F cap) W)
    (hR : Calls Try.prog F cap (w.alloc (.cells #[.nilIface] 26)) (Ends w.heap.size D T)) :
    Calls Try.prog 12 #[.func (.func F) #[] cap] w (Tried w.heap.size D T) := by
  have hmf : ∀ (fn : Fn) (first cap : Array Value) (w : World), (Instr.makeFunc fn first cap).run Try.prog w = .ok (.func fn first cap) w := fun _ _ _ _ => rfl
  have hnf : ∀ (fn : Fn) (first cap : Array Value) (W : World), (Go.binOp .eql 1 (Value.func fn first cap) Value.nilFunc).run Try.prog W = .ok (.bool false) W := fun _ _ _ _ => rfl
  have HR := Aside0.mk hR
  clear hR
  go_enter_defers Try.func12, Try.ntmps12
  go_wp2_with fail
  refine HR.out.mono ?_
  rintro e w1 ⟨hb, ⟨v, rfl, hD⟩ | ⟨g, rfl, hT⟩⟩
  · have hc : w1.cell? ⟨w.heap.size, 0, none⟩ = some .nilIface := by rw [blk_cell hb]; rfl
    have hz : w1.frozen? ⟨w.heap.size, 0, none⟩ = false := blk_frozen hb 0
    have HD := Aside0.mk hD
    have HB := Aside0.mk hb
    clear hD hb
    go_wp2
    refine leaves_cons (f := 30) (args := #[.pointer (some ⟨w.heap.size, 0, none⟩)]) (by simp) (by simp [go_sem]) ?_
    refine (catch_idle w.heap.size _).mono ?_
    rintro e u' w'' ⟨rfl, rfl, rfl⟩
    have hb' := blk_set HB.out 0 .nilIface
    simp [Leaves, settle, results, Try.results12, go_sem, hc]
    exact .inl ⟨rfl, w1, HD.out, rfl⟩
  · have hc : w1.cell? ⟨w.heap.size, 0, none⟩ = some .nilIface := by rw [blk_cell hb]; rfl
    have hz : w1.frozen? ⟨w.heap.size, 0, none⟩ = false := blk_frozen hb 0
    have HT := Aside0.mk hT
    have HB := Aside0.mk hb
    clear hT hb
    go_wp2
    refine leaves_cons (f := 30) (args := #[.pointer (some ⟨w.heap.size, 0, none⟩)]) (by simp) (by simp [go_sem]) ?_
    refine (catch_flt w.heap.size .nilIface g [] _ hc hz).mono ?_
    rintro e u' w'' ⟨rfl, rfl, rfl⟩
    simp [Leaves, settle, results, Try.results12, go_sem, hc]
    exact .inr ⟨g, rfl, w1, HT.out, rfl⟩
end Go.Proofs.Ytpdfojofnpbliaa.My

/- The walks of guard.In and guard.Pass. -/
namespace Go.Proofs.Ytpdfojofnpbliaa.My
open Go.RowKit Go.Proofs.YtpdfojofnpbliaaW.PrintWords Go.Proofs.YtpdfojofnpbliaaW.PrintLast Go.Proofs.YtpdfojofnpbliaaW.PrintMore

theorem Flt.set {w : World} {g k : Nat} {c : Int} {s : ByteArray} {x : Value} (h : Flt w g c s) (hk : w.heap[k]? = some (.cells #[x] 26 (0, 0))) (v : Value) : Flt (w.setCell ⟨k, 0, none⟩ v) g c s := by
  refine ⟨?_⟩
  have hne : g ≠ k := by
    rintro rfl
    rw [h.out] at hk
    simp at hk
  rw [Below.heap_setCell w ⟨k, 0, none⟩ v g hne]
  exact h.out
/-- A place ahead of a place. -/
def joinW (a b : ByteArray) : ByteArray := if b.toList.isEmpty then a else a ++ (⟨#[46]⟩ ++ b)
theorem in_fun (wh : ByteArray) (F : FuncId) (cap : Array Value) (w : World) (D : World → Prop) (X : Int → ByteArray → World → Prop)
    (hwh : wh.size ≤ 1000000000000) (hXs : ∀ c s w1, X c s w1 → s.size ≤ 1000000000000)
    (hcf : ∀ W : World, (callFunc F cap).run Try.prog W = .ok (.enter F cap) W)
    (hR : Calls Try.prog F cap (w.alloc (.cells #[.nilIface] 26)) (Ends w.heap.size D (fun g w1 => ∃ c s, Flt w1 g c s ∧ X c s w1 ∧ w1.heap[w.heap.size]? = some (.cells #[.nilIface] 26 (0, 0))))) :
    Calls Try.prog 10 #[.string wh, .func (.func F) #[] cap] w fun e w' =>
      (e = .returned (.tuple #[]) ∧ ∃ w1, D w1 ∧ w' = w1.setCell ⟨w.heap.size, 0, none⟩ .nilIface) ∨
      (∃ c s g w1, X c s w1 ∧ Flt w1 g c s ∧ e = .panicked [{ v := fltV w1.heap.size, recovered := false }] ∧ w' = (w1.setCell ⟨w.heap.size, 0, none⟩ (fltV g)).alloc (.cells #[.int .i64 c, .string (joinW wh s)] 54)) := by
  have HT := Aside0.mk (try_fun F cap w _ _ hcf hR)
  clear hR hcf
  go_enter Try.func10, Try.ntmps10
  go_wp2_with fail
  refine HT.out.mono ?_
  rintro e w' (⟨rfl, w1, hD, rfl⟩ | ⟨g, rfl, w1, ⟨c, s, hF, hX, hk⟩, rfl⟩)
  · have HD := Aside0.mk hD
    clear hD
    go_wp2
    refine bodyPost_ret (results_none rfl _ _ _) rfl (.inl ⟨rfl, w1, HD.out, rfl⟩)
  · have hF1 := hF.set hk (fltV g)
    have H1 := Aside0.mk hF1
    have HX := Aside0.mk (And.intro hX hF)
    have hsz := hXs _ _ _ hX
    clear hF1 hX hF hk
    by_cases hs : s.toList.isEmpty = true
    · go_wp2_with (first
        | (go_at_call 23; refine (where_flt g c s _ H1.out).mono ?_; rintro e w2 ⟨rfl, rfl⟩)
        | (go_at_call 22; refine (code_flt g c s _ H1.out).mono ?_; rintro e w2 ⟨rfl, rfl⟩)
        | (go_at_call 29; refine (throw_calls _ _ _).mono ?_; rintro e w2 ⟨rfl, rfl⟩))
      refine post_panic rfl (.inr ⟨c, s, g, w1, HX.out.1, HX.out.2, rfl, ?_⟩)
      rw [joinW, if_pos hs]
    · have hs' : s.toList.isEmpty = false := by simpa using hs
      have HJ : Aside0 (joinW wh s = wh ++ (⟨#[46]⟩ ++ s)) := ⟨by rw [joinW, if_neg hs]⟩
      clear hs
      go_wp2_with (first
        | (go_at_call 23; refine (where_flt g c s _ H1.out).mono ?_; rintro e w2 ⟨rfl, rfl⟩)
        | (go_at_call 22; refine (code_flt g c s _ H1.out).mono ?_; rintro e w2 ⟨rfl, rfl⟩)
        | (go_at_call 29; refine (throw_calls _ _ _).mono ?_; rintro e w2 ⟨rfl, rfl⟩))
      refine post_panic rfl (.inr ⟨c, s, g, w1, HX.out.1, HX.out.2, rfl, ?_⟩)
      rw [HJ.out]

theorem pass_nil (w : World) : Calls Try.prog 21 #[.nilIface] w fun e w' => e = .returned (.tuple #[]) ∧ w = w' := by
  go_enter Try.func21, Try.ntmps21
  go_wp2
  go_end0
  exact ⟨rfl, rfl⟩
theorem pass_flt (g : Nat) (c : Int) (s : ByteArray) (w : World) (h : Flt w g c s) : Calls Try.prog 21 #[fltV g] w fun e w' =>
    e = .panicked [{ v := fltV w.heap.size, recovered := false }] ∧ w' = w.alloc (.cells #[.int .i64 c, .string s] 54) := by
  have H1 := Aside0.mk h
  clear h
  go_enter Try.func21, Try.ntmps21
  go_wp2_with (first
    | (go_at_call 23; refine (where_flt g c s _ H1.out).mono ?_; rintro e w2 ⟨rfl, rfl⟩)
    | (go_at_call 22; refine (code_flt g c s _ H1.out).mono ?_; rintro e w2 ⟨rfl, rfl⟩)
    | (go_at_call 29; refine (throw_calls _ _ _).mono ?_; rintro e w2 ⟨rfl, rfl⟩))
  exact post_panic rfl ⟨rfl, rfl⟩
theorem pass_err (c : Int) (w : World) : Calls Try.prog 21 #[numV c] w fun e w' =>
    e = .panicked [{ v := fltV w.heap.size, recovered := false }] ∧ w' = w.alloc (.cells #[.int .i64 c, .string ⟨#[]⟩] 54) := by
  go_enter Try.func21, Try.ntmps21
  go_wp2_with (first
    | (go_at_call 23; refine (where_err c _).mono ?_; rintro e w2 ⟨rfl, rfl⟩)
    | (go_at_call 22; refine (code_err c _).mono ?_; rintro e w2 ⟨rfl, rfl⟩)
    | (go_at_call 29; refine (throw_calls _ _ _).mono ?_; rintro e w2 ⟨rfl, rfl⟩))
  exact post_panic rfl ⟨rfl, rfl⟩
end Go.Proofs.Ytpdfojofnpbliaa.My

/- Try and In over functions that leave what was there alone: short rules. -/
namespace Go.Proofs.Ytpdfojofnpbliaa.My
open Go.RowKit Go.Proofs.YtpdfojofnpbliaaW.PrintWords Go.Proofs.YtpdfojofnpbliaaW.PrintLast Go.Proofs.YtpdfojofnpbliaaW.PrintMore

/-- A fault is thrown; nothing that was there has turned. -/
def Throws (c : Int) (s : ByteArray) (W : World) (e : Ending) (w' : World) : Prop :=
  ∃ w2, Below W.heap.size W w2 ∧ e = .panicked [{ v := fltV w2.heap.size, recovered := false }] ∧ w' = w2.alloc (.cells #[.int .i64 c, .string s] 54)
/-- It ends; nothing that was there has turned. -/
def Quiet (W : World) (e : Ending) (w' : World) : Prop := (∃ v, e = .returned v) ∧ Below W.heap.size W w'

theorem throw_throws (c : Int) (s : ByteArray) (W : World) : Calls Try.prog 29 #[.int .i64 c, .string s] W (Throws c s W) :=
  (throw_calls c s W).mono fun _ _ ⟨h1, h2⟩ => ⟨W, Below.refl _ _, h1, h2⟩
theorem below_from {W w1 : World} {o : Obj} (h : Below (W.alloc o).heap.size (W.alloc o) w1) : Below W.heap.size W w1 :=
  below_then (below_alloc (Below.refl _ _) o) (by simp) h
theorem kept_new {W w1 : World} {o : Obj} (h : Below (W.alloc o).heap.size (W.alloc o) w1) : w1.heap[W.heap.size]? = some o := by
  rw [h.block W.heap.size (by simp)]
  exact alloc_self W o
theorem ends_throws {c : Int} {s : ByteArray} {W : World} {e : Ending} {w' : World} (h : Throws c s (W.alloc (.cells #[.nilIface] 26)) e w') :
    Ends W.heap.size (fun _ => False) (fun g w1 => ∃ c' s', Flt w1 g c' s' ∧ (c' = c ∧ s' = s ∧ Below W.heap.size W w1 ∧ w1.heap[W.heap.size]? = some (.cells #[.nilIface] 26 (0, 0))) ∧ w1.heap[W.heap.size]? = some (.cells #[.nilIface] 26 (0, 0))) e w' := by
  obtain ⟨w2, hb, rfl, rfl⟩ := h
  have h2 := below_alloc hb (.cells #[.int .i64 c, .string s] 54)
  have hk := kept_new h2
  exact ⟨hk, .inr ⟨_, rfl, c, s, ⟨alloc_self _ _⟩, ⟨rfl, rfl, below_from h2, hk⟩, hk⟩⟩
theorem ends_throws' {c : Int} {s : ByteArray} {W : World} {e : Ending} {w' : World} (h : Throws c s (W.alloc (.cells #[.nilIface] 26)) e w') :
    Ends W.heap.size (fun _ => False) (fun g w1 => Flt w1 g c s ∧ Below W.heap.size W w1 ∧ w1.heap[W.heap.size]? = some (.cells #[.nilIface] 26 (0, 0)) ∧ W.heap.size < g) e w' := by
  obtain ⟨w2, hb, rfl, rfl⟩ := h
  have h2 := below_alloc hb (.cells #[.int .i64 c, .string s] 54)
  have hk := kept_new h2
  exact ⟨hk, .inr ⟨_, rfl, ⟨alloc_self _ _⟩, below_from h2, hk, by have := hb.size; simp at this; omega⟩⟩
theorem try_throws (F : FuncId) (cap : Array Value) (c : Int) (s : ByteArray) (W : World) (hcf : ∀ W : World, (callFunc F cap).run Try.prog W = .ok (.enter F cap) W)
    (h : Calls Try.prog F cap (W.alloc (.cells #[.nilIface] 26)) (Throws c s (W.alloc (.cells #[.nilIface] 26)))) :
    Calls Try.prog 12 #[.func (.func F) #[] cap] W fun e w' => ∃ g, e = .returned (fltV g) ∧ Flt w' g c s ∧ Below W.heap.size W w' ∧ W.heap.size < g := by
  refine (try_fun F cap W _ _ hcf (h.mono fun _ _ h => ends_throws' h)).mono ?_
  rintro e w' (⟨_, w1, hD, _⟩ | ⟨g, rfl, w1, ⟨hF, hb, hk, hg⟩, rfl⟩)
  · exact hD.elim
  · exact ⟨g, rfl, hF.set hk _, hb.setCell (Nat.le_refl _) _, hg⟩
theorem in_throws (wh : ByteArray) (F : FuncId) (cap : Array Value) (c : Int) (s : ByteArray) (W : World) (hwh : wh.size ≤ 1000000000000) (hs : s.size ≤ 1000000000000)
    (hcf : ∀ W : World, (callFunc F cap).run Try.prog W = .ok (.enter F cap) W)
    (h : Calls Try.prog F cap (W.alloc (.cells #[.nilIface] 26)) (Throws c s (W.alloc (.cells #[.nilIface] 26)))) :
    Calls Try.prog 10 #[.string wh, .func (.func F) #[] cap] W (Throws c (joinW wh s) W) := by
  refine (in_fun wh F cap W _ (fun c' s' w1 => c' = c ∧ s' = s ∧ Below W.heap.size W w1 ∧ w1.heap[W.heap.size]? = some (.cells #[.nilIface] 26 (0, 0))) hwh (fun c' s' w1 h => h.2.1 ▸ hs) hcf (h.mono fun _ _ h => ends_throws h)).mono ?_
  rintro e w' (⟨_, w1, hD, _⟩ | ⟨c', s', g, w1, ⟨rfl, rfl, hb, hk⟩, hF, rfl, rfl⟩)
  · exact hD.elim
  · exact ⟨w1.setCell ⟨W.heap.size, 0, none⟩ (fltV g), hb.setCell (Nat.le_refl _) _, by simp, rfl⟩
theorem ends_quiet {W : World} {e : Ending} {w' : World} (T : Nat → World → Prop) (h : Quiet (W.alloc (.cells #[.nilIface] 26)) e w') :
    Ends W.heap.size (fun w1 => Below W.heap.size W w1) T e w' := by
  obtain ⟨⟨v, rfl⟩, hb⟩ := h
  exact ⟨kept_new hb, .inl ⟨v, rfl, below_from hb⟩⟩
theorem try_quiet (F : FuncId) (cap : Array Value) (W : World) (hcf : ∀ W : World, (callFunc F cap).run Try.prog W = .ok (.enter F cap) W)
    (h : Calls Try.prog F cap (W.alloc (.cells #[.nilIface] 26)) (Quiet (W.alloc (.cells #[.nilIface] 26)))) :
    Calls Try.prog 12 #[.func (.func F) #[] cap] W fun e w' => e = .returned .nilIface ∧ Below W.heap.size W w' := by
  refine (try_fun F cap W _ (fun _ _ => False) hcf (h.mono fun _ _ h => ends_quiet _ h)).mono ?_
  rintro e w' (⟨rfl, w1, hD, rfl⟩ | ⟨g, rfl, w1, hF, rfl⟩)
  · exact ⟨rfl, hD.setCell (Nat.le_refl _) _⟩
  · exact hF.elim
end Go.Proofs.Ytpdfojofnpbliaa.My

/- guard.Try and guard.In of a method that is bound. -/
namespace Go.Proofs.Ytpdfojofnpbliaa.My
open Go.RowKit Go.Proofs.YtpdfojofnpbliaaW.PrintWords Go.Proofs.YtpdfojofnpbliaaW.PrintLast Go.Proofs.YtpdfojofnpbliaaW.PrintMore

theorem try_meth (F : FuncId) (cap : Array Value) (w : World) (D : World → Prop) (T : Nat → World → Prop)
    (hcf : ∀ W : World, (callFunc F cap).run Try.prog W = .ok (.enter F cap) W)
    (hR : Calls Try.prog F cap (w.alloc (.cells #[.nilIface] 26)) (Ends w.heap.size D T)) :
    Calls Try.prog 12 #[.func (.func F) cap #[]] w (Tried w.heap.size D T) := by
  have hmf : ∀ (fn : Fn) (first cap : Array Value) (w : World), (Instr.makeFunc fn first cap).run Try.prog w = .ok (.func fn first cap) w := fun _ _ _ _ => rfl
  have hnf : ∀ (fn : Fn) (first cap : Array Value) (W : World), (Go.binOp .eql 1 (Value.func fn first cap) Value.nilFunc).run Try.prog W = .ok (.bool false) W := fun _ _ _ _ => rfl
  have HR := Aside0.mk hR
  clear hR
  go_enter_defers Try.func12, Try.ntmps12
  go_wp2_with fail
  refine HR.out.mono ?_
  rintro e w1 ⟨hb, ⟨v, rfl, hD⟩ | ⟨g, rfl, hT⟩⟩
  · have hc : w1.cell? ⟨w.heap.size, 0, none⟩ = some .nilIface := by rw [blk_cell hb]; rfl
    have hz : w1.frozen? ⟨w.heap.size, 0, none⟩ = false := blk_frozen hb 0
    have HD := Aside0.mk hD
    have HB := Aside0.mk hb
    clear hD hb
    go_wp2
    refine leaves_cons (f := 30) (args := #[.pointer (some ⟨w.heap.size, 0, none⟩)]) (by simp) (by simp [go_sem]) ?_
    refine (catch_idle w.heap.size _).mono ?_
    rintro e u' w'' ⟨rfl, rfl, rfl⟩
    have hb' := blk_set HB.out 0 .nilIface
    simp [Leaves, settle, results, Try.results12, go_sem, hc]
    exact .inl ⟨rfl, w1, HD.out, rfl⟩
  · have hc : w1.cell? ⟨w.heap.size, 0, none⟩ = some .nilIface := by rw [blk_cell hb]; rfl
    have hz : w1.frozen? ⟨w.heap.size, 0, none⟩ = false := blk_frozen hb 0
    have HT := Aside0.mk hT
    have HB := Aside0.mk hb
    clear hT hb
    go_wp2
    refine leaves_cons (f := 30) (args := #[.pointer (some ⟨w.heap.size, 0, none⟩)]) (by simp) (by simp [go_sem]) ?_
    refine (catch_flt w.heap.size .nilIface g [] _ hc hz).mono ?_
    rintro e u' w'' ⟨rfl, rfl, rfl⟩
    simp [Leaves, settle, results, Try.results12, go_sem, hc]
    exact .inr ⟨g, rfl, w1, HT.out, rfl⟩
theorem in_meth (wh : ByteArray) (F : FuncId) (cap : Array Value) (w : World) (D : World → Prop) (X : Int → ByteArray → World → Prop)
    (hwh : wh.size ≤ 1000000000000) (hXs : ∀ c s w1, X c s w1 → s.size ≤ 1000000000000)
    (hcf : ∀ W : World, (callFunc F cap).run Try.prog W = .ok (.enter F cap) W)
    (hR : Calls Try.prog F cap (w.alloc (.cells #[.nilIface] 26)) (Ends w.heap.size D (fun g w1 => ∃ c s, Flt w1 g c s ∧ X c s w1 ∧ w1.heap[w.heap.size]? = some (.cells #[.nilIface] 26 (0, 0))))) :
    Calls Try.prog 10 #[.string wh, .func (.func F) cap #[]] w fun e w' =>
      (e = .returned (.tuple #[]) ∧ ∃ w1, D w1 ∧ w' = w1.setCell ⟨w.heap.size, 0, none⟩ .nilIface) ∨
      (∃ c s g w1, X c s w1 ∧ Flt w1 g c s ∧ e = .panicked [{ v := fltV w1.heap.size, recovered := false }] ∧ w' = (w1.setCell ⟨w.heap.size, 0, none⟩ (fltV g)).alloc (.cells #[.int .i64 c, .string (joinW wh s)] 54)) := by
  have HT := Aside0.mk (try_meth F cap w _ _ hcf hR)
  clear hR hcf
  go_enter Try.func10, Try.ntmps10
  go_wp2_with fail
  refine HT.out.mono ?_
  rintro e w' (⟨rfl, w1, hD, rfl⟩ | ⟨g, rfl, w1, ⟨c, s, hF, hX, hk⟩, rfl⟩)
  · have HD := Aside0.mk hD
    clear hD
    go_wp2
    refine bodyPost_ret (results_none rfl _ _ _) rfl (.inl ⟨rfl, w1, HD.out, rfl⟩)
  · have hF1 := hF.set hk (fltV g)
    have H1 := Aside0.mk hF1
    have HX := Aside0.mk (And.intro hX hF)
    have hsz := hXs _ _ _ hX
    clear hF1 hX hF hk
    by_cases hs : s.toList.isEmpty = true
    · go_wp2_with (first
        | (go_at_call 23; refine (where_flt g c s _ H1.out).mono ?_; rintro e w2 ⟨rfl, rfl⟩)
        | (go_at_call 22; refine (code_flt g c s _ H1.out).mono ?_; rintro e w2 ⟨rfl, rfl⟩)
        | (go_at_call 29; refine (throw_calls _ _ _).mono ?_; rintro e w2 ⟨rfl, rfl⟩))
      refine post_panic rfl (.inr ⟨c, s, g, w1, HX.out.1, HX.out.2, rfl, ?_⟩)
      rw [joinW, if_pos hs]
    · have hs' : s.toList.isEmpty = false := by simpa using hs
      have HJ : Aside0 (joinW wh s = wh ++ (⟨#[46]⟩ ++ s)) := ⟨by rw [joinW, if_neg hs]⟩
      clear hs
      go_wp2_with (first
        | (go_at_call 23; refine (where_flt g c s _ H1.out).mono ?_; rintro e w2 ⟨rfl, rfl⟩)
        | (go_at_call 22; refine (code_flt g c s _ H1.out).mono ?_; rintro e w2 ⟨rfl, rfl⟩)
        | (go_at_call 29; refine (throw_calls _ _ _).mono ?_; rintro e w2 ⟨rfl, rfl⟩))
      refine post_panic rfl (.inr ⟨c, s, g, w1, HX.out.1, HX.out.2, rfl, ?_⟩)
      rw [HJ.out]

end Go.Proofs.Ytpdfojofnpbliaa.My

/- alive of the laws of guard. -/
namespace Go.Proofs.Ytpdfojofnpbliaa.My
open Go.RowKit Go.Proofs.YtpdfojofnpbliaaW.PrintWords Go.Proofs.YtpdfojofnpbliaaW.PrintLast Go.Proofs.YtpdfojofnpbliaaW.PrintMore

theorem alive2_throws (W : World) : Calls Try.prog 28 #[] W (Throws 2 ⟨#[97]⟩ W) := by
  go_enter Try.func28, Try.ntmps28
  go_wp2_with (go_at_call 29; refine (throw_throws _ _ _).mono ?_; rintro e w2 ⟨w3, hb, rfl, rfl⟩)
  exact post_panic rfl ⟨w3, hb, rfl, rfl⟩
theorem alive1_throws (W : World) : Calls Try.prog 27 #[] W (Throws 2 (joinW ⟨#[98]⟩ ⟨#[97]⟩) W) := by
  go_enter Try.func27, Try.ntmps27
  go_wp2_with fail
  refine (in_throws ⟨#[98]⟩ 28 #[] 2 ⟨#[97]⟩ _ (by decide) (by decide) (fun _ => rfl) (alive2_throws _)).mono ?_
  rintro e w2 ⟨w3, hb, rfl, rfl⟩
  go_wp2
  exact post_panic rfl ⟨w3, hb, rfl, rfl⟩
theorem alive_calls (w : World) : Calls Try.prog 7 #[] w fun e w' => e = .returned (.bool true) ∧ Below w.heap.size w w' := by
  have hj : joinW ⟨#[98]⟩ ⟨#[97]⟩ = ⟨#[98, 46, 97]⟩ := by decide +kernel
  go_enter Try.func7, Try.ntmps7
  go_wp2_with fail
  refine (try_throws 27 #[] 2 _ _ (fun _ => rfl) (alive1_throws _)).mono ?_
  rintro e w1 ⟨g, rfl, hF, hb, _⟩
  rw [hj] at hF
  have HF := Aside0.mk hF
  have HB := Aside0.mk hb
  clear hF hb hj
  go_wp2_with (first
    | (go_at_call 23; refine (where_flt g _ _ _ HF.out).mono ?_; rintro e w2 ⟨rfl, rfl⟩)
    | (go_at_call 22; refine (code_flt g _ _ _ HF.out).mono ?_; rintro e w2 ⟨rfl, rfl⟩))
  go_ret
  exact ⟨rfl, HB.out⟩

end Go.Proofs.Ytpdfojofnpbliaa.My
