/- The walk of crossdocknum's Num. -/
import Derived.Test.YtlgpmpnobcdogaaMyBytes
namespace Go.Proofs.Ytlgpmpnobcdogaa.My
open Go.RowKit Go.Proofs.YtlgpmpnobcdogaaW.PrintWords Go.Proofs.YtlgpmpnobcdogaaW.PrintLast Go.Proofs.YtlgpmpnobcdogaaW.PrintMore

def numE : Option Int → Int
  | none => 0
  | some c => c
theorem num_calls (e : Option Int) (w : World) (h : ∀ c, e = some c → c ≠ 0) : Calls Try.prog 11 #[errV e] w fun r w' => r = .returned (.int .i64 (numE e)) ∧ w = w' := by
  cases e with
  | none =>
    show Calls Try.prog 11 #[.nilIface] w _
    go_enter Try.func11, Try.ntmps11
    go_wp2
    go_ret
    exact ⟨rfl, rfl⟩
  | some c =>
    have h1 : (c == 0) = false := beq_eq_false_iff_ne.2 (h c rfl)
    have h2 : (c != 0) = true := bne_iff_ne.2 (h c rfl)
    have hta : ∀ (v : Value) (W : World), (Instr.typeAssert (.iface 52 v) 26 52 true).run Try.prog W = .ok (.tuple #[v, .bool true]) W := fun v W => by rfl
    clear h
    show Calls Try.prog 11 #[.iface 52 (.int .i64 c)] w _
    have u1 := Try.underlying26
    have u2 := Try.underlying52
    go_enter Try.func11, Try.ntmps11
    go_wp2
    go_ret
    exact ⟨rfl, rfl⟩
end Go.Proofs.Ytlgpmpnobcdogaa.My
