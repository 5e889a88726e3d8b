/- The walk of slices.Clone of numbers. -/
import Derived.Test.YtlgpmpnobcdogaaMySort
import Derived.RegionTactic
namespace Go.Proofs.Ytlgpmpnobcdogaa.My
open Go.RowKit Go.Proofs.Ytlgpmpnobcdogaa.Huf Go.Proofs.YtlgpmpnobcdogaaW.PrintWords Go.Proofs.YtlgpmpnobcdogaaW.PrintLast Go.Proofs.YtlgpmpnobcdogaaW.PrintMore

theorem cloneI_calls (A : Option Addr) (n c : Nat) (xs : List Int) (w : World) (hx : (Kd.int .i64).C w A n xs) (hn : n ≤ 17592186044416) (hl : xs.length = n) (hcap : A = none → n = 0 ∧ c = 0) :
    Calls Try.prog 28 #[.slice A n c] w fun e w' => ∃ v', e = .returned v' ∧ w'.ownsRow w.heap.size 3 1 v' xs.length (nums .i64 xs) ∧ Below w.heap.size w w' := by
  cases A with
  | none =>
    obtain ⟨rfl, rfl⟩ := hcap rfl
    have : xs = [] := List.eq_nil_of_length_eq_zero hl
    subst this
    clear hx hl hcap hn
    have i1 : ∀ w : World, (binOp .eql 22 (.slice none 0 0) (.slice none 0 0)).run Try.prog w = .ok (.bool true) w := fun w => by rfl
    go_enter Try.func28, Try.ntmps28
    go_wp2
    go_ret
    exact ⟨_, rfl, own_nil _ _ _ _, Below.refl _ _⟩
  | some ad =>
    have HX := Aside0.mk hx
    have HL := Aside0.mk hl
    clear hx hcap hl
    have i1 : ∀ w : World, (binOp .eql 22 (.slice (some ad) n c) (.slice none 0 0)).run Try.prog w = .ok (.bool false) w := fun w => by rfl
    go_enter Try.func28, Try.ntmps28
    go_wp2_with ((with_reducible refine gate_dst (N := 7) rfl ?_); refine print_append_row (w0 := w) w.heap.size rfl (.tmp 5) (.tmp 6) 22 3 .i64 8 rfl Try.underlying22 info_i64 (by decide) _ [] xs (some ad) _ c rfl rfl (own_lit w w.heap.size 3 .i64 [] (Nat.le_refl _) (by decide)) (reads_of_C (Kd.C_alloc HX.out _)) (below_alloc (Below.refl _ _) _) (by simp) (by simp; omega) ?_; intro v1 w2 ho hb hg hk; clear hg hk; rw [List.nil_append] at ho; have HB2 := Aside0.mk hb; have HO := Aside0.mk ho; clear hb ho)
    go_ret
    exact ⟨_, rfl, HO.out, HB2.out⟩
end Go.Proofs.Ytlgpmpnobcdogaa.My
