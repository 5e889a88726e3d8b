/- The walk of bits.Writer.Text. -/
import Derived.Test.YtjlophlheoikgaaMyWput
import Derived.Test.YtjlophlheoikgaaMyClone
namespace Go.Proofs.Ytjlophlheoikgaa.My
open Go.RowKit Go.Proofs.YtjlophlheoikgaaW.PrintWords Go.Proofs.YtjlophlheoikgaaW.PrintLast Go.Proofs.YtjlophlheoikgaaW.PrintMore

theorem own_cap {w : World} {B n : Nat} {e : TypeId} {A : Option Addr} {m c : Nat} {xs : List Value} (h : w.ownsRow B e 1 (.slice A m c) n xs) : A = none → m = 0 ∧ c = 0 := by
  intro hA
  rcases h.2 with ⟨h1, h2⟩ | ⟨g, cap, cur, h1, _⟩
  · cases h1; exact ⟨rfl, rfl⟩
  · subst hA; cases h1
theorem wtext_calls (w : World) (B g : Nat) (v : Value) (V N : Nat) (hw : Writ w B g v V N) (hN : N ≤ 1000000000000000) :
    Calls Try.prog 18 #[.pointer (some ⟨g, 0, none⟩)] w fun e w' => ∃ v', e = .returned v' ∧ w'.ownsRow w.heap.size 5 1 v' ((N + 7) / 8) (nums .u8 (leB V ((N + 7) / 8))) ∧ Below w.heap.size w w' := by
  obtain ⟨c0, c1, c2, f0, f1, f2⟩ := hw.wr.cells
  obtain ⟨A, cc, rfl⟩ := own_slice hw.wr.row
  obtain ⟨A', c', e', hcc, hC⟩ := own_slice' hw.wr.row
  cases e'
  have hcap := own_cap hw.wr.row
  rw [leB_len] at c0 hC hcap
  have hcl := Aside0.mk (clone_calls A (N / 8) cc (leB V (N / 8)) w hC (by omega) (leB_len _ _) hcap)
  have hblk := Aside0.mk hw.wr.blk
  have hV := Aside0.mk hw.lt
  have hm8 : N % 8 < 8 := Nat.mod_lt _ (by decide)
  have HD := Aside0.mk (show N = 8 * (N / 8) + N % 8 by omega)
  by_cases hm : N % 8 = 0
  · have e1 : (N + 7) / 8 = N / 8 := by omega
    rw [hm] at c2
    rw [e1]
    clear hw hC hm e1 HD
    go_enter Try.func18, Try.ntmps18
    go_wp2_with (go_at_call 35; refine hcl.out.mono ?_; rintro e w' ⟨v', rfl, HO, HB⟩; rw [leB_len] at HO; obtain ⟨A2, k2, rfl⟩ := own_slice HO; have p2 := pw_cell_below HB c2; replace HO := Aside0.mk HO; replace HB := Aside0.mk HB)
    go_ret
    exact ⟨_, rfl, HO.out, HB.out⟩
  · have e1 : (N + 7) / 8 = N / 8 + 1 := by omega
    have hm0 : (0 : Int) < ((N % 8 : Nat) : Int) := by omega
    rw [e1]
    clear hw hC hm e1
    generalize hh : V / 2 ^ (8 * (N / 8)) = h at *
    have HH := Aside0.mk hh
    clear hh
    generalize N % 8 = m at *
    go_enter Try.func18, Try.ntmps18
    go_wp2_with (first
      | (go_at_call 35; refine hcl.out.mono ?_; rintro e w' ⟨v', rfl, HO, HB⟩; rw [leB_len] at HO; obtain ⟨A2, k2, rfl⟩ := own_slice HO; have p2 := pw_cell_below HB c2; have p1 := pw_cell_below HB c1; replace HO := Aside0.mk HO; replace HB := Aside0.mk HB)
      | ((with_reducible refine gate_dst (N := 23) rfl ?_); refine print_append_num (w0 := w) w.heap.size rfl (.tmp 16) (.tmp 22) 26 5 .u8 1 rfl Try.underlying26 info_u8 (by decide) _ (leB V (N / 8)) _ rfl rfl (by rw [leB_len]; exact HO.out) HB.out HB.out.size (by rw [leB_len]; omega) ?_; intro v1 w2 ho hb hg hk; clear hg hk; have HB2 := Aside0.mk hb; have HO2 := Aside0.mk ho; clear hb ho))
    go_ret
    have k := HO2.out
    have e2 : (h : Int) % 256 = ((V / 2 ^ (8 * (N / 8)) % 256 : Nat) : Int) := by rw [HH.out]; omega
    rw [e2, ← leB_succ, leB_len] at k
    exact ⟨_, rfl, k, HB2.out⟩
end Go.Proofs.Ytjlophlheoikgaa.My
