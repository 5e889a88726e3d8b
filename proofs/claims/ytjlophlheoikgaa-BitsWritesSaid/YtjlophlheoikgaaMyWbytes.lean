/- The walk of bits.Writer.Bytes. -/
import Derived.Test.YtjlophlheoikgaaMyCode
namespace Go.Proofs.Ytjlophlheoikgaa.My
open Go.RowKit Go.Proofs.YtjlophlheoikgaaW.PrintWords Go.Proofs.YtjlophlheoikgaaW.PrintLast Go.Proofs.YtjlophlheoikgaaW.PrintMore

theorem wbytes_form (w : World) (B g : Nat) (v : Value) (V N : Nat) (A : Option Addr) (n c : Nat) (hw : Writ w B g v V N) (hm : N % 8 ≠ 0) :
    Calls Try.prog 14 #[.pointer (some ⟨g, 0, none⟩), .slice A n c] w fun e w' => e = .returned (errV (some 2)) ∧ w' = w := by
  obtain ⟨c0, c1, c2, f0, f1, f2⟩ := hw.wr.cells
  have hm0 : ((N % 8 : Nat) : Int) ≠ 0 := by omega
  clear hw hm
  generalize N % 8 = m at *
  go_enter Try.func14, Try.ntmps14
  go_wp2
  go_ret
  exact ⟨rfl, rfl⟩
theorem wbytes_calls (w : World) (B g : Nat) (v : Value) (V N : Nat) (A : Option Addr) (n c : Nat) (zs : List Int) (hB : B ≤ w.heap.size) (hw : Writ w B g v V N) (hm : N % 8 = 0) (hN : N ≤ 100000000000000)
    (hz : (Kd.int .u8).C w A n zs) (hn : zs.length = n) (hn1 : n ≤ 10000000000000) (hb : ∀ z ∈ zs, 0 ≤ z ∧ z < 256) :
    Calls Try.prog 14 #[.pointer (some ⟨g, 0, none⟩), .slice A n c] w fun e w' => e = .returned (errV none) ∧ ∃ v', Writ w' B g v' (V + ofB zs * 2 ^ N) (N + 8 * n) ∧ Grew w w' g v v' := by
  obtain ⟨c0, c1, c2, f0, f1, f2⟩ := hw.wr.cells
  obtain ⟨A0, k0, rfl⟩ := own_slice hw.wr.row
  have hW := hw.wr
  have hV := hw.lt
  have hh : V / 2 ^ (8 * (N / 8)) = 0 := Nat.div_eq_of_lt (by rwa [show 8 * (N / 8) = N by omega])
  rw [hh, hm] at hW
  rw [hm] at c2
  rw [hh] at c1
  rw [leB_len] at c0 hW ⊢
  have happ := leB_app zs V (N / 8) hb (by rwa [show 8 * (N / 8) = N by omega])
  rw [show 8 * (N / 8) = N by omega] at happ
  have hlt := val_lt hV (ofB_lt zs hb)
  rw [hn] at happ hlt
  have HW := Aside0.mk hW
  have HZ := Aside0.mk hz
  have HA := Aside0.mk happ
  have HT := Aside0.mk hlt
  have HBB := Aside0.mk hB
  have HN8 := Aside0.mk (show (N + 8 * n) / 8 = N / 8 + n ∧ (N + 8 * n) % 8 = 0 ∧ 8 * (N / 8 + n) = N + 8 * n by omega)
  have HNB := Aside0.mk hN
  have HM := Aside0.mk hm
  have HLN := Aside0.mk (show (leB V (N / 8) ++ zs).length = N / 8 + n by rw [List.length_append, leB_len, hn])
  clear hw hW hV hz happ hlt hh hm hb hB hN
  go_enter Try.func14, Try.ntmps14
  go_wp2_with ((with_reducible refine gate_dst (N := 22) rfl ?_); refine print_append_row (w0 := w) B rfl (.tmp 20) (.tmp 21) 26 5 .u8 1 rfl Try.underlying26 info_u8 (by decide) _ (leB V (N / 8)) zs A _ c rfl rfl HW.out.row (reads_of_C HZ.out) (Below.refl _ _) HBB.out (by rw [leB_len]; have := HNB.out; omega) ?_; intro v1 w2 ho hb hg hk; obtain ⟨A1, c1', rfl⟩ := own_slice ho; have HAp := HW.out.appended ho hg hk; obtain ⟨p0, p1, p2, q0, q1, q2⟩ := cells_of HAp.1; replace HAp := Aside0.mk HAp; clear ho hb hg hk)
  go_ret
  have k := HAp.out.2
  rw [HLN.out, ← HA.out] at k
  have hx := HT.out
  have h0 : (V + ofB zs * 2 ^ N) / 2 ^ (8 * (N / 8 + n)) = 0 := Nat.div_eq_of_lt (by rw [HN8.out.2.2]; exact hx)
  refine ⟨rfl, _, ⟨?_, hx⟩, k.2⟩
  rw [HN8.out.1, HN8.out.2.1, h0]
  exact k.1
end Go.Proofs.Ytjlophlheoikgaa.My
