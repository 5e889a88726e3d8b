/- The walk of bits.Writer.put. -/
import Derived.Test.YtjlophlheoikgaaMyWriter
import Derived.Test.YtjlophlheoikgaaMyBitsP
namespace Go.Proofs.Ytjlophlheoikgaa.My
open Go.RowKit Go.Proofs.YtjlophlheoikgaaW.PrintWords Go.Proofs.YtjlophlheoikgaaW.PrintLast Go.Proofs.YtjlophlheoikgaaW.PrintMore

/-- A writer that has written N bits, the number V. -/
structure Writ (w : World) (B g : Nat) (v : Value) (V N : Nat) : Prop where
  wr : Wr w B g v (leB V (N / 8)) (V / 2 ^ (8 * (N / 8))) (N % 8)
  lt : V < 2 ^ N

theorem cells_of {w : World} {g : Nat} {v : Value} {h m : Nat} (k : w.heap[g]? = some (.cells #[v, .int .u64 h, .int .i64 m] 66 (0, 0))) : w.cell? ⟨g, 0, none⟩ = some v ∧ w.cell? ⟨g, 1, none⟩ = some (.int .u64 h) ∧ w.cell? ⟨g, 2, none⟩ = some (.int .i64 m) ∧
    w.frozen? ⟨g, 0, none⟩ = false ∧ w.frozen? ⟨g, 1, none⟩ = false ∧ w.frozen? ⟨g, 2, none⟩ = false := by
  refine ⟨?_, ?_, ?_, ?_, ?_, ?_⟩ <;> first | (rw [blk_cell k]; rfl) | exact blk_frozen k _
theorem Wr.cells {w : World} {B g : Nat} {v : Value} {t : List Int} {h m : Nat} (k : Wr w B g v t h m) : w.cell? ⟨g, 0, none⟩ = some v ∧ w.cell? ⟨g, 1, none⟩ = some (.int .u64 h) ∧ w.cell? ⟨g, 2, none⟩ = some (.int .i64 m) ∧
    w.frozen? ⟨g, 0, none⟩ = false ∧ w.frozen? ⟨g, 1, none⟩ = false ∧ w.frozen? ⟨g, 2, none⟩ = false := cells_of k.blk
theorem Wr.appended {w w1 : World} {B g : Nat} {v v1 : Value} {t t1 : List Int} {h m : Nat} (k : Wr w B g v t h m) (ho : w1.ownsRow B 5 1 v1 t1.length (nums .u8 t1)) (hg : w.grownBy w1 v.ownBlock)
    (ha : v1.ownBlock = v.ownBlock ∨ ∃ b, v1.ownBlock = some b ∧ w.heap.size ≤ b) : w1.heap[g]? = some (.cells #[v, .int .u64 h, .int .i64 m] 66 (0, 0)) ∧ Wr (w1.setCell ⟨g, 0, none⟩ v1) B g v1 t1 h m ∧ Grew w (w1.setCell ⟨g, 0, none⟩ v1) g v v1 := by
  have hb : w1.heap[g]? = some (.cells #[v, .int .u64 h, .int .i64 m] 66 (0, 0)) := (hg.block g (blk_lt k.blk) k.ne).trans k.blk
  have hne : some g ≠ v1.ownBlock := own_ne ho hb (by decide)
  refine ⟨hb, ⟨?_, own_setCell ho hne _, k.bg⟩, ⟨hg.os, hg.tape, hg.output, (KeepBut.of_grown hg g).set_ 0 v1, ha⟩⟩
  have := blk_set hb 0 v1
  simpa using this

/-- One byte is put behind the text. -/
theorem Wr.byte {w w1 : World} {B g q : Nat} {v v1 : Value} {U h m : Nat} (k : Wr w B g v (leB U q) h m) (ho : w1.ownsRow B 5 1 v1 ((leB U q).length + 1) (nums .u8 (leB U q) ++ [.int .u8 (IntKind.u8.wrap (h : Int))])) (hh : h = U / 2 ^ (8 * q)) (hg : w.grownBy w1 v.ownBlock)
    (ha : v1.ownBlock = v.ownBlock ∨ ∃ b, v1.ownBlock = some b ∧ w.heap.size ≤ b) : Wr (w1.setCell ⟨g, 0, none⟩ v1) B g v1 (leB U (q + 1)) h m ∧ Grew w (w1.setCell ⟨g, 0, none⟩ v1) g v v1 := by
  refine (k.appended (t1 := leB U (q + 1)) ?_ hg ha).2
  have e : IntKind.u8.wrap (h : Int) = ((U / 2 ^ (8 * q) % 256 : Nat) : Int) := by rw [IntKind.wrap_u8, hh]; omega
  rw [leB_len, leB_succ]
  rw [e] at ho
  simpa [nums] using ho

theorem putw_calls (w : World) (B g : Nat) (v : Value) (V N x n : Nat) (hB : B ≤ w.heap.size) (hw : Writ w B g v V N) (hx : x < 2 ^ n) (hn : n ≤ 32) (hN : N ≤ 1000000000000000) :
    Calls Try.prog 33 #[.pointer (some ⟨g, 0, none⟩), .int .u32 x, .int .i64 n] w fun e w' => e = .returned (.tuple #[]) ∧ ∃ v', Writ w' B g v' (V + x * 2 ^ N) (N + n) ∧ Grew w w' g v v' := by
  obtain ⟨U, hU⟩ : ∃ U, U = V + x * 2 ^ N := ⟨_, rfl⟩
  rw [← hU]
  have HUlt : Aside0 (U < 2 ^ (N + n)) := ⟨hU ▸ val_lt hw.lt hx⟩
  have HU := Aside0.mk hU
  clear hU
  obtain ⟨hW, hV⟩ := hw
  have hor := or_put (V / 2 ^ (8 * (N / 8))) x (N % 8) n (by have := held_lt hV (N / 8) (by omega); rwa [show N - 8 * (N / 8) = N % 8 by omega] at this) hx (by omega) hn
  obtain ⟨c0, c1, c2, f0, f1, f2⟩ := hW.cells
  have hm : N % 8 < 8 := Nat.mod_lt _ (by decide)
  generalize hh : V / 2 ^ (8 * (N / 8)) = h at *
  generalize hmm : N % 8 = m at *
  have HW := Aside0.mk hW
  have hh0 := hor.1
  have HH := Aside0.mk hor.2
  have H1 := Aside0.mk hx
  have H2 := Aside0.mk hN
  have H3 := Aside0.mk hh
  have H4 := Aside0.mk hmm
  clear hor hx hN hh hmm hW
  go_enter Try.func33, Try.ntmps33
  go_wp2_with fail
  go_region
  go_wp2_with fail
  go_loopg [] ((N + n) / 8 - N / 8) (fun kq wr => ∃ (q : Nat) (A : Option Addr) (c : Nat), Aside0 (8 * q ≤ N + n ∧ N / 8 ≤ q ∧ kq = (N + n) / 8 - q) ∧ Aside0 (Wr wr B g (.slice A q c) (leB U q) (U / 2 ^ (8 * q)) (N + n - 8 * q)) ∧ Aside0 (Grew w wr g v (.slice A q c)) ∧ B ≤ wr.heap.size)
  case atStart =>
    obtain ⟨A, c, rfl⟩ := own_slice HW.out.row
    have k := ((HW.out.set1 (h + x * 2 ^ m)).set2 (m + n)).drew
    have k2 := ((Grew.refl w g (.slice A (leB V (N / 8)).length c)).set 1 (.int .u64 (h + x * 2 ^ m : Nat))).set 2 (.int .i64 (m + n : Nat))
    have p1 : ((h + x * 2 ^ m : Nat) : Int) = ↑h + ↑x * 2 ^ m := by simp
    have p2 : ((m + n : Nat) : Int) = ↑m + ↑n := by simp
    rw [leB_len, p1, p2] at *
    have e1 : leB U (N / 8) = leB V (N / 8) := by rw [HU.out]; exact leB_add _ _ _ _ (by omega)
    have e2 : U / 2 ^ (8 * (N / 8)) = h + x * 2 ^ m := by rw [HU.out, held_add _ _ _ _ (by omega), H3.out, show N - 8 * (N / 8) = m by have := H4.out; omega]
    have e3 : N + n - 8 * (N / 8) = m + n := by have := H4.out; omega
    refine ⟨N / 8, A, c, ⟨by omega, by omega, by omega⟩, ⟨?_⟩, ⟨k2.drew⟩, ?_⟩
    · rw [e1, e2, e3]; exact k
    · simpa using hB
  case round =>
    obtain ⟨q, A, c, HQ, HWq, HG, hBq⟩ := hrel
    by_cases hge : 8 * q + 8 ≤ N + n
    · obtain ⟨d0, d1, d2, e0, e1, e2⟩ := HWq.out.cells
      have b1 : (8 : Int) ≤ ((N + n - 8 * q : Nat) : Int) := by omega
      generalize hM : N + n - 8 * q = M at *
      generalize hH : U / 2 ^ (8 * q) = H at *
      have HM := Aside0.mk hM
      have HHq := Aside0.mk hH
      have b2 : (M : Int) ≤ 100 := by have := HQ.out; have := HM.out; omega
      clear hM hH
      go_wp2_with fail
      have hrow := HWq.out.drew.row
      have d3 := (cells_of (blk_alloc HWq.out.blk (.cells #[.int .u8 (IntKind.u8.wrap (H : Int))] 5))).1
      have hnb := Aside0.mk HWq.out.drew
      have hq1 : ((leB U q).length + 1) * 1 ≤ 140737488355328 := by rw [leB_len]; have := HQ.out; have := H2.out; omega
      go_region_law (refine step_append_cells (W := wr.drew) (w0 := wr.drew) B rfl (.tmp 44) (.tmp 50) 26 5 (.int .u8 0) 1 1 rfl Try.underlying26 info_u8 rfl (by decide) (by decide) _ _ _ [.int .u8 (IntKind.u8.wrap (H : Int))] rfl rfl rfl (by simp [Value.oneCell']) hrow (Below.refl _ _) hBq hq1 ?_; intro v1 w1 HO1 _ HG1 HA1; obtain ⟨A1, c1, rfl⟩ := own_slice HO1; obtain ⟨p0, p1, p2, q0, q1, q2⟩ := cells_of ((HG1.block g (blk_lt hnb.out.blk) hnb.out.ne).trans hnb.out.blk); have HY := Aside0.mk (hnb.out.byte HO1 HHq.out.symm HG1 HA1); have HZ := Aside0.mk (Nat.le_trans hBq HG1.size); clear HO1 HG1 HA1)
      go_wp2_with fail
      all_goals
        go_roundg (gk - 1)
        case measure => have := HQ.out; omega
        case rel =>
          have k := ((HY.out.1.set1 (H / 256)).set2 (M - 8))
          have k2 := (((HG.out.trans (HY.out.2.cut)).set 1 (.int .u64 (H / 256 : Nat))).set 2 (.int .i64 (M - 8 : Nat)))
          have p1 : ((H / 256 : Nat) : Int) = ↑H / 256 := by omega
          have p2 : ((M - 8 : Nat) : Int) = ↑M - 8 := by omega
          rw [leB_len, p1, p2] at k k2
          have e2 : U / 2 ^ (8 * (q + 1)) = H / 256 := by rw [← HHq.out]; exact (held_div U q).symm
          have e3 : N + n - 8 * (q + 1) = M - 8 := by have := HM.out; omega
          refine ⟨q + 1, A1, c1, ⟨by omega, by have := HQ.out; omega, by have := HQ.out; omega⟩, ⟨?_⟩, ⟨k2⟩, ?_⟩
          · rw [e2, e3]; exact k
          · simpa using HZ.out
    · obtain ⟨d0, d1, d2, e0, e1, e2⟩ := HWq.out.cells
      have b1 : ((N + n - 8 * q : Nat) : Int) < 8 := by omega
      generalize hM : N + n - 8 * q = M at *
      have HM := Aside0.mk hM
      clear hM
      go_wp2
      refine bodyPost_end (results_none rfl _ _ _) rfl ?_
      have eq : q = (N + n) / 8 := by have := HQ.out; omega
      have eM : M = (N + n) % 8 := by have := HM.out; omega
      have k := HWq.out
      have kU := HUlt.out
      have kG := HG.out
      rw [eq, eM] at k
      rw [eq] at kG
      first
        | exact ⟨rfl, _, ⟨k, kU⟩, kG⟩
        | exact ⟨rfl, _, ⟨k.drew, kU⟩, kG.drew⟩
end Go.Proofs.Ytjlophlheoikgaa.My
