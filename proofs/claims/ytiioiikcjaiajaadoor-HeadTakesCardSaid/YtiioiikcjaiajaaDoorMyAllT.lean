/- MyHeadR, MyHeadS, MyHeadU, MyHeadX, MyHeadA: laid into one text by merge.py. -/
import Derived.Test.YtiioiikcjaiajaaDoorMyAllH
import Derived.Deep.CutRange

/- The walks of octal.Text over any field, head.summed, head.None. -/
set_option maxRecDepth 100000
namespace Go.Proofs.YtiioiikcjaiajaaDoor.My
open Go.RowKit Go.Proofs.YtiioiikcjaiajaaDoor.Hd Go.Proofs.YtiioiikcjaiajaaDoor.Oct Go.Proofs.YtiioiikcjaiajaaDoorW.PrintWords Go.Proofs.YtiioiikcjaiajaaDoorW.PrintLast Go.Proofs.YtiioiikcjaiajaaDoorW.PrintMore
set_option linter.unusedVariables false
set_option linter.unusedSimpArgs false

theorem idx_tw : ∀ (xs : List Int), (∀ x ∈ xs, 0 ≤ x ∧ x < 256) → (xs.takeWhile nz = if 0 ≤ Lib.indexByte (Lib.bytesOf xs) 0 then xs.take (Lib.indexByte (Lib.bytesOf xs) 0).toNat else xs)
  | [], _ => by
    show [] = if 0 ≤ (-1 : Int) then _ else []
    rw [if_neg (by decide)]
  | x :: xs, h => by
    have ih := idx_tw xs (fun y hy => h y (List.mem_cons_of_mem _ hy))
    have hx := h x List.mem_cons_self
    have e : Lib.bytesOf (x :: xs) = UInt8.ofNat x.toNat :: Lib.bytesOf xs := rfl
    have hge := idx_ge 0 (Lib.bytesOf xs)
    rw [e, Lib.indexByte]
    by_cases h0 : x = 0
    · subst h0
      rw [List.takeWhile_cons_of_neg (by simp [nz])]
      rw [show (UInt8.ofNat (Int.toNat 0) == 0) = true from rfl, if_pos rfl, if_pos (by decide)]
      rfl
    · have hb : ¬ (UInt8.ofNat x.toNat == 0) = true := by
        intro hb
        have := congrArg UInt8.toNat (eq_of_beq hb)
        simp only [UInt8.toNat_ofNat'] at this
        apply h0
        have h2 : x.toNat % 2 ^ 8 = 0 := this
        omega
      rw [List.takeWhile_cons_of_pos (by simpa [nz] using h0), ih, if_neg hb]
      generalize Lib.indexByte (Lib.bytesOf xs) 0 = j at *
      by_cases hj : j == -1
      · rw [if_pos hj]
        have := eq_of_beq hj
        rw [if_neg (by omega), if_neg (by decide)]
      · rw [if_neg hj]
        have hj' : j ≠ -1 := fun e => hj (by rw [e]; rfl)
        rw [if_pos (by omega), if_pos (by omega), show (j + 1).toNat = j.toNat + 1 by omega, List.take_succ_cons]
theorem text_any (w : World) (a : Addr) (n c : Nat) (xs : List Int) (h : Fld w (some a) n c xs) (hn : n ≤ 1000000) :
    Calls Tryd.prog 36 #[.slice (some a) n c] w fun r w' => r = .returned (.string (textOf xs)) ∧ Below w.heap.size w w' := by
  have hl := h.rd.1
  obtain ⟨w1, hw1⟩ : ∃ w1, w1 = w.alloc (.cells #[.int .u8 0] 5) := ⟨_, rfl⟩
  have hb1 : Below w.heap.size w w1 := by rw [hw1]; exact below_alloc (Below.refl _ _) _
  have h1 := h.below hb1
  have hc2 : w1.cell? ⟨w.heap.size, 0, none⟩ = some (.int .u8 0) := by
    rw [hw1]
    exact (blk_cell (alloc_self w (.cells #[.int .u8 0] 5)) 0).trans rfl
  have hcells : ∀ i, i < n → w1.cell? (a.add i) = some (.int .u8 (xs.getD i 0)) := by
    intro i hi
    obtain ⟨ad, e, hc⟩ := h1.rd.2.2 (by omega)
    cases e
    exact hc i hi
  have hidx := Tryd.bytes_Index_one_at a n c w.heap.size 0 1 xs 0 w1 hl hcells hc2
  rw [show ((0 : Int).toNat.toUInt8) = 0 from rfl] at hidx
  have htw := idx_tw xs h.byte
  have hge := idx_ge 0 (Lib.bytesOf xs)
  rw [Lib.bytesOf_length, hl] at hge
  obtain ⟨j, hj⟩ : ∃ j, j = Lib.indexByte (Lib.bytesOf xs) 0 := ⟨_, rfl⟩
  rw [← hj] at hidx htw hge
  have hcut := Tryd.bytes_Cut_of (some a) (some ⟨w.heap.size, 0, none⟩) n c 1 1 j w1 h.cap.1 (by omega) (by omega) (by omega) (hidx.mono fun e w' h => ⟨h.1, 0, by rw [h.2, World.drewN_zero]⟩)
  obtain ⟨m, hm⟩ : ∃ m : Nat, m = if 0 ≤ j then j.toNat else n := ⟨_, rfl⟩
  have hcv : ∃ v2 b, Lib.cutV (some a) n c 1 j = .tuple #[.slice (some a) m c, v2, .bool b] := by
    unfold Lib.cutV
    by_cases h0 : 0 ≤ j
    · rw [if_pos h0, hm, if_pos h0]; exact ⟨_, _, rfl⟩
    · rw [if_neg h0, hm, if_neg h0]; exact ⟨_, _, rfl⟩
  obtain ⟨v2, b2, hcv⟩ := hcv
  rw [hcv] at hcut
  have hmn : m ≤ n := by rw [hm]; split <;> omega
  have htk : xs.takeWhile nz = xs.take m := by
    rw [htw, hm]
    by_cases h0 : 0 ≤ j
    · rw [if_pos h0, if_pos h0]
    · rw [if_neg h0, if_neg h0, List.take_of_length_le (by omega)]
  have hC : (Kd.int .u8).C w1 (some a) m (xs.take m) := Kd.C_of_reads (d := 0) (ReadsOf.take_ (d := (0 : Int)) h1.rd m (by omega))
  have hconv : Aside0 (∀ k, (convert 26 9 (.slice (some a) m c)).run Tryd.prog (w1.drewN k) = .ok (.string (textOf xs)) (w1.drewN k)) := ⟨fun k => by
    have := Kd.C_string (P := Tryd.prog) (src := 26) (dst := 9) (c := c) Tryd.underlying26 Tryd.underlying5 Tryd.underlying9 (Kd.C_drewN hC k)
    unfold textOf
    rw [htk]
    exact this⟩
  have HC := Aside0.mk hcut
  have HB := Aside0.mk hb1
  rw [hw1] at HC HB hconv
  generalize textOf xs = s at *
  clear h1 hc2 hcells hidx htw hge hcut hcv hC hb1 hw1 hm hmn htk hj h hl
  go_enter Tryd.func36, Tryd.ntmps36
  go_wp2_with (go_at_call 49; refine HC.out.mono ?_; rintro e w' ⟨rfl, k, rfl⟩; have hcc := hconv.out k)
  go_ret
  exact ⟨rfl, pw_below_drewN HB.out _⟩
theorem add_of_add (a : Addr) (i j : Nat) : (a.add i).add j = a.add (i + j) := by
  unfold Addr.add
  by_cases hi : i = 0 <;> by_cases hj : j = 0 <;> simp [hi, hj, Nat.add_assoc]
theorem block_of_add (a : Addr) (n : Nat) : (a.add n).block = a.block := by unfold Addr.add; split <;> rfl
theorem keep_cell {W w : World} {row : Option Nat} (q : W.grownBy w row) {p : Addr} {v : Value} (h : W.cell? p = some v) (hne : some p.block ≠ row) : w.cell? p = some v := by
  have hb : p.block < W.heap.size := by
    rcases Nat.lt_or_ge p.block W.heap.size with k | k
    · exact k
    · rw [World.cell?, Array.getElem?_eq_none k] at h
      cases h
  have := q.block p.block hb hne
  rw [World.cell?, this]
  exact h
/-- A slice that is read as a head: its bytes. -/
structure Inp (w : World) (g o0 c : Nat) (xs : List Int) : Prop where
  cell : ∀ j, j < xs.length → w.cell? ⟨g, o0 + j, none⟩ = some (.int .u8 (xs.getD j 0))
  byte : ∀ x ∈ xs, 0 ≤ x ∧ x < 256
  len : 512 ≤ xs.length ∧ xs.length ≤ c ∧ xs.length ≤ 1000000 ∧ c ≤ 9223372036854775807
theorem Inp.lt {w : World} {g o0 c : Nat} {xs : List Int} (h : Inp w g o0 c xs) : g < w.heap.size := by
  have h0 := h.cell 0 (by have := h.len; omega)
  rcases Nat.lt_or_ge g w.heap.size with k | k
  · exact k
  · rw [World.cell?, Array.getElem?_eq_none (by exact k)] at h0
    cases h0
theorem Inp.grown {w w' : World} {g o0 c : Nat} {xs : List Int} {row : Option Nat} (h : Inp w g o0 c xs) (hg : w.grownBy w' row) (hne : some g ≠ row) : Inp w' g o0 c xs :=
  ⟨fun j hj => keep_cell hg (h.cell j hj) hne, h.byte, h.len⟩
theorem Inp.below {w w' : World} {g o0 c : Nat} {xs : List Int} (h : Inp w g o0 c xs) (hb : Below w.heap.size w w') : Inp w' g o0 c xs := h.grown (row := none) (grown_below hb _) (by simp)
theorem Inp.fld {w : World} {g o0 c : Nat} {xs : List Int} (h : Inp w g o0 c xs) (o n : Nat) (hn : o + n ≤ 512) : Fld w (some ⟨g, o0 + o, none⟩) n (c - o) (fld xs o n) := by
  have hl := h.len
  refine ⟨⟨fld_length (by omega), by omega, fun _ => ⟨_, rfl, fun j hj => ?_⟩⟩, fun b hb => h.byte b (List.mem_of_mem_drop (List.mem_of_mem_take hb)), by omega⟩
  rw [add_at, Nat.add_assoc, h.cell _ (by omega)]
  rw [List.getD_eq_getElem?_getD, List.getD_eq_getElem?_getD, fld_get, if_pos hj]
theorem Inp.all {w : World} {g o0 c : Nat} {xs : List Int} (h : Inp w g o0 c xs) : Fld w (some ⟨g, o0, none⟩) xs.length c xs :=
  ⟨⟨rfl, by have := h.len; omega, fun _ => ⟨_, rfl, fun j hj => by rw [add_at]; exact h.cell j hj⟩⟩, h.byte, by have := h.len; omega⟩
theorem Inp.of_row {w : World} {g c : Nat} {xs : List Int} (hr : Row w g xs) (hb : ∀ x ∈ xs, 0 ≤ x ∧ x < 256) (hl : 512 ≤ xs.length ∧ xs.length ≤ c ∧ c ≤ 1000000) : Inp w g 0 c xs :=
  ⟨fun j hj => by rw [Nat.zero_add]; exact hr.cell j hj, hb, by omega⟩
theorem Inp.of_ {w : World} {g o0 c : Nat} {xs : List Int} (h : Inp w g o0 c xs) (o n : Nat) (hn : o + n ≤ 512) (ho : o < 512) :
    Calls Tryd.prog 27 #[.agg #[.int .i64 o, .int .i64 n], .slice (some ⟨g, o0, none⟩) xs.length c] w fun e w' => e = .returned (.slice (some ⟨g, o0 + o, none⟩) n (c - o)) ∧ Below w.heap.size w w' := by
  have hl := h.len
  have hsl : ∀ W : World, (Instr.slice 26 (.slice (some ⟨g, o0, none⟩) xs.length c) (some (.int .i64 o)) (some (.int .i64 ((o : Int) + (n : Int)))) none).run Tryd.prog W = .ok (.slice (some ⟨g, o0 + o, none⟩) n (c - o)) W := by
    intro W
    obtain ⟨i0, hi, hz⟩ := Option.map_eq_some_iff.1 info_u8
    simp only [Prod.mk.injEq] at hz
    have hel : Tryd.prog.elem 26 = 5 := by simp [Program.elem, Tryd.underlying26]
    have hu : Tryd.prog.underlying 26 = some (.slice (Tryd.prog.elem 26)) := by rw [hel]; exact Tryd.underlying26
    rw [run_slice_lh W 26 (some ⟨g, o0, none⟩) xs.length c hu .i64 .i64 o ((o : Int) + n) (by omega) (by omega) (by omega), hel]
    have e1 : ((o : Int) + (n : Int)).toNat = o + n := by omega
    have e2 : ¬ (c = o) := by omega
    simp [sizeOf, typeInfo, hi, hz.2.1, sliced, Result.andThen, e1, e2, add_at]
  generalize (some (⟨g, o0 + o, none⟩ : Addr)) = A' at *
  have b1 : (o : Int) + (n : Int) ≤ 512 := by omega
  clear hn ho hl h
  go_enter Tryd.func27, Tryd.ntmps27
  go_wp2_with fail
  go_ret
  exact ⟨rfl, below_alloc (Below.refl _ _) _⟩
theorem takeA_zero {l : List Int} {e : Int} {x : Int} (h : takeA l = (some e, x)) : x = 0 := by
  unfold takeA at h
  cases l with
  | nil => cases h; rfl
  | cons b l =>
    simp only at h
    split at h
    · cases hb : bin (b :: l) with
      | none => rw [hb] at h; cases h; rfl
      | some y => rw [hb] at h; cases h
    · split at h
      · revert h
        cases oct _ 0 with
        | none => intro h; cases h; rfl
        | some y => intro h; cases h
      · cases h; rfl
theorem summed_calls (w : World) (hg : Gl w) (g o0 c : Nat) (xs : List Int) (h : Inp w g o0 c xs) :
    Calls Tryd.prog 35 #[.slice (some ⟨g, o0, none⟩) xs.length c] w fun e w' => e = .returned (.bool (summed xs)) ∧ Below w.heap.size w w' := by
  have p0 : w.cell? ⟨6, 0, none⟩ = some (.int .i64 148) := hg.at_ 6 (by omega)
  have p1 : w.cell? ⟨6, 1, none⟩ = some (.int .i64 8) := hg.size 6 (by omega)
  have HOf := Aside0.mk (h.of_ 148 8 (by omega) (by omega))
  have HI := Aside0.mk (And.intro h hg)
  obtain ⟨ae, av⟩ : Option Int × Int := takeA (fld xs 148 8)
  obtain ⟨t, ht⟩ : ∃ t, t = takeA (fld xs 148 8) := ⟨_, rfl⟩
  have hsum : summed xs = decide (t = (none, sumH xs)) := by unfold summed; rw [ht]
  rw [hsum]
  have HTk : Aside0 (∀ w', Below w.heap.size w w' → Calls Tryd.prog 37 #[.slice (some ⟨g, o0 + 148, none⟩) 8 (c - 148)] w' fun e w'' => e = .returned (ansV t) ∧ Below w'.heap.size w' w'') := ⟨fun w' hb => ht ▸ take_calls w' _ 8 _ _ ((HI.out.1.below hb).fld 148 8 (by omega))⟩
  have HSm : Aside0 (∀ w', Below w.heap.size w w' → Calls Tryd.prog 18 #[.slice (some ⟨g, o0, none⟩) xs.length c] w' fun e w'' => e = .returned (.tuple #[.int .i64 (sumH xs), .nilIface]) ∧ w' = w'') := ⟨fun w' hb => sum_calls w' (HI.out.2.next hb) _ _ _ xs (HI.out.1.below hb).all HI.out.1.len.1⟩
  have HTz : Aside0 (∀ e x, t = (some e, x) → x = 0) := ⟨fun e x h => takeA_zero (ht ▸ h)⟩
  clear hg h ht hsum
  generalize sumH xs = sm at *
  generalize xs.length = n at *
  obtain ⟨te, tv⟩ := t
  cases te with
  | some e0 =>
    rw [show decide (((some e0, tv) : Option Int × Int) = (none, sm)) = false from decide_eq_false (fun h => by cases h)]
    rw [show ansV (some e0, tv) = .tuple #[.int .i64 tv, .iface 42 (.int .i64 e0)] from rfl] at HTk
    go_enter Tryd.func35, Tryd.ntmps35
    go_wp2_with (first
      | (go_at_call 27; refine HOf.out.mono ?_; rintro e w1 ⟨rfl, hb1⟩; have HB1 := Aside0.mk hb1; clear hb1)
      | (go_at_call 37; (with_reducible refine (HTk.out _ HB1.out).mono ?_); rintro e w2 ⟨rfl, hb2⟩; have HB2 := Aside0.mk (HB1.out.trans (hb2.mono HB1.out.size)); clear hb2)
      | (go_at_call 18; (with_reducible refine (HSm.out _ HB2.out).mono ?_); rintro e w3 ⟨rfl, rfl⟩))
    go_ret
    exact ⟨rfl, HB2.out⟩
  | none =>
    rw [show ansV (none, tv) = .tuple #[.int .i64 tv, .nilIface] from rfl] at HTk
    have hd : decide (((none, tv) : Option Int × Int) = (none, sm)) = (sm == tv) := by
      by_cases e : tv = sm
      · subst e; simp
      · rw [decide_eq_false (fun h => e (congrArg Prod.snd h))]
        exact (beq_eq_false_iff_ne.2 (fun h => e h.symm)).symm
    rw [hd]
    go_enter Tryd.func35, Tryd.ntmps35
    go_wp2_with (first
      | (go_at_call 27; refine HOf.out.mono ?_; rintro e w1 ⟨rfl, hb1⟩; have HB1 := Aside0.mk hb1; clear hb1)
      | (go_at_call 37; (with_reducible refine (HTk.out _ HB1.out).mono ?_); rintro e w2 ⟨rfl, hb2⟩; have HB2 := Aside0.mk (HB1.out.trans (hb2.mono HB1.out.size)); clear hb2)
      | (go_at_call 18; (with_reducible refine (HSm.out _ HB2.out).mono ?_); rintro e w3 ⟨rfl, rfl⟩))
    go_ret
    exact ⟨rfl, HB2.out⟩
end Go.Proofs.YtiioiikcjaiajaaDoor.My

/- The walk of head.Take: where it fails early. -/
set_option maxRecDepth 100000
namespace Go.Proofs.YtiioiikcjaiajaaDoor.My
open Go.RowKit Go.Proofs.YtiioiikcjaiajaaDoor.Hd Go.Proofs.YtiioiikcjaiajaaDoor.Oct Go.Proofs.YtiioiikcjaiajaaDoorW.PrintWords Go.Proofs.YtiioiikcjaiajaaDoorW.PrintLast Go.Proofs.YtiioiikcjaiajaaDoorW.PrintMore
set_option linter.unusedVariables false
set_option linter.unusedSimpArgs false

theorem Box.all' {w : World} {g : Nat} {h : Hd} (k : Box w g h) : w.cell? ⟨g, 0, none⟩ = some (.string h.nm) ∧ w.cell? ⟨g, 1, none⟩ = some (.int .i64 h.mo) ∧ w.cell? ⟨g, 2, none⟩ = some (.int .i64 h.ui) ∧ w.cell? ⟨g, 3, none⟩ = some (.int .i64 h.gi) ∧ w.cell? ⟨g, 4, none⟩ = some (.int .i64 h.si) ∧ w.cell? ⟨g, 5, none⟩ = some (.int .i64 h.ti) ∧ w.cell? ⟨g, 6, none⟩ = some (.int .u8 h.ki) ∧ w.cell? ⟨g, 7, none⟩ = some (.string h.li) ∧ w.cell? ⟨g, 8, none⟩ = some (.string h.us) ∧ w.cell? ⟨g, 9, none⟩ = some (.string h.gr) ∧ w.cell? ⟨g, 10, none⟩ = some (.int .i64 h.ma) ∧ w.cell? ⟨g, 11, none⟩ = some (.int .i64 h.mi) := by
  have e := blk_cell k.out
  exact ⟨(e 0).trans rfl, (e 1).trans rfl, (e 2).trans rfl, (e 3).trans rfl, (e 4).trans rfl, (e 5).trans rfl, (e 6).trans rfl, (e 7).trans rfl, (e 8).trans rfl, (e 9).trans rfl, (e 10).trans rfl, (e 11).trans rfl⟩
/-- A head is stored whole. -/
def set12 (w : World) (g : Nat) (h : Hd) : World := ((((((((((((w.setCell ⟨g, 0, none⟩ (.string h.nm)).setCell ⟨g, 1, none⟩ (.int .i64 h.mo)).setCell ⟨g, 2, none⟩ (.int .i64 h.ui)).setCell ⟨g, 3, none⟩ (.int .i64 h.gi)).setCell ⟨g, 4, none⟩ (.int .i64 h.si)).setCell ⟨g, 5, none⟩ (.int .i64 h.ti)).setCell ⟨g, 6, none⟩ (.int .u8 h.ki)).setCell ⟨g, 7, none⟩ (.string h.li)).setCell ⟨g, 8, none⟩ (.string h.us)).setCell ⟨g, 9, none⟩ (.string h.gr)).setCell ⟨g, 10, none⟩ (.int .i64 h.ma)).setCell ⟨g, 11, none⟩ (.int .i64 h.mi))
theorem set12_box {w : World} {g : Nat} {h0 : Hd} (k : Box w g h0) (h : Hd) : Box (set12 w g h) g h ∧ w.grownBy (set12 w g h) (some g) := by
  have step : ∀ {w : World} {cs : List Value} (i : Nat) (v : Value), w.heap[g]? = some (.cells cs.toArray 23 (0, 0)) → (w.setCell ⟨g, i, none⟩ v).heap[g]? = some (.cells (cs.set i v).toArray 23 (0, 0)) := by
    intro w cs i v h
    rw [setCell_eq_setRow w g i _ _ (0, 0) _ h, setRow_heap w g _ _ _ (0, 0) h]
    simp
  have k0 : w.heap[g]? = some (.cells (hv h0).toList.toArray 23 (0, 0)) := k.out
  have k1 := step 0 (.string h.nm) k0
  have k2 := step 1 (.int .i64 h.mo) k1
  have k3 := step 2 (.int .i64 h.ui) k2
  have k4 := step 3 (.int .i64 h.gi) k3
  have k5 := step 4 (.int .i64 h.si) k4
  have k6 := step 5 (.int .i64 h.ti) k5
  have k7 := step 6 (.int .u8 h.ki) k6
  have k8 := step 7 (.string h.li) k7
  have k9 := step 8 (.string h.us) k8
  have k10 := step 9 (.string h.gr) k9
  have k11 := step 10 (.int .i64 h.ma) k10
  have k12 := step 11 (.int .i64 h.mi) k11
  refine ⟨⟨k12.trans rfl⟩, ?_⟩
  unfold set12
  exact grown_trans (grown_trans (grown_trans (grown_trans (grown_trans (grown_trans (grown_trans (grown_trans (grown_trans (grown_trans (grown_trans (grown_set w g 0 _) (grown_set _ g 1 _)) (grown_set _ g 2 _)) (grown_set _ g 3 _)) (grown_set _ g 4 _)) (grown_set _ g 5 _)) (grown_set _ g 6 _)) (grown_set _ g 7 _)) (grown_set _ g 8 _)) (grown_set _ g 9 _)) (grown_set _ g 10 _)) (grown_set _ g 11 _)
/-- Nothing but noughts is handed back, with an error. -/
theorem ret_zero {w1 w2 : World} {gr : Nat} {h0 : Hd} (k : Box w1 gr h0) : Box (set12 w1 gr zero) gr zero ∧ w1.grownBy (set12 w1 gr zero) (some gr) := set12_box k zero
theorem take_short (w : World) (A : Option Addr) (n c : Nat) (h : n < 512) :
    Calls Tryd.prog 15 #[.slice A n c] w fun e w' => e = .returned (.tuple #[.agg (hv zero), errV (some 10)]) ∧ Below w.heap.size w w' := by
  obtain ⟨W, hW⟩ : ∃ W, W = w.alloc (.cells (hv zero) 23) := ⟨_, rfl⟩
  have hBW : Below w.heap.size w W := by rw [hW]; exact below_alloc (Below.refl _ _) _
  have hbox : Box W w.heap.size zero := by rw [hW]; exact ⟨alloc_self _ _⟩
  have hlen : (n : Int) < 512 := by omega
  have HW := Aside0.mk hW
  have HB := Aside0.mk (And.intro hBW hbox)
  have hzv : hv zero = #[.string ⟨#[]⟩, .int .i64 0, .int .i64 0, .int .i64 0, .int .i64 0, .int .i64 0, .int .u8 0, .string ⟨#[]⟩, .string ⟨#[]⟩, .string ⟨#[]⟩, .int .i64 0, .int .i64 0] := rfl
  rw [hzv] at HW
  clear hW hBW hbox h hzv
  go_enter Tryd.func15, Tryd.ntmps15
  go_upto_region 1 with fail
  rw [← HW.out]
  have hb := HB.out.2
  obtain ⟨c0, c1, c2, c3, c4, c5, c6, c7, c8, c9, c10, c11⟩ := hb.all'
  have f0 := blk_frozen hb.out 0
  have f1 := blk_frozen hb.out 1
  have f2 := blk_frozen hb.out 2
  have f3 := blk_frozen hb.out 3
  have f4 := blk_frozen hb.out 4
  have f5 := blk_frozen hb.out 5
  have f6 := blk_frozen hb.out 6
  have f7 := blk_frozen hb.out 7
  have f8 := blk_frozen hb.out 8
  have f9 := blk_frozen hb.out 9
  have f10 := blk_frozen hb.out 10
  have f11 := blk_frozen hb.out 11
  go_wp2_with fail
  obtain ⟨q1, q2⟩ := set12_box hb zero
  change bodyPost _ _ _ _ _ (set12 W w.heap.size zero)
  generalize set12 W w.heap.size zero = w2 at *
  clear c0 f0 c1 f1 c2 f2 c3 f3 c4 f4 c5 f5 c6 f6 c7 f7 c8 f8 c9 f9 c10 f10 c11 f11
  obtain ⟨c0, c1, c2, c3, c4, c5, c6, c7, c8, c9, c10, c11⟩ := q1.all'
  refine bodyPost_ret (v := .tuple #[.agg (hv zero), errV (some 10)]) (by simp [results, Tryd.results15, go_sem, c0, c1, c2, c3, c4, c5, c6, c7, c8, c9, c10, c11]; exact ⟨rfl, rfl⟩) rfl ⟨rfl, ?_⟩
  exact below_grown HB.out.1 q2 HB.out.1.size (Nat.le_refl _)
theorem take_sum (w : World) (hg : Gl w) (g o0 c : Nat) (xs : List Int) (h : Inp w g o0 c xs) (hs : summed xs = false) :
    Calls Tryd.prog 15 #[.slice (some ⟨g, o0, none⟩) xs.length c] w fun e w' => e = .returned (.tuple #[.agg (hv zero), errV (some 6)]) ∧ Below w.heap.size w w' := by
  obtain ⟨W, hW⟩ : ∃ W, W = w.alloc (.cells (hv zero) 23) := ⟨_, rfl⟩
  have hBW : Below w.heap.size w W := by rw [hW]; exact below_alloc (Below.refl _ _) _
  have hbox : Box W w.heap.size zero := by rw [hW]; exact ⟨alloc_self _ _⟩
  have HS := Aside0.mk (summed_calls W (hg.next hBW) g o0 c xs (h.below hBW))
  rw [hs] at HS
  have hlen : (512 : Int) ≤ (xs.length : Int) := by have := h.len; omega
  have HW := Aside0.mk hW
  have HB := Aside0.mk (And.intro hBW hbox)
  clear hW hBW hbox hs h hg
  have hzv : hv zero = #[.string ⟨#[]⟩, .int .i64 0, .int .i64 0, .int .i64 0, .int .i64 0, .int .i64 0, .int .u8 0, .string ⟨#[]⟩, .string ⟨#[]⟩, .string ⟨#[]⟩, .int .i64 0, .int .i64 0] := rfl
  rw [hzv] at HW
  generalize xs.length = n at *
  go_enter Tryd.func15, Tryd.ntmps15
  go_upto_region 1 with fail
  rw [← HW.out]
  go_upto_region 4 with (go_at_call 35; refine HS.out.mono ?_; rintro e w1 ⟨rfl, hb1⟩; have HB1 := Aside0.mk hb1; clear hb1)
  have hb := HB.out.2.below HB1.out
  obtain ⟨c0, c1, c2, c3, c4, c5, c6, c7, c8, c9, c10, c11⟩ := hb.all'
  have f0 := blk_frozen hb.out 0
  have f1 := blk_frozen hb.out 1
  have f2 := blk_frozen hb.out 2
  have f3 := blk_frozen hb.out 3
  have f4 := blk_frozen hb.out 4
  have f5 := blk_frozen hb.out 5
  have f6 := blk_frozen hb.out 6
  have f7 := blk_frozen hb.out 7
  have f8 := blk_frozen hb.out 8
  have f9 := blk_frozen hb.out 9
  have f10 := blk_frozen hb.out 10
  have f11 := blk_frozen hb.out 11
  go_wp2_with fail
  obtain ⟨q1, q2⟩ := set12_box hb zero
  change bodyPost _ _ _ _ _ (set12 w1 w.heap.size zero)
  generalize set12 w1 w.heap.size zero = w2 at *
  clear c0 f0 c1 f1 c2 f2 c3 f3 c4 f4 c5 f5 c6 f6 c7 f7 c8 f8 c9 f9 c10 f10 c11 f11
  obtain ⟨c0, c1, c2, c3, c4, c5, c6, c7, c8, c9, c10, c11⟩ := q1.all'
  refine bodyPost_ret (v := .tuple #[.agg (hv zero), errV (some 6)]) (by simp [results, Tryd.results15, go_sem, c0, c1, c2, c3, c4, c5, c6, c7, c8, c9, c10, c11]; exact ⟨rfl, rfl⟩) rfl ⟨rfl, ?_⟩
  have b1 := HB.out.1.trans (HB1.out.mono HB.out.1.size)
  exact below_grown b1 q2 b1.size (Nat.le_refl _)
end Go.Proofs.YtiioiikcjaiajaaDoor.My

/- The walk of head.Take: the mark, and the first part of the head. -/
set_option maxRecDepth 100000
namespace Go.Proofs.YtiioiikcjaiajaaDoor.My
open Go.RowKit Go.Proofs.YtiioiikcjaiajaaDoor.Hd Go.Proofs.YtiioiikcjaiajaaDoor.Oct Go.Proofs.YtiioiikcjaiajaaDoorW.PrintWords Go.Proofs.YtiioiikcjaiajaaDoorW.PrintLast Go.Proofs.YtiioiikcjaiajaaDoorW.PrintMore
set_option linter.unusedVariables false
set_option linter.unusedSimpArgs false

theorem bytes_inj : ∀ (a b : List Int), (∀ x ∈ a, 0 ≤ x ∧ x < 256) → (∀ x ∈ b, 0 ≤ x ∧ x < 256) → (a.map fun n => UInt8.ofNat n.toNat) = (b.map fun n => UInt8.ofNat n.toNat) → a = b
  | [], [], _, _, _ => rfl
  | [], _ :: _, _, _, h => by simp at h
  | _ :: _, [], _, _, h => by simp at h
  | x :: a, y :: b, ha, hb, h => by
    simp only [List.map_cons, List.cons.injEq] at h
    have hx := ha x List.mem_cons_self
    have hy := hb y List.mem_cons_self
    have e := congrArg UInt8.toNat h.1
    simp only [UInt8.toNat_ofNat'] at e
    have : x = y := by
      have h2 : x.toNat % 2 ^ 8 = y.toNat % 2 ^ 8 := e
      omega
    rw [this, bytes_inj a b (fun z hz => ha z (List.mem_cons_of_mem _ hz)) (fun z hz => hb z (List.mem_cons_of_mem _ hz)) h.2]
theorem str_toL (l : List Int) : (strOfNums l).toList = l.map fun n => UInt8.ofNat n.toNat := by rw [ByteArray.toList_eq]; rfl
theorem mark_eq (m k : List Int) (hm : ∀ x ∈ m, 0 ≤ x ∧ x < 256) (hk : ∀ x ∈ k, 0 ≤ x ∧ x < 256) (t : List UInt8) (ht : t = k.map fun n => UInt8.ofNat n.toNat) : ((strOfNums m).toList == t) = decide (m = k) := by
  rw [str_toL, ht]
  by_cases e : m = k
  · rw [e]; simp
  · rw [decide_eq_false e]
    exact beq_eq_false_iff_ne.2 (fun h => e (bytes_inj m k hm hk h))
theorem fld_byte {xs : List Int} (h : ∀ x ∈ xs, 0 ≤ x ∧ x < 256) (o n : Nat) : ∀ x ∈ Hd.fld xs o n, 0 ≤ x ∧ x < 256 := fun x hx => h x (List.mem_of_mem_drop (List.mem_of_mem_take hx))
/-- The world behind the first questions: the result's block, and the mark as a text. -/
theorem take_mark (w : World) (hg : Gl w) (g o0 c : Nat) (xs : List Int) (h : Inp w g o0 c xs) (hs : summed xs = true) (hm : fld xs 257 6 ≠ fresh ∧ fld xs 257 6 ≠ other ∧ fld xs 257 6 ≠ old) :
    Calls Tryd.prog 15 #[.slice (some ⟨g, o0, none⟩) xs.length c] w fun e w' => e = .returned (.tuple #[.agg (hv zero), errV (some 11)]) ∧ Below w.heap.size w w' := by
  obtain ⟨W, hW⟩ : ∃ W, W = w.alloc (.cells (hv zero) 23) := ⟨_, rfl⟩
  have hBW : Below w.heap.size w W := by rw [hW]; exact below_alloc (Below.refl _ _) _
  have hbox : Box W w.heap.size zero := by rw [hW]; exact ⟨alloc_self _ _⟩
  have HS := Aside0.mk (summed_calls W (hg.next hBW) g o0 c xs (h.below hBW))
  rw [hs] at HS
  have hlen : (512 : Int) ≤ (xs.length : Int) := by have := h.len; omega
  have HW := Aside0.mk hW
  have HB := Aside0.mk (And.intro hBW (And.intro hbox (And.intro (hg.next hBW) (h.below hBW))))
  have hby := fld_byte h.byte 257 6
  have e1 := mark_eq (fld xs 257 6) fresh hby (by decide) [117, 115, 116, 97, 114, 0] (by decide)
  have e2 := mark_eq (fld xs 257 6) other hby (by decide) [117, 115, 116, 97, 114, 32] (by decide)
  have e3 := mark_eq (fld xs 257 6) old hby (by decide) [0, 0, 0, 0, 0, 0] (by decide)
  rw [decide_eq_false hm.1] at e1
  rw [decide_eq_false hm.2.1] at e2
  rw [decide_eq_false hm.2.2] at e3
  have HCv : Aside0 (∀ w', Below W.heap.size W w' → (convert 26 9 (.slice (some ⟨g, o0 + 257, none⟩) 6 (c - 257))).run Tryd.prog w' = .ok (.string (strOfNums (fld xs 257 6))) w') := ⟨fun w' hb => by
    have hC : (Kd.int .u8).C w' (some ⟨g, o0 + 257, none⟩) 6 (fld xs 257 6) := C_of_readsInt (((HB.out.2.2.2.below hb).fld 257 6 (by omega)).rd)
    exact Kd.C_string (P := Tryd.prog) (src := 26) (dst := 9) (c := c - 257) Tryd.underlying26 Tryd.underlying5 Tryd.underlying9 hC⟩
  have HOf : Aside0 (∀ w', Below W.heap.size W w' → Calls Tryd.prog 27 #[.agg #[.int .i64 257, .int .i64 6], .slice (some ⟨g, o0, none⟩) xs.length c] w' fun e w'' => e = .returned (.slice (some ⟨g, o0 + 257, none⟩) 6 (c - 257)) ∧ Below W.heap.size W w'') := ⟨fun w' hb => ((HB.out.2.2.2.below hb).of_ 257 6 (by omega) (by omega)).mono fun _ _ k => ⟨k.1, hb.trans (k.2.mono hb.size)⟩⟩
  have hzv : hv zero = #[.string ⟨#[]⟩, .int .i64 0, .int .i64 0, .int .i64 0, .int .i64 0, .int .i64 0, .int .u8 0, .string ⟨#[]⟩, .string ⟨#[]⟩, .string ⟨#[]⟩, .int .i64 0, .int .i64 0] := rfl
  rw [hzv] at HW
  generalize strOfNums (fld xs 257 6) = mk at *
  clear hW hBW hbox hs h hg hzv hby hm
  generalize xs.length = n at *
  go_enter Tryd.func15, Tryd.ntmps15
  go_upto_region 1 with fail
  rw [← HW.out]
  go_upto_region 5 with (go_at_call 35; refine HS.out.mono ?_; rintro e w1 ⟨rfl, hb1⟩; have HB1 := Aside0.mk hb1; clear hb1)
  have p0 : w1.cell? ⟨2, 0, none⟩ = some (.int .i64 257) := (HB.out.2.2.1.next HB1.out).at_ 2 (by omega)
  have p1 : w1.cell? ⟨2, 1, none⟩ = some (.int .i64 6) := (HB.out.2.2.1.next HB1.out).size 2 (by omega)
  go_upto_region 7 with (go_at_call 27; refine (HOf.out _ HB1.out).mono ?_; rintro e w2 ⟨rfl, hb2⟩; have hcv := HCv.out w2 hb2; have HB2 := Aside0.mk hb2; clear hb2)
  have hb := HB.out.2.1.below HB2.out
  obtain ⟨c0, c1, c2, c3, c4, c5, c6, c7, c8, c9, c10, c11⟩ := hb.all'
  have f0 := blk_frozen hb.out 0
  have f1 := blk_frozen hb.out 1
  have f2 := blk_frozen hb.out 2
  have f3 := blk_frozen hb.out 3
  have f4 := blk_frozen hb.out 4
  have f5 := blk_frozen hb.out 5
  have f6 := blk_frozen hb.out 6
  have f7 := blk_frozen hb.out 7
  have f8 := blk_frozen hb.out 8
  have f9 := blk_frozen hb.out 9
  have f10 := blk_frozen hb.out 10
  have f11 := blk_frozen hb.out 11
  go_wp2_with fail
  obtain ⟨q1, q2⟩ := set12_box hb zero
  change bodyPost _ _ _ _ _ (set12 w2 w.heap.size zero)
  generalize set12 w2 w.heap.size zero = w3 at *
  clear c0 f0 c1 f1 c2 f2 c3 f3 c4 f4 c5 f5 c6 f6 c7 f7 c8 f8 c9 f9 c10 f10 c11 f11
  obtain ⟨c0, c1, c2, c3, c4, c5, c6, c7, c8, c9, c10, c11⟩ := q1.all'
  refine bodyPost_ret (v := .tuple #[.agg (hv zero), errV (some 11)]) (by simp [results, Tryd.results15, go_sem, c0, c1, c2, c3, c4, c5, c6, c7, c8, c9, c10, c11]; exact ⟨rfl, rfl⟩) rfl ⟨rfl, ?_⟩
  have b1 := HB.out.1.trans (HB2.out.mono HB.out.1.size)
  exact below_grown b1 q2 b1.size (Nat.le_refl _)
end Go.Proofs.YtiioiikcjaiajaaDoor.My

/- The walk of head.Take: the whole. -/
set_option maxRecDepth 100000
namespace Go.Proofs.YtiioiikcjaiajaaDoor.My
open Go.RowKit Go.Proofs.YtiioiikcjaiajaaDoor.Hd Go.Proofs.YtiioiikcjaiajaaDoor.Oct Go.Proofs.YtiioiikcjaiajaaDoorW.PrintWords Go.Proofs.YtiioiikcjaiajaaDoorW.PrintLast Go.Proofs.YtiioiikcjaiajaaDoorW.PrintMore
set_option linter.unusedVariables false
set_option linter.unusedSimpArgs false

theorem Inp.text {w : World} {g o0 c : Nat} {xs : List Int} (h : Inp w g o0 c xs) (o n : Nat) (hn : o + n ≤ 512) :
    Calls Tryd.prog 36 #[.slice (some ⟨g, o0 + o, none⟩) n (c - o)] w fun e w' => e = .returned (.string (textOf (Hd.fld xs o n))) ∧ Below w.heap.size w w' :=
  text_any w ⟨g, o0 + o, none⟩ n (c - o) _ (h.fld o n hn) (by omega)
theorem gl_grown {W w : World} {gh : Nat} (h : Gl W) (q : W.grownBy w (some gh)) (hl : 14 ≤ gh) : Gl w :=
  ⟨fun g hg => keep_cell q (h.at_ g hg) (by show some g ≠ some gh; simp; omega), fun g hg => keep_cell q (h.size g hg) (by show some g ≠ some gh; simp; omega), Nat.le_trans h.low q.size⟩
/-- A head's block of noughts that is still to be filled. -/
structure BX (B : Nat) (w : World) (gh : Nat) : Prop where
  out : Box w gh zero
  ge : B ≤ gh
theorem bx_keep {B : Nat} {w1 w2 : World} {gh : Nat} {G : Prop} (qb : Below w1.heap.size w1 w2) (k : BX B w1 gh) (f : BX B w2 gh → G) : G := f ⟨k.out.below qb, k.ge⟩
theorem bx_new {W0 w0 w2 : World} {G : Prop} (q : Below W0.heap.size W0 w0) (qb : Below (w0.alloc (.cells #[.string ⟨#[]⟩, .int .i64 0, .int .i64 0, .int .i64 0, .int .i64 0, .int .i64 0, .int .u8 0, .string ⟨#[]⟩, .string ⟨#[]⟩, .string ⟨#[]⟩, .int .i64 0, .int .i64 0] 23)).heap.size (w0.alloc (.cells #[.string ⟨#[]⟩, .int .i64 0, .int .i64 0, .int .i64 0, .int .i64 0, .int .i64 0, .int .u8 0, .string ⟨#[]⟩, .string ⟨#[]⟩, .string ⟨#[]⟩, .int .i64 0, .int .i64 0] 23)) w2) (f : BX W0.heap.size w2 w0.heap.size → G) : G :=
  bx_keep qb ⟨⟨alloc_self w0 (.cells (hv zero) 23)⟩, q.size⟩ f
theorem bx_newd {W0 w0 w2 : World} {G : Prop} (q : Below W0.heap.size W0 w0) (qb : Below (w0.alloc (.cells #[.string ⟨#[]⟩, .int .i64 0, .int .i64 0, .int .i64 0, .int .i64 0, .int .i64 0, .int .u8 0, .string ⟨#[]⟩, .string ⟨#[]⟩, .string ⟨#[]⟩, .int .i64 0, .int .i64 0] 23)).drew.heap.size (w0.alloc (.cells #[.string ⟨#[]⟩, .int .i64 0, .int .i64 0, .int .i64 0, .int .i64 0, .int .i64 0, .int .u8 0, .string ⟨#[]⟩, .string ⟨#[]⟩, .string ⟨#[]⟩, .int .i64 0, .int .i64 0] 23)).drew w2) (f : BX W0.heap.size w2 w0.heap.size → G) : G :=
  bx_keep qb ⟨⟨alloc_self w0 (.cells (hv zero) 23)⟩, q.size⟩ f
theorem bx_open {B : Nat} {w2 : World} {gh : Nat} {G : Prop} (k : BX B w2 gh) (f : (w2.cell? ⟨gh, 0, none⟩ = some (.string zero.nm) ∧ w2.cell? ⟨gh, 1, none⟩ = some (.int .i64 zero.mo) ∧ w2.cell? ⟨gh, 2, none⟩ = some (.int .i64 zero.ui) ∧ w2.cell? ⟨gh, 3, none⟩ = some (.int .i64 zero.gi) ∧ w2.cell? ⟨gh, 4, none⟩ = some (.int .i64 zero.si) ∧ w2.cell? ⟨gh, 5, none⟩ = some (.int .i64 zero.ti) ∧ w2.cell? ⟨gh, 6, none⟩ = some (.int .u8 zero.ki) ∧ w2.cell? ⟨gh, 7, none⟩ = some (.string zero.li) ∧ w2.cell? ⟨gh, 8, none⟩ = some (.string zero.us) ∧ w2.cell? ⟨gh, 9, none⟩ = some (.string zero.gr) ∧ w2.cell? ⟨gh, 10, none⟩ = some (.int .i64 zero.ma) ∧ w2.cell? ⟨gh, 11, none⟩ = some (.int .i64 zero.mi)) → (w2.frozen? ⟨gh, 0, none⟩ = false ∧ w2.frozen? ⟨gh, 1, none⟩ = false ∧ w2.frozen? ⟨gh, 2, none⟩ = false ∧ w2.frozen? ⟨gh, 3, none⟩ = false ∧ w2.frozen? ⟨gh, 4, none⟩ = false ∧ w2.frozen? ⟨gh, 5, none⟩ = false ∧ w2.frozen? ⟨gh, 6, none⟩ = false ∧ w2.frozen? ⟨gh, 7, none⟩ = false ∧ w2.frozen? ⟨gh, 8, none⟩ = false ∧ w2.frozen? ⟨gh, 9, none⟩ = false ∧ w2.frozen? ⟨gh, 10, none⟩ = false ∧ w2.frozen? ⟨gh, 11, none⟩ = false) → G) : G :=
  f k.out.all' ⟨blk_frozen k.out.out 0, blk_frozen k.out.out 1, blk_frozen k.out.out 2, blk_frozen k.out.out 3, blk_frozen k.out.out 4, blk_frozen k.out.out 5, blk_frozen k.out.out 6, blk_frozen k.out.out 7, blk_frozen k.out.out 8, blk_frozen k.out.out 9, blk_frozen k.out.out 10, blk_frozen k.out.out 11⟩
theorem below_set12 {B : Nat} {W w : World} {gh : Nat} {v0 v1 v2 v3 v4 v5 v6 v7 v8 v9 v10 v11 : Value} (h : Below B W w) (hg : B ≤ gh) : Below B W ((((((((((((w.setCell ⟨gh, 0, none⟩ v0).setCell ⟨gh, 1, none⟩ v1).setCell ⟨gh, 2, none⟩ v2).setCell ⟨gh, 3, none⟩ v3).setCell ⟨gh, 4, none⟩ v4).setCell ⟨gh, 5, none⟩ v5).setCell ⟨gh, 6, none⟩ v6).setCell ⟨gh, 7, none⟩ v7).setCell ⟨gh, 8, none⟩ v8).setCell ⟨gh, 9, none⟩ v9).setCell ⟨gh, 10, none⟩ v10).setCell ⟨gh, 11, none⟩ v11) :=
  Below.setCell (Below.setCell (Below.setCell (Below.setCell (Below.setCell (Below.setCell (Below.setCell (Below.setCell (Below.setCell (Below.setCell (Below.setCell (Below.setCell h (p := ⟨gh, 0, none⟩) hg _) (p := ⟨gh, 1, none⟩) hg _) (p := ⟨gh, 2, none⟩) hg _) (p := ⟨gh, 3, none⟩) hg _) (p := ⟨gh, 4, none⟩) hg _) (p := ⟨gh, 5, none⟩) hg _) (p := ⟨gh, 6, none⟩) hg _) (p := ⟨gh, 7, none⟩) hg _) (p := ⟨gh, 8, none⟩) hg _) (p := ⟨gh, 9, none⟩) hg _) (p := ⟨gh, 10, none⟩) hg _) (p := ⟨gh, 11, none⟩) hg _
theorem open89 {w2 : World} {gh : Nat} {h : Hd} {G : Prop} (k : Box w2 gh h) (f : w2.cell? ⟨gh, 8, none⟩ = some (.string h.us) → w2.cell? ⟨gh, 9, none⟩ = some (.string h.gr) → w2.frozen? ⟨gh, 8, none⟩ = false → w2.frozen? ⟨gh, 9, none⟩ = false → G) : G :=
  f ((blk_cell k.out 8).trans rfl) ((blk_cell k.out 9).trans rfl) (blk_frozen k.out 8) (blk_frozen k.out 9)
theorem box_set {w : World} {gh : Nat} {h : Hd} (k : Box w gh h) (i : Nat) (v : Value) (h' : Hd) (e : ((hv h).toList.set i v).toArray = hv h') : Box (w.setCell ⟨gh, i, none⟩ v) gh h' := by
  refine ⟨?_⟩
  rw [setCell_eq_setRow w gh i _ _ (0, 0) _ k.out, setRow_heap w gh _ _ _ (0, 0) k.out, ← e]
  congr 2
  apply Array.ext'
  simp
theorem num_set {w : World} {gh : Nat} {h : Hd} (k : Box w gh h) (i : Nat) (hi : i < 7) (x : Int) : Box (w.setCell ⟨gh, nOff i, none⟩ (.int .i64 x)) gh (h.setNum i x) := by
  match i, hi with
  | 0, _ => exact box_set k _ _ _ rfl
  | 1, _ => exact box_set k _ _ _ rfl
  | 2, _ => exact box_set k _ _ _ rfl
  | 3, _ => exact box_set k _ _ _ rfl
  | 4, _ => exact box_set k _ _ _ rfl
  | 5, _ => exact box_set k _ _ _ rfl
  | 6, _ => exact box_set k _ _ _ rfl
theorem takeNs_step (xs : List Int) (n k : Nat) (h : Hd) : takeNs xs n (k + 1) h = match takeA (fld xs (nAt (n - (k + 1))) (nSz (n - (k + 1)))) with
    | (none, x) => takeNs xs n k (h.setNum (n - (k + 1)) x)
    | (some e, _) => (some e, zero) := rfl
/-- The head, behind its texts. -/
def head1 (xs : List Int) (o : Bool) : Hd := if o then head0 xs else { head0 xs with us := textOf (fld xs 265 32), gr := textOf (fld xs 297 32) }
def nNum (o : Bool) : Nat := if o then 5 else 7
/-- What Take answers behind its questions. -/
def mainH (xs : List Int) (o : Bool) : Option Int × Hd :=
  match takeNs xs (nNum o) (nNum o) (head1 xs o) with
  | (none, h) => (none, endH xs h)
  | (some e, _) => (some e, zero)
theorem textOf_size (l : List Int) : (textOf l).size ≤ l.length := by
  unfold textOf strOfNums
  show (l.takeWhile nz |>.map fun n => UInt8.ofNat n.toNat).toArray.size ≤ l.length
  rw [List.size_toArray, List.length_map]
  exact (List.takeWhile_prefix _).length_le
theorem fld_le (l : List Int) (o n : Nat) : (fld l o n).length ≤ n := by unfold fld; rw [List.length_take]; omega
theorem setNum_nm (h : Hd) (i : Nat) (x : Int) : (h.setNum i x).nm = h.nm := by
  unfold Hd.setNum
  split <;> rfl
theorem join_eq (a b : ByteArray) : a ++ ⟨#[47]⟩ ++ b = joinN a b := by unfold joinN; rw [ByteArray.append_assoc]
theorem head1_nm (xs : List Int) (o : Bool) : (head1 xs o).nm.size ≤ 100 := by
  have k1 := textOf_size (fld xs 0 100)
  have k2 := fld_le xs 0 100
  have k3 : (head1 xs o).nm = textOf (fld xs 0 100) := by cases o <;> rfl
  rw [k3]
  omega
theorem mainH_err {xs : List Int} {o : Bool} {e : Int} {h : Hd} (k : takeNs xs (nNum o) (nNum o) (head1 xs o) = (some e, h)) : mainH xs o = (some e, zero) := by unfold mainH; rw [k]
theorem mainH_ok {xs : List Int} {o : Bool} {h : Hd} (k : takeNs xs (nNum o) (nNum o) (head1 xs o) = (none, h)) : mainH xs o = (none, endH xs h) := by unfold mainH; rw [k]
set_option maxHeartbeats 1000000 in
theorem take_main (w : World) (hg : Gl w) (g o0 c : Nat) (xs : List Int) (h : Inp w g o0 c xs) (hs : summed xs = true) (hgs : g < w.heap.size) (o : Bool) (ho : o = decide (fld xs 257 6 = old)) (hm : fld xs 257 6 = fresh ∨ fld xs 257 6 = other ∨ fld xs 257 6 = old) :
    Calls Tryd.prog 15 #[.slice (some ⟨g, o0, none⟩) xs.length c] w fun e w' => e = .returned (.tuple #[.agg (hv (mainH xs o).2), errV (mainH xs o).1]) ∧ Below w.heap.size w w' := by
  obtain ⟨W, hW⟩ : ∃ W, W = w.alloc (.cells (hv zero) 23) := ⟨_, rfl⟩
  have hBW : Below w.heap.size w W := by rw [hW]; exact below_alloc (Below.refl _ _) _
  have hbox : Box W w.heap.size zero := by rw [hW]; exact ⟨alloc_self _ _⟩
  have HS := Aside0.mk (summed_calls W (hg.next hBW) g o0 c xs (h.below hBW))
  rw [hs] at HS
  have hlen : (512 : Int) ≤ (xs.length : Int) := by have := h.len; omega
  have HW := Aside0.mk hW
  have HB := Aside0.mk (And.intro hBW (And.intro hbox (And.intro (hg.next hBW) (And.intro (h.below hBW) (And.intro hgs (show w.heap.size < W.heap.size from blk_lt hbox.out))))))
  have hby := fld_byte h.byte 257 6
  have e1 := mark_eq (fld xs 257 6) fresh hby (by decide) [117, 115, 116, 97, 114, 0] (by decide)
  have e2 := mark_eq (fld xs 257 6) other hby (by decide) [117, 115, 116, 97, 114, 32] (by decide)
  have e3 := mark_eq (fld xs 257 6) old hby (by decide) [0, 0, 0, 0, 0, 0] (by decide)
  rw [← ho] at e3
  obtain ⟨bf, hbf⟩ : ∃ b, b = decide (fld xs 257 6 = fresh) := ⟨_, rfl⟩
  obtain ⟨bo, hbo⟩ : ∃ b, b = decide (fld xs 257 6 = other) := ⟨_, rfl⟩
  rw [← hbf] at e1
  rw [← hbo] at e2
  have hcase : (bf = true ∧ bo = false ∧ o = false) ∨ (bf = false ∧ bo = true ∧ o = false) ∨ (bf = false ∧ bo = false ∧ o = true) := by
    rcases hm with hm | hm | hm <;> rw [hm] at hbf hbo ho <;> subst hbf hbo ho
    · exact .inl (by decide)
    · exact .inr (.inl (by decide))
    · exact .inr (.inr (by decide))
  have HCase := Aside0.mk hcase
  have HBf := Aside0.mk hbf
  have E1 := Aside0.mk e1
  have E2 := Aside0.mk e2
  have E3 := Aside0.mk e3
  have HCv : Aside0 (∀ w', Below W.heap.size W w' → (convert 26 9 (.slice (some ⟨g, o0 + 257, none⟩) 6 (c - 257))).run Tryd.prog w' = .ok (.string (strOfNums (fld xs 257 6))) w') := ⟨fun w' hb => by
    have hC : (Kd.int .u8).C w' (some ⟨g, o0 + 257, none⟩) 6 (fld xs 257 6) := C_of_readsInt (((HB.out.2.2.2.1.below hb).fld 257 6 (by omega)).rd)
    exact Kd.C_string (P := Tryd.prog) (src := 26) (dst := 9) (c := c - 257) Tryd.underlying26 Tryd.underlying5 Tryd.underlying9 hC⟩
  have HOf : Aside0 (∀ (w' : World) (a n : Nat), a + n ≤ 512 → a < 512 → Inp w' g o0 c xs → Calls Tryd.prog 27 #[.agg #[.int .i64 a, .int .i64 n], .slice (some ⟨g, o0, none⟩) xs.length c] w' fun e w'' => e = .returned (.slice (some ⟨g, o0 + a, none⟩) n (c - a)) ∧ Below w'.heap.size w' w'') := ⟨fun w' a n h1 h2 hi => hi.of_ a n h1 h2⟩
  have hzv : hv zero = #[.string ⟨#[]⟩, .int .i64 0, .int .i64 0, .int .i64 0, .int .i64 0, .int .i64 0, .int .u8 0, .string ⟨#[]⟩, .string ⟨#[]⟩, .string ⟨#[]⟩, .int .i64 0, .int .i64 0] := rfl
  rw [hzv] at HW
  clear hW hBW hbox hs hgs h hg hzv hby hm ho hbf hbo hcase e1 e2 e3
  have HMk : Aside0 (∃ mk, mk = strOfNums (fld xs 257 6)) := ⟨⟨_, rfl⟩⟩
  generalize strOfNums (fld xs 257 6) = mk at *
  obtain ⟨n, hn⟩ : ∃ n, n = xs.length := ⟨_, rfl⟩
  rw [← hn] at hlen HS HOf ⊢
  have HN := Aside0.mk hn
  clear hn HMk
  go_enter Tryd.func15, Tryd.ntmps15
  go_upto_region 1 with fail
  rw [← HW.out]
  go_upto_region 5 with (go_at_call 35; refine HS.out.mono ?_; rintro e w1 ⟨rfl, hb1⟩; have HB1 := Aside0.mk hb1; clear hb1)
  have p0 : w1.cell? ⟨2, 0, none⟩ = some (.int .i64 257) := (HB.out.2.2.1.next HB1.out).at_ 2 (by omega)
  have p1 : w1.cell? ⟨2, 1, none⟩ = some (.int .i64 6) := (HB.out.2.2.1.next HB1.out).size 2 (by omega)
  go_upto_region 6 with (go_at_call 27; refine (HOf.out w1 257 6 (by omega) (by omega) (HB.out.2.2.2.1.below HB1.out)).mono ?_; rintro e w2 ⟨rfl, hb2⟩; have HB2 := Aside0.mk (HB1.out.trans (hb2.mono HB1.out.size)); have hcv := HCv.out w2 HB2.out; clear hb2)
  clear p0 p1 hcv HCv HS HB1 HW
  go_cut [35] (fun v35 wc => v35 = .bool false ∧ wc = w2)
  case first =>
    have e1 := E1.out
    have e2 := E2.out
    have e3 := E3.out
    rcases HCase.out with ⟨rfl, rfl, rfl⟩ | ⟨rfl, rfl, rfl⟩ | ⟨rfl, rfl, rfl⟩
    · go_wp2_with fail
      go_meet
      case rel => exact ⟨rfl, rfl⟩
    · go_wp2_with fail
      go_meet
      case rel => exact ⟨rfl, rfl⟩
    · go_wp2_with fail
      go_meet
      case rel => exact ⟨rfl, rfl⟩
  case rest =>
    obtain ⟨rfl, rfl⟩ := hcut
    go_upto_region 8 with fail
    have HI2 : Aside0 (Inp wc g o0 c xs ∧ Gl wc ∧ Box wc w.heap.size zero ∧ Below w.heap.size w wc ∧ g < wc.heap.size ∧ w.heap.size < wc.heap.size) := ⟨HB.out.2.2.2.1.below HB2.out, HB.out.2.2.1.next HB2.out, HB.out.2.1.below HB2.out, HB.out.1.trans (HB2.out.mono HB.out.1.size), by have := HB.out.2.2.2.2.1; have := HB.out.1.size; have := HB2.out.size; omega, by have := HB.out.2.2.2.2.2; have := HB2.out.size; omega⟩
    have hk156 : wc.cell? ⟨g, o0 + 156, none⟩ = some (.int .u8 (xs.getD 156 0)) := HI2.out.1.cell 156 (by have := HI2.out.1.len; omega)
    have HSK : Aside0 (∀ w', Below wc.heap.size wc w' → w'.cell? ⟨0, 0, none⟩ = some (.int .i64 0) ∧ w'.cell? ⟨0, 1, none⟩ = some (.int .i64 100) ∧ w'.cell? ⟨1, 0, none⟩ = some (.int .i64 157) ∧ w'.cell? ⟨1, 1, none⟩ = some (.int .i64 100) ∧ w'.cell? ⟨g, o0 + 156, none⟩ = some (.int .u8 (xs.getD 156 0))) := ⟨fun w' hb => by
      have k := HI2.out.2.1.next hb
      exact ⟨k.at_ 0 (by omega), k.size 0 (by omega), k.at_ 1 (by omega), k.size 1 (by omega), (hb.cell (p := ⟨g, o0 + 156, none⟩) HI2.out.2.2.2.2.1).trans hk156⟩⟩
    have HO0 : Aside0 (∀ w', Below wc.heap.size wc w' → Calls Tryd.prog 27 #[.agg #[.int .i64 0, .int .i64 100], .slice (some ⟨g, o0, none⟩) n c] w' fun e w'' => e = .returned (.slice (some ⟨g, o0, none⟩) 100 c) ∧ Below wc.heap.size wc w'' ∧ Below w'.heap.size w' w'') := ⟨fun w' hb => (HOf.out w' 0 100 (by omega) (by omega) (HI2.out.1.below hb)).mono fun _ _ k => ⟨k.1, hb.trans (k.2.mono hb.size), k.2⟩⟩
    have HO1 : Aside0 (∀ w', Below wc.heap.size wc w' → Calls Tryd.prog 27 #[.agg #[.int .i64 157, .int .i64 100], .slice (some ⟨g, o0, none⟩) n c] w' fun e w'' => e = .returned (.slice (some ⟨g, o0 + 157, none⟩) 100 (c - 157)) ∧ Below wc.heap.size wc w'' ∧ Below w'.heap.size w' w'') := ⟨fun w' hb => (HOf.out w' 157 100 (by omega) (by omega) (HI2.out.1.below hb)).mono fun _ _ k => ⟨k.1, hb.trans (k.2.mono hb.size), k.2⟩⟩
    have HT0 : Aside0 (∀ w', Below wc.heap.size wc w' → Calls Tryd.prog 36 #[.slice (some ⟨g, o0, none⟩) 100 c] w' fun e w'' => e = .returned (.string (textOf (fld xs 0 100))) ∧ Below wc.heap.size wc w'' ∧ Below w'.heap.size w' w'') := ⟨fun w' hb => ((HI2.out.1.below hb).text 0 100 (by omega)).mono fun _ _ k => ⟨k.1, hb.trans (k.2.mono hb.size), k.2⟩⟩
    have HT1 : Aside0 (∀ w', Below wc.heap.size wc w' → Calls Tryd.prog 36 #[.slice (some ⟨g, o0 + 157, none⟩) 100 (c - 157)] w' fun e w'' => e = .returned (.string (textOf (fld xs 157 100))) ∧ Below wc.heap.size wc w'' ∧ Below w'.heap.size w' w'') := ⟨fun w' hb => ((HI2.out.1.below hb).text 157 100 (by omega)).mono fun _ _ k => ⟨k.1, hb.trans (k.2.mono hb.size), k.2⟩⟩
    have hQ0 : Below wc.heap.size wc wc.drew := (Below.refl _ _).drew
    have HH0 : Aside0 (head0 xs = ⟨textOf (fld xs 0 100), 0, 0, 0, 0, 0, xs.getD 156 0, textOf (fld xs 157 100), ⟨#[]⟩, ⟨#[]⟩, 0, 0⟩) := ⟨rfl⟩
    have hlen156 : (156 : Int) < (n : Int) := by omega
    generalize textOf (fld xs 0 100) = tn at *
    generalize textOf (fld xs 157 100) = tl at *
    generalize xs.getD 156 0 = kd at *
    go_cut [5] (fun v5 wd => ∃ gh, v5 = .pointer (some ⟨gh, 0, none⟩) ∧ Aside0 (Box wd gh (head0 xs) ∧ Below wc.heap.size wc wd ∧ wc.heap.size ≤ gh))
    case first =>
      go_region_held3 (fun w' => w'.cell? ⟨0, 0, none⟩ = some (.int .i64 0) ∧ w'.cell? ⟨0, 1, none⟩ = some (.int .i64 100) ∧ w'.cell? ⟨1, 0, none⟩ = some (.int .i64 157) ∧ w'.cell? ⟨1, 1, none⟩ = some (.int .i64 100) ∧ w'.cell? ⟨g, o0 + 156, none⟩ = some (.int .u8 kd)) ((refine HSK.out _ ?_; first | (with_reducible assumption) | (with_reducible refine below_alloc ?_ _; with_reducible assumption) | (with_reducible exact (below_alloc (Below.refl _ _) _).drew) | (with_reducible refine below_set12 ?_ bx.ge; with_reducible assumption)))
        (first
          | (go_at_call 27; (with_reducible refine (HO0.out _ ?_).mono ?_); (first | (with_reducible assumption) | (with_reducible refine below_alloc ?_ _; with_reducible assumption) | (with_reducible exact (below_alloc (Below.refl _ _) _).drew)); rintro e w3 ⟨rfl, q3, qb⟩; (first | (with_reducible refine bx_keep qb bx ?_; clear bx qb; intro bx) | (with_reducible refine bx_new (W0 := wc) (by with_reducible assumption) qb ?_; intro bx) | (with_reducible refine bx_newd (W0 := wc) (Below.refl _ _) qb ?_; intro bx) | skip))
          | (go_at_call 27; (with_reducible refine (HO1.out _ ?_).mono ?_); (first | (with_reducible assumption) | (with_reducible refine below_alloc ?_ _; with_reducible assumption) | (with_reducible exact (below_alloc (Below.refl _ _) _).drew)); rintro e w3 ⟨rfl, q3, qb⟩; (first | (with_reducible refine bx_keep qb bx ?_; clear bx qb; intro bx) | (with_reducible refine bx_new (W0 := wc) (by with_reducible assumption) qb ?_; intro bx) | (with_reducible refine bx_newd (W0 := wc) (Below.refl _ _) qb ?_; intro bx) | skip))
          | (go_at_call 36; (with_reducible refine (HT0.out _ ?_).mono ?_); (first | (with_reducible assumption) | (with_reducible refine below_alloc ?_ _; with_reducible assumption) | (with_reducible exact (below_alloc (Below.refl _ _) _).drew)); rintro e w3 ⟨rfl, q3, qb⟩; (first | (with_reducible refine bx_keep qb bx ?_; clear bx qb; intro bx) | (with_reducible refine bx_new (W0 := wc) (by with_reducible assumption) qb ?_; intro bx) | (with_reducible refine bx_newd (W0 := wc) (Below.refl _ _) qb ?_; intro bx) | skip))
          | (go_at_call 36; (with_reducible refine (HT1.out _ ?_).mono ?_); (first | (with_reducible assumption) | (with_reducible refine below_alloc ?_ _; with_reducible assumption) | (with_reducible exact (below_alloc (Below.refl _ _) _).drew)); rintro e w3 ⟨rfl, q3, qb⟩; (first | (with_reducible refine bx_keep qb bx ?_; clear bx qb; intro bx) | (with_reducible refine bx_new (W0 := wc) (by with_reducible assumption) qb ?_; intro bx) | (with_reducible refine bx_newd (W0 := wc) (Below.refl _ _) qb ?_; intro bx) | skip); (first | (refine bx_open bx ?_; rintro ⟨c0, c1, c2, c3, c4, c5, c6, c7, c8, c9, c10, c11⟩ ⟨f0, f1, f2, f3, f4, f5, f6, f7, f8, f9, f10, f11⟩) | skip))
          | fail)
      all_goals go_wp2_with fail
      all_goals go_meet
      all_goals
        case rel =>
          first
            | (refine ⟨_, rfl, ⟨?_, ?_, ?_⟩⟩
               · rw [HH0.out]; exact (set12_box bx.out ⟨tn, 0, 0, 0, 0, 0, kd, tl, ⟨#[]⟩, ⟨#[]⟩, 0, 0⟩).1
               · exact below_set12 q3 bx.ge
               · exact bx.ge)
            | (refine ⟨_, rfl, ⟨?_, ?_, ?_⟩⟩
               · rw [HH0.out]; exact ⟨alloc_self _ (.cells (hv ⟨tn, 0, 0, 0, 0, 0, kd, tl, ⟨#[]⟩, ⟨#[]⟩, 0, 0⟩) 23)⟩
               · exact below_alloc q3 _
               · exact q3.size)
    case rest =>
      obtain ⟨gh, rfl, HGH⟩ := hcut
      have HD : Aside0 (Inp wc g o0 c xs ∧ Gl wc ∧ Box wc w.heap.size zero ∧ Below w.heap.size w wc ∧ g < gh ∧ w.heap.size < gh ∧ 14 ≤ gh) := ⟨HI2.out.1.below HGH.out.2.1, HI2.out.2.1.next HGH.out.2.1, HI2.out.2.2.1.below HGH.out.2.1, HI2.out.2.2.2.1.trans (HGH.out.2.1.mono HI2.out.2.2.2.1.size), by have := HI2.out.2.2.2.2.1; have := HGH.out.2.2; omega, by have := HI2.out.2.2.2.2.2; have := HGH.out.2.2; omega, by have := HI2.out.2.1.low; have := HGH.out.2.2; omega⟩
      have HBG := Aside0.mk HGH.out.1
      clear hk156 HSK HO0 HO1 HT0 HT1 hQ0 HH0 hlen156 HI2 HGH HB HB2
      go_upto_region 10 with (go_at_call 28; refine (numbers_calls wc gh (head0 xs) HBG.out HD.out.2.1).mono ?_; rintro e w3 ⟨rfl, hN3, hb3⟩; have HN3 := Aside0.mk hN3; have HB3 := Aside0.mk hb3; clear hN3 hb3)
      have hgn : wc.heap.size ≠ gh := by have := blk_lt HBG.out.out; omega
      have HK : Aside0 (∀ wr, w3.grownBy wr (some gh) → Gl wr ∧ Inp wr g o0 c xs ∧ NumB wr wc.heap.size gh ∧ Box wr w.heap.size zero ∧ Below w.heap.size w wr) := ⟨fun wr hg => by
        have i3 := HD.out.1.below HB3.out
        have b3 := HD.out.2.2.2.1.trans (HB3.out.mono HD.out.2.2.2.1.size)
        refine ⟨gl_grown (HD.out.2.1.next HB3.out) hg HD.out.2.2.2.2.2.2, i3.grown hg (by have := HD.out.2.2.2.2.1; simp; omega), HN3.out.grown hg (by simpa using hgn), (HD.out.2.2.1.below HB3.out).grown hg (by have := HD.out.2.2.2.2.2.1; simp; omega), below_grown b3 hg b3.size (by have := HD.out.2.2.2.2.2.1; omega)⟩⟩
      have HX0 : Aside0 (Box w3 gh (head0 xs)) := ⟨HBG.out.below HB3.out⟩
      have HLh := Aside0.mk (And.intro HD.out.2.2.2.2.1 (And.intro HD.out.2.2.2.2.2.1 HD.out.2.2.2.2.2.2))
      clear HD HBG HN3 HB3 hgn
      generalize wc.heap.size = gn at *
      have e3 := E3.out
      go_upto_if 52 with fail
      go_cut [6] (fun v6 we => v6 = .slice (some ⟨gn, 0, none⟩) (nNum o) 7 ∧ Aside0 (Box we gh (head1 xs o)) ∧ Aside0 (w3.grownBy we (some gh)))
      case first =>
        cases o with
        | true =>
          clear e3
          go_wp2_with fail
          go_meet
          case rel => exact ⟨rfl, HX0, ⟨grown_refl _ _⟩⟩
        | false =>
          clear e3
          go_wp2_with fail
          have HSK : Aside0 (∀ w', w3.grownBy w' (some gh) → w'.cell? ⟨3, 0, none⟩ = some (.int .i64 265) ∧ w'.cell? ⟨3, 1, none⟩ = some (.int .i64 32) ∧ w'.cell? ⟨4, 0, none⟩ = some (.int .i64 297) ∧ w'.cell? ⟨4, 1, none⟩ = some (.int .i64 32)) := ⟨fun w' hg => by
            have k := (HK.out w' hg).1
            exact ⟨k.at_ 3 (by omega), k.size 3 (by omega), k.at_ 4 (by omega), k.size 4 (by omega)⟩⟩
          have HInp : Aside0 (∀ w', Below w3.heap.size w3 w' → Inp w' g o0 c xs) := ⟨fun w' hb => (HK.out w' (grown_below hb _)).2.1⟩
          have HO0 : Aside0 (∀ w', Below w3.heap.size w3 w' → Calls Tryd.prog 27 #[.agg #[.int .i64 265, .int .i64 32], .slice (some ⟨g, o0, none⟩) n c] w' fun e w'' => e = .returned (.slice (some ⟨g, o0 + 265, none⟩) 32 (c - 265)) ∧ Below w3.heap.size w3 w'') := ⟨fun w' hb => (HOf.out w' 265 32 (by omega) (by omega) (HInp.out _ hb)).mono fun _ _ k => ⟨k.1, hb.trans (k.2.mono hb.size)⟩⟩
          have HO1 : Aside0 (∀ w', Below w3.heap.size w3 w' → Calls Tryd.prog 27 #[.agg #[.int .i64 297, .int .i64 32], .slice (some ⟨g, o0, none⟩) n c] w' fun e w'' => e = .returned (.slice (some ⟨g, o0 + 297, none⟩) 32 (c - 297)) ∧ Below w3.heap.size w3 w'') := ⟨fun w' hb => (HOf.out w' 297 32 (by omega) (by omega) (HInp.out _ hb)).mono fun _ _ k => ⟨k.1, hb.trans (k.2.mono hb.size)⟩⟩
          have HT0 : Aside0 (∀ w', Below w3.heap.size w3 w' → Calls Tryd.prog 36 #[.slice (some ⟨g, o0 + 265, none⟩) 32 (c - 265)] w' fun e w'' => e = .returned (.string (textOf (fld xs 265 32))) ∧ Below w3.heap.size w3 w'') := ⟨fun w' hb => ((HInp.out _ hb).text 265 32 (by omega)).mono fun _ _ k => ⟨k.1, hb.trans (k.2.mono hb.size)⟩⟩
          have HT1 : Aside0 (∀ w', Below w3.heap.size w3 w' → Calls Tryd.prog 36 #[.slice (some ⟨g, o0 + 297, none⟩) 32 (c - 297)] w' fun e w'' => e = .returned (.string (textOf (fld xs 297 32))) ∧ Below w3.heap.size w3 w'' ∧ Box w'' gh (head0 xs)) := ⟨fun w' hb => ((HInp.out _ hb).text 297 32 (by omega)).mono fun _ _ k => ⟨k.1, hb.trans (k.2.mono hb.size), HX0.out.below (hb.trans (k.2.mono hb.size))⟩⟩
          have hQ0 : Below w3.heap.size w3 w3.drew := (Below.refl _ _).drew
          have HH1 : Aside0 (head1 xs false = { head0 xs with us := textOf (fld xs 265 32), gr := textOf (fld xs 297 32) }) := ⟨rfl⟩
          generalize textOf (fld xs 265 32) = tu at *
          generalize textOf (fld xs 297 32) = tg at *
          go_region_held3 (fun w' => w'.cell? ⟨3, 0, none⟩ = some (.int .i64 265) ∧ w'.cell? ⟨3, 1, none⟩ = some (.int .i64 32) ∧ w'.cell? ⟨4, 0, none⟩ = some (.int .i64 297) ∧ w'.cell? ⟨4, 1, none⟩ = some (.int .i64 32)) ((refine HSK.out _ ?_; first | (with_reducible refine grown_below ?_ _; with_reducible assumption) | (with_reducible refine grown_trans (grown_below ?_ _) (grown_set _ _ _ _); with_reducible assumption) | (with_reducible refine grown_trans (grown_trans (grown_below ?_ _) (grown_set _ _ _ _)) (grown_set _ _ _ _); with_reducible assumption)))
            (first
              | (go_at_call 27; (with_reducible refine (HO0.out _ ?_).mono ?_); (with_reducible assumption); rintro e w4 ⟨rfl, q3⟩)
              | (go_at_call 27; (with_reducible refine (HO1.out _ ?_).mono ?_); (with_reducible assumption); rintro e w4 ⟨rfl, q3⟩)
              | (go_at_call 36; (with_reducible refine (HT0.out _ ?_).mono ?_); (with_reducible assumption); rintro e w4 ⟨rfl, q3⟩)
              | (go_at_call 36; (with_reducible refine (HT1.out _ ?_).mono ?_); (with_reducible assumption); rintro e w4 ⟨rfl, q3, bx⟩; refine open89 bx ?_; rintro k8 k9 f8 f9)
              | fail)
          go_wp2_with fail
          go_meet
          case rel =>
            refine ⟨rfl, ⟨?_⟩, ⟨grown_trans (grown_trans (grown_below q3 _) (grown_set _ _ _ _)) (grown_set _ _ _ _)⟩⟩
            rw [HH1.out]
            exact box_set (box_set bx 8 (.string tu) { head0 xs with us := tu } rfl) 9 (.string tg) _ rfl
      case rest =>
        obtain ⟨rfl, HXe, HGe⟩ := hcut
        have HNm : Aside0 ((head1 xs o).nm.size ≤ 100) := ⟨head1_nm xs o⟩
        have hN7 : nNum o ≤ 7 := by cases o <;> decide
        have HN7 := Aside0.mk hN7
        obtain ⟨N, hNe⟩ : ∃ N, N = nNum o := ⟨_, rfl⟩
        have HNe := Aside0.mk hNe
        rw [← hNe] at hN7 ⊢
        clear hNe e3
        go_wp2_with fail
        go_loopg [70] N (fun kq v70 wr => ∃ (i : Nat) (h1 : Hd), i ≤ N ∧ v70 = .int .i64 i ∧ Aside0 (kq = N - i) ∧ Aside0 (Box wr gh h1 ∧ takeNs xs N (N - i) h1 = takeNs xs N N (head1 xs o) ∧ h1.nm.size ≤ 100) ∧ Aside0 (w3.grownBy wr (some gh)))
        case atStart => exact ⟨0, _, by omega, rfl, ⟨rfl⟩, ⟨HXe.out, rfl, HNm.out⟩, HGe⟩
        case round =>
          obtain ⟨i, h1, hi, rfl, HKq, HR, HG⟩ := hrel
          by_cases hlt : i < N
          · have hlt' : (i : Int) < (N : Int) := by omega
            obtain ⟨n0, n1, n2⟩ := num_at (HK.out wr HG.out).2.2.1 i (by omega)
            go_upto_region 16 with fail
            have hbx : Below wr.heap.size wr (wr.alloc (.cells #[.int .i64 (nAt i), .int .i64 (nSz i), .pointer (some ⟨gh, nOff i, none⟩)] 65)) := below_alloc (Below.refl _ _) _
            have hcx : ∀ j, (wr.alloc (.cells #[.int .i64 (nAt i), .int .i64 (nSz i), .pointer (some ⟨gh, nOff i, none⟩)] 65)).cell? ⟨wr.heap.size, j, none⟩ = (#[.int .i64 (nAt i), .int .i64 (nSz i), .pointer (some ⟨gh, nOff i, none⟩)] : Array Value)[j]? := fun j => blk_cell (alloc_self _ _) j
            have hxl : wr.heap.size < (wr.alloc (.cells #[.int .i64 (nAt i), .int .i64 (nSz i), .pointer (some ⟨gh, nOff i, none⟩)] 65)).heap.size := by simp
            obtain ⟨gx, hgx⟩ : ∃ gx, gx = wr.heap.size := ⟨_, rfl⟩
            rw [← hgx] at hcx hxl ⊢
            generalize (wr.alloc (.cells #[.int .i64 (nAt i), .int .i64 (nSz i), .pointer (some ⟨gh, nOff i, none⟩)] 65)) = X at *
            have hTB := nB i
            have c0 : X.cell? ⟨gx, 0, none⟩ = some (.int .i64 (nAt i)) := hcx 0
            have c1 : X.cell? ⟨gx, 1, none⟩ = some (.int .i64 (nSz i)) := hcx 1
            have HGX : Aside0 (∀ w', Below X.heap.size X w' → w3.grownBy w' (some gh) ∧ Box w' gh h1 ∧ w'.cell? ⟨gx, 2, none⟩ = some (.pointer (some ⟨gh, nOff i, none⟩))) := ⟨fun w' hb => ⟨grown_trans (grown_trans HG.out (grown_below hbx _)) (grown_below hb _), (HR.out.1.below hbx).below hb, (hb.cell (p := ⟨gx, 2, none⟩) hxl).trans (hcx 2)⟩⟩
            have HIX : Aside0 (∀ w', Below X.heap.size X w' → Inp w' g o0 c xs) := ⟨fun w' hb => (HK.out w' (HGX.out w' hb).1).2.1⟩
            have HOx : Aside0 (Calls Tryd.prog 27 #[.agg #[.int .i64 (nAt i), .int .i64 (nSz i)], .slice (some ⟨g, o0, none⟩) n c] X fun e w'' => e = .returned (.slice (some ⟨g, o0 + nAt i, none⟩) (nSz i) (c - nAt i)) ∧ Below X.heap.size X w'') := ⟨HOf.out X _ _ hTB.1 hTB.2.1 (HIX.out _ (Below.refl _ _))⟩
            have HTx : Aside0 (∀ w', Below X.heap.size X w' → Calls Tryd.prog 37 #[.slice (some ⟨g, o0 + nAt i, none⟩) (nSz i) (c - nAt i)] w' fun e w'' => e = .returned (ansV (takeA (fld xs (nAt i) (nSz i)))) ∧ Below X.heap.size X w'') := ⟨fun w' hb => (take_calls w' _ _ _ _ ((HIX.out w' hb).fld _ _ hTB.1)).mono fun _ _ k => ⟨k.1, hb.trans (k.2.mono hb.size)⟩⟩
            have HStep : Aside0 (∀ t, t = takeA (fld xs (nAt i) (nSz i)) → takeNs xs N (N - i) h1 = match t with | (none, x) => takeNs xs N (N - (i + 1)) (h1.setNum i x) | (some e, _) => (some e, zero)) := ⟨fun t ht => by
              obtain ⟨k, hk⟩ : ∃ k, N - i = k + 1 := ⟨N - i - 1, by omega⟩
              rw [hk, show N - (i + 1) = k by omega, takeNs_step, show N - (k + 1) = i by omega, ← ht]⟩
            obtain ⟨t, ht⟩ : ∃ t, t = takeA (fld xs (nAt i) (nSz i)) := ⟨_, rfl⟩
            have hst := HStep.out t ht
            rw [← ht] at HTx
            have HSt := Aside0.mk hst
            have HI7 := Aside0.mk (show i < 7 by omega)
            clear hbx hcx hxl hgx hTB n0 n1 n2 HStep hst ht HG
            obtain ⟨te, tv⟩ := t
            cases te with
            | none =>
              rw [show ansV (none, tv) = .tuple #[.int .i64 tv, .nilIface] from rfl] at HTx
              go_wp2_with (first
                | (go_at_call 27; (with_reducible refine HOx.out.mono ?_); rintro e w5 ⟨rfl, hb5⟩; have HB5 := Aside0.mk hb5; clear hb5)
                | (go_at_call 37; (with_reducible refine (HTx.out _ HB5.out).mono ?_); rintro e w6 ⟨rfl, hb6⟩; have HB6 := Aside0.mk hb6; obtain ⟨hg6, hx6, hp6⟩ := HGX.out w6 hb6; have hn6 := box_num hx6 i HI7.out; have hf6 := blk_frozen hx6.out (nOff i); have HX6 := Aside0.mk (And.intro hg6 hx6); clear hb6 hg6 hx6))
              go_roundg (N - (i + 1))
              case measure => have := HKq.out; omega
              case rel => exact ⟨i + 1, h1.setNum i tv, by omega, by go_num, ⟨rfl⟩, ⟨num_set HX6.out.2 i HI7.out tv, by rw [← HR.out.2.1, HSt.out], by rw [setNum_nm]; exact HR.out.2.2⟩, ⟨grown_trans HX6.out.1 (grown_set _ _ _ _)⟩⟩
            | some e0 =>
              rw [show ansV (some e0, tv) = .tuple #[.int .i64 tv, .iface 42 (.int .i64 e0)] from rfl] at HTx
              go_upto_region 18 with (first
                | (go_at_call 27; (with_reducible refine HOx.out.mono ?_); rintro e w5 ⟨rfl, hb5⟩; have HB5 := Aside0.mk hb5; clear hb5)
                | (go_at_call 37; (with_reducible refine (HTx.out _ HB5.out).mono ?_); rintro e w6 ⟨rfl, hb6⟩; have HB6 := Aside0.mk hb6; clear hb6))
              have hbz := (HK.out w6 (HGX.out w6 HB6.out).1).2.2.2.1
              have HBZ := Aside0.mk hbz
              have HBl := Aside0.mk (HK.out w6 (HGX.out w6 HB6.out).1).2.2.2.2
              obtain ⟨c0, c1, c2, c3, c4, c5, c6, c7, c8, c9, c10, c11⟩ := hbz.all'
              have f0 := blk_frozen hbz.out 0
              have f1 := blk_frozen hbz.out 1
              have f2 := blk_frozen hbz.out 2
              have f3 := blk_frozen hbz.out 3
              have f4 := blk_frozen hbz.out 4
              have f5 := blk_frozen hbz.out 5
              have f6 := blk_frozen hbz.out 6
              have f7 := blk_frozen hbz.out 7
              have f8 := blk_frozen hbz.out 8
              have f9 := blk_frozen hbz.out 9
              have f10 := blk_frozen hbz.out 10
              have f11 := blk_frozen hbz.out 11
              clear hbz
              go_wp2_with fail
              obtain ⟨q1, q2⟩ := set12_box HBZ.out zero
              change bodyPost _ _ _ _ _ (set12 w6 w.heap.size zero)
              generalize set12 w6 w.heap.size zero = w7 at *
              clear c0 f0 c1 f1 c2 f2 c3 f3 c4 f4 c5 f5 c6 f6 c7 f7 c8 f8 c9 f9 c10 f10 c11 f11
              obtain ⟨c0, c1, c2, c3, c4, c5, c6, c7, c8, c9, c10, c11⟩ := q1.all'
              have hM := mainH_err (xs := xs) (o := o) (e := e0) (h := zero) (by rw [← HNe.out, ← HR.out.2.1, HSt.out])
              refine bodyPost_ret (v := .tuple #[.agg (hv zero), errV (some e0)]) (by simp [results, Tryd.results15, go_sem, c0, c1, c2, c3, c4, c5, c6, c7, c8, c9, c10, c11]; exact ⟨rfl, rfl⟩) rfl ⟨by rw [hM], ?_⟩
              exact below_grown HBl.out q2 HBl.out.size (Nat.le_refl _)
          · have hlt' : ¬ (i : Int) < (N : Int) := by omega
            obtain rfl : i = N := by omega
            have hT := HR.out.2.1
            have hnm : (h1.nm.size : Int) ≤ 100 := by have := HR.out.2.2; omega
            rw [Nat.sub_self] at hT
            have hM := mainH_ok (xs := xs) (o := o) (h := h1) (by rw [← HNe.out, ← hT]; rfl)
            have HM := Aside0.mk hM
            obtain ⟨hgl, hin, _, hzz, hbb⟩ := HK.out wr HG.out
            have HZ := Aside0.mk (And.intro hgl (And.intro hin (And.intro hzz hbb)))
            have p0 : wr.cell? ⟨5, 0, none⟩ = some (.int .i64 345) := hgl.at_ 5 (by omega)
            have p1 : wr.cell? ⟨5, 1, none⟩ = some (.int .i64 155) := hgl.size 5 (by omega)
            have HB1 := Aside0.mk HR.out.1
            have HOx : Aside0 (Calls Tryd.prog 27 #[.agg #[.int .i64 345, .int .i64 155], .slice (some ⟨g, o0, none⟩) n c] wr fun e w'' => e = .returned (.slice (some ⟨g, o0 + 345, none⟩) 155 (c - 345)) ∧ Below wr.heap.size wr w'') := ⟨HOf.out wr 345 155 (by omega) (by omega) hin⟩
            have HTx : Aside0 (∀ w', Below wr.heap.size wr w' → Calls Tryd.prog 36 #[.slice (some ⟨g, o0 + 345, none⟩) 155 (c - 345)] w' fun e w'' => e = .returned (.string (textOf (fld xs 345 155))) ∧ Below wr.heap.size wr w'') := ⟨fun w' hb => ((HZ.out.2.1.below hb).text 345 155 (by omega)).mono fun _ _ k => ⟨k.1, hb.trans (k.2.mono hb.size)⟩⟩
            have hEnd : endH xs h1 = { h1 with nm := if bf = true ∧ (textOf (fld xs 345 155)).size ≠ 0 then joinN (textOf (fld xs 345 155)) h1.nm else h1.nm, ki := if h1.ki = 0 then 48 else h1.ki } := by
              have e : (fld xs 257 6 = fresh) ↔ (bf = true) := by rw [HBf.out]; simp
              simp only [endH, e]
            have HEnd := Aside0.mk hEnd
            have hsz := textOf_size (fld xs 345 155)
            have hsz2 := fld_le xs 345 155
            have hsz3 : ((textOf (fld xs 345 155)).size : Int) ≤ 155 := by omega
            clear hT hM hgl hin hzz hbb hEnd hlt hi HR HG hsz hsz2
            generalize textOf (fld xs 345 155) = ah at *
            go_upto_region 22 with (first
              | (go_at_call 27; (with_reducible refine HOx.out.mono ?_); rintro e w5 ⟨rfl, hb5⟩; have HB5 := Aside0.mk hb5; clear hb5)
              | (go_at_call 36; (with_reducible refine (HTx.out _ HB5.out).mono ?_); rintro e w6 ⟨rfl, hb6⟩; have HB6 := Aside0.mk hb6; clear hb6))
            have HG6 := Aside0.mk (grown_below (row := some gh) HB6.out)
            have hx6 := HB1.out.below HB6.out
            have HX6 := Aside0.mk hx6
            have k0 : w6.cell? ⟨gh, 0, none⟩ = some (.string h1.nm) := (blk_cell hx6.out 0).trans rfl
            have g0 := blk_frozen hx6.out 0
            have e1 := E1.out
            clear hx6
            obtain ⟨b, hb⟩ : ∃ b, b = (bf && decide (ah.size ≠ 0)) := ⟨_, rfl⟩
            have HBb := Aside0.mk hb
            clear hb
            go_cut [100] (fun v100 wx => v100 = .bool b ∧ wx = w6)
            case first =>
              have hb := HBb.out
              clear k0 g0
              cases bf with
              | false =>
                subst hb
                go_wp2_with fail
                go_meet
                case rel => exact ⟨rfl, rfl⟩
              | true =>
                by_cases hz : ah.size = 0
                · have hE : ah = ⟨#[]⟩ := by
                    obtain ⟨⟨l⟩⟩ := ah
                    have : l = [] := List.eq_nil_of_length_eq_zero hz
                    rw [this]
                  have hb2 : b = false := by rw [hb]; simp [hz]
                  subst hE
                  subst hb2
                  clear hz hb
                  go_wp2_with fail
                  go_meet
                  case rel => exact ⟨rfl, rfl⟩
                · have hne : (ah.toList == []) = false := by
                    rw [ByteArray.toList_eq]
                    refine beq_eq_false_iff_ne.2 (fun h => hz ?_)
                    have := congrArg List.length h
                    simpa using this
                  have hne2 : ah.toList.isEmpty = false := by
                    cases hh : ah.toList with
                    | nil => rw [hh] at hne; cases hne
                    | cons a b => rfl
                  have hb2 : b = true := by rw [hb]; simp [hz]
                  subst hb2
                  clear hz hb
                  go_wp2_with fail
                  go_meet
                  case rel => exact ⟨rfl, rfl⟩
            case rest =>
            obtain ⟨rfl, rfl⟩ := hcut
            have HBi : Aside0 ((if bf = true ∧ ah.size ≠ 0 then joinN ah h1.nm else h1.nm) = if b then joinN ah h1.nm else h1.nm) := ⟨by
              rw [HBb.out]
              cases bf <;> simp⟩
            rw [HBi.out] at HEnd
            clear HBb e1
            go_upto_if 100 with fail
            go_cut [] (fun wx => Aside0 (Box wx gh { h1 with nm := if b then joinN ah h1.nm else h1.nm }) ∧ Aside0 (wr.grownBy wx (some gh)))
            case first =>
              cases b with
              | false =>
                clear k0 g0
                go_wp2_with fail
                go_meet
                case rel => exact ⟨HX6, HG6⟩
              | true =>
                go_wp2_with fail
                go_meet
                case rel => exact ⟨⟨by rw [← join_eq]; exact box_set HX6.out 0 _ _ rfl⟩, ⟨grown_trans HG6.out (grown_set _ _ _ _)⟩⟩
            case rest =>
              obtain ⟨HX7, HG7⟩ := hcut
              have HLast : Aside0 (∀ w', wr.grownBy w' (some gh) → Box w' w.heap.size zero ∧ Below w.heap.size w w') := ⟨fun w' hg => ⟨HZ.out.2.2.1.grown hg (by have := HLh.out.2.1; simp; omega), below_grown HZ.out.2.2.2 hg HZ.out.2.2.2.size (by have := HLh.out.2.1; omega)⟩⟩
              clear k0 g0 HX6 HG6 HB6 HB5 HTx HOx p0 p1
              rw [HEnd.out] at HM
              generalize (if b then joinN ah h1.nm else h1.nm) = nm at *
              have k6 : wc.cell? ⟨gh, 6, none⟩ = some (.int .u8 h1.ki) := (blk_cell HX7.out.out 6).trans rfl
              have g6 := blk_frozen HX7.out.out 6
              clear HEnd HBi
              by_cases hk : h1.ki = 0
              · have hk1 : (h1.ki == 0) = true := beq_iff_eq.2 hk
                rw [if_pos hk] at HM
                clear hk
                go_upto_region 26 with fail
                have hX8 := box_set HX7.out 6 (.int .u8 48) { h1 with nm := nm, ki := 48 } rfl
                have hG8 := grown_trans HG7.out (grown_set wc gh 6 (.int .u8 48))
                generalize wc.setCell ⟨gh, 6, none⟩ (.int .u8 48) = wz at *
                have HX8 := Aside0.mk hX8
                have HG8 := Aside0.mk hG8
                obtain ⟨h3, hh3⟩ : ∃ h3 : Hd, h3 = { h1 with nm := nm, ki := 48 } := ⟨_, rfl⟩
                rw [← hh3] at HX8
                have HH3 := Aside0.mk hh3
                clear hX8 hG8 k6 g6 hk1 hh3
                have hz := (HLast.out _ HG8.out).1
                have HBl := Aside0.mk (HLast.out _ HG8.out).2
                obtain ⟨c0, c1, c2, c3, c4, c5, c6, c7, c8, c9, c10, c11⟩ := HX8.out.all'
                obtain ⟨d0, d1, d2, d3, d4, d5, d6, d7, d8, d9, d10, d11⟩ := hz.all'
                have f0 := blk_frozen hz.out 0
                have f1 := blk_frozen hz.out 1
                have f2 := blk_frozen hz.out 2
                have f3 := blk_frozen hz.out 3
                have f4 := blk_frozen hz.out 4
                have f5 := blk_frozen hz.out 5
                have f6 := blk_frozen hz.out 6
                have f7 := blk_frozen hz.out 7
                have f8 := blk_frozen hz.out 8
                have f9 := blk_frozen hz.out 9
                have f10 := blk_frozen hz.out 10
                have f11 := blk_frozen hz.out 11
                have HZ8 := Aside0.mk hz
                clear hz
                go_wp2_with fail
                obtain ⟨q1, q2⟩ := set12_box HZ8.out h3
                change bodyPost _ _ _ _ _ (set12 wz w.heap.size h3)
                generalize set12 wz w.heap.size h3 = w9 at *
                clear c0 d0 f0 c1 d1 f1 c2 d2 f2 c3 d3 f3 c4 d4 f4 c5 d5 f5 c6 d6 f6 c7 d7 f7 c8 d8 f8 c9 d9 f9 c10 d10 f10 c11 d11 f11
                obtain ⟨c0, c1, c2, c3, c4, c5, c6, c7, c8, c9, c10, c11⟩ := q1.all'
                refine bodyPost_ret (v := .tuple #[.agg (hv h3), errV none]) (by simp [results, Tryd.results15, go_sem, c0, c1, c2, c3, c4, c5, c6, c7, c8, c9, c10, c11]; exact ⟨rfl, rfl⟩) rfl ⟨by rw [HM.out, HH3.out], ?_⟩
                exact below_grown HBl.out q2 HBl.out.size (Nat.le_refl _)
              · have hk1 : (h1.ki == 0) = false := beq_eq_false_iff_ne.2 hk
                rw [if_neg hk] at HM
                clear hk
                go_upto_region 26 with fail
                obtain ⟨wz, hwz⟩ : ∃ wz, wz = wc := ⟨_, rfl⟩
                rw [← hwz] at HX7 HG7 ⊢
                obtain ⟨h3, hh3⟩ : ∃ h3 : Hd, h3 = { h1 with nm := nm } := ⟨_, rfl⟩
                rw [← hh3] at HX7
                have HX8 := HX7
                have HG8 := HG7
                have HH3 := Aside0.mk hh3
                clear k6 g6 hk1 hh3 hwz HX7 HG7
                have hz := (HLast.out _ HG8.out).1
                have HBl := Aside0.mk (HLast.out _ HG8.out).2
                obtain ⟨c0, c1, c2, c3, c4, c5, c6, c7, c8, c9, c10, c11⟩ := HX8.out.all'
                obtain ⟨d0, d1, d2, d3, d4, d5, d6, d7, d8, d9, d10, d11⟩ := hz.all'
                have f0 := blk_frozen hz.out 0
                have f1 := blk_frozen hz.out 1
                have f2 := blk_frozen hz.out 2
                have f3 := blk_frozen hz.out 3
                have f4 := blk_frozen hz.out 4
                have f5 := blk_frozen hz.out 5
                have f6 := blk_frozen hz.out 6
                have f7 := blk_frozen hz.out 7
                have f8 := blk_frozen hz.out 8
                have f9 := blk_frozen hz.out 9
                have f10 := blk_frozen hz.out 10
                have f11 := blk_frozen hz.out 11
                have HZ8 := Aside0.mk hz
                clear hz
                go_wp2_with fail
                obtain ⟨q1, q2⟩ := set12_box HZ8.out h3
                change bodyPost _ _ _ _ _ (set12 wz w.heap.size h3)
                generalize set12 wz w.heap.size h3 = w9 at *
                clear c0 d0 f0 c1 d1 f1 c2 d2 f2 c3 d3 f3 c4 d4 f4 c5 d5 f5 c6 d6 f6 c7 d7 f7 c8 d8 f8 c9 d9 f9 c10 d10 f10 c11 d11 f11
                obtain ⟨c0, c1, c2, c3, c4, c5, c6, c7, c8, c9, c10, c11⟩ := q1.all'
                refine bodyPost_ret (v := .tuple #[.agg (hv h3), errV none]) (by simp [results, Tryd.results15, go_sem, c0, c1, c2, c3, c4, c5, c6, c7, c8, c9, c10, c11]; exact ⟨rfl, rfl⟩) rfl ⟨by rw [HM.out, HH3.out], ?_⟩
                exact below_grown HBl.out q2 HBl.out.size (Nat.le_refl _)
end Go.Proofs.YtiioiikcjaiajaaDoor.My

/- The program's Take, of any slice: one contract. -/
set_option maxRecDepth 100000
namespace Go.Proofs.YtiioiikcjaiajaaDoor.My
open Go.RowKit Go.Proofs.YtiioiikcjaiajaaDoor.Hd Go.Proofs.YtiioiikcjaiajaaDoor.Oct
set_option linter.unusedVariables false
set_option linter.unusedSimpArgs false

theorem takeH_short {xs : List Int} (hl : xs.length < 512) : takeH xs = (some 10, zero) := by
  unfold takeH
  rw [if_pos hl]
theorem takeH_unsummed {xs : List Int} (hl : 512 ≤ xs.length) (hs : summed xs = false) : takeH xs = (some 6, zero) := by
  unfold takeH
  rw [if_neg (by omega), hs, if_pos (by decide)]
theorem takeH_mark {xs : List Int} (hl : 512 ≤ xs.length) (hs : summed xs = true) (hm : fld xs 257 6 ≠ fresh ∧ fld xs 257 6 ≠ other ∧ fld xs 257 6 ≠ old) : takeH xs = (some 11, zero) := by
  unfold takeH
  rw [if_neg (by omega), hs, if_neg (by decide), if_neg (fun e => e.elim hm.1 hm.2.1), if_neg hm.2.2]
theorem old_apart : old ≠ fresh ∧ old ≠ other := ⟨by decide, by decide⟩
theorem takeH_mainH {xs : List Int} (hl : 512 ≤ xs.length) (hs : summed xs = true) (hm : fld xs 257 6 = fresh ∨ fld xs 257 6 = other ∨ fld xs 257 6 = old) : takeH xs = mainH xs (decide (fld xs 257 6 = old)) := by
  unfold takeH mainH
  rw [if_neg (by omega), hs, if_neg (by decide)]
  by_cases ho : fld xs 257 6 = old
  · have h1 : ¬(fld xs 257 6 = fresh ∨ fld xs 257 6 = other) := by rw [ho]; exact fun e => e.elim old_apart.1 old_apart.2
    rw [if_neg h1, if_pos ho, decide_eq_true ho]
    rfl
  · have h1 : fld xs 257 6 = fresh ∨ fld xs 257 6 = other := hm.elim .inl (fun e => e.elim .inr (fun e => absurd e ho))
    rw [if_pos h1, decide_eq_false ho]
    rfl
/-- Take, whatever it is given. -/
theorem take_all (w : World) (hg : Gl w) (g o0 c : Nat) (xs : List Int) (hgs : g < w.heap.size) (h : 512 ≤ xs.length → Inp w g o0 c xs) :
    Calls Tryd.prog 15 #[.slice (some ⟨g, o0, none⟩) xs.length c] w fun e w' => e = .returned (.tuple #[.agg (hv (takeH xs).2), errV (takeH xs).1]) ∧ Below w.heap.size w w' := by
  by_cases hl : xs.length < 512
  · rw [takeH_short hl]
    exact take_short w _ _ _ hl
  have hl : 512 ≤ xs.length := by omega
  by_cases hs : summed xs = false
  · rw [takeH_unsummed hl hs]
    exact take_sum w hg g o0 c xs (h hl) hs
  have hs : summed xs = true := by simpa using hs
  by_cases hm : fld xs 257 6 = fresh ∨ fld xs 257 6 = other ∨ fld xs 257 6 = old
  · rw [takeH_mainH hl hs hm]
    exact take_main w hg g o0 c xs (h hl) hs hgs _ rfl hm
  · have hm2 : fld xs 257 6 ≠ fresh ∧ fld xs 257 6 ≠ other ∧ fld xs 257 6 ≠ old := ⟨fun e => hm (.inl e), fun e => hm (.inr (.inl e)), fun e => hm (.inr (.inr e))⟩
    rw [takeH_mark hl hs hm2]
    exact take_mark w hg g o0 c xs (h hl) hs hm2
end Go.Proofs.YtiioiikcjaiajaaDoor.My
