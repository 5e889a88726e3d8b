/- MyDocTk1, MyDocTk2, MyDocTk3, MyDocTk4, MyDocTk5, MyDocTk6: laid into one text by merge.py. -/
import Derived.Test.YtiioiikcjaiajaaDoorMyAllDoc
import Derived.Test.YtiioiikcjaiajaaDoorMyAllT
import Derived.Outline

/- The document's Take of a head: its callees, and the answers that are errors ahead of the fields. -/
set_option maxRecDepth 100000
namespace Go.Proofs.YtiioiikcjaiajaaDoor.My
open Go.RowKit Go.Proofs.YtiioiikcjaiajaaDoor.Hd Go.Proofs.YtiioiikcjaiajaaDoor.Oct Go.Proofs.YtiioiikcjaiajaaDoorW.PrintWords Go.Proofs.YtiioiikcjaiajaaDoorW.PrintLast Go.Proofs.YtiioiikcjaiajaaDoorW.PrintMore Go.Proofs.YtiioiikcjaiajaaDoor.MyDocK Go.Proofs.YtiioiikcjaiajaaDoor.MyDocX Go.Proofs.YtiioiikcjaiajaaDoor.MyDocA
set_option linter.unusedVariables false
set_option linter.unusedSimpArgs false

theorem DBox.below {w w1 : World} {g : Nat} {h : Hd} (k : DBox w g h) (hb : Below w.heap.size w w1) : DBox w1 g h := ⟨blk_below k.out hb⟩
theorem DBox.drew {w : World} {g : Nat} {h : Hd} (k : DBox w g h) : DBox w.drew g h := ⟨k.out⟩
theorem DBox.drewN {w : World} {g : Nat} {h : Hd} (k : DBox w g h) (n : Nat) : DBox (w.drewN n) g h := ⟨k.out⟩
theorem DBox.grown {w w1 : World} {g : Nat} {h : Hd} {row : Option Nat} (k : DBox w g h) (hg : w.grownBy w1 row) (hne : some g ≠ row) : DBox w1 g h := ⟨blk_grown k.out hg hne⟩
theorem DBox.all' {w : World} {g : Nat} {h : Hd} (k : DBox w g h) : w.cell? ⟨g, 0, none⟩ = some (.string h.nm) ∧ w.cell? ⟨g, 1, none⟩ = some (.int .i64 h.mo) ∧ w.cell? ⟨g, 2, none⟩ = some (.int .i64 h.ui) ∧ w.cell? ⟨g, 3, none⟩ = some (.int .i64 h.gi) ∧ w.cell? ⟨g, 4, none⟩ = some (.int .i64 h.si) ∧ w.cell? ⟨g, 5, none⟩ = some (.int .i64 h.ti) ∧ w.cell? ⟨g, 6, none⟩ = some (.int .u8 h.ki) ∧ w.cell? ⟨g, 7, none⟩ = some (.string h.li) ∧ w.cell? ⟨g, 8, none⟩ = some (.string h.us) ∧ w.cell? ⟨g, 9, none⟩ = some (.string h.gr) ∧ w.cell? ⟨g, 10, none⟩ = some (.int .i64 h.ma) ∧ w.cell? ⟨g, 11, none⟩ = some (.int .i64 h.mi) := by
  refine ⟨?_, ?_, ?_, ?_, ?_, ?_, ?_, ?_, ?_, ?_, ?_, ?_⟩ <;> (rw [blk_cell k.out]; rfl)
theorem DBox.frz {w : World} {g : Nat} {h : Hd} (k : DBox w g h) : w.frozen? ⟨g, 0, none⟩ = false ∧ w.frozen? ⟨g, 1, none⟩ = false ∧ w.frozen? ⟨g, 2, none⟩ = false ∧ w.frozen? ⟨g, 3, none⟩ = false ∧ w.frozen? ⟨g, 4, none⟩ = false ∧ w.frozen? ⟨g, 5, none⟩ = false ∧ w.frozen? ⟨g, 6, none⟩ = false ∧ w.frozen? ⟨g, 7, none⟩ = false ∧ w.frozen? ⟨g, 8, none⟩ = false ∧ w.frozen? ⟨g, 9, none⟩ = false ∧ w.frozen? ⟨g, 10, none⟩ = false ∧ w.frozen? ⟨g, 11, none⟩ = false :=
  ⟨blk_frozen k.out 0, blk_frozen k.out 1, blk_frozen k.out 2, blk_frozen k.out 3, blk_frozen k.out 4, blk_frozen k.out 5, blk_frozen k.out 6, blk_frozen k.out 7, blk_frozen k.out 8, blk_frozen k.out 9, blk_frozen k.out 10, blk_frozen k.out 11⟩
theorem dbox_step {w : World} {g : Nat} {cs : List Value} (i : Nat) (v : Value) (h : w.heap[g]? = some (.cells cs.toArray 33 (0, 0))) : (w.setCell ⟨g, i, none⟩ v).heap[g]? = some (.cells (cs.set i v).toArray 33 (0, 0)) := by
  rw [setCell_eq_setRow w g i _ _ (0, 0) _ h, setRow_heap w g _ _ _ (0, 0) h]
  simp
theorem dbox_set {w : World} {g : Nat} {h : Hd} (k : DBox w g h) (i : Nat) (v : Value) (h' : Hd) (e : ((hv h).toList.set i v).toArray = hv h') : DBox (w.setCell ⟨g, i, none⟩ v) g h' := by
  have k0 : w.heap[g]? = some (.cells (hv h).toList.toArray 33 (0, 0)) := k.out
  have := dbox_step i v k0
  rw [e] at this
  exact ⟨this⟩
theorem dset12_box {w : World} {g : Nat} {h0 : Hd} (k : DBox w g h0) (h : Hd) : DBox (set12 w g h) g h ∧ w.grownBy (set12 w g h) (some g) := by
  have k0 : w.heap[g]? = some (.cells (hv h0).toList.toArray 33 (0, 0)) := k.out
  have k1 := dbox_step 0 (.string h.nm) k0
  have k2 := dbox_step 1 (.int .i64 h.mo) k1
  have k3 := dbox_step 2 (.int .i64 h.ui) k2
  have k4 := dbox_step 3 (.int .i64 h.gi) k3
  have k5 := dbox_step 4 (.int .i64 h.si) k4
  have k6 := dbox_step 5 (.int .i64 h.ti) k5
  have k7 := dbox_step 6 (.int .u8 h.ki) k6
  have k8 := dbox_step 7 (.string h.li) k7
  have k9 := dbox_step 8 (.string h.us) k8
  have k10 := dbox_step 9 (.string h.gr) k9
  have k11 := dbox_step 10 (.int .i64 h.ma) k10
  have k12 := dbox_step 11 (.int .i64 h.mi) k11
  refine ⟨⟨k12.trans rfl⟩, ?_⟩
  unfold set12
  exact grown_trans (grown_trans (grown_trans (grown_trans (grown_trans (grown_trans (grown_trans (grown_trans (grown_trans (grown_trans (grown_trans (grown_set w g 0 _) (grown_set _ g 1 _)) (grown_set _ g 2 _)) (grown_set _ g 3 _)) (grown_set _ g 4 _)) (grown_set _ g 5 _)) (grown_set _ g 6 _)) (grown_set _ g 7 _)) (grown_set _ g 8 _)) (grown_set _ g 9 _)) (grown_set _ g 10 _)) (grown_set _ g 11 _)

/-- An error's number. -/
def docE : Option Int → Int
  | none => 0
  | some e => e
def ansD (t : Option Int × Int) : Value := .tuple #[.int .i64 t.2, .int .i64 (docE t.1)]
theorem convA_ans (t : Option Int × Int) (h : ∀ e x, t = (some e, x) → x = 0) : convA t = (t.2, docE t.1) := by
  obtain ⟨e, x⟩ := t
  cases e with
  | none => rfl
  | some e => rw [h e x rfl]; rfl
theorem dtake_calls (w : World) (a : Addr) (n c : Nat) (xs : List Int) (h : Fld w (some a) n c xs) (hn : n ≤ 1000) :
    Calls Tryd.prog 38 #[.slice (some a) n c] w fun e w' => e = .returned (ansD (takeA xs)) ∧ Drawn0 w w' := by
  have hl : xs.length = n := h.rd.1
  have hf := docTake_f xs (by omega) h.byte
  rw [convA_ans _ (fun e x hh => takeA_zero hh)] at hf
  have hC : (Kd.int .u8).C w (some a) n xs := C_of_readsInt h.rd
  have := crossdockref17_Take.calls _ (some a) c xs _ _ w (by rw [hl]; exact hC) (by rw [hl]; exact h.cap.1) hf
  rwa [hl] at this
theorem dtext_calls (w : World) (a : Addr) (n c : Nat) (xs : List Int) (h : Fld w (some a) n c xs) (hn : n ≤ 1000) :
    Calls Tryd.prog 39 #[.slice (some a) n c] w fun e w' => e = .returned (.string (textOf xs)) ∧ Drawn0 w w' := by
  have hl : xs.length = n := h.rd.1
  have hf := docText_f xs (by omega)
  have hC : (Kd.int .u8).C w (some a) n xs := C_of_readsInt h.rd
  have := crossdockref17_Text.calls _ (some a) c xs _ w (by rw [hl]; exact hC) (by rw [hl]; exact h.cap.1) hf
  rwa [hl] at this
theorem dsum19_calls (w : World) (g o0 c : Nat) (xs : List Int) (h : Inp w g o0 c xs) :
    Calls Tryd.prog 20 #[.slice (some ⟨g, o0, none⟩) xs.length c] w fun e w' => e = .returned (.int .i64 (sumH xs)) ∧ Drawn0 w w' := by
  have hC : (Kd.int .u8).C w (some ⟨g, o0, none⟩) xs.length xs := C_of_readsInt h.all.rd
  exact crossdockref19_Sum.calls 513 (some ⟨g, o0, none⟩) c xs (sumH xs) w hC (by have := h.len; omega) (sum_f xs h.len.1 h.byte)
theorem takeA_err {l : List Int} {e : Int} {x : Int} (h : takeA l = (some e, x)) : e = 1 ∨ e = 2 := by
  unfold takeA at h
  cases l with
  | nil => cases h; exact .inr rfl
  | cons b l =>
    simp only at h
    split at h
    · cases hb : bin (b :: l) with
      | none => rw [hb] at h; cases h; exact .inl rfl
      | some y => rw [hb] at h; cases h
    · split at h
      · revert h
        cases oct _ 0 with
        | none => intro h; cases h; exact .inl rfl
        | some y => intro h; cases h
      · cases h; exact .inr rfl

theorem dtake_short (w : World) (A : Option Addr) (n c : Nat) (h : n < 512) :
    Calls Tryd.prog 17 #[.slice A n c] w fun e w' => e = .returned (.tuple #[.agg (hv zero), .int .i64 10]) ∧ Below w.heap.size w w' := by
  obtain ⟨W, hW⟩ : ∃ W, W = w.alloc (.cells (hv zero) 33) := ⟨_, rfl⟩
  have hBW : Below w.heap.size w W := by rw [hW]; exact below_alloc (Below.refl _ _) _
  have hbox : DBox W w.heap.size zero := by rw [hW]; exact ⟨alloc_self _ _⟩
  have hlen : (n : Int) < 512 := by omega
  have HW := Aside0.mk hW
  have HB := Aside0.mk (And.intro hBW hbox)
  have hzv : hv zero = #[.string ⟨#[]⟩, .int .i64 0, .int .i64 0, .int .i64 0, .int .i64 0, .int .i64 0, .int .u8 0, .string ⟨#[]⟩, .string ⟨#[]⟩, .string ⟨#[]⟩, .int .i64 0, .int .i64 0] := rfl
  rw [hzv] at HW
  clear hW hBW hbox h hzv
  go_enter Tryd.func17, Tryd.ntmps17
  go_upto_region 1 with fail
  rw [← HW.out]
  have hb := HB.out.2
  obtain ⟨c0, c1, c2, c3, c4, c5, c6, c7, c8, c9, c10, c11⟩ := hb.all'
  obtain ⟨f0, f1, f2, f3, f4, f5, f6, f7, f8, f9, f10, f11⟩ := hb.frz
  go_wp2_with fail
  obtain ⟨q1, q2⟩ := dset12_box hb zero
  change bodyPost _ _ _ _ _ (set12 W w.heap.size zero)
  generalize set12 W w.heap.size zero = w2 at *
  clear c0 f0 c1 f1 c2 f2 c3 f3 c4 f4 c5 f5 c6 f6 c7 f7 c8 f8 c9 f9 c10 f10 c11 f11
  obtain ⟨c0, c1, c2, c3, c4, c5, c6, c7, c8, c9, c10, c11⟩ := q1.all'
  refine bodyPost_ret (v := .tuple #[.agg (hv zero), .int .i64 10]) (by simp [results, Tryd.results17, go_sem, c0, c1, c2, c3, c4, c5, c6, c7, c8, c9, c10, c11]; rfl) rfl ⟨rfl, ?_⟩
  exact below_grown HB.out.1 q2 HB.out.1.size (Nat.le_refl _)
end Go.Proofs.YtiioiikcjaiajaaDoor.My

/- The document's Take of a head: a wrong sum, a wrong mark. -/
set_option maxRecDepth 100000
namespace Go.Proofs.YtiioiikcjaiajaaDoor.My
open Go.RowKit Go.Proofs.YtiioiikcjaiajaaDoor.Hd Go.Proofs.YtiioiikcjaiajaaDoor.Oct Go.Proofs.YtiioiikcjaiajaaDoorW.PrintWords Go.Proofs.YtiioiikcjaiajaaDoorW.PrintLast Go.Proofs.YtiioiikcjaiajaaDoorW.PrintMore Go.Proofs.YtiioiikcjaiajaaDoor.MyDocK Go.Proofs.YtiioiikcjaiajaaDoor.MyDocX Go.Proofs.YtiioiikcjaiajaaDoor.MyDocA
set_option linter.unusedVariables false
set_option linter.unusedSimpArgs false

theorem slice_in (g o0 n c a b m k : Nat) (h1 : a ≤ b) (h2 : b ≤ c) (h3 : a < c) (hc : c ≤ 9223372036854775807) (hm : m = b - a) (hk : k = o0 + a) (W : World) : (Instr.slice 26 (.slice (some ⟨g, o0, none⟩) n c) (some (.int .i64 a)) (some (.int .i64 b)) none).run Tryd.prog W = .ok (.slice (some ⟨g, k, none⟩) m (c - a)) W := by
  subst hm hk
  obtain ⟨i0, hi, hz⟩ := Option.map_eq_some_iff.1 info_u8
  simp only [Prod.mk.injEq] at hz
  have hel : Tryd.prog.elem 26 = 5 := by simp [Program.elem, Tryd.underlying26]
  have hu : Tryd.prog.underlying 26 = some (.slice (Tryd.prog.elem 26)) := by rw [hel]; exact Tryd.underlying26
  rw [run_slice_lh W 26 (some ⟨g, o0, none⟩) n c hu .i64 .i64 a b (by omega) (by omega) (by omega), hel]
  have e : ¬ (c = a) := by omega
  simp [sizeOf, typeInfo, hi, hz.2.1, sliced, Result.andThen, add_at, e]
theorem slice_to (g o0 n c b : Nat) (h2 : b ≤ c) (hc : c ≤ 9223372036854775807) (W : World) : (Instr.slice 26 (.slice (some ⟨g, o0, none⟩) n c) none (some (.int .i64 b)) none).run Tryd.prog W = .ok (.slice (some ⟨g, o0, none⟩) b c) W := by
  obtain ⟨i0, hi, hz⟩ := Option.map_eq_some_iff.1 info_u8
  simp only [Prod.mk.injEq] at hz
  have hel : Tryd.prog.elem 26 = 5 := by simp [Program.elem, Tryd.underlying26]
  have hu : Tryd.prog.underlying 26 = some (.slice (Tryd.prog.elem 26)) := by rw [hel]; exact Tryd.underlying26
  rw [run_slice_h W 26 (some ⟨g, o0, none⟩) n c hu .i64 b (by omega) (by omega), hel]
  simp [sizeOf, typeInfo, hi, hz.2.1, sliced, Result.andThen, add_at]

theorem dtake_sum (w : World) (g o0 c : Nat) (xs : List Int) (h : Inp w g o0 c xs) (hs : summed xs = false) :
    Calls Tryd.prog 17 #[.slice (some ⟨g, o0, none⟩) xs.length c] w fun e w' => e = .returned (.tuple #[.agg (hv zero), .int .i64 6]) ∧ Below w.heap.size w w' := by
  obtain ⟨W, hW⟩ : ∃ W, W = w.alloc (.cells (hv zero) 33) := ⟨_, rfl⟩
  have hBW : Below w.heap.size w W := by rw [hW]; exact below_alloc (Below.refl _ _) _
  have hbox : DBox W w.heap.size zero := by rw [hW]; exact ⟨alloc_self _ _⟩
  have HI := Aside0.mk (h.below hBW)
  have hlen : (512 : Int) ≤ (xs.length : Int) := by have := h.len; omega
  have HW := Aside0.mk hW
  have HB := Aside0.mk (And.intro hBW hbox)
  have hzv : hv zero = #[.string ⟨#[]⟩, .int .i64 0, .int .i64 0, .int .i64 0, .int .i64 0, .int .i64 0, .int .u8 0, .string ⟨#[]⟩, .string ⟨#[]⟩, .string ⟨#[]⟩, .int .i64 0, .int .i64 0] := rfl
  rw [hzv] at HW
  have hsl : ∀ W, (Instr.slice 26 (.slice (some ⟨g, o0, none⟩) xs.length c) (some (.int .i64 148)) (some (.int .i64 156)) none).run Tryd.prog W = .ok (.slice (some ⟨g, o0 + 148, none⟩) 8 (c - 148)) W := slice_in g o0 xs.length c 148 156 8 (o0 + 148) (by omega) (by have := h.len; omega) (by have := h.len; omega) h.len.2.2.2 rfl rfl
  have HTk : Aside0 (∀ w', Below W.heap.size W w' → Calls Tryd.prog 38 #[.slice (some ⟨g, o0 + 148, none⟩) 8 (c - 148)] w' fun e w'' => e = .returned (ansD (takeA (fld xs 148 8))) ∧ Drawn0 w' w'') := ⟨fun w' hb => dtake_calls w' _ 8 _ _ ((HI.out.below hb).fld 148 8 (by omega)) (by omega)⟩
  have HSm : Aside0 (∀ w', Below W.heap.size W w' → Calls Tryd.prog 20 #[.slice (some ⟨g, o0, none⟩) xs.length c] w' fun e w'' => e = .returned (.int .i64 (sumH xs)) ∧ Drawn0 w' w'') := ⟨fun w' hb => dsum19_calls w' g o0 c xs (HI.out.below hb)⟩
  have hne : (docE (takeA (fld xs 148 8)).1 != 0) = true ∨ (docE (takeA (fld xs 148 8)).1 = 0 ∧ ((takeA (fld xs 148 8)).2 != sumH xs) = true) := by
    unfold summed at hs
    have hs := of_decide_eq_false hs
    have he := @takeA_err (fld xs 148 8)
    generalize takeA (fld xs 148 8) = t at *
    obtain ⟨e, x⟩ := t
    cases e with
    | none =>
      refine .inr ⟨rfl, ?_⟩
      simp only [bne_iff_ne]
      exact fun hx => hs (by rw [show x = sumH xs from hx])
    | some e =>
      refine .inl ?_
      rcases he rfl with rfl | rfl <;> rfl
  have HEnd : Aside0 (∀ w1, Below W.heap.size W w1 → DBox w1 w.heap.size zero ∧ Below w.heap.size w w1) := ⟨fun w1 hb => ⟨hbox.below hb, hBW.trans (hb.mono hBW.size)⟩⟩
  unfold ansD at HTk
  generalize docE (takeA (fld xs 148 8)).1 = be at *
  generalize (takeA (fld xs 148 8)).2 = bx at *
  generalize sumH xs = sm at *
  clear hW hBW hbox hs h hzv
  generalize xs.length = n at *
  have HNe := Aside0.mk hne
  clear hne HI
  go_enter Tryd.func17, Tryd.ntmps17
  go_upto_region 1 with fail
  rw [← HW.out]
  go_upto_region 4 with (go_at_call 38; (with_reducible refine (HTk.out _ (Below.refl _ _)).mono ?_); rintro e w1 ⟨rfl, ⟨k1, rfl⟩⟩)
  have hb1 : Below W.heap.size W (W.drewN k1) := pw_below_drewN (Below.refl _ _) k1
  have HS1 := Aside0.mk (HSm.out _ hb1)
  have HE1 := Aside0.mk hb1
  clear hb1 HSm HTk
  rcases HNe.out with hne | ⟨rfl, hne⟩
  · have hb := (HEnd.out _ HE1.out).1
    obtain ⟨c0, c1, c2, c3, c4, c5, c6, c7, c8, c9, c10, c11⟩ := hb.all'
    obtain ⟨f0, f1, f2, f3, f4, f5, f6, f7, f8, f9, f10, f11⟩ := hb.frz
    generalize W.drewN k1 = w1 at *
    go_wp2_with fail
    obtain ⟨q1, q2⟩ := dset12_box hb zero
    change bodyPost _ _ _ _ _ (set12 w1 w.heap.size zero)
    generalize set12 w1 w.heap.size zero = w2 at *
    clear c0 f0 c1 f1 c2 f2 c3 f3 c4 f4 c5 f5 c6 f6 c7 f7 c8 f8 c9 f9 c10 f10 c11 f11
    obtain ⟨c0, c1, c2, c3, c4, c5, c6, c7, c8, c9, c10, c11⟩ := q1.all'
    refine bodyPost_ret (v := .tuple #[.agg (hv zero), .int .i64 6]) (by simp [results, Tryd.results17, go_sem, c0, c1, c2, c3, c4, c5, c6, c7, c8, c9, c10, c11]; rfl) rfl ⟨rfl, ?_⟩
    have b1 := (HEnd.out _ HE1.out).2
    exact below_grown b1 q2 b1.size (Nat.le_refl _)
  · go_upto_region 5 with (go_at_call 20; (with_reducible refine HS1.out.mono ?_); rintro e w2 ⟨rfl, ⟨k2, rfl⟩⟩)
    have HE2 : Aside0 (Below W.heap.size W (W.drewN (k1 + k2))) := ⟨pw_below_drewN (Below.refl _ _) (k1 + k2)⟩
    have hb := (HEnd.out _ HE2.out).1
    obtain ⟨c0, c1, c2, c3, c4, c5, c6, c7, c8, c9, c10, c11⟩ := hb.all'
    obtain ⟨f0, f1, f2, f3, f4, f5, f6, f7, f8, f9, f10, f11⟩ := hb.frz
    generalize W.drewN (k1 + k2) = w1 at *
    go_wp2_with fail
    obtain ⟨q1, q2⟩ := dset12_box hb zero
    change bodyPost _ _ _ _ _ (set12 w1 w.heap.size zero)
    generalize set12 w1 w.heap.size zero = w2 at *
    clear c0 f0 c1 f1 c2 f2 c3 f3 c4 f4 c5 f5 c6 f6 c7 f7 c8 f8 c9 f9 c10 f10 c11 f11
    obtain ⟨c0, c1, c2, c3, c4, c5, c6, c7, c8, c9, c10, c11⟩ := q1.all'
    refine bodyPost_ret (v := .tuple #[.agg (hv zero), .int .i64 6]) (by simp [results, Tryd.results17, go_sem, c0, c1, c2, c3, c4, c5, c6, c7, c8, c9, c10, c11]; rfl) rfl ⟨rfl, ?_⟩
    have b1 := (HEnd.out _ HE2.out).2
    exact below_grown b1 q2 b1.size (Nat.le_refl _)
end Go.Proofs.YtiioiikcjaiajaaDoor.My

/- The document's Take of a head: its tail, behind the numbers. -/
set_option maxRecDepth 100000
namespace Go.Proofs.YtiioiikcjaiajaaDoor.My
open Go.RowKit Go.Proofs.YtiioiikcjaiajaaDoor.Hd Go.Proofs.YtiioiikcjaiajaaDoor.Oct Go.Proofs.YtiioiikcjaiajaaDoorW.PrintWords Go.Proofs.YtiioiikcjaiajaaDoorW.PrintLast Go.Proofs.YtiioiikcjaiajaaDoorW.PrintMore Go.Proofs.YtiioiikcjaiajaaDoor.MyDocK Go.Proofs.YtiioiikcjaiajaaDoor.MyDocX Go.Proofs.YtiioiikcjaiajaaDoor.MyDocA
set_option linter.unusedVariables false
set_option linter.unusedSimpArgs false

/-- A head's block of noughts that is still to be filled. -/
structure DX (B : Nat) (w : World) (gh : Nat) : Prop where
  out : DBox w gh zero
  ge : B ≤ gh
theorem dx_keep {B : Nat} {w1 w2 : World} {gh : Nat} {G : Prop} (qb : Below w1.heap.size w1 w2) (k : DX B w1 gh) (f : DX B w2 gh → G) : G := f ⟨k.out.below qb, k.ge⟩
theorem dx_new {W0 w0 w2 : World} {G : Prop} (q : Below W0.heap.size W0 w0) (qb : Below (w0.alloc (.cells #[.string ⟨#[]⟩, .int .i64 0, .int .i64 0, .int .i64 0, .int .i64 0, .int .i64 0, .int .u8 0, .string ⟨#[]⟩, .string ⟨#[]⟩, .string ⟨#[]⟩, .int .i64 0, .int .i64 0] 33)).heap.size (w0.alloc (.cells #[.string ⟨#[]⟩, .int .i64 0, .int .i64 0, .int .i64 0, .int .i64 0, .int .i64 0, .int .u8 0, .string ⟨#[]⟩, .string ⟨#[]⟩, .string ⟨#[]⟩, .int .i64 0, .int .i64 0] 33)) w2) (f : DX W0.heap.size w2 w0.heap.size → G) : G :=
  dx_keep qb ⟨⟨alloc_self w0 (.cells (hv zero) 33)⟩, q.size⟩ f
theorem dx_newd {W0 w0 w2 : World} {G : Prop} (q : Below W0.heap.size W0 w0) (qb : Below (w0.alloc (.cells #[.string ⟨#[]⟩, .int .i64 0, .int .i64 0, .int .i64 0, .int .i64 0, .int .i64 0, .int .u8 0, .string ⟨#[]⟩, .string ⟨#[]⟩, .string ⟨#[]⟩, .int .i64 0, .int .i64 0] 33)).drew.heap.size (w0.alloc (.cells #[.string ⟨#[]⟩, .int .i64 0, .int .i64 0, .int .i64 0, .int .i64 0, .int .i64 0, .int .u8 0, .string ⟨#[]⟩, .string ⟨#[]⟩, .string ⟨#[]⟩, .int .i64 0, .int .i64 0] 33)).drew w2) (f : DX W0.heap.size w2 w0.heap.size → G) : G :=
  dx_keep qb ⟨⟨alloc_self w0 (.cells (hv zero) 33)⟩, q.size⟩ f
theorem dx_open {B : Nat} {w2 : World} {gh : Nat} {G : Prop} (k : DX B w2 gh) (f : (w2.cell? ⟨gh, 0, none⟩ = some (.string zero.nm) ∧ w2.cell? ⟨gh, 1, none⟩ = some (.int .i64 zero.mo) ∧ w2.cell? ⟨gh, 2, none⟩ = some (.int .i64 zero.ui) ∧ w2.cell? ⟨gh, 3, none⟩ = some (.int .i64 zero.gi) ∧ w2.cell? ⟨gh, 4, none⟩ = some (.int .i64 zero.si) ∧ w2.cell? ⟨gh, 5, none⟩ = some (.int .i64 zero.ti) ∧ w2.cell? ⟨gh, 6, none⟩ = some (.int .u8 zero.ki) ∧ w2.cell? ⟨gh, 7, none⟩ = some (.string zero.li) ∧ w2.cell? ⟨gh, 8, none⟩ = some (.string zero.us) ∧ w2.cell? ⟨gh, 9, none⟩ = some (.string zero.gr) ∧ w2.cell? ⟨gh, 10, none⟩ = some (.int .i64 zero.ma) ∧ w2.cell? ⟨gh, 11, none⟩ = some (.int .i64 zero.mi)) → (w2.frozen? ⟨gh, 0, none⟩ = false ∧ w2.frozen? ⟨gh, 1, none⟩ = false ∧ w2.frozen? ⟨gh, 2, none⟩ = false ∧ w2.frozen? ⟨gh, 3, none⟩ = false ∧ w2.frozen? ⟨gh, 4, none⟩ = false ∧ w2.frozen? ⟨gh, 5, none⟩ = false ∧ w2.frozen? ⟨gh, 6, none⟩ = false ∧ w2.frozen? ⟨gh, 7, none⟩ = false ∧ w2.frozen? ⟨gh, 8, none⟩ = false ∧ w2.frozen? ⟨gh, 9, none⟩ = false ∧ w2.frozen? ⟨gh, 10, none⟩ = false ∧ w2.frozen? ⟨gh, 11, none⟩ = false) → G) : G :=
  f k.out.all' ⟨blk_frozen k.out.out 0, blk_frozen k.out.out 1, blk_frozen k.out.out 2, blk_frozen k.out.out 3, blk_frozen k.out.out 4, blk_frozen k.out.out 5, blk_frozen k.out.out 6, blk_frozen k.out.out 7, blk_frozen k.out.out 8, blk_frozen k.out.out 9, blk_frozen k.out.out 10, blk_frozen k.out.out 11⟩
/-- The i-th number as the document tells it. -/
def numD (xs : List Int) (o : Bool) (i : Nat) : Option Int × Int := if 5 ≤ i ∧ o = true then (none, 0) else takeA (fld xs (nAt i) (nSz i))
def lstD (xs : List Int) (o : Bool) (i : Nat) : List Int := (List.range i).map fun j => (numD xs o j).2
theorem lstD_len (xs : List Int) (o : Bool) (i : Nat) : (lstD xs o i).length = i := by simp [lstD]
theorem lstD_succ (xs : List Int) (o : Bool) (i : Nat) : lstD xs o (i + 1) = lstD xs o i ++ [(numD xs o i).2] := by simp [lstD, List.range_succ]
theorem info_i64 : (Tryd.prog.info? 3).map (fun i => (i.zero, i.size, i.bytes)) = some (some (.int .i64 0), 1, 8) := by kernel_rfl
theorem quiet_dd {f : FuncId} {args : Array Value} {w : World} {n : Nat} {v : Value} (h : Calls Tryd.prog f args (w.drewN n) fun e w' => e = .returned v ∧ Drawn0 (w.drewN n) w') :
    Calls Tryd.prog f args (w.drewN n) fun e w' => e = .returned v ∧ ∃ m, w' = w.drewN m :=
  Calls.quiet_of (h.mono fun _ _ k => ⟨k.1, k.2.out⟩)
def mk0 (o : Bool) : Int := if o then 0 else 117
def placesV : Array Value := #[.int .i64 100, .int .i64 108, .int .i64 116, .int .i64 124, .int .i64 136, .int .i64 329, .int .i64 337]
def sizesV : Array Value := #[.int .i64 8, .int .i64 8, .int .i64 8, .int .i64 12, .int .i64 12, .int .i64 8, .int .i64 8]
def headK (xs : List Int) : Hd := { head0 xs with ki := if xs.getD 156 0 = 0 then 48 else xs.getD 156 0 }
theorem numD_some {xs : List Int} {o : Bool} {i : Nat} {e x : Int} (h : numD xs o i = (some e, x)) : ¬ (5 ≤ i ∧ o = true) ∧ takeA (fld xs (nAt i) (nSz i)) = (some e, x) := by
  unfold numD at h
  by_cases hc : 5 ≤ i ∧ o = true
  · rw [if_pos hc] at h; cases h
  · rw [if_neg hc] at h; exact ⟨hc, h⟩
theorem numD_low {xs : List Int} {o : Bool} {i : Nat} (h : i < nNum o) : numD xs o i = takeA (fld xs (nAt i) (nSz i)) := by
  unfold numD
  rw [if_neg (fun hc => by rw [hc.2] at h; have h : i < 5 := h; omega)]
theorem numD_err_go (xs : List Int) (o : Bool) (i : Nat) (hi : i < nNum o) {e x : Int} (he : numD xs o i = (some e, x)) (hj : ∀ j, j < i → (numD xs o j).1 = none) : ∀ (k : Nat) (j : Nat) (h0 : Hd), j + k = i → takeNs xs (nNum o) (nNum o - j) h0 = (some e, zero)
  | 0, j, h0, hk => by
    obtain rfl : j = i := by omega
    obtain ⟨m, hm⟩ : ∃ m, nNum o - j = m + 1 := ⟨nNum o - j - 1, by omega⟩
    rw [hm, takeNs_step, show nNum o - (m + 1) = j by omega, ← numD_low hi, he]
  | k + 1, j, h0, hk => by
    obtain ⟨m, hm⟩ : ∃ m, nNum o - j = m + 1 := ⟨nNum o - j - 1, by omega⟩
    have hjj := hj j (by omega)
    rw [hm, takeNs_step, show nNum o - (m + 1) = j by omega, ← numD_low (o := o) (i := j) (by omega)]
    generalize hq : numD xs o j = q at hjj
    obtain ⟨a, b⟩ := q
    have hjj : a = none := hjj
    subst hjj
    have := numD_err_go xs o i hi he hj k (j + 1) (h0.setNum j b) (by omega)
    rwa [show nNum o - (j + 1) = m by omega] at this
theorem numD_err (xs : List Int) (o : Bool) (i : Nat) (hi : i < 7) (hj : ∀ j, j < i → (numD xs o j).1 = none) {e x : Int} (he : numD xs o i = (some e, x)) : mainH xs o = (some e, zero) := by
  have hn : i < nNum o := by
    have := (numD_some he).1
    cases o with
    | true => show i < 5; by_cases h : 5 ≤ i
              · exact absurd ⟨h, rfl⟩ this
              · omega
    | false => exact hi
  have := numD_err_go xs o i hn he hj i 0 (head1 xs o) (by omega)
  rw [Nat.sub_zero] at this
  exact mainH_err this
/-- A head with all its numbers. -/
def docN (h : Hd) (x : Nat → Int) : Hd := { h with mo := x 0, ui := x 1, gi := x 2, si := x 3, ti := x 4, ma := x 5, mi := x 6 }
theorem numD_all (xs : List Int) (o : Bool) (hj : ∀ j, j < 7 → (numD xs o j).1 = none) : mainH xs o = (none, endH xs (docN (head1 xs o) fun j => (numD xs o j).2)) := by
  have hp : ∀ j, j < 7 → numD xs o j = (none, (numD xs o j).2) := fun j h => by
    have := hj j h
    generalize numD xs o j = t at *
    obtain ⟨a, b⟩ := t
    cases this
    rfl
  refine mainH_ok ?_
  cases o with
  | false =>
    show takeNs xs 7 7 _ = _
    rw [takeNs_step, ← numD_low (o := false) (by decide), hp _ (by decide)]
    show takeNs xs 7 6 _ = _
    rw [takeNs_step, ← numD_low (o := false) (by decide), hp _ (by decide)]
    show takeNs xs 7 5 _ = _
    rw [takeNs_step, ← numD_low (o := false) (by decide), hp _ (by decide)]
    show takeNs xs 7 4 _ = _
    rw [takeNs_step, ← numD_low (o := false) (by decide), hp _ (by decide)]
    show takeNs xs 7 3 _ = _
    rw [takeNs_step, ← numD_low (o := false) (by decide), hp _ (by decide)]
    show takeNs xs 7 2 _ = _
    rw [takeNs_step, ← numD_low (o := false) (by decide), hp _ (by decide)]
    show takeNs xs 7 1 _ = _
    rw [takeNs_step, ← numD_low (o := false) (by decide), hp _ (by decide)]
    rfl
  | true =>
    show takeNs xs 5 5 _ = _
    rw [takeNs_step, ← numD_low (o := true) (by decide), hp _ (by decide)]
    show takeNs xs 5 4 _ = _
    rw [takeNs_step, ← numD_low (o := true) (by decide), hp _ (by decide)]
    show takeNs xs 5 3 _ = _
    rw [takeNs_step, ← numD_low (o := true) (by decide), hp _ (by decide)]
    show takeNs xs 5 2 _ = _
    rw [takeNs_step, ← numD_low (o := true) (by decide), hp _ (by decide)]
    show takeNs xs 5 1 _ = _
    rw [takeNs_step, ← numD_low (o := true) (by decide), hp _ (by decide)]
    rfl
/-- What stands while the numbers are read. -/
structure DT (w : World) (base g o0 c gh gp gs : Nat) (xs : List Int) (v8 : Value) (l : List Int) (wr : World) : Prop where
  row : wr.ownsRow base 3 1 v8 l.length (nums .i64 l)
  bel : Below w.heap.size w wr
  np : v8.ownBlock ≠ some gp ∧ v8.ownBlock ≠ some gs
  pl : wr.heap[gp]? = some (.cells placesV 3 (0, 0))
  sz : wr.heap[gs]? = some (.cells sizesV 3 (0, 0))
  box : DBox wr gh (headK xs)
  res : DBox wr w.heap.size zero
  inp : Inp wr g o0 c xs
  hb : base ≤ wr.heap.size ∧ g < base ∧ w.heap.size < base
theorem DT.drewN {w : World} {base g o0 c gh gp gs : Nat} {xs l : List Int} {v8 : Value} {wr : World} (t : DT w base g o0 c gh gp gs xs v8 l wr) (n : Nat) : DT w base g o0 c gh gp gs xs v8 l (wr.drewN n) :=
  ⟨t.row, pw_below_drewN t.bel n, t.np, t.pl, t.sz, t.box.drewN n, t.res.drewN n, t.inp.below (pw_below_drewN (Below.refl _ _) n), t.hb⟩
theorem DT.push {w : World} {base g o0 c gh gp gs : Nat} {xs l : List Int} {v8 v1 : Value} {wr w1 : World} (t : DT w base g o0 c gh gp gs xs v8 l wr) {x : Int} (ho : w1.ownsRow base 3 1 v1 (l ++ [x]).length (nums .i64 (l ++ [x]))) (hg : wr.grownBy w1 v8.ownBlock) (hat : v1.ownBlock = v8.ownBlock ∨ ∃ b, v1.ownBlock = some b ∧ wr.heap.size ≤ b) : DT w base g o0 c gh gp gs xs v1 (l ++ [x]) w1 := by
  have hp := blk_lt t.pl
  have hs := blk_lt t.sz
  have h8 : ∀ k, v8.ownBlock = some k → base ≤ k := by
    intro k hk
    rcases t.row.2 with ⟨rfl, _⟩ | ⟨g', cap, cur, rfl, hb, hh, _⟩
    · cases hk
    · have : g' = k := by simpa [Value.ownBlock] using hk
      omega
  have hb := t.hb
  refine ⟨ho, t.bel.grown hg t.bel.size (fun i hi => by have := h8 i hi; omega), ⟨fun e => ?_, fun e => ?_⟩, blk_grown t.pl hg (fun e => t.np.1 e.symm), blk_grown t.sz hg (fun e => t.np.2 e.symm), t.box.grown hg (own_ne t.row t.box.out (by decide)), t.res.grown hg (own_ne t.row t.res.out (by decide)), t.inp.grown hg (fun e => by have := h8 _ e.symm; omega), by have := hg.size; omega⟩
  · rcases hat with h | ⟨b, h, hbb⟩
    · exact t.np.1 (h ▸ e)
    · rw [h] at e; cases e; omega
  · rcases hat with h | ⟨b, h, hbb⟩
    · exact t.np.2 (h ▸ e)
    · rw [h] at e; cases e; omega
theorem DT.cells7 {w : World} {base g o0 c gh gp gs : Nat} {xs : List Int} {o : Bool} {v8 : Value} {wr : World} (t : DT w base g o0 c gh gp gs xs v8 (lstD xs o 7) wr) : ∃ g8 c8, v8 = .slice (some ⟨g8, 0, none⟩) 7 c8 ∧ g8 ≠ gh ∧ 7 ≤ c8 ∧ ∀ j, j < 7 → wr.cell? ⟨g8, j, none⟩ = some (.int .i64 (numD xs o j).2) := by
  have h := t.row
  have hne := own_ne h t.box.out (by decide)
  rw [lstD_len] at h
  obtain ⟨g8, cap, hv, _, hlt⟩ := h.form (by decide)
  subst hv
  refine ⟨g8, cap, rfl, fun e => hne (by rw [← e]; rfl), own_le h, fun j hj => ?_⟩
  have := h.cells (g := g8) rfl j (.int .i64 (numD xs o j).2) (by simp [nums, lstD, hj])
  rwa [add_plain] at this
theorem dopen {w2 : World} {gh : Nat} {h : Hd} {G : Prop} (k : DBox w2 gh h) (f : w2.cell? ⟨gh, 8, none⟩ = some (.string h.us) → w2.cell? ⟨gh, 9, none⟩ = some (.string h.gr) → w2.frozen? ⟨gh, 8, none⟩ = false → w2.frozen? ⟨gh, 9, none⟩ = false → G) : G :=
  f ((blk_cell k.out 8).trans rfl) ((blk_cell k.out 9).trans rfl) (blk_frozen k.out 8) (blk_frozen k.out 9)
/-- What stands behind so many pieces of a code. -/
def sndN : Nat → Code → Code
  | 0, c => c
  | n + 1, .seq _ b => sndN n b
  | _, c => c
set_option maxHeartbeats 40000000 in
theorem dtake_tail2 (w : World) (g o0 c n : Nat) (xs : List Int) (o bf : Bool) (mk : ByteArray) (gl gh gp gs : Nat) (u8 : Value) (wr : World) (s1 s3 s4 s5 s9 s10 s11 s12 s13 s14 s15 s16 s17 s18 s19 s20 s21 s22 s23 s24 s25 s26 s27 s28 s29 s30 s31 s32 s33 s34 s35 s36 s37 s38 s39 s40 s41 s42 s43 s44 s45 s46 s47 s48 s49 s50 s51 s52 s53 s54 s55 s56 s57 s58 s59 s60 s61 s62 s63 s64 s65 s66 s67 s68 s69 s70 s71 s72 s73 s74 s75 s76 s77 s78 s79 s80 s81 s82 s83 s84 s85 s86 s87 s88 s89 s90 s91 s92 s93 s94 s95 s96 s97 s98 s99 s100 s101 s102 s103 s104 s105 s106 s107 s108 s109 s110 s111 s112 s113 s114 s115 s116 s117 s118 s119 s120 s121 s122 s123 s124 s125 s126 s127 s128 s129 s130 s131 s132 s133 s134 s135 s136 s137 s138 s139 s140 s141 s142 s143 s144 s145 s146 s147 s148 s149 s150 s151 s152 s153 s154 s155 s156 s157 s158 s159 s160 : Value)
    (HBf : Aside0 (bf = decide (fld xs 257 6 = fresh))) (HL : Aside0 (512 ≤ xs.length ∧ xs.length ≤ c ∧ xs.length ≤ 1000000 ∧ c ≤ 9223372036854775807))
    (HIx : Aside0 (∀ W, (Instr.index 9 (.string mk) (.int .i64 0)).run Tryd.prog W = .ok (.int .u8 (mk0 o)) W)) (E1 : Aside0 ((mk.toList == [117, 115, 116, 97, 114, 0]) = bf)) (HLh : Aside0 (g ≠ gh ∧ w.heap.size ≠ gh ∧ w.heap.size ≤ gh))
    (HJ : Aside0 (∀ j, j < 7 → (numD xs o j).1 = none)) (HTr : Aside0 (DT w gl g o0 c gh gp gs xs u8 (lstD xs o 7) wr)) :
    Code.wp Tryd.prog (sndN 10 (Tryd.f17.body.getD .skip)) (bodyPost Tryd.prog Tryd.f17 (fun e w' => e = .returned (.tuple #[.agg (hv (mainH xs o).2), .int .i64 (docE (mainH xs o).1)]) ∧ Below w.heap.size w w')) ⟨(List.toArray ((.slice (some ⟨g, o0, none⟩) n c) :: s1 :: (.pointer (some ⟨w.heap.size, 0, none⟩)) :: s3 :: s4 :: s5 :: (.string mk) :: (.pointer (some ⟨gh, 0, none⟩)) :: (u8) :: s9 :: s10 :: s11 :: s12 :: s13 :: s14 :: s15 :: s16 :: s17 :: s18 :: s19 :: s20 :: s21 :: s22 :: s23 :: s24 :: s25 :: s26 :: s27 :: s28 :: s29 :: s30 :: s31 :: s32 :: s33 :: s34 :: s35 :: s36 :: s37 :: s38 :: s39 :: s40 :: s41 :: s42 :: s43 :: s44 :: s45 :: s46 :: s47 :: s48 :: s49 :: s50 :: s51 :: s52 :: s53 :: s54 :: s55 :: s56 :: s57 :: s58 :: s59 :: s60 :: s61 :: s62 :: s63 :: s64 :: s65 :: s66 :: s67 :: s68 :: s69 :: s70 :: s71 :: s72 :: s73 :: s74 :: s75 :: s76 :: s77 :: s78 :: s79 :: s80 :: s81 :: s82 :: s83 :: s84 :: s85 :: s86 :: s87 :: s88 :: s89 :: s90 :: s91 :: s92 :: s93 :: s94 :: s95 :: s96 :: s97 :: s98 :: s99 :: s100 :: s101 :: s102 :: s103 :: s104 :: s105 :: s106 :: s107 :: s108 :: s109 :: s110 :: s111 :: s112 :: s113 :: s114 :: s115 :: s116 :: s117 :: s118 :: s119 :: s120 :: s121 :: s122 :: s123 :: s124 :: s125 :: s126 :: s127 :: s128 :: s129 :: s130 :: s131 :: s132 :: s133 :: s134 :: s135 :: s136 :: s137 :: s138 :: s139 :: s140 :: s141 :: s142 :: s143 :: s144 :: s145 :: s146 :: s147 :: s148 :: s149 :: s150 :: s151 :: s152 :: s153 :: s154 :: s155 :: s156 :: s157 :: s158 :: s159 :: s160 :: [])), []⟩ wr := by
  have hcap : (512 : Int) ≤ (c : Int) := by have := HL.out; omega
  obtain ⟨g8, c8, rfl, hg8, hc8, hcell⟩ := HTr.out.cells7
  have hM : mainH xs o = (none, endH xs { head1 xs o with mo := (numD xs o 0).2, ui := (numD xs o 1).2, gi := (numD xs o 2).2, si := (numD xs o 3).2, ti := (numD xs o 4).2, ma := (numD xs o 5).2, mi := (numD xs o 6).2 }) := numD_all xs o HJ.out
  have HM := Aside0.mk hM
  have HC8 : Aside0 (∀ w', wr.grownBy w' (some gh) → w'.cell? ⟨g8, 0, none⟩ = some (.int .i64 (numD xs o 0).2) ∧ w'.cell? ⟨g8, 1, none⟩ = some (.int .i64 (numD xs o 1).2) ∧ w'.cell? ⟨g8, 2, none⟩ = some (.int .i64 (numD xs o 2).2) ∧ w'.cell? ⟨g8, 3, none⟩ = some (.int .i64 (numD xs o 3).2) ∧ w'.cell? ⟨g8, 4, none⟩ = some (.int .i64 (numD xs o 4).2) ∧ w'.cell? ⟨g8, 5, none⟩ = some (.int .i64 (numD xs o 5).2) ∧ w'.cell? ⟨g8, 6, none⟩ = some (.int .i64 (numD xs o 6).2)) := ⟨fun w' hg => ⟨keep_cell hg (hcell 0 (by decide)) (by simpa using hg8), keep_cell hg (hcell 1 (by decide)) (by simpa using hg8), keep_cell hg (hcell 2 (by decide)) (by simpa using hg8), keep_cell hg (hcell 3 (by decide)) (by simpa using hg8), keep_cell hg (hcell 4 (by decide)) (by simpa using hg8), keep_cell hg (hcell 5 (by decide)) (by simpa using hg8), keep_cell hg (hcell 6 (by decide)) (by simpa using hg8)⟩⟩
  have HWr : Aside0 (Inp wr g o0 c xs ∧ DBox wr w.heap.size zero ∧ Below w.heap.size w wr ∧ DBox wr gh (headK xs) ∧ g ≠ gh ∧ w.heap.size ≠ gh ∧ w.heap.size ≤ gh) := ⟨HTr.out.inp, HTr.out.res, HTr.out.bel, HTr.out.box, HLh.out.1, HLh.out.2.1, HLh.out.2.2⟩
  clear hM hcell HTr HJ
  generalize (numD xs o 0).2 = y0 at *
  generalize (numD xs o 1).2 = y1 at *
  generalize (numD xs o 2).2 = y2 at *
  generalize (numD xs o 3).2 = y3 at *
  generalize (numD xs o 4).2 = y4 at *
  generalize (numD xs o 5).2 = y5 at *
  generalize (numD xs o 6).2 = y6 at *
  have hc8' : (7 : Int) ≤ (c8 : Int) := by omega
  conv => arg 2; whnf
  go_upto_region 23 with fail
  go_cut [] (fun wx => Aside0 (DBox wx gh { headK xs with mo := y0, ui := y1, gi := y2, si := y3, ti := y4, ma := y5, mi := y6 }) ∧ Aside0 (wr.grownBy wx (some gh)))
  case first =>
    -- DEV{e
    obtain ⟨c0, c1, c2, c3, c4, c5, c6, c7, c8, c9, c10, c11⟩ := HWr.out.2.2.2.1.all'
    obtain ⟨f0, f1, f2, f3, f4, f5, f6, f7, f8, f9, f10, f11⟩ := HWr.out.2.2.2.1.frz
    clear c0 c6 c7 c8 c9 f0 f6 f7 f8 f9
    go_region_held3 (fun w' => w'.cell? ⟨g8, 0, none⟩ = some (.int .i64 y0) ∧ w'.cell? ⟨g8, 1, none⟩ = some (.int .i64 y1) ∧ w'.cell? ⟨g8, 2, none⟩ = some (.int .i64 y2) ∧ w'.cell? ⟨g8, 3, none⟩ = some (.int .i64 y3) ∧ w'.cell? ⟨g8, 4, none⟩ = some (.int .i64 y4) ∧ w'.cell? ⟨g8, 5, none⟩ = some (.int .i64 y5) ∧ w'.cell? ⟨g8, 6, none⟩ = some (.int .i64 y6)) ((refine HC8.out _ ?_; repeat (first | (with_reducible exact grown_refl _ _) | (with_reducible refine grown_drew ?_) | (with_reducible refine grown_trans ?_ (grown_set _ _ _ _))))) (fail)
    go_wp2_with fail
    go_meet
    case rel =>
      refine ⟨⟨?_⟩, ⟨?_⟩⟩
      · exact (dbox_set (dbox_set (dbox_set (dbox_set (dbox_set (dbox_set (dbox_set HWr.out.2.2.2.1 1 (.int .i64 y0) { headK xs with mo := y0 } rfl) 2 (.int .i64 y1) { headK xs with mo := y0, ui := y1 } rfl) 3 (.int .i64 y2) { headK xs with mo := y0, ui := y1, gi := y2 } rfl) 4 (.int .i64 y3) { headK xs with mo := y0, ui := y1, gi := y2, si := y3 } rfl) 5 (.int .i64 y4) { headK xs with mo := y0, ui := y1, gi := y2, si := y3, ti := y4 } rfl) 10 (.int .i64 y5) { headK xs with mo := y0, ui := y1, gi := y2, si := y3, ti := y4, ma := y5 } rfl) 11 (.int .i64 y6) _ rfl).drew
      · exact grown_drew (grown_trans (grown_trans (grown_trans (grown_trans (grown_trans (grown_trans (grown_set _ _ _ _) (grown_set _ _ _ _)) (grown_set _ _ _ _)) (grown_set _ _ _ _)) (grown_set _ _ _ _)) (grown_set _ _ _ _)) (grown_set _ _ _ _))
    -- DEV}e
  case rest =>
    obtain ⟨HX1, HG1⟩ := hcut
    have HK1 : Aside0 (∀ w', wr.grownBy w' (some gh) → Inp w' g o0 c xs ∧ DBox w' w.heap.size zero ∧ Below w.heap.size w w') := ⟨fun w' hg => ⟨HWr.out.1.grown hg (by simpa using HWr.out.2.2.2.2.1), HWr.out.2.1.grown hg (by simpa using HWr.out.2.2.2.2.2.1), HWr.out.2.2.1.grown hg HWr.out.2.2.1.size (fun k hk => by cases hk; exact HWr.out.2.2.2.2.2.2)⟩⟩
    clear HC8 hc8 hc8' hg8 HWr
    obtain ⟨h1, hh1⟩ : ∃ h1 : Hd, h1 = { headK xs with mo := y0, ui := y1, gi := y2, si := y3, ti := y4, ma := y5, mi := y6 } := ⟨_, rfl⟩
    rw [← hh1] at HX1
    have HH1 := Aside0.mk hh1
    clear hh1
    have hix := HIx.out
    have hmk : (mk0 o != 0) = !o := by cases o <;> rfl
    generalize mk0 o = m0 at *
    go_upto_if 136 with fail
    clear hix hmk
    go_cut [] (fun wx => Aside0 (DBox wx gh { h1 with us := if o then h1.us else textOf (fld xs 265 32), gr := if o then h1.gr else textOf (fld xs 297 32) }) ∧ Aside0 (wr.grownBy wx (some gh)))
    case first =>
      -- DEV{f
      cases o with
      | true =>
        go_wp2_with fail
        go_meet
        case rel => exact ⟨HX1, HG1⟩
      | false =>
        have hsu : ∀ W, (Instr.slice 26 (.slice (some ⟨g, o0, none⟩) n c) (some (.int .i64 265)) (some (.int .i64 297)) none).run Tryd.prog W = .ok (.slice (some ⟨g, o0 + 265, none⟩) 32 (c - 265)) W := slice_in g o0 n c 265 297 32 (o0 + 265) (by omega) (by have := HL.out; omega) (by have := HL.out; omega) HL.out.2.2.2 rfl rfl
        have hsg : ∀ W, (Instr.slice 26 (.slice (some ⟨g, o0, none⟩) n c) (some (.int .i64 297)) (some (.int .i64 329)) none).run Tryd.prog W = .ok (.slice (some ⟨g, o0 + 297, none⟩) 32 (c - 297)) W := slice_in g o0 n c 297 329 32 (o0 + 297) (by omega) (by have := HL.out; omega) (by have := HL.out; omega) HL.out.2.2.2 rfl rfl
        go_upto_region 25 with fail
        have HInp : Aside0 (∀ w', Below wc.heap.size wc w' → Inp w' g o0 c xs) := ⟨fun w' hb => (HK1.out w' (grown_trans HG1.out (grown_below hb _))).1⟩
        have HT0 : Aside0 (∀ w', Below wc.heap.size wc w' → Calls Tryd.prog 39 #[.slice (some ⟨g, o0 + 265, none⟩) 32 (c - 265)] w' fun e w'' => e = .returned (.string (textOf (fld xs 265 32))) ∧ Below wc.heap.size wc w'') := ⟨fun w' hb => (dtext_calls w' _ 32 _ _ ((HInp.out _ hb).fld 265 32 (by omega)) (by omega)).mono fun _ _ k => by
          obtain ⟨m, hm⟩ := k.2.out
          have q := pw_below_drewN (Below.refl w'.heap.size w') m
          rw [← hm] at q
          exact ⟨k.1, hb.trans (q.mono hb.size)⟩⟩
        have HT1 : Aside0 (∀ w', Below wc.heap.size wc w' → Calls Tryd.prog 39 #[.slice (some ⟨g, o0 + 297, none⟩) 32 (c - 297)] w' fun e w'' => e = .returned (.string (textOf (fld xs 297 32))) ∧ Below wc.heap.size wc w'' ∧ DBox w'' gh h1) := ⟨fun w' hb => (dtext_calls w' _ 32 _ _ ((HInp.out _ hb).fld 297 32 (by omega)) (by omega)).mono fun _ _ k => by
          obtain ⟨m, hm⟩ := k.2.out
          have q := pw_below_drewN (Below.refl w'.heap.size w') m
          rw [← hm] at q
          have q2 := hb.trans (q.mono hb.size)
          exact ⟨k.1, q2, HX1.out.below q2⟩⟩
        have hQ0 : Below wc.heap.size wc wc.drew := (Below.refl _ _).drew
        generalize textOf (fld xs 265 32) = tu at *
        generalize textOf (fld xs 297 32) = tg at *
        go_region_held3 (fun w' => True) ((trivial))
          (first
            | (go_at_call 39; (with_reducible refine (HT0.out _ ?_).mono ?_); (with_reducible assumption); rintro e w4 ⟨rfl, q3⟩)
            | (go_at_call 39; (with_reducible refine (HT1.out _ ?_).mono ?_); (with_reducible assumption); rintro e w4 ⟨rfl, q3, bx⟩; refine dopen bx ?_; rintro k8 k9 f8 f9)
            | fail)
        go_wp2_with fail
        go_meet
        case rel =>
          refine ⟨⟨dbox_set (dbox_set bx 8 (.string tu) { h1 with us := tu } rfl) 9 (.string tg) _ rfl⟩, ⟨grown_trans (grown_trans (grown_trans HG1.out (grown_below q3 _)) (grown_set _ _ _ _)) (grown_set _ _ _ _)⟩⟩
      -- DEV}f
    case rest =>
      obtain ⟨HX2, HG2⟩ := hcut
      clear HX1 HG1
      obtain ⟨h2, hh2⟩ : ∃ h2 : Hd, h2 = { h1 with us := if o then h1.us else textOf (fld xs 265 32), gr := if o then h1.gr else textOf (fld xs 297 32) } := ⟨_, rfl⟩
      rw [← hh2] at HX2
      have hnm : h2.nm.size ≤ 100 := by
        rw [hh2, HH1.out]
        show (textOf (fld xs 0 100)).size ≤ 100
        have := textOf_size (fld xs 0 100)
        have := fld_le xs 0 100
        omega
      have hMf : mainH xs o = (none, { h2 with nm := if bf = true ∧ (textOf (fld xs 345 155)).size ≠ 0 then joinN (textOf (fld xs 345 155)) h2.nm else h2.nm }) := by
        rw [HM.out, hh2, HH1.out]
        have e : (fld xs 257 6 = fresh) ↔ (bf = true) := by rw [HBf.out]; simp
        cases o <;> simp only [endH, e] <;> rfl
      have HMf := Aside0.mk hMf
      have hnm' : (h2.nm.size : Int) ≤ 100 := by omega
      have hsz := textOf_size (fld xs 345 155)
      have hsz2 := fld_le xs 345 155
      have hsz3 : ((textOf (fld xs 345 155)).size : Int) ≤ 155 := by omega
      have hsf : ∀ W, (Instr.slice 26 (.slice (some ⟨g, o0, none⟩) n c) (some (.int .i64 345)) (some (.int .i64 500)) none).run Tryd.prog W = .ok (.slice (some ⟨g, o0 + 345, none⟩) 155 (c - 345)) W := slice_in g o0 n c 345 500 155 (o0 + 345) (by omega) (by have := HL.out; omega) (by have := HL.out; omega) HL.out.2.2.2 rfl rfl
      have HTx := Aside0.mk (dtext_calls wc _ 155 _ _ ((HK1.out wc HG2.out).1.fld 345 155 (by omega)) (by omega))
      clear hh2 hMf HM HH1 hnm hsz hsz2
      generalize textOf (fld xs 345 155) = ah at *
      go_upto_region 27 with (go_at_call 39; (with_reducible refine HTx.out.mono ?_); rintro e w6 ⟨rfl, ⟨k6, rfl⟩⟩)
      have HX6 := Aside0.mk (HX2.out.drewN k6)
      have HG6 := Aside0.mk (grown_drewN HG2.out k6)
      clear HX2 HG2 hsf HTx
      generalize wc.drewN k6 = w6 at *
      have k0 : w6.cell? ⟨gh, 0, none⟩ = some (.string h2.nm) := (blk_cell HX6.out.out 0).trans rfl
      have g0 := blk_frozen HX6.out.out 0
      have e1 := E1.out
      obtain ⟨b, hb⟩ : ∃ b, b = (bf && decide (ah.size ≠ 0)) := ⟨_, rfl⟩
      have HBb := Aside0.mk hb
      clear hb
      go_cut [153] (fun v153 wx => v153 = .bool b ∧ wx = w6)
      case first =>
        have hb := HBb.out
        clear k0 g0
        cases bf with
        | false =>
          subst hb
          go_wp2_with fail
          go_meet
          case rel => exact ⟨rfl, rfl⟩
        | true =>
          by_cases hz : ah.size = 0
          · have hE : ah = ⟨#[]⟩ := by
              obtain ⟨⟨l⟩⟩ := ah
              have : l = [] := List.eq_nil_of_length_eq_zero hz
              rw [this]
            have hb2 : b = false := by rw [hb]; simp [hz]
            subst hE
            subst hb2
            clear hz hb
            go_wp2_with fail
            go_meet
            case rel => exact ⟨rfl, rfl⟩
          · have hne : (ah.toList == []) = false := by
              rw [ByteArray.toList_eq]
              refine beq_eq_false_iff_ne.2 (fun h => hz ?_)
              have := congrArg List.length h
              simpa using this
            have hne2 : ah.toList.isEmpty = false := by
              cases hh : ah.toList with
              | nil => rw [hh] at hne; cases hne
              | cons a b => rfl
            have hb2 : b = true := by rw [hb]; simp [hz]
            subst hb2
            clear hz hb
            go_wp2_with fail
            go_meet
            case rel => exact ⟨rfl, rfl⟩
      case rest =>
      obtain ⟨rfl, rfl⟩ := hcut
      have HBi : Aside0 ((if bf = true ∧ ah.size ≠ 0 then joinN ah h2.nm else h2.nm) = if b then joinN ah h2.nm else h2.nm) := ⟨by
        rw [HBb.out]
        cases bf <;> simp⟩
      rw [HBi.out] at HMf
      clear HBb e1
      go_upto_if 153 with fail
      go_cut [] (fun wx => Aside0 (DBox wx gh { h2 with nm := if b then joinN ah h2.nm else h2.nm }) ∧ Aside0 (wr.grownBy wx (some gh)))
      case first =>
        cases b with
        | false =>
          clear k0 g0
          go_wp2_with fail
          go_meet
          case rel => exact ⟨HX6, HG6⟩
        | true =>
          go_wp2_with fail
          go_meet
          case rel => exact ⟨⟨by rw [← join_eq]; exact dbox_set HX6.out 0 _ _ rfl⟩, ⟨grown_trans HG6.out (grown_set _ _ _ _)⟩⟩
      case rest =>
        obtain ⟨HX7, HG7⟩ := hcut
        -- DEV{g
        clear k0 g0 HX6 HG6 HBi
        obtain ⟨h3, hh3⟩ : ∃ h3 : Hd, h3 = { h2 with nm := if b then joinN ah h2.nm else h2.nm } := ⟨_, rfl⟩
        rw [← hh3] at HX7 HMf
        clear hh3
        have HZ := Aside0.mk (HK1.out _ HG7.out)
        obtain ⟨c0, c1, c2, c3, c4, c5, c6, c7, c8, c9, c10, c11⟩ := HX7.out.all'
        obtain ⟨d0, d1, d2, d3, d4, d5, d6, d7, d8, d9, d10, d11⟩ := HZ.out.2.1.all'
        obtain ⟨f0, f1, f2, f3, f4, f5, f6, f7, f8, f9, f10, f11⟩ := HZ.out.2.1.frz
        go_wp2_with fail
        obtain ⟨q1, q2⟩ := dset12_box HZ.out.2.1 h3
        change bodyPost _ _ _ _ _ (set12 wc w.heap.size h3)
        generalize set12 wc w.heap.size h3 = w9 at *
        clear c0 d0 f0 c1 d1 f1 c2 d2 f2 c3 d3 f3 c4 d4 f4 c5 d5 f5 c6 d6 f6 c7 d7 f7 c8 d8 f8 c9 d9 f9 c10 d10 f10 c11 d11 f11
        obtain ⟨c0, c1, c2, c3, c4, c5, c6, c7, c8, c9, c10, c11⟩ := q1.all'
        refine bodyPost_ret (v := .tuple #[.agg (hv h3), .int .i64 0]) (by simp [results, Tryd.results17, go_sem, c0, c1, c2, c3, c4, c5, c6, c7, c8, c9, c10, c11]; rfl) rfl ⟨by rw [HMf.out]; rfl, ?_⟩
        exact HZ.out.2.2.grown q2 HZ.out.2.2.size (fun k hk => by cases hk; omega)
        -- DEV}g
end Go.Proofs.YtiioiikcjaiajaaDoor.My

/- The document's Take of a head: from the kind on. -/
set_option maxRecDepth 100000
namespace Go.Proofs.YtiioiikcjaiajaaDoor.My
open Go.RowKit Go.Proofs.YtiioiikcjaiajaaDoor.Hd Go.Proofs.YtiioiikcjaiajaaDoor.Oct Go.Proofs.YtiioiikcjaiajaaDoorW.PrintWords Go.Proofs.YtiioiikcjaiajaaDoorW.PrintLast Go.Proofs.YtiioiikcjaiajaaDoorW.PrintMore Go.Proofs.YtiioiikcjaiajaaDoor.MyDocK Go.Proofs.YtiioiikcjaiajaaDoor.MyDocX Go.Proofs.YtiioiikcjaiajaaDoor.MyDocA
set_option linter.unusedVariables false
set_option linter.unusedSimpArgs false

set_option maxHeartbeats 40000000 in
theorem dtake_tail1 (w : World) (g o0 c n : Nat) (xs : List Int) (o bf : Bool) (mk : ByteArray) (gh : Nat) (wc : World) (kd : Int) (s1 s3 s4 s5 s8 s9 s10 s11 s12 s13 s14 s15 s16 s17 s18 s19 s20 s21 s22 s23 s24 s25 s26 s27 s28 s29 s30 s31 s32 s33 s34 s35 s36 s37 s38 s39 s40 s41 s42 s43 s44 s45 s46 s47 s48 s49 s50 s51 s52 s53 s54 s55 s56 s57 s58 s59 s60 s61 s62 s63 s64 s65 s66 s67 s68 s69 s70 s71 s72 s73 s74 s75 s76 s77 s78 s79 s80 s81 s82 s83 s84 s85 s86 s87 s88 s89 s90 s91 s92 s93 s94 s95 s96 s97 s98 s99 s100 s101 s102 s103 s104 s105 s106 s107 s108 s109 s110 s111 s112 s113 s114 s115 s116 s117 s118 s119 s120 s121 s122 s123 s124 s125 s126 s127 s128 s129 s130 s131 s132 s133 s134 s135 s136 s137 s138 s139 s140 s141 s142 s143 s144 s145 s146 s147 s148 s149 s150 s151 s152 s153 s154 s155 s156 s157 s158 s159 s160 : Value)
    (HBf : Aside0 (bf = decide (fld xs 257 6 = fresh))) (HL : Aside0 (512 ≤ xs.length ∧ xs.length ≤ c ∧ xs.length ≤ 1000000 ∧ c ≤ 9223372036854775807))
    (HIx : Aside0 (∀ W, (Instr.index 9 (.string mk) (.int .i64 0)).run Tryd.prog W = .ok (.int .u8 (mk0 o)) W)) (E1 : Aside0 ((mk.toList == [117, 115, 116, 97, 114, 0]) = bf))
    (HKD : Aside0 (kd = xs.getD 156 0)) (HD1 : Aside0 (Inp wc g o0 c xs ∧ DBox wc w.heap.size zero ∧ Below w.heap.size w wc ∧ g < w.heap.size ∧ w.heap.size < gh)) (HBG : Aside0 (DBox wc gh (head0 xs))) :
    Code.wp Tryd.prog (sndN 6 (Tryd.f17.body.getD .skip)) (bodyPost Tryd.prog Tryd.f17 (fun e w' => e = .returned (.tuple #[.agg (hv (mainH xs o).2), .int .i64 (docE (mainH xs o).1)]) ∧ Below w.heap.size w w')) ⟨(List.toArray ((.slice (some ⟨g, o0, none⟩) n c) :: s1 :: (.pointer (some ⟨w.heap.size, 0, none⟩)) :: s3 :: s4 :: s5 :: (.string mk) :: (.pointer (some ⟨gh, 0, none⟩)) :: s8 :: s9 :: s10 :: s11 :: s12 :: s13 :: s14 :: s15 :: s16 :: s17 :: s18 :: s19 :: s20 :: s21 :: s22 :: s23 :: s24 :: s25 :: s26 :: s27 :: s28 :: s29 :: s30 :: s31 :: s32 :: s33 :: s34 :: s35 :: s36 :: s37 :: s38 :: s39 :: s40 :: s41 :: s42 :: s43 :: s44 :: s45 :: s46 :: s47 :: s48 :: s49 :: s50 :: s51 :: s52 :: s53 :: s54 :: s55 :: s56 :: s57 :: s58 :: s59 :: s60 :: s61 :: s62 :: s63 :: s64 :: s65 :: s66 :: s67 :: s68 :: s69 :: s70 :: s71 :: s72 :: s73 :: s74 :: s75 :: s76 :: s77 :: s78 :: s79 :: s80 :: s81 :: s82 :: s83 :: s84 :: s85 :: s86 :: s87 :: s88 :: s89 :: s90 :: s91 :: s92 :: s93 :: s94 :: s95 :: s96 :: s97 :: s98 :: s99 :: s100 :: s101 :: s102 :: s103 :: s104 :: s105 :: s106 :: s107 :: s108 :: s109 :: s110 :: s111 :: s112 :: s113 :: s114 :: s115 :: s116 :: s117 :: s118 :: s119 :: s120 :: s121 :: s122 :: s123 :: s124 :: s125 :: s126 :: s127 :: s128 :: s129 :: s130 :: s131 :: s132 :: s133 :: s134 :: s135 :: s136 :: s137 :: s138 :: s139 :: s140 :: s141 :: s142 :: s143 :: s144 :: s145 :: s146 :: s147 :: s148 :: s149 :: s150 :: s151 :: s152 :: s153 :: s154 :: s155 :: s156 :: s157 :: s158 :: s159 :: s160 :: [])), []⟩ wc := by
  have hcap : (512 : Int) ≤ (c : Int) := by have := HL.out; omega
  have c6 : wc.cell? ⟨gh, 6, none⟩ = some (.int .u8 kd) := by rw [HKD.out]; exact (blk_cell HBG.out.out 6).trans rfl
  have f6 := blk_frozen HBG.out.out 6
  conv => arg 2; whnf
  go_upto_if 60 with fail
  go_cut [] (fun wx => Aside0 (DBox wx gh (headK xs)) ∧ Aside0 (wc.grownBy wx (some gh)))
  case first =>
    by_cases hk0 : kd = 0
    · have HK0 : Aside0 (xs.getD 156 0 = 0) := ⟨HKD.out ▸ hk0⟩
      subst hk0
      go_wp2_with fail
      go_meet
      case rel =>
        refine ⟨⟨dbox_set HBG.out 6 _ _ ?_⟩, ⟨grown_set _ _ _ _⟩⟩
        unfold headK
        rw [if_pos HK0.out]
        rfl
    · have hkb : (kd == 0) = false := beq_eq_false_iff_ne.2 hk0
      have HK0 : Aside0 (¬ xs.getD 156 0 = 0) := ⟨HKD.out ▸ hk0⟩
      clear hk0
      go_wp2_with fail
      go_meet
      case rel =>
        refine ⟨⟨?_⟩, ⟨grown_refl _ _⟩⟩
        have e : headK xs = head0 xs := by unfold headK; rw [if_neg HK0.out]; rfl
        rw [e]
        exact HBG.out
  case rest =>
    obtain ⟨HBK, HGK⟩ := hcut
    clear c6 f6
    go_upto_region 14 with fail
    rename_i KA aA KB aB
    have HKA := Aside0.mk aA
    clear aA
    obtain ⟨gl, hgl⟩ : ∃ gl, gl = wc.heap.size := ⟨_, rfl⟩
    have HT : Aside0 (DT w gl g o0 c gh (gl + 1) (gl + 1 + 1) xs (.slice (some ⟨gl, 0, none⟩) 0 0) [] (((wc.alloc (.cells #[] 3)).alloc (.cells placesV 3)).alloc (.cells sizesV 3))) := ⟨by
      have i1 : Inp wc g o0 c xs := HD1.out.1.grown HGK.out (by have := HD1.out.2.2.2; simp; omega)
      have r1 : DBox wc w.heap.size zero := HD1.out.2.1.grown HGK.out (by have := HD1.out.2.2.2.2; simp; omega)
      have b1 : Below w.heap.size w wc := HD1.out.2.2.1.grown HGK.out HD1.out.2.2.1.size (fun i hi => by cases hi; have := HD1.out.2.2.2.2; omega)
      have l1 := blk_lt HBK.out.out
      have s0 := alloc_self wc (.cells #[] 3)
      have s1 := alloc_self (wc.alloc (.cells #[] 3)) (.cells placesV 3)
      have s2 := alloc_self ((wc.alloc (.cells #[] 3)).alloc (.cells placesV 3)) (.cells sizesV 3)
      have bel : ∀ B, B ≤ wc.heap.size → Below B wc (((wc.alloc (.cells #[] 3)).alloc (.cells placesV 3)).alloc (.cells sizesV 3)) := fun B hB => (below_alloc (below_alloc (below_alloc (Below.refl wc.heap.size wc) _) _) _).mono hB
      refine ⟨?_, b1.trans (bel _ b1.size), ⟨by simp [Value.ownBlock], by simp [Value.ownBlock]; omega⟩, ?_, ?_, ?_, ?_, ?_, ?_⟩
      · have h0 := own_lit wc gl 3 .i64 [] (by omega) (by decide)
        rw [hgl] at h0 ⊢
        exact own_other (own_other h0 (row := none) (grown_below (below_alloc (Below.refl _ _) _) _) (.inr (by simp [Value.ownBlock]))) (row := none) (grown_below (below_alloc (Below.refl _ _) _) _) (.inr (by simp [Value.ownBlock]))
      · rw [show (wc.alloc (.cells #[] 3)).heap.size = gl + 1 by simp [hgl]] at s1
        exact blk_alloc s1 _
      · rw [show ((wc.alloc (.cells #[] 3)).alloc (.cells placesV 3)).heap.size = gl + 1 + 1 by simp [hgl]] at s2
        exact s2
      · exact HBK.out.below (bel _ (Nat.le_refl _))
      · exact r1.below (bel _ (Nat.le_refl _))
      · exact i1.below (bel _ (Nat.le_refl _))
      · have := HD1.out.2.2.2; simp; omega⟩
    rw [← hgl]
    unfold placesV sizesV at HT
    generalize ((wc.alloc (.cells #[] 3)).alloc (.cells #[.int .i64 100, .int .i64 108, .int .i64 116, .int .i64 124, .int .i64 136, .int .i64 329, .int .i64 337] 3)).alloc (.cells #[.int .i64 8, .int .i64 8, .int .i64 8, .int .i64 12, .int .i64 12, .int .i64 8, .int .i64 8] 3) = wa at *
    obtain ⟨gp, hgp⟩ : ∃ gp, gp = gl + 1 := ⟨_, rfl⟩
    rw [← hgp] at HT ⊢
    obtain ⟨gs, hgs⟩ : ∃ gs, gs = gp + 1 := ⟨_, rfl⟩
    rw [← hgs] at HT ⊢
    have HLh : Aside0 (g ≠ gh ∧ w.heap.size ≠ gh ∧ w.heap.size ≤ gh) := ⟨by have := HD1.out.2.2.2; omega⟩
    clear hgs hgp hgl HBK HGK HBG HD1
    go_wp2_with fail
    go_loopg [8, 11] 7 (fun kq v8 v11 wr => ∃ i : Nat, i ≤ 7 ∧ v11 = .int .i64 i ∧ Aside0 (kq = 7 - i) ∧ Aside0 (∀ j, j < i → (numD xs o j).1 = none) ∧ Aside0 (DT w gl g o0 c gh gp gs xs v8 (lstD xs o i) wr))
    case atStart => exact ⟨0, by omega, rfl, ⟨rfl⟩, ⟨fun j hj => by omega⟩, HT⟩
    case round =>
      obtain ⟨i, hi, rfl, HKq, HJ, HTr⟩ := hrel
      by_cases hlt : i < 7
      · have hlt' : (i : Int) < 7 := by omega
        have hi0 : (0 : Int) ≤ (i : Int) := by omega
        obtain ⟨A8, c8, rfl⟩ : ∃ A c, u8 = Value.slice A i c := by
          obtain ⟨A, c, h⟩ := own_slice HTr.out.row
          rw [lstD_len] at h
          exact ⟨A, c, h⟩
        have HI7 := Aside0.mk hlt
        have hlen8 : (i : Int) ≤ 7 := by omega
        have HPush : Aside0 (∀ (W1 w1 : World) (v1 : Value) (x : Int), (∃ m, W1 = wr.drewN m) → numD xs o i = (none, x) → w1.ownsRow gl 3 1 v1 ((lstD xs o i).length + 1) (nums .i64 (lstD xs o i ++ [x])) → W1.grownBy w1 (Value.slice A8 i c8).ownBlock → (v1.ownBlock = (Value.slice A8 i c8).ownBlock ∨ ∃ b, v1.ownBlock = some b ∧ W1.heap.size ≤ b) → (∀ j, j < i + 1 → (numD xs o j).1 = none) ∧ DT w gl g o0 c gh gp gs xs v1 (lstD xs o (i + 1)) w1) := ⟨fun W1 w1 v1 x hW1 hx ho hg hat => by
          obtain ⟨m, rfl⟩ := hW1
          have t := (HTr.out.drewN m).push (x := x) (by rw [List.length_append, List.length_singleton]; exact ho) hg hat
          rw [lstD_succ, hx]
          refine ⟨fun j hj => ?_, t⟩
          by_cases e : j = i
          · rw [e, hx]
          · exact HJ.out j (by omega)⟩
        have HRow : Aside0 (∀ m, (wr.drewN m).ownsRow gl 3 1 (Value.slice A8 i c8) (lstD xs o i).length (nums .i64 (lstD xs o i)) ∧ Below gl wr (wr.drewN m) ∧ gl ≤ (wr.drewN m).heap.size) := ⟨fun m => ⟨(HTr.out.drewN m).row, pw_below_drewN (Below.refl _ _) m, (HTr.out.drewN m).hb.1⟩⟩
        have HRow0 : Aside0 (wr.ownsRow gl 3 1 (Value.slice A8 i c8) (lstD xs o i).length (nums .i64 (lstD xs o i)) ∧ Below gl wr wr ∧ gl ≤ wr.heap.size) := ⟨HTr.out.row, Below.refl _ _, HTr.out.hb.1⟩
        have hll := lstD_len xs o i
        by_cases hc : 5 ≤ i ∧ o = true
        · obtain ⟨h5, rfl⟩ := hc
          have h5' : (5 : Int) ≤ (i : Int) := by omega
          have hx : numD xs true i = (none, 0) := by unfold numD; rw [if_pos ⟨h5, rfl⟩]
          have HX := Aside0.mk hx
          have hix := HIx.out
          have HLL := Aside0.mk hll
          clear hll hx h5 hlt
          -- DEV{b
          go_wp2_with ((with_reducible refine gate_dst (N := 78) rfl ?_); refine print_append_num (w0 := wr) gl rfl (.tmp 76) (.tmp 77) 68 3 .i64 8 rfl Tryd.underlying68 info_i64 (by decide) _ (lstD xs true i) 0 rfl rfl HRow0.out.1 HRow0.out.2.1 HRow0.out.2.2 (by rw [HLL.out]; omega) ?_)
          intro v1 w1 ho _ hg hat
          obtain ⟨q1, q2⟩ := HPush.out wr w1 v1 0 ⟨0, by rw [World.drewN_zero]⟩ HX.out ho hg hat
          have Q1 := Aside0.mk q1
          have Q2 := Aside0.mk q2
          clear ho hg hat q1 q2
          go_wp2_with fail
          go_roundg (7 - (i + 1))
          case measure => have := HKq.out; omega
          case rel => exact ⟨i + 1, by omega, by go_num, ⟨rfl⟩, Q1, Q2⟩
          -- DEV}b
        · have hx : numD xs o i = takeA (fld xs (nAt i) (nSz i)) := by unfold numD; rw [if_neg hc]
          have hTB := nB i
          obtain ⟨pa, psz⟩ : wr.cell? ⟨gp, i, none⟩ = some (.int .i64 (nAt i)) ∧ wr.cell? ⟨gs, i, none⟩ = some (.int .i64 (nSz i)) := by
            rw [blk_cell HTr.out.pl, blk_cell HTr.out.sz]
            match i, hlt with
            | 0, _ => exact ⟨rfl, rfl⟩
            | 1, _ => exact ⟨rfl, rfl⟩
            | 2, _ => exact ⟨rfl, rfl⟩
            | 3, _ => exact ⟨rfl, rfl⟩
            | 4, _ => exact ⟨rfl, rfl⟩
            | 5, _ => exact ⟨rfl, rfl⟩
            | 6, _ => exact ⟨rfl, rfl⟩
          have hsx : ∀ W, (Instr.slice 26 (.slice (some ⟨g, o0, none⟩) n c) (some (.int .i64 (nAt i))) (some (.int .i64 ((nAt i : Int) + (nSz i : Int)))) none).run Tryd.prog W = .ok (.slice (some ⟨g, o0 + nAt i, none⟩) (nSz i) (c - nAt i)) W := fun W => by
            have hh := slice_in g o0 n c (nAt i) (nAt i + nSz i) (nSz i) (o0 + nAt i) (by omega) (by have := HL.out; omega) (by have := HL.out; omega) HL.out.2.2.2 (by omega) rfl W
            rwa [Int.natCast_add] at hh
          have HTx : Aside0 (∀ m, Calls Tryd.prog 38 #[.slice (some ⟨g, o0 + nAt i, none⟩) (nSz i) (c - nAt i)] (wr.drewN m) fun e w'' => e = .returned (ansD (numD xs o i)) ∧ Drawn0 (wr.drewN m) w'') := ⟨fun m => by
            rw [hx]
            exact dtake_calls _ _ _ _ _ ((HTr.out.drewN m).inp.fld _ _ hTB.1) (by omega)⟩
          have HErr : Aside0 (∀ e x, numD xs o i = (some e, x) → (e != 0) = true ∧ mainH xs o = (some e, zero)) := ⟨fun e x he => ⟨by rcases takeA_err (hx ▸ he) with h | h <;> subst h <;> rfl, numD_err xs o i hlt HJ.out he⟩⟩
          have hge : (0 : Int) ≤ (nAt i : Int) := by omega
          have hse : (nAt i : Int) + (nSz i : Int) ≤ 512 := by omega
          have HLL := Aside0.mk hll
          clear hll
          go_upto_region 17 with fail
          go_cut [75] (fun v75 wx => v75 = .bool false ∧ wx = wr)
          case first =>
            by_cases h5 : 5 ≤ i
            · have h5' : (5 : Int) ≤ (i : Int) := by omega
              have ho : o = false := by
                cases o with
                | true => exact absurd ⟨h5, rfl⟩ hc
                | false => rfl
              have hix := HIx.out
              rw [ho] at hix
              have hix : ∀ W, (Instr.index 9 (.string mk) (.int .i64 0)).run Tryd.prog W = .ok (.int .u8 117) W := hix
              clear hc hx hlt h5 ho
              go_wp2_with fail
              go_meet
              case rel => exact ⟨rfl, rfl⟩
            · have h5' : ¬ (5 : Int) ≤ (i : Int) := by omega
              clear hc hx hlt h5
              go_wp2_with fail
              go_meet
              case rel => exact ⟨rfl, rfl⟩
          case rest =>
            obtain ⟨rfl, rfl⟩ := hcut
            generalize nAt i = a at *
            generalize nSz i = z at *
            clear hc hx hlt hTB
            go_upto_region 19 with fail
            have kw : IntKind.i64.wrap ((a : Int) + (z : Int)) = (a : Int) + (z : Int) := IntWalk.i64_in _ (by omega)
            unfold ansD at HTx
            obtain ⟨t, ht⟩ : ∃ t, t = numD xs o i := ⟨_, rfl⟩
            rw [← ht] at HTx
            have HTt := Aside0.mk ht.symm
            clear ht
            obtain ⟨te, tv⟩ := t
            cases te with
            | none =>
              -- DEV{c
              have HTx : Aside0 (∀ m, Calls Tryd.prog 38 #[.slice (some ⟨g, o0 + a, none⟩) z (c - a)] (wc.drewN m) fun e w'' => e = .returned (.tuple #[.int .i64 tv, .int .i64 0]) ∧ Drawn0 (wc.drewN m) w'') := HTx
              go_quiet ((go_at_call 38; exact quiet_dd (HTx.out _)))
              clear kw pa psz hsx HTx hge hse
              have hr := HRow.out nq
              go_wp2_with ((with_reducible refine gate_dst (N := 105) rfl ?_); refine print_append_num (w0 := wc) gl rfl (.tmp 102) (.tmp 104) 68 3 .i64 8 rfl Tryd.underlying68 info_i64 (by decide) _ (lstD xs o i) tv rfl rfl hr.1 hr.2.1 hr.2.2 (by rw [HLL.out]; omega) ?_)
              intro v1 w1 ho _ hg hat
              obtain ⟨q1, q2⟩ := HPush.out (wc.drewN nq) w1 v1 tv ⟨nq, rfl⟩ HTt.out ho hg hat
              have Q1 := Aside0.mk q1
              have Q2 := Aside0.mk q2
              clear ho hg hat q1 q2 hr
              go_wp2_with fail
              go_roundg (7 - (i + 1))
              case measure => have := HKq.out; omega
              case rel => exact ⟨i + 1, by omega, by go_num, ⟨rfl⟩, Q1, Q2⟩
              -- DEV}c
            | some e =>
              -- DEV{d
              have HTx : Aside0 (∀ m, Calls Tryd.prog 38 #[.slice (some ⟨g, o0 + a, none⟩) z (c - a)] (wc.drewN m) fun e' w'' => e' = .returned (.tuple #[.int .i64 tv, .int .i64 e]) ∧ Drawn0 (wc.drewN m) w'') := HTx
              go_quiet ((go_at_call 38; exact quiet_dd (HTx.out _)))
              obtain ⟨he0, hmm⟩ := HErr.out _ _ HTt.out
              have HMM := Aside0.mk hmm
              have ht := HTr.out.drewN nq
              have HTq := Aside0.mk ht
              obtain ⟨c0, c1, c2, c3, c4, c5, c6, c7, c8, c9, c10, c11⟩ := ht.res.all'
              obtain ⟨f0, f1, f2, f3, f4, f5, f6, f7, f8, f9, f10, f11⟩ := ht.res.frz
              clear kw pa psz hsx HTx hge hse ht hmm
              generalize wc.drewN nq = w6 at *
              go_wp2_with fail
              obtain ⟨q1, q2⟩ := dset12_box HTq.out.res zero
              change bodyPost _ _ _ _ _ (set12 w6 w.heap.size zero)
              generalize set12 w6 w.heap.size zero = w7 at *
              clear c0 f0 c1 f1 c2 f2 c3 f3 c4 f4 c5 f5 c6 f6 c7 f7 c8 f8 c9 f9 c10 f10 c11 f11
              obtain ⟨c0, c1, c2, c3, c4, c5, c6, c7, c8, c9, c10, c11⟩ := q1.all'
              refine bodyPost_ret (v := .tuple #[.agg (hv zero), .int .i64 e]) (by simp [results, Tryd.results17, go_sem, c0, c1, c2, c3, c4, c5, c6, c7, c8, c9, c10, c11]; rfl) rfl ⟨by rw [HMM.out]; rfl, ?_⟩
              exact HTq.out.bel.grown q2 HTq.out.bel.size (fun k hk => by cases hk; omega)
              -- DEV}d
      · have hlt' : ¬ (i : Int) < 7 := by omega
        obtain rfl : i = 7 := by omega
        go_wp2_with fail
        refine HKA.out _ _ ?_
        exact dtake_tail2 w g o0 c n xs o bf mk gl gh gp gs _ wr _ _ _ _ _ _ _ _ _ _ _ _ _ _ _ _ _ _ _ _ _ _ _ _ _ _ _ _ _ _ _ _ _ _ _ _ _ _ _ _ _ _ _ _ _ _ _ _ _ _ _ _ _ _ _ _ _ _ _ _ _ _ _ _ _ _ _ _ _ _ _ _ _ _ _ _ _ _ _ _ _ _ _ _ _ _ _ _ _ _ _ _ _ _ _ _ _ _ _ _ _ _ _ _ _ _ _ _ _ _ _ _ _ _ _ _ _ _ _ _ _ _ _ _ _ _ _ _ _ _ _ _ _ _ _ _ _ _ _ _ _ _ _ _ _ _ _ _ _ _ _ _ _ _ _ _ HBf HL HIx E1 HLh HJ HTr
end Go.Proofs.YtiioiikcjaiajaaDoor.My

/- The document's Take of a head. -/
set_option maxRecDepth 100000
namespace Go.Proofs.YtiioiikcjaiajaaDoor.My
open Go.RowKit Go.Proofs.YtiioiikcjaiajaaDoor.Hd Go.Proofs.YtiioiikcjaiajaaDoor.Oct Go.Proofs.YtiioiikcjaiajaaDoorW.PrintWords Go.Proofs.YtiioiikcjaiajaaDoorW.PrintLast Go.Proofs.YtiioiikcjaiajaaDoorW.PrintMore Go.Proofs.YtiioiikcjaiajaaDoor.MyDocK Go.Proofs.YtiioiikcjaiajaaDoor.MyDocX Go.Proofs.YtiioiikcjaiajaaDoor.MyDocA
set_option linter.unusedVariables false
set_option linter.unusedSimpArgs false

set_option maxHeartbeats 40000000 in
theorem dtake_main (w : World) (g o0 c : Nat) (xs : List Int) (h : Inp w g o0 c xs) (hs : summed xs = true) (hgs : g < w.heap.size) (o : Bool) (ho : o = decide (fld xs 257 6 = old)) (hm : fld xs 257 6 = fresh ∨ fld xs 257 6 = other ∨ fld xs 257 6 = old) :
    Calls Tryd.prog 17 #[.slice (some ⟨g, o0, none⟩) xs.length c] w fun e w' => e = .returned (.tuple #[.agg (hv (mainH xs o).2), .int .i64 (docE (mainH xs o).1)]) ∧ Below w.heap.size w w' := by
  obtain ⟨W, hW⟩ : ∃ W, W = w.alloc (.cells (hv zero) 33) := ⟨_, rfl⟩
  have hBW : Below w.heap.size w W := by rw [hW]; exact below_alloc (Below.refl _ _) _
  have hbox : DBox W w.heap.size zero := by rw [hW]; exact ⟨alloc_self _ _⟩
  have HI := Aside0.mk (h.below hBW)
  have hl := h.len
  have hlen : (512 : Int) ≤ (xs.length : Int) := by omega
  have hcap : (512 : Int) ≤ (c : Int) := by omega
  have HW := Aside0.mk hW
  have HB := Aside0.mk (And.intro hBW (And.intro hbox (And.intro hgs (show w.heap.size < W.heap.size from blk_lt hbox.out))))
  have hzv : hv zero = #[.string ⟨#[]⟩, .int .i64 0, .int .i64 0, .int .i64 0, .int .i64 0, .int .i64 0, .int .u8 0, .string ⟨#[]⟩, .string ⟨#[]⟩, .string ⟨#[]⟩, .int .i64 0, .int .i64 0] := rfl
  rw [hzv] at HW
  have hsl : ∀ W, (Instr.slice 26 (.slice (some ⟨g, o0, none⟩) xs.length c) (some (.int .i64 148)) (some (.int .i64 156)) none).run Tryd.prog W = .ok (.slice (some ⟨g, o0 + 148, none⟩) 8 (c - 148)) W := slice_in g o0 xs.length c 148 156 8 (o0 + 148) (by omega) (by omega) (by omega) hl.2.2.2 rfl rfl
  have hsm : ∀ W, (Instr.slice 26 (.slice (some ⟨g, o0, none⟩) xs.length c) (some (.int .i64 257)) (some (.int .i64 263)) none).run Tryd.prog W = .ok (.slice (some ⟨g, o0 + 257, none⟩) 6 (c - 257)) W := slice_in g o0 xs.length c 257 263 6 (o0 + 257) (by omega) (by omega) (by omega) hl.2.2.2 rfl rfl
  have hsn : ∀ W, (Instr.slice 26 (.slice (some ⟨g, o0, none⟩) xs.length c) none (some (.int .i64 100)) none).run Tryd.prog W = .ok (.slice (some ⟨g, o0, none⟩) 100 c) W := slice_to g o0 xs.length c 100 (by omega) hl.2.2.2
  have hsk : ∀ W, (Instr.slice 26 (.slice (some ⟨g, o0, none⟩) xs.length c) (some (.int .i64 157)) (some (.int .i64 257)) none).run Tryd.prog W = .ok (.slice (some ⟨g, o0 + 157, none⟩) 100 (c - 157)) W := slice_in g o0 xs.length c 157 257 100 (o0 + 157) (by omega) (by omega) (by omega) hl.2.2.2 rfl rfl
  have HTk : Aside0 (∀ w', Below W.heap.size W w' → Calls Tryd.prog 38 #[.slice (some ⟨g, o0 + 148, none⟩) 8 (c - 148)] w' fun e w'' => e = .returned (.tuple #[.int .i64 (sumH xs), .int .i64 0]) ∧ Drawn0 w' w'') := ⟨fun w' hb => by
    have := dtake_calls w' _ 8 _ _ ((HI.out.below hb).fld 148 8 (by omega)) (by omega)
    unfold summed at hs
    rw [of_decide_eq_true hs] at this
    exact this⟩
  have HSm : Aside0 (∀ w', Below W.heap.size W w' → Calls Tryd.prog 20 #[.slice (some ⟨g, o0, none⟩) xs.length c] w' fun e w'' => e = .returned (.int .i64 (sumH xs)) ∧ Drawn0 w' w'') := ⟨fun w' hb => dsum19_calls w' g o0 c xs (HI.out.below hb)⟩
  have hby := fld_byte h.byte 257 6
  have e1 := mark_eq (fld xs 257 6) fresh hby (by decide) [117, 115, 116, 97, 114, 0] (by decide)
  have e2 := mark_eq (fld xs 257 6) other hby (by decide) [117, 115, 116, 97, 114, 32] (by decide)
  have e3 := mark_eq (fld xs 257 6) old hby (by decide) [0, 0, 0, 0, 0, 0] (by decide)
  rw [← ho] at e3
  obtain ⟨bf, hbf⟩ : ∃ b, b = decide (fld xs 257 6 = fresh) := ⟨_, rfl⟩
  obtain ⟨bo, hbo⟩ : ∃ b, b = decide (fld xs 257 6 = other) := ⟨_, rfl⟩
  rw [← hbf] at e1
  rw [← hbo] at e2
  have hix : ∀ W, (Instr.index 9 (.string (strOfNums (fld xs 257 6))) (.int .i64 0)).run Tryd.prog W = .ok (.int .u8 (mk0 o)) W := by
    rcases hm with hm | hm | hm <;> rw [hm] at ho ⊢ <;> subst ho <;> intro W <;> kernel_rfl
  have hcase : (bf = true ∧ bo = false ∧ o = false) ∨ (bf = false ∧ bo = true ∧ o = false) ∨ (bf = false ∧ bo = false ∧ o = true) := by
    rcases hm with hm | hm | hm <;> rw [hm] at hbf hbo ho <;> subst hbf hbo ho
    · exact .inl (by decide)
    · exact .inr (.inl (by decide))
    · exact .inr (.inr (by decide))
  have HCase := Aside0.mk hcase
  have HBf := Aside0.mk hbf
  have E1 := Aside0.mk e1
  have E2 := Aside0.mk e2
  have E3 := Aside0.mk e3
  have HCv : Aside0 (∀ w', Below W.heap.size W w' → (convert 26 9 (.slice (some ⟨g, o0 + 257, none⟩) 6 (c - 257))).run Tryd.prog w' = .ok (.string (strOfNums (fld xs 257 6))) w') := ⟨fun w' hb => by
    have hC : (Kd.int .u8).C w' (some ⟨g, o0 + 257, none⟩) 6 (fld xs 257 6) := C_of_readsInt (((HI.out.below hb).fld 257 6 (by omega)).rd)
    exact Kd.C_string (P := Tryd.prog) (src := 26) (dst := 9) (c := c - 257) Tryd.underlying26 Tryd.underlying5 Tryd.underlying9 hC⟩
  clear hW hBW hbox hs hgs h hzv hby hm ho hbf hbo hcase e1 e2 e3
  have HIx := Aside0.mk hix
  clear hix
  have HL := Aside0.mk hl
  generalize strOfNums (fld xs 257 6) = mk at *
  obtain ⟨n, hn⟩ : ∃ n, n = xs.length := ⟨_, rfl⟩
  rw [← hn] at hlen hsl hsm hsn hsk HSm ⊢
  have HN := Aside0.mk hn
  clear hn hl
  generalize sumH xs = sm at *
  go_enter Tryd.func17, Tryd.ntmps17
  go_upto_region 1 with fail
  rw [← HW.out]
  go_upto_region 4 with (go_at_call 38; (with_reducible refine (HTk.out _ (Below.refl _ _)).mono ?_); rintro e w1 ⟨rfl, ⟨k1, rfl⟩⟩)
  have HB1 : Aside0 (Below W.heap.size W (W.drewN k1)) := ⟨pw_below_drewN (Below.refl _ _) k1⟩
  have HS1 := Aside0.mk (HSm.out _ HB1.out)
  clear HSm HTk
  go_upto_region 6 with (go_at_call 20; (with_reducible refine HS1.out.mono ?_); rintro e w2 ⟨rfl, ⟨k2, rfl⟩⟩)
  clear HS1 HB1
  have HB2 : Aside0 (Below W.heap.size W (W.drewN (k1 + k2))) := ⟨pw_below_drewN (Below.refl _ _) (k1 + k2)⟩
  generalize W.drewN (k1 + k2) = w2 at *
  have hcv := HCv.out w2 HB2.out
  go_upto_region 7 with fail
  clear hcv HCv HW hsl hsm
  go_cut [46] (fun v46 wc => v46 = .bool false ∧ wc = w2)
  case first =>
    have e1 := E1.out
    have e2 := E2.out
    have e3 := E3.out
    rcases HCase.out with ⟨rfl, rfl, rfl⟩ | ⟨rfl, rfl, rfl⟩ | ⟨rfl, rfl, rfl⟩
    · go_wp2_with fail
      go_meet
      case rel => exact ⟨rfl, rfl⟩
    · go_wp2_with fail
      go_meet
      case rel => exact ⟨rfl, rfl⟩
    · go_wp2_with fail
      go_meet
      case rel => exact ⟨rfl, rfl⟩
  case rest =>
    obtain ⟨rfl, rfl⟩ := hcut
    go_upto_region 9 with fail
    have hk156 : wc.cell? ⟨g, o0 + 156, none⟩ = some (.int .u8 (xs.getD 156 0)) := (HI.out.below HB2.out).cell 156 (by have := HL.out; omega)
    have HD0 : Aside0 (Inp wc g o0 c xs ∧ DBox wc w.heap.size zero ∧ Below w.heap.size w wc ∧ g < w.heap.size ∧ w.heap.size < wc.heap.size) := ⟨HI.out.below HB2.out, HB.out.2.1.below HB2.out, HB.out.1.trans (HB2.out.mono HB.out.1.size), HB.out.2.2.1, by have := HB.out.2.2.2; have := HB2.out.size; omega⟩
    have HSK : Aside0 (∀ w', Below wc.heap.size wc w' → w'.cell? ⟨g, o0 + 156, none⟩ = some (.int .u8 (xs.getD 156 0))) := ⟨fun w' hb => (hb.cell (p := ⟨g, o0 + 156, none⟩) (by have := HD0.out.2.2.2; show g < _; omega)).trans hk156⟩
    have HT0 : Aside0 (∀ w', Below wc.heap.size wc w' → Calls Tryd.prog 39 #[.slice (some ⟨g, o0, none⟩) 100 c] w' fun e w'' => e = .returned (.string (textOf (fld xs 0 100))) ∧ Below wc.heap.size wc w'' ∧ Below w'.heap.size w' w'') := ⟨fun w' hb => (dtext_calls w' _ 100 _ _ ((HD0.out.1.below hb).fld 0 100 (by omega)) (by omega)).mono fun _ _ k => by
      obtain ⟨m, hm⟩ := k.2.out
      have q := pw_below_drewN (Below.refl w'.heap.size w') m
      rw [← hm] at q
      exact ⟨k.1, hb.trans (q.mono hb.size), q⟩⟩
    have HT1 : Aside0 (∀ w', Below wc.heap.size wc w' → Calls Tryd.prog 39 #[.slice (some ⟨g, o0 + 157, none⟩) 100 (c - 157)] w' fun e w'' => e = .returned (.string (textOf (fld xs 157 100))) ∧ Below wc.heap.size wc w'' ∧ Below w'.heap.size w' w'') := ⟨fun w' hb => (dtext_calls w' _ 100 _ _ ((HD0.out.1.below hb).fld 157 100 (by omega)) (by omega)).mono fun _ _ k => by
      obtain ⟨m, hm⟩ := k.2.out
      have q := pw_below_drewN (Below.refl w'.heap.size w') m
      rw [← hm] at q
      exact ⟨k.1, hb.trans (q.mono hb.size), q⟩⟩
    have hQ0 : Below wc.heap.size wc wc.drew := (Below.refl _ _).drew
    have HH0 : Aside0 (head0 xs = ⟨textOf (fld xs 0 100), 0, 0, 0, 0, 0, xs.getD 156 0, textOf (fld xs 157 100), ⟨#[]⟩, ⟨#[]⟩, 0, 0⟩) := ⟨rfl⟩
    have hlen156 : (156 : Int) < (n : Int) := by omega
    clear HI HB
    generalize textOf (fld xs 0 100) = tn at *
    generalize textOf (fld xs 157 100) = tl at *
    obtain ⟨kd, hkd⟩ : ∃ kd, kd = xs.getD 156 0 := ⟨_, rfl⟩
    rw [← hkd] at hk156 HSK HH0
    have HKD := Aside0.mk hkd
    clear hkd
    go_cut [7] (fun v7 wd => ∃ gh, v7 = .pointer (some ⟨gh, 0, none⟩) ∧ Aside0 (DBox wd gh (head0 xs) ∧ Below wc.heap.size wc wd ∧ wc.heap.size ≤ gh))
    case first =>
      -- DEV{a
      go_region_held3 (fun w' => w'.cell? ⟨g, o0 + 156, none⟩ = some (.int .u8 kd)) ((refine HSK.out _ ?_; first | (with_reducible assumption) | (with_reducible refine below_alloc ?_ _; with_reducible assumption) | (with_reducible exact (below_alloc (Below.refl _ _) _).drew) | (with_reducible refine below_set12 ?_ bx.ge; with_reducible assumption)))
        (first
          | (go_at_call 39; (with_reducible refine (HT0.out _ ?_).mono ?_); (first | (with_reducible assumption) | (with_reducible refine below_alloc ?_ _; with_reducible assumption) | (with_reducible exact (below_alloc (Below.refl _ _) _).drew)); rintro e w3 ⟨rfl, q3, qb⟩; (first | (with_reducible refine dx_keep qb bx ?_; clear bx qb; intro bx) | (with_reducible refine dx_new (W0 := wc) (by with_reducible assumption) qb ?_; intro bx) | (with_reducible refine dx_newd (W0 := wc) (Below.refl _ _) qb ?_; intro bx) | skip))
          | (go_at_call 39; (with_reducible refine (HT1.out _ ?_).mono ?_); (first | (with_reducible assumption) | (with_reducible refine below_alloc ?_ _; with_reducible assumption) | (with_reducible exact (below_alloc (Below.refl _ _) _).drew)); rintro e w3 ⟨rfl, q3, qb⟩; (first | (with_reducible refine dx_keep qb bx ?_; clear bx qb; intro bx) | (with_reducible refine dx_new (W0 := wc) (by with_reducible assumption) qb ?_; intro bx) | (with_reducible refine dx_newd (W0 := wc) (Below.refl _ _) qb ?_; intro bx) | skip); (first | (refine dx_open bx ?_; rintro ⟨c0, c1, c2, c3, c4, c5, c6, c7, c8, c9, c10, c11⟩ ⟨f0, f1, f2, f3, f4, f5, f6, f7, f8, f9, f10, f11⟩) | skip))
          | fail)
      all_goals go_wp2_with fail
      all_goals go_meet
      all_goals
        case rel =>
          first
            | (refine ⟨_, rfl, ⟨?_, ?_, ?_⟩⟩
               · rw [HH0.out]; exact (dset12_box bx.out ⟨tn, 0, 0, 0, 0, 0, kd, tl, ⟨#[]⟩, ⟨#[]⟩, 0, 0⟩).1
               · exact below_set12 q3 bx.ge
               · exact bx.ge)
            | (refine ⟨_, rfl, ⟨?_, ?_, ?_⟩⟩
               · rw [HH0.out]; exact ⟨alloc_self _ (.cells (hv ⟨tn, 0, 0, 0, 0, 0, kd, tl, ⟨#[]⟩, ⟨#[]⟩, 0, 0⟩) 33)⟩
               · exact below_alloc q3 _
               · exact q3.size)
      -- DEV}a
    case rest =>
      obtain ⟨gh, rfl, HGH⟩ := hcut
      have HD1 : Aside0 (Inp wc g o0 c xs ∧ DBox wc w.heap.size zero ∧ Below w.heap.size w wc ∧ g < w.heap.size ∧ w.heap.size < gh) := ⟨HD0.out.1.below HGH.out.2.1, HD0.out.2.1.below HGH.out.2.1, HD0.out.2.2.1.trans (HGH.out.2.1.mono HD0.out.2.2.1.size), HD0.out.2.2.2.1, by have := HD0.out.2.2.2.2; have := HGH.out.2.2; omega⟩
      have HBG := Aside0.mk HGH.out.1
      rename_i KA aA
      refine aA _ _ ?_
      exact dtake_tail1 w g o0 c n xs o bf mk gh wc kd _ _ _ _ _ _ _ _ _ _ _ _ _ _ _ _ _ _ _ _ _ _ _ _ _ _ _ _ _ _ _ _ _ _ _ _ _ _ _ _ _ _ _ _ _ _ _ _ _ _ _ _ _ _ _ _ _ _ _ _ _ _ _ _ _ _ _ _ _ _ _ _ _ _ _ _ _ _ _ _ _ _ _ _ _ _ _ _ _ _ _ _ _ _ _ _ _ _ _ _ _ _ _ _ _ _ _ _ _ _ _ _ _ _ _ _ _ _ _ _ _ _ _ _ _ _ _ _ _ _ _ _ _ _ _ _ _ _ _ _ _ _ _ _ _ _ _ _ _ _ _ _ _ _ _ _ _ HBf HL HIx E1 HKD HD1 HBG
end Go.Proofs.YtiioiikcjaiajaaDoor.My

/- The document's Take of a head: a wrong mark; all of it. -/
set_option maxRecDepth 100000
namespace Go.Proofs.YtiioiikcjaiajaaDoor.My
open Go.RowKit Go.Proofs.YtiioiikcjaiajaaDoor.Hd Go.Proofs.YtiioiikcjaiajaaDoor.Oct Go.Proofs.YtiioiikcjaiajaaDoorW.PrintWords Go.Proofs.YtiioiikcjaiajaaDoorW.PrintLast Go.Proofs.YtiioiikcjaiajaaDoorW.PrintMore Go.Proofs.YtiioiikcjaiajaaDoor.MyDocK Go.Proofs.YtiioiikcjaiajaaDoor.MyDocX Go.Proofs.YtiioiikcjaiajaaDoor.MyDocA
set_option linter.unusedVariables false
set_option linter.unusedSimpArgs false

theorem dtake_mark (w : World) (g o0 c : Nat) (xs : List Int) (h : Inp w g o0 c xs) (hs : summed xs = true) (hm : fld xs 257 6 ≠ fresh ∧ fld xs 257 6 ≠ other ∧ fld xs 257 6 ≠ old) :
    Calls Tryd.prog 17 #[.slice (some ⟨g, o0, none⟩) xs.length c] w fun e w' => e = .returned (.tuple #[.agg (hv zero), .int .i64 11]) ∧ Below w.heap.size w w' := by
  obtain ⟨W, hW⟩ : ∃ W, W = w.alloc (.cells (hv zero) 33) := ⟨_, rfl⟩
  have hBW : Below w.heap.size w W := by rw [hW]; exact below_alloc (Below.refl _ _) _
  have hbox : DBox W w.heap.size zero := by rw [hW]; exact ⟨alloc_self _ _⟩
  have HI := Aside0.mk (h.below hBW)
  have hl := h.len
  have hlen : (512 : Int) ≤ (xs.length : Int) := by omega
  have hcap : (512 : Int) ≤ (c : Int) := by omega
  have HW := Aside0.mk hW
  have HB := Aside0.mk (And.intro hBW hbox)
  have hzv : hv zero = #[.string ⟨#[]⟩, .int .i64 0, .int .i64 0, .int .i64 0, .int .i64 0, .int .i64 0, .int .u8 0, .string ⟨#[]⟩, .string ⟨#[]⟩, .string ⟨#[]⟩, .int .i64 0, .int .i64 0] := rfl
  rw [hzv] at HW
  have hsl : ∀ W, (Instr.slice 26 (.slice (some ⟨g, o0, none⟩) xs.length c) (some (.int .i64 148)) (some (.int .i64 156)) none).run Tryd.prog W = .ok (.slice (some ⟨g, o0 + 148, none⟩) 8 (c - 148)) W := slice_in g o0 xs.length c 148 156 8 (o0 + 148) (by omega) (by omega) (by omega) hl.2.2.2 rfl rfl
  have hsm : ∀ W, (Instr.slice 26 (.slice (some ⟨g, o0, none⟩) xs.length c) (some (.int .i64 257)) (some (.int .i64 263)) none).run Tryd.prog W = .ok (.slice (some ⟨g, o0 + 257, none⟩) 6 (c - 257)) W := slice_in g o0 xs.length c 257 263 6 (o0 + 257) (by omega) (by omega) (by omega) hl.2.2.2 rfl rfl
  have HTk : Aside0 (∀ w', Below W.heap.size W w' → Calls Tryd.prog 38 #[.slice (some ⟨g, o0 + 148, none⟩) 8 (c - 148)] w' fun e w'' => e = .returned (.tuple #[.int .i64 (sumH xs), .int .i64 0]) ∧ Drawn0 w' w'') := ⟨fun w' hb => by
    have := dtake_calls w' _ 8 _ _ ((HI.out.below hb).fld 148 8 (by omega)) (by omega)
    unfold summed at hs
    rw [of_decide_eq_true hs] at this
    exact this⟩
  have HSm : Aside0 (∀ w', Below W.heap.size W w' → Calls Tryd.prog 20 #[.slice (some ⟨g, o0, none⟩) xs.length c] w' fun e w'' => e = .returned (.int .i64 (sumH xs)) ∧ Drawn0 w' w'') := ⟨fun w' hb => dsum19_calls w' g o0 c xs (HI.out.below hb)⟩
  have hby := fld_byte h.byte 257 6
  have e1 := mark_eq (fld xs 257 6) fresh hby (by decide) [117, 115, 116, 97, 114, 0] (by decide)
  have e2 := mark_eq (fld xs 257 6) other hby (by decide) [117, 115, 116, 97, 114, 32] (by decide)
  have e3 := mark_eq (fld xs 257 6) old hby (by decide) [0, 0, 0, 0, 0, 0] (by decide)
  rw [decide_eq_false hm.1] at e1
  rw [decide_eq_false hm.2.1] at e2
  rw [decide_eq_false hm.2.2] at e3
  have HCv : Aside0 (∀ w', Below W.heap.size W w' → (convert 26 9 (.slice (some ⟨g, o0 + 257, none⟩) 6 (c - 257))).run Tryd.prog w' = .ok (.string (strOfNums (fld xs 257 6))) w') := ⟨fun w' hb => by
    have hC : (Kd.int .u8).C w' (some ⟨g, o0 + 257, none⟩) 6 (fld xs 257 6) := C_of_readsInt (((HI.out.below hb).fld 257 6 (by omega)).rd)
    exact Kd.C_string (P := Tryd.prog) (src := 26) (dst := 9) (c := c - 257) Tryd.underlying26 Tryd.underlying5 Tryd.underlying9 hC⟩
  clear hW hBW hbox hs h hzv hby hm
  generalize strOfNums (fld xs 257 6) = mk at *
  generalize sumH xs = sm at *
  generalize xs.length = n at *
  clear hl HI
  go_enter Tryd.func17, Tryd.ntmps17
  go_upto_region 1 with fail
  rw [← HW.out]
  go_upto_region 4 with (go_at_call 38; (with_reducible refine (HTk.out _ (Below.refl _ _)).mono ?_); rintro e w1 ⟨rfl, ⟨k1, rfl⟩⟩)
  have HB1 : Aside0 (Below W.heap.size W (W.drewN k1)) := ⟨pw_below_drewN (Below.refl _ _) k1⟩
  have HS1 := Aside0.mk (HSm.out _ HB1.out)
  clear HSm HTk
  go_upto_region 6 with (go_at_call 20; (with_reducible refine HS1.out.mono ?_); rintro e w2 ⟨rfl, ⟨k2, rfl⟩⟩)
  clear HS1 HB1
  have HB2 : Aside0 (Below W.heap.size W (W.drewN (k1 + k2))) := ⟨pw_below_drewN (Below.refl _ _) (k1 + k2)⟩
  generalize W.drewN (k1 + k2) = w2 at *
  have hcv := HCv.out w2 HB2.out
  have hb := HB.out.2.below HB2.out
  obtain ⟨c0, c1, c2, c3, c4, c5, c6, c7, c8, c9, c10, c11⟩ := hb.all'
  obtain ⟨f0, f1, f2, f3, f4, f5, f6, f7, f8, f9, f10, f11⟩ := hb.frz
  go_wp2_with fail
  obtain ⟨q1, q2⟩ := dset12_box hb zero
  change bodyPost _ _ _ _ _ (set12 w2 w.heap.size zero)
  generalize set12 w2 w.heap.size zero = w3 at *
  clear c0 f0 c1 f1 c2 f2 c3 f3 c4 f4 c5 f5 c6 f6 c7 f7 c8 f8 c9 f9 c10 f10 c11 f11
  obtain ⟨c0, c1, c2, c3, c4, c5, c6, c7, c8, c9, c10, c11⟩ := q1.all'
  refine bodyPost_ret (v := .tuple #[.agg (hv zero), .int .i64 11]) (by simp [results, Tryd.results17, go_sem, c0, c1, c2, c3, c4, c5, c6, c7, c8, c9, c10, c11]; rfl) rfl ⟨rfl, ?_⟩
  have b1 := HB.out.1.trans (HB2.out.mono HB.out.1.size)
  exact below_grown b1 q2 b1.size (Nat.le_refl _)
/-- The document's Take, whatever it is given. -/
theorem dtake_all (w : World) (g o0 c : Nat) (xs : List Int) (h : Inp w g o0 c xs) :
    Calls Tryd.prog 17 #[.slice (some ⟨g, o0, none⟩) xs.length c] w fun e w' => e = .returned (.tuple #[.agg (hv (takeH xs).2), .int .i64 (docE (takeH xs).1)]) ∧ Below w.heap.size w w' := by
  have hl := h.len.1
  have hgs := h.lt
  by_cases hs : summed xs = false
  · rw [takeH_unsummed hl hs]
    exact dtake_sum w g o0 c xs h hs
  have hs : summed xs = true := by simpa using hs
  by_cases hm : fld xs 257 6 = fresh ∨ fld xs 257 6 = other ∨ fld xs 257 6 = old
  · rw [takeH_mainH hl hs hm]
    exact dtake_main w g o0 c xs h hs hgs _ rfl hm
  · have hm2 : fld xs 257 6 ≠ fresh ∧ fld xs 257 6 ≠ other ∧ fld xs 257 6 ≠ old := ⟨fun e => hm (.inl e), fun e => hm (.inr (.inl e)), fun e => hm (.inr (.inr e))⟩
    rw [takeH_mark hl hs hm2]
    exact dtake_mark w g o0 c xs h hs hm2
end Go.Proofs.YtiioiikcjaiajaaDoor.My
