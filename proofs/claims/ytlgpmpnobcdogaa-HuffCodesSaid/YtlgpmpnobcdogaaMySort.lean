/- The walk of huff.Code's sort. -/
import Derived.Test.YtlgpmpnobcdogaaMySortP
import Derived.BigRegion
namespace Go.Proofs.Ytlgpmpnobcdogaa.My
open Go.RowKit Go.Proofs.Ytlgpmpnobcdogaa.Huf Go.Proofs.YtlgpmpnobcdogaaW.PrintWords Go.Proofs.YtlgpmpnobcdogaaW.PrintLast Go.Proofs.YtlgpmpnobcdogaaW.PrintMore
set_option linter.unusedVariables false
set_option linter.unusedSimpArgs false

theorem Cod.drew {w : World} {g : Nat} {v0 v4 v5 : Value} {f m b : List Int} (k : Cod w g v0 f m b v4 v5) : Cod w.drew g v0 f m b v4 v5 := k.drewN 1
theorem IRow.drew {w : World} {b : Nat} {t : TypeId} {xs : List Int} (h : IRow w b t xs) : IRow w.drew b t xs := h
theorem Cod.other {w : World} {g : Nat} {v0 v4 v5 : Value} {f m b : List Int} (k : Cod w g v0 f m b v4 v5) {p : Addr} (hp : g ≠ p.block) (u : Value) : Cod (w.setCell p u) g v0 f m b v4 v5 := ⟨blk_far k.blk hp u, k.lf, k.lm, k.lb⟩
theorem grown_new {w w1 : World} {row : Option Nat} (h : w.grownBy w1 row) {p : Addr} (hp : w.heap.size ≤ p.block) (u : Value) : w.grownBy (w1.setCell p u) row :=
  ⟨h.os, h.tape, h.output, by have := h.size; simpa [World.setCell] using this, fun i hi hr => (Below.heap_setCell w1 p u i (by omega)).trans (h.block i hi hr)⟩
set_option maxHeartbeats 2000000 in
set_option maxRecDepth 100000 in
theorem sort_calls (w : World) (g : Nat) (A : Option Addr) (n c : Nat) (L : List Int) (v4 v5 : Value) (k : Cod w g (.slice A n c) (upto (fst L) 16) (tab fun j => (c0 L j : Int)) (upto (beg L) 16) v4 v5) (hL : (Kd.int .i64).C w A n L) (hne : ∀ ad, A = some ad → ad.block ≠ g) (hn : n ≤ 1000000) (hok : okL L = true) (hover : anyOver L 15 1 = false) :
    Calls Try.prog 31 #[.pointer (some ⟨g, 0, none⟩)] w fun e w' => e = .returned (.tuple #[]) ∧ w.grownBy w' (some g) ∧ ∃ b1 b2 S, w.heap.size ≤ b1 ∧ w.heap.size ≤ b2 ∧ b1 ≠ b2 ∧ Cod w' g (.slice A n c) (upto (fst L) 16) (tab fun j => (c0 L j : Int)) (upto (beg L) 16) (.slice (some ⟨b1, 0, none⟩) (beg L 16) (beg L 16)) (.slice (some ⟨b2, 0, none⟩) n n) ∧ IRow w' b1 3 S ∧ Stood L n S ∧ IRow w' b2 3 (nmL L n) := by
  have hl : L.length = n := hL.1
  have cb15 : w.cell? ⟨g, 50, none⟩ = some (.int .i64 ((upto (beg L) 16).getD 15 0)) := k.cb 15 (by omega)
  rw [upto_get _ _ 15 (by omega) (by omega)] at cb15
  have cm15 := k.cm 15 (by omega)
  rw [tab_get _ 15 (by omega)] at cm15
  have y0 : w.cell? ⟨g, 35, none⟩ = some (.int .i64 ((upto (beg L) 16).getD 0 0)) := k.cb 0 (by omega)
  have y1 : w.cell? ⟨g, 36, none⟩ = some (.int .i64 ((upto (beg L) 16).getD 1 0)) := k.cb 1 (by omega)
  have y2 : w.cell? ⟨g, 37, none⟩ = some (.int .i64 ((upto (beg L) 16).getD 2 0)) := k.cb 2 (by omega)
  have y3 : w.cell? ⟨g, 38, none⟩ = some (.int .i64 ((upto (beg L) 16).getD 3 0)) := k.cb 3 (by omega)
  have y4 : w.cell? ⟨g, 39, none⟩ = some (.int .i64 ((upto (beg L) 16).getD 4 0)) := k.cb 4 (by omega)
  have y5 : w.cell? ⟨g, 40, none⟩ = some (.int .i64 ((upto (beg L) 16).getD 5 0)) := k.cb 5 (by omega)
  have y6 : w.cell? ⟨g, 41, none⟩ = some (.int .i64 ((upto (beg L) 16).getD 6 0)) := k.cb 6 (by omega)
  have y7 : w.cell? ⟨g, 42, none⟩ = some (.int .i64 ((upto (beg L) 16).getD 7 0)) := k.cb 7 (by omega)
  have y8 : w.cell? ⟨g, 43, none⟩ = some (.int .i64 ((upto (beg L) 16).getD 8 0)) := k.cb 8 (by omega)
  have y9 : w.cell? ⟨g, 44, none⟩ = some (.int .i64 ((upto (beg L) 16).getD 9 0)) := k.cb 9 (by omega)
  have y10 : w.cell? ⟨g, 45, none⟩ = some (.int .i64 ((upto (beg L) 16).getD 10 0)) := k.cb 10 (by omega)
  have y11 : w.cell? ⟨g, 46, none⟩ = some (.int .i64 ((upto (beg L) 16).getD 11 0)) := k.cb 11 (by omega)
  have y12 : w.cell? ⟨g, 47, none⟩ = some (.int .i64 ((upto (beg L) 16).getD 12 0)) := k.cb 12 (by omega)
  have y13 : w.cell? ⟨g, 48, none⟩ = some (.int .i64 ((upto (beg L) 16).getD 13 0)) := k.cb 13 (by omega)
  have y14 : w.cell? ⟨g, 49, none⟩ = some (.int .i64 ((upto (beg L) 16).getD 14 0)) := k.cb 14 (by omega)
  have y16 : w.cell? ⟨g, 51, none⟩ = some (.int .i64 ((upto (beg L) 16).getD 16 0)) := k.cb 16 (by omega)
  have b1 : ((beg L 15 : Nat) : Int) ≤ 1000000 := by have := beg_all L hok 15; omega
  have b2 : ((Huf.c0 L 15 : Nat) : Int) ≤ 1000000 := by have := c0_le L 15; omega
  have h3 : (n : Int) ≤ 1000000 := by omega
  have HK0 := Aside0.mk k
  have HL := Aside0.mk hL
  have HNe := Aside0.mk hne
  have HLn := Aside0.mk hl
  have HOk := Aside0.mk hok
  have HOv := Aside0.mk hover
  clear k hL hne hl hn hok hover
  have p1 : (0 : Int) ≤ ((beg L 15 : Nat) : Int) := by omega
  have p2 : (0 : Int) ≤ ((Huf.c0 L 15 : Nat) : Int) := by omega
  generalize hX : beg L 15 = X at *
  generalize hY : Huf.c0 L 15 = Y at *
  have HX := Aside0.mk hX
  have HY := Aside0.mk hY
  clear hX hY
  generalize hz0 : (upto (beg L) 16).getD 0 0 = z0 at y0
  generalize hz1 : (upto (beg L) 16).getD 1 0 = z1 at y1
  generalize hz2 : (upto (beg L) 16).getD 2 0 = z2 at y2
  generalize hz3 : (upto (beg L) 16).getD 3 0 = z3 at y3
  generalize hz4 : (upto (beg L) 16).getD 4 0 = z4 at y4
  generalize hz5 : (upto (beg L) 16).getD 5 0 = z5 at y5
  generalize hz6 : (upto (beg L) 16).getD 6 0 = z6 at y6
  generalize hz7 : (upto (beg L) 16).getD 7 0 = z7 at y7
  generalize hz8 : (upto (beg L) 16).getD 8 0 = z8 at y8
  generalize hz9 : (upto (beg L) 16).getD 9 0 = z9 at y9
  generalize hz10 : (upto (beg L) 16).getD 10 0 = z10 at y10
  generalize hz11 : (upto (beg L) 16).getD 11 0 = z11 at y11
  generalize hz12 : (upto (beg L) 16).getD 12 0 = z12 at y12
  generalize hz13 : (upto (beg L) 16).getD 13 0 = z13 at y13
  generalize hz14 : (upto (beg L) 16).getD 14 0 = z14 at y14
  generalize hz16 : (upto (beg L) 16).getD 16 0 = z16 at y16
  have HZ := Aside0.mk (show (upto (beg L) 16).getD 0 0 = z0 ∧ (upto (beg L) 16).getD 1 0 = z1 ∧ (upto (beg L) 16).getD 2 0 = z2 ∧ (upto (beg L) 16).getD 3 0 = z3 ∧ (upto (beg L) 16).getD 4 0 = z4 ∧ (upto (beg L) 16).getD 5 0 = z5 ∧ (upto (beg L) 16).getD 6 0 = z6 ∧ (upto (beg L) 16).getD 7 0 = z7 ∧ (upto (beg L) 16).getD 8 0 = z8 ∧ (upto (beg L) 16).getD 9 0 = z9 ∧ (upto (beg L) 16).getD 10 0 = z10 ∧ (upto (beg L) 16).getD 11 0 = z11 ∧ (upto (beg L) 16).getD 12 0 = z12 ∧ (upto (beg L) 16).getD 13 0 = z13 ∧ (upto (beg L) 16).getD 14 0 = z14 ∧ (upto (beg L) 16).getD 16 0 = z16 from ⟨hz0, hz1, hz2, hz3, hz4, hz5, hz6, hz7, hz8, hz9, hz10, hz11, hz12, hz13, hz14, hz16⟩)
  clear hz0 hz1 hz2 hz3 hz4 hz5 hz6 hz7 hz8 hz9 hz10 hz11 hz12 hz13 hz14 hz16
  go_enter Try.func31, Try.ntmps31
  go_upto_region 0 with fail
  go_cut [2] from 5 to 9 (fun v2 wx => v2 = .pointer (some ⟨w.heap.size, 0, none⟩) ∧ Aside0 (IRow wx w.heap.size 62 (upto (beg L) 16)) ∧ Aside0 (Below w.heap.size w wx))
  case first =>
    go_wp2_with fail
    go_meet
    case rel =>
      refine ⟨rfl, ⟨?_⟩, ⟨below_alloc (Below.refl _ _) _⟩⟩
      unfold IRow
      rw [list17 (upto (beg L) 16) (tab_len _), alloc_self]
      obtain ⟨h0, h1, h2, h3, h4, h5, h6, h7, h8, h9, h10, h11, h12, h13, h14, h16⟩ := HZ.out
      have h15 : (upto (beg L) 16).getD 15 0 = (X : Int) := by rw [upto_get _ _ 15 (by omega) (by omega), HX.out]
      simp only [List.map_cons, List.map_nil, h0, h1, h2, h3, h4, h5, h6, h7, h8, h9, h10, h11, h12, h13, h14, h15, h16]
  case rest =>
  obtain ⟨rfl, HR, HB⟩ := hcut
  have k1 := HK0.out.below HB.out
  have HK1 := Aside0.mk k1
  clear cb15 cm15
  have cb15 : wc.cell? ⟨g, 50, none⟩ = some (.int .i64 ((upto (beg L) 16).getD 15 0)) := k1.cb 15 (by omega)
  rw [upto_get _ _ 15 (by omega) (by omega), HX.out] at cb15
  have cm15 : wc.cell? ⟨g, 33, none⟩ = some (.int .i64 ((tab fun j => (Huf.c0 L j : Int)).getD 15 0)) := k1.cm 15 (by omega)
  rw [tab_get _ 15 (by omega), HY.out] at cm15
  have kA := k1.below (below_alloc (Below.refl _ _) (.cells (madeCells #[.int .i64 0] (X + Y)) 3))
  have f4 := kA.fz 52
  have c4 := kA.c4
  have HA := Aside0.mk kA
  clear k1 kA
  have mk1 : ∀ W : World, (Instr.makeSlice 22 (.int .i64 ((X : Int) + (Y : Int))) (.int .i64 ((X : Int) + (Y : Int)))).run Try.prog W = .ok (.slice (some ⟨W.heap.size, 0, none⟩) (X + Y) (X + Y)) (W.alloc (.cells (madeCells #[.int .i64 0] (X + Y)) 3)) := fun W => by
    have := make_ints (X + Y) (by omega) W
    rw [show ((X + Y : Nat) : Int) = (X : Int) + (Y : Int) by omega] at this
    exact this
  clear y0 y1 y2 y3 y4 y5 y6 y7 y8 y9 y10 y11 y12 y13 y14 y16 HZ
  go_wp2_with fail
  go_region
  have kB := (HA.out.s4 (.slice (some ⟨wc.heap.size, 0, none⟩) (X + Y) (X + Y))).drew
  have rB : IRow ((wc.alloc (.cells (madeCells #[.int .i64 0] (X + Y)) 3)).setCell ⟨g, 52, none⟩ (.slice (some ⟨wc.heap.size, 0, none⟩) (X + Y) (X + Y))).drew wc.heap.size 3 (List.replicate (X + Y) 0) := ((IRow.made wc _ (X + Y)).far (by have := HK1.out.lt; show wc.heap.size ≠ g; omega) _).drewN 1
  have rA : IRow ((wc.alloc (.cells (madeCells #[.int .i64 0] (X + Y)) 3)).setCell ⟨g, 52, none⟩ (.slice (some ⟨wc.heap.size, 0, none⟩) (X + Y) (X + Y))).drew w.heap.size 62 (upto (beg L) 16) := ((HR.out.below (below_alloc (Below.refl _ _) _)).far (by have := HK0.out.lt; show w.heap.size ≠ g; omega) _).drewN 1
  have gB : w.grownBy ((wc.alloc (.cells (madeCells #[.int .i64 0] (X + Y)) 3)).setCell ⟨g, 52, none⟩ (.slice (some ⟨wc.heap.size, 0, none⟩) (X + Y) (X + Y))).drew (some g) := grown_drew (grown_trans (grown_below (below_alloc HB.out _) _) (grown_set _ _ _ _))
  generalize ((wc.alloc (.cells (madeCells #[.int .i64 0] (X + Y)) 3)).setCell ⟨g, 52, none⟩ (.slice (some ⟨wc.heap.size, 0, none⟩) (X + Y) (X + Y))).drew = w2 at *
  have h1a : wc.heap.size < w2.heap.size := rB.lt
  have h1b : w.heap.size < wc.heap.size := HR.out.lt
  have h1c : g < w.heap.size := HK0.out.lt
  have c0 := kB.c0
  have kC := kB.below (below_alloc (Below.refl _ _) (.cells (madeCells #[.int .i64 0] n) 3))
  have f5 := kC.fz 53
  have c5 := kC.c5
  have kD := kC.s5 (.slice (some ⟨w2.heap.size, 0, none⟩) n n)
  have c0D := kD.c0
  have rC := (IRow.made w2 3 n).far (p := ⟨g, 53, none⟩) (by show w2.heap.size ≠ g; omega) (.slice (some ⟨w2.heap.size, 0, none⟩) n n)
  have rD := (rB.below (below_alloc (Below.refl _ _) (.cells (madeCells #[.int .i64 0] n) 3))).far (p := ⟨g, 53, none⟩) (by show wc.heap.size ≠ g; omega) (.slice (some ⟨w2.heap.size, 0, none⟩) n n)
  have rE := (rA.below (below_alloc (Below.refl _ _) (.cells (madeCells #[.int .i64 0] n) 3))).far (p := ⟨g, 53, none⟩) (by show w.heap.size ≠ g; omega) (.slice (some ⟨w2.heap.size, 0, none⟩) n n)
  have gC := grown_trans (grown_trans gB (grown_below (below_alloc (Below.refl _ _) (.cells (madeCells #[.int .i64 0] n) 3)) (some g))) (grown_set _ g 53 (.slice (some ⟨w2.heap.size, 0, none⟩) n n))
  have mk2 : ∀ W : World, (Instr.makeSlice 22 (.int .i64 n) (.int .i64 n)).run Try.prog W = .ok (.slice (some ⟨W.heap.size, 0, none⟩) n n) (W.alloc (.cells (madeCells #[.int .i64 0] n) 3)) := fun W => make_ints n (by omega) W
  have KD := Aside0.mk kD
  have RC := Aside0.mk rC
  have RD := Aside0.mk rD
  have RE := Aside0.mk rE
  have GC := Aside0.mk gC
  clear kB kC kD rB rA rC rD rE gB gC HA HR HB HK1 mk1 f4 c4 cb15 cm15
  go_wp2_with fail
  clear c0 c0D f5 c5 mk2
  have HXY : Aside0 (X + Y = beg L 16) := ⟨by rw [beg, HX.out, HY.out]⟩
  have HT3 : Aside0 (X + Y ≤ 2000000) := ⟨by omega⟩
  clear b1 b2 p1 p2 HX HY
  generalize X + Y = T at *
  generalize (X : Int) = x1 at *
  generalize (Y : Int) = y1 at *
  generalize hb2 : w2.heap.size = b2 at *
  generalize hb1 : wc.heap.size = b1 at *
  generalize hba : w.heap.size = ba at *
  have HBA := Aside0.mk hba
  clear hba
  go_loopg [38] n (fun kq v38 wr => ∃ i : Nat, v38 = .int .i64 i ∧ i ≤ n ∧ Aside0 (kq = n - i) ∧ Aside0 (Cod wr g (.slice A n c) (upto (fst L) 16) (tab fun j => (Huf.c0 L j : Int)) (upto (beg L) 16) (.slice (some ⟨b1, 0, none⟩) T T) (.slice (some ⟨b2, 0, none⟩) n n)) ∧ Aside0 (IRow wr ba 62 (atL L i)) ∧ Aside0 (IRow wr b2 3 (nmL L i)) ∧ Aside0 (∃ S, IRow wr b1 3 S ∧ Stood L i S) ∧ Aside0 (w.grownBy wr (some g)))
  case atStart =>
    refine ⟨0, rfl, Nat.zero_le _, ⟨rfl⟩, KD, ⟨by rw [← atL_zero]; exact RE.out⟩, ⟨by rw [← nmL_zero, HLn.out]; exact RC.out⟩, ⟨_, RD.out, by rw [List.length_replicate]; exact HXY.out, fun s hs => absurd hs (Nat.not_lt_zero _)⟩, GC⟩
  case round =>
    obtain ⟨i, rfl, hi, HK, HC, HA, HN, HS, HG⟩ := hrel
    by_cases hlt : i < n
    · have hlt' : (i : Int) < (n : Int) := by omega
      obtain ⟨ad, rfl, hci⟩ := num_at HL.out i hlt
      have hci2 : wr.cell? (ad.add i) = some (.int .i64 (L.getD i 0)) := HG.out.cell hci (by rw [add_block]; simpa using fun e => HNe.out ad rfl e)
      have hx := getD_some L i (by rw [HLn.out]; exact hlt)
      have hb : 0 ≤ L.getD i 0 ∧ L.getD i 0 ≤ 15 := by
        have := List.all_eq_true.1 HOk.out _ (List.mem_of_getElem? hx)
        simpa using this
      generalize hxx : L.getD i 0 = x at hci hci2 hx hb
      have HX2 := Aside0.mk hx
      have HXX := Aside0.mk hxx
      obtain ⟨m, rfl⟩ := Int.eq_ofNat_of_zero_le hb.1
      have hm : (m : Int) ≤ 15 := hb.2
      clear hx hxx hci hb
      by_cases hm0 : m = 0
      · subst hm0
        go_wp2_with fail
        have e1 : ((i : Int) + 1) = ((i + 1 : Nat) : Int) := by omega
        rw [e1]
        go_roundg (n - (i + 1))
        case measure => have := HK.out; omega
        case rel =>
          refine ⟨i + 1, rfl, by omega, ⟨rfl⟩, HC, ⟨by rw [atL_skip L i HX2.out]; exact HA.out⟩, ⟨by rw [nmL_skip L i HX2.out]; exact HN.out⟩, ⟨?_⟩, HG⟩
          obtain ⟨S, hS1, hS2⟩ := HS.out
          exact ⟨S, hS1, stood_skip L i S hS2 HXX.out⟩
      · obtain ⟨S, hS1, hS2⟩ := HS.out
        have hm15 : m ≤ 15 := by omega
        have hp := pos_in L i m (by rw [HLn.out]; exact hlt) hm0 hm15 HXX.out
        have hs2 := stood_set L i m S hS2 HOk.out (by rw [HLn.out]; exact hlt) hm0 hm15 HXX.out
        have hs1 := hS2.1
        have hpe : (atL L i).getD m 0 = ((beg L m + cn (L.take i) m : Nat) : Int) := atL_get L i m hm0 hm15
        have hpos := pos_eq L i m HXX.out
        have hcd : (code L i : Int) = ((fst L m : Nat) : Int) + ((cn (L.take i) m : Nat) : Int) := by
          unfold code; rw [HXX.out]; simp [hm0]
        have hov := over_all L 15 1 HOv.out
        have hF := fst_le L m (fun j h1 h2 => hov j h1 (by omega))
        have h215 : 2 ^ m ≤ 2 ^ 15 := Nat.pow_le_pow_right (by decide) hm15
        have hbl := beg_all L HOk.out m
        have hcl : cn (L.take i) m ≤ n := by have := cn_take_le L i m; have := cn_le L m; have := HLn.out; omega
        have hF2 : ((fst L m : Nat) : Int) ≤ 32768 := by omega
        have hB2 : ((beg L m : Nat) : Int) ≤ 1000000 := by have := HLn.out; omega
        have hC2 : ((cn (L.take i) m : Nat) : Int) ≤ 1000000 := by omega
        have hT2 : ((beg L 16 : Nat) : Int) ≤ 2000000 := by have := HXY.out; have := HT3.out; omega
        have c52 := HC.out.c4
        have a1 := HA.out.cell m (by simp [atL, tab]; omega)
        rw [hpe] at a1
        have s1 := hS1.cell (beg L m + cn (L.take i) m) (by rw [hs1]; exact hp)
        have f1 := hS1.fz (beg L m + cn (L.take i) m)
        have HS2 := Aside0.mk hs2
        have HCD := Aside0.mk hcd
        have hPB : ((beg L m + cn (L.take i) m : Nat) : Int) = ((beg L m : Nat) : Int) + ((cn (L.take i) m : Nat) : Int) := by omega
        have HPB := Aside0.mk hPB
        have hPT : ((beg L m + cn (L.take i) m : Nat) : Int) < (T : Int) := by have := HXY.out; omega
        have hT3 : (T : Int) ≤ 2000000 := by have := HT3.out; omega
        have k1 := HC.out.other (p := ⟨b1, beg L m + cn (L.take i) m, none⟩) (by show g ≠ b1; omega) (.int .i64 i)
        have r1a := HA.out.far (p := ⟨b1, beg L m + cn (L.take i) m, none⟩) (by show ba ≠ b1; omega) (.int .i64 i)
        have r1n := HN.out.far (p := ⟨b1, beg L m + cn (L.take i) m, none⟩) (by show b2 ≠ b1; omega) (.int .i64 i)
        have r1s := hS1.set (beg L m + cn (L.take i) m) i
        have g1 := grown_new HG.out (p := ⟨b1, beg L m + cn (L.take i) m, none⟩) (by show w.heap.size ≤ b1; have := HBA.out; omega) (.int .i64 i)
        have HA0 := Aside0.mk (atL_set L i m hm0 hm15 HX2.out (((beg L m + cn (L.take i) m : Nat) : Int) + 1) rfl)
        clear hS1 hS2 hs1 hs2 hpos hcd hF h215 hbl hcl hT2 hPB hp hpe hov HS
        generalize hP : beg L m + cn (L.take i) m = P at *
        clear hP
        generalize hFF : fst L m = F at *
        generalize hBB : beg L m = Bm at *
        have HFF := Aside0.mk hFF
        have HBB := Aside0.mk hBB
        clear hFF hBB
        generalize cn (L.take i) m = q at *
        have c53 := k1.c5
        have cf := k1.cf m (by omega)
        rw [upto_get _ _ m (by omega) (by omega), HFF.out] at cf
        have cb := k1.cb m (by omega)
        rw [upto_get _ _ m (by omega) (by omega), HBB.out] at cb
        have a2 := r1a.cell m (by simp [atL, tab]; omega)
        have hpe2 : (atL L i).getD m 0 = (P : Int) := by
          have h1 := HA.out.cell m (by simp [atL, tab]; omega)
          rw [a1] at h1
          injection h1 with h1
          injection h1 with _ h1
          exact h1.symm
        rw [hpe2] at a2
        have n2 := r1n.cell i (by rw [nmL_len, HLn.out]; exact hlt)
        have f2 := r1n.fz i
        have r2n := r1n.set i ((F : Int) + (P : Int) - (Bm : Int))
        have r2a := r1a.far (p := ⟨b2, i, none⟩) (by show ba ≠ b2; omega) (.int .i64 ((F : Int) + (P : Int) - (Bm : Int)))
        have r2s := r1s.far (p := ⟨b2, i, none⟩) (by show b1 ≠ b2; omega) (.int .i64 ((F : Int) + (P : Int) - (Bm : Int)))
        have k2 := k1.other (p := ⟨b2, i, none⟩) (by show g ≠ b2; omega) (.int .i64 ((F : Int) + (P : Int) - (Bm : Int)))
        have g2 := grown_new g1 (p := ⟨b2, i, none⟩) (by show w.heap.size ≤ b2; have := HBA.out; omega) (.int .i64 ((F : Int) + (P : Int) - (Bm : Int)))
        have a3 := r2a.cell m (by simp [atL, tab]; omega)
        rw [hpe2] at a3
        have f3 := r2a.fz m
        have r3a := r2a.set m ((P : Int) + 1)
        have r3n := r2n.far (p := ⟨ba, m, none⟩) (by show b2 ≠ ba; omega) (.int .i64 ((P : Int) + 1))
        have r3s := r2s.far (p := ⟨ba, m, none⟩) (by show b1 ≠ ba; omega) (.int .i64 ((P : Int) + 1))
        have k3 := k2.other (p := ⟨ba, m, none⟩) (by show g ≠ ba; omega) (.int .i64 ((P : Int) + 1))
        have g3 := grown_new g2 (p := ⟨ba, m, none⟩) (by show w.heap.size ≤ ba; have := HBA.out; omega) (.int .i64 ((P : Int) + 1))
        have RA3 := Aside0.mk r3a
        have RN3 := Aside0.mk r3n
        have RS3 := Aside0.mk r3s
        have KK3 := Aside0.mk k3
        have GG3 := Aside0.mk g3
        have HPE := Aside0.mk hpe2
        clear r1a r1n r1s r2a r2n r2s r3a r3n r3s k1 k2 k3 g1 g2 g3 hpe2
        generalize hnn : (nmL L i).getD i 0 = nn at *
        clear hnn
        generalize hss : S.getD P 0 = ss at *
        clear hss
        have p1 : (0 : Int) ≤ (F : Int) := by omega
        have p2 : (0 : Int) ≤ (P : Int) := by omega
        have p3 : (0 : Int) ≤ (Bm : Int) := by omega
        go_wp2_with fail
        go_region
        go_wp2_with fail
        go_region
        go_wp2_with fail
        have e1 : ((i : Int) + 1) = ((i + 1 : Nat) : Int) := by omega
        rw [e1]
        go_roundg (n - (i + 1))
        case measure => have := HK.out; omega
        case rel =>
          refine ⟨i + 1, rfl, by omega, ⟨rfl⟩, ⟨KK3.out.drewN 2⟩, ⟨?_⟩, ⟨?_⟩, ⟨_, RS3.out.drewN 2, HS2.out⟩, ⟨grown_drewN GG3.out 2⟩⟩
          · have := RA3.out
            rw [HA0.out] at this
            exact this.drewN 2
          · have := RN3.out
            rw [nmL_set L i (by rw [HLn.out]; exact hlt) _ (by rw [HCD.out, HPB.out]; omega)] at this
            exact this.drewN 2
    · have hin : i = n := by omega
      subst hin
      go_wp2_with fail
      refine bodyPost_end (results_none rfl _ _ _) rfl ?_
      obtain ⟨S, hS1, hS2⟩ := HS.out
      have := HC.out
      rw [HXY.out] at this
      exact ⟨rfl, HG.out, b1, b2, S, by have := HBA.out; omega, by have := HBA.out; omega, by omega, this, hS1, hS2, HN.out⟩
end Go.Proofs.Ytlgpmpnobcdogaa.My
