/- The walk of deflate's Tokens. -/
import Derived.Test.YtiaiopdiooobiaaMyFind
namespace Go.Proofs.Ytiaiopdiooobiaa.My
open Go.RowKit Go.Proofs.YtiaiopdiooobiaaW.PrintWords Go.Proofs.YtiaiopdiooobiaaW.PrintLast Go.Proofs.YtiaiopdiooobiaaW.PrintMore
set_option linter.unusedVariables false
set_option linter.unusedSimpArgs false

/-- A new finder's cells. -/
def fcells (x y : Value) : Array Value := (x :: (nums .i64 (List.replicate 4096 0) ++ [y])).toArray
theorem new_finder (x y : Value) : (Try.zeroCells50.setIfInBounds 0 x).setIfInBounds 4097 y = fcells x y := by kernel_rfl
theorem info_tok : (Try.prog.info? 45).map (fun i => (i.zero, i.size, i.bytes)) = some (some (.agg #[.int .u8 0, .int .i64 0, .int .i64 0]), 3, 24) := by kernel_rfl
theorem info_int : (Try.prog.info? 3).map (fun i => (i.zero, i.size, i.bytes)) = some (some (.int .i64 0), 1, 8) := by kernel_rfl
theorem make_ints (n : Nat) (hn : n ≤ 16777216) (W : World) : (Instr.makeSlice 47 (.int .i64 n) (.int .i64 n)).run Try.prog W = .ok (.slice (some ⟨W.heap.size, 0, none⟩) n n) (W.alloc (.cells (nums .i64 (List.replicate n 0)).toArray 3)) := by
  obtain ⟨i0, hi, hz⟩ := Option.map_eq_some_iff.1 info_int
  simp only [Prod.mk.injEq] at hz
  have h := run_makeSlice W (P := Try.prog) 47 3 i0 (.int .i64 0) Try.underlying47 hi hz.1 .i64 .i64 n n (by omega) (by omega) (by rw [hz.2.1]; omega) (by rw [hz.2.2]; omega) (by omega)
  rw [hz.2.1] at h
  rw [← made_nums]
  simpa [Value.cells] using h
/-- Tokens' cells. -/
def tkCells (l : List Tk) : List Value := l.flatMap fun k => [.int .u8 k.b, .int .i64 k.l, .int .i64 k.d]
set_option maxHeartbeats 4000000 in
set_option maxRecDepth 100000 in
theorem tokens_calls (w : World) (A : Option Addr) (c : Nat) (t : List Int) (n : Nat) (ht : (Kd.int .u8).C w A n t) (hn : n ≤ 16000000) :
    Calls Try.prog 8 #[.slice A n c] w fun e w' => ∃ v, e = .returned v ∧ w'.ownsRow w.heap.size 45 3 v (toks t).length (tkCells (toks t)) ∧ Below w.heap.size w w' := by
  have hl : t.length = n := ht.1
  have hmk := make_ints n (by omega)
  have h3 : (n : Int) ≤ 16000000 := by omega
  have HT := Aside0.mk ht
  have HL := Aside0.mk hl
  clear ht hn hl
  go_enter Try.func8, Try.ntmps8
  go_wp2_with fail
  have hknow : Knows t (List.replicate 4096 0) (List.replicate n 0) 0 := ⟨fun H hH => (by show (List.replicate 4096 (0 : Int)).getD H 0 = 0; rw [List.getD_eq_getElem?_getD, List.getElem?_replicate]; split <;> rfl), fun y hy => by omega⟩
  have hf0 : Fnd ((w.alloc (.cells (nums .i64 (List.replicate n 0)).toArray 3)).alloc (.cells ((Try.zeroCells50.setIfInBounds 0 (.slice A n c)).setIfInBounds 4097 (.slice (some ⟨w.heap.size, 0, none⟩) n n)) 50)) w.heap.size (w.heap.size + 1) w.heap.size A c t (List.replicate 4096 0) (List.replicate n 0) := by
    rw [new_finder]
    refine ⟨?_, by simp, ?_, ?_, by omega⟩
    · have := new2 w (.cells (nums .i64 (List.replicate n 0)).toArray 3) (.cells (fcells (.slice A n c) (.slice (some ⟨w.heap.size, 0, none⟩) n n)) 50)
      rw [HL.out]
      exact this
    · rw [HL.out]; exact Kd.C_alloc (Kd.C_alloc HT.out _) _
    · rw [HL.out]
      have := own_made w w.heap.size 3 .i64 n (Nat.le_refl _) (by omega)
      rw [made_nums] at this
      exact own_alloc this _
  have HF0 := Aside0.mk hf0
  have HK0 := Aside0.mk hknow
  have HB0 := Aside0.mk (below_alloc (below_alloc (Below.refl w.heap.size w) (.cells (nums .i64 (List.replicate n 0)).toArray 3)) (.cells ((Try.zeroCells50.setIfInBounds 0 (.slice A n c)).setIfInBounds 4097 (.slice (some ⟨w.heap.size, 0, none⟩) n n)) 50))
  clear hf0 hknow hmk
  go_loopg [4, 5] n (fun kq v4 v5 wr => ∃ (a : Nat) (l : List Tk) (last back : List Int), v5 = .int .i64 a ∧ a ≤ n ∧ Aside0 (kq = n - a) ∧ Aside0 (Fnd wr w.heap.size (w.heap.size + 1) w.heap.size A c t last back ∧ Knows t last back a ∧ back.length = t.length) ∧ Aside0 (wr.ownsRow w.heap.size 45 3 v4 l.length (tkCells l)) ∧ Aside0 (l ++ rest t a = toks t ∧ l.length ≤ a) ∧ Aside0 (Below w.heap.size w wr))
  case atStart =>
    refine ⟨0, [], _, _, rfl, Nat.zero_le _, ⟨rfl⟩, ⟨HF0.out, HK0.out, by simp [HL.out]⟩, ⟨own_nil _ _ _ _⟩, ⟨?_, Nat.le_refl _⟩, HB0⟩
    unfold rest toks
    simp
  case round =>
    obtain ⟨a, l, last, back, rfl, ha, HK, HF, HO, HR, HB⟩ := hrel
    obtain ⟨Ao, co, rfl⟩ := own_slice HO.out
    by_cases hlt : a < n
    · have hlt' : (a : Int) < (n : Int) := by omega
      have c0 := HF.out.1.c0
      obtain ⟨ad, rfl, hby⟩ := byte_at HT.out a hlt
      have hadl := World.block_lt_of_cell? w _ hby
      rw [add_blk] at hadl
      have HAD : Aside0 (ad.block ≠ w.heap.size + 1 ∧ ad.block ≠ w.heap.size) := ⟨by omega, by omega⟩
      have hbr := pw_cell_below HB.out hby
      have hrs := rest_step t a (by have := HL.out; omega)
      have hfit := tok_fits t a (by have := HL.out; omega)
      have hlen := tok_le t a
      have hfind := find_calls wr w.heap.size (w.heap.size + 1) w.heap.size (some ad) c t last back a HF.out.1 (by have := HL.out; omega) (by have := HL.out; omega) HF.out.2.1
      have htk : tok t a = if (scan t a a 0 0 0).1 = 0 then ⟨t.getD a 0, 0, (scan t a a 0 0 0).2⟩ else ⟨0, (scan t a a 0 0 0).1, (scan t a a 0 0 0).2⟩ := rfl
      generalize hsl : (scan t a a 0 0 0).1 = sl at *
      generalize hsd : (scan t a a 0 0 0).2 = sd at *
      have hsl258 : (sl : Int) ≤ 258 := by have := tok_l t a; rw [hsl] at this; omega
      have HFi := Aside0.mk hfind
      obtain ⟨b, hb⟩ : ∃ b, b = (tok t a).b := ⟨_, rfl⟩
      have htl : (tok t a).l = sl := by rw [tok_l, hsl]
      have htd : (tok t a).d = sd := by rw [htk]; split <;> rfl
      have htt : tok t a = ⟨b, sl, sd⟩ := by
        rw [hb, ← htl, ← htd]
      have HTT := Aside0.mk htt
      have hmx0 : max sl 1 = max sl 1 := rfl
      have HBX : Aside0 (if sl = 0 then b = t.getD a 0 else b = 0) := ⟨by rw [hb, htk]; split <;> rfl⟩
      obtain ⟨m, hm⟩ : ∃ m, m = max sl 1 := ⟨_, rfl⟩
      have hmx : max (sl : Int) 1 = (m : Int) := by omega
      have HFit : Aside0 (a + m ≤ n) := ⟨by rw [htl] at hfit; have := HL.out; omega⟩
      have HRS : Aside0 (rest t a = ⟨b, sl, sd⟩ :: rest t (a + m)) := ⟨by rw [hrs, htt, hm]⟩
      have hm258 : (m : Int) ≤ 258 := by omega
      have HM1 : Aside0 (1 ≤ m) := ⟨by omega⟩
      have HL0 := Aside0.mk (show l.length ≤ a from HR.out.2)
      have HA := Aside0.mk (show a < n from hlt)
      have hofin : ∀ (v : Value), tkCells l ++ [.int .u8 b, .int .i64 sl, .int .i64 sd] = tkCells (l ++ [⟨b, sl, sd⟩]) := fun _ => by simp [tkCells]
      have HOF := Aside0.mk (hofin undef)
      clear hofin htk htl htd htt hb hsl hsd hfit hrs hlen hfind hlt ha hadl hmx0 hmx
      by_cases hz : sl = 0
      · have dz : ((sl : Int) == 0) = true := by simp [hz]
        have hs0 : (sl : Int) ≤ 0 := by omega
        obtain rfl : m = 1 := by omega
        have hbx : b = t.getD a 0 := by have := HBX.out; rwa [if_pos hz] at this
        rw [← hbx] at hbr
        clear hbx
        clear hz hm
        go_wp2_with (first
          | (go_at_call 17; refine HFi.out.mono ?_; rintro e w2 ⟨rfl, hb2⟩; unfold tkV; have hbr2 := pw_cell_below (below_alloc hb2 (.cells #[.int .u8 0, .int .i64 sl, .int .i64 sd] 45)) hbr; have HF2 := Aside0.mk (HF.out.1.below (below_alloc hb2 (.cells #[.int .u8 b, .int .i64 sl, .int .i64 sd] 45))); have HO2 := Aside0.mk (pw_own_below HO.out (below_alloc hb2 (.cells #[.int .u8 b, .int .i64 sl, .int .i64 sd] 45))); have HB2 := Aside0.mk (HB.out.trans ((below_alloc hb2 (.cells #[.int .u8 b, .int .i64 sl, .int .i64 sd] 45)).mono HB.out.size)); have hn2 := Aside0.mk (alloc_self w2 (.cells #[.int .u8 b, .int .i64 sl, .int .i64 sd] 45)); have HS2 := Aside0.mk hb2.size; clear hb2)
          | ((with_reducible refine gate_dst (N := 31) rfl ?_); refine print_append_cells (w0 := w) w.heap.size rfl (.tmp 28) (.tmp 30) 26 45 _ 3 24 rfl Try.underlying26 info_tok rfl (by decide) (by decide) _ _ _ [.int .u8 b, .int .i64 sl, .int .i64 sd] rfl (by show Value.slice (some ⟨w2.heap.size + 1, 0, none⟩) 1 1 = _; simp) rfl (by simp [Value.oneCell']) HO2.out HB2.out HB2.out.size (by have := HL0.out; have := HA.out; omega) ?_; intro v3 w3 ho3 hb3 hg3 hk3; obtain ⟨A3, c3, rfl⟩ := own_slice ho3; have hn3 := blk_grown hn2.out hg3 (fun h => by have := own_lt HO.out _ h.symm; have := HS2.out; omega); have m1 := blk_cell hn3 1; simp only [Array.getElem?_eq_getElem, List.size_toArray, List.length_cons, List.length_nil, Nat.reduceAdd, Nat.reduceLT, List.getElem_toArray, List.getElem_cons_succ, List.getElem_cons_zero] at m1; rw [HOF.out] at ho3; have HO3 := Aside0.mk ho3; have HB3 := Aside0.mk hb3; have HG3 := Aside0.mk hg3; clear ho3 hb3 hg3 hk3 hn3))
        have HF3 : Aside0 (Fnd w3 w.heap.size (w.heap.size + 1) w.heap.size (some ad) c t last back) := by
          refine ⟨⟨blk_grown HF2.out.blk HG3.out (own_ne HO2.out HF2.out.blk (by decide)), HF2.out.len, ?_, own_other HF2.out.row HG3.out (own_type_ne HF2.out.row HO2.out (by decide)), HF2.out.bg⟩⟩
          rw [HL.out]
          exact Kd.C_below HT.out HB3.out
        have HKn := Aside0.mk HF.out.2
        have HNG : Aside0 (∀ k, (Value.slice A3 (l.length + 1) c3).ownBlock = some k → True) := ⟨fun _ _ => trivial⟩
        obtain ⟨wo, rfl⟩ : ∃ wo : World, wo = wr := ⟨_, rfl⟩
        have hM : 1 ≤ 258 := by omega
        go_loopg [5, 35] 1 (fun kq v5 v35 w4 => ∃ (i j : Nat) (last' back' : List Int), v5 = .int .i64 i ∧ v35 = .int .i64 j ∧ Aside0 (i = a + j ∧ j ≤ 1 ∧ kq = 1 - j) ∧ Aside0 (Fnd w4 w.heap.size (w.heap.size + 1) w.heap.size (some ad) c t last' back' ∧ Knows t last' back' i ∧ back'.length = t.length) ∧
          Aside0 (w4.ownsRow w.heap.size 45 3 (.slice A3 (l.length + 1) c3) (l.length + 1) (tkCells (l ++ [⟨b, sl, sd⟩]))) ∧ Aside0 (Below w.heap.size w w4))
        case atStart => exact ⟨a, 0, last, back, rfl, rfl, ⟨by omega⟩, ⟨HF3.out, HKn.out⟩, HO3, HB3⟩
        case round =>
          obtain ⟨i, j, last', back', rfl, rfl, HJ, HF4, HO4, HB4⟩ := hrel
          have b5 : (i : Int) ≤ 16000000 := by have := HJ.out; have := HFit.out; omega
          have b6 : (j : Int) ≤ 258 := by have := HJ.out; omega
          by_cases hj : j < 1
          · have hj' : (j : Int) < 1 := by omega
            have HAdd := Aside0.mk (add_calls wr w.heap.size (w.heap.size + 1) w.heap.size (some ad) c t last' back' i HF4.out.1 (by have := HL.out; have := HJ.out; have := HFit.out; omega) (by have := HL.out; omega) HF4.out.2.1 (fun ad' e => by cases e; exact HAD.out) HF4.out.2.2)
            have HJ2 := Aside0.mk hj
            clear hj
            go_wp2_with (go_at_call 18; refine HAdd.out.mono ?_; rintro e w5 ⟨rfl, last2, back2, hf5, hk5, hl5, hm5⟩; have HF5 := Aside0.mk (And.intro hf5 (And.intro hk5 hl5)); have HM5 := Aside0.mk hm5; clear hf5 hk5 hl5 hm5)
            go_roundg (1 - (j + 1))
            case measure => have := HJ.out; have := HJ2.out; omega
            case rel =>
              refine ⟨i + 1, j + 1, last2, back2, by go_num, by go_num, ⟨by have := HJ.out; have := HJ2.out; omega⟩, HF5, ⟨?_⟩, ⟨?_⟩⟩
              · refine own_move HO4.out fun k hk => HM5.out.blk k (own_lt HO4.out k hk) (fun e => ?_) (fun e => ?_)
                · exact own_ne HO4.out HF4.out.1.blk (by decide) (by rw [hk, e])
                · rcases own_type_ne HO4.out HF4.out.1.row (by decide) with h | h
                  · rw [hk] at h; cases h
                  · exact h (by rw [hk, e]; rfl)
              · exact HM5.out.below HB4.out HB4.out.size (by omega) (Nat.le_refl _)
          · have hj' : ¬ ((j : Int) < 1) := by omega
            have HEq : Aside0 (i = a + 1) := ⟨by have := HJ.out; omega⟩
            clear hj
            go_wp2_with fail
            go_roundg (n - (a + 1))
            case measure => have := HK.out; have := HA.out; have := HM1.out; omega
            case rel =>
              refine ⟨a + 1, l ++ [⟨b, sl, sd⟩], last', back', by rw [HEq.out], HFit.out, ⟨rfl⟩, ⟨HF4.out.1, by rw [← HEq.out]; exact HF4.out.2.1, HF4.out.2.2⟩, ⟨?_⟩, ⟨?_, ?_⟩, HB4⟩
              · rw [List.length_append]; exact HO4.out
              · rw [← HR.out.1, HRS.out]; simp
              · have := HL0.out; have := HM1.out; simp; omega
      · have dz : ((sl : Int) == 0) = false := beq_eq_false_iff_ne.2 (by omega)
        have hs0 : (1 : Int) ≤ (sl : Int) := by omega
        obtain rfl : sl = m := by omega
        have hbx : b = 0 := by have := HBX.out; rwa [if_neg hz] at this
        subst hbx
        clear hz hm
        go_wp2_with (first
          | (go_at_call 17; refine HFi.out.mono ?_; rintro e w2 ⟨rfl, hb2⟩; unfold tkV; have hbr2 := pw_cell_below (below_alloc hb2 (.cells #[.int .u8 0, .int .i64 sl, .int .i64 sd] 45)) hbr; have HF2 := Aside0.mk (HF.out.1.below (below_alloc hb2 (.cells #[.int .u8 0, .int .i64 sl, .int .i64 sd] 45))); have HO2 := Aside0.mk (pw_own_below HO.out (below_alloc hb2 (.cells #[.int .u8 0, .int .i64 sl, .int .i64 sd] 45))); have HB2 := Aside0.mk (HB.out.trans ((below_alloc hb2 (.cells #[.int .u8 0, .int .i64 sl, .int .i64 sd] 45)).mono HB.out.size)); have hn2 := Aside0.mk (alloc_self w2 (.cells #[.int .u8 0, .int .i64 sl, .int .i64 sd] 45)); have HS2 := Aside0.mk hb2.size; clear hb2)
          | ((with_reducible refine gate_dst (N := 31) rfl ?_); refine print_append_cells (w0 := w) w.heap.size rfl (.tmp 28) (.tmp 30) 26 45 _ 3 24 rfl Try.underlying26 info_tok rfl (by decide) (by decide) _ _ _ [.int .u8 0, .int .i64 sl, .int .i64 sd] rfl (by show Value.slice (some ⟨w2.heap.size + 1, 0, none⟩) 1 1 = _; simp) rfl (by simp [Value.oneCell']) HO2.out HB2.out HB2.out.size (by have := HL0.out; have := HA.out; omega) ?_; intro v3 w3 ho3 hb3 hg3 hk3; obtain ⟨A3, c3, rfl⟩ := own_slice ho3; have hn3 := blk_grown hn2.out hg3 (fun h => by have := own_lt HO.out _ h.symm; have := HS2.out; omega); have m1 := blk_cell hn3 1; simp only [Array.getElem?_eq_getElem, List.size_toArray, List.length_cons, List.length_nil, Nat.reduceAdd, Nat.reduceLT, List.getElem_toArray, List.getElem_cons_succ, List.getElem_cons_zero] at m1; rw [HOF.out] at ho3; have HO3 := Aside0.mk ho3; have HB3 := Aside0.mk hb3; have HG3 := Aside0.mk hg3; clear ho3 hb3 hg3 hk3 hn3))
        have HF3 : Aside0 (Fnd w3 w.heap.size (w.heap.size + 1) w.heap.size (some ad) c t last back) := by
          refine ⟨⟨blk_grown HF2.out.blk HG3.out (own_ne HO2.out HF2.out.blk (by decide)), HF2.out.len, ?_, own_other HF2.out.row HG3.out (own_type_ne HF2.out.row HO2.out (by decide)), HF2.out.bg⟩⟩
          rw [HL.out]
          exact Kd.C_below HT.out HB3.out
        have HKn := Aside0.mk HF.out.2
        have HNG : Aside0 (∀ k, (Value.slice A3 (l.length + 1) c3).ownBlock = some k → True) := ⟨fun _ _ => trivial⟩
        obtain ⟨wo, rfl⟩ : ∃ wo : World, wo = wr := ⟨_, rfl⟩
        have hM : (sl : Int) ≤ 258 := by omega
        go_loopg [5, 35] sl (fun kq v5 v35 w4 => ∃ (i j : Nat) (last' back' : List Int), v5 = .int .i64 i ∧ v35 = .int .i64 j ∧ Aside0 (i = a + j ∧ j ≤ sl ∧ kq = sl - j) ∧ Aside0 (Fnd w4 w.heap.size (w.heap.size + 1) w.heap.size (some ad) c t last' back' ∧ Knows t last' back' i ∧ back'.length = t.length) ∧
          Aside0 (w4.ownsRow w.heap.size 45 3 (.slice A3 (l.length + 1) c3) (l.length + 1) (tkCells (l ++ [⟨0, sl, sd⟩]))) ∧ Aside0 (Below w.heap.size w w4))
        case atStart => exact ⟨a, 0, last, back, rfl, rfl, ⟨by omega⟩, ⟨HF3.out, HKn.out⟩, HO3, HB3⟩
        case round =>
          obtain ⟨i, j, last', back', rfl, rfl, HJ, HF4, HO4, HB4⟩ := hrel
          have b5 : (i : Int) ≤ 16000000 := by have := HJ.out; have := HFit.out; omega
          have b6 : (j : Int) ≤ 258 := by have := HJ.out; omega
          by_cases hj : j < sl
          · have hj' : (j : Int) < (sl : Int) := by omega
            have HAdd := Aside0.mk (add_calls wr w.heap.size (w.heap.size + 1) w.heap.size (some ad) c t last' back' i HF4.out.1 (by have := HL.out; have := HJ.out; have := HFit.out; omega) (by have := HL.out; omega) HF4.out.2.1 (fun ad' e => by cases e; exact HAD.out) HF4.out.2.2)
            have HJ2 := Aside0.mk hj
            clear hj
            go_wp2_with (go_at_call 18; refine HAdd.out.mono ?_; rintro e w5 ⟨rfl, last2, back2, hf5, hk5, hl5, hm5⟩; have HF5 := Aside0.mk (And.intro hf5 (And.intro hk5 hl5)); have HM5 := Aside0.mk hm5; clear hf5 hk5 hl5 hm5)
            go_roundg (sl - (j + 1))
            case measure => have := HJ.out; have := HJ2.out; omega
            case rel =>
              refine ⟨i + 1, j + 1, last2, back2, by go_num, by go_num, ⟨by have := HJ.out; have := HJ2.out; omega⟩, HF5, ⟨?_⟩, ⟨?_⟩⟩
              · refine own_move HO4.out fun k hk => HM5.out.blk k (own_lt HO4.out k hk) (fun e => ?_) (fun e => ?_)
                · exact own_ne HO4.out HF4.out.1.blk (by decide) (by rw [hk, e])
                · rcases own_type_ne HO4.out HF4.out.1.row (by decide) with h | h
                  · rw [hk] at h; cases h
                  · exact h (by rw [hk, e]; rfl)
              · exact HM5.out.below HB4.out HB4.out.size (by omega) (Nat.le_refl _)
          · have hj' : ¬ ((j : Int) < (sl : Int)) := by omega
            have HEq : Aside0 (i = a + sl) := ⟨by have := HJ.out; omega⟩
            clear hj
            go_wp2_with fail
            go_roundg (n - (a + sl))
            case measure => have := HK.out; have := HA.out; have := HM1.out; omega
            case rel =>
              refine ⟨a + sl, l ++ [⟨0, sl, sd⟩], last', back', by rw [HEq.out], HFit.out, ⟨rfl⟩, ⟨HF4.out.1, by rw [← HEq.out]; exact HF4.out.2.1, HF4.out.2.2⟩, ⟨?_⟩, ⟨?_, ?_⟩, HB4⟩
              · rw [List.length_append]; exact HO4.out
              · rw [← HR.out.1, HRS.out]; simp
              · have := HL0.out; have := HM1.out; simp; omega
    · obtain rfl : a = n := by omega
      have hni : ¬ ((a : Int) < (a : Int)) := by omega
      clear ha hlt
      have HEnd := Aside0.mk (rest_end t a (by have := HL.out; omega))
      go_wp2_with fail
      go_ret
      have h := HR.out.1
      rw [HEnd.out, List.append_nil] at h
      exact ⟨_, rfl, h ▸ HO.out, HB.out⟩
end Go.Proofs.Ytiaiopdiooobiaa.My
