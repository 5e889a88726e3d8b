/- The walk of literal.unicode. -/
import Derived.Test.YtojhbioljpamhaaDoorMyFigs
import Derived.Lib.SmallJoins
namespace Go.Proofs.YtojhbioljpamhaaDoor.My
open Go.RowKit Go.Lib Go.Proofs.YtojhbioljpamhaaDoorW.PrintWords Go.Proofs.YtojhbioljpamhaaDoorW.PrintLast Go.Proofs.YtojhbioljpamhaaDoorW.PrintMore
set_option maxRecDepth 100000
set_option linter.unusedVariables false
set_option linter.unusedSimpArgs false

/-- The second half of a pair. -/
def lowR (s : ByteArray) (i : Nat) (x : Int) : Except Int (Int × Nat) :=
  if h0 : i < s.size then if byteI s i h0 ≠ 92 then .error 9 else if h1 : i + 1 < s.size then if byteI s (i + 1) h1 ≠ 117 then .error 9 else
    match figR s 9 4 (i + 2) 0 with
    | .error c => .error c
    | .ok y => if 56320 ≤ y ∧ y < 57344 then .ok (65536 + (x - 55296) * 1024 + (y - 56320), i + 6) else .error 9
  else .error 10 else .error 10
/-- A sign by its number. -/
def uniR (s : ByteArray) (i : Nat) : Except Int (Int × Nat) :=
  match figR s 2 4 i 0 with
  | .error c => .error c
  | .ok x => if x < 55296 ∨ 57344 ≤ x then .ok (x, i + 4) else if 56320 ≤ x then .error 9 else lowR s (i + 4) x
section
variable {B g : Nat} {s : ByteArray} {i : Nat} {out : List Int}
theorem unicode_calls (w : World) (h : Lit w B g s i out) (hs : s.size ≤ 1000000) (hi : i ≤ s.size) :
    Calls Tryd.prog 48 #[.pointer (some ⟨g, 0, none⟩)] w fun e w' =>
      (∃ x j, uniR s i = .ok (x, j) ∧ e = .returned (.int .i32 x) ∧ 0 ≤ x ∧ x ≤ 1114111 ∧ i + 4 ≤ j ∧ j ≤ s.size ∧ Lit w' B g s j out ∧ Kp B g w w') ∨ (∃ c, uniR s i = .error c ∧ Thr B g w c e w') := by
  have HF := Aside0.mk (figures_calls 2 w h hs hi)
  have hcv : ∀ (W : World), (convert 44 44 (.slice (some ⟨W.heap.size, 0, none⟩) 2 2)).run Tryd.prog (W.alloc (.cells #[.int .u8 92, .int .u8 117] 5)) = .ok (.slice (some ⟨W.heap.size, 0, none⟩) 2 2) (W.alloc (.cells #[.int .u8 92, .int .u8 117] 5 (2, 3))) := fun W => Joins.run_convert_bytes_const_at W _ _ #[.int .u8 92, .int .u8 117] 2 2 W.heap.size rfl Tryd.underlying44 Tryd.underlying5
  clear h
  go_enter Tryd.func48, Tryd.ntmps48
  go_wp2_with fail
  refine HF.out.mono ?_
  rintro e w1 (⟨x, hx, rfl, hx0, hx1, hj, hL1, hK1⟩ | ⟨c, hc, hT⟩)
  · have H1 := Aside0.mk (And.intro hL1 hK1)
    clear hL1 hK1 HF
    by_cases ha : x < 55296 ∨ 57344 ≤ x
    · have HU : Aside0 (uniR s i = .ok (x, i + 4)) := ⟨by rw [uniR, hx]; simp only; rw [if_pos ha]⟩
      clear hx
      rcases ha with ha | ha
      · go_wp2_with fail
        go_ret
        exact .inl ⟨x, i + 4, HU.out, rfl, hx0, by omega, Nat.le_refl _, hj, H1.out.1, H1.out.2⟩
      · have f0 : decide (x < 55296) = false := decide_eq_false (by omega)
        have f1 : ¬ x < 55296 := by omega
        go_wp2_with fail
        go_ret
        exact .inl ⟨x, i + 4, HU.out, rfl, hx0, by omega, Nat.le_refl _, hj, H1.out.1, H1.out.2⟩
    · have a1 : 55296 ≤ x := by omega
      have a2 : x < 57344 := by omega
      by_cases hb : x < 56320
      · have HU : Aside0 (uniR s i = lowR s (i + 4) x) := ⟨by rw [uniR, hx]; simp only; rw [if_neg ha, if_neg (by omega)]⟩
        clear hx ha a2
        have f1 : decide (x < 56320) = true := decide_eq_true hb
        have HM : Aside0 (∀ w, Calls Tryd.prog 35 #[.bool true, .int .i64 9, .string ⟨#[]⟩] w fun e w' => e = .returned (.tuple #[]) ∧ w = w') := ⟨fun w => must_yes _ _ _⟩
        go_wp2_with (go_at_call 35; refine (HM.out _).mono ?_; rintro e w' ⟨rfl, rfl⟩)
        have HS : Aside0 ((w1.alloc (.cells #[.int .u8 92, .int .u8 117] 5 (2, 3))).heap[w1.heap.size]? = some (.cells #[.int .u8 92, .int .u8 117] 5 (2, 3)) ∧ Lit (w1.alloc (.cells #[.int .u8 92, .int .u8 117] 5 (2, 3))) B g s (i + 4) out ∧ Kp B g w (w1.alloc (.cells #[.int .u8 92, .int .u8 117] 5 (2, 3))) ∧ w1.heap.size ≠ g) := ⟨alloc_self _ _, H1.out.1.below (below_alloc (Below.refl _ _) _), H1.out.2.below (below_alloc (Below.refl _ _) _), by
          obtain ⟨c, v, hb⟩ := H1.out.1
          have := blk_lt hb.blk
          omega⟩
        have k0 : (w1.alloc (.cells #[.int .u8 92, .int .u8 117] 5 (2, 3))).cell? ⟨w1.heap.size, 0, none⟩ = some (.int .u8 92) := by rw [Joins.cell_of_block HS.out.1]; rfl
        generalize (w1.alloc (.cells #[.int .u8 92, .int .u8 117] 5 (2, 3))) = w2 at *
        have HN := Aside0.mk (next_calls w2 HS.out.2.1 hs hj)
        refine wp_loop_rounds 3 ?_
        rw [rounds_succ]
        go_wp2_with fail
        refine HN.out.mono ?_
        rintro e w3 (⟨hl0, rfl, hL3, hK3⟩ | ⟨hge, hT⟩)
        · have H3 := Aside0.mk (And.intro hL3 (And.intro (HS.out.2.2.1.trans (hK3 B)) ((hK3 w2.heap.size).low w1.heap.size (blk_lt HS.out.1) (blk_lt HS.out.1) HS.out.2.2.2 |>.trans HS.out.1)))
          clear hL3 hK3 HN
          have k1 : w3.cell? ⟨w1.heap.size, 1, none⟩ = some (.int .u8 117) := by rw [Joins.cell_of_block H3.out.2.2]; rfl
          by_cases e0 : byteI s (i + 4) hl0 = 92
          · have HU2 : Aside0 (lowR s (i + 4) x = if h1 : i + 4 + 1 < s.size then if byteI s (i + 4 + 1) h1 ≠ 117 then .error 9 else
                match figR s 9 4 (i + 4 + 2) 0 with
                | .error c => .error c
                | .ok y => if 56320 ≤ y ∧ y < 57344 then .ok (65536 + (x - 55296) * 1024 + (y - 56320), i + 4 + 6) else .error 9
              else .error 10) := ⟨by rw [lowR, dif_pos hl0, if_neg (by simpa using e0)]⟩
            have f2 : (byteI s (i + 4) hl0 == 92) = true := beq_iff_eq.2 e0
            have HN2 := Aside0.mk (next_calls w3 H3.out.1 hs (by omega))
            clear e0
            generalize byteI s (i + 4) hl0 = b0 at *
            go_wp2_with (go_at_call 35; refine (HM.out _).mono ?_; rintro e w' ⟨rfl, rfl⟩)
            rw [rounds_succ]
            go_wp2_with fail
            refine HN2.out.mono ?_
            rintro e w4 (⟨hl1, rfl, hL4, hK4⟩ | ⟨hge, hT⟩)
            · have H4 := Aside0.mk (And.intro hL4 (H3.out.2.1.trans (hK4 B)))
              clear hL4 hK4 HN2
              by_cases e1 : byteI s (i + 4 + 1) hl1 = 117
              · have f3 : (byteI s (i + 4 + 1) hl1 == 117) = true := beq_iff_eq.2 e1
                have HU3 : Aside0 (uniR s i =
                    match figR s 9 4 (i + 4 + 2) 0 with
                    | .error c => .error c
                    | .ok y => if 56320 ≤ y ∧ y < 57344 then .ok (65536 + (x - 55296) * 1024 + (y - 56320), i + 4 + 6) else .error 9) := ⟨by rw [HU.out, HU2.out, dif_pos hl1, if_neg (by simpa using e1)]⟩
                have HF2 := Aside0.mk (figures_calls 9 w4 H4.out.1 hs (by omega))
                clear e1 HU2
                generalize byteI s (i + 4 + 1) hl1 = b1 at *
                go_wp2_with (go_at_call 35; refine (HM.out _).mono ?_; rintro e w' ⟨rfl, rfl⟩)
                rw [rounds_succ]
                go_wp2_with fail
                refine HF2.out.mono ?_
                rintro e w5 (⟨y, hy, rfl, hy0, hy1, hj5, hL5, hK5⟩ | ⟨c, hc, hT⟩)
                · have H5 := Aside0.mk (And.intro hL5 (H4.out.2.trans hK5))
                  clear hL5 hK5 HF2
                  by_cases hyy : 56320 ≤ y ∧ y < 57344
                  · have HU4 : Aside0 (uniR s i = .ok (65536 + (x - 55296) * 1024 + (y - 56320), i + 4 + 6)) := ⟨by rw [HU3.out, hy]; simp only; rw [if_pos hyy]⟩
                    have y1 := hyy.1
                    have y2 := hyy.2
                    have f4 : decide (56320 ≤ y) = true := decide_eq_true y1
                    have f5 : decide (y < 57344) = true := decide_eq_true y2
                    clear hyy hy
                    go_wp2_with (go_at_call 35; refine (HM.out _).mono ?_; rintro e w' ⟨rfl, rfl⟩)
                    go_ret
                    exact .inl ⟨_, i + 4 + 6, HU4.out, rfl, by omega, by omega, by omega, by omega, H5.out.1, H5.out.2⟩
                  · have HU4 : Aside0 (uniR s i = .error 9) := ⟨by rw [HU3.out, hy]; simp only; rw [if_neg hyy]⟩
                    clear hy
                    by_cases y1 : 56320 ≤ y
                    · have f4 : decide (56320 ≤ y) = true := decide_eq_true y1
                      have f5 : decide (y < 57344) = false := decide_eq_false (by omega)
                      clear hyy
                      go_wp2_with (go_at_call 35; refine (must_no _ _ _).mono ?_; rintro e w' ⟨rfl, rfl⟩)
                      exact post_panic rfl (.inr ⟨9, HU4.out, Thr.after H5.out.2 (thr_new 9 _)⟩)
                    · have f4 : decide (56320 ≤ y) = false := decide_eq_false y1
                      clear hyy
                      go_wp2_with (go_at_call 35; refine (must_no _ _ _).mono ?_; rintro e w' ⟨rfl, rfl⟩)
                      exact post_panic rfl (.inr ⟨9, HU4.out, Thr.after H5.out.2 (thr_new 9 _)⟩)
                · have HT := Aside0.mk (Thr.after H4.out.2 hT)
                  obtain ⟨j, rfl, hT2⟩ := hT
                  clear hT2
                  go_wp2_with fail
                  exact post_panic rfl (.inr ⟨c, by rw [HU3.out, hc], HT.out⟩)
              · have f3 : (byteI s (i + 4 + 1) hl1 == 117) = false := beq_eq_false_iff_ne.2 e1
                have HU3 : Aside0 (uniR s i = .error 9) := ⟨by rw [HU.out, HU2.out, dif_pos hl1, if_pos (by simpa using e1)]⟩
                clear e1 HU2
                generalize byteI s (i + 4 + 1) hl1 = b1 at *
                go_wp2_with (go_at_call 35; refine (must_no _ _ _).mono ?_; rintro e w' ⟨rfl, rfl⟩)
                exact post_panic rfl (.inr ⟨9, HU3.out, Thr.after H4.out.2 (thr_new 9 _)⟩)
            · have HT := Aside0.mk (Thr.after (H3.out.2.1) (Thr.after (Kp.refl B g w3) hT))
              obtain ⟨j, rfl, hT2⟩ := hT
              clear hT2
              go_wp2_with fail
              exact post_panic rfl (.inr ⟨10, by rw [HU.out, HU2.out, dif_neg (by omega)], HT.out⟩)
          · have f2 : (byteI s (i + 4) hl0 == 92) = false := beq_eq_false_iff_ne.2 e0
            have HU2 : Aside0 (uniR s i = .error 9) := ⟨by rw [HU.out, lowR, dif_pos hl0, if_pos (by simpa using e0)]⟩
            clear e0
            generalize byteI s (i + 4) hl0 = b0 at *
            go_wp2_with (go_at_call 35; refine (must_no _ _ _).mono ?_; rintro e w' ⟨rfl, rfl⟩)
            exact post_panic rfl (.inr ⟨9, HU2.out, Thr.after H3.out.2.1 (thr_new 9 _)⟩)
        · have HT := Aside0.mk (Thr.after HS.out.2.2.1 hT)
          obtain ⟨j, rfl, hT2⟩ := hT
          clear hT2
          go_wp2_with fail
          exact post_panic rfl (.inr ⟨10, by rw [HU.out, lowR, dif_neg (by omega)], HT.out⟩)
      · have HU : Aside0 (uniR s i = .error 9) := ⟨by rw [uniR, hx]; simp only; rw [if_neg ha, if_pos (by omega)]⟩
        have f1 : decide (x < 56320) = false := decide_eq_false hb
        clear hx ha
        go_wp2_with (go_at_call 35; refine (must_no _ _ _).mono ?_; rintro e w' ⟨rfl, rfl⟩)
        exact post_panic rfl (.inr ⟨9, HU.out, Thr.after H1.out.2 (thr_new 9 _)⟩)
  · have HT := Aside0.mk hT
    obtain ⟨j, rfl, hT2⟩ := hT
    clear hT2
    go_wp2_with fail
    exact post_panic rfl (.inr ⟨c, by rw [uniR, hc], HT.out⟩)
end
end Go.Proofs.YtojhbioljpamhaaDoor.My
