/- The walks of deflate's finder: find and add. -/
import Derived.Test.YtiaiopdiooobiaaMyFinder
namespace Go.Proofs.Ytiaiopdiooobiaa.My
open Go.RowKit Go.Proofs.YtiaiopdiooobiaaW.PrintWords Go.Proofs.YtiaiopdiooobiaaW.PrintLast Go.Proofs.YtiaiopdiooobiaaW.PrintMore
set_option linter.unusedVariables false
set_option linter.unusedSimpArgs false

theorem hsh_nat (t : List Int) (i : Nat) : ∃ H : Nat, hsh t i = (H : Int) ∧ H < 4096 := by
  have := hv_lt (t.getD i 0) (t.getD (i + 1) 0) (t.getD (i + 2) 0)
  refine ⟨(hsh t i).toNat, ?_, ?_⟩ <;> unfold hsh <;> omega
/-- What the finder knows ahead of a place. -/
structure Knows (t last back : List Int) (a : Nat) : Prop where
  last : ∀ H : Nat, H < 4096 → last.getD H 0 = ((prv t (H : Int) a : Nat) : Int)
  back : ∀ y, y < a → y + 3 ≤ t.length → back.getD y 0 = ((prv t (hsh t y) y : Nat) : Int)
theorem Knows.more {t last back : List Int} {a : Nat} (k : Knows t last back a) (H : Nat) (hH : hsh t a = (H : Int)) (h4 : H < 4096) (ha : a + 3 ≤ t.length) (hl : last.length = 4096) (hb : back.length = t.length) :
    Knows t (last.set H ((a : Int) + 1)) (back.set a (last.getD H 0)) (a + 1) := by
  refine ⟨fun H' h' => ?_, fun y hy hy3 => ?_⟩
  · unfold prv
    by_cases e : H' = H
    · subst e
      rw [if_pos ⟨ha, hH⟩]
      simp [List.getD_eq_getElem?_getD, hl, h']
    · rw [if_neg (fun h => e (by omega)), ← k.last H' h']
      simp [List.getD_eq_getElem?_getD, List.getElem?_set, Ne.symm e]
  · by_cases e : y = a
    · subst e
      rw [hH, ← k.last H h4]
      simp [List.getD_eq_getElem?_getD, hb, show y < t.length by omega]
    · rw [← k.back y (by omega) hy3]
      simp [List.getD_eq_getElem?_getD, List.getElem?_set, Ne.symm e]
theorem Knows.same {t last back : List Int} {a : Nat} (k : Knows t last back a) (ha : ¬ a + 3 ≤ t.length) : Knows t last back (a + 1) := by
  refine ⟨fun H h => ?_, fun y hy hy3 => k.back y (by omega) hy3⟩
  unfold prv
  rw [if_neg (fun h => ha h.1)]
  exact k.last H h

set_option maxHeartbeats 1000000 in
set_option maxRecDepth 100000 in
theorem add_calls (w : World) (B g gb : Nat) (A : Option Addr) (c : Nat) (t last back : List Int) (a : Nat) (k : Fnd w B g gb A c t last back) (ha : a < t.length) (hn : t.length ≤ 1000000000) (hk : Knows t last back a) (htx : ∀ ad, A = some ad → ad.block ≠ g ∧ ad.block ≠ gb) (hbl : back.length = t.length) :
    Calls Try.prog 18 #[.pointer (some ⟨g, 0, none⟩), .int .i64 a] w fun e w' => e = .returned (.tuple #[]) ∧ ∃ last' back', Fnd w' B g gb A c t last' back' ∧ Knows t last' back' (a + 1) ∧ back'.length = t.length ∧ Moved w w' g gb := by
  have c0 := k.c0
  have h3 : (a : Int) ≤ 1000000000 := by omega
  have hlen : ((t.length : Nat) : Int) ≤ 1000000000 := by omega
  by_cases h : a + 3 ≤ t.length
  · obtain ⟨H, hH, h4⟩ := hsh_nat t a
    have HM := Aside0.mk (hk.more H hH h4 h k.len hbl)
    have HH : Aside0 (Calls Try.prog 26 #[.pointer (some ⟨g, 0, none⟩), .int .i64 a] w fun e w' => e = .returned (.int .i64 H) ∧ ∃ m, w' = w.drewN m) := ⟨hH ▸ hash_calls w B g gb A c t last back a k h hn⟩
    have d1 : decide ((a : Int) + 3 ≤ ((t.length : Nat) : Int)) = true := by simp; omega
    have d2 : (a : Int) + 3 ≤ ((t.length : Nat) : Int) := by omega
    have cl := k.cl H h4
    have cb := k.cb
    obtain ⟨ck, fk⟩ := own_at k.row (a : Int) (by omega) (by omega)
    rw [Int.toNat_natCast] at ck fk
    have fg := blk_frozen k.blk (1 + H)
    have hne := k.ne
    have HS := Aside0.mk (fun m => (k.drewN m).stored a H (last.getD H 0) ((a : Int) + 1) h4 htx)
    have HMv := Aside0.mk (fun m => (((Moved.refl w g gb).drewN m).set ⟨gb, a, none⟩ (.int .i64 (last.getD H 0)) (.inr rfl)).set ⟨g, 1 + H, none⟩ (.int .i64 ((a : Int) + 1)) (.inl rfl))
    have HBL : Aside0 ((back.set a (last.getD H 0)).length = t.length) := ⟨by rw [List.length_set]; exact hbl⟩
    have b4 : (H : Int) < 4096 := by omega
    have b5 : (a : Int) < ((t.length : Nat) : Int) := by omega
    generalize last.getD H 0 = x at *
    generalize rd back (a : Int) = y at *
    clear k hk htx h ha hn hH h4 hbl
    go_enter Try.func18, Try.ntmps18
    go_wp2_with (go_at_call 26; refine HH.out.mono ?_; rintro e w' ⟨rfl, m, rfl⟩)
    go_region
    all_goals (first | go_wp2_with fail | skip)
    refine bodyPost_end (results_none rfl _ _ _) rfl ?_
    exact ⟨rfl, _, _, HS.out _, HM.out, HBL.out, HMv.out _⟩
  · have HM := Aside0.mk (hk.same h)
    have d1 : decide ((a : Int) + 3 ≤ ((t.length : Nat) : Int)) = false := by simp; omega
    have d2 : ((t.length : Nat) : Int) < (a : Int) + 3 := by omega
    have HK := Aside0.mk k
    have HBL := Aside0.mk hbl
    clear k hk htx h ha hn hbl
    go_enter Try.func18, Try.ntmps18
    go_wp2_with fail
    refine bodyPost_end (results_none rfl _ _ _) rfl ?_
    first
      | exact ⟨rfl, last, back, HK.out, HM.out, HBL.out, Moved.refl _ _ _⟩
      | exact ⟨rfl, last, back, HK.out.drewN 1, HM.out, HBL.out, (Moved.refl _ _ _).drewN 1⟩

theorem new2 (w : World) (o o' : Obj) : ((w.alloc o).alloc o').heap[w.heap.size + 1]? = some o' := by
  have := alloc_self (w.alloc o) o'
  simpa using this
/-- A token as a value. -/
def tkV (b : Int) (l d : Nat) : Value := .agg #[.int .u8 b, .int .i64 l, .int .i64 d]
set_option maxHeartbeats 4000000 in
set_option maxRecDepth 100000 in
theorem find_calls (w : World) (B g gb : Nat) (A : Option Addr) (c : Nat) (t last back : List Int) (a : Nat) (k : Fnd w B g gb A c t last back) (ha : a < t.length) (hn : t.length ≤ 1000000000) (hk : Knows t last back a) :
    Calls Try.prog 17 #[.pointer (some ⟨g, 0, none⟩), .int .i64 a] w fun e w' => e = .returned (tkV 0 (scan t a a 0 0 0).1 (scan t a a 0 0 0).2) ∧ Below w.heap.size w w' := by
  have c0 := k.c0
  have h3 : (a : Int) ≤ 1000000000 := by omega
  have hlen : ((t.length : Nat) : Int) ≤ 1000000000 := by omega
  by_cases h : a + 3 ≤ t.length
  · obtain ⟨H, hH, h4⟩ := hsh_nat t a
    have HF := Aside0.mk k
    have HK := Aside0.mk hk
    have HH : Aside0 (∀ w1 m, Below w.heap.size w w1 → Calls Try.prog 26 #[.pointer (some ⟨g, 0, none⟩), .int .i64 a] (w1.drewN m) fun e w' => e = .returned (.int .i64 H) ∧ ∃ k, w' = (w1.drewN m).drewN k) := ⟨fun w1 m hb => hH ▸ hash_calls _ B g gb A c t last back a ((k.below hb).drewN m) h hn⟩
    have HAl : Aside0 (∀ w1 y, Below w.heap.size w w1 → y < a → Calls Try.prog 27 #[.pointer (some ⟨g, 0, none⟩), .int .i64 y, .int .i64 a] w1 fun e w' => e = .returned (.int .i64 (alk t y a)) ∧ ∃ m, w' = w1.drewN m) := ⟨fun w1 y hb hy => alike_calls w1 B g gb A c t last back y a (k.below hb) hy (by omega) hn⟩
    have d1 : decide ((a : Int) + 3 ≤ ((t.length : Nat) : Int)) = true := by simp; omega
    have d2 : (a : Int) + 3 ≤ ((t.length : Nat) : Int) := by omega
    have cl := k.cl H h4
    have cb := k.cb
    rw [hk.last H h4] at cl
    have b4 : (H : Int) < 4096 := by omega
    have HS := Aside0.mk (scan_skip t a a 0 0 0 (Nat.le_refl _))
    have HSP := Aside0.mk (prv_spec t (H : Int) a)
    obtain ⟨R, hR⟩ : ∃ R, R = scan t a a 0 0 0 := ⟨_, rfl⟩
    rw [← hR]
    have HR := Aside0.mk hR
    have HHx := Aside0.mk hH
    have HN := Aside0.mk (show a + 3 ≤ t.length ∧ t.length ≤ 1000000000 from ⟨h, hn⟩)
    obtain ⟨x0, hx0⟩ : ∃ x0, x0 = prv t (H : Int) a := ⟨_, rfl⟩
    rw [← hx0] at cl
    have HX0 := Aside0.mk hx0
    have c0a := pw_cell_below (below_alloc (below_alloc (Below.refl w.heap.size w) (.cells #[.int .u8 0, .int .i64 0, .int .i64 0] 45)) (.cells #[.int .u8 0, .int .i64 0, .int .i64 0] 45)) c0
    have cla := pw_cell_below (below_alloc (below_alloc (Below.refl w.heap.size w) (.cells #[.int .u8 0, .int .i64 0, .int .i64 0] 45)) (.cells #[.int .u8 0, .int .i64 0, .int .i64 0] 45)) cl
    have HW0 := Aside0.mk (fun o o' : Obj => (below_alloc (below_alloc (Below.refl w.heap.size w) o) o'))
    clear k hk ha hn h hH h4 hR hx0
    go_enter Try.func17, Try.ntmps17
    go_wp2_with fail
    go_quiet ((go_at_call 26; exact Calls.quiet_of (HH.out _ _ (HW0.out _ _))))
    go_wp2_with fail
    go_loopg [6, 7] x0 (fun kq v6 v7 wr => ∃ lk x bl bd : Nat, v6 = .int .i64 lk ∧ v7 = .int .i64 x ∧ Aside0 (kq = x) ∧ Aside0 (x ≤ a ∧ lk ≤ 64 ∧ bl ≤ 258 ∧ bd ≤ 32768) ∧ Aside0 (x = 0 ∨ ∃ y, x = y + 1 ∧ y < a ∧ y + 3 ≤ t.length ∧ hsh t y = (H : Int)) ∧ Aside0 (scan t a x lk bl bd = R) ∧
      Aside0 (wr.heap[w.heap.size + 1]? = some (.cells #[.int .u8 0, .int .i64 bl, .int .i64 bd] 45 (0, 0))) ∧ Aside0 (wr.heap[w.heap.size]? = some (.cells #[.int .u8 0, .int .i64 0, .int .i64 0] 45 (0, 0))) ∧ Aside0 (Below w.heap.size w wr))
    case atStart =>
      refine ⟨0, x0, 0, 0, rfl, rfl, ⟨rfl⟩, ⟨by rw [HX0.out]; exact prv_le t _ a, by omega, by omega, by omega⟩, ⟨?_⟩, ⟨?_⟩, ⟨?_⟩, ⟨?_⟩, ⟨?_⟩⟩
      · rcases HSP.out with h | ⟨y, h1, h2⟩
        · exact .inl (HX0.out.trans h)
        · exact .inr ⟨y, HX0.out.trans h1, h2⟩
      · rw [HX0.out, ← HHx.out, ← HS.out]; exact HR.out.symm
      · first | exact blk_drewN (new2 _ _ _) _ | exact new2 _ _ _
      · first | exact blk_drewN (blk_alloc (alloc_self _ _) _) _ | exact blk_alloc (alloc_self _ _) _
      · first | exact pw_below_drewN (HW0.out _ _) _ | exact HW0.out _ _
    case round =>
      obtain ⟨lk, x, bl, bd, rfl, rfl, HKq, HX, HP, HSc, HB5, HB4, HBl⟩ := hrel
      have c0r := pw_cell_below HBl.out c0
      have cbr := pw_cell_below HBl.out cb
      have m0 := blk_cell HB5.out 0
      have m1 := blk_cell HB5.out 1
      have m2 := blk_cell HB5.out 2
      have f0 := blk_frozen HB5.out 0
      have f1 := blk_frozen HB5.out 1
      have f2 := blk_frozen HB5.out 2
      have n0 := blk_cell HB4.out 0
      have n1 := blk_cell HB4.out 1
      have n2 := blk_cell HB4.out 2
      have q0 := blk_frozen HB4.out 0
      have q1 := blk_frozen HB4.out 1
      have q2 := blk_frozen HB4.out 2
      simp only [Array.getElem?_eq_getElem, List.size_toArray, List.length_cons, List.length_nil, Nat.reduceAdd, Nat.reduceLT, List.getElem_toArray, List.getElem_cons_succ, List.getElem_cons_zero] at m0 m1 m2 n0 n1 n2
      have e1 : (x : Int) ≤ (a : Int) := by have := HX.out; omega
      have e2 : (lk : Int) ≤ 64 := by have := HX.out; omega
      have e3 : (bl : Int) ≤ 258 := by have := HX.out; omega
      by_cases hc : 0 < x ∧ a - (x - 1) ≤ 32768 ∧ lk < 64
      · obtain ⟨y, rfl, hya, hy3, hyh⟩ : ∃ y, x = y + 1 ∧ y < a ∧ y + 3 ≤ t.length ∧ hsh t y = (H : Int) := by
          rcases HP.out with h | h
          · omega
          · exact h
        have g1 : decide ((0 : Int) < ((y + 1 : Nat) : Int)) = true := decide_eq_true (by omega)
        have g2 : decide ((a : Int) - (y : Int) ≤ 32768) = true := decide_eq_true (by omega)
        have g3 : decide ((lk : Int) < 64) = true := decide_eq_true (by omega)
        have e5 : ((y + 1 : Nat) : Int) - 1 = (y : Int) := by omega
        have e6 : (a : Int) - (y : Int) ≤ 32768 := by omega
        have e7 : (lk : Int) < 64 := by omega
        have e8 : (y : Int) < (a : Int) := by omega
        have e9 : (y : Int) < ((t.length : Nat) : Int) := by omega
        have hAl := Aside0.mk (HAl.out wr y HBl.out hya)
        obtain ⟨ck, fk⟩ := own_at (HF.out.below HBl.out).row (y : Int) (by omega) (by omega)
        rw [Int.toNat_natCast] at ck fk
        have hbk := HK.out.back y hya hy3
        rw [hyh] at hbk
        have hrd : rd back (y : Int) = ((prv t (H : Int) y : Nat) : Int) := by unfold rd; rw [Int.toNat_natCast]; exact hbk
        rw [hrd] at ck
        have hsc := HSc.out
        rw [scan, if_pos ⟨by omega, hc.2.2⟩] at hsc
        have hskip := fun lk bl bd => scan_skip t a y lk bl bd (by omega)
        rw [HHx.out] at hskip
        have hsp := Aside0.mk (prv_spec t (H : Int) y)
        have hpl := Aside0.mk (prv_le t (H : Int) y)
        have HY := Aside0.mk (show y < a from hya)
        have HC3 := Aside0.mk (show a - y ≤ 32768 ∧ lk < 64 by omega)
        obtain ⟨n, hn⟩ : ∃ n, n = alk t y a := ⟨_, rfl⟩
        have hn258 : n ≤ 258 := by rw [hn]; exact alk_le t y a
        rw [← hn] at hAl hsc
        have e10 : (n : Int) ≤ 258 := by omega
        clear hbk hrd hyh hy3 hya hc hn
        generalize prv t (H : Int) y = z at *
        have hrel' : z = 0 ∨ ∃ y', z = y' + 1 ∧ y' < a ∧ y' + 3 ≤ t.length ∧ hsh t y' = (H : Int) := by
          rcases hsp.out with h | ⟨y', h1, h2, h3⟩
          · exact .inl h
          · exact .inr ⟨y', h1, by have := HY.out; omega, h3⟩
        have HREL := Aside0.mk hrel'
        clear hrel'
        by_cases h3 : n < 3
        · rw [if_pos h3, hskip] at hsc
          have HSC := Aside0.mk hsc
          have d3 : decide ((n : Int) < 3) = true := decide_eq_true (by omega)
          have d3' : (n : Int) < 3 := by omega
          clear hsc hskip h3 hn258
          go_wp2_with (go_at_call 27; refine hAl.out.mono ?_; rintro e w' ⟨rfl, m5, rfl⟩)
          go_roundg z
          case measure => have := HKq.out; have := hpl.out; omega
          case rel => exact ⟨lk, z, bl, bd, rfl, rfl, ⟨rfl⟩, ⟨by have := HX.out; have := hpl.out; omega⟩, HREL, HSC, ⟨blk_drewN HB5.out _⟩, ⟨blk_drewN HB4.out _⟩, ⟨pw_below_drewN HBl.out _⟩⟩
        · have d3 : decide ((n : Int) < 3) = false := decide_eq_false (by omega)
          have d3' : (3 : Int) ≤ (n : Int) := by omega
          rw [if_neg h3] at hsc
          by_cases hlt : bl < n
          · rw [if_pos hlt, hskip] at hsc
            have HSC := Aside0.mk hsc
            have d4 : decide ((bl : Int) < (n : Int)) = true := decide_eq_true (by omega)
            have d4' : (bl : Int) < (n : Int) := by omega
            have e11 : ((a - y : Nat) : Int) = (a : Int) - (y : Int) := by have := HY.out; omega
            have HE11 := Aside0.mk e11
            have hgs := blk_lt HF.out.blk
            have hbs := own_lt HF.out.row gb rfl
            have x1 : gb ≠ w.heap.size + 1 := by omega
            have x2 : w.heap.size + 1 ≠ gb := by omega
            have x3 : g ≠ w.heap.size + 1 := by omega
            have x4 : w.heap.size + 1 ≠ g := by omega
            clear hgs hbs
            have HN258 := Aside0.mk hn258
            clear hsc hskip h3 hn258 hlt e11
            go_wp2_with (go_at_call 27; refine hAl.out.mono ?_; rintro e w' ⟨rfl, m5, rfl⟩)
            go_roundg z
            case measure => have := HKq.out; have := hpl.out; omega
            case rel =>
              refine ⟨lk + 1, z, n, a - y, by go_num, rfl, ⟨rfl⟩, ⟨by have := HX.out; have := hpl.out; have := HC3.out; have := HN258.out; omega⟩, HREL, HSC, ⟨?_⟩, ⟨?_⟩, ⟨?_⟩⟩
              · rw [HE11.out]
                refine blk_put (cs := #[.int .u8 0, .int .i64 n, .int .i64 bd]) ?_ 2 _ rfl
                refine blk_put (cs := #[.int .u8 0, .int .i64 bl, .int .i64 bd]) ?_ 1 _ rfl
                refine blk_put (cs := #[.int .u8 0, .int .i64 bl, .int .i64 bd]) ?_ 0 _ rfl
                exact blk_drewN HB5.out _
              · exact blk_far (blk_far (blk_far (blk_drewN HB4.out _) (by simp) _) (by simp) _) (by simp) _
              · exact Below.setCell (Below.setCell (Below.setCell (pw_below_drewN HBl.out _) (by simp) _) (by simp) _) (by simp) _
          · rw [if_neg hlt, hskip] at hsc
            have HSC := Aside0.mk hsc
            have d4 : decide ((bl : Int) < (n : Int)) = false := decide_eq_false (by omega)
            have d4' : (n : Int) ≤ (bl : Int) := by omega
            clear hsc hskip h3 hn258 hlt
            go_wp2_with (go_at_call 27; refine hAl.out.mono ?_; rintro e w' ⟨rfl, m5, rfl⟩)
            go_roundg z
            case measure => have := HKq.out; have := hpl.out; omega
            case rel => exact ⟨lk + 1, z, bl, bd, by go_num, rfl, ⟨rfl⟩, ⟨by have := HX.out; have := hpl.out; have := HC3.out; omega⟩, HREL, HSC, ⟨blk_drewN HB5.out _⟩, ⟨blk_drewN HB4.out _⟩, ⟨pw_below_drewN HBl.out _⟩⟩
      · have hend : R = (bl, bd) := by
          rw [← HSc.out]
          cases x with
          | zero => rfl
          | succ y =>
            unfold scan
            rw [if_neg (fun h => hc ⟨Nat.succ_pos y, by simpa using h.1, h.2⟩)]
        have HEnd := Aside0.mk hend
        clear hend
        by_cases h0 : 0 < x
        · have g1 : decide ((0 : Int) < (x : Int)) = true := decide_eq_true (by omega)
          by_cases h1 : a - (x - 1) ≤ 32768
          · have g2 : decide ((a : Int) - ((x : Int) - 1) ≤ 32768) = true := decide_eq_true (by have := HX.out; omega)
            have g3 : decide ((lk : Int) < 64) = false := decide_eq_false (by omega)
            have g1' : (0 : Int) < (x : Int) := by omega
            have g2' : (a : Int) - ((x : Int) - 1) ≤ 32768 := by have := HX.out; omega
            have g3' : (64 : Int) ≤ (lk : Int) := by omega
            clear hc h0 h1
            go_wp2_with fail
            rw [HEnd.out]
            refine bodyPost_ret (results_single (r := .cell 4 45) rfl (.cell w.heap.size 45 #[.int .u8 0, .int .i64 bl, .int .i64 bd] (0, 0) _ rfl (by refine blk_put (cs := #[.int .u8 0, .int .i64 bl, .int .i64 0]) ?_ 2 _ rfl; refine blk_put (cs := #[.int .u8 0, .int .i64 0, .int .i64 0]) ?_ 1 _ rfl; refine blk_put (cs := #[.int .u8 0, .int .i64 0, .int .i64 0]) ?_ 0 _ rfl; exact HB4.out) Try.underlying45 rfl (by kernel_rfl) .nil)) rfl ⟨rfl, ?_⟩
            exact Below.setCell (Below.setCell (Below.setCell HBl.out (by simp) _) (by simp) _) (by simp) _
          · have g2 : decide ((a : Int) - ((x : Int) - 1) ≤ 32768) = false := decide_eq_false (by have := HX.out; omega)
            have g1' : (0 : Int) < (x : Int) := by omega
            have g2' : 32768 < (a : Int) - ((x : Int) - 1) := by have := HX.out; omega
            clear hc h0 h1
            go_wp2_with fail
            rw [HEnd.out]
            refine bodyPost_ret (results_single (r := .cell 4 45) rfl (.cell w.heap.size 45 #[.int .u8 0, .int .i64 bl, .int .i64 bd] (0, 0) _ rfl (by refine blk_put (cs := #[.int .u8 0, .int .i64 bl, .int .i64 0]) ?_ 2 _ rfl; refine blk_put (cs := #[.int .u8 0, .int .i64 0, .int .i64 0]) ?_ 1 _ rfl; refine blk_put (cs := #[.int .u8 0, .int .i64 0, .int .i64 0]) ?_ 0 _ rfl; exact HB4.out) Try.underlying45 rfl (by kernel_rfl) .nil)) rfl ⟨rfl, ?_⟩
            exact Below.setCell (Below.setCell (Below.setCell HBl.out (by simp) _) (by simp) _) (by simp) _
        · have g1 : decide ((0 : Int) < (x : Int)) = false := decide_eq_false (by omega)
          have g1' : (x : Int) ≤ 0 := by omega
          clear hc h0
          go_wp2_with fail
          rw [HEnd.out]
          refine bodyPost_ret (results_single (r := .cell 4 45) rfl (.cell w.heap.size 45 #[.int .u8 0, .int .i64 bl, .int .i64 bd] (0, 0) _ rfl (by refine blk_put (cs := #[.int .u8 0, .int .i64 bl, .int .i64 0]) ?_ 2 _ rfl; refine blk_put (cs := #[.int .u8 0, .int .i64 0, .int .i64 0]) ?_ 1 _ rfl; refine blk_put (cs := #[.int .u8 0, .int .i64 0, .int .i64 0]) ?_ 0 _ rfl; exact HB4.out) Try.underlying45 rfl (by kernel_rfl) .nil)) rfl ⟨rfl, ?_⟩
          exact Below.setCell (Below.setCell (Below.setCell HBl.out (by simp) _) (by simp) _) (by simp) _
  · have d1 : ((t.length : Nat) : Int) < (a : Int) + 3 := by omega
    have d2 : decide (((t.length : Nat) : Int) < (a : Int) + 3) = true := by simp; omega
    rw [scan_short t a (by omega)]
    have c0a := pw_cell_below (below_alloc (below_alloc (Below.refl w.heap.size w) (.cells #[.int .u8 0, .int .i64 0, .int .i64 0] 45)) (.cells #[.int .u8 0, .int .i64 0, .int .i64 0] 45)) c0
    unfold tkV
    clear k hk ha hn h
    go_enter Try.func17, Try.ntmps17
    go_wp2_with fail
    exact bodyPost_ret (results_single (r := .cell 4 45) rfl (.cell w.heap.size 45 #[.int .u8 0, .int .i64 0, .int .i64 0] (0, 0) _ rfl (by exact blk_alloc (alloc_self _ _) _) Try.underlying45 rfl (by kernel_rfl) .nil)) rfl ⟨rfl, below_alloc (below_alloc (Below.refl _ _) _) _⟩
end Go.Proofs.Ytiaiopdiooobiaa.My
