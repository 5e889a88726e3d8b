/- MyInf3, MyInf4, MyInf5, MyInf6, MyCutFrom, MyInf7, MyInf8, MyInfG, MyInf9, MyInfW, MyArgs, MyInfA, MyPackL, MyDeflW, MyDefBackL: laid into one text by merge.py. -/
import Derived.Test.YtiaiopdiooobiaaDoorMyAllB2
import Derived.Deep.RegionLaw
import Derived.Deep.RegionWith
import Derived.Test.YtiaiopdiooobiaaDoorMyAllB1
import Derived.StillTailTactics
import Derived.Test.YtiaiopdiooobiaaDoorWSized
import Derived.Test.YtiaiopdiooobiaaDoorRows
import Derived.MakeChecks
import Derived.OpenShut
import Derived.Deep.DeepCutAuto

/- The walk of the inflater's helper: the code of the helpers' lengths. -/
namespace Go.Proofs.YtiaiopdiooobiaaDoor.My
open Go.RowKit Go.Proofs.YtiaiopdiooobiaaDoor.Inf Go.Proofs.YtiaiopdiooobiaaDoor.Huf Go.Proofs.YtiaiopdiooobiaaDoorW.PrintWords Go.Proofs.YtiaiopdiooobiaaDoorW.PrintLast Go.Proofs.YtiaiopdiooobiaaDoorW.PrintMore
set_option maxRecDepth 100000
set_option linter.unusedVariables false
set_option linter.unusedSimpArgs false

/-- Blocks that are as they were: what stands in them is. -/
theorem RB.keep {w w1 : World} {lo hi : Nat} {A : Option Addr} {n : Nat} {xs : List Int} (h : RB w lo hi A n xs) (hk : ∀ k, lo ≤ k → k < hi → w1.heap[k]? = w.heap[k]?) : RB w1 lo hi A n xs := by
  refine ⟨C_of_readsInt ?_, h.b⟩
  obtain ⟨h1, h2, h3⟩ := reads_of_C h.c
  refine ⟨h1, h2, fun hn => ?_⟩
  obtain ⟨ad, e, hc⟩ := h3 hn
  refine ⟨ad, e, fun j hj => ?_⟩
  have h4 := h.b ad e
  exact (World.cell?_of_block (w := w) (w' := w1) (a := ad.add j) (by rw [add_block]; exact hk _ h4.1 h4.2)).trans (hc j hj)
theorem CodeAt.keep {w w1 : World} {lo hi g : Nat} {L : List Int} (h : CodeAt w lo hi g L) (hk : ∀ k, lo ≤ k → k < hi → w1.heap[k]? = w.heap[k]?) : CodeAt w1 lo hi g L := by
  obtain ⟨A, A1, A2, c, c1, c2, S, k, r0, r1, r2, hS, h1, h2⟩ := h.out
  exact ⟨A, A1, A2, c, c1, c2, S, ⟨(hk g h1 h2).trans k.blk, k.lf, k.lm, k.lb⟩, r0.keep hk, r1.keep hk, r2.keep hk, hS, h1, h2⟩
/-- Is a block outside? -/
def Out (lo hi : Nat) (vo : Value) : Prop := ∀ k, vo.ownBlock = some k → k < lo ∨ hi ≤ k
theorem Out.frm {gm gr lo hi : Nat} {w w1 : World} {vo v1 : Value} (h : Out lo hi vo) (hf : Frm gm gr w vo w1 v1) (hh : hi ≤ w.heap.size) : Out lo hi v1 := by
  intro k hk
  rcases hf.own with e | ⟨b, e, hb⟩
  · exact h k (by rw [← e]; exact hk)
  · rw [e] at hk; injection hk with hk; omega
theorem CodeAt.frm {w w1 : World} {lo hi g gm gr : Nat} {vo v1 : Value} {L : List Int} (h : CodeAt w lo hi g L) (hf : Frm gm gr w vo w1 v1) (hh : hi ≤ w.heap.size) (h1 : gm < lo ∨ hi ≤ gm) (h2 : gr < lo ∨ hi ≤ gr) (h3 : Out lo hi vo) : CodeAt w1 lo hi g L :=
  h.keep fun k ka kb => hf.keep k (by omega) (by omega) (by omega) (by intro e; have := h3 k e.symm; omega)
theorem newR_ok {L : List Int} {lone : Bool} (h : newR L lone = none) : L.length ≤ 320 ∧ okL L = true ∧ anyOver L 15 1 = false := by
  unfold newR at h
  split at h
  · cases h
  · split at h
    · cases h
    · rename_i h1 h2
      refine ⟨by omega, by simpa using h2, ?_⟩
      split at h
      · cases h
      · rename_i h3
        unfold numR at h3
        cases ha : anyOver L 15 1 with
        | false => rfl
        | true => rw [ha, if_pos rfl] at h3; omega
/-- The table in which order the helpers' lengths stand. -/
def Ord (w : World) : Prop := ∀ r, r < 19 → w.cell? ⟨0, r, none⟩ = some (.int .i64 ((order.getD r 0 : Nat) : Int))
theorem Ord.keep {w w1 : World} (h : Ord w) (hk : w1.heap[0]? = w.heap[0]?) : Ord w1 := fun r hr => by
  rw [World.cell?_of_block (by exact hk)]
  exact h r hr
theorem Ord.lt {w : World} (h : Ord w) : 0 < w.heap.size := World.block_lt_of_cell? w _ (h 0 (by omega))
theorem Ord.below {w w1 : World} (h : Ord w) (hb : Below w.heap.size w w1) : Ord w1 := h.keep (hb.block 0 h.lt)
theorem Ord.frm {gm gr : Nat} {w w1 : World} {vo v1 : Value} (h : Ord w) (hf : Frm gm gr w vo w1 v1) (h1 : 0 < gm) (h2 : 0 < gr) (h3 : ∀ k, vo.ownBlock = some k → 0 < k) : Ord w1 :=
  h.keep (hf.keep 0 h.lt (by omega) (by omega) (by intro e; have := h3 0 e.symm; omega))
theorem order_lt : ∀ i, i < 19 → order.getD i 0 < 19 := by decide
theorem order_drop (many i : Nat) (hm : many ≤ 19) (h : i < many) : (order.take many).drop i = order.getD i 0 :: (order.take many).drop (i + 1) := by
  have hl : (order.take many).length = many := by rw [List.length_take]; show min many 19 = many; omega
  rw [List.drop_eq_getElem_cons (by omega)]
  congr 1
  rw [List.getElem_take, List.getD_eq_getElem?_getD, List.getElem?_eq_getElem (by show i < 19; omega)]
  rfl
/-- What a method answers, and leaves: the answer is told beside what is put out. -/
def DidV {α : Type} (B gm gr : Nat) (v : Value) (V lb : Nat) (lim : Int) (w : World) (vo : Value) (r : Res α) (ret : α → Value → Ending → World → Prop) (e : Ending) (w' : World) : Prop :=
  (∃ x s vo', r = .ok x s ∧ ret x vo' e w' ∧ Mac w' B gm gr v V lb lim vo' s ∧ Frm gm gr w vo w' vo') ∨
  (∃ c g vo', r = .er c ∧ e = .panicked [{ v := fltV g, recovered := false }] ∧ Flt w' g c ⟨#[]⟩ ∧ w.heap.size ≤ g ∧ Frm gm gr w vo w' vo')
section
variable {B gm gr : Nat} {w w1 w2 : World} {vo v1 v2 v : Value} {V lb : Nat} {lim : Int} {s : St}
/-- Another block is turned. -/
theorem Mac.far (h : Mac w B gm gr v V lb lim vo s) {g : Nat} {t : TypeId} {cs : Array Value} (hg : w.heap[g]? = some (.cells cs t (0, 0))) (h1 : 57 ≠ t) (h2 : 73 ≠ t) (h3 : 5 ≠ t) (j : Nat) (u : Value) : Mac (w.setCell ⟨g, j, none⟩ u) B gm gr v V lb lim vo s :=
  ⟨blk_far h.blk (blk_ne h.blk hg h1) u, ⟨blk_far h.rd.blk (blk_ne h.rd.blk hg h2) u, own_setCell h.rd.row (own_ne h.rd.row hg h3) u, h.rd.lt, h.rd.le, h.rd.bg⟩, own_setCell h.row (own_ne h.row hg h3) u, h.sep, h.bm, h.hl, h.l1, h.ol, h.sl⟩
theorem Frm.setNew (h : Frm gm gr w vo w1 v1) (k j : Nat) (u : Value) (hk : w.heap.size ≤ k) : Frm gm gr w vo (w1.setCell ⟨k, j, none⟩ u) v1 :=
  ⟨h.os, h.tape, h.output, by simpa [World.setCell] using h.size, fun i hi a b c => (Below.heap_setCell w1 ⟨k, j, none⟩ u i (by show i ≠ k; omega)).trans (h.keep i hi a b c), h.own⟩
theorem row_set {w : World} {g : Nat} {l : List Int} (h : w.heap[g]? = some (.cells (nums .i64 l).toArray 3 (0, 0))) (i : Nat) (x : Int) : (w.setCell ⟨g, i, none⟩ (.int .i64 x)).heap[g]? = some (.cells (nums .i64 (l.set i x)).toArray 3 (0, 0)) := by
  rw [blk_set h i (.int .i64 x)]
  simp [nums, List.map_set]
set_option maxHeartbeats 1000000 in
theorem helper_calls (w : World) (h : Mac w B gm gr v V lb lim vo s) (hst : s.st ≤ s.a) (hB : 0 < B) (ho : Ord w) (many : Nat) (hm : many ≤ 19) :
    Calls Tryd.prog 74 #[.pointer (some ⟨gm, 0, none⟩), .int .i64 many] w (DidV B gm gr v V lb lim w vo (helper V lb many s) fun L v' e w' => ∃ gc lo hi, e = .returned (.pointer (some ⟨gc, 0, none⟩)) ∧ CodeAt w' lo hi gc L ∧ w.heap.size ≤ lo ∧ hi ≤ w'.heap.size ∧ newR L false = none ∧ Out lo hi v') := by
  have hmk : ∀ W : World, (Instr.makeSlice 44 (.int .i64 19) (.int .i64 19)).run Tryd.prog W = .ok (.slice (some ⟨W.heap.size, 0, none⟩) 19 19) (W.alloc (.cells (madeCells #[.int .i64 0] 19) 3)) := fun W => make_ints 19 (by omega) W
  have hm' : (many : Int) ≤ 19 := by omega
  have H1 := Aside0.mk (h.below (below_alloc (Below.refl _ _) (.cells (madeCells #[.int .i64 0] 19) 3)))
  have HB := Aside0.mk hB
  have HL0 := Aside0.mk ho.lt
  have HO1 := Aside0.mk (ho.below (below_alloc (Below.refl _ _) (.cells (madeCells #[.int .i64 0] 19) 3)))
  have HR1 : Aside0 ((w.alloc (.cells (madeCells #[.int .i64 0] 19) 3)).heap[w.heap.size]? = some (.cells (nums .i64 (List.replicate 19 0)).toArray 3 (0, 0))) := ⟨by rw [made_nums]; exact alloc_self _ _⟩
  have HM := Aside0.mk hm
  have HS := Aside0.mk hst
  clear h hst hB ho hm
  go_enter Tryd.func74, Tryd.ntmps74
  go_wp2_with fail
  go_loopg [12] many (fun kq v12 wr => ∃ (i : Nat) (L : List Int) (s' : St) (v' : Value), v12 = .int .i64 i ∧ i ≤ many ∧ Aside0 (kq + i = many) ∧ Aside0 (Mac wr B gm gr v V lb lim v' s' ∧ s'.st ≤ s'.a) ∧ Aside0 (Frm gm gr w vo wr v') ∧ Aside0 (Ord wr) ∧
    Aside0 (wr.heap[w.heap.size]? = some (.cells (nums .i64 L).toArray 3 (0, 0)) ∧ L.length = 19) ∧ Aside0 (hlp V lb (order.take many) (List.replicate 19 0) s = hlp V lb ((order.take many).drop i) L s'))
  case atStart => exact ⟨0, _, s, vo, rfl, Nat.zero_le _, ⟨rfl⟩, ⟨H1.out, HS.out⟩, ⟨(Frm.refl _ _ _ _).below (below_alloc (Below.refl _ _) _)⟩, HO1, ⟨HR1.out, by simp⟩, ⟨rfl⟩⟩
  case round =>
    obtain ⟨i, L, s', v', rfl, hi, HQ, HMr, HFr, HOr, HRr, HE⟩ := hrel
    by_cases hin : i < many
    · have hin' : (i : Int) < (many : Int) := by omega
      have k0 := HOr.out i (by have := HM.out; omega)
      have hq := order_lt i (by have := HM.out; omega)
      have HDr := Aside0.mk (order_drop many i HM.out hin)
      generalize order.getD i 0 = p at *
      have hp' : (p : Int) < 19 := by omega
      obtain ⟨_, _, _, c3, _, f3⟩ := HMr.out.1.cells
      have n1 : ((s'.st : Nat) : Int) ≤ 8000000 := by have := HMr.out.2; have := HMr.out.1.al; have := HMr.out.1.hl; omega
      have h1 := HMr.out.1.step (s'.st + 1) (by have := HMr.out.2; omega)
      rw [show ((s'.st + 1 : Nat) : Int) = (s'.st : Int) + 1 by omega] at h1
      have HM1 := Aside0.mk h1
      have HF1 := Aside0.mk (HFr.out.set 3 (.int .i64 ((s'.st : Int) + 1)))
      have HLt := Aside0.mk (blk_lt HRr.out.1)
      have HI := Aside0.mk (And.intro hi hin)
      have HP := Aside0.mk hq
      have HR2 := Aside0.mk (blk_far HRr.out.1 (p := ⟨gm, 3, none⟩) (blk_ne HRr.out.1 HMr.out.1.blk (by decide)) (.int .i64 ((s'.st : Int) + 1)))
      have HO2 : Aside0 (Ord (wr.setCell ⟨gm, 3, none⟩ (.int .i64 ((s'.st : Int) + 1)))) := ⟨HOr.out.keep (Below.heap_setCell _ _ _ _ (by show 0 ≠ gm; have := HMr.out.1.bm; have := HB.out; omega))⟩
      clear h1 hi hin hq
      go_wp2_with fail
      refine (inumber_calls _ HM1.out 3 (by omega)).mono ?_
      rintro e w2 (⟨x, s2, v2, hn, rfl, hM2, hF2⟩ | ⟨c, g, v2, hn, rfl, hX, hgx, hF2⟩)
      · have hF3 := HF1.out.trans hF2
        have hr3 := hF2.blk HR2.out (blk_ne HR2.out HM1.out.blk (by decide)) (blk_ne HR2.out HM1.out.rd.blk (by decide)) (own_ne HM1.out.row HR2.out (by decide))
        have x1 := blk_cell hr3 p
        have hxs : ∃ y, (nums .i64 L).toArray[p]? = some y := by
          refine ⟨(nums .i64 L).toArray[p]'(by rw [List.size_toArray, nums_length]; have := HRr.out.2; have := HP.out; omega), Array.getElem?_eq_getElem _⟩
        obtain ⟨y, hy⟩ := hxs
        rw [hy] at x1
        have x2 := blk_frozen hr3 p
        have HM3 := Aside0.mk (hM2.far hr3 (by decide) (by decide) (by decide) p (.int .i64 x))
        have HF3 := Aside0.mk (hF3.setNew w.heap.size p (.int .i64 x) (Nat.le_refl _))
        have HR3 := Aside0.mk (row_set hr3 p x)
        have HN := Aside0.mk hn
        have HO3 : Aside0 (Ord (w2.setCell ⟨w.heap.size, p, none⟩ (.int .i64 x))) := ⟨(HO2.out.frm hF2 (by have := HM1.out.bm; have := HB.out; omega) (by have := HM1.out.rd.bg; have := HB.out; omega) (fun k hk => by have := (HM1.out.ob k hk).1; have := HB.out; omega)).keep (Below.heap_setCell _ _ _ _ (by show 0 ≠ w.heap.size; have := HL0.out; omega))⟩
        clear hn hM2 hF2 hF3 hr3 hy
        go_wp2_with fail
        go_roundg (many - (i + 1))
        case measure => have := HQ.out; have := HI.out; omega
        case rel => exact ⟨i + 1, L.set p x, s2, v2, rfl, HI.out.2, ⟨by have := HI.out; omega⟩, ⟨HM3.out, by obtain ⟨a1, _, a2, _, _⟩ := number_ok HN.out; have := HMr.out.2; dsimp only at a1 a2; omega⟩, HF3, HO3, ⟨HR3.out, by rw [List.length_set]; exact HRr.out.2⟩, ⟨by rw [HE.out, HDr.out, hlp, HN.out, bind_ok]⟩⟩
      · have HX := Aside0.mk hX
        have HN : Aside0 (helper V lb many s = .er c) := ⟨by unfold helper; rw [HE.out, HDr.out, hlp, hn]; rfl⟩
        clear hn hX
        go_wp2_with fail
        exact post_panic rfl (.inr ⟨c, g, v2, HN.out, rfl, HX.out, Nat.le_trans HF1.out.size hgx, HF1.out.trans hF2⟩)
    · obtain rfl : i = many := by omega
      have hin' : ¬ ((i : Int) < (i : Int)) := by omega
      have HC := Aside0.mk (code_calls wr (some ⟨w.heap.size, 0, none⟩) 19 19 L false (by have := C_block wr w.heap.size .i64 L 3 (0, 0) HRr.out.1 (by have := HRr.out.2; omega); rwa [HRr.out.2] at this) (by omega) HRr.out.2 (fun h => by cases h))
      have HEn : Aside0 (hlp V lb (order.take i) (List.replicate 19 0) s = .ok L s') := ⟨by
        rw [HE.out, List.drop_eq_nil_of_le (by rw [List.length_take]; omega)]
        rfl⟩
      clear hi hin
      go_wp2_with fail
      refine HC.out.mono ?_
      rintro e w2 (⟨hn, g, rfl, hk, hb⟩ | ⟨hn, g, rfl, hX, hgx, hb⟩)
      · have HK := Aside0.mk hk
        have HN := Aside0.mk hn
        have HBb := Aside0.mk hb
        clear hk hn hb
        go_wp2_with fail
        go_ret
        exact .inl ⟨L, s', v', by unfold helper; rw [HEn.out, bind_ok]; unfold okCode; rw [if_pos HN.out]; rfl, ⟨g, _, _, rfl, HK.out, HFr.out.size, Nat.le_refl _, HN.out, fun k hk => .inl (HMr.out.1.ob k hk).2⟩, HMr.out.1.below HBb.out, HFr.out.below HBb.out⟩
      · have HX := Aside0.mk hX
        have HBb := Aside0.mk hb
        have HN : Aside0 (helper V lb i s = .er 2) := ⟨by unfold helper; rw [HEn.out, bind_ok]; unfold okCode; rw [if_neg hn]; rfl⟩
        clear hn hX hb
        go_wp2_with fail
        exact post_panic rfl (.inr ⟨2, g, v', HN.out, rfl, HX.out, Nat.le_trans HFr.out.size hgx, HFr.out.below HBb.out⟩)
end
end Go.Proofs.YtiaiopdiooobiaaDoor.My

/- The walks of the inflater's length and distance. -/
namespace Go.Proofs.YtiaiopdiooobiaaDoor.Inf
open Go.Proofs.YtiaiopdiooobiaaDoor.Huf
set_option linter.unusedVariables false
theorem take_ex (V : Nat) (L : List Int) (a left : Nat) : ∃ x n e, TakeR L V a left x n e := by
  by_cases h : ∃ s n, Fits L V a left s n
  · obtain ⟨s, n, h⟩ := h
    exact ⟨_, _, _, .sign s n h⟩
  · have h' : ∀ s n, ¬ Fits L V a left s n := fun s n k => h ⟨s, n, k⟩
    by_cases h2 : ∃ s n, Cuts L V a left s n
    · obtain ⟨s, n, h2⟩ := h2
      exact ⟨_, _, _, .ends h' s n h2⟩
    · exact ⟨_, _, _, .form h' fun s n k => h2 ⟨s, n, k⟩⟩
theorem far_ok {V lb : Nat} {L : List Int} {x : Int} {s s' : St} (h : far V lb L s = .ok x s') : 0 ≤ x ∧ x < (L.length : Int) ∧ s'.out = s.out ∧ s'.st = s.st ∧ s.a < s'.a ∧ s'.a ≤ s.a + (8 * lb - s.a) := by
  obtain ⟨y, n, e, ht⟩ := take_ex V L s.a (8 * lb - s.a)
  unfold far at h
  rw [tk_of V ht] at h
  cases ht with
  | sign t m k =>
    injection h with h1 h2
    subst h1 h2
    obtain ⟨⟨k1, k2, k3⟩, k4, _⟩ := k
    refine ⟨by omega, by omega, rfl, rfl, ?_, ?_⟩
    · show s.a < s.a + n; omega
    · show s.a + n ≤ _; omega
  | ends k1 k2 => cases h
  | form k1 k2 => cases h
theorem sign_ok {V lb : Nat} {L : List Int} {x : Int} {s s' : St} (h : sign V lb L s = .ok x s') : 0 ≤ x ∧ x < (L.length : Int) ∧ s'.out = s.out ∧ s'.st = s.st + 1 ∧ s.a < s'.a ∧ s'.a ≤ s.a + (8 * lb - s.a) := far_ok h
end Go.Proofs.YtiaiopdiooobiaaDoor.Inf
namespace Go.Proofs.YtiaiopdiooobiaaDoor.My
open Go.RowKit Go.Proofs.YtiaiopdiooobiaaDoor.Inf Go.Proofs.YtiaiopdiooobiaaDoor.Huf Go.Proofs.YtiaiopdiooobiaaDoorW.PrintWords Go.Proofs.YtiaiopdiooobiaaDoorW.PrintLast Go.Proofs.YtiaiopdiooobiaaDoorW.PrintMore
set_option maxRecDepth 100000
set_option linter.unusedVariables false
set_option linter.unusedSimpArgs false
section
variable {B gm gr : Nat} {vo v : Value} {V lb : Nat} {lim : Int} {s : St}
/-- Bits that are there, and bits that aren't. -/
theorem number_yes (w : World) (h : Mac w B gm gr v V lb lim vo s) (n : Nat) (hn : n ≤ 32) {x : Nat} {s' : St} (hx : number V lb n s = .ok x s') :
    Calls Tryd.prog 30 #[.pointer (some ⟨gm, 0, none⟩), .int .i64 n] w fun e w' => e = .returned (.int .i64 x) ∧ ∃ vo', Mac w' B gm gr v V lb lim vo' s' ∧ Frm gm gr w vo w' vo' := by
  refine (inumber_calls w h n hn).mono ?_
  rintro e w' (⟨y, s2, v2, h1, rfl, h2, h3⟩ | ⟨c, g, v2, h1, _⟩)
  · rw [hx] at h1
    injection h1 with e1 e2
    subst e1 e2
    exact ⟨rfl, v2, h2, h3⟩
  · rw [hx] at h1; cases h1
theorem number_not (w : World) (h : Mac w B gm gr v V lb lim vo s) (n : Nat) (hn : n ≤ 32) {c : Int} (hx : number V lb n s = .er c) :
    Calls Tryd.prog 30 #[.pointer (some ⟨gm, 0, none⟩), .int .i64 n] w fun e w' => ∃ g vo', e = .panicked [{ v := fltV g, recovered := false }] ∧ Flt w' g c ⟨#[]⟩ ∧ w.heap.size ≤ g ∧ Frm gm gr w vo w' vo' := by
  refine (inumber_calls w h n hn).mono ?_
  rintro e w' (⟨y, s2, v2, h1, _⟩ | ⟨c', g, v2, h1, h2, h3, h4, h5⟩)
  · rw [hx] at h1; cases h1
  · rw [hx] at h1
    injection h1 with e1
    subst e1
    exact ⟨g, v2, h2, h3, h4, h5⟩
theorem number_or (w : World) (h : Mac w B gm gr v V lb lim vo s) (n : Nat) (hn : n ≤ 32) {c : Int} (hx : number V lb n s = .er c) :
    Calls Tryd.prog 30 #[.pointer (some ⟨gm, 0, none⟩), .int .i64 n] w fun e w' => (e = .returned (.int .i64 0) ∧ Aside0 False) ∨ ∃ g vo', e = .panicked [{ v := fltV g, recovered := false }] ∧ Flt w' g c ⟨#[]⟩ ∧ w.heap.size ≤ g ∧ Frm gm gr w vo w' vo' :=
  (number_not w h n hn hx).mono fun _ _ h => .inr h
theorem shl_small (x n : Nat) (hx : x ≤ 100) (hn : n ≤ 20) : IntKind.i64.wrap ((x : Int) * 2 ^ n) = ((x * 2 ^ n : Nat) : Int) := by
  have h1 : (x : Int) * 2 ^ n = ((x * 2 ^ n : Nat) : Int) := by simp
  rw [h1, IntKind.wrap_i64]
  have h2 : 2 ^ n ≤ 2 ^ 20 := Nat.pow_le_pow_right (by decide) hn
  have h3 : x * 2 ^ n ≤ 100 * 2 ^ 20 := Nat.mul_le_mul hx h2
  omega
set_option maxHeartbeats 1000000 in
theorem ilength_calls (w : World) (h : Mac w B gm gr v V lb lim vo s) (x : Int) (h0 : 257 ≤ x) (h1 : x ≤ 320) :
    Calls Tryd.prog 49 #[.pointer (some ⟨gm, 0, none⟩), .int .i64 x] w (Did B gm gr v V lb lim w vo (Inf.length V lb x s) fun n e _ => e = .returned (.int .i64 (n : Nat))) := by
  have HM := Aside0.mk h
  clear h
  by_cases q1 : 286 ≤ x
  · have HN : Aside0 (Inf.length V lb x s = .er 2) := ⟨by unfold Inf.length; rw [if_pos q1]⟩
    go_enter Tryd.func49, Tryd.ntmps49
    go_wp2_with (go_at_call 35; refine (wrong_calls _ _).mono ?_; rintro e w4 ⟨rfl, rfl⟩)
    exact post_panic rfl (.inr ⟨2, _, vo, HN.out, rfl, ⟨alloc_self _ _⟩, Nat.le_refl _, frm_flt (Frm.refl _ _ _ _)⟩)
  · by_cases q2 : x = 285
    · subst q2
      go_enter Tryd.func49, Tryd.ntmps49
      go_wp2_with fail
      go_ret
      exact .inl ⟨258, s, vo, rfl, rfl, HM.out, Frm.refl _ _ _ _⟩
    · obtain ⟨y, rfl⟩ : ∃ y : Nat, x = (y : Int) + 257 := ⟨(x - 257).toNat, by omega⟩
      have q2' : ((y : Int) + 257 == 285) = false := by simpa using q2
      have ey : ((y : Int) + 257 - 257).toNat = y := by omega
      by_cases q3 : 8 ≤ y
      · have HN : Aside0 (Inf.length V lb ((y : Int) + 257) s = (number V lb (y / 4 - 1) s).bind fun m s => .ok (3 + (4 + y % 4) * 2 ^ (y / 4 - 1) + m) s) := ⟨by unfold Inf.length; rw [if_neg q1, if_neg q2, if_pos (by omega), ey]⟩
        have e1 : (y : Int) / 4 - 1 = ((y / 4 - 1 : Nat) : Int) := by omega
        have e2 : (4 : Int) + (y : Int) % 4 = ((4 + y % 4 : Nat) : Int) := by omega
        have e3 := shl_small (4 + y % 4) (y / 4 - 1) (by omega) (by omega)
        have hk : y / 4 - 1 ≤ 20 := by omega
        have hr : 4 + y % 4 ≤ 8 := by omega
        have h3 : (4 + y % 4) * 2 ^ (y / 4 - 1) ≤ 8 * 2 ^ 20 := Nat.mul_le_mul hr (Nat.pow_le_pow_right (by decide) hk)
        have e4 : (y : Int) + 257 - 256 - 1 = (y : Int) := by omega
        have b0 : (8 : Int) ≤ (y : Int) := by omega
        have b1 : (y : Int) + 257 < 286 := by omega
        have hk' : ((y / 4 - 1 : Nat) : Int) ≤ 20 := by omega
        generalize y / 4 - 1 = k at *
        generalize 4 + y % 4 = r at *
        generalize r * 2 ^ k = p at *
        have hp : (p : Int) ≤ 8388608 := by omega
        clear h3 q2 q1 ey
        cases hn : number V lb k s with
        | ok m s2 =>
          obtain ⟨_, _, _, hm, _⟩ := number_ok hn
          have hm' : (m : Int) ≤ 1048576 := by have := Nat.pow_le_pow_right (n := 2) (by decide) hk; omega
          have HC := Aside0.mk (number_yes w.drew HM.out.drew k (by omega) hn)
          have er : IntKind.i64.wrap (r : Int) = (r : Int) := IntWalk.i64_in _ (by omega)
          rw [hn, bind_ok] at HN
          clear hn hm hk hr
          go_enter Tryd.func49, Tryd.ntmps49
          go_wp2_with fail
          have ew : IntKind.i64.wrap (3 + ((p : Int))) = 3 + (p : Int) := IntWalk.i64_in _ (by omega)
          have ew2 : IntKind.i64.wrap (3 + (p : Int) + (m : Int)) = 3 + (p : Int) + (m : Int) := IntWalk.i64_in _ (by omega)
          have em : (y : Int).tmod 4 = (y : Int) % 4 := Int.tmod_eq_emod_of_nonneg (by omega)
          go_region_law (go_simp; go_at_call 30; refine HC.out.mono ?_; rintro e w2 ⟨rfl, vo', hM2, hF2⟩; replace hM2 := Aside0.mk hM2; replace hF2 := Aside0.mk hF2)
          all_goals
            go_wp2_with fail
            go_ret
            refine .inl ⟨3 + p + m, s2, vo', HN.out, ?_, hM2.out, (Frm.refl gm gr w vo).drew.trans hF2.out⟩
            first | rfl | (congr 2; simp only [er, e3, ew, ew2]; omega) | (congr 2; omega)
        | er c =>
          have HC := Aside0.mk (number_or w.drew HM.out.drew k (by omega) hn)
          rw [hn, bind_er] at HN
          clear hn hk hr
          go_enter Tryd.func49, Tryd.ntmps49
          go_wp2_with fail
          have em : (y : Int).tmod 4 = (y : Int) % 4 := Int.tmod_eq_emod_of_nonneg (by omega)
          go_region_with (go_at_call 30; refine HC.out.mono ?_; rintro e w2 (⟨rfl, HFa⟩ | ⟨g, vo', rfl, hX, hgx, hF2⟩); rotate_left 1; (have HX := Aside0.mk hX; have HFx := Aside0.mk hF2; clear hX hF2; go_simp; exact post_panic rfl (.inr ⟨c, g, vo', HN.out, rfl, HX.out, hgx, (Frm.refl gm gr w vo).drew.trans HFx.out⟩)))
          all_goals exact HFa.out.elim
      · have HN : Aside0 (Inf.length V lb ((y : Int) + 257) s = .ok (3 + y) s) := ⟨by unfold Inf.length; rw [if_neg q1, if_neg q2, if_neg (by omega), ey]⟩
        have b1 : (y : Int) + 257 < 286 := by omega
        have b0 : (y : Int) < 8 := by omega
        have e4 : (y : Int) + 257 - 256 - 1 = (y : Int) := by omega
        clear q1 q2 q3 ey
        go_enter Tryd.func49, Tryd.ntmps49
        go_wp2_with fail
        go_ret
        exact .inl ⟨3 + y, s, vo, HN.out, rfl, HM.out, Frm.refl _ _ _ _⟩
set_option maxHeartbeats 1000000 in
theorem idistance_calls (w : World) (h : Mac w B gm gr v V lb lim vo s) (y : Nat) (h1 : y ≤ 320) :
    Calls Tryd.prog 51 #[.pointer (some ⟨gm, 0, none⟩), .int .i64 y] w (Did B gm gr v V lb lim w vo (distance V lb y s) fun n e _ => e = .returned (.int .i64 (n : Nat))) := by
  have HM := Aside0.mk h
  clear h
  by_cases q1 : 30 ≤ y
  · have HN : Aside0 (distance V lb y s = .er 2) := ⟨by unfold distance; rw [if_pos (by omega)]⟩
    have b0 : (30 : Int) ≤ (y : Int) := by omega
    go_enter Tryd.func51, Tryd.ntmps51
    go_wp2_with (go_at_call 35; refine (wrong_calls _ _).mono ?_; rintro e w4 ⟨rfl, rfl⟩)
    exact post_panic rfl (.inr ⟨2, _, vo, HN.out, rfl, ⟨alloc_self _ _⟩, Nat.le_refl _, frm_flt (Frm.refl _ _ _ _)⟩)
  · have b0 : (y : Int) < 30 := by omega
    by_cases q2 : y < 4
    · have HN : Aside0 (distance V lb y s = .ok (1 + y) s) := ⟨by unfold distance; rw [if_neg (by omega), if_pos (by omega), Int.toNat_natCast]⟩
      have b1 : (y : Int) < 4 := by omega
      clear q1 q2
      go_enter Tryd.func51, Tryd.ntmps51
      go_wp2_with fail
      go_ret
      exact .inl ⟨1 + y, s, vo, HN.out, rfl, HM.out, Frm.refl _ _ _ _⟩
    · have b1 : (4 : Int) ≤ (y : Int) := by omega
      have HN : Aside0 (distance V lb y s = (number V lb (y / 2 - 1) s).bind fun m s => .ok (1 + (2 + y % 2) * 2 ^ (y / 2 - 1) + m) s) := ⟨by unfold distance; rw [if_neg (by omega), if_neg (by omega), Int.toNat_natCast]⟩
      have e1 : (y : Int) / 2 - 1 = ((y / 2 - 1 : Nat) : Int) := by omega
      have e2 : (2 : Int) + (y : Int) % 2 = ((2 + y % 2 : Nat) : Int) := by omega
      have e3 := shl_small (2 + y % 2) (y / 2 - 1) (by omega) (by omega)
      have hk : y / 2 - 1 ≤ 20 := by omega
      have hr : 2 + y % 2 ≤ 8 := by omega
      have h3 : (2 + y % 2) * 2 ^ (y / 2 - 1) ≤ 8 * 2 ^ 20 := Nat.mul_le_mul hr (Nat.pow_le_pow_right (by decide) hk)
      have hk' : ((y / 2 - 1 : Nat) : Int) ≤ 20 := by omega
      have em : (y : Int).tmod 2 = (y : Int) % 2 := Int.tmod_eq_emod_of_nonneg (by omega)
      generalize y / 2 - 1 = k at *
      generalize 2 + y % 2 = r at *
      generalize r * 2 ^ k = p at *
      have hp : (p : Int) ≤ 8388608 := by omega
      clear h3 q2 q1
      cases hn : number V lb k s with
      | ok m s2 =>
        obtain ⟨_, _, _, hm, _⟩ := number_ok hn
        have hm' : (m : Int) ≤ 1048576 := by have := Nat.pow_le_pow_right (n := 2) (by decide) hk; omega
        have HC := Aside0.mk (number_yes w.drew HM.out.drew k (by omega) hn)
        have er : IntKind.i64.wrap (r : Int) = (r : Int) := IntWalk.i64_in _ (by omega)
        have ew : IntKind.i64.wrap (1 + ((p : Int))) = 1 + (p : Int) := IntWalk.i64_in _ (by omega)
        have ew2 : IntKind.i64.wrap (1 + (p : Int) + (m : Int)) = 1 + (p : Int) + (m : Int) := IntWalk.i64_in _ (by omega)
        rw [hn, bind_ok] at HN
        clear hn hm hk hr
        go_enter Tryd.func51, Tryd.ntmps51
        go_wp2_with fail
        go_region_law (go_simp; go_at_call 30; refine HC.out.mono ?_; rintro e w2 ⟨rfl, vo', hM2, hF2⟩; replace hM2 := Aside0.mk hM2; replace hF2 := Aside0.mk hF2)
        all_goals
          go_wp2_with fail
          go_ret
          refine .inl ⟨1 + p + m, s2, vo', HN.out, ?_, hM2.out, (Frm.refl gm gr w vo).drew.trans hF2.out⟩
          first | rfl | (congr 2; simp only [er, e3, ew, ew2]; omega) | (congr 2; omega)
      | er c =>
        have HC := Aside0.mk (number_or w.drew HM.out.drew k (by omega) hn)
        rw [hn, bind_er] at HN
        clear hn hk hr
        go_enter Tryd.func51, Tryd.ntmps51
        go_wp2_with fail
        go_region_with (go_at_call 30; refine HC.out.mono ?_; rintro e w2 (⟨rfl, HFa⟩ | ⟨g, vo', rfl, hX, hgx, hF2⟩); rotate_left 1; (have HX := Aside0.mk hX; have HFx := Aside0.mk hF2; clear hX hF2; go_simp; exact post_panic rfl (.inr ⟨c, g, vo', HN.out, rfl, HX.out, hgx, (Frm.refl gm gr w vo).drew.trans HFx.out⟩)))
        all_goals exact HFa.out.elim
end
end Go.Proofs.YtiaiopdiooobiaaDoor.My

/- The walk of the inflater's again. -/
namespace Go.Proofs.YtiaiopdiooobiaaDoor.Inf
set_option linter.unusedVariables false
theorem cpy_snoc (d : Nat) : ∀ (k : Nat) (l : List Int), cpy d (k + 1) l = cpy d k l ++ [(cpy d k l).getD ((cpy d k l).length - d) 0]
  | 0, l => rfl
  | k + 1, l => by
    rw [cpy, cpy_snoc d k, ← cpy]
theorem cpy_length (d : Nat) : ∀ (k : Nat) (l : List Int), (cpy d k l).length = l.length + k
  | 0, l => rfl
  | k + 1, l => by rw [cpy, cpy_length d k, List.length_append, List.length_singleton]; omega
end Go.Proofs.YtiaiopdiooobiaaDoor.Inf
namespace Go.Proofs.YtiaiopdiooobiaaDoor.My
open Go.RowKit Go.Proofs.YtiaiopdiooobiaaDoor.Inf Go.Proofs.YtiaiopdiooobiaaDoor.Huf Go.Proofs.YtiaiopdiooobiaaDoorW.PrintWords Go.Proofs.YtiaiopdiooobiaaDoorW.PrintLast Go.Proofs.YtiaiopdiooobiaaDoorW.PrintMore
set_option maxRecDepth 100000
set_option linter.unusedVariables false
set_option linter.unusedSimpArgs false
section
variable {B gm gr : Nat} {vo v : Value} {V lb : Nat} {lim : Int} {s : St}
set_option maxHeartbeats 1000000 in
theorem again_calls (w : World) (h : Mac w B gm gr v V lb lim vo s) (n d : Nat) (hd : 1 ≤ d) (hn : n ≤ 1000000) (hd2 : d ≤ 10000000) :
    Calls Tryd.prog 50 #[.pointer (some ⟨gm, 0, none⟩), .int .i64 n, .int .i64 d] w (Did B gm gr v V lb lim w vo (again lim n d s) fun _ e _ => e = .returned (.tuple #[])) := by
  obtain ⟨_, c1, _, _, _, _⟩ := h.cells
  obtain ⟨A, c, rfl⟩ := own_slice h.row
  have HM := Aside0.mk h
  have HD := Aside0.mk hd
  have b1 : (n : Int) ≤ 1000000 := by omega
  have b2 : (d : Int) ≤ 10000000 := by omega
  have HLm := Aside0.mk h.l1
  by_cases hq : s.out.length < d
  · have HN : Aside0 (again lim n d s = .er 2) := ⟨by unfold again; rw [if_pos hq]⟩
    have hq' : (s.out.length : Int) < (d : Int) := by omega
    clear h hd hn hd2 hq
    go_enter Tryd.func50, Tryd.ntmps50
    go_wp2_with (go_at_call 35; refine (wrong_calls _ _).mono ?_; rintro e w4 ⟨rfl, rfl⟩)
    exact post_panic rfl (.inr ⟨2, _, _, HN.out, rfl, ⟨alloc_self _ _⟩, Nat.le_refl _, frm_flt (Frm.refl _ _ _ _)⟩)
  · have HQ := Aside0.mk hq
    have hq' : ¬ (s.out.length : Int) < (d : Int) := by omega
    clear h hd hn hd2 hq
    go_enter Tryd.func50, Tryd.ntmps50
    go_wp2_with fail
    refine (room_calls w HM.out n (by omega)).mono ?_
    rintro e w1 (⟨u, s1, v1, hr, rfl, hM1, hF1⟩ | ⟨c, g, v1, hr, rfl, hX, hgx, hF1⟩)
    rotate_left
    · have HX := Aside0.mk hX
      have HN : Aside0 (again lim n d s = .er c) := ⟨by unfold again; rw [if_neg HQ.out, hr]; rfl⟩
      clear hr hX
      go_wp2_with fail
      exact post_panic rfl (.inr ⟨c, g, v1, HN.out, rfl, HX.out, hgx, hF1⟩)
    obtain ⟨rfl, hroom⟩ := room_ok hr
    have HR := Aside0.mk hroom
    have HN : Aside0 (again lim n d s1 = .ok () ⟨s1.a, cpy d n s1.out, s1.st⟩) := ⟨by unfold again; rw [if_neg HQ.out, hr]; rfl⟩
    have HM1 := Aside0.mk hM1
    have HF1 := Aside0.mk hF1
    clear hr hM1 hF1 hroom hq' c1
    go_wp2_with fail
    go_loopg [18] n (fun kq v18 wr => ∃ (i : Nat) (v' : Value), v18 = .int .i64 i ∧ i ≤ n ∧ Aside0 (kq + i = n) ∧ Aside0 (Mac wr B gm gr v V lb lim v' ⟨s1.a, cpy d i s1.out, s1.st⟩) ∧ Aside0 (Frm gm gr w (.slice A s1.out.length c) wr v'))
    case atStart => exact ⟨0, v1, rfl, Nat.zero_le _, ⟨rfl⟩, HM1, HF1⟩
    case round =>
      obtain ⟨i, v', rfl, hi, HK, HMi, HFi⟩ := hrel
      by_cases hin : i < n
      · have hin' : (i : Int) < (n : Int) := by omega
        have hlen := cpy_length d i s1.out
        have HSn := Aside0.mk (cpy_snoc d i s1.out)
        have HI := Aside0.mk (And.intro hi hin)
        obtain ⟨o, ho⟩ : ∃ o, o = cpy d i s1.out := ⟨_, rfl⟩
        rw [← ho] at HMi HSn hlen
        obtain ⟨A', c', rfl⟩ := own_slice HMi.out.row
        obtain ⟨A2, c2, e2, hcc, hC⟩ := own_slice' HMi.out.row
        cases e2
        dsimp only at hC hcc
        have hdl : d ≤ o.length := by have := HQ.out; omega
        obtain ⟨ad, rfl, hcell⟩ := Kd.at_int hC ((o.length - d : Nat) : Int) (by omega) (by have := HD.out; omega)
        rw [Int.toNat_natCast] at hcell
        have hy : rd o ((o.length - d : Nat) : Int) = o.getD (o.length - d) 0 := by unfold rd; rw [Int.toNat_natCast]
        rw [hy] at hcell
        have ht : ((o.length : Int) - (d : Int)).toNat = o.length - d := by omega
        generalize o.getD (o.length - d) 0 = y at *
        obtain ⟨_, d1, _, _, f1, _⟩ := HMi.out.cells
        have hbk := HMi.out.blk
        have hbA : (wr.alloc (.cells #[.int .u8 y] 5)).heap[gm]? = _ := blk_alloc hbk (.cells #[.int .u8 y] 5)
        have d3 := blk_cell hbA 1
        have HLen := Aside0.mk hlen
        have l1 : (o.length : Int) ≤ 1048576 := by have := HR.out; have := HLm.out; have := HI.out; omega
        have l2 : (d : Int) ≤ (o.length : Int) := by omega
        have l3 : (1 : Int) ≤ (d : Int) := by have := HD.out; omega
        have hrow := HMi.out.drew.row
        have hBq : B ≤ wr.drew.heap.size := HMi.out.drew.bs
        have hq1 : (o.length + 1) * 1 ≤ 140737488355328 := by omega
        have HMd := Aside0.mk HMi.out.drew
        have HFd := Aside0.mk HFi.out.drew
        have HBq := Aside0.mk hBq
        have HRow := Aside0.mk hrow
        have HY1 := Aside0.mk hq1
        clear hC hcc hy hlen hdl ho hbk hbA hrow hBq hq1
        have z1 : (0 : Int) ≤ (o.length : Int) - (d : Int) := by omega
        have z2 : (o.length : Int) - (d : Int) < (o.length : Int) := by omega
        have ew : IntKind.i64.wrap ((o.length : Int) - (d : Int)) = (o.length : Int) - (d : Int) := IntWalk.i64_in _ (by omega)
        go_wp2_with fail
        go_region_law (refine step_append_cells (W := wr.drew) (w0 := wr.drew) B rfl (.tmp 24) (.tmp 38) 22 5 (.int .u8 0) 1 1 rfl Tryd.underlying22 info_u8 rfl (by decide) (by decide) (.slice (some ad) o.length c') o.length (nums .u8 o) [.int .u8 y] rfl rfl rfl (by simp [Value.oneCell']) HRow.out (Below.refl _ _) HBq.out HY1.out ?_; intro v6 w6 HO6 _ HG6 HA6; obtain ⟨A6, c6, rfl⟩ := own_slice HO6; have hM6 := HMd.out.put (w1 := w6) (v1 := .slice A6 (o.length + 1) c6) (ys := [y]) (n := o.length + 1) rfl (by have := HO6; simpa [nums] using this) HG6 HA6 (by have := HR.out; have := HLen.out; have := HI.out; show ((o.length + 1 : Nat) : Int) ≤ lim; omega); have HM6 := Aside0.mk hM6; have HF6 := Aside0.mk ((HFd.out.trans (Frm.of_grown HG6 HA6)).set 1 (.slice A6 (o.length + 1) c6)); have hpre := blk_grown HMd.out.blk HG6 HMd.out.ne; have p1 := blk_cell hpre 1; have q1 := blk_frozen hpre 1; clear HO6 HG6 HA6 hM6 hpre)
        all_goals
          go_wp2_with fail
          go_roundg (n - (i + 1))
          case measure => have := HK.out; have := HI.out; omega
          case rel => exact ⟨i + 1, _, rfl, HI.out.2, ⟨by have := HI.out; omega⟩, ⟨by rw [HSn.out]; exact HM6.out⟩, HF6⟩
      · obtain rfl : i = n := by omega
        have hin' : ¬ ((i : Int) < (i : Int)) := by omega
        clear hi hin
        go_wp2_with fail
        refine bodyPost_end (results_none rfl _ _ _) rfl ?_
        exact .inl ⟨(), _, v', HN.out, rfl, HMi.out, HFi.out⟩
end
end Go.Proofs.YtiaiopdiooobiaaDoor.My

/- The walk of the inflater's lengths. -/
namespace Go.Proofs.YtiaiopdiooobiaaDoor.Inf
open Go.Proofs.YtiaiopdiooobiaaDoor.Huf Go.Proofs.YtiaiopdiooobiaaDoor.My
set_option linter.unusedVariables false
theorem hlp_ok {V lb : Nat} : ∀ (ps : List Nat) (L : List Int) (s : St) (L' : List Int) (s' : St), hlp V lb ps L s = .ok L' s' → (s.st ≤ s.a → s'.st ≤ s'.a) ∧ s'.out = s.out ∧ L'.length = L.length
  | [], L, s, L', s', h => by
    rw [hlp] at h
    injection h with h1 h2
    subst h1 h2
    exact ⟨id, rfl, rfl⟩
  | p :: ps, L, s, L', s', h => by
    rw [hlp] at h
    cases hn : number V lb 3 ⟨s.a, s.out, s.st + 1⟩ with
    | er c => rw [hn] at h; cases h
    | ok x s1 =>
      rw [hn, bind_ok] at h
      obtain ⟨a1, a2, a3, _, _⟩ := number_ok hn
      obtain ⟨b1, b2, b3⟩ := hlp_ok ps _ _ _ _ h
      dsimp only at a1 a2 a3
      exact ⟨fun h0 => b1 (by omega), b2.trans a2, by rw [b3, List.length_set]⟩
theorem helper_ok {V lb many : Nat} {s s' : St} {L : List Int} (h : helper V lb many s = .ok L s') : (s.st ≤ s.a → s'.st ≤ s'.a) ∧ s'.out = s.out ∧ L.length = 19 ∧ newR L false = none := by
  unfold helper at h
  cases hn : hlp V lb (order.take many) (List.replicate 19 0) s with
  | er c => rw [hn] at h; cases h
  | ok x s1 =>
    rw [hn, bind_ok] at h
    unfold okCode at h
    split at h
    · rename_i hr
      rw [bind_ok] at h
      injection h with h1 h2
      subst h1 h2
      obtain ⟨b1, b2, b3⟩ := hlp_ok _ _ _ _ _ hn
      exact ⟨b1, b2, by rw [b3, List.length_replicate], hr⟩
    · cases h
theorem rep_ok {V lb : Nat} {x : Int} {l : List Int} {s s' : St} {yt : Int × Nat} (h : rep V lb x l s = .ok yt s') : s'.out = s.out ∧ s'.st = s.st ∧ s.a ≤ s'.a ∧ 1 ≤ yt.2 ∧ yt.2 ≤ 138 := by
  unfold rep at h
  split at h
  · injection h with h1 h2
    subst h1 h2
    exact ⟨rfl, rfl, Nat.le_refl _, Nat.le_refl _, by show 1 ≤ 138; decide⟩
  · split at h
    · split at h
      · cases h
      · cases hn : number V lb 2 s with
        | er c => rw [hn] at h; cases h
        | ok n s1 =>
          rw [hn, bind_ok] at h
          injection h with h1 h2
          subst h1 h2
          obtain ⟨a1, a2, a3, a4, _⟩ := number_ok hn
          exact ⟨a2, a3, by omega, by show 1 ≤ 3 + n; omega, by show 3 + n ≤ 138; omega⟩
    · split at h
      · cases hn : number V lb 3 s with
        | er c => rw [hn] at h; cases h
        | ok n s1 =>
          rw [hn, bind_ok] at h
          injection h with h1 h2
          subst h1 h2
          obtain ⟨a1, a2, a3, a4, _⟩ := number_ok hn
          exact ⟨a2, a3, by omega, by show 1 ≤ 3 + n; omega, by show 3 + n ≤ 138; omega⟩
      · cases hn : number V lb 7 s with
        | er c => rw [hn] at h; cases h
        | ok n s1 =>
          rw [hn, bind_ok] at h
          injection h with h1 h2
          subst h1 h2
          obtain ⟨a1, a2, a3, a4, _⟩ := number_ok hn
          exact ⟨a2, a3, by omega, by show 1 ≤ 11 + n; omega, by show 11 + n ≤ 138; omega⟩
end Go.Proofs.YtiaiopdiooobiaaDoor.Inf
namespace Go.Proofs.YtiaiopdiooobiaaDoor.My
open Go.RowKit Go.Proofs.YtiaiopdiooobiaaDoor.Inf Go.Proofs.YtiaiopdiooobiaaDoor.Huf Go.Proofs.YtiaiopdiooobiaaDoorW.PrintWords Go.Proofs.YtiaiopdiooobiaaDoorW.PrintLast Go.Proofs.YtiaiopdiooobiaaDoorW.PrintMore
set_option maxRecDepth 100000
set_option linter.unusedVariables false
set_option linter.unusedSimpArgs false
theorem own_frm {gm gr : Nat} {w w1 : World} {vo v1 : Value} (hf : Frm gm gr w vo w1 v1) {base : Nat} {e : TypeId} {size n : Nat} {v : Value} {xs : List Value} (h : w.ownsRow base e size v n xs) (h1 : some gm ≠ v.ownBlock) (h2 : some gr ≠ v.ownBlock) (h3 : v.ownBlock = none ∨ v.ownBlock ≠ vo.ownBlock) : w1.ownsRow base e size v n xs := by
  obtain ⟨h0, h4⟩ := h
  refine ⟨h0, ?_⟩
  rcases h4 with h4 | ⟨g, cap, cur, rfl, hg, hh, r⟩
  · exact .inl h4
  · refine .inr ⟨g, cap, cur, rfl, hg, hf.blk hh ?_ ?_ ?_, r⟩
    · rintro rfl; exact h1 rfl
    · rintro rfl; exact h2 rfl
    · rcases h3 with h3 | h3
      · cases h3
      · exact h3
section
variable {B gm gr : Nat} {w w1 w2 : World} {vo v1 v2 v : Value} {V lb : Nat} {lim : Int} {s : St}
/-- A row of the call's own was turned. -/
theorem Mac.grown (h : Mac w B gm gr v V lb lim vo s) {row : Option Nat} (hg : w.grownBy w1 row) (h1 : some gm ≠ row) (h2 : some gr ≠ row) (h3 : v.ownBlock = none ∨ v.ownBlock ≠ row) (h4 : vo.ownBlock = none ∨ vo.ownBlock ≠ row) : Mac w1 B gm gr v V lb lim vo s :=
  ⟨blk_grown h.blk hg h1, ⟨blk_grown h.rd.blk hg h2, own_other h.rd.row hg h3, h.rd.lt, h.rd.le, h.rd.bg⟩, own_other h.row hg h4, h.sep, h.bm, h.hl, h.l1, h.ol, h.sl⟩
theorem Frm.grownNew (h : Frm gm gr w vo w1 v1) {row : Option Nat} (hg : w1.grownBy w2 row) (hr : ∀ k, row = some k → w.heap.size ≤ k) : Frm gm gr w vo w2 v1 :=
  ⟨hg.os.trans h.os, hg.tape.trans h.tape, hg.output.trans h.output, Nat.le_trans h.size hg.size, fun i hi a b c => (hg.block i (Nat.lt_of_lt_of_le hi h.size) (by intro e; have := hr i e.symm; omega)).trans (h.keep i hi a b c), h.own⟩
/-- What stands while lengths are read: the machine, the lengths so far, the helpers' code. -/
structure Len (w wr : World) (B gm gr : Nat) (v : Value) (V lb : Nat) (lim : Int) (vo v' : Value) (s' : St) (H : Nat) (A : Option Addr) (l : List Int) (c lo hi gc : Nat) (C : List Int) : Prop where
  mac : Mac wr B gm gr v V lb lim v' s'
  frm : Frm gm gr w vo wr v'
  row : wr.ownsRow H 3 1 (.slice A l.length c) l.length (nums .i64 l)
  code : CodeAt wr lo hi gc C
  out : Out lo hi v'
  hh : hi ≤ H
  hw : w.heap.size ≤ lo
  le : H ≤ wr.heap.size
  lh : lo ≤ hi
variable {wr : World} {v' : Value} {s' : St} {H : Nat} {A : Option Addr} {l : List Int} {c lo hi gc : Nat} {C : List Int}
theorem Len.turn (h : Len w wr B gm gr v V lb lim vo v' s' H A l c lo hi gc C) {w2 : World} {v2 : Value} {s2 : St} (hm : Mac w2 B gm gr v V lb lim v2 s2) (hf : Frm gm gr wr v' w2 v2) (hgm : gm < w.heap.size) (hgr : gr < w.heap.size) : Len w w2 B gm gr v V lb lim vo v2 s2 H A l c lo hi gc C :=
  ⟨hm, h.frm.trans hf, own_frm hf h.row (own_ne h.row h.mac.blk (by decide)) (own_ne h.row h.mac.rd.blk (by decide)) (own_type_ne h.row h.mac.row (by decide)),
   h.code.frm hf (Nat.le_trans h.hh h.le) (.inl (by have := h.hw; omega)) (.inl (by have := h.hw; omega)) h.out, h.out.frm hf (Nat.le_trans h.hh h.le), h.hh, h.hw, Nat.le_trans h.le hf.size, h.lh⟩
theorem Len.below (h : Len w wr B gm gr v V lb lim vo v' s' H A l c lo hi gc C) {w2 : World} (hb : Below wr.heap.size wr w2) : Len w w2 B gm gr v V lb lim vo v' s' H A l c lo hi gc C :=
  ⟨h.mac.below hb, h.frm.below hb, pw_own_below h.row hb, h.code.below hb, h.out, h.hh, h.hw, Nat.le_trans h.le hb.size, h.lh⟩
theorem Len.push (h : Len w wr B gm gr v V lb lim vo v' s' H A l c lo hi gc C) {w2 : World} {A2 : Option Addr} {c2 : Nat} {y : Int} (hr : w2.ownsRow H 3 1 (.slice A2 (l.length + 1) c2) (l.length + 1) (nums .i64 (l ++ [y]))) (hg : wr.grownBy w2 (Value.slice A l.length c).ownBlock) : Len w w2 B gm gr v V lb lim vo v' s' H A2 (l ++ [y]) c2 lo hi gc C := by
  have hk : ∀ k, (Value.slice A l.length c).ownBlock = some k → H ≤ k := own_base h.row
  have e1 : (l ++ [y]).length = l.length + 1 := by simp
  refine ⟨h.mac.grown hg (own_ne h.row h.mac.blk (by decide)) (own_ne h.row h.mac.rd.blk (by decide)) ?_ ?_, h.frm.grownNew hg (fun k e => by have := hk k e; have := h.hh; have := h.hw; have := h.lh; omega), by rw [e1]; exact hr, h.code.grown hg (fun r e => .inr (by have := hk r e; have := h.hh; omega)), h.out, h.hh, h.hw, Nat.le_trans h.le hg.size, h.lh⟩
  · exact own_type_ne h.mac.rd.row h.row (by decide)
  · exact own_type_ne h.mac.row h.row (by decide)
theorem Len.last (h : Len w wr B gm gr v V lb lim vo v' s' H A l c lo hi gc C) (hl : 1 ≤ l.length) (hb : l.length ≤ 1000000) : ∃ ad, A = some ad ∧ wr.cell? (ad.add (l.length - 1)) = some (.int .i64 (l.getD (l.length - 1) 0)) := by
  obtain ⟨A2, c2, e2, _, hC⟩ := own_slice' h.row
  cases e2
  obtain ⟨ad, rfl, hc⟩ := Kd.at_int hC ((l.length - 1 : Nat) : Int) (by omega) (by omega)
  rw [Int.toNat_natCast] at hc
  refine ⟨ad, rfl, ?_⟩
  rw [hc]
  unfold rd
  rw [Int.toNat_natCast]
theorem rep_append (l : List Int) (x : Int) (j : Nat) : l ++ List.replicate (j + 1) x = (l ++ List.replicate j x) ++ [x] := by
  rw [List.append_assoc, List.replicate_succ', ]
set_option maxHeartbeats 2000000 in
theorem lengths_calls (w : World) (h : Mac w B gm gr v V lb lim vo s) (hst : s.st ≤ s.a) (hB : 0 < B) (ho : Ord w) (many help : Nat) (hm : many ≤ 400) (hh : help ≤ 19) :
    Calls Tryd.prog 54 #[.pointer (some ⟨gm, 0, none⟩), .int .i64 many, .int .i64 help] w (Did B gm gr v V lb lim w vo (Inf.lengths V lb many help s) fun l e w' => ∃ A c, e = .returned (.slice A l.length c) ∧ (Kd.int .i64).C w' A l.length l ∧ l.length ≤ c ∧ l.length = many ∧ (A = none → c = 0)) := by
  have hgm := h.lt
  have hgr := h.ltr
  have HC := Aside0.mk (helper_calls w h hst hB ho help hh)
  have HG := Aside0.mk (And.intro hgm hgr)
  have HMn := Aside0.mk hm
  have HS := Aside0.mk hst
  have HV := Aside0.mk (show ∀ k, vo.ownBlock = some k → k < w.heap.size from fun k e => (h.ob k e).2)
  have m1 : (many : Int) ≤ 400 := by omega
  clear h hst hB ho hm hh hgm hgr
  go_enter Tryd.func54, Tryd.ntmps54
  go_wp2_with fail
  refine HC.out.mono ?_
  rintro e w1 (⟨C, s1, v1, hn, ⟨gc, lo, hi, rfl, hk, hlo, hhi, hC, hOut⟩, hM1, hF1⟩ | ⟨c, g, v1, hn, rfl, hX, hgx, hF1⟩)
  rotate_left
  · have HX := Aside0.mk hX
    have HN : Aside0 (Inf.lengths V lb many help s = .er c) := ⟨by unfold Inf.lengths; rw [hn]; rfl⟩
    clear hn hX
    go_wp2_with fail
    exact post_panic rfl (.inr ⟨c, g, v1, HN.out, rfl, HX.out, hgx, hF1⟩)
  obtain ⟨hs1, _, hC19, _⟩ := helper_ok hn
  have HN1 := Aside0.mk hn
  have HLn : Aside0 (Len w w1 B gm gr v V lb lim vo v1 s1 w1.heap.size none [] 0 lo hi gc C) :=
    ⟨⟨hM1, hF1, own_nil _ _ _ _, hk, hOut, hhi, hlo, Nat.le_refl _, by obtain ⟨_, _, _, _, _, _, _, _, _, _, _, _, a, b⟩ := hk.out; omega⟩⟩
  have HS1 := Aside0.mk (hs1 HS.out)
  have HCk := Aside0.mk (And.intro (newR_ok hC) hC19)
  clear hn hM1 hF1 hk hlo hhi hC hs1 hC19 hOut
  go_wp2_with fail
  go_loopg [8] many (fun kq v8 wr => ∃ (A : Option Addr) (c : Nat) (l : List Int) (s' : St) (v' : Value) (k : Nat), v8 = .slice A l.length c ∧ l.length ≤ many ∧ Aside0 (kq + l.length = many) ∧ Aside0 (Len w wr B gm gr v V lb lim vo v' s' w1.heap.size A l c lo hi gc C ∧ s'.st ≤ s'.a) ∧
    Aside0 (lens V lb C many many [] s1 = lens V lb C many k l s' ∧ many ≤ l.length + k))
  case atStart => exact ⟨none, 0, [], s1, v1, many, rfl, Nat.zero_le _, ⟨rfl⟩, ⟨HLn.out, HS1.out⟩, ⟨rfl, by simp⟩⟩
  case round =>
    obtain ⟨A, c, l, s', v', k, rfl, hl, HQ, HL, HE⟩ := hrel
    by_cases hin : l.length < many
    · have hin' : (l.length : Int) < (many : Int) := by omega
      obtain ⟨k', rfl⟩ : ∃ k', k = k' + 1 := ⟨k - 1, by have := HE.out.2; omega⟩
      have HSg := Aside0.mk (sign_calls wr HL.out.1.mac HL.out.2 lo hi gc C HL.out.1.code HCk.out.1.1 HCk.out.1.2.1 HCk.out.1.2.2 (.inl (by have := HG.out; have := HL.out.1.hw; omega)) (.inl (by have := HG.out; have := HL.out.1.hw; omega)))
      have HI := Aside0.mk (And.intro hl hin)
      have HE1 : Aside0 (lens V lb C many (k' + 1) l s' = (sign V lb C s').bind fun x s => (Inf.rep V lb x l s).bind fun vt s => if many - l.length < vt.2 then .er 2 else lens V lb C many k' (l ++ List.replicate vt.2 vt.1) s) := ⟨by rw [lens, if_pos hin]⟩
      clear hl hin
      go_wp2_with fail
      refine HSg.out.mono ?_
      rintro e w2 (⟨x, s2, v2, hn, rfl, hM2, hF2⟩ | ⟨ce, g, v2, hn, rfl, hX, hgx, hF2⟩)
      rotate_left
      · have HX := Aside0.mk hX
        have HN : Aside0 (Inf.lengths V lb many help s = .er ce) := ⟨by unfold Inf.lengths; rw [HN1.out, bind_ok, HE.out.1, HE1.out, hn]; rfl⟩
        clear hn hX
        go_wp2_with fail
        exact post_panic rfl (.inr ⟨ce, g, v2, HN.out, rfl, HX.out, Nat.le_trans HL.out.1.frm.size hgx, HL.out.1.frm.trans hF2⟩)
      obtain ⟨x0, x1, _, x3, x4, _⟩ := sign_ok hn
      rw [HCk.out.2] at x1
      have HL2 := Aside0.mk (And.intro (HL.out.1.turn hM2 hF2 HG.out.1 HG.out.2) (show s2.st ≤ s2.a by have := HL.out.2; omega))
      have HN2 := Aside0.mk hn
      clear hn hM2 hF2 x3 x4
      go_upto_block 2 with (fail)
      go_cut [10, 11] (fun v10 v11 wx => ∃ (y : Int) (t : Nat) (s3 : St) (v3 : Value), v10 = .int .i64 y ∧ v11 = .int .i64 t ∧ Aside0 (Inf.rep V lb x l s2 = .ok (y, t) s3) ∧ Aside0 (Len w wx B gm gr v V lb lim vo v3 s3 w1.heap.size A l c lo hi gc C))
      case first =>
        by_cases q1 : x < 16
        · go_wp2_with fail
          go_meet
          exact ⟨x, 1, s2, v2, rfl, rfl, ⟨by unfold Inf.rep; rw [if_pos q1]⟩, ⟨HL2.out.1⟩⟩
        · by_cases q2 : x = 16
          · subst q2
            by_cases q3 : l = []
            · subst q3
              have HN : Aside0 (Inf.lengths V lb many help s = .er 2) := ⟨by unfold Inf.lengths; rw [HN1.out, bind_ok, HE.out.1, HE1.out, HN2.out, bind_ok]; rfl⟩
              go_wp2_with (go_at_call 35; refine (wrong_calls _ _).mono ?_; rintro e w4 ⟨rfl, rfl⟩)
              exact post_panic rfl (.inr ⟨2, _, _, HN.out, rfl, ⟨alloc_self _ _⟩, HL2.out.1.frm.size, frm_flt HL2.out.1.frm⟩)
            · have hp : 1 ≤ l.length := by cases l with | nil => exact absurd rfl q3 | cons => simp
              have hp' : ((l.length : Int) == 0) = false := by simp; omega
              have HP := Aside0.mk hp
              have HR : Aside0 (Inf.rep V lb 16 l s2 = (number V lb 2 s2).bind fun n s => .ok (l.getD (l.length - 1) 0, 3 + n) s) := ⟨by unfold Inf.rep; rw [if_neg (by omega), if_pos rfl, if_neg q3]⟩
              have hl4 : l.length ≤ 1000000 := by have := HMn.out; have := HI.out; omega
              have HL4 := Aside0.mk hl4
              have z0 : (1 : Int) ≤ (l.length : Int) := by omega
              have z1 : (l.length : Int) ≤ 400 := by have := HMn.out; have := HI.out; omega
              have z2 : (0 : Int) ≤ (l.length : Int) - 1 := by omega
              have z3 : (l.length : Int) - 1 < (l.length : Int) := by omega
              have ht : ((l.length : Int) - 1).toNat = l.length - 1 := by omega
              obtain ⟨ad, rfl, k0⟩ := HL2.out.1.last hp hl4
              generalize hyy : l.getD (l.length - 1) 0 = yy at *
              have HY := Aside0.mk hyy
              have HLd : Aside0 (Len w w2.drew B gm gr v V lb lim vo v2 s2 w1.heap.size (some ad) l c lo hi gc C) := ⟨HL2.out.1.below ⟨rfl, rfl, rfl, Nat.le_refl _, fun _ _ => rfl⟩⟩
              clear hp q3 hl4 hyy
              cases hn : number V lb 2 s2 with
              | ok n s3 =>
                have HC2 := Aside0.mk (number_yes w2.drew HLd.out.mac 2 (by omega) hn)
                rw [hn, bind_ok] at HR
                obtain ⟨_, _, _, hn4, _⟩ := number_ok hn
                have hn5 : (n : Int) ≤ 4 := by omega
                have ew : IntKind.i64.wrap ((l.length : Int) - 1) = (l.length : Int) - 1 := IntWalk.i64_in _ (by omega)
                have ew2 : IntKind.i64.wrap (3 + (n : Int)) = 3 + (n : Int) := IntWalk.i64_in _ (by omega)
                clear hn hn4
                go_upto_region 12 with (fail)
                go_region_law (go_simp; go_at_call 30; refine HC2.out.mono ?_; rintro e w3 ⟨rfl, v3, hM3, hF3⟩; have hL3 := HLd.out.turn hM3 hF3 HG.out.1 HG.out.2; obtain ⟨ad2, e2, k3⟩ := hL3.last HP.out HL4.out; injection e2 with e2; subst e2; rw [HY.out] at k3; have HL3 := Aside0.mk hL3; clear hM3 hF3 hL3)
                all_goals
                  go_wp2_with fail
                  go_meet
                  exact ⟨yy, 3 + n, s3, v3, rfl, rfl, HR, HL3⟩
              | er ce =>
                have HC2 := Aside0.mk (number_or w2.drew HLd.out.mac 2 (by omega) hn)
                rw [hn, bind_er] at HR
                have HN : Aside0 (Inf.lengths V lb many help s = .er ce) := ⟨by unfold Inf.lengths; rw [HN1.out, bind_ok, HE.out.1, HE1.out, HN2.out, bind_ok, HR.out]; rfl⟩
                have ew : IntKind.i64.wrap ((l.length : Int) - 1) = (l.length : Int) - 1 := IntWalk.i64_in _ (by omega)
                clear hn
                go_upto_region 12 with (fail)
                go_region_with (go_at_call 30; refine HC2.out.mono ?_; rintro e w3 (⟨rfl, HFa⟩ | ⟨g, v3, rfl, hX, hgx, hF3⟩); rotate_left 1; (have HX := Aside0.mk hX; have HFx := Aside0.mk hF3; clear hX hF3; go_simp; exact post_panic rfl (.inr ⟨ce, g, v3, HN.out, rfl, HX.out, Nat.le_trans HLd.out.frm.size hgx, HLd.out.frm.trans HFx.out⟩)); have k3 : w3.cell? (ad.add (l.length - 1)) = some (.int .i64 yy) := HFa.out.elim)
                all_goals exact HFa.out.elim
          · by_cases q3 : x = 17
            · subst q3
              have HR : Aside0 (Inf.rep V lb 17 l s2 = (number V lb 3 s2).bind fun n s => .ok (0, 3 + n) s) := ⟨by unfold Inf.rep; rw [if_neg (by omega), if_neg (by omega), if_pos rfl]⟩
              clear q1 q2
              go_wp2_with fail
              refine (inumber_calls w2 HL2.out.1.mac 3 (by omega)).mono ?_
              rintro e w3 (⟨n, s3, v3, hn, rfl, hM3, hF3⟩ | ⟨ce, g, v3, hn, rfl, hX, hgx, hF3⟩)
              · rw [hn, bind_ok] at HR
                obtain ⟨_, _, _, hn4, _⟩ := number_ok hn
                have hn5 : (n : Int) ≤ 8 := by omega
                have HL3 := Aside0.mk (HL2.out.1.turn hM3 hF3 HG.out.1 HG.out.2)
                clear hn hn4 hM3 hF3
                go_wp2_with fail
                go_meet
                exact ⟨0, 3 + n, s3, v3, rfl, rfl, HR, HL3⟩
              · have HX := Aside0.mk hX
                have HN : Aside0 (Inf.lengths V lb many help s = .er ce) := ⟨by unfold Inf.lengths; rw [HN1.out, bind_ok, HE.out.1, HE1.out, HN2.out, bind_ok, HR.out, hn]; rfl⟩
                clear hn hX
                go_wp2_with fail
                exact post_panic rfl (.inr ⟨ce, g, v3, HN.out, rfl, HX.out, Nat.le_trans HL2.out.1.frm.size hgx, HL2.out.1.frm.trans hF3⟩)
            · obtain rfl : x = 18 := by omega
              have HR : Aside0 (Inf.rep V lb 18 l s2 = (number V lb 7 s2).bind fun n s => .ok (0, 11 + n) s) := ⟨by unfold Inf.rep; rw [if_neg (by omega), if_neg (by omega), if_neg (by omega)]⟩
              clear q1 q2 q3
              go_wp2_with fail
              refine (inumber_calls w2 HL2.out.1.mac 7 (by omega)).mono ?_
              rintro e w3 (⟨n, s3, v3, hn, rfl, hM3, hF3⟩ | ⟨ce, g, v3, hn, rfl, hX, hgx, hF3⟩)
              · rw [hn, bind_ok] at HR
                obtain ⟨_, _, _, hn4, _⟩ := number_ok hn
                have hn5 : (n : Int) ≤ 128 := by omega
                have HL3 := Aside0.mk (HL2.out.1.turn hM3 hF3 HG.out.1 HG.out.2)
                clear hn hn4 hM3 hF3
                go_wp2_with fail
                go_meet
                exact ⟨0, 11 + n, s3, v3, rfl, rfl, HR, HL3⟩
              · have HX := Aside0.mk hX
                have HN : Aside0 (Inf.lengths V lb many help s = .er ce) := ⟨by unfold Inf.lengths; rw [HN1.out, bind_ok, HE.out.1, HE1.out, HN2.out, bind_ok, HR.out, hn]; rfl⟩
                clear hn hX
                go_wp2_with fail
                exact post_panic rfl (.inr ⟨ce, g, v3, HN.out, rfl, HX.out, Nat.le_trans HL2.out.1.frm.size hgx, HL2.out.1.frm.trans hF3⟩)
      case rest =>
        obtain ⟨y, t, s3, v3, rfl, rfl, HR, HL3⟩ := hcut
        obtain ⟨_, r3, r4, r5, r6⟩ := rep_ok HR.out
        dsimp only at r5 r6
        have HS3 := Aside0.mk (show s3.st ≤ s3.a by have := HL2.out.2; omega)
        have t1 : (1 : Int) ≤ (t : Int) := by omega
        have t2 : (t : Int) ≤ 138 := by omega
        have z1 : (l.length : Int) ≤ 400 := by have := HMn.out; have := HI.out; omega
        have HT := Aside0.mk (And.intro r5 r6)
        clear r3 r4 r5 r6 x0 x1
        by_cases hq : many - l.length < t
        · have hq' : (many : Int) - (l.length : Int) < (t : Int) := by have := HI.out; omega
          have HN : Aside0 (Inf.lengths V lb many help s = .er 2) := ⟨by unfold Inf.lengths; rw [HN1.out, bind_ok, HE.out.1, HE1.out, HN2.out, bind_ok, HR.out, bind_ok, if_pos hq]⟩
          clear hq
          go_wp2_with (go_at_call 35; refine (wrong_calls _ _).mono ?_; rintro e w4 ⟨rfl, rfl⟩)
          exact post_panic rfl (.inr ⟨2, _, _, HN.out, rfl, ⟨alloc_self _ _⟩, HL3.out.frm.size, frm_flt HL3.out.frm⟩)
        · have hq' : ¬ (many : Int) - (l.length : Int) < (t : Int) := by have := HI.out; omega
          have HE3 : Aside0 (lens V lb C many (k' + 1) l s' = lens V lb C many k' (l ++ List.replicate t y) s3) := ⟨by rw [HE1.out, HN2.out, bind_ok, HR.out, bind_ok, if_neg hq]⟩
          have HQ2 := Aside0.mk (show l.length + t ≤ many by have := HI.out; omega)
          clear hq
          go_wp2_with fail
          obtain ⟨gko, hgko⟩ : ∃ g : Nat, g = gk := ⟨_, rfl⟩
          have HGk := Aside0.mk hgko
          clear hgko
          obtain ⟨wo, hwo⟩ : ∃ wo : World, wo = wr := ⟨_, rfl⟩
          subst hwo
          go_loopg [8, 64] t (fun kq v8 v64 wx => ∃ (A2 : Option Addr) (c2 j : Nat) (m : List Int), v8 = .slice A2 m.length c2 ∧ v64 = .int .i64 j ∧ j ≤ t ∧ Aside0 (kq + j = t) ∧ Aside0 (m = l ++ List.replicate j y) ∧ Aside0 (Len w wx B gm gr v V lb lim vo v3 s3 w1.heap.size A2 m c2 lo hi gc C))
          case atStart => exact ⟨A, c, 0, l, rfl, rfl, Nat.zero_le _, ⟨rfl⟩, ⟨by simp⟩, HL3⟩
          case round =>
            obtain ⟨A2, c2, j, m, rfl, rfl, hj, HJ, HMm, HLj⟩ := hrel
            have HJl := Aside0.mk hj
            by_cases hjt : j < t
            · have hjt' : (j : Int) < (t : Int) := by omega
              have hml : m.length = l.length + j := by rw [HMm.out, List.length_append, List.length_replicate]
              have hm1 := Aside0.mk (show (m.length + 1) * 8 ≤ 140737488355328 by have := HQ2.out; have := HMn.out; omega)
              have HJt := Aside0.mk hjt
              clear hj hjt hml
              go_wp2_with ((with_reducible refine gate_dst (N := 69) rfl ?_); refine print_append_num (w0 := wr) w1.heap.size rfl (.tmp 66) (.tmp 68) 44 3 .i64 8 rfl Tryd.underlying44 info_i64 (by decide) _ m y rfl rfl HLj.out.row (Below.refl _ _) HLj.out.le hm1.out ?_; intro v6 w6 ho _ hg6 _; obtain ⟨A6, c6, rfl⟩ := own_slice ho; have HL6 := Aside0.mk (HLj.out.push (A2 := A6) (c2 := c6) (y := y) (by have := ho; simpa using this) hg6); clear ho hg6)
              go_wp2_with fail
              go_roundg (t - (j + 1))
              case measure => have := HJ.out; have := HJt.out; omega
              case rel => exact ⟨A6, c6, j + 1, m ++ [y], by simp, rfl, HJt.out, ⟨by have := HJt.out; omega⟩, ⟨by rw [HMm.out, rep_append]⟩, HL6⟩
            · obtain rfl : j = t := by omega
              have hjt' : ¬ ((j : Int) < (j : Int)) := by omega
              have hml := Aside0.mk (show m.length = l.length + j by rw [HMm.out, List.length_append, List.length_replicate])
              clear hj hjt
              go_wp2_with fail
              go_roundg (many - m.length)
              case measure => have := HQ.out; have := hml.out; have := HT.out; have := HI.out; have := HQ2.out; omega
              case rel => exact ⟨A2, c2, m, s3, v3, k', rfl, by have := hml.out; have := HQ2.out; omega, ⟨by have := hml.out; have := HQ2.out; omega⟩, ⟨HLj.out, HS3.out⟩, ⟨by rw [HE.out.1, HE3.out, HMm.out], by have := HE.out.2; have := hml.out; have := HT.out; omega⟩⟩
    · obtain rfl : l.length = many := by omega
      have hin' : ¬ ((l.length : Int) < (l.length : Int)) := by omega
      have HEn : Aside0 (Inf.lengths V lb l.length help s = .ok l s') := ⟨by
        unfold Inf.lengths
        rw [HN1.out, bind_ok, HE.out.1]
        cases k with
        | zero => rw [lens, if_neg (by omega)]
        | succ k => rw [lens, if_neg (by omega)]⟩
      clear hl hin
      go_wp2_with fail
      go_ret
      obtain ⟨A2, c2, e2, hcc, hC2⟩ := own_slice' HL.out.1.row
      cases e2
      exact .inl ⟨l, s', v', HEn.out, ⟨A, c, rfl, hC2, hcc, rfl, fun e => (own_cap HL.out.1.row e).2⟩, HL.out.1.mac, HL.out.1.frm⟩
end
end Go.Proofs.YtiaiopdiooobiaaDoor.My

/- Slices of slices of numbers: the run of 'xs[a:]', what it reads as, and that it is nil only where it is empty. -/
namespace Go.Proofs.YtiaiopdiooobiaaDoor.My
open Go.RowKit Go.Proofs.YtiaiopdiooobiaaDoorW.PrintWords Go.Proofs.YtiaiopdiooobiaaDoorW.PrintLast Go.Proofs.YtiaiopdiooobiaaDoorW.PrintMore
set_option maxRecDepth 100000

theorem cut_from {P : Program} {k : IntKind} (t e : TypeId) {i : TypeInfo} (ht : P.underlying t = some (.slice e)) (hi : P.info? e = some i) (hsz : i.size = 1) (A : Option Addr) (n c : Nat) (xs : List Int) (a : Nat) (hm : a ≤ n) (hl : xs.length = n) (hc : n ≤ c) (hcap : A = none → n = 0 ∧ c = 0) :
    ∃ A' : Option Addr, (∀ (kl : IntKind) (W : World), (Instr.slice t (.slice A n c) (some (.int kl a)) none none).run P W = .ok (.slice A' (n - a) (c - a)) W) ∧
      (∀ w : World, (Kd.int k).C w A n xs → (Kd.int k).C w A' (n - a) (xs.drop a)) ∧ (A' = none → n - a = 0 ∧ c - a = 0) := by
  subst hl
  have hll : (xs.drop a).length = xs.length - a := by rw [List.length_drop]
  refine ⟨if c = a then A else A.map (·.add a), fun kl W => ?_, fun w h => ?_, fun h => ?_⟩
  · have hel : P.elem t = e := by simp [Program.elem, ht]
    have hu : P.underlying t = some (.slice (P.elem t)) := by rw [hel]; exact ht
    rw [run_slice_l W t A xs.length c hu kl a (by omega) (by omega), hel]
    simp [sizeOf, typeInfo, hi, hsz, sliced, Result.andThen]
  · have h2 := (reads_of_C h).drop_ (c := c) a (by omega) (by omega)
    rw [← hll]
    refine Kd.C_of_reads (d := 0) ?_
    rw [hll]
    exact h2
  · by_cases e : c = a
    · rw [if_pos e] at h
      have := hcap h
      omega
    · rw [if_neg e] at h
      have hA : A = none := by cases A with
        | none => rfl
        | some x => simp at h
      have := hcap hA
      omega
end Go.Proofs.YtiaiopdiooobiaaDoor.My

/- The walk of the inflater's told. -/
namespace Go.Proofs.YtiaiopdiooobiaaDoor.My
open Go.RowKit Go.Proofs.YtiaiopdiooobiaaDoor.Inf Go.Proofs.YtiaiopdiooobiaaDoor.Huf Go.Proofs.YtiaiopdiooobiaaDoorW.PrintWords Go.Proofs.YtiaiopdiooobiaaDoorW.PrintLast Go.Proofs.YtiaiopdiooobiaaDoorW.PrintMore
set_option maxRecDepth 100000
set_option linter.unusedVariables false
set_option linter.unusedSimpArgs false
theorem C_take {k : IntKind} {w : World} {A : Option Addr} {n : Nat} {xs : List Int} (h : (Kd.int k).C w A n xs) (a : Nat) (ha : a ≤ n) : (Kd.int k).C w A a (xs.take a) := by
  obtain ⟨h1, h2, h3⟩ := reads_of_C h
  refine C_of_readsInt ⟨by rw [List.length_take]; omega, by omega, fun hn => ?_⟩
  obtain ⟨ad, e, hc⟩ := h3 (by omega)
  refine ⟨ad, e, fun j hj => ?_⟩
  rw [hc j (by omega)]
  simp [List.getD_eq_getElem?_getD, List.getElem?_take, hj]
theorem slice_to (A : Option Addr) (n c a : Nat) (h : a ≤ c) (W : World) : (Instr.slice 44 (.slice A n c) none (some (.int .i64 a)) none).run Tryd.prog W = .ok (.slice A a c) W := by
  obtain ⟨i0, hi, hz⟩ := Option.map_eq_some_iff.1 info_i64
  simp only [Prod.mk.injEq] at hz
  have hel : Tryd.prog.elem 44 = 3 := by simp [Program.elem, Tryd.underlying44]
  have hu : Tryd.prog.underlying 44 = some (.slice (Tryd.prog.elem 44)) := by rw [hel]; exact Tryd.underlying44
  rw [run_slice_h W 44 A n c hu .i64 a (by omega) (by omega), hel]
  simp [sizeOf, typeInfo, hi, hz.2.1, sliced, Result.andThen]
  intro _
  cases A with
  | none => rfl
  | some ad => simp [Addr.add]
section
variable {B gm gr : Nat} {w w1 w2 : World} {vo v1 v2 v : Value} {V lb : Nat} {lim : Int} {s : St}
theorem Ord.turn (h : Ord w) (hm : Mac w B gm gr v V lb lim vo s) (hB : 0 < B) (hf : Frm gm gr w vo w1 v1) : Ord w1 :=
  h.frm hf (by have := hm.bm; omega) (by have := hm.rd.bg; omega) (fun k hk => by have := (hm.ob k hk).1; omega)
set_option maxHeartbeats 2000000 in
theorem told_calls (w : World) (h : Mac w B gm gr v V lb lim vo s) (hst : s.st ≤ s.a) (hB : 0 < B) (ho : Ord w) :
    Calls Tryd.prog 34 #[.pointer (some ⟨gm, 0, none⟩)] w (DidV B gm gr v V lb lim w vo (told V lb s) fun ab v' e w' => ∃ g1 lo1 hi1 g2 lo2 hi2, e = .returned (.tuple #[.pointer (some ⟨g1, 0, none⟩), .pointer (some ⟨g2, 0, none⟩)]) ∧
      CodeAt w' lo1 hi1 g1 ab.1 ∧ w.heap.size ≤ lo1 ∧ hi1 ≤ w'.heap.size ∧ newR ab.1 false = none ∧ Out lo1 hi1 v' ∧ CodeAt w' lo2 hi2 g2 ab.2 ∧ w.heap.size ≤ lo2 ∧ hi2 ≤ w'.heap.size ∧ newR ab.2 true = none ∧ Out lo2 hi2 v') := by
  have HB := Aside0.mk hB
  have HC := Aside0.mk (inumber_calls w h 5 (by omega))
  have HO := Aside0.mk (And.intro ho h)
  have HS := Aside0.mk hst
  clear h hst hB ho
  go_enter Tryd.func34, Tryd.ntmps34
  go_wp2_with fail
  refine HC.out.mono ?_
  rintro e w1 (⟨x, s1, v1, hn1, rfl, hM1, hF1⟩ | ⟨c, g, v1, hn1, rfl, hX, hgx, hF1⟩)
  rotate_left
  · have HX := Aside0.mk hX
    have HN : Aside0 (told V lb s = .er c) := ⟨by unfold told; rw [hn1]; rfl⟩
    clear hn1 hX
    go_wp2_with fail
    exact post_panic rfl (.inr ⟨c, g, v1, HN.out, rfl, HX.out, hgx, hF1⟩)
  have HN1 := Aside0.mk hn1
  have HM1 := Aside0.mk hM1
  have HF1 := Aside0.mk hF1
  obtain ⟨a1, _, a3, a4, _⟩ := number_ok hn1
  have HO1 := Aside0.mk (HO.out.1.turn HO.out.2 HB.out hF1)
  have HS1 := Aside0.mk (show s1.st ≤ s1.a by have := HS.out; omega)
  have x1 : (x : Int) ≤ 31 := by omega
  clear hn1 hM1 hF1 a1 a3 a4
  go_wp2_with fail
  refine (inumber_calls w1 HM1.out 5 (by omega)).mono ?_
  rintro e w2 (⟨y, s2, v2, hn2, rfl, hM2, hF2⟩ | ⟨c, g, v2, hn2, rfl, hX, hgx, hF2⟩)
  rotate_left
  · have HX := Aside0.mk hX
    have HN : Aside0 (told V lb s = .er c) := ⟨by unfold told; rw [HN1.out, bind_ok, hn2]; rfl⟩
    clear hn2 hX
    go_wp2_with fail
    exact post_panic rfl (.inr ⟨c, g, v2, HN.out, rfl, HX.out, Nat.le_trans HF1.out.size hgx, HF1.out.trans hF2⟩)
  have HN2 := Aside0.mk hn2
  have HM2 := Aside0.mk hM2
  have HF2 := Aside0.mk (HF1.out.trans hF2)
  obtain ⟨a1, _, a3, a4, _⟩ := number_ok hn2
  have HO2 := Aside0.mk (HO1.out.turn HM1.out HB.out hF2)
  have HS2 := Aside0.mk (show s2.st ≤ s2.a by have := HS1.out; omega)
  have y1 : (y : Int) ≤ 31 := by omega
  clear hn2 hM2 hF2 a1 a3 a4
  go_wp2_with fail
  refine (inumber_calls w2 HM2.out 4 (by omega)).mono ?_
  rintro e w3 (⟨z, s3, v3, hn3, rfl, hM3, hF3⟩ | ⟨c, g, v3, hn3, rfl, hX, hgx, hF3⟩)
  rotate_left
  · have HX := Aside0.mk hX
    have HN : Aside0 (told V lb s = .er c) := ⟨by unfold told; rw [HN1.out, bind_ok, HN2.out, bind_ok, hn3]; rfl⟩
    clear hn3 hX
    go_wp2_with fail
    exact post_panic rfl (.inr ⟨c, g, v3, HN.out, rfl, HX.out, Nat.le_trans HF2.out.size hgx, HF2.out.trans hF3⟩)
  have HN3 := Aside0.mk hn3
  have HM3 := Aside0.mk hM3
  have HF3 := Aside0.mk (HF2.out.trans hF3)
  obtain ⟨a1, _, a3, a4, _⟩ := number_ok hn3
  have HO3 := Aside0.mk (HO2.out.turn HM2.out HB.out hF3)
  have HS3 := Aside0.mk (show s3.st ≤ s3.a by have := HS2.out; omega)
  have z1 : (z : Int) ≤ 15 := by omega
  clear hn3 hM3 hF3 a1 a3 a4
  by_cases q1 : 286 < 257 + x
  · have HN : Aside0 (told V lb s = .er 2) := ⟨by unfold told; rw [HN1.out, bind_ok, HN2.out, bind_ok, HN3.out, bind_ok, if_pos (.inl q1)]⟩
    have q1' : (286 : Int) < 257 + (x : Int) := by omega
    clear q1
    go_wp2_with (go_at_call 35; refine (wrong_calls _ _).mono ?_; rintro e w4 ⟨rfl, rfl⟩)
    exact post_panic rfl (.inr ⟨2, _, v3, HN.out, rfl, ⟨alloc_self _ _⟩, HF3.out.size, frm_flt HF3.out⟩)
  have q1' : 257 + (x : Int) ≤ 286 := by omega
  by_cases q2 : 30 < 1 + y
  · have HN : Aside0 (told V lb s = .er 2) := ⟨by unfold told; rw [HN1.out, bind_ok, HN2.out, bind_ok, HN3.out, bind_ok, if_pos (.inr q2)]⟩
    have q2' : (30 : Int) < 1 + (y : Int) := by omega
    clear q1 q2
    go_wp2_with (go_at_call 35; refine (wrong_calls _ _).mono ?_; rintro e w4 ⟨rfl, rfl⟩)
    exact post_panic rfl (.inr ⟨2, _, v3, HN.out, rfl, ⟨alloc_self _ _⟩, HF3.out.size, frm_flt HF3.out⟩)
  have q2' : 1 + (y : Int) ≤ 30 := by omega
  have HQ := Aside0.mk (show 257 + x ≤ 286 ∧ 1 + y ≤ 30 by omega)
  have HE : Aside0 (told V lb s = (Inf.lengths V lb (257 + x + (1 + y)) (4 + z) s3).bind fun l s => (okCode (l.take (257 + x)) false s).bind fun _ s => (okCode (l.drop (257 + x)) true s).bind fun _ s => if l.getD 256 0 = 0 then .er 2 else .ok (l.take (257 + x), l.drop (257 + x)) s) :=
    ⟨by unfold told; rw [HN1.out, bind_ok, HN2.out, bind_ok, HN3.out, bind_ok, if_neg (by omega)]⟩
  have HLc := Aside0.mk (lengths_calls w3 HM3.out HS3.out HB.out HO3.out (257 + x + (1 + y)) (4 + z) (by omega) (by omega))
  rw [show ((257 + x + (1 + y) : Nat) : Int) = 257 + (x : Int) + (1 + (y : Int)) by omega, show ((4 + z : Nat) : Int) = 4 + (z : Int) by omega] at HLc
  clear q1 q2
  go_wp2_with fail
  refine HLc.out.mono ?_
  rintro e w4 (⟨l, s4, v4, hn4, ⟨A, c, rfl, hCl, hlc, hlen, hnil⟩, hM4, hF4⟩ | ⟨c, g, v4, hn4, rfl, hX, hgx, hF4⟩)
  rotate_left
  · have HX := Aside0.mk hX
    have HN : Aside0 (told V lb s = .er c) := ⟨by rw [HE.out, hn4]; rfl⟩
    clear hn4 hX
    go_wp2_with fail
    exact post_panic rfl (.inr ⟨c, g, v4, HN.out, rfl, HX.out, Nat.le_trans HF3.out.size hgx, HF3.out.trans hF4⟩)
  rw [hn4, bind_ok] at HE
  have HM4 := Aside0.mk hM4
  have HF4 := Aside0.mk (HF3.out.trans hF4)
  obtain ⟨i0, hi0, hz⟩ := Option.map_eq_some_iff.1 info_i64
  simp only [Prod.mk.injEq] at hz
  obtain ⟨A2, hcut, hC2, hnil2⟩ := cut_from (P := Tryd.prog) (k := .i64) 44 3 Tryd.underlying44 hi0 hz.2.1 A l.length c l (257 + x) (by omega) rfl hlc (fun e => by have := hnil e; omega)
  have hsl : ∀ W : World, (Instr.slice 44 (.slice A l.length c) none (some (.int .i64 (257 + (x : Int)))) none).run Tryd.prog W = .ok (.slice A (257 + x) c) W := fun W => by
    have := slice_to A l.length c (257 + x) (by omega) W
    rwa [show ((257 + x : Nat) : Int) = 257 + (x : Int) by omega] at this
  have hcut' : ∀ W : World, (Instr.slice 44 (.slice A l.length c) (some (.int .i64 (257 + (x : Int)))) none none).run Tryd.prog W = .ok (.slice A2 (l.length - (257 + x)) (c - (257 + x))) W := fun W => by
    have := hcut .i64 W
    rwa [show ((257 + x : Nat) : Int) = 257 + (x : Int) by omega] at this
  have HCl := Aside0.mk hCl
  have HLen := Aside0.mk hlen
  have H1 := Aside0.mk (fun (wx : World) (hb : Below w4.heap.size w4 wx) => code_calls wx A (257 + x) c (l.take (257 + x)) false (C_take (Kd.C_below HCl.out hb) (257 + x) (by omega)) (by omega) (by rw [List.length_take]; omega) (fun e => by have := hnil e; omega))
  have H2 := Aside0.mk (fun (wx : World) (hb : Below w4.heap.size w4 wx) => code_calls wx A2 (l.length - (257 + x)) (c - (257 + x)) (l.drop (257 + x)) true (hC2 wx (Kd.C_below HCl.out hb)) (by omega) (by rw [List.length_drop]) hnil2)
  clear hn4 hM4 hF4 hi0 hz hcut hC2 hnil2 hCl hlc hlen hnil
  have HBx := Aside0.mk (show Below w4.heap.size w4 w4.drew from ⟨rfl, rfl, rfl, Nat.le_refl _, fun _ _ => rfl⟩)
  have z2 : (0 : Int) ≤ 257 + (x : Int) := by omega
  have HO4 := Aside0.mk (show ∀ k, v4.ownBlock = some k → k < w4.heap.size from fun k hk => (HM4.out.ob k hk).2)
  cases hA : newR (l.take (257 + x)) false with
  | some cA =>
    have HN : Aside0 (told V lb s = .er 2) := ⟨by rw [HE.out]; unfold okCode; rw [hA]; rfl⟩
    have H1' : Aside0 (∀ (wx : World), Below w4.heap.size w4 wx → Calls Tryd.prog 53 #[.slice A (257 + x) c, .bool false] wx fun e w' => (e = .returned (.pointer none) ∧ Aside0 False) ∨ ∃ g, e = .panicked [{ v := fltV g, recovered := false }] ∧ Flt w' g 2 ⟨#[]⟩ ∧ wx.heap.size ≤ g ∧ Below wx.heap.size wx w') := ⟨fun wx hb => (H1.out wx hb).mono fun e w' h => by
      rcases h with ⟨h, _⟩ | ⟨_, h⟩
      · rw [hA] at h; cases h
      · exact .inr h⟩
    clear hA H1
    go_upto_region 5 with (fail)
    go_region_with (first
      | (go_at_call 53; (with_reducible refine (H1'.out _ HBx.out).mono ?_); rintro e w5 (⟨rfl, HFa⟩ | ⟨g, rfl, hX, hgx, hb⟩); rotate_left 1; (have HX := Aside0.mk hX; have HFx := Aside0.mk hb; clear hX hb; go_simp; exact post_panic rfl (.inr ⟨2, g, v4, HN.out, rfl, HX.out, Nat.le_trans HF4.out.size hgx, (HF4.out.drew).below HFx.out⟩)); skip)
      | (go_at_call 53; refine (show Calls Tryd.prog 53 _ _ (fun e w' => e = .returned (.pointer none)) from HFa.out.elim).mono ?_; rintro e w6 rfl))
    all_goals exact HFa.out.elim
  | none =>
    have hA1 : ∀ (wx : World), Below w4.heap.size w4 wx → Calls Tryd.prog 53 #[.slice A (257 + x) c, .bool false] wx fun e w' => ∃ g, e = .returned (.pointer (some ⟨g, 0, none⟩)) ∧ CodeAt w' wx.heap.size w'.heap.size g (l.take (257 + x)) ∧ Below wx.heap.size wx w' := fun wx hb => (H1.out wx hb).mono fun e w' h => by
      rcases h with ⟨_, h⟩ | ⟨h, _⟩
      · exact h
      · exact absurd hA h
    have H1' := Aside0.mk hA1
    have HA := Aside0.mk hA
    clear hA H1 hA1
    cases hB2 : newR (l.drop (257 + x)) true with
    | some cA =>
      have HN : Aside0 (told V lb s = .er 2) := ⟨by rw [HE.out]; unfold okCode; rw [HA.out, hB2]; rfl⟩
      have H2' : Aside0 (∀ (wx : World), Below w4.heap.size w4 wx → Calls Tryd.prog 53 #[.slice A2 (l.length - (257 + x)) (c - (257 + x)), .bool true] wx fun e w' => (e = .returned (.pointer none) ∧ Aside0 False) ∨ ∃ g, e = .panicked [{ v := fltV g, recovered := false }] ∧ Flt w' g 2 ⟨#[]⟩ ∧ wx.heap.size ≤ g ∧ Below wx.heap.size wx w') := ⟨fun wx hb => (H2.out wx hb).mono fun e w' h => by
        rcases h with ⟨h, _⟩ | ⟨_, h⟩
        · rw [hB2] at h; cases h
        · exact .inr h⟩
      clear hB2 H2
      go_upto_region 5 with (fail)
      go_region_with (first
        | (go_at_call 53; (with_reducible refine (H1'.out _ HBx.out).mono ?_); rintro e w5 ⟨g1, rfl, hk1, hb1⟩; have HB5 := Aside0.mk (HBx.out.trans (Below.mono hb1 HBx.out.size)); clear hk1 hb1)
        | (go_at_call 53; (with_reducible refine (H2'.out _ HB5.out).mono ?_); rintro e w6 (⟨rfl, HFa⟩ | ⟨g, rfl, hX, hgx, hb⟩); rotate_left 1; (have HX := Aside0.mk hX; have HFx := Aside0.mk hb; clear hX hb; go_simp; exact post_panic rfl (.inr ⟨2, g, v4, HN.out, rfl, HX.out, Nat.le_trans HF4.out.size (Nat.le_trans HB5.out.size hgx), (HF4.out.below HB5.out).below HFx.out⟩)); skip))
      all_goals exact HFa.out.elim
    | none =>
      have hA2 : ∀ (wx : World), Below w4.heap.size w4 wx → Calls Tryd.prog 53 #[.slice A2 (l.length - (257 + x)) (c - (257 + x)), .bool true] wx fun e w' => ∃ g, e = .returned (.pointer (some ⟨g, 0, none⟩)) ∧ CodeAt w' wx.heap.size w'.heap.size g (l.drop (257 + x)) ∧ Below wx.heap.size wx w' := fun wx hb => (H2.out wx hb).mono fun e w' h => by
        rcases h with ⟨_, h⟩ | ⟨h, _⟩
        · exact h
        · exact absurd hB2 h
      have H2' := Aside0.mk hA2
      have HB2 := Aside0.mk hB2
      clear hB2 H2 hA2
      go_upto_region 5 with (fail)
      go_region_with (first
        | (go_at_call 53; (with_reducible refine (H1'.out _ HBx.out).mono ?_); rintro e w5 ⟨g1, rfl, hk1, hb1⟩; have HB5 := Aside0.mk (HBx.out.trans (Below.mono hb1 HBx.out.size)); have HK1 := Aside0.mk hk1; clear hk1 hb1)
        | (go_at_call 53; (with_reducible refine (H2'.out _ HB5.out).mono ?_); rintro e w6 ⟨g2, rfl, hk2, hb2⟩; have HB6 := Aside0.mk hb2; have HK2 := Aside0.mk hk2; clear hk2 hb2))
      all_goals
        have hB6 := HB5.out.trans (Below.mono HB6.out HB5.out.size)
        have hC6 := Kd.C_below HCl.out hB6
        obtain ⟨ad, rfl, hc⟩ := Kd.at_int hC6 (256 : Int) (by omega) (by have := HLen.out; omega)
        have hcc : rd l (256 : Int) = l.getD 256 0 := rfl
        rw [hcc] at hc
        have hc' : w6.cell? ⟨ad.block, ad.off + 256, none⟩ = some (.int .i64 (l.getD 256 0)) := hc
        have z3 : (256 : Int) < (l.length : Int) := by have := HLen.out; omega
        have HB7 := Aside0.mk hB6
        have HQ3 : Aside0 (told V lb s = if l.getD 256 0 = 0 then .er 2 else .ok (l.take (257 + x), l.drop (257 + x)) s4) := ⟨by rw [HE.out]; unfold okCode; rw [HA.out, HB2.out]; rfl⟩
        clear hc hcc hC6 hB6
        generalize l.getD 256 0 = yy at *
        by_cases q3 : yy = 0
        · subst q3
          rw [if_pos rfl] at HQ3
          go_wp2_with (go_at_call 35; refine (wrong_calls _ _).mono ?_; rintro e w4 ⟨rfl, rfl⟩)
          exact post_panic rfl (.inr ⟨2, _, v4, HQ3.out, rfl, ⟨alloc_self _ _⟩, Nat.le_trans HF4.out.size HB7.out.size, frm_flt (HF4.out.below HB7.out)⟩)
        · rw [if_neg q3] at HQ3
          have q3' : (yy == 0) = false := by simpa using q3
          go_wp2_with fail
          go_ret2
          refine .inl ⟨_, s4, v4, HQ3.out, ⟨g1, _, _, g2, _, _, rfl, HK1.out.below HB6.out, ?_, ?_, HA.out, fun k hk => .inl ?_, HK2.out, ?_, Nat.le_refl _, HB2.out, fun k hk => .inl ?_⟩, HM4.out.below HB7.out, HF4.out.below HB7.out⟩
          · exact HF4.out.size
          · exact HB6.out.size
          · exact HO4.out k hk
          · exact Nat.le_trans HF4.out.size HB5.out.size
          · exact Nat.lt_of_lt_of_le (HO4.out k hk) HB5.out.size
end
end Go.Proofs.YtiaiopdiooobiaaDoor.My

/- The walks of the inflater's fixed and coded. -/
namespace Go.Proofs.YtiaiopdiooobiaaDoor.Inf
open Go.Proofs.YtiaiopdiooobiaaDoor.Huf Go.Proofs.YtiaiopdiooobiaaDoor.My
set_option linter.unusedVariables false
theorem length_ok {V lb n : Nat} {x : Int} {s s' : St} (h : Inf.length V lb x s = .ok n s') : n ≤ 1000 ∧ s'.out = s.out ∧ s'.st = s.st ∧ s.a ≤ s'.a := by
  unfold Inf.length at h
  split at h
  · cases h
  · split at h
    · injection h with h1 h2
      subst h1 h2
      exact ⟨by omega, rfl, rfl, Nat.le_refl _⟩
    · split at h
      · cases hn : number V lb ((x - 257).toNat / 4 - 1) s with
        | er c => rw [hn] at h; cases h
        | ok m s1 =>
          rw [hn, bind_ok] at h
          injection h with h1 h2
          subst h1 h2
          obtain ⟨a1, a2, a3, a4, _⟩ := number_ok hn
          refine ⟨?_, a2, a3, by omega⟩
          have hk : (x - 257).toNat / 4 - 1 ≤ 6 := by omega
          have h2 : 2 ^ ((x - 257).toNat / 4 - 1) ≤ 2 ^ 6 := Nat.pow_le_pow_right (by decide) hk
          have h3 : (4 + (x - 257).toNat % 4) * 2 ^ ((x - 257).toNat / 4 - 1) ≤ 7 * 2 ^ 6 := Nat.mul_le_mul (by omega) h2
          omega
      · injection h with h1 h2
        subst h1 h2
        exact ⟨by omega, rfl, rfl, Nat.le_refl _⟩
theorem distance_ok {V lb n : Nat} {x : Int} {s s' : St} (h : distance V lb x s = .ok n s') : 1 ≤ n ∧ n ≤ 100000 ∧ s'.out = s.out ∧ s'.st = s.st ∧ s.a ≤ s'.a := by
  unfold distance at h
  split at h
  · cases h
  · split at h
    · injection h with h1 h2
      subst h1 h2
      exact ⟨by omega, by omega, rfl, rfl, Nat.le_refl _⟩
    · cases hn : number V lb (x.toNat / 2 - 1) s with
      | er c => rw [hn] at h; cases h
      | ok m s1 =>
        rw [hn, bind_ok] at h
        injection h with h1 h2
        subst h1 h2
        obtain ⟨a1, a2, a3, a4, _⟩ := number_ok hn
        have hk : x.toNat / 2 - 1 ≤ 13 := by omega
        have h2 : 2 ^ (x.toNat / 2 - 1) ≤ 2 ^ 13 := Nat.pow_le_pow_right (by decide) hk
        have h3 : (2 + x.toNat % 2) * 2 ^ (x.toNat / 2 - 1) ≤ 3 * 2 ^ 13 := Nat.mul_le_mul (by omega) h2
        exact ⟨by omega, by omega, a2, a3, by omega⟩
theorem again_ok {lim : Int} {n d : Nat} {s s' : St} {u : Unit} (h : again lim n d s = .ok u s') : s'.a = s.a ∧ s'.st = s.st ∧ s'.out = cpy d n s.out ∧ d ≤ s.out.length ∧ (s.out.length : Int) + n ≤ lim := by
  unfold again at h
  split at h
  · cases h
  · cases hr : room lim n s with
    | er c => rw [hr] at h; cases h
    | ok v s1 =>
      rw [hr, bind_ok] at h
      injection h with h1 h2
      subst h2
      obtain ⟨rfl, hh⟩ := room_ok hr
      exact ⟨rfl, rfl, rfl, by omega, hh⟩
theorem letters_ok : newR letters false = none := by decide +kernel
theorem fixB_ok : newR fixB true = none := by decide +kernel
end Go.Proofs.YtiaiopdiooobiaaDoor.Inf
namespace Go.Proofs.YtiaiopdiooobiaaDoor.My
open Go.RowKit Go.Proofs.YtiaiopdiooobiaaDoor.Inf Go.Proofs.YtiaiopdiooobiaaDoor.Huf Go.Proofs.YtiaiopdiooobiaaDoorW.PrintWords Go.Proofs.YtiaiopdiooobiaaDoorW.PrintLast Go.Proofs.YtiaiopdiooobiaaDoorW.PrintMore
set_option maxRecDepth 100000
set_option linter.unusedVariables false
set_option linter.unusedSimpArgs false
/-- The fixed codes. -/
theorem ifixed_calls (w : World) : Calls Tryd.prog 33 #[] w fun e w' => ∃ g1 lo1 hi1 g2 lo2 hi2, e = .returned (.tuple #[.pointer (some ⟨g1, 0, none⟩), .pointer (some ⟨g2, 0, none⟩)]) ∧
    CodeAt w' lo1 hi1 g1 letters ∧ w.heap.size ≤ lo1 ∧ hi1 ≤ w'.heap.size ∧ CodeAt w' lo2 hi2 g2 fixB ∧ w.heap.size ≤ lo2 ∧ hi2 ≤ w'.heap.size ∧ Below w.heap.size w w' := by
  go_enter Tryd.func33, Tryd.ntmps33
  go_wp2_with (go_at_call 40; refine (fixed_calls w).mono ?_; rintro e w1 ⟨A1, A2, c1, c2, rfl, hC1, ⟨g, rfl, rfl, hg, hr⟩, hc1, hb⟩; have HC1 := Aside0.mk hC1; have HR := Aside0.mk (And.intro hr hg); have HB := Aside0.mk hb; clear hC1 hr hb hg hc1)
  have HT := Aside0.mk (code_calls w1 A1 288 c1 letters false HC1.out (by omega) (by decide +kernel) (fun e => by
    obtain ⟨h1, h2, h3⟩ := reads_of_C HC1.out
    obtain ⟨ad, e2, _⟩ := h3 (by omega)
    rw [e] at e2; cases e2))
  refine HT.out.mono ?_
  rintro e w2 (⟨_, g1, rfl, hk1, hb1⟩ | ⟨h, _⟩)
  rotate_left
  · exact absurd letters_ok h
  have HK1 := Aside0.mk hk1
  have HB2 := Aside0.mk hb1
  have hr2 : IRow w2 g 3 dists := blk_below HR.out.1 hb1
  have hlt := blk_lt HR.out.1
  have hown : w2.ownsRow w.heap.size 3 1 (.slice (some ⟨g, 0, none⟩) 30 30) dists.length (nums .i64 dists) := by
    refine ⟨by rw [nums_length, Nat.mul_one], .inr ⟨g, 30, (nums .i64 dists).toArray, rfl, HR.out.2, hr2, by decide, by unfold maxLen; decide, by rw [List.size_toArray, nums_length]; rfl, by rw [List.take_of_length_le (by simp [nums_length])]⟩⟩
  have HOw := Aside0.mk hown
  have HLt := Aside0.mk hlt
  have HRd : Aside0 (∀ W : World, ReadsInt (W.alloc (.cells #[.int .i64 5, .int .i64 5] 3)) .i64 (some ⟨W.heap.size, 0, none⟩) 2 [5, 5]) := ⟨fun W => reads_of_C (C_block (W.alloc (.cells #[.int .i64 5, .int .i64 5] 3)) W.heap.size .i64 [5, 5] 3 (0, 0) (alloc_self _ _) (by simp))⟩
  have HBs := Aside0.mk (show w.heap.size ≤ w2.heap.size from Nat.le_trans HB.out.size hb1.size)
  clear hk1 hb1 hr2 hlt hown
  go_wp2_with ((with_reducible refine gate_dst (N := 12) rfl ?_); refine print_append_row (w0 := w) w.heap.size rfl (.tmp 10) (.tmp 11) 44 3 .i64 8 rfl Tryd.underlying44 info_i64 (by decide) (.slice (some ⟨g, 0, none⟩) 30 30) dists [5, 5] (some ⟨w2.heap.size, 0, none⟩) 2 2 rfl rfl (HOw.out.alloc _) (HRd.out w2) ((HB.out.trans (Below.mono HB2.out HB.out.size)).trans (Below.mono (below_alloc (Below.refl _ _) _) HBs.out)) (by simp; have := HBs.out; omega) (by decide) ?_)
  intro v3 w3 ho hb3 hg3 _
  obtain ⟨A3, c3, rfl, hc3, hC3⟩ := own_slice' ho
  have hnil := own_cap ho
  have hg3' : w2.grownBy w3 (some g) := ⟨hg3.os, hg3.tape, hg3.output, Nat.le_trans (by simp) hg3.size, fun k hk hne => (hg3.block k (by simp; omega) hne).trans (Below.heap_alloc w2 _ k hk)⟩
  have HK3 := Aside0.mk (HK1.out.grown hg3' (fun r e => by injection e with e; subst e; exact .inl HLt.out))
  have HB3 := Aside0.mk hb3
  have HSz := Aside0.mk hg3'.size
  have HT2 := Aside0.mk (code_calls w3 A3 32 c3 fixB true hC3 (by omega) (by decide) (fun e => by have := hnil e; simp at this))
  have hl32 : dists.length + 2 = 32 := by decide
  rw [hl32] at *
  clear ho hb3 hg3 hC3 hnil hc3 hg3'
  go_wp2_with fail
  refine HT2.out.mono ?_
  rintro e w4 (⟨_, g2, rfl, hk2, hb2⟩ | ⟨h, _⟩)
  rotate_left
  · exact absurd fixB_ok h
  have HK4 := Aside0.mk hk2
  have HB4 := Aside0.mk hb2
  clear hk2 hb2
  go_wp2_with fail
  go_ret2
  exact ⟨g1, _, _, g2, _, _, rfl, HK3.out.below HB4.out, HB.out.size, Nat.le_trans HSz.out HB4.out.size, HK4.out, HB3.out.size, Nat.le_refl _, HB3.out.trans (Below.mono HB4.out HB3.out.size)⟩
section
variable {B gm gr : Nat} {w w1 w2 : World} {vo v1 v2 v : Value} {V lb : Nat} {lim : Int} {s : St}
/-- A code beside the machine. -/
structure Cd (w : World) (gm gr : Nat) (vo : Value) (lo hi gc : Nat) (L : List Int) : Prop where
  at_ : CodeAt w lo hi gc L
  hh : hi ≤ w.heap.size
  m : gm < lo ∨ hi ≤ gm
  r : gr < lo ∨ hi ≤ gr
  out : Out lo hi vo
theorem Cd.frm {lo hi gc : Nat} {L : List Int} (h : Cd w gm gr vo lo hi gc L) (hf : Frm gm gr w vo w1 v1) : Cd w1 gm gr v1 lo hi gc L :=
  ⟨h.at_.frm hf h.hh h.m h.r h.out, Nat.le_trans h.hh hf.size, h.m, h.r, h.out.frm hf h.hh⟩
set_option maxHeartbeats 2000000 in
theorem coded_calls (w : World) (h : Mac w B gm gr v V lb lim vo s) (hst : s.st ≤ s.a) (lo1 hi1 g1 lo2 hi2 g2 : Nat) (L1 L2 : List Int) (k1 : Cd w gm gr vo lo1 hi1 g1 L1) (k2 : Cd w gm gr vo lo2 hi2 g2 L2) (n1 : newR L1 false = none) (n2 : newR L2 true = none) :
    Calls Tryd.prog 32 #[.pointer (some ⟨gm, 0, none⟩), .pointer (some ⟨g1, 0, none⟩), .pointer (some ⟨g2, 0, none⟩)] w (Did B gm gr v V lb lim w vo (codes V lb lim L1 L2 s) fun _ e _ => e = .returned (.tuple #[])) := by
  have HS := Aside0.mk (And.intro h hst)
  have HK := Aside0.mk (And.intro k1 k2)
  have HN1 := Aside0.mk (newR_ok n1)
  have HN2 := Aside0.mk (newR_ok n2)
  clear h hst k1 k2 n1 n2
  unfold codes
  obtain ⟨kf, hkf⟩ : ∃ kf, kf = 8 * lb + 1 - s.a := ⟨_, rfl⟩
  have HKf := Aside0.mk (show 8 * lb + 1 ≤ kf + s.a by have := HS.out.1.al; omega)
  rw [← hkf]
  clear hkf
  go_enter Tryd.func32, Tryd.ntmps32
  go_wp2_with fail
  go_loopg [] kf (fun kq wr => ∃ (s' : St) (v' : Value), Aside0 (8 * lb + 1 ≤ kq + s'.a) ∧ Aside0 (Mac wr B gm gr v V lb lim v' s' ∧ s'.st ≤ s'.a) ∧ Aside0 (Frm gm gr w vo wr v') ∧ Aside0 (Cd wr gm gr v' lo1 hi1 g1 L1 ∧ Cd wr gm gr v' lo2 hi2 g2 L2) ∧
    Aside0 (coded V lb lim L1 L2 kf s = coded V lb lim L1 L2 kq s'))
  case atStart => exact ⟨s, vo, HKf, HS, ⟨Frm.refl _ _ _ _⟩, HK, ⟨rfl⟩⟩
  case round =>
    obtain ⟨s', v', HQ, HM, HF, HC, HE⟩ := hrel
    obtain ⟨k', rfl⟩ : ∃ k', gk = k' + 1 := ⟨gk - 1, by have := HQ.out; have := HM.out.1.al; omega⟩
    have HSg := Aside0.mk (sign_calls wr HM.out.1 HM.out.2 lo1 hi1 g1 L1 HC.out.1.at_ HN1.out.1 HN1.out.2.1 HN1.out.2.2 HC.out.1.r HC.out.1.m)
    go_wp2_with fail
    refine HSg.out.mono ?_
    rintro e w2 (⟨x, s2, v2, hn, rfl, hM2, hF2⟩ | ⟨ce, g, v2, hn, rfl, hX, hgx, hF2⟩)
    rotate_left
    · have HX := Aside0.mk hX
      have HN : Aside0 (coded V lb lim L1 L2 kf s = .er ce) := ⟨by rw [HE.out, coded, hn]; rfl⟩
      clear hn hX
      go_wp2_with fail
      exact post_panic rfl (.inr ⟨ce, g, v2, HN.out, rfl, HX.out, Nat.le_trans HF.out.size hgx, HF.out.trans hF2⟩)
    obtain ⟨x0, x1, x2, x3, x4, x6⟩ := sign_ok hn
    have x5 : x ≤ 320 := by have := HN1.out.1; omega
    have HM2 := Aside0.mk (And.intro hM2 (show s2.st ≤ s2.a by have := HM.out.2; omega))
    have HQ2 := Aside0.mk (show 8 * lb + 1 ≤ k' + s2.a by have := HQ.out; omega)
    have HC2 := Aside0.mk (And.intro (HC.out.1.frm hF2) (HC.out.2.frm hF2))
    have HF2 := Aside0.mk (HF.out.trans hF2)
    have HG2 := Aside0.mk hn
    clear hn hM2 hF2 x1 x2 x3 x4 x6 HSg
    by_cases q1 : x = 256
    · subst q1
      have HN : Aside0 (coded V lb lim L1 L2 kf s = .ok () s2) := ⟨by rw [HE.out, coded, HG2.out, bind_ok]; rfl⟩
      go_wp2_with fail
      refine bodyPost_ret (results_none rfl _ _ _) rfl ?_
      exact .inl ⟨(), s2, v2, HN.out, rfl, HM2.out.1, HF2.out⟩
    have q1' : (x == 256) = false := by simpa using q1
    by_cases q2 : x < 256
    · have HE2 : Aside0 (coded V lb lim L1 L2 kf s = (room lim 1 s2).bind fun _ s => coded V lb lim L1 L2 k' ⟨s.a, s.out ++ [x], s.st⟩) := ⟨by rw [HE.out, coded, HG2.out, bind_ok, if_neg q1, if_pos q2]⟩
      have ew : IntKind.u8.wrap x = x := by rw [IntKind.wrap_u8]; omega
      clear q1
      go_wp2_with fail
      refine (room_calls w2 HM2.out.1 1 (by omega)).mono ?_
      rintro e w3 (⟨u, s3, v3, hn, rfl, hM3, hF3⟩ | ⟨ce, g, v3, hn, rfl, hX, hgx, hF3⟩)
      rotate_left
      · have HX := Aside0.mk hX
        have HN : Aside0 (coded V lb lim L1 L2 kf s = .er ce) := ⟨by rw [HE2.out, hn]; rfl⟩
        clear hn hX
        go_wp2_with fail
        exact post_panic rfl (.inr ⟨ce, g, v3, HN.out, rfl, HX.out, Nat.le_trans HF2.out.size hgx, HF2.out.trans hF3⟩)
      obtain ⟨rfl, hroom⟩ := room_ok hn
      rw [hn, bind_ok] at HE2
      obtain ⟨A3, c3, rfl⟩ := own_slice hM3.row
      obtain ⟨_, d1, _, _, f1, _⟩ := hM3.cells
      have HM3 := Aside0.mk (And.intro hM3 HM2.out.2)
      have HF3 := Aside0.mk (HF2.out.trans hF3)
      have HC3 := Aside0.mk (And.intro (HC2.out.1.frm hF3) (HC2.out.2.frm hF3))
      have HBB := Aside0.mk hM3.bs
      have HR := Aside0.mk hroom
      have HSm := Aside0.mk (show (s3.out.length + 1) * 1 ≤ 140737488355328 by have := hM3.l1; omega)
      clear hn hM3 hF3 hroom q2
      go_wp2_with ((with_reducible refine gate_dst (N := 38) rfl ?_); refine print_append_num (w0 := w3) B rfl (.tmp 34) (.tmp 37) 22 5 .u8 1 rfl Tryd.underlying22 info_u8 (by decide) (.slice A3 s3.out.length c3) s3.out x rfl rfl HM3.out.1.row (Below.refl _ _) HBB.out HSm.out ?_)
      intro v6 w6 ho hb hg6 hk
      obtain ⟨A6, c6, rfl⟩ := own_slice ho
      have hM6 := HM3.out.1.put (ys := [x]) (n := s3.out.length + 1) rfl (by have := ho; simpa using this) hg6 hk (by have := HR.out; show ((s3.out.length + 1 : Nat) : Int) ≤ lim; omega)
      have HF6 := Aside0.mk ((HF3.out.trans (Frm.of_grown hg6 hk)).set 1 (.slice A6 (s3.out.length + 1) c6))
      have hF36 := (Frm.of_grown (gm := gm) (gr := gr) hg6 hk).set 1 (.slice A6 (s3.out.length + 1) c6)
      have HC6 := Aside0.mk (And.intro (HC3.out.1.frm hF36) (HC3.out.2.frm hF36))
      have HM6 := Aside0.mk hM6
      have hpre := blk_grown HM3.out.1.blk hg6 HM3.out.1.ne
      have p1 := blk_cell hpre 1
      have q1 := blk_frozen hpre 1
      clear ho hb hg6 hk hM6 hpre hF36 d1 f1
      go_wp2_with fail
      go_roundg k'
      case measure => omega
      case rel => exact ⟨⟨s3.a, s3.out ++ [x], s3.st⟩, _, HQ2, ⟨HM6.out, HM3.out.2⟩, HF6, HC6, HE2⟩
    have q3 : 257 ≤ x := by omega
    have HE2 : Aside0 (coded V lb lim L1 L2 kf s = (Inf.length V lb x s2).bind fun n s => (far V lb L2 s).bind fun y s => (distance V lb y s).bind fun d s => (again lim n d s).bind fun _ s => coded V lb lim L1 L2 k' s) := ⟨by rw [HE.out, coded, HG2.out, bind_ok, if_neg q1, if_neg q2]⟩
    clear q1 q2
    go_wp2_with fail
    refine (ilength_calls w2 HM2.out.1 x q3 x5).mono ?_
    rintro e w3 (⟨n, s3, v3, hn, rfl, hM3, hF3⟩ | ⟨ce, g, v3, hn, rfl, hX, hgx, hF3⟩)
    rotate_left
    · have HX := Aside0.mk hX
      have HN : Aside0 (coded V lb lim L1 L2 kf s = .er ce) := ⟨by rw [HE2.out, hn]; rfl⟩
      clear hn hX
      go_wp2_with fail
      exact post_panic rfl (.inr ⟨ce, g, v3, HN.out, rfl, HX.out, Nat.le_trans HF2.out.size hgx, HF2.out.trans hF3⟩)
    obtain ⟨l1, l2, l3, l4⟩ := length_ok hn
    rw [hn, bind_ok] at HE2
    have HM3 := Aside0.mk (And.intro hM3 (show s3.st ≤ s3.a by have := HM2.out.2; omega))
    have HQ3 := Aside0.mk (show 8 * lb + 1 ≤ k' + s3.a by have := HQ2.out; omega)
    have HC3 := Aside0.mk (And.intro (HC2.out.1.frm hF3) (HC2.out.2.frm hF3))
    have HF3 := Aside0.mk (HF2.out.trans hF3)
    have HL1 := Aside0.mk l1
    clear hn hM3 hF3 l1 l2 l3 l4 q3 x5 x0 q1'
    go_wp2_with fail
    refine (far_calls w3 HM3.out.1 lo2 hi2 g2 L2 HC3.out.2.at_ HN2.out.1 HN2.out.2.1 HN2.out.2.2 HC3.out.2.r).mono ?_
    rintro e w4 (⟨y, s4, v4, hn, rfl, hM4, hF4⟩ | ⟨ce, g, v4, hn, rfl, hX, hgx, hF4⟩)
    rotate_left
    · have HX := Aside0.mk hX
      have HN : Aside0 (coded V lb lim L1 L2 kf s = .er ce) := ⟨by rw [HE2.out, hn]; rfl⟩
      clear hn hX
      go_wp2_with fail
      exact post_panic rfl (.inr ⟨ce, g, v4, HN.out, rfl, HX.out, Nat.le_trans HF3.out.size hgx, HF3.out.trans hF4⟩)
    obtain ⟨y0, y1, y2, y3, y4, y5⟩ := far_ok hn
    rw [hn, bind_ok] at HE2
    have HM4 := Aside0.mk (And.intro hM4 (show s4.st ≤ s4.a by have := HM3.out.2; omega))
    have HQ4 := Aside0.mk (show 8 * lb + 1 ≤ k' + s4.a by have := HQ3.out; omega)
    have HC4 := Aside0.mk (And.intro (HC3.out.1.frm hF4) (HC3.out.2.frm hF4))
    have HF4 := Aside0.mk (HF3.out.trans hF4)
    obtain ⟨z, rfl⟩ := Int.eq_ofNat_of_zero_le y0
    have HY := Aside0.mk (show z ≤ 320 by have := HN2.out.1; omega)
    clear hn hM4 hF4 y0 y1 y2 y3 y4 y5
    go_wp2_with fail
    refine (idistance_calls w4 HM4.out.1 z HY.out).mono ?_
    rintro e w5 (⟨d, s5, v5, hn, rfl, hM5, hF5⟩ | ⟨ce, g, v5, hn, rfl, hX, hgx, hF5⟩)
    rotate_left
    · have HX := Aside0.mk hX
      have HN : Aside0 (coded V lb lim L1 L2 kf s = .er ce) := ⟨by rw [HE2.out, hn]; rfl⟩
      clear hn hX
      go_wp2_with fail
      exact post_panic rfl (.inr ⟨ce, g, v5, HN.out, rfl, HX.out, Nat.le_trans HF4.out.size hgx, HF4.out.trans hF5⟩)
    obtain ⟨d1, d2, d3, d4, d5⟩ := distance_ok hn
    rw [hn, bind_ok] at HE2
    have HM5 := Aside0.mk (And.intro hM5 (show s5.st ≤ s5.a by have := HM4.out.2; omega))
    have HQ5 := Aside0.mk (show 8 * lb + 1 ≤ k' + s5.a by have := HQ4.out; omega)
    have HC5 := Aside0.mk (And.intro (HC4.out.1.frm hF5) (HC4.out.2.frm hF5))
    have HF5 := Aside0.mk (HF4.out.trans hF5)
    have HD := Aside0.mk (And.intro d1 d2)
    clear hn hM5 hF5 d1 d2 d3 d4 d5
    go_wp2_with fail
    refine (again_calls w5 HM5.out.1 n d HD.out.1 (by have := HL1.out; omega) (by have := HD.out; omega)).mono ?_
    rintro e w6 (⟨u, s6, v6, hn, rfl, hM6, hF6⟩ | ⟨ce, g, v6, hn, rfl, hX, hgx, hF6⟩)
    rotate_left
    · have HX := Aside0.mk hX
      have HN : Aside0 (coded V lb lim L1 L2 kf s = .er ce) := ⟨by rw [HE2.out, hn]; rfl⟩
      clear hn hX
      go_wp2_with fail
      exact post_panic rfl (.inr ⟨ce, g, v6, HN.out, rfl, HX.out, Nat.le_trans HF5.out.size hgx, HF5.out.trans hF6⟩)
    obtain ⟨e1, e2, e3, e4, e5⟩ := again_ok hn
    rw [hn, bind_ok] at HE2
    have HM6 := Aside0.mk (And.intro hM6 (show s6.st ≤ s6.a by have := HM5.out.2; omega))
    have HQ6 := Aside0.mk (show 8 * lb + 1 ≤ k' + s6.a by have := HQ5.out; omega)
    have HC6 := Aside0.mk (And.intro (HC5.out.1.frm hF6) (HC5.out.2.frm hF6))
    have HF6 := Aside0.mk (HF5.out.trans hF6)
    clear hn hM6 hF6 e1 e2 e3 e4 e5
    go_wp2_with fail
    go_roundg k'
    case measure => omega
    case rel => exact ⟨s6, v6, HQ6, HM6, HF6, HC6, HE2⟩
end
end Go.Proofs.YtiaiopdiooobiaaDoor.My

/- Inflating, plainly: each step takes a bit, and no more is put out than may be. -/
namespace Go.Proofs.YtiaiopdiooobiaaDoor.Inf
open Go.Proofs.YtiaiopdiooobiaaDoor.Huf Go.Proofs.YtiaiopdiooobiaaDoor.My
set_option maxRecDepth 100000
set_option linter.unusedVariables false
/-- What a good step does. -/
structure Gd (lb : Nat) (lim : Int) (s s' : St) : Prop where
  st : s.st ≤ s.a → s'.st ≤ s'.a
  a : s.a ≤ s'.a
  out : (s.out.length : Int) ≤ lim → (s'.out.length : Int) ≤ lim
  top : s.a ≤ 8 * lb → s'.a ≤ 8 * lb
section
variable {V lb : Nat} {lim : Int}
theorem Gd.refl (s : St) : Gd lb lim s s := ⟨id, Nat.le_refl _, id, id⟩
theorem Gd.trans {s s1 s2 : St} (h : Gd lb lim s s1) (k : Gd lb lim s1 s2) : Gd lb lim s s2 := ⟨fun x => k.st (h.st x), Nat.le_trans h.a k.a, fun x => k.out (h.out x), fun x => k.top (h.top x)⟩
theorem number_gd {n x : Nat} {s s' : St} (h : number V lb n s = .ok x s') : Gd lb lim s s' := by
  obtain ⟨a1, a2, a3, a4, a5⟩ := number_ok h
  exact ⟨fun k => by omega, by omega, fun k => by rw [a2]; exact k, fun k => by omega⟩
theorem sign_gd {L : List Int} {x : Int} {s s' : St} (h : sign V lb L s = .ok x s') : Gd lb lim s s' ∧ s.a < s'.a := by
  obtain ⟨a0, a1, a2, a3, a4, a5⟩ := sign_ok h
  exact ⟨⟨fun k => by omega, by omega, fun k => by rw [a2]; exact k, fun k => by omega⟩, a4⟩
theorem far_gd {L : List Int} {x : Int} {s s' : St} (h : far V lb L s = .ok x s') : Gd lb lim s s' := by
  obtain ⟨a0, a1, a2, a3, a4, a5⟩ := far_ok h
  exact ⟨fun k => by omega, by omega, fun k => by rw [a2]; exact k, fun k => by omega⟩
theorem bind_inv {α β : Type} {r : Res α} {f : α → St → Res β} {y : β} {s' : St} (h : r.bind f = .ok y s') : ∃ x s1, r = .ok x s1 ∧ f x s1 = .ok y s' := by
  cases r with
  | ok x s1 => exact ⟨x, s1, rfl, h⟩
  | er c => cases h
theorem stored_gd {s s' : St} {u : Unit} (h : Inf.stored V lb lim s = .ok u s') : Gd lb lim s s' := by
  unfold Inf.stored at h
  obtain ⟨n, s1, h1, h⟩ := bind_inv h
  obtain ⟨t, s2, h2, h⟩ := bind_inv h
  split at h
  · cases h
  · obtain ⟨v, s3, h3, h9⟩ := bind_inv h
    obtain ⟨rfl, hr⟩ := room_ok h3
    split at h9
    · injection h9 with _ h9
      subst h9
      obtain ⟨a1, a2, a3, a4, a5⟩ := number_ok h1
      obtain ⟨b1, b2, b3, b4, b5⟩ := number_ok h2
      dsimp only at a1 a2 a3 a5
      refine ⟨fun k => ?_, ?_, fun k => ?_, fun k => ?_⟩
      · show s3.st + n ≤ s3.a + 8 * n; omega
      · show s.a ≤ s3.a + 8 * n; omega
      · show ((s3.out ++ _).length : Int) ≤ lim
        rw [List.length_append, leB_len]
        omega
      · show s3.a + 8 * n ≤ 8 * lb; omega
    · cases h9
theorem hlp_gd : ∀ (ps : List Nat) (L : List Int) (s : St) (L' : List Int) (s' : St), hlp V lb ps L s = .ok L' s' → Gd lb lim s s'
  | [], L, s, L', s', h => by
    rw [hlp] at h
    injection h with h1 h2
    subst h2
    exact Gd.refl _
  | p :: ps, L, s, L', s', h => by
    rw [hlp] at h
    obtain ⟨x, s1, h1, h⟩ := bind_inv h
    refine Gd.trans ?_ (hlp_gd ps _ _ _ _ h)
    obtain ⟨a1, a2, a3, a4, a5⟩ := number_ok h1
    dsimp only at a1 a2 a3 a5
    exact ⟨fun k => by omega, by omega, fun k => by rw [a2]; exact k, fun k => by omega⟩
theorem okCode_inv {L : List Int} {lone : Bool} {s s' : St} {u : Unit} (h : okCode L lone s = .ok u s') : s' = s ∧ newR L lone = none := by
  unfold okCode at h
  split at h
  · injection h with _ h
    exact ⟨h.symm, by assumption⟩
  · cases h
theorem helper_gd {many : Nat} {s s' : St} {L : List Int} (h : helper V lb many s = .ok L s') : Gd lb lim s s' := by
  unfold helper at h
  obtain ⟨x, s1, h1, h⟩ := bind_inv h
  obtain ⟨y, s2, h2, h⟩ := bind_inv h
  injection h with _ h
  subst h
  obtain ⟨rfl, _⟩ := okCode_inv h2
  exact hlp_gd _ _ _ _ _ h1
theorem rep_gd {x : Int} {l : List Int} {s s' : St} {yt : Int × Nat} (h : Inf.rep V lb x l s = .ok yt s') (hs : s.a ≤ 8 * lb → s'.a ≤ 8 * lb) : Gd lb lim s s' := by
  obtain ⟨a1, a2, a3, _, _⟩ := rep_ok h
  exact ⟨fun k => by omega, a3, fun k => by rw [a1]; exact k, hs⟩
theorem rep_top {x : Int} {l : List Int} {s s' : St} {yt : Int × Nat} (h : Inf.rep V lb x l s = .ok yt s') : s.a ≤ 8 * lb → s'.a ≤ 8 * lb := by
  unfold Inf.rep at h
  split at h
  · injection h with _ h; subst h; exact id
  · split at h
    · split at h
      · cases h
      · obtain ⟨n, s1, h1, h⟩ := bind_inv h
        injection h with _ h; subst h
        exact (number_gd (lim := 0) h1).top
    · split at h
      · obtain ⟨n, s1, h1, h⟩ := bind_inv h
        injection h with _ h; subst h
        exact (number_gd (lim := 0) h1).top
      · obtain ⟨n, s1, h1, h⟩ := bind_inv h
        injection h with _ h; subst h
        exact (number_gd (lim := 0) h1).top
theorem lens_gd {C : List Int} {many : Nat} : ∀ (k : Nat) (l : List Int) (s : St) (l' : List Int) (s' : St), lens V lb C many k l s = .ok l' s' → Gd lb lim s s'
  | 0, l, s, l', s', h => by
    rw [lens] at h
    split at h
    · cases h
    · injection h with _ h; subst h; exact Gd.refl _
  | k + 1, l, s, l', s', h => by
    rw [lens] at h
    split at h
    · obtain ⟨x, s1, h1, h⟩ := bind_inv h
      obtain ⟨vt, s2, h2, h⟩ := bind_inv h
      split at h
      · cases h
      · exact ((sign_gd h1).1.trans (rep_gd h2 (rep_top h2))).trans (lens_gd k _ _ _ _ h)
    · injection h with _ h; subst h; exact Gd.refl _
theorem told_gd {s s' : St} {ab : List Int × List Int} (h : told V lb s = .ok ab s') : Gd lb lim s s' ∧ newR ab.1 false = none ∧ newR ab.2 true = none := by
  unfold told at h
  obtain ⟨a, s1, h1, h⟩ := bind_inv h
  obtain ⟨b, s2, h2, h⟩ := bind_inv h
  obtain ⟨c, s3, h3, h⟩ := bind_inv h
  split at h
  · cases h
  · obtain ⟨l, s4, h4, h⟩ := bind_inv h
    obtain ⟨u, s5, h5, h⟩ := bind_inv h
    obtain ⟨u2, s6, h6, h9⟩ := bind_inv h
    split at h9
    · cases h9
    · injection h9 with e h9
      subst e h9
      obtain ⟨rfl, n1⟩ := okCode_inv h5
      obtain ⟨rfl, n2⟩ := okCode_inv h6
      unfold Inf.lengths at h4
      obtain ⟨C, s7, h7, h8⟩ := bind_inv h4
      exact ⟨((((number_gd h1).trans (number_gd h2)).trans (number_gd h3)).trans (helper_gd h7)).trans (lens_gd _ _ _ _ _ h8), n1, n2⟩
theorem coded_gd {A B : List Int} : ∀ (k : Nat) (s s' : St) (u : Unit), coded V lb lim A B k s = .ok u s' → Gd lb lim s s'
  | 0, s, s', u, h => by cases h
  | k + 1, s, s', u, h => by
    rw [coded] at h
    obtain ⟨x, s1, h1, h⟩ := bind_inv h
    split at h
    · injection h with _ h; subst h; exact (sign_gd h1).1
    · split at h
      · obtain ⟨v, s2, h2, h9⟩ := bind_inv h
        obtain ⟨rfl, hr⟩ := room_ok h2
        refine (sign_gd h1).1.trans (Gd.trans ?_ (coded_gd k _ _ _ h9))
        exact ⟨id, Nat.le_refl _, fun _ => by rw [List.length_append]; exact hr, id⟩
      · obtain ⟨n, s2, h2, h⟩ := bind_inv h
        obtain ⟨y, s3, h3, h⟩ := bind_inv h
        obtain ⟨d, s4, h4, h⟩ := bind_inv h
        obtain ⟨v, s5, h5, h⟩ := bind_inv h
        have g2 : Gd lb lim s1 s2 := by
          obtain ⟨a1, a2, a3, a4⟩ := length_ok h2
          refine ⟨fun k => by omega, a4, fun k => by rw [a2]; exact k, ?_⟩
          unfold Inf.length at h2
          split at h2
          · cases h2
          · split at h2
            · injection h2 with _ h2; subst h2; exact id
            · split at h2
              · obtain ⟨n, s6, h6, h2⟩ := bind_inv h2
                injection h2 with _ h2; subst h2
                exact (number_gd (lim := 0) h6).top
              · injection h2 with _ h2; subst h2; exact id
        have g4 : Gd lb lim s3 s4 := by
          obtain ⟨a1, a2, a3, a4, a5⟩ := distance_ok h4
          refine ⟨fun k => by omega, a5, fun k => by rw [a3]; exact k, ?_⟩
          unfold distance at h4
          split at h4
          · cases h4
          · split at h4
            · injection h4 with _ h4; subst h4; exact id
            · obtain ⟨n, s6, h6, h4⟩ := bind_inv h4
              injection h4 with _ h4; subst h4
              exact (number_gd (lim := 0) h6).top
        have g5 : Gd lb lim s4 s5 := by
          obtain ⟨a1, a2, a3, a4, a5⟩ := again_ok h5
          refine ⟨fun k => by omega, by omega, fun k => by rw [a3, cpy_length]; omega, fun k => by omega⟩
        exact ((((sign_gd h1).1.trans g2).trans (far_gd h3)).trans g4).trans (g5.trans (coded_gd k _ _ _ h))
theorem block_gd {s s' : St} {b : Bool} (h : block V lb lim s = .ok b s') : Gd lb lim s s' ∧ s.a < s'.a := by
  unfold block at h
  obtain ⟨last, s1, h1, h⟩ := bind_inv h
  obtain ⟨kind, s2, h2, h⟩ := bind_inv h
  obtain ⟨v, s3, h3, h⟩ := bind_inv h
  injection h with _ h
  subst h
  obtain ⟨a1, a2, a3, a4, a5⟩ := number_ok h1
  dsimp only at a1 a2 a3 a5
  have g1 : Gd lb lim s s1 := ⟨fun k => by omega, by omega, fun k => by rw [a2]; exact k, fun k => by omega⟩
  have g2 : Gd lb lim s1 s2 := number_gd h2
  have g3 : Gd lb lim s2 s3 := by
    split at h3
    · exact stored_gd h3
    · split at h3
      · exact coded_gd _ _ _ _ h3
      · split at h3
        · obtain ⟨ab, s4, h4, h5⟩ := bind_inv h3
          exact (told_gd h4).1.trans (coded_gd _ _ _ _ h5)
        · cases h3
  exact ⟨(g1.trans g2).trans g3, by have := g2.a; have := g3.a; omega⟩
theorem blocks_gd : ∀ (k : Nat) (s s' : St) (u : Unit), blocks V lb lim k s = .ok u s' → Gd lb lim s s' ∧ s.a < s'.a
  | 0, s, s', u, h => by cases h
  | k + 1, s, s', u, h => by
    rw [blocks] at h
    obtain ⟨last, s1, h1, h⟩ := bind_inv h
    have g := block_gd h1
    split at h
    · injection h with _ h; subst h; exact g
    · have g2 := blocks_gd k _ _ _ h
      exact ⟨g.1.trans g2.1, by have := g2.2; omega⟩
end
end Go.Proofs.YtiaiopdiooobiaaDoor.Inf

/- The walks of the inflater's block, and of Inflate. -/
namespace Go.Proofs.YtiaiopdiooobiaaDoor.My
open Go.RowKit Go.Proofs.YtiaiopdiooobiaaDoor.Inf Go.Proofs.YtiaiopdiooobiaaDoor.Huf Go.Proofs.YtiaiopdiooobiaaDoorW.PrintWords Go.Proofs.YtiaiopdiooobiaaDoorW.PrintLast Go.Proofs.YtiaiopdiooobiaaDoorW.PrintMore
set_option maxRecDepth 100000
set_option linter.unusedVariables false
set_option linter.unusedSimpArgs false
section
variable {B gm gr : Nat} {w w1 w2 : World} {vo v1 v2 v : Value} {V lb : Nat} {lim : Int} {s : St}
set_option maxHeartbeats 2000000 in
theorem block_calls (w : World) (h : Mac w B gm gr v V lb lim vo s) (hst : s.st ≤ s.a) (hB : 0 < B) (ho : Ord w) :
    Calls Tryd.prog 20 #[.pointer (some ⟨gm, 0, none⟩)] w (Did B gm gr v V lb lim w vo (block V lb lim s) fun b e _ => e = .returned (.bool b)) := by
  obtain ⟨_, _, _, c3, _, f3⟩ := h.cells
  have HB := Aside0.mk hB
  have n1 : ((s.st : Nat) : Int) ≤ 8000000 := by have := h.al; have := h.hl; omega
  have h1 := h.step (s.st + 1) (by omega)
  rw [show ((s.st + 1 : Nat) : Int) = (s.st : Int) + 1 by omega] at h1
  have HM1 := Aside0.mk h1
  have hf1 := (Frm.refl gm gr w vo).set 3 (.int .i64 ((s.st : Int) + 1))
  have HO1 := Aside0.mk (ho.turn h hB hf1)
  have HF1 := Aside0.mk hf1
  have HS := Aside0.mk hst
  have HLt := Aside0.mk (And.intro h.lt h.ltr)
  clear h hst hB ho h1 hf1
  go_enter Tryd.func20, Tryd.ntmps20
  go_wp2_with fail
  refine (inumber_calls _ HM1.out 1 (by omega)).mono ?_
  rintro e w2 (⟨x, s2, v2, hn, rfl, hM2, hF2⟩ | ⟨c, g, v2, hn, rfl, hX, hgx, hF2⟩)
  rotate_left
  · have HX := Aside0.mk hX
    have HN : Aside0 (block V lb lim s = .er c) := ⟨by unfold block; rw [hn]; rfl⟩
    clear hn hX
    go_wp2_with fail
    exact post_panic rfl (.inr ⟨c, g, v2, HN.out, rfl, HX.out, Nat.le_trans HF1.out.size hgx, HF1.out.trans hF2⟩)
  have HE : Aside0 (block V lb lim s = (number V lb 2 s2).bind fun kind s => (if kind = 0 then Inf.stored V lb lim s else if kind = 1 then codes V lb lim letters fixB s else if kind = 2 then (told V lb s).bind fun ab s => codes V lb lim ab.1 ab.2 s else .er 2).bind fun _ s => .ok (decide (x = 1)) s) := ⟨by unfold block; rw [hn, bind_ok]⟩
  obtain ⟨a1, _, a3, a4, _⟩ := number_ok hn
  dsimp only at a1 a3
  have HM2 := Aside0.mk (And.intro hM2 (show s2.st ≤ s2.a by have := HS.out; omega))
  have HO2 := Aside0.mk (HO1.out.turn HM1.out HB.out hF2)
  have HF2 := Aside0.mk (HF1.out.trans hF2)
  have eb : ((x : Int) == 1) = decide (x = 1) := by rw [Bool.eq_iff_iff]; simp; omega
  generalize decide (x = 1) = bb at *
  clear hn hM2 hF2 a1 a3 a4
  go_wp2_with fail
  refine (inumber_calls w2 HM2.out.1 2 (by omega)).mono ?_
  rintro e w3 (⟨k, s3, v3, hn, rfl, hM3, hF3⟩ | ⟨c, g, v3, hn, rfl, hX, hgx, hF3⟩)
  rotate_left
  · have HX := Aside0.mk hX
    have HN : Aside0 (block V lb lim s = .er c) := ⟨by rw [HE.out, hn]; rfl⟩
    clear hn hX
    go_wp2_with fail
    exact post_panic rfl (.inr ⟨c, g, v3, HN.out, rfl, HX.out, Nat.le_trans HF2.out.size hgx, HF2.out.trans hF3⟩)
  rw [hn, bind_ok] at HE
  obtain ⟨a1, _, a3, a4, _⟩ := number_ok hn
  have HM3 := Aside0.mk (And.intro hM3 (show s3.st ≤ s3.a by have := HM2.out.2; omega))
  have HO3 := Aside0.mk (HO2.out.turn HM2.out.1 HB.out hF3)
  have HF3 := Aside0.mk (HF2.out.trans hF3)
  have HLr := Aside0.mk (And.intro hM3.lt hM3.ltr)
  have HVo := Aside0.mk (show ∀ q, v3.ownBlock = some q → q < w3.heap.size from fun q hq => (hM3.ob q hq).2)
  clear hn hM3 hF3 a1 a3
  have hk : k = 0 ∨ k = 1 ∨ k = 2 ∨ k = 3 := by omega
  clear a4
  rcases hk with rfl | rfl | rfl | rfl
  · rw [if_pos rfl] at HE
    go_wp2_with fail
    refine (stored_calls w3 HM3.out.1 HM3.out.2).mono ?_
    rintro e w4 (⟨u, s4, v4, hn, rfl, hM4, hF4⟩ | ⟨c, g, v4, hn, rfl, hX, hgx, hF4⟩)
    · rw [hn, bind_ok] at HE
      have HM4 := Aside0.mk hM4
      have HF4 := Aside0.mk (HF3.out.trans hF4)
      clear hn hM4 hF4
      go_wp2_with fail
      go_ret
      exact .inl ⟨bb, s4, v4, HE.out, rfl, HM4.out, HF4.out⟩
    · have HX := Aside0.mk hX
      rw [hn, bind_er] at HE
      clear hn hX
      go_wp2_with fail
      exact post_panic rfl (.inr ⟨c, g, v4, HE.out, rfl, HX.out, Nat.le_trans HF3.out.size hgx, HF3.out.trans hF4⟩)
  · rw [if_neg (by omega), if_pos rfl] at HE
    go_wp2_with fail
    refine (ifixed_calls w3).mono ?_
    rintro e w4 ⟨g1, lo1, hi1, g2, lo2, hi2, rfl, k1, l1, m1, k2, l2, m2, hb⟩
    have hM4 := HM3.out.1.below hb
    have hq := HLr.out
    have c1 : Cd w4 gm gr v3 lo1 hi1 g1 letters := ⟨k1, m1, .inl (by omega), .inl (by omega), fun q hq => .inl (by have := HVo.out q hq; omega)⟩
    have c2 : Cd w4 gm gr v3 lo2 hi2 g2 fixB := ⟨k2, m2, .inl (by omega), .inl (by omega), fun q hq => .inl (by have := HVo.out q hq; omega)⟩
    have HT := Aside0.mk (coded_calls w4 hM4 HM3.out.2 lo1 hi1 g1 lo2 hi2 g2 letters fixB c1 c2 letters_ok fixB_ok)
    have HF4 := Aside0.mk (HF3.out.below hb)
    clear k1 l1 m1 k2 l2 m2 hb hM4 c1 c2 hq
    go_wp2_with fail
    refine HT.out.mono ?_
    rintro e w5 (⟨u, s5, v5, hn, rfl, hM5, hF5⟩ | ⟨c, g, v5, hn, rfl, hX, hgx, hF5⟩)
    · rw [hn, bind_ok] at HE
      have HM5 := Aside0.mk hM5
      have HF5 := Aside0.mk (HF4.out.trans hF5)
      clear hn hM5 hF5
      go_wp2_with fail
      go_ret
      exact .inl ⟨bb, s5, v5, HE.out, rfl, HM5.out, HF5.out⟩
    · have HX := Aside0.mk hX
      rw [hn, bind_er] at HE
      clear hn hX
      go_wp2_with fail
      exact post_panic rfl (.inr ⟨c, g, v5, HE.out, rfl, HX.out, Nat.le_trans HF4.out.size hgx, HF4.out.trans hF5⟩)
  · rw [if_neg (by omega), if_neg (by omega), if_pos rfl] at HE
    have HTo := Aside0.mk (told_calls w3 HM3.out.1 HM3.out.2 HB.out HO3.out)
    go_wp2_with fail
    refine HTo.out.mono ?_
    rintro e w4 (⟨ab, s4, v4, hn, ⟨g1, lo1, hi1, g2, lo2, hi2, rfl, k1, l1, m1, nr1, o1, k2, l2, m2, nr2, o2⟩, hM4, hF4⟩ | ⟨c, g, v4, hn, rfl, hX, hgx, hF4⟩)
    · rw [hn, bind_ok] at HE
      have hq := HLr.out
      have hs4 := (told_gd (lim := lim) hn).1.st HM3.out.2
      have c1 : Cd w4 gm gr v4 lo1 hi1 g1 ab.1 := ⟨k1, m1, .inl (by omega), .inl (by omega), o1⟩
      have c2 : Cd w4 gm gr v4 lo2 hi2 g2 ab.2 := ⟨k2, m2, .inl (by omega), .inl (by omega), o2⟩
      have HT := Aside0.mk (coded_calls w4 hM4 hs4 lo1 hi1 g1 lo2 hi2 g2 ab.1 ab.2 c1 c2 nr1 nr2)
      have HF4 := Aside0.mk (HF3.out.trans hF4)
      clear k1 l1 m1 k2 l2 m2 hM4 c1 c2 hq hF4 hn o1 o2 nr1 nr2 hs4
      go_wp2_with fail
      refine HT.out.mono ?_
      rintro e w5 (⟨u, s5, v5, hn, rfl, hM5, hF5⟩ | ⟨c, g, v5, hn, rfl, hX, hgx, hF5⟩)
      · rw [hn, bind_ok] at HE
        have HM5 := Aside0.mk hM5
        have HF5 := Aside0.mk (HF4.out.trans hF5)
        clear hn hM5 hF5
        go_wp2_with fail
        go_ret
        exact .inl ⟨bb, s5, v5, HE.out, rfl, HM5.out, HF5.out⟩
      · have HX := Aside0.mk hX
        rw [hn, bind_er] at HE
        clear hn hX
        go_wp2_with fail
        exact post_panic rfl (.inr ⟨c, g, v5, HE.out, rfl, HX.out, Nat.le_trans HF4.out.size hgx, HF4.out.trans hF5⟩)
    · have HX := Aside0.mk hX
      rw [hn, bind_er, bind_er] at HE
      clear hn hX
      go_wp2_with fail
      exact post_panic rfl (.inr ⟨c, g, v4, HE.out, rfl, HX.out, Nat.le_trans HF3.out.size hgx, HF3.out.trans hF4⟩)
  · rw [if_neg (by omega), if_neg (by omega), if_neg (by omega), bind_er] at HE
    go_wp2_with (go_at_call 35; refine (wrong_calls _ _).mono ?_; rintro e w4 ⟨rfl, rfl⟩)
    exact post_panic rfl (.inr ⟨2, _, v3, HE.out, rfl, ⟨alloc_self _ _⟩, HF3.out.size, frm_flt HF3.out⟩)
set_option maxHeartbeats 1000000 in
/-- The closure that Inflate hands to Try: all blocks. -/
theorem all_calls (w : World) (mc : Nat) (hc : w.heap[mc]? = some (.cells #[.pointer (some ⟨gm, 0, none⟩)] 53 (0, 0))) (h : Mac w B gm gr v V lb lim vo s) (hst : s.st ≤ s.a) (hB : 0 < B) (ho : Ord w) :
    Calls Tryd.prog 19 #[.pointer (some ⟨mc, 0, none⟩)] w (Did B gm gr v V lb lim w vo (blocks V lb lim (8 * lb + 1) s) fun _ e _ => e = .returned (.tuple #[])) := by
  have HS := Aside0.mk (And.intro h hst)
  have HC := Aside0.mk hc
  have HO := Aside0.mk ho
  have HB := Aside0.mk hB
  obtain ⟨kf, hkf⟩ : ∃ kf, kf = 8 * lb + 1 := ⟨_, rfl⟩
  have HKf := Aside0.mk (show 8 * lb + 1 ≤ kf + s.a by omega)
  rw [← hkf]
  clear h hst hc ho hB hkf
  go_enter Tryd.func19, Tryd.ntmps19
  go_wp2_with fail
  go_loopg [] kf (fun kq wr => ∃ (s' : St) (v' : Value), Aside0 (8 * lb + 1 ≤ kq + s'.a) ∧ Aside0 (Mac wr B gm gr v V lb lim v' s' ∧ s'.st ≤ s'.a) ∧ Aside0 (Frm gm gr w vo wr v') ∧ Aside0 (Ord wr) ∧
    Aside0 (wr.heap[mc]? = some (.cells #[.pointer (some ⟨gm, 0, none⟩)] 53 (0, 0))) ∧ Aside0 (blocks V lb lim kf s = blocks V lb lim kq s'))
  case atStart => exact ⟨s, vo, HKf, HS, ⟨Frm.refl _ _ _ _⟩, HO, HC, ⟨rfl⟩⟩
  case round =>
    obtain ⟨s', v', HQ, HM, HF, HOr, HCr, HE⟩ := hrel
    obtain ⟨k', rfl⟩ : ∃ k', gk = k' + 1 := ⟨gk - 1, by have := HQ.out; have := HM.out.1.al; omega⟩
    have d0 := blk_cell HCr.out 0
    have HT := Aside0.mk (block_calls wr HM.out.1 HM.out.2 HB.out HOr.out)
    go_wp2_with fail
    refine HT.out.mono ?_
    rintro e w2 (⟨b, s2, v2, hn, rfl, hM2, hF2⟩ | ⟨c, g, v2, hn, rfl, hX, hgx, hF2⟩)
    · have HE2 : Aside0 (blocks V lb lim kf s = if b = true then .ok () s2 else blocks V lb lim k' s2) := ⟨by rw [HE.out, blocks, hn, bind_ok]⟩
      obtain ⟨hgd, hlt⟩ := block_gd hn
      have HQ2 := Aside0.mk (show 8 * lb + 1 ≤ k' + s2.a by have := HQ.out; omega)
      have HM2 := Aside0.mk (And.intro hM2 (hgd.st HM.out.2))
      have HO2 := Aside0.mk (HOr.out.turn HM.out.1 HB.out hF2)
      have HC2 := Aside0.mk (hF2.blk HCr.out (blk_ne HCr.out HM.out.1.blk (by decide)) (blk_ne HCr.out HM.out.1.rd.blk (by decide)) (own_ne HM.out.1.row HCr.out (by decide)))
      have HF2 := Aside0.mk (HF.out.trans hF2)
      clear hn hM2 hF2 hgd hlt
      cases b with
      | true =>
        rw [if_pos rfl] at HE2
        go_wp2_with fail
        refine bodyPost_end (results_none rfl _ _ _) rfl ?_
        exact .inl ⟨(), s2, v2, HE2.out, rfl, HM2.out.1, HF2.out⟩
      | false =>
        rw [if_neg (by decide)] at HE2
        go_wp2_with fail
        go_roundg k'
        case measure => omega
        case rel => exact ⟨s2, v2, HQ2, HM2, HF2, HO2, HC2, HE2⟩
    · have HX := Aside0.mk hX
      have HN : Aside0 (blocks V lb lim kf s = .er c) := ⟨by rw [HE.out, blocks, hn]; rfl⟩
      clear hn hX
      go_wp2_with fail
      exact post_panic rfl (.inr ⟨c, g, v2, HN.out, rfl, HX.out, Nat.le_trans HF.out.size hgx, HF.out.trans hF2⟩)
end
end Go.Proofs.YtiaiopdiooobiaaDoor.My

/- The walk of inflate.Inflate. -/
namespace Go.Proofs.YtiaiopdiooobiaaDoor.Inf
/-- What Inflate answers: the limit is asked for first. -/
noncomputable def infl (V lb : Nat) (lim : Int) : Res Unit := if lim < 0 ∨ 1048576 < lim then .er 1 else inflate V lb lim
end Go.Proofs.YtiaiopdiooobiaaDoor.Inf
namespace Go.Proofs.YtiaiopdiooobiaaDoor.My
open Go.RowKit Go.Proofs.YtiaiopdiooobiaaDoor.Inf Go.Proofs.YtiaiopdiooobiaaDoor.Huf Go.Proofs.YtiaiopdiooobiaaDoorW.PrintWords Go.Proofs.YtiaiopdiooobiaaDoorW.PrintLast Go.Proofs.YtiaiopdiooobiaaDoorW.PrintMore
set_option maxRecDepth 100000
set_option linter.unusedVariables false
set_option linter.unusedSimpArgs false
def Inflated (V n : Nat) (lim : Int) (W : World) (e : Ending) (w' : World) : Prop :=
  Below W.heap.size W w' ∧ ((∃ c, infl V n lim = .er c ∧ e = .returned (.tuple #[.agg #[.slice none 0 0, .int .i64 0, .int .i64 0], errV (some c)])) ∨
  (∃ s A c, infl V n lim = .ok () s ∧ e = .returned (.tuple #[.agg #[.slice A s.out.length c, .int .i64 ((s.a + 7) / 8 : Nat), .int .i64 s.st], .nilIface]) ∧ (Kd.int .u8).C w' A s.out.length s.out ∧ (A = none → s.out.length = 0 ∧ c = 0) ∧ s.out.length ≤ c))
set_option maxHeartbeats 2000000 in
theorem inflate_calls (w : World) (A : Option Addr) (n c V : Nat) (lim : Int) (hx : (Kd.int .u8).C w A n (leB V n)) (hV : V < 2 ^ (8 * n)) (hn : n ≤ 1000000) (hcap : A = none → n = 0 ∧ c = 0) (ho : Ord w) :
    Calls Tryd.prog 9 #[.slice A n c, .int .i64 lim] w (Inflated V n lim w) := by
  have hcf : ∀ W : World, (callFunc 19 #[.pointer (some ⟨w.heap.size, 0, none⟩)]).run Tryd.prog W = .ok (.enter 19 #[.pointer (some ⟨w.heap.size, 0, none⟩)]) W := fun _ => rfl
  clear hcf
  have HO := Aside0.mk ho
  have HX := Aside0.mk (And.intro hx (And.intro hV (And.intro hn hcap)))
  clear hx hV hn hcap ho
  by_cases h1 : lim < 0
  · have HN : Aside0 (infl V n lim = .er 1) := ⟨by unfold infl; rw [if_pos (.inl h1)]⟩
    go_enter Tryd.func9, Tryd.ntmps9
    go_wp2_with fail
    refine bodyPost_ret (v := .tuple #[.agg #[.slice none 0 0, .int .i64 0, .int .i64 0], errV (some 1)]) (by simp [results, Tryd.results9, go_sem, errV]) rfl ?_
    exact ⟨below_alloc (Below.refl _ _) _, .inl ⟨1, HN.out, rfl⟩⟩
  · by_cases h2 : 1048576 < lim
    · have HN : Aside0 (infl V n lim = .er 1) := ⟨by unfold infl; rw [if_pos (.inr h2)]⟩
      go_enter Tryd.func9, Tryd.ntmps9
      go_wp2_with fail
      refine bodyPost_ret (v := .tuple #[.agg #[.slice none 0 0, .int .i64 0, .int .i64 0], errV (some 1)]) (by simp [results, Tryd.results9, go_sem, errV]) rfl ?_
      exact ⟨below_alloc (Below.refl _ _) _, .inl ⟨1, HN.out, rfl⟩⟩
    · have HI : Aside0 (infl V n lim = inflate V n lim) := ⟨by unfold infl; rw [if_neg (by omega)]⟩
      have HL := Aside0.mk (show 0 ≤ lim ∧ lim ≤ 1048576 by omega)
      have hb0 := below_alloc (Below.refl w.heap.size w) (.cells #[.slice none 0 0, .int .i64 0, .int .i64 0] 35)
      have HRc := Aside0.mk (alloc_self w (.cells #[.slice none 0 0, .int .i64 0, .int .i64 0] 35))
      have HNr := Aside0.mk (newReader_calls A n c V _ (Kd.C_below HX.out.1 hb0) HX.out.2.1 (by have := HX.out.2.2.1; omega) HX.out.2.2.2)
      have HB0 := Aside0.mk hb0
      have HO0 := Aside0.mk (HO.out.below hb0)
      clear hb0
      go_enter Tryd.func9, Tryd.ntmps9
      go_wp2_with fail
      refine HNr.out.mono ?_
      rintro e w1 ⟨gr, v, rfl, hrd, hb⟩
      have HRd := Aside0.mk hrd
      have HB1 := Aside0.mk hb
      have HRc1 := Aside0.mk (blk_below HRc.out hb)
      clear hrd hb
      go_wp2_with fail
      have hgm1 := alloc_self w1 (.cells #[.pointer (some ⟨gr, 0, none⟩), .slice none 0 0, .int .i64 lim, .int .i64 0] 57)
      have hba := below_alloc (Below.refl w1.heap.size w1) (.cells #[.pointer (some ⟨gr, 0, none⟩), .slice none 0 0, .int .i64 lim, .int .i64 0] 57)
      have hrc2 := blk_below HRc1.out hba
      have hrd2 := HRd.out.below hba
      have hsz2 : (w1.alloc (.cells #[.pointer (some ⟨gr, 0, none⟩), .slice none 0 0, .int .i64 lim, .int .i64 0] 57)).heap.size = w1.heap.size + 1 := by simp
      have hba1 := HB1.out.trans (Below.mono hba HB1.out.size)
      have hba0 := HB0.out.trans (Below.mono hba1 HB0.out.size)
      generalize w1.alloc (.cells #[.pointer (some ⟨gr, 0, none⟩), .slice none 0 0, .int .i64 lim, .int .i64 0] 57) = w2 at *
      have hmc := alloc_self w2 (.cells #[.pointer (some ⟨w1.heap.size, 0, none⟩)] 53)
      rw [hsz2] at hmc
      have hbb := below_alloc (Below.refl w2.heap.size w2) (.cells #[.pointer (some ⟨w1.heap.size, 0, none⟩)] 53)
      have hgm3 := blk_below hgm1 hbb
      have hrc3 := blk_below hrc2 hbb
      have hrd3 := hrd2.below hbb
      have hb03 := hba0.trans (Below.mono hbb hba0.size)
      generalize w2.alloc (.cells #[.pointer (some ⟨w1.heap.size, 0, none⟩)] 53) = w3 at *
      have hbe := below_alloc (Below.refl w3.heap.size w3) (.cells #[.nilIface] 26)
      have herr := alloc_self w3 (.cells #[.nilIface] 26)
      have hbs : (w.alloc (.cells #[.slice none 0 0, .int .i64 0, .int .i64 0] 35)).heap.size = w.heap.size + 1 := by simp
      have hs1 : w.heap.size + 1 ≤ w1.heap.size := by have := HB1.out.size; omega
      have HMac : Aside0 (Mac (w3.alloc (.cells #[.nilIface] 26)) (w.heap.size + 1) w1.heap.size gr v V n lim (.slice none 0 0) ⟨0, [], 0⟩) :=
        ⟨⟨blk_below hgm3 hbe, by have := hrd3.below hbe; rwa [hbs] at this, own_nil _ _ _ _, by cases v.ownBlock <;> simp [Value.ownBlock], hs1, HX.out.2.2.1, HL.out.2, by have := HL.out.1; simpa using this, Nat.zero_le _⟩⟩
      have hmc4 := blk_below hmc hbe
      have HO4 := Aside0.mk (HO.out.below (hb03.trans (Below.mono hbe hb03.size)))
      have HErr := Aside0.mk herr
      have HRc4 := Aside0.mk (blk_below hrc3 hbe)
      have HB03 := Aside0.mk hb03
      have HBe := Aside0.mk hbe
      have hcf : ∀ W : World, (callFunc 19 #[.pointer (some ⟨w1.heap.size + 1, 0, none⟩)]).run Tryd.prog W = .ok (.enter 19 #[.pointer (some ⟨w1.heap.size + 1, 0, none⟩)]) W := fun _ => rfl
      have HAll := all_calls _ (w1.heap.size + 1) hmc4 HMac.out (Nat.le_refl _) (by have := HO.out.lt; omega) HO4.out
      have HTry := Aside0.mk (try_fun 19 #[.pointer (some ⟨w1.heap.size + 1, 0, none⟩)] w3
        (fun wd => ∃ s' v', inflate V n lim = .ok () s' ∧ Mac wd (w.heap.size + 1) w1.heap.size gr v V n lim v' s' ∧ Frm w1.heap.size gr (w3.alloc (.cells #[.nilIface] 26)) (.slice none 0 0) wd v')
        (fun g wd => ∃ c v', inflate V n lim = .er c ∧ Flt wd g c ⟨#[]⟩ ∧ Frm w1.heap.size gr (w3.alloc (.cells #[.nilIface] 26)) (.slice none 0 0) wd v')
        hcf (HAll.mono fun e w' hd => by
          have hk : ∀ v', Frm w1.heap.size gr (w3.alloc (.cells #[.nilIface] 26)) (.slice none 0 0) w' v' → w'.heap[w3.heap.size]? = some (.cells #[.nilIface] 26 (0, 0)) := fun v' hf =>
            hf.blk HErr.out (blk_ne HErr.out HMac.out.blk (by decide)) (blk_ne HErr.out HMac.out.rd.blk (by decide)) (by simp [Value.ownBlock])
          rcases hd with ⟨u, s', v', h1, h2, h3, h4⟩ | ⟨c, g, v', h1, h2, h3, h4, h5⟩
          · exact ⟨hk _ h4, .inl ⟨_, h2, s', v', h1, h3, h4⟩⟩
          · exact ⟨hk _ h5, .inr ⟨g, h2, c, v', h1, h3, h5⟩⟩))
      have HM8 := Aside0.mk hs1
      have HMc4 := Aside0.mk hmc4
      clear hgm1 hba hrc2 hrd2 hba1 hba0 hmc hbb hgm3 hrc3 hrd3 hb03 hbe herr hmc4 HAll hcf hs1
      refine HTry.out.mono ?_
      rintro e w4 (⟨rfl, wd, ⟨s', v', hr, hM, hF⟩, rfl⟩ | ⟨g, rfl, wd, ⟨ce, v', hr, hX, hF⟩, rfl⟩)
      · have hkd : wd.heap[w3.heap.size]? = some (.cells #[.nilIface] 26 (0, 0)) := hF.blk HErr.out (blk_ne HErr.out HMac.out.blk (by decide)) (blk_ne HErr.out HMac.out.rd.blk (by decide)) (by simp [Value.ownBlock])
        have hrd := hF.blk HRc4.out (blk_ne HRc4.out HMac.out.blk (by decide)) (blk_ne HRc4.out HMac.out.rd.blk (by decide)) (by simp [Value.ownBlock])
        have hmd := hF.blk HMc4.out (blk_ne HMc4.out HMac.out.blk (by decide)) (blk_ne HMc4.out HMac.out.rd.blk (by decide)) (by simp [Value.ownBlock])
        have hMf := hM.far hkd (by decide) (by decide) (by decide) 0 .nilIface
        have hrs := blk_far hrd (p := ⟨w3.heap.size, 0, none⟩) (blk_ne hrd hkd (by decide)) .nilIface
        have hms := blk_far hmd (p := ⟨w3.heap.size, 0, none⟩) (blk_ne hmd hkd (by decide)) .nilIface
        have hbw : Below w.heap.size w (wd.setCell ⟨w3.heap.size, 0, none⟩ .nilIface) := by
          have h0 : Below w.heap.size w (w3.alloc (.cells #[.nilIface] 26)) := HB03.out.trans (Below.mono HBe.out HB03.out.size)
          refine (hF.under h0 (by have := HM8.out; omega) (by have := HMac.out.rd.bg; omega) (fun k hk => by simp [Value.ownBlock] at hk)).setCell (by show w.heap.size ≤ w3.heap.size; exact HB03.out.size) _
        have HBw := Aside0.mk hbw
        have HMf := Aside0.mk hMf
        have HN : Aside0 (infl V n lim = .ok () s') := ⟨by rw [HI.out, hr]⟩
        generalize wd.setCell ⟨w3.heap.size, 0, none⟩ .nilIface = wf at *
        obtain ⟨A', c', rfl⟩ := own_slice hMf.row
        obtain ⟨m0, m1, _, m3, _, _⟩ := hMf.cells
        have r0 := blk_cell hrs 0
        have r1 := blk_cell hrs 1
        have r2 := blk_cell hrs 2
        have f0 := blk_frozen hrs 0
        have f1 := blk_frozen hrs 1
        have f2 := blk_frozen hrs 2
        have q0 := blk_cell hms 0
        have HRs := Aside0.mk hrs
        have n1 : (s'.a : Int) ≤ 8000000 := by have := hMf.al; have := hMf.hl; omega
        have HAt := Aside0.mk (at_calls wf.drew (w.heap.size + 1) gr v V n s'.a hMf.rd.drew)
        clear hr hM hF hkd hrd hmd hMf hbw hrs hms
        go_wp2_with fail
        refine wp_region_still_tail 16 (by kernel_rfl) (by kernel_rfl) ?_
        simp only [List.take_succ_cons, List.take_zero, List.drop_succ_cons, List.drop_zero]
        change wpStill _ _ wf.drew _ _ _
        repeat still_step
        still_call HAt.out
        repeat still_step
        refine wpStill_nil ?_
        change wpList _ _ _ _ _ wf.drew
        go_wp2_with fail
        have hd : ((s'.a : Int) + 7) / 8 = (((s'.a + 7) / 8 : Nat) : Int) := by omega
        rw [hd]
        have hq := blk_set (blk_set (blk_set HRs.out 0 (.slice A' s'.out.length c')) 1 (.int .i64 (((s'.a + 7) / 8 : Nat) : Int))) 2 (.int .i64 s'.st)
        have p0 := blk_cell hq 0
        have p1 := blk_cell hq 1
        have p2 := blk_cell hq 2
        have hrow := HMf.out.row
        have hne := own_ne hrow HRs.out (by decide)
        have hrow2 := own_setCell (own_setCell (own_setCell hrow (p := ⟨w.heap.size, 0, none⟩) hne (.slice A' s'.out.length c')) (p := ⟨w.heap.size, 1, none⟩) hne (.int .i64 (((s'.a + 7) / 8 : Nat) : Int))) (p := ⟨w.heap.size, 2, none⟩) hne (.int .i64 s'.st)
        generalize hU : (((s'.a + 7) / 8 : Nat) : Int) = U at *
        refine bodyPost_ret (v := .tuple #[.agg #[.slice A' s'.out.length c', .int .i64 U, .int .i64 s'.st], .nilIface]) (by simp [results, Tryd.results9, go_sem, p0, p1, p2]) rfl ?_
        obtain ⟨A2, c2, e2, hcc, hC2⟩ := own_slice' (pw_own_below hrow2 (below_drew (Below.refl _ _)))
        cases e2
        exact ⟨(((HBw.out.setCell (by simp) _).setCell (by simp) _).setCell (by simp) _).drew, .inr ⟨s', A', c', HN.out, by rw [hU], hC2, own_cap hrow, hcc⟩⟩
      · have hkd : wd.heap[w3.heap.size]? = some (.cells #[.nilIface] 26 (0, 0)) := hF.blk HErr.out (blk_ne HErr.out HMac.out.blk (by decide)) (blk_ne HErr.out HMac.out.rd.blk (by decide)) (by simp [Value.ownBlock])
        have hrd := hF.blk HRc4.out (blk_ne HRc4.out HMac.out.blk (by decide)) (blk_ne HRc4.out HMac.out.rd.blk (by decide)) (by simp [Value.ownBlock])
        have hXs := hX.set hkd (fltV g)
        have hrs := blk_far hrd (p := ⟨w3.heap.size, 0, none⟩) (blk_ne hrd hkd (by decide)) (fltV g)
        have hbw : Below w.heap.size w (wd.setCell ⟨w3.heap.size, 0, none⟩ (fltV g)) := by
          have h0 : Below w.heap.size w (w3.alloc (.cells #[.nilIface] 26)) := HB03.out.trans (Below.mono HBe.out HB03.out.size)
          refine (hF.under h0 (by have := HM8.out; omega) (by have := HMac.out.rd.bg; omega) (fun k hk => by simp [Value.ownBlock] at hk)).setCell (by show w.heap.size ≤ w3.heap.size; exact HB03.out.size) _
        have HXs := Aside0.mk hXs
        have HBw := Aside0.mk hbw
        have HN : Aside0 (infl V n lim = .er ce) := ⟨by rw [HI.out, hr]⟩
        generalize wd.setCell ⟨w3.heap.size, 0, none⟩ (fltV g) = wf at *
        have r0 := blk_cell hrs 0
        have r1 := blk_cell hrs 1
        have r2 := blk_cell hrs 2
        have f0 := blk_frozen hrs 0
        have f1 := blk_frozen hrs 1
        have f2 := blk_frozen hrs 2
        have HRs := Aside0.mk hrs
        clear hr hX hF hkd hrd hXs hbw hrs
        go_wp2_with (go_at_call 17; refine (code_flt g ce ⟨#[]⟩ _ HXs.out).mono ?_; rintro e w2 ⟨rfl, rfl⟩)
        have hq := blk_set (blk_set (blk_set HRs.out 0 (.slice none 0 0)) 1 (.int .i64 0)) 2 (.int .i64 0)
        have p0 := blk_cell hq 0
        have p1 := blk_cell hq 1
        have p2 := blk_cell hq 2
        refine bodyPost_ret (v := .tuple #[.agg #[.slice none 0 0, .int .i64 0, .int .i64 0], errV (some ce)]) (by simp [results, Tryd.results9, go_sem, errV, p0, p1, p2]) rfl ?_
        exact ⟨((HBw.out.setCell (by simp) _).setCell (by simp) _).setCell (by simp) _, .inl ⟨ce, HN.out, rfl⟩⟩
end Go.Proofs.YtiaiopdiooobiaaDoor.My

/- How a law's arguments come in: a slice of numbers as the words of the print have it. No program in sight. -/
namespace Go.Proofs.YtiaiopdiooobiaaDoor.My
open Go.RowKit Go.Proofs.YtiaiopdiooobiaaDoorW.PrintWords
set_option maxRecDepth 100000

def IsRow (k : IntKind) (w : World) (a : Option Addr) (len cap : Nat) (zs : List Int) : Prop :=
  (a = none ∧ len = 0 ∧ cap = 0 ∧ zs = []) ∨
  ∃ x, a = some x ∧ len ≤ cap ∧ cap ≤ maxLen ∧ zs.length = cap ∧ (∀ i, i < zs.length → w.cell? (x.add i) = some (.int k (zs.getD i 0))) ∧ ∀ n ∈ zs, (Lit.int k n).wf = true

theorem row_C {k : IntKind} {w : World} {a : Option Addr} {len cap : Nat} {zs : List Int} (h : IsRow k w a len cap zs) :
    ∃ l : List Int, l.length = len ∧ len ≤ cap ∧ (Kd.int k).C w a l.length l ∧ ∀ n ∈ l, (Lit.int k n).wf = true := by
  rcases h with ⟨rfl, rfl, rfl, rfl⟩ | ⟨x, rfl, h1, h2, h3, h4, h5⟩
  · exact ⟨[], rfl, Nat.le_refl _, Kd.C_nil _ _, fun n hn => by simp at hn⟩
  · have hl : (zs.take len).length = len := by rw [List.length_take]; omega
    refine ⟨zs.take len, hl, h1, Kd.C_of_reads (d := 0) ⟨rfl, by unfold maxLen at h2; omega, fun hn => ⟨x, rfl, fun j hj => ?_⟩⟩, fun n hn => h5 n (List.mem_of_mem_take hn)⟩
    have hj' : j < len := by omega
    rw [h4 j (by omega)]
    simp [List.getD_eq_getElem?_getD, hj']
theorem strs_C {w : World} {x : Addr} {len cap : Nat} {ss : List ByteArray} (hl : len ≤ cap) (hm : cap ≤ maxLen) (hz : ss.length = cap)
    (hc : ∀ i, i < ss.length → w.cell? (x.add i) = some (.string (ss.getD i ByteArray.empty))) : ∃ l : List ByteArray, l.length = len ∧ len ≤ cap ∧ Kd.string.C w (some x) l.length l := by
  have h : (ss.take len).length = len := by rw [List.length_take]; omega
  refine ⟨ss.take len, h, hl, Kd.C_of_reads (d := ByteArray.empty) ⟨rfl, by unfold maxLen at hm; omega, fun hn => ⟨x, rfl, fun j hj => ?_⟩⟩⟩
  have hj' : j < len := by omega
  rw [hc j (by omega)]
  simp [List.getD_eq_getElem?_getD, hj']
end Go.Proofs.YtiaiopdiooobiaaDoor.My

/- What all laws of the inflater share: the fixed fact, the table as it is laid, Inflate over any bytes. -/
namespace Go.Proofs.YtiaiopdiooobiaaDoor.My
open Go.RowKit Go.Proofs.YtiaiopdiooobiaaDoor.Inf Go.Proofs.YtiaiopdiooobiaaDoor.Huf Go.Proofs.YtiaiopdiooobiaaDoorW.PrintWords Go.Proofs.YtiaiopdiooobiaaDoorW.PrintLast Go.Proofs.YtiaiopdiooobiaaDoorW.PrintMore
set_option maxRecDepth 100000
set_option linter.unusedVariables false
set_option linter.unusedSimpArgs false
theorem ord_of_laid {W : World} (h : laidMetH Tryd.prog [("crossdock/inflate.order", Rows.laid_crossdock_inflate_order)] W) : Ord W := by
  rw [MakeChecks.laidMetH_plain _ _ _ (by kernel_rfl)] at h
  obtain ⟨ps, ⟨g, t, cs, fuel, p, q, hg, ht, hv, hd, _, _⟩, _, _⟩ := h
  obtain rfl := Option.some.inj ((show Tryd.prog.globalNamed "crossdock/inflate.order" = some 0 by kernel_rfl).symm.trans hg)
  obtain rfl := Option.some.inj ((show (Tryd.prog.globals[0]?).map (·.type) = some 124 by kernel_rfl).symm.trans ht)
  intro r hr
  obtain ⟨xs, m, _, ex, _, hl, hel⟩ := DataW.trod_array Tryd.underlying124 hd
  have c5 : Tryd.prog.cellsOf 3 = 1 := by kernel_rfl
  have hE := hel r hr
  rw [c5, Nat.mul_one, List.getElem?_eq_getElem (by omega)] at hE
  obtain ⟨z, e1, e2, _⟩ := DataW.trod_int Tryd.underlying3 hE
  have e3 : (xs.map (·.1)) = order.map fun (n : Nat) => (DataW.lit (.int .i64 (n : Int)) : DataW Unit) := (DataW.agg.inj (Prod.mk.inj ex).1).symm
  have e4 : (xs.map (·.1))[r]? = (order.map fun (n : Nat) => (DataW.lit (.int .i64 (n : Int)) : DataW Unit))[r]? := by rw [e3]
  have hlen : order.length = 19 := rfl
  rw [List.getElem?_map, List.getElem?_map, List.getElem?_eq_getElem (by omega : r < xs.length), List.getElem?_eq_getElem (by omega : r < order.length), e2] at e4
  have hz : z = ((order.getD r 0 : Nat) : Int) := by
    simp only [Option.map_some, Option.some.injEq, DataW.lit.injEq, Lit.int.injEq, true_and] at e4
    rw [e4, List.getD, List.getElem?_eq_getElem (by omega : r < order.length)]; rfl
  rw [World.var?_cell hg hv r, ← hz]
  have : cs.toList[r]? = some (.int .i64 z) := by
    have h0 : ((cs.toList.drop r).take 1)[0]? = some (.int .i64 z) := by rw [e1]; rfl
    simpa using h0
  simpa using this
theorem alive_infl : infl (ofB [1, 1, 0, 254, 255, 65]) 6 10 = .ok () ⟨48, [65], 2⟩ := by kernel_rfl
/-- Inflate over any bytes. -/
theorem inflate_bytes (w : World) (A : Option Addr) (n c : Nat) (zs : List Int) (lim : Int) (hx : (Kd.int .u8).C w A n zs) (hz : ∀ z ∈ zs, (Lit.int .u8 z).wf = true) (hl : zs.length = n) (hn : n ≤ 1000000) (hcap : A = none → n = 0 ∧ c = 0) (ho : Ord w) :
    Calls Tryd.prog 9 #[.slice A n c, .int .i64 lim] w (Inflated (ofB zs) n lim w) := by
  have hb : ∀ z ∈ zs, 0 ≤ z ∧ z < 256 := fun z h => wf_u8 (hz z h)
  have h1 := leB_ofB zs hb
  rw [hl] at h1
  have h2 := ofB_lt zs hb
  rw [hl] at h2
  exact inflate_calls w A n c (ofB zs) lim (by rw [h1]; exact hx) h2 hn hcap ho
end Go.Proofs.YtiaiopdiooobiaaDoor.My

/- The walk of deflate's pack. -/
namespace Go.Proofs.YtiaiopdiooobiaaDoor.My
open Go.RowKit Go.Proofs.YtiaiopdiooobiaaDoor.Huf Go.Proofs.YtiaiopdiooobiaaDoorW.PrintWords Go.Proofs.YtiaiopdiooobiaaDoorW.PrintLast Go.Proofs.YtiaiopdiooobiaaDoorW.PrintMore
set_option maxRecDepth 100000
set_option linter.unusedVariables false
set_option linter.unusedSimpArgs false

theorem own_base_le {w : World} {B B' n : Nat} {e : TypeId} {s : Nat} {v : Value} {xs : List Value} (h : w.ownsRow B' e s v n xs) (hB : B ≤ B') : w.ownsRow B e s v n xs := by
  refine ⟨h.1, ?_⟩
  rcases h.2 with h2 | ⟨g, cap, cur, h1, h2, h3⟩
  · exact .inl h2
  · exact .inr ⟨g, cap, cur, h1, Nat.le_trans hB h2, h3⟩
def Packed (w : World) (out : List Int) (e : Ending) (w' : World) : Prop := ∃ v, e = .returned v ∧ w'.ownsRow w.heap.size 5 1 v out.length (nums .u8 out) ∧ Below w.heap.size w w'
theorem fixedL_len (t : List Int) : (fixedL letters fixD t).length = ((fixB' letters fixD t).N + 7) / 8 := by unfold fixedL; rw [leB_len]
theorem fix_N (t : List Int) (hby : ∀ z ∈ t, 0 ≤ z ∧ z < 256) : (fixB' letters fixD t).N ≤ 18 + 60 * t.length := by
  have h := fold_ok (toks t) (toks_ok t hby) ⟨3, 3⟩ (show (3 : Nat) < 2 ^ 3 by decide)
  have h2 := sg_N letters15 ((toks t).foldl (tokB letters fixD) ⟨3, 3⟩) 256
  have h3 := toks_len t
  have h4 := h.2
  show (sgB letters _ 256).N ≤ _
  have : (⟨3, 3⟩ : Bs).N = 3 := rfl
  omega
set_option maxHeartbeats 2000000 in
theorem pack_calls (w : World) (A : Option Addr) (n c : Nat) (t : List Int) (m : Int) (hm : m = 0 ∨ m = 1) (ht : (Kd.int .u8).C w A n t) (hc : n ≤ c) (hl : t.length = n) (hby : ∀ z ∈ t, 0 ≤ z ∧ z < 256) (hn : n ≤ 65535) :
    Calls Tryd.prog 16 #[.slice A n c, .int .i64 m] w (Packed w (pkL t m)) := by
  have hb1 := below_alloc (Below.refl w.heap.size w) (.cells #[.slice none 0 0, .int .u64 0, .int .i64 0] 81)
  have hw1 := Writ.new w w.heap.size (Nat.le_refl _)
  have hb2 := below_alloc hb1 (.cells #[.pointer (some ⟨w.heap.size, 0, none⟩), .pointer none, .pointer none] 66)
  have hP : Pk ((w.alloc (.cells #[.slice none 0 0, .int .u64 0, .int .i64 0] 81)).alloc (.cells #[.pointer (some ⟨w.heap.size, 0, none⟩), .pointer none, .pointer none] 66)) (w.heap.size + 1) w.heap.size (.pointer none) (.pointer none) (.slice none 0 0) ⟨0, 0⟩ := by
    refine ⟨?_, hw1.below' (below_alloc (Below.refl _ _) _), by omega⟩
    have := alloc_self (w.alloc (.cells #[.slice none 0 0, .int .u64 0, .int .i64 0] 81)) (.cells #[.pointer (some ⟨w.heap.size, 0, none⟩), .pointer none, .pointer none] 66)
    rwa [alloc_size] at this
  have HP := Aside0.mk hP
  have HB := Aside0.mk hb2
  have HW : Aside0 (∀ (wx : World) (pa pb v' : Value) (b : Bs), Pk wx (w.heap.size + 1) w.heap.size pa pb v' b → Below w.heap.size w wx → b.N ≤ 1000000000 → Calls Tryd.prog 28 #[.pointer (some ⟨w.heap.size, 0, none⟩)] wx (Packed w (leB b.V ((b.N + 7) / 8)))) := ⟨fun wx pa pb v' b h hb hN => by
    refine (wtext_calls wx w.heap.size w.heap.size v' b.V b.N h.wri (by omega)).mono ?_
    rintro e w' ⟨v'', rfl, ho, hb'⟩
    refine ⟨v'', rfl, own_base_le ?_ hb.size, hb.trans (hb'.mono hb.size)⟩
    rw [leB_len]
    exact ho⟩
  rcases hm with rfl | rfl
  · have HC := Aside0.mk (plain_calls w _ (w.heap.size + 1) w.heap.size _ _ _ hP hb2 (Nat.le_refl _) A n c t ht hc hl hby hn)
    have hout : pkL t 0 = leB (stB t).V (((stB t).N + 7) / 8) := by unfold pkL; rw [if_pos rfl, st_leB t hby (by omega)]
    rw [hout]
    have HN : Aside0 ((stB t).N ≤ 1000000000) := ⟨by show 40 + 8 * t.length ≤ _; omega⟩
    clear hb1 hw1 hb2 hP ht hc hl hby hn hout
    go_enter Tryd.func16, Tryd.ntmps16
    go_wp2_with (go_at_call 25; refine (newWriter_calls _).mono ?_; rintro e w1 ⟨rfl, rfl⟩)
    refine HC.out.mono ?_
    rintro e w3 ⟨rfl, v3, hP3, hG3⟩
    obtain ⟨c0, c1, c2, _, _⟩ := hP3.cells
    have HT := Aside0.mk (HW.out w3 _ _ v3 _ hP3 (hG3.under HP.out.wri HB.out (Nat.le_refl _)) HN.out)
    clear hP3 hG3
    go_wp2_with fail
    refine HT.out.mono ?_
    rintro e w4 ⟨v4, rfl, h4⟩
    go_wp2_with fail
    go_ret
    exact ⟨v4, rfl, h4⟩
  · have HC := Aside0.mk (packfix_calls w _ (w.heap.size + 1) w.heap.size _ _ _ hP rfl hb2 (Nat.le_refl _) A n c t ht hl hby (by omega))
    have hout : pkL t 1 = leB (fixB' letters fixD t).V (((fixB' letters fixD t).N + 7) / 8) := by unfold pkL; rw [if_neg (by decide)]; rfl
    rw [hout]
    have HN : Aside0 ((fixB' letters fixD t).N ≤ 1000000000) := ⟨by have := fix_N t hby; omega⟩
    clear hb1 hw1 hb2 hP ht hc hl hby hn hout
    go_enter Tryd.func16, Tryd.ntmps16
    go_wp2_with (go_at_call 25; refine (newWriter_calls _).mono ?_; rintro e w1 ⟨rfl, rfl⟩)
    refine HC.out.mono ?_
    rintro e w3 ⟨rfl, pa, pb, v3, hP3, hB3⟩
    obtain ⟨c0, c1, c2, _, _⟩ := hP3.cells
    have HT := Aside0.mk (HW.out w3 _ _ v3 _ hP3 hB3 HN.out)
    clear hP3 hB3
    go_wp2_with fail
    refine HT.out.mono ?_
    rintro e w4 ⟨v4, rfl, h4⟩
    go_wp2_with fail
    go_ret
    exact ⟨v4, rfl, h4⟩
end Go.Proofs.YtiaiopdiooobiaaDoor.My

/- The walk of deflate.Deflate. -/
namespace Go.Proofs.YtiaiopdiooobiaaDoor.My
open Go.RowKit Go.Proofs.YtiaiopdiooobiaaDoor.Huf Go.Proofs.YtiaiopdiooobiaaDoorW.PrintWords Go.Proofs.YtiaiopdiooobiaaDoorW.PrintLast Go.Proofs.YtiaiopdiooobiaaDoorW.PrintMore
set_option maxRecDepth 100000
set_option linter.unusedVariables false
set_option linter.unusedSimpArgs false

/-- What is known of the text while it is packed: its box, the mode's, the answer's. -/
structure DefB (w : World) (gx : Nat) (A : Option Addr) (n c : Nat) (m : Int) : Prop where
  x : w.heap[gx]? = some (.cells #[.slice A n c] 22 (0, 0))
  m : w.heap[gx + 1]? = some (.cells #[.int .i64 m] 3 (0, 0))
theorem DefB.below {w w1 : World} {gx : Nat} {A : Option Addr} {n c : Nat} {m : Int} (h : DefB w gx A n c m) (hb : Below w.heap.size w w1) : DefB w1 gx A n c m := ⟨blk_below h.x hb, blk_below h.m hb⟩
theorem DefB.set {w : World} {gx : Nat} {A : Option Addr} {n c : Nat} {m : Int} (h : DefB w gx A n c m) (v : Value) : DefB (w.setCell ⟨gx + 2, 0, none⟩ v) gx A n c m :=
  ⟨blk_far h.x (p := ⟨gx + 2, 0, none⟩) (by show gx ≠ gx + 2; omega) v, blk_far h.m (p := ⟨gx + 2, 0, none⟩) (by show gx + 1 ≠ gx + 2; omega) v⟩
theorem DefB.cells {w : World} {gx : Nat} {A : Option Addr} {n c : Nat} {m : Int} (h : DefB w gx A n c m) : w.cell? ⟨gx, 0, none⟩ = some (.slice A n c) ∧ w.cell? ⟨gx + 1, 0, none⟩ = some (.int .i64 m) := ⟨by rw [blk_cell h.x]; rfl, by rw [blk_cell h.m]; rfl⟩
/-- The answer's box holds packed bytes; nothing ahead of it has turned. -/
structure DefO (w w1 : World) (gx : Nat) (out : List Int) : Prop where mk :: (out : ∃ v : Value, w1.heap[gx + 2]? = some (.cells #[v] 22 (0, 0)) ∧ w1.ownsRow w.heap.size 5 1 v out.length (nums .u8 out) ∧ Below (gx + 2) w w1 ∧ (∀ k, gx + 2 < k → k < w.heap.size → w1.heap[k]? = w.heap[k]?) ∧ w.heap.size ≤ w1.heap.size)
theorem packed_put {w w1 w2 : World} {gx : Nat} {out : List Int} {v u : Value} (hg : gx + 2 < w1.heap.size) (h : w2.ownsRow w1.heap.size 5 1 v out.length (nums .u8 out)) (hb : Below w1.heap.size w1 w2)
    (hc : w1.heap[gx + 2]? = some (.cells #[u] 22 (0, 0))) (h0 : Below (gx + 2) w w1) (h1 : ∀ k, gx + 2 < k → k < w.heap.size → w1.heap[k]? = w.heap[k]?) (h2 : w.heap.size ≤ w1.heap.size) : DefO w (w2.setCell ⟨gx + 2, 0, none⟩ v) gx out := by
  have hc2 := blk_below hc hb
  refine ⟨v, ?_, own_base_le (own_setCell h (p := ⟨gx + 2, 0, none⟩) (own_ne h hc2 (by decide)) v) h2, ?_, ?_, ?_⟩
  · have := blk_set hc2 0 v
    simpa using this
  · exact (h0.trans (hb.mono (by omega))).setCell (by show gx + 2 ≤ gx + 2; omega) v
  · intro k h3 h4
    rw [Below.heap_setCell _ _ _ _ (by show k ≠ gx + 2; omega), hb.block k (by omega), h1 k h3 h4]
  · have := hb.size
    simp only [World.setCell, Array.size_modify]
    omega
theorem DefO.below {w w1 w2 : World} {gx : Nat} {out : List Int} (h : DefO w w1 gx out) (hg : gx + 2 < w.heap.size) (hb : Below w1.heap.size w1 w2) : DefO w w2 gx out := by
  obtain ⟨v, h1, h2, h3, h4, h5⟩ := h.out
  exact ⟨v, blk_below h1 hb, pw_own_below h2 hb, h3.trans (hb.mono (by omega)), fun k a b => (hb.block k (by omega)).trans (h4 k a b), Nat.le_trans h5 hb.size⟩
theorem C_same8 {w w1 : World} {A : Option Addr} {n : Nat} {xs : List Int} (h : (Kd.int .u8).C w A n xs) (hs : 0 < n → ∀ ad, A = some ad → w1.heap[ad.block]? = w.heap[ad.block]?) : (Kd.int .u8).C w1 A n xs := by
  refine C_of_readsInt ?_
  obtain ⟨h1, h2, h3⟩ := reads_of_C h
  refine ⟨h1, h2, fun hn => ?_⟩
  obtain ⟨ad, e, hc⟩ := h3 hn
  refine ⟨ad, e, fun j hj => ?_⟩
  have e2 := cell_same (w := w) (w1 := w1) (ad := ad.add j) (by rw [add_block]; exact hs hn ad e)
  rw [e2]
  exact hc j hj
theorem DefO.C {w w1 : World} {gx : Nat} {out : List Int} (h : DefO w w1 gx out) {A : Option Addr} {n : Nat} {xs : List Int} (hC : (Kd.int .u8).C w A n xs) (hA : 0 < n → ∀ ad, A = some ad → ad.block < gx) : (Kd.int .u8).C w1 A n xs := by
  obtain ⟨v, h1, h2, h3, h4, h5⟩ := h.out
  exact C_same8 hC (fun hn ad e => h3.block ad.block (by have := hA hn ad e; omega))
set_option maxHeartbeats 4000000 in
theorem closure_calls (w : World) (gx : Nat) (A : Option Addr) (n c : Nat) (t : List Int) (m : Int) (h0 : 0 ≤ m) (h2 : m ≤ 2) (hx : DefB w gx A n c m) (hg : gx + 2 < w.heap.size) (ho : w.heap[gx + 2]? = some (.cells #[.slice none 0 0] 22 (0, 0))) (ht : (Kd.int .u8).C w A n t) (hta : 0 < n → ∀ ad, A = some ad → ad.block < gx) (hc : n ≤ c) (hl : t.length = n) (hby : ∀ z ∈ t, 0 ≤ z ∧ z < 256) (hn : n ≤ 65535) :
    Calls Tryd.prog 15 #[.pointer (some ⟨gx, 0, none⟩), .pointer (some ⟨gx + 1, 0, none⟩), .pointer (some ⟨gx + 2, 0, none⟩)] w fun e w' => e = .returned (.tuple #[]) ∧ DefO w w' gx (deflL t m) := by
  obtain ⟨c0, c1⟩ := hx.cells
  have c2 : w.cell? ⟨gx + 2, 0, none⟩ = some (.slice none 0 0) := by rw [blk_cell ho]; rfl
  have f2 := blk_frozen ho 0
  have HX := Aside0.mk hx
  have HO := Aside0.mk (And.intro ho hg)
  have HT := Aside0.mk (And.intro ht (And.intro hta (And.intro hc (And.intro hl (And.intro hby hn)))))
  clear hx ho ht hta hc hl hby hn hg
  have HP : Aside0 (∀ (W : World) (k : Int), (k = 0 ∨ k = 1) → (Kd.int .u8).C W A n t → Calls Tryd.prog 16 #[.slice A n c, .int .i64 k] W (Packed W (pkL t k))) := ⟨fun W k hk hC => pack_calls W A n c t k hk hC HT.out.2.2.1 HT.out.2.2.2.1 HT.out.2.2.2.2.1 HT.out.2.2.2.2.2⟩
  by_cases hm2 : m < 2
  · have hmin : min m 1 = m := by omega
    have hout : deflL t m = pkL t m := by unfold deflL; rw [if_neg (by omega), hmin]
    rw [hout]
    have hle : m ≤ 1 := by omega
    have HP1 := Aside0.mk (HP.out w m (by omega) HT.out.1)
    clear hout
    go_enter Tryd.func15, Tryd.ntmps15
    go_upto_region 1 with (go_at_call 16; refine HP1.out.mono ?_; rintro e w1 ⟨v1, rfl, ho1, hb1⟩; obtain ⟨A1, k1, rfl⟩ := own_slice ho1; have f2' := blk_frozen (blk_below HO.out.1 hb1) 0; have c2' := pw_cell_below hb1 c2; have c1' := pw_cell_below hb1 c1; have HO1 := Aside0.mk (packed_put (u := .slice none 0 0) HO.out.2 ho1 hb1 HO.out.1 (Below.refl _ _) (fun k _ _ => rfl) (Nat.le_refl _)); have HX1 := Aside0.mk ((HX.out.below hb1).set (.slice A1 (pkL t m).length k1)).cells; clear ho1 hb1)
    generalize w1.setCell ⟨gx + 2, 0, none⟩ (.slice A1 (pkL t m).length k1) = w2 at *
    obtain ⟨d0, d1⟩ := HX1.out
    go_wp2_with fail
    exact bodyPost_ret (results_none rfl _ _ _) rfl ⟨rfl, HO1.out⟩
  · obtain rfl : m = 2 := by omega
    have HP1 := Aside0.mk (HP.out w 1 (.inr rfl) HT.out.1)
    have hbig : Aside0 (((plainL t).length < (pkL t 1).length → deflL t 2 = plainL t) ∧ (¬ (plainL t).length < (pkL t 1).length → deflL t 2 = pkL t 1)) := ⟨by
      have e : pkL t 1 = fixedL letters fixD t := by unfold pkL; rw [if_neg (by decide)]
      have e2 : min (2 : Int) 1 = 1 := by decide
      rw [e]
      refine ⟨fun h => by unfold deflL; rw [if_pos ⟨rfl, h⟩], fun h => by unfold deflL; rw [if_neg (fun k => h k.2), e2, e]⟩⟩
    have hp0 : Aside0 (pkL t 0 = plainL t) := ⟨by unfold pkL; rw [if_pos rfl]⟩
    have hlen1 : Aside0 ((pkL t 1).length ≤ 100000000 ∧ (plainL t).length ≤ 100000000) := ⟨by
      have e : pkL t 1 = fixedL letters fixD t := by unfold pkL; rw [if_neg (by decide)]
      rw [e, fixedL_len, plainL_len]
      have := fix_N t HT.out.2.2.2.2.1
      have := HT.out.2.2.2.1
      have := HT.out.2.2.2.2.2
      omega⟩
    clear h0 h2 hm2
    generalize hD : deflL t 2 = D at *
    have HD := Aside0.mk hD
    clear hD
    go_enter Tryd.func15, Tryd.ntmps15
    go_upto_region 1 with (go_at_call 16; refine HP1.out.mono ?_; rintro e w1 ⟨v1, rfl, ho1, hb1⟩; obtain ⟨A1, k1, rfl⟩ := own_slice ho1; have f2' := blk_frozen (blk_below HO.out.1 hb1) 0; have c2' := pw_cell_below hb1 c2; have HO1 := Aside0.mk (packed_put (u := .slice none 0 0) HO.out.2 ho1 hb1 HO.out.1 (Below.refl _ _) (fun k _ _ => rfl) (Nat.le_refl _)); have HX1 := Aside0.mk ((HX.out.below hb1).set (.slice A1 (pkL t 1).length k1)); have HV1 := Aside0.mk (blk_set (blk_below HO.out.1 hb1) 0 (.slice A1 (pkL t 1).length k1)); clear ho1 hb1)
    generalize w1.setCell ⟨gx + 2, 0, none⟩ (.slice A1 (pkL t 1).length k1) = w2 at *
    obtain ⟨d0, d1⟩ := HX1.out.cells
    have HP2 := Aside0.mk (HP.out w2 0 (.inl rfl) (HO1.out.C HT.out.1 HT.out.2.1))
    have HSz := Aside0.mk (show gx + 2 < w2.heap.size from by obtain ⟨_, _, _, _, _, h⟩ := HO1.out.out; have := HO.out.2; omega)
    have hV1 : w2.heap[gx + 2]? = some (.cells #[.slice A1 (pkL t 1).length k1] 22 (0, 0)) := by have := HV1.out; simpa using this
    have HV2 := Aside0.mk hV1
    clear hV1 HV1
    rw [hp0.out] at HP2
    clear HP HP1 c0 c1 c2 f2 f2' c2'
    generalize pkL t 1 = F at *
    go_upto_region 3 with (go_at_call 16; refine HP2.out.mono ?_; rintro e w3 ⟨v3, rfl, ho3, hb3⟩; obtain ⟨A3, k3, rfl⟩ := own_slice ho3; have HO3 := Aside0.mk (And.intro ho3 hb3); have hv3 := blk_below HV2.out hb3; have HV3 := Aside0.mk hv3; clear hv3 ho3 hb3)
    have c2 : w3.cell? ⟨gx + 2, 0, none⟩ = some (.slice A1 F.length k1) := by rw [blk_cell HV3.out]; rfl
    have f2 := blk_frozen HV3.out 0
    by_cases hlt : (plainL t).length < F.length
    · have hlt' : ((plainL t).length : Int) < (F.length : Int) := by omega
      have HE := Aside0.mk (hbig.out.1 hlt)
      have HF := Aside0.mk (by
        obtain ⟨_, _, _, h3, h4, h5⟩ := HO1.out.out
        exact packed_put (w := w) (u := .slice A1 F.length k1) HSz.out HO3.out.1 HO3.out.2 HV2.out h3 h4 h5)
      have hl1 := hlen1.out
      clear hlt hbig hp0 HT HO1 hlen1
      generalize (plainL t).length = p at *
      generalize F.length = q at *
      have hp1 : (p : Int) ≤ 100000000 := by omega
      clear hl1
      go_wp2_with fail
      refine bodyPost_end (results_none rfl _ _ _) rfl ?_
      exact ⟨rfl, by rw [HE.out]; exact HF.out⟩
    · have hlt' : ¬ ((plainL t).length : Int) < (F.length : Int) := by omega
      have HE := Aside0.mk (hbig.out.2 hlt)
      have HF := Aside0.mk (HO1.out.below HO.out.2 HO3.out.2)
      have hl1 := hlen1.out
      clear hlt hbig hp0 HT HO1 hlen1
      generalize (plainL t).length = p at *
      have hp1 : (p : Int) ≤ 100000000 := by omega
      have hq1 : (F.length : Int) ≤ 100000000 := by omega
      clear hl1
      generalize F.length = q at *
      go_wp2_with fail
      refine bodyPost_end (results_none rfl _ _ _) rfl ?_
      exact ⟨rfl, by rw [HE.out]; exact HF.out⟩

/-- What Deflate answers. -/
def DefR (t : List Int) (m : Int) : Option Int × List Int := if m < 0 ∨ 2 < m then (some 1, []) else (none, deflL t m)
def Deflated (w : World) (t : List Int) (m : Int) (e : Ending) (w' : World) : Prop :=
  Below w.heap.size w w' ∧ ((∃ c, (DefR t m).1 = some c ∧ e = .returned (.tuple #[.slice none 0 0, errV (some c)])) ∨
    ((DefR t m).1 = none ∧ ∃ A c, e = .returned (.tuple #[.slice A (deflL t m).length c, .nilIface]) ∧ (deflL t m).length ≤ c ∧ (Kd.int .u8).C w' A (deflL t m).length (deflL t m)))
set_option maxHeartbeats 4000000 in
theorem deflate_calls (w : World) (A : Option Addr) (n c : Nat) (t : List Int) (m : Int) (ht : (Kd.int .u8).C w A n t) (hc : n ≤ c) (hl : t.length = n) (hby : ∀ z ∈ t, 0 ≤ z ∧ z < 256) (hn : n ≤ 65535) :
    Calls Tryd.prog 8 #[.slice A n c, .int .i64 m] w (Deflated w t m) := by
  have hta : 0 < n → ∀ ad, A = some ad → ad.block < w.heap.size := fun h0 ad e => by
    obtain ⟨ad', e2, hc⟩ := byte_at ht 0 h0
    rw [e] at e2; cases e2
    have := World.block_lt_of_cell? w _ hc
    rwa [add_block] at this
  have hb1 := below_alloc (Below.refl w.heap.size w) (.cells #[.slice A n c] 22)
  have hb2 := below_alloc hb1 (.cells #[.int .i64 m] 3)
  have hx1 := alloc_self w (.cells #[.slice A n c] 22)
  have hx2 := blk_below hx1 (below_alloc (Below.refl _ _) (.cells #[.int .i64 m] 3))
  have hm2 := alloc_self (w.alloc (.cells #[.slice A n c] 22)) (.cells #[.int .i64 m] 3)
  rw [alloc_size] at hm2
  have HX := Aside0.mk (DefB.mk hx2 hm2)
  have HB := Aside0.mk hb2
  have HSz : Aside0 (((w.alloc (.cells #[.slice A n c] 22)).alloc (.cells #[.int .i64 m] 3)).heap.size = w.heap.size + 2) := ⟨by rw [alloc_size, alloc_size]⟩
  have HT := Aside0.mk (And.intro ht (And.intro hta (And.intro hc (And.intro hl (And.intro hby hn)))))
  have hn' : (n : Int) ≤ 65535 := by omega
  clear ht hta hc hl hby hn hb1 hb2 hx1 hx2 hm2
  by_cases h0 : m < 0 ∨ 2 < m
  · have hR : Aside0 ((DefR t m).1 = some 1) := ⟨by unfold DefR; rw [if_pos h0]⟩
    go_enter Tryd.func8, Tryd.ntmps8
    go_upto_region 1 with fail
    generalize (w.alloc (.cells #[.slice A n c] 22)).alloc (.cells #[.int .i64 m] 3) = w2 at *
    obtain ⟨c0, c1⟩ := HX.out.cells
    by_cases h1 : m < 0
    · go_wp2_with fail
      go_ret2
      exact ⟨HB.out, .inl ⟨1, hR.out, rfl⟩⟩
    · have h2 : 2 < m := by omega
      clear h0
      go_wp2_with fail
      go_ret2
      exact ⟨HB.out, .inl ⟨1, hR.out, rfl⟩⟩
  · have hm0 : 0 ≤ m := by omega
    have hm2 : m ≤ 2 := by omega
    have hR : Aside0 ((DefR t m).1 = none) := ⟨by unfold DefR; rw [if_neg h0]⟩
    have hcf : ∀ (gx : Nat) (W : World), (callFunc 15 #[.pointer (some ⟨gx, 0, none⟩), .pointer (some ⟨gx + 1, 0, none⟩), .pointer (some ⟨gx + 2, 0, none⟩)]).run Tryd.prog W = .ok (.enter 15 #[.pointer (some ⟨gx, 0, none⟩), .pointer (some ⟨gx + 1, 0, none⟩), .pointer (some ⟨gx + 2, 0, none⟩)]) W := fun _ _ => rfl
    clear h0
    go_enter Tryd.func8, Tryd.ntmps8
    go_upto_region 1 with fail
    generalize (w.alloc (.cells #[.slice A n c] 22)).alloc (.cells #[.int .i64 m] 3) = w2 at *
    obtain ⟨c0, c1⟩ := HX.out.cells
    go_upto_region 6 with fail
    rw [HSz.out]
    have hb3 := below_alloc (Below.refl w2.heap.size w2) (.cells #[.slice none 0 0] 22)
    have hv3 := alloc_self w2 (.cells #[.slice none 0 0] 22)
    have hs3 := alloc_size w2 (.cells #[.slice none 0 0] 22)
    have hX3 := HX.out.below hb3
    have hB3 := HB.out.trans (hb3.mono HB.out.size)
    rw [HSz.out] at hv3 hs3
    have HX3 := Aside0.mk (And.intro hX3 (And.intro hv3 hs3))
    have HB3 := Aside0.mk hB3
    clear hb3 hv3 hs3 hX3 hB3 c0 c1
    generalize w2.alloc (.cells #[.slice none 0 0] 22) = w3 at *
    have hb4 := below_alloc (Below.refl w3.heap.size w3) (.cells #[.nilIface] 26)
    have hs4 := alloc_size w3 (.cells #[.nilIface] 26)
    have hk4 := alloc_self w3 (.cells #[.nilIface] 26)
    have HTry := Aside0.mk (try_fun 15 #[.pointer (some ⟨w.heap.size, 0, none⟩), .pointer (some ⟨w.heap.size + 1, 0, none⟩), .pointer (some ⟨w.heap.size + 2, 0, none⟩)] w3 (fun w1 => DefO (w3.alloc (.cells #[.nilIface] 26)) w1 w.heap.size (deflL t m)) (fun _ _ => False) (hcf w.heap.size)
      ((closure_calls (w3.alloc (.cells #[.nilIface] 26)) w.heap.size A n c t m hm0 hm2 (HX3.out.1.below hb4) (by rw [hs4, HX3.out.2.2]; omega) (blk_below HX3.out.2.1 hb4) (Kd.C_below (Kd.C_below HT.out.1 HB3.out) hb4) HT.out.2.1 HT.out.2.2.1 HT.out.2.2.2.1 HT.out.2.2.2.2.1 HT.out.2.2.2.2.2).mono fun e w' h => by
        obtain ⟨rfl, hD⟩ := h
        refine ⟨?_, .inl ⟨_, rfl, hD⟩⟩
        obtain ⟨v, h1, h2, h3, h4, h5⟩ := hD.out
        rw [h4 w3.heap.size (by rw [HX3.out.2.2]; omega) (by rw [hs4]; omega)]
        exact hk4))
    have HB4 := Aside0.mk (And.intro (HB3.out.trans (hb4.mono HB3.out.size)) (And.intro hs4 hk4))
    clear hb4 hs4 hk4 hcf
    have u1 := Tryd.underlying26
    go_wp2_with fail
    refine HTry.out.mono ?_
    rintro e w5 (⟨rfl, w1, hD, rfl⟩ | ⟨g, rfl, w1, hF, rfl⟩)
    · obtain ⟨v, h1, h2, h3, h4, h5⟩ := hD.out
      obtain ⟨A', c', rfl, hc', hC'⟩ := own_slice' h2
      have hk5 : w1.heap[w3.heap.size]? = some (.cells #[.nilIface] 26 (0, 0)) := by
        rw [h4 w3.heap.size (by rw [HX3.out.2.2]; omega) (by rw [HB4.out.2.1]; omega)]
        exact HB4.out.2.2
      have hv5 := blk_far h1 (p := ⟨w3.heap.size, 0, none⟩) (blk_ne h1 hk5 (by decide)) .nilIface
      have ho5 := own_setCell h2 (p := ⟨w3.heap.size, 0, none⟩) (own_ne h2 hk5 (by decide)) .nilIface
      have hb5 : Below w.heap.size w (w1.setCell ⟨w3.heap.size, 0, none⟩ .nilIface) :=
        (HB4.out.1.trans (h3.mono (by omega))).setCell (by show w.heap.size ≤ w3.heap.size; rw [HX3.out.2.2]; omega) _
      have HR5 := Aside0.mk (And.intro ho5 (And.intro hb5 hc'))
      have d0 := blk_cell hv5 0
      clear h1 h2 h3 h4 h5 hC' hk5 hv5 ho5 hb5 hc' hD
      generalize w1.setCell ⟨w3.heap.size, 0, none⟩ .nilIface = w6 at *
      generalize hq : deflL t m = D at *
      generalize hqn : D.length = q at *
      go_wp2_with fail
      go_ret2
      refine ⟨HR5.out.2.1, .inr ⟨hR.out, A', c', ?_, ?_, ?_⟩⟩
      · first | (rw [hq, hqn]) | (rw [hq, hqn]; rfl)
        try rfl
      · rw [hq, hqn]; exact HR5.out.2.2
      · rw [hq, hqn]
        obtain ⟨A6, c6, e6, _, hC6⟩ := own_slice' HR5.out.1
        cases e6
        exact hC6
    · exact hF.elim
end Go.Proofs.YtiaiopdiooobiaaDoor.My

/- DeflateBack: what is packed is unpacked, by whatever mode, and tokens, too; how many bytes mode 2 needs at most. -/
namespace Go.Proofs.YtiaiopdiooobiaaDoor.My
open Go.RowKit Go.Proofs.YtiaiopdiooobiaaDoor.Inf Go.Proofs.YtiaiopdiooobiaaDoor.Huf Go.Proofs.YtiaiopdiooobiaaDoorW.PrintWords Go.Proofs.YtiaiopdiooobiaaDoorW.PrintLast Go.Proofs.YtiaiopdiooobiaaDoorW.PrintMore
set_option maxRecDepth 100000
set_option linter.unusedVariables false
set_option linter.unusedSimpArgs false

noncomputable def laidWorld (os : Os) : World :=
  let w0 := World.holding Tryd.prog os ⟨#[], #[], []⟩
  let put (h : Array Obj) (g : Nat) (cs : Array Value) : Array Obj := h.modify g fun
    | .cells _ t frozen => .cells cs t frozen
    | o => o
  { w0 with heap := put w0.heap 0 ((([16, 17, 18, 0, 8, 7, 9, 6, 10, 5, 11, 4, 12, 3, 13, 2, 14, 1, 15] : List Int).map fun (z : Int) => Value.int .i64 z).toArray) }
/-- Untokens of Tokens. -/
theorem untoks_calls (w : World) (A : Option Addr) (c n : Nat) (t : List Int) (ht : Byt t) (hn : t.length ≤ 1048576) (T : List Tk) (hT : T = toks t) (h : TRow w A T) (hl : T.length = n) (hc : n ≤ c) :
    Calls Tryd.prog 5 #[.slice A n c] w fun e w' => ∃ A' c', e = .returned (.tuple #[.slice A' t.length c', .nilIface]) ∧ (Kd.int .u8).C w' A' t.length t ∧ Below w.heap.size w w' := by
  have h1 := untokens_calls w A c n (T.map toTi) h.cells (by rw [List.length_map]; exact hl) hc (by have := toks_len t; rw [← hT] at this; omega)
  rw [hT, unt_back t ht hn] at h1
  refine h1.mono ?_
  rintro e w' ⟨A', c', rfl, hC, _, hb⟩
  exact ⟨A', c', rfl, hC, hb⟩
/-- How many bytes the modes below i need. -/
def szs (l : List Int) (i j : Nat) : Nat := if j < i then (deflL l (j : Int)).length else 0
theorem deflL_case (t : List Int) (m : Int) : deflL t m = plainL t ∨ deflL t m = fixedL letters fixD t := by
  unfold deflL pkL
  split
  · exact .inl rfl
  · split
    · exact .inl rfl
    · exact .inr rfl
theorem fixedL_pos (t : List Int) : 0 < (fixedL letters fixD t).length := by
  rw [fixedL_len]
  have h := (hasA 256 (by decide)).2.2.1
  have : (fixB' letters fixD t).N = ((toks t).foldl (tokB letters fixD) ⟨3, 3⟩).N + (letters.getD 256 0).toNat := rfl
  omega
theorem deflL_len2 (l : List Int) (m : Int) (hb : Byt l) (hn : l.length ≤ 30000) : (deflL l m).length ≤ 1000000 := by
  rcases deflL_case l m with e | e
  · rw [e, plainL_len]; omega
  · rw [e, fixedL_len]
    have := fix_N l hb
    omega
theorem deflL_pos (t : List Int) (m : Int) : 0 < (deflL t m).length := by
  rcases deflL_case t m with e | e
  · rw [e, plainL_len]; omega
  · rw [e]; exact fixedL_pos t
theorem sizes_ok (l : List Int) (q : Nat) (hq : l.length = q) : (deflL l 2).length = min (deflL l 0).length (deflL l 1).length ∧ (deflL l 2).length ≤ q + q / 10 + 16 := by
  have e0 : deflL l 0 = plainL l := by unfold deflL pkL; rw [if_neg (fun k => by cases k.1), if_pos (by decide)]
  have e1 : deflL l 1 = fixedL letters fixD l := by unfold deflL pkL; rw [if_neg (fun k => by cases k.1), if_neg (by decide)]
  have e2 : deflL l 2 = if (plainL l).length < (fixedL letters fixD l).length then plainL l else fixedL letters fixD l := by
    unfold deflL pkL
    by_cases h : (plainL l).length < (fixedL letters fixD l).length
    · rw [if_pos ⟨rfl, h⟩, if_pos h]
    · rw [if_neg (fun k => h k.2), if_neg h, if_neg (by decide)]
  rw [e0, e1, e2]
  have hp := plainL_len l
  split
  · exact ⟨by omega, by omega⟩
  · exact ⟨by omega, by omega⟩
theorem infl_back (l : List Int) (m : Int) (q : Nat) (hq : l.length = q) (hb : Byt l) (hn : q ≤ 65535) : ∃ a st, infl (ofB (deflL l m)) (deflL l m).length (q : Int) = .ok () ⟨a, l, st⟩ ∧ (a + 7) / 8 = (deflL l m).length := by
  have h := infl_defl l [] m hb (fun z hz => by simp at hz) (by omega) (q : Int) (by omega)
  rw [if_neg (by omega), List.append_nil] at h
  unfold infl
  rw [if_neg (by omega)]
  exact h
set_option maxHeartbeats 4000000 in
theorem back_in (A : Option Addr) (n c : Nat) (t : List Int) (tm : Int) (W : World) (ho : Ord W) (hC : (Kd.int .u8).C W A n t) (hl : t.length = n) (hby : Byt t) (hc : n ≤ c) (hn : n ≤ 30000) (HA : Aside0 (Calls Tryd.prog 4 #[] W fun e w' => e = .returned (.bool true) ∧ Below W.heap.size W w')) :
    Calls Tryd.prog 3 #[.slice A n c, .int .i64 tm] W fun e w' => e = .returned (.bool true) ∧ Below W.heap.size W w' := by
  have HC := Aside0.mk (And.intro hC (And.intro hl (And.intro hby hc)))
  have HO := Aside0.mk ho
  have hn' : (n : Int) ≤ 30000 := by omega
  have HN := Aside0.mk hn
  clear hC hl hby ho hc hn
  go_enter Tryd.func3, Tryd.ntmps3
  go_upto_block 0 with (go_at_call 4; refine HA.out.mono ?_; rintro e w1 ⟨rfl, hb⟩; have HB1 := Aside0.mk hb; clear hb)
  have ht0 : 0 ≤ (IntKind.u64.wrap tm).tmod 40 ∧ (IntKind.u64.wrap tm).tmod 40 < 40 := by
    have h0 : 0 ≤ IntKind.u64.wrap tm := by rw [IntKind.wrap_u64]; omega
    rw [Int.tmod_eq_emod_of_nonneg h0]
    omega
  have hK0 : 1 ≤ wrap64 (1 + wrap64 ((IntKind.u64.wrap tm).tmod 40)) ∧ wrap64 (1 + wrap64 ((IntKind.u64.wrap tm).tmod 40)) ≤ 40 := by
    obtain ⟨h1, h2⟩ := ht0
    unfold wrap64
    omega
  generalize wrap64 (1 + wrap64 ((IntKind.u64.wrap tm).tmod 40)) = K at *
  generalize wrap64 ((IntKind.u64.wrap tm).tmod 40) = K1 at *
  generalize (IntKind.u64.wrap tm).tmod 40 = K2 at *
  generalize IntKind.u64.wrap tm = K3 at *
  clear ht0
  have hk40 : K ≤ 40 := hK0.2
  have HK0 := Aside0.mk hK0
  clear hK0
  have ho0 := own_lit w1 W.heap.size 5 .u8 [] HB1.out.size (by decide)
  have HO0 := Aside0.mk ho0
  have HB0 := Aside0.mk (below_alloc HB1.out (.cells #[] 5))
  clear ho0
  go_cut [5] (fun v5 wr => ∃ (l : List Int) (A5 : Option Addr) (c5 : Nat), v5 = .slice A5 l.length c5 ∧ Aside0 (wr.ownsRow W.heap.size 5 1 (.slice A5 l.length c5) l.length (nums .u8 l)) ∧ Aside0 (Below W.heap.size W wr) ∧ Aside0 (Byt l ∧ l.length ≤ 30000))
  case first =>
    go_wp2_with fail
    go_loopg [5, 22] K.toNat (fun kq v5 v22 wr => ∃ (l : List Int) (A5 : Option Addr) (c5 i : Nat), v5 = .slice A5 l.length c5 ∧ v22 = .int .i64 i ∧ (i : Int) ≤ K ∧ Aside0 (kq = K.toNat - i) ∧ Aside0 (wr.ownsRow W.heap.size 5 1 (.slice A5 l.length c5) l.length (nums .u8 l)) ∧ Aside0 (Below W.heap.size W wr) ∧ Aside0 (Byt l ∧ l.length ≤ 30000))
    case atStart => exact ⟨[], _, 0, 0, rfl, rfl, by have := HK0.out; omega, ⟨rfl⟩, HO0, HB0, ⟨fun z hz => by simp at hz, by simp⟩⟩
    case round =>
      obtain ⟨l, A5, c5, i, rfl, rfl, hi, HKm, HOr, HBr, HLr⟩ := hrel
      by_cases hlt : (i : Int) < K
      · obtain ⟨q, hq⟩ : ∃ q, q = l.length := ⟨_, rfl⟩
        have HQ := Aside0.mk hq
        rw [← hq]
        have hqb : (q : Int) ≤ 30000 := by have := HLr.out.2; omega
        clear hq
        by_cases hbr : (q : Int) + (n : Int) ≤ 30000
        · have HBd : Aside0 (q + n ≤ 30000) := ⟨by omega⟩
          go_wp2_with ((with_reducible refine gate_dst (N := 32) rfl ?_); refine print_append_row (w0 := W) W.heap.size rfl (.tmp 30) (.tmp 31) 22 5 .u8 1 rfl Tryd.underlying22 info_u8 (by decide) (.slice A5 q c5) l t A n c rfl rfl (by rw [HQ.out]; exact HOr.out) (reads_of_C (Kd.C_below HC.out.1 HBr.out)) HBr.out HBr.out.size (by rw [← HQ.out]; have := HBd.out; omega) ?_; intro v6 w6 ho6 hb6 hg6 hat6; clear hg6 hat6; generalize hP : l ++ t = P at ho6; have HP := Aside0.mk hP; clear hP; obtain ⟨A6, c6, rfl⟩ := own_slice ho6; have HO6 := Aside0.mk ho6; have HB6 := Aside0.mk hb6; clear ho6 hb6)
          go_roundg (gk - 1)
          case measure => have := HKm.out; omega
          case rel =>
            refine ⟨P, A6, c6, i + 1, rfl, by go_num, by omega, ⟨by have := HKm.out; omega⟩, HO6, HB6, ⟨?_, ?_⟩⟩
            · intro z hz
              rw [← HP.out] at hz
              rcases List.mem_append.1 hz with h | h
              · exact HLr.out.1 z h
              · exact HC.out.2.2.1 z h
            · rw [← HP.out, List.length_append]
              have := HC.out.2.1
              have := HQ.out
              have := HBd.out
              omega
        · have hbr' : 30000 < (q : Int) + (n : Int) := by omega
          clear hbr
          go_wp2_with fail
          go_meet
          case rel => exact ⟨l, A5, c5, by rw [← HQ.out], HOr, HBr, HLr⟩
      · have hni : ¬ ((i : Int) < K) := hlt
        go_wp2_with fail
        go_meet
        case rel => exact ⟨l, A5, c5, rfl, HOr, HBr, HLr⟩
  case rest =>
  obtain ⟨l, A5, c5, rfl, HO2, HB2, HL2⟩ := hcut
  clear HO0 HB0
  obtain ⟨A5', c5', e5, hc5, hC5⟩ := own_slice' HO2.out
  cases e5
  have hnil5 := own_cap HO2.out
  obtain ⟨q, hq⟩ : ∃ q, q = l.length := ⟨_, rfl⟩
  rw [← hq] at hC5 hc5 hnil5
  have HQ := Aside0.mk hq
  have HC5 := Aside0.mk (And.intro hC5 (And.intro hc5 hnil5))
  rw [← hq]
  have hqb : (q : Int) ≤ 30000 := by have := HL2.out.2; omega
  have HOc := Aside0.mk (HO.out.below HB2.out)
  clear hC5 hc5 hnil5 hq HO2
  have HTk := Aside0.mk (tokens_calls wc A5 c5 l q HC5.out.1 (by omega))
  have hTe : ∃ T, T = toks l := ⟨_, rfl⟩
  obtain ⟨T, hT⟩ := hTe
  rw [← hT] at HTk
  have HTe := Aside0.mk hT
  clear hT
  go_wp2_with fail
  refine HTk.out.mono ?_
  rintro e w2 ⟨vt, rfl, hot, hbt⟩
  obtain ⟨At, ct, rfl⟩ := own_slice hot
  have HUn := Aside0.mk (untoks_calls w2 At ct T.length l HL2.out.1 (by have := HL2.out.2; omega) T HTe.out (TRow.of_own hot) rfl (own_le hot))
  have HB3 := Aside0.mk hbt
  clear hot hbt HTk
  generalize T.length = m at *
  go_wp2_with fail
  refine HUn.out.mono ?_
  rintro e w3 ⟨Au, cu, rfl, hCu, hbu⟩
  rw [← HQ.out] at hCu ⊢
  have HB4 := Aside0.mk (HB3.out.trans (hbu.mono HB3.out.size))
  have HBy := Aside0.mk (bytes_yes Au A5 q q cu c5 l w3 hCu (Kd.C_below HC5.out.1 HB4.out))
  clear hCu hbu HUn HB3
  have u1 := Tryd.underlying26
  go_upto_block 2 with (go_at_call 7; refine HBy.out.mono ?_; rintro e w4 ⟨rfl, rfl⟩)
  have hg0 := alloc_self w3 (.cells #[.int .i64 0, .int .i64 0, .int .i64 0] 32)
  have hb0 := below_alloc (Below.refl w3.heap.size w3) (.cells #[.int .i64 0, .int .i64 0, .int .i64 0] 32)
  have HS4 := Aside0.mk hg0
  have HB5 := Aside0.mk (HB4.out.trans (hb0.mono HB4.out.size))
  have HB6 := Aside0.mk (HB2.out.trans (HB5.out.mono HB2.out.size))
  have HGs : Aside0 (wc.heap.size ≤ w3.heap.size ∧ W.heap.size ≤ w3.heap.size) := ⟨HB4.out.size, Nat.le_trans HB2.out.size HB4.out.size⟩
  clear hg0 hb0 HBy HB4
  generalize w3.alloc (.cells #[.int .i64 0, .int .i64 0, .int .i64 0] 32) = w4 at *
  generalize w3.heap.size = gs at *
  go_wp2_with fail
  go_loopg [51] 3 (fun kq v51 wr => ∃ i : Nat, v51 = .int .i64 i ∧ i ≤ 3 ∧ Aside0 (kq = 3 - i) ∧ Aside0 (Below wc.heap.size wc wr ∧ Below W.heap.size W wr) ∧ Aside0 (wr.heap[gs]? = some (.cells #[.int .i64 (szs l i 0 : Nat), .int .i64 (szs l i 1 : Nat), .int .i64 (szs l i 2 : Nat)] 32 (0, 0))))
  case atStart => exact ⟨0, rfl, by omega, ⟨rfl⟩, ⟨HB5.out, HB6.out⟩, HS4⟩
  case round =>
    obtain ⟨i, rfl, hi, HK, HBr, HSr⟩ := hrel
    obtain ⟨z, hz⟩ : ∃ z : Int, z = (i : Int) := ⟨_, rfl⟩
    rw [← hz]
    have HZ := Aside0.mk hz
    by_cases hlt : i < 3
    · have HDf := Aside0.mk (deflate_calls wr A5 q c5 l z (Kd.C_below HC5.out.1 HBr.out.1) HC5.out.2.1 HQ.out.symm HL2.out.1 (by have := HL2.out.2; have := HQ.out; omega))
      have hRn : (DefR l z).1 = none := by unfold DefR; rw [if_neg (by omega)]
      have HRn := Aside0.mk hRn
      have HIb := Aside0.mk (infl_back l z q HQ.out.symm HL2.out.1 (by have := HL2.out.2; have := HQ.out; omega))
      have hlt' : z < 3 := by omega
      have hz0 : 0 ≤ z := by omega
      have HLt := Aside0.mk hlt
      have hpos := deflL_pos l z
      have hD2 := deflL_len2 l z HL2.out.1 HL2.out.2
      obtain ⟨p, hp⟩ : ∃ p, p = (deflL l z).length := ⟨_, rfl⟩
      rw [← hp] at HIb hpos hD2
      have HP := Aside0.mk hp
      have HD2 := Aside0.mk (And.intro hpos hD2)
      clear hRn hlt hi hz hp hpos hD2
      go_wp2_with fail
      refine HDf.out.mono ?_
      rintro e w5 ⟨hb5, hd5⟩
      rw [← HP.out] at hd5
      obtain ⟨ce, hr, rfl⟩ | ⟨hr, A6, c6, rfl, hc6, hC6⟩ := hd5
      · rw [HRn.out] at hr; cases hr
      · have HB7 := Aside0.mk (HBr.out.1.trans (hb5.mono HBr.out.1.size))
        have HB8 := Aside0.mk (HBr.out.2.trans (hb5.mono HBr.out.2.size))
        have HS5 := Aside0.mk (blk_below HSr.out hb5)
        have hnil6 : A6 = none → p = 0 ∧ c6 = 0 := fun e => by
          obtain ⟨ad, e2, _⟩ := byte_at hC6 0 HD2.out.1
          rw [e] at e2; cases e2
        have HI := Aside0.mk (inflate_bytes w5 A6 p c6 (deflL l z) (q : Int) hC6 (fun x hx => by have := byt_deflL l z HL2.out.1 (by have := HL2.out.2; omega) x hx; simp [Lit.wf, IntKind.min, IntKind.max, IntKind.bits, IntKind.signed]; omega) HP.out.symm HD2.out.2 hnil6 (HOc.out.below HB7.out))
        have HC6 := Aside0.mk hC6
        have HCp := Aside0.mk hc6
        clear hb5 hr hc6 hC6 hnil6 HDf
        go_wp2_with fail
        refine HI.out.mono ?_
        rintro e w6 ⟨hb6, ⟨ce, hr, rfl⟩ | ⟨s, A7, c7, hr, rfl, hC7, _, hc7⟩⟩
        · obtain ⟨a, st, h1, _⟩ := HIb.out
          rw [h1] at hr; cases hr
        · obtain ⟨a, st, h1, hU⟩ := HIb.out
          rw [h1] at hr
          injection hr with _ hr
          subst hr
          dsimp only at hC7 hc7 ⊢
          rw [hU]
          rw [← HQ.out] at hC7 hc7 ⊢
          have HB9 := Aside0.mk (HB7.out.trans (hb6.mono HB7.out.size))
          have HB10 := Aside0.mk (HB8.out.trans (hb6.mono HB8.out.size))
          have HS6 := Aside0.mk (blk_below HS5.out hb6)
          have hb7 := below_alloc (Below.refl w6.heap.size w6) (.cells #[.slice A7 q c7, .int .i64 (p : Nat), .int .i64 st] 35)
          have hx7 := alloc_self w6 (.cells #[.slice A7 q c7, .int .i64 (p : Nat), .int .i64 st] 35)
          have HB11 := Aside0.mk hb7
          have HX7 := Aside0.mk hx7
          have HC7 := Aside0.mk (And.intro hC7 hc7)
          clear hb6 hC7 hc7 hb7 hx7 HI h1 hU
          go_upto_region 20 with fail
          generalize w6.alloc (.cells #[.slice A7 q c7, .int .i64 (p : Nat), .int .i64 st] 35) = w7 at *
          have HB12 := Aside0.mk (HB9.out.trans (HB11.out.mono HB9.out.size))
          have HB13 := Aside0.mk (HB10.out.trans (HB11.out.mono HB10.out.size))
          have HS7 := Aside0.mk (blk_below HS6.out HB11.out)
          have HBy := Aside0.mk (bytes_yes A7 A5 q q c7 c5 l w7 (Kd.C_below HC7.out.1 HB11.out) (Kd.C_below HC5.out.1 HB12.out))
          have p0 := blk_cell HX7.out 0
          have p1 := blk_cell HX7.out 1
          have p2 := blk_cell HX7.out 2
          have hpN : (p : Int) = (p : Int) := rfl
          go_upto_region 22 with (go_at_call 7; refine HBy.out.mono ?_; rintro e w8 ⟨rfl, rfl⟩)
          have hcase : (i = 0 ∧ z = 0) ∨ (i = 1 ∧ z = 1) ∨ (i = 2 ∧ z = 2) := by have := HLt.out; have := HZ.out; omega
          clear hlt' hz0
          obtain ⟨rfl, rfl⟩ | ⟨rfl, rfl⟩ | ⟨rfl, rfl⟩ := hcase
          · have q0 := blk_cell HS7.out 0
            have q1 := blk_cell HS7.out 1
            have q2 := blk_cell HS7.out 2
            have f0 := blk_frozen HS7.out 0
            have f1 := blk_frozen HS7.out 1
            have f2 := blk_frozen HS7.out 2
            go_wp2_with fail
            go_roundg (gk - 1)
            case measure => have := HK.out; omega
            case rel =>
              refine ⟨0 + 1, rfl, by omega, ⟨by have := HK.out; omega⟩, ⟨HB12.out.setCell HGs.out.1 _, HB13.out.setCell HGs.out.2 _⟩, ⟨?_⟩⟩
              have := blk_set HS7.out 0 (.int .i64 (p : Int))
              have hP := HP.out
              simp only [szs] at this ⊢
              simpa [← hP] using this
          · have q0 := blk_cell HS7.out 0
            have q1 := blk_cell HS7.out 1
            have q2 := blk_cell HS7.out 2
            have f0 := blk_frozen HS7.out 0
            have f1 := blk_frozen HS7.out 1
            have f2 := blk_frozen HS7.out 2
            go_wp2_with fail
            go_roundg (gk - 1)
            case measure => have := HK.out; omega
            case rel =>
              refine ⟨1 + 1, rfl, by omega, ⟨by have := HK.out; omega⟩, ⟨HB12.out.setCell HGs.out.1 _, HB13.out.setCell HGs.out.2 _⟩, ⟨?_⟩⟩
              have := blk_set HS7.out 1 (.int .i64 (p : Int))
              have hP := HP.out
              simp only [szs] at this ⊢
              simpa [← hP] using this
          · have q0 := blk_cell HS7.out 0
            have q1 := blk_cell HS7.out 1
            have q2 := blk_cell HS7.out 2
            have f0 := blk_frozen HS7.out 0
            have f1 := blk_frozen HS7.out 1
            have f2 := blk_frozen HS7.out 2
            go_wp2_with fail
            go_roundg (gk - 1)
            case measure => have := HK.out; omega
            case rel =>
              refine ⟨2 + 1, rfl, by omega, ⟨by have := HK.out; omega⟩, ⟨HB12.out.setCell HGs.out.1 _, HB13.out.setCell HGs.out.2 _⟩, ⟨?_⟩⟩
              have := blk_set HS7.out 2 (.int .i64 (p : Int))
              have hP := HP.out
              simp only [szs] at this ⊢
              simpa [← hP] using this
    · obtain rfl : i = 3 := by omega
      have hz3 : z = 3 := by omega
      clear hz HZ hlt hi
      subst hz3
      have hS := HSr.out
      have e0 : szs l 3 0 = (deflL l 0).length := rfl
      have e1 : szs l 3 1 = (deflL l 1).length := rfl
      have e2 : szs l 3 2 = (deflL l 2).length := rfl
      rw [e0, e1, e2] at hS
      have hok := sizes_ok l q HQ.out.symm
      generalize (deflL l 0).length = d0 at hS hok
      generalize (deflL l 1).length = d1 at hS hok
      generalize (deflL l 2).length = d2 at hS hok
      have q0 := blk_cell hS 0
      have q1 := blk_cell hS 1
      have q2 := blk_cell hS 2
      have hmin : (d2 : Int) = min (d0 : Int) (d1 : Int) := by have := hok.1; omega
      have hle : (d2 : Int) ≤ (q : Int) + (q : Int) / 10 + 16 := by have := hok.2; omega
      have HBd := Aside0.mk (fun w => bound_calls w q (by omega))
      have HWr := Aside0.mk HBr.out.2
      clear hS hok e0 e1 e2 HSr HBr HK
      go_upto_region 24 with fail
      go_quiet ((go_at_call 10; exact Calls.quiet_of (HBd.out _)))
      rw [decide_eq_true (by rw [← hmin]; exact hle)]
      go_wp2_with fail
      go_ret
      exact ⟨rfl, HWr.out.trans ⟨rfl, rfl, rfl, Nat.le_refl _, fun _ _ => rfl⟩⟩
set_option maxHeartbeats 1000000 in
theorem back_big (A : Option Addr) (n c : Nat) (tm : Int) (W : World) (hn : 30000 < n) (hn2 : n * 1 ≤ 140737488351232) (HA : Aside0 (Calls Tryd.prog 4 #[] W fun e w' => e = .returned (.bool true) ∧ Below W.heap.size W w')) :
    Calls Tryd.prog 3 #[.slice A n c, .int .i64 tm] W fun e w' => e = .returned (.bool true) ∧ Below W.heap.size W w' := by
  have hn' : 30000 < (n : Int) := by omega
  have hn3 : (n : Int) ≤ 140737488351232 := by omega
  clear hn hn2
  go_enter Tryd.func3, Tryd.ntmps3
  go_upto_block 0 with (go_at_call 4; refine HA.out.mono ?_; rintro e w1 ⟨rfl, hb⟩; have HB1 := Aside0.mk hb; clear hb)
  have HB0 := Aside0.mk (below_alloc HB1.out (.cells #[] 5))
  have ht0 : 0 ≤ (IntKind.u64.wrap tm).tmod 40 ∧ (IntKind.u64.wrap tm).tmod 40 < 40 := by
    have h0 : 0 ≤ IntKind.u64.wrap tm := by rw [IntKind.wrap_u64]; omega
    rw [Int.tmod_eq_emod_of_nonneg h0]
    omega
  have hK0 : 0 < wrap64 (1 + wrap64 ((IntKind.u64.wrap tm).tmod 40)) := by
    obtain ⟨h1, h2⟩ := ht0
    unfold wrap64
    omega
  generalize wrap64 (1 + wrap64 ((IntKind.u64.wrap tm).tmod 40)) = K at *
  generalize wrap64 ((IntKind.u64.wrap tm).tmod 40) = K1 at *
  generalize (IntKind.u64.wrap tm).tmod 40 = K2 at *
  generalize IntKind.u64.wrap tm = K3 at *
  clear ht0
  generalize w1.alloc (.cells #[] 5) = w2 at *
  go_wp2_with fail
  go_loopg [5, 22] 0 (fun kq v5 v22 wr => v5 = .slice (some ⟨w1.heap.size, 0, none⟩) 0 0 ∧ v22 = .int .i64 0 ∧ Aside0 (kq = 0) ∧ wr = w2)
  case atStart => exact ⟨rfl, rfl, ⟨rfl⟩, rfl⟩
  case round =>
    obtain ⟨rfl, rfl, _, rfl⟩ := hrel
    go_wp2_with fail
    go_ret
    exact ⟨rfl, HB0.out⟩
theorem back_walk (A : Option Addr) (n c : Nat) (zs : List Int) (tm : Int) (W : World) (hz : IsRow .u8 W A n c zs) (hn2 : n * 1 ≤ 140737488351232) (wm : (Lit.int .i64 tm).wf = true) (hL : laidMetH Tryd.prog Rows.deflateBackRow.laid W) :
    Calls Tryd.prog 3 #[.slice A n c, .int .i64 tm] W fun e w' => e = .returned (.bool true) ∧ Below W.heap.size W w' := by
  have ho := ord_of_laid hL
  have HAl := Aside0.mk (alive_calls W)
  obtain ⟨l, hl, hlc, hC, hwf⟩ := row_C hz
  by_cases h : 30000 < n
  · exact back_big A n c tm W h hn2 HAl
  · exact back_in A n c l tm W ho (hl ▸ hC) hl (fun x hx => wf_u8 (hwf x hx)) hlc (by omega) HAl
end Go.Proofs.YtiaiopdiooobiaaDoor.My
