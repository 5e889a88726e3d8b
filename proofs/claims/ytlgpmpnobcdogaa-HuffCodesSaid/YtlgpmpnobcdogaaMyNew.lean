/- The walk of huff.New. -/
import Derived.Test.YtlgpmpnobcdogaaMyCodeAt
namespace Go.Proofs.Ytlgpmpnobcdogaa.My
open Go.RowKit Go.Proofs.Ytlgpmpnobcdogaa.Huf Go.Proofs.YtlgpmpnobcdogaaW.PrintWords Go.Proofs.YtlgpmpnobcdogaaW.PrintLast Go.Proofs.YtlgpmpnobcdogaaW.PrintMore
set_option linter.unusedVariables false
set_option linter.unusedSimpArgs false

theorem alloc_size (w : World) (o : Obj) : (w.alloc o).heap.size = w.heap.size + 1 := Array.size_push _
theorem upto_one (h : Nat → Nat) (h0 : h 0 = 0) : upto h 1 = tab fun _ => 0 := tab_eq fun k hk => by
  split
  · have : k = 0 := by omega
    subst this; rw [h0]; rfl
  · rfl
theorem cod_new (w : World) (v : Value) (L : List Int) (cs : Array Value) (e : cs = (codCells v (tab fun _ => 0) (tab fun _ => 0) (tab fun _ => 0) (.slice none 0 0) (.slice none 0 0)).toArray) :
    Cod (w.alloc (.cells cs 64)) w.heap.size v (upto (fst L) 1) (tab fun _ => 0) (upto (beg L) 1) (.slice none 0 0) (.slice none 0 0) := by
  rw [upto_one _ rfl, upto_one _ rfl]
  refine ⟨?_, tab_len _, tab_len _, tab_len _⟩
  subst e
  exact alloc_self _ _
set_option maxHeartbeats 2000000 in
set_option maxRecDepth 100000 in
theorem new_calls (w : World) (A : Option Addr) (n c : Nat) (L : List Int) (lone : Bool) (hL : (Kd.int .i64).C w A n L) (hn : n ≤ 1000000) (hl : L.length = n) (hcap : A = none → n = 0 ∧ c = 0) :
    Calls Try.prog 8 #[.slice A n c, .bool lone] w fun e w' => ∃ v, e = .returned (.tuple #[v, errV (newR L lone)]) ∧ Below w.heap.size w w' ∧ (newR L lone ≠ none → v = .pointer none) ∧
      (newR L lone = none → ∃ g, v = .pointer (some ⟨g, 0, none⟩) ∧ CodeAt w' w.heap.size w'.heap.size g L) := by
  have HC := Aside0.mk (cloneI_calls A n c L w hL (by omega) hl hcap)
  have h3 : (n : Int) ≤ 1000000 := by omega
  have HLn := Aside0.mk hl
  clear hL hcap hl hn
  go_enter Try.func8, Try.ntmps8
  go_wp2_with fail
  refine (HC.out).mono ?_
  rintro e w1 ⟨v', rfl, hown, hb1⟩
  have hlt := own_lt hown
  have hge := own_base hown
  obtain ⟨A', c', rfl, _, hC'⟩ := own_slice' hown
  have hR : RB w1 w.heap.size w1.heap.size A' L.length L := ⟨hC', fun ad e => by subst e; exact ⟨hge ad.block rfl, hlt ad.block rfl⟩⟩
  have HR := Aside0.mk hR
  have HB1 := Aside0.mk hb1
  clear hown hlt hge hC' hR hb1
  by_cases h320 : (320 : Int) < (n : Int)
  · have hnew : Aside0 (newR L lone = some 3) := ⟨by unfold newR; rw [if_pos (by have := HLn.out; omega)]⟩
    go_wp2_with fail
    go_ret2
    refine ⟨_, by rw [hnew.out]; rfl, below_alloc HB1.out _, fun _ => rfl, fun h => ?_⟩
    rw [hnew.out] at h; cases h
  · go_wp2_with fail
    refine (count_calls _ w1.heap.size A' L.length c' L (upto (fst L) 1) (upto (beg L) 1) (.slice none 0 0) (.slice none 0 0) (cod_new w1 _ L _ rfl) (HR.out.grown (grown_below (below_alloc (Below.refl _ _) _) none) (fun r e => by cases e)).c (fun ad e => by have := HR.out.b ad e; omega) (by have := HLn.out; omega)).mono ?_
    rintro e w3 ⟨rfl, hg3, hk3⟩
    have HB3 := Aside0.mk (below_grown (below_alloc HB1.out _) hg3 (by have := HB1.out.size; rw [alloc_size]; omega) HB1.out.size)
    have HR3 := Aside0.mk ((HR.out.grown (grown_below (below_alloc (Below.refl _ _) _) none) (fun r e => by cases e)).grown hg3 (fun r e => by cases e; right; exact Nat.le_refl _))
    have hsz : w1.heap.size < w3.heap.size := by have := hg3.size; rw [alloc_size] at this; omega
    have HSZ := Aside0.mk hsz
    have HK3 := Aside0.mk hk3
    clear hg3 hk3 hsz
    have HGE := Aside0.mk HB1.out.size
    generalize hG : w1.heap.size = g at *
    clear hG HB1
    by_cases hok : okL L = true
    · rw [hok]
      have HK4 := Aside0.mk (HK3.out hok)
      have hnb : numR L < 9223372036854775807 := by unfold numR; split <;> omega
      have hnb2 : -9223372036854775807 < numR L := by
        unfold numR
        split
        · omega
        · next hov =>
          have h1 := fst_le L 15 (fun j h1 h2 => over_all L 15 1 (by simpa using hov) j h1 (by omega))
          have h2 := cn_le L 15
          have h3 := HLn.out
          omega
      go_wp2_with fail
      refine (number_calls w3 g _ L _ _ HK4.out (by have := HLn.out; omega)).mono ?_
      rintro e w4 ⟨rfl, hg4, hk4⟩
      have HB4 := Aside0.mk (below_grown HB3.out hg4 HB3.out.size HGE.out)
      have HR4 := Aside0.mk (HR3.out.grown hg4 (fun r e => by cases e; right; exact Nat.le_refl _))
      have HSZ4 := Aside0.mk (Nat.lt_of_lt_of_le HSZ.out hg4.size)
      have HK5 := Aside0.mk hk4
      have hr : Aside0 (numR L = if anyOver L 15 1 then -1 else 32768 - ((fst L 15 + cn L 15 : Nat) : Int)) := ⟨rfl⟩
      clear hg4 hk4
      by_cases hneg : numR L < 0
      · have hnew : Aside0 (newR L lone = some 14) := ⟨by unfold newR; rw [if_neg (by have := HLn.out; omega), if_neg (by rw [hok]; decide), if_pos hneg]⟩
        generalize numR L = q at *
        go_wp2_with fail
        go_ret2
        refine ⟨_, by rw [hnew.out]; rfl, HB4.out, fun _ => rfl, fun h => ?_⟩
        rw [hnew.out] at h; cases h
      · have hov : Aside0 (anyOver L 15 1 = false) := ⟨by
          have h1 := hr.out
          cases h2 : anyOver L 15 1
          · rfl
          · rw [h2] at h1; simp at h1; omega⟩
        have HK6 := Aside0.mk (HK5.out hov.out)
        have hnew : Aside0 (newR L lone = if 0 < numR L ∧ ¬ (lone = true ∧ aloneL L = true) then some 2 else none) := ⟨by unfold newR; rw [if_neg (by have := HLn.out; omega), if_neg (by rw [hok]; decide), if_neg hneg]⟩
        generalize numR L = q at *
        go_wp2_with fail
        refine (sort_calls w4 g A' L.length c' L _ _ HK6.out HR4.out.c (fun ad e => by have := HR4.out.b ad e; omega) (by have := HLn.out; omega) hok hov.out).mono ?_
        rintro e w5 ⟨rfl, hg5, b1, b2, S, hb1, hb2, hb12, hk5, hr1, hS, hr2⟩
        have hb5 := below_grown HB4.out hg5 HB4.out.size HGE.out
        have hr5 := (HR4.out.grown hg5 (fun r e => by cases e; right; exact Nat.le_refl _))
        have hle : (beg L 16) ≤ 1000000 := by have := beg_all L hok 16; have := HLn.out; omega
        have hll : L.length ≤ 1000000 := by have := HLn.out; omega
        have hsz4 := HSZ4.out
        have hsz4b := HB4.out.size
        have hge := HGE.out
        have hca : CodeAt w5 w.heap.size w5.heap.size g L := ⟨A', _, _, c', _, _, S, hk5, hr5.mono (Nat.le_refl _) (by have := hg5.size; omega),
          ⟨by have := hr1.reads (by rw [hS.1]; omega); rw [hS.1] at this; exact this, fun ad e => by cases e; exact ⟨by show _ ≤ b1; omega, hr1.lt⟩⟩,
          ⟨by have := hr2.reads (by rw [nmL_len]; omega); rw [nmL_len] at this; exact this, fun ad e => by cases e; exact ⟨by show _ ≤ b2; omega, hr2.lt⟩⟩, hS, hge, by have := hg5.size; omega⟩
        have HCA := Aside0.mk hca
        have HB5 := Aside0.mk hb5
        clear hg5 hk5 hr1 hS hr2 hb5 hr5 hle hll hsz4 hsz4b hge hca hb1 hb2 hb12
        by_cases hpos : 0 < q
        · cases lone with
          | false =>
            have hn2 : Aside0 (newR L false = some 2) := ⟨by rw [hnew.out, if_pos ⟨hpos, by simp⟩]⟩
            go_wp2_with fail
            go_ret2
            refine ⟨_, by rw [hn2.out]; rfl, HB5.out, fun _ => rfl, fun h => ?_⟩
            rw [hn2.out] at h; cases h
          | true =>
            go_wp2_with fail
            refine (alone_calls w5 _ _ g L HCA.out (by have := HLn.out; omega) hok).mono ?_
            rintro e w6 ⟨rfl, rfl⟩
            cases hal : aloneL L with
            | true =>
              have hn2 : Aside0 (newR L true = none) := ⟨by rw [hnew.out, if_neg (by rw [hal]; simp)]⟩
              go_wp2_with fail
              go_ret2
              exact ⟨_, by rw [hn2.out]; rfl, HB5.out, fun h => absurd hn2.out h, fun _ => ⟨g, rfl, HCA.out⟩⟩
            | false =>
              have hn2 : Aside0 (newR L true = some 2) := ⟨by rw [hnew.out, if_pos ⟨hpos, by rw [hal]; simp⟩]⟩
              go_wp2_with fail
              go_ret2
              refine ⟨_, by rw [hn2.out]; rfl, HB5.out, fun _ => rfl, fun h => ?_⟩
              rw [hn2.out] at h; cases h
        · have hn2 : Aside0 (newR L lone = none) := ⟨by rw [hnew.out, if_neg (by omega)]⟩
          go_wp2_with fail
          go_ret2
          exact ⟨_, by rw [hn2.out]; rfl, HB5.out, fun h => absurd hn2.out h, fun _ => ⟨g, rfl, HCA.out⟩⟩
    · have hok' : okL L = false := by simpa using hok
      rw [hok']
      have hnew : Aside0 (newR L lone = some 1) := ⟨by unfold newR; rw [if_neg (by have := HLn.out; omega), if_pos hok']⟩
      go_wp2_with fail
      go_ret2
      refine ⟨_, by rw [hnew.out]; rfl, HB3.out, fun _ => rfl, fun h => ?_⟩
      rw [hnew.out] at h; cases h
end Go.Proofs.Ytlgpmpnobcdogaa.My
