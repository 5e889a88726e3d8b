/- MyBounds: laid into one text by merge.py. -/
import Derived.Test.YtdphifihneccoaaDoorMyAllI

/- InflateBounds: no more bytes are put out than the limit tells, and how many steps there are at most. -/
namespace Go.Proofs.YtdphifihneccoaaDoor.My
open Go.RowKit Go.Proofs.YtdphifihneccoaaDoor.Inf Go.Proofs.YtdphifihneccoaaDoor.Huf Go.Proofs.YtdphifihneccoaaDoorW.PrintWords Go.Proofs.YtdphifihneccoaaDoorW.PrintLast Go.Proofs.YtdphifihneccoaaDoorW.PrintMore
set_option maxRecDepth 100000
set_option linter.unusedVariables false
set_option linter.unusedSimpArgs false
theorem infl_facts {V lb : Nat} {lim : Int} {s : St} {u : Unit} (h : infl V lb lim = .ok u s) : (s.out.length : Int) ≤ lim ∧ (s.a + 7) / 8 ≤ lb ∧ 0 < (s.a + 7) / 8 ∧ s.st ≤ 8 * ((s.a + 7) / 8) ∧ 0 ≤ lim ∧ lim ≤ 1048576 := by
  unfold infl at h
  split at h
  · cases h
  · obtain ⟨g, hlt⟩ := blocks_gd _ _ _ _ h
    have h1 := g.st (Nat.le_refl _)
    have h2 := g.out (by simp; omega)
    have h3 := g.top (Nat.zero_le _)
    dsimp only at hlt
    omega
set_option maxHeartbeats 1000000 in
theorem bounds_walk (A : Option Addr) (n c : Nat) (zs : List Int) (lim : Int) (W : World) (hz : IsRow .u8 W A n c zs) (_ : n * 1 ≤ 140737488351232) (wl : (Lit.int .i64 lim).wf = true) (hL : laidMetH Tryd.prog Rows.inflateBoundsRow.laid W) :
    Calls Tryd.prog 4 #[.slice A n c, .int .i64 lim] W fun e w' => e = .returned (.bool true) ∧ Below W.heap.size W w' := by
  have ho := ord_of_laid hL
  have HAl := Aside0.mk (alive_calls W ho)
  obtain ⟨l, hl, hlc, hC, hwf⟩ := row_C hz
  have hnil : A = none → n = 0 ∧ c = 0 := fun e => by
    rcases hz with ⟨_, h2, h3, _⟩ | ⟨x, h2, _⟩
    · exact ⟨h2, h3⟩
    · rw [e] at h2; cases h2
  by_cases h2000 : 2000 < n
  · have h1 : (2000 : Int) < (n : Int) := by omega
    clear hz hL ho hC hwf hnil hl
    go_enter Tryd.func4, Tryd.ntmps4
    go_wp2_with (go_at_call 7; refine HAl.out.mono ?_; rintro e w1 ⟨rfl, hb⟩; replace hb := Aside0.mk hb)
    go_ret
    exact ⟨rfl, hb.out⟩
  have h1 : ¬ (2000 : Int) < (n : Int) := by omega
  have HI := Aside0.mk (fun (w1 : World) (hb : Below W.heap.size W w1) => inflate_bytes w1 A n c l lim (by have := Kd.C_below hC hb; rwa [hl] at this) hwf hl (by omega) hnil (ho.below hb))
  have hn : (n : Int) ≤ 2000 := by omega
  clear hz hL ho hC hwf hnil hl h2000 hlc
  go_enter Tryd.func4, Tryd.ntmps4
  go_wp2_with (go_at_call 7; refine HAl.out.mono ?_; rintro e w1 ⟨rfl, hb⟩; have HB1 := Aside0.mk hb; clear hb)
  refine (HI.out w1 HB1.out).mono ?_
  rintro e w2 ⟨hb, ⟨ce, hr, rfl⟩ | ⟨s, A1, c1, hr, rfl, hC, _, hc⟩⟩
  · have HB2 := Aside0.mk (HB1.out.trans (Below.mono hb HB1.out.size))
    clear hb hr
    unfold errV
    go_wp2_with fail
    go_ret
    exact ⟨rfl, below_alloc HB2.out _⟩
  · have HB2 := Aside0.mk (HB1.out.trans (Below.mono hb HB1.out.size))
    obtain ⟨f1, f2, f3, f4, f5, f6⟩ := infl_facts hr
    generalize (s.a + 7) / 8 = U at *
    generalize s.out.length = L at *
    generalize s.st = T at *
    have g1 : (U : Int) ≤ (n : Int) := by omega
    have g2 : (0 : Int) < (U : Int) := by omega
    have g3 : (T : Int) ≤ 8 * (U : Int) + 1 := by omega
    clear hb hr hC hc
    go_wp2_with fail
    go_ret
    exact ⟨rfl, below_alloc HB2.out _⟩
end Go.Proofs.YtdphifihneccoaaDoor.My
