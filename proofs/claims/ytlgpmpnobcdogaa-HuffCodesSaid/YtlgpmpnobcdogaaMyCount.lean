/- The walks of huff.Code's count and number. -/
import Derived.Test.YtlgpmpnobcdogaaMyCod
import Derived.Test.YtlgpmpnobcdogaaMyHuffP
namespace Go.Proofs.Ytlgpmpnobcdogaa.My
open Go.RowKit Go.Proofs.Ytlgpmpnobcdogaa.Huf Go.Proofs.YtlgpmpnobcdogaaW.PrintWords Go.Proofs.YtlgpmpnobcdogaaW.PrintLast Go.Proofs.YtlgpmpnobcdogaaW.PrintMore
set_option linter.unusedVariables false
set_option linter.unusedSimpArgs false

theorem add_block (ad : Addr) (i : Nat) : (ad.add i).block = ad.block := by unfold Addr.add; split <;> rfl
theorem num_at {w : World} {A : Option Addr} {n : Nat} {t : List Int} (h : (Kd.int .i64).C w A n t) (i : Nat) (hi : i < n) : ∃ ad, A = some ad ∧ w.cell? (ad.add i) = some (.int .i64 (t.getD i 0)) := by
  obtain ⟨ad, e, hc⟩ := Kd.at_int h (i : Int) (by omega) (by omega)
  rw [Int.toNat_natCast] at hc
  exact ⟨ad, e, by simpa [rd] using hc⟩
theorem all_take (L : List Int) (i : Nat) (x : Int) (h : L[i]? = some x) (hb : ¬ (0 ≤ x ∧ x ≤ 15)) : okL L = false := by
  unfold okL
  rw [List.all_eq_false]
  exact ⟨x, List.mem_of_getElem? h, by simpa using hb⟩
theorem all_true (L : List Int) (h : ∀ (i : Nat) (x : Int), L[i]? = some x → 0 ≤ x ∧ x ≤ 15) : okL L = true := by
  unfold okL
  rw [List.all_eq_true]
  intro x hx
  obtain ⟨i, hi⟩ := List.getElem?_of_mem hx
  exact decide_eq_true (h i x hi)
theorem getD_some (L : List Int) (i : Nat) (h : i < L.length) : L[i]? = some (L.getD i 0) := by rw [List.getD_eq_getElem?_getD, List.getElem?_eq_getElem h]; rfl
set_option maxHeartbeats 1000000 in
set_option maxRecDepth 100000 in
theorem count_calls (w : World) (g : Nat) (A : Option Addr) (n c : Nat) (L F B : List Int) (v4 v5 : Value) (k : Cod w g (.slice A n c) F (tab fun _ => 0) B v4 v5) (hL : (Kd.int .i64).C w A n L) (hne : ∀ ad, A = some ad → ad.block ≠ g) (hn : n ≤ 1000000) :
    Calls Try.prog 29 #[.pointer (some ⟨g, 0, none⟩)] w fun e w' => e = .returned (.bool (okL L)) ∧ w.grownBy w' (some g) ∧ (okL L = true → Cod w' g (.slice A n c) F (tab fun j => (c0 L j : Int)) B v4 v5) := by
  have c0 := k.c0
  have hl : L.length = n := hL.1
  have h3 : (n : Int) ≤ 1000000 := by omega
  have HL := Aside0.mk hL
  have HK0 := Aside0.mk k
  have HNe := Aside0.mk hne
  have HLn := Aside0.mk hl
  clear k hL hne hl hn
  go_enter Try.func29, Try.ntmps29
  go_wp2_with fail
  go_loopg [10] n (fun kq v10 wr => ∃ i : Nat, v10 = .int .i64 i ∧ i ≤ n ∧ Aside0 (kq = n - i) ∧ Aside0 (Cod wr g (.slice A n c) F (tab fun j => (cn (L.take i) j : Int)) B v4 v5) ∧ Aside0 (w.grownBy wr (some g)) ∧ Aside0 (∀ j, j < i → 0 ≤ L.getD j 0 ∧ L.getD j 0 ≤ 15))
  case atStart => exact ⟨0, rfl, Nat.zero_le _, ⟨rfl⟩, ⟨by simpa [cn] using HK0.out⟩, ⟨grown_refl _ _⟩, ⟨fun j hj => absurd hj (Nat.not_lt_zero _)⟩⟩
  case round =>
    obtain ⟨i, rfl, hi, HK, HC, HG, HO⟩ := hrel
    by_cases hlt : i < n
    · have hlt' : (i : Int) < (n : Int) := by omega
      obtain ⟨ad, rfl, hci⟩ := num_at HL.out i hlt
      have hci2 : wr.cell? (ad.add i) = some (.int .i64 (L.getD i 0)) := HG.out.cell hci (by rw [add_block]; simpa using fun e => HNe.out ad rfl e)
      have hx := getD_some L i (by rw [HLn.out]; exact hlt)
      generalize hxx : L.getD i 0 = x at hci hci2 hx
      have HX := Aside0.mk hx
      have HXX := Aside0.mk hxx
      clear hx hxx hci
      by_cases hb : 0 ≤ x ∧ x ≤ 15
      · obtain ⟨m, rfl⟩ := Int.eq_ofNat_of_zero_le hb.1
        have hm : (m : Int) ≤ 15 := hb.2
        have cm := HC.out.cm m (by omega)
        rw [tab_get _ m (by omega)] at cm
        have fm := HC.out.fz (18 + m)
        have HS := Aside0.mk (HC.out.sm m (by omega) ((cn (L.take i) m : Int) + 1))
        have HG1 := Aside0.mk (grown_trans HG.out (grown_set wr g (18 + m) (.int .i64 ((cn (L.take i) m : Int) + 1))))
        have hle : (cn (L.take i) m : Int) ≤ 1000000 := by
          have := cn_le (L.take i) m
          have h2 : (L.take i).length ≤ i := by rw [List.length_take]; omega
          omega
        generalize hq : cn (L.take i) m = q at *
        have HQ := Aside0.mk hq
        clear hq
        go_wp2_with fail
        go_region
        all_goals
          go_wp2_with fail
          have e1 : ((i : Int) + 1) = ((i + 1 : Nat) : Int) := by omega
          rw [e1]
          go_roundg (n - (i + 1))
          case measure => have := HK.out; omega
          case rel =>
            refine ⟨i + 1, rfl, by omega, ⟨rfl⟩, ⟨?_⟩, ⟨?_⟩, ⟨?_⟩⟩
            · have := HS.out
              rw [tab_set _ (fun j => (cn (L.take (i + 1)) j : Int)) m _ (by omega) (by rw [cn_take L i m _ HX.out, if_pos rfl, HQ.out]; simp) (fun k hk _ => by rw [cn_take L i k _ HX.out, if_neg (by omega)]; simp)] at this
              first | exact this.drewN 1 | exact this
            · first | exact grown_drewN HG1.out 1 | exact HG1.out
            · intro j hj
              rcases Nat.lt_or_ge j i with h | h
              · exact HO.out j h
              · obtain rfl : j = i := by omega
                rw [HXX.out]; omega
      · have HB := Aside0.mk (all_take L i x HX.out hb)
        rcases Int.lt_or_le x 0 with h0 | h0
        · clear hb
          go_wp2_with fail
          go_ret
          exact ⟨by rw [HB.out]; rfl, HG.out, fun h => by rw [HB.out] at h; cases h⟩
        · have h1 : 15 < x := by omega
          clear hb
          go_wp2_with fail
          go_ret
          exact ⟨by rw [HB.out]; rfl, HG.out, fun h => by rw [HB.out] at h; cases h⟩
    · have hlt' : ¬ (i : Int) < (n : Int) := by omega
      have HOK : Aside0 (okL L = true) := ⟨all_true L (fun j x hx => by
        have hj := (List.getElem?_eq_some_iff.1 hx).1
        have := HO.out j (by rw [HLn.out] at hj; omega)
        rw [List.getD_eq_getElem?_getD, hx] at this
        exact this)⟩
      have cm := HC.out.cm 0 (by omega)
      have fm := HC.out.fz 18
      have HS := Aside0.mk (HC.out.sm 0 (by omega) 0)
      have HG1 := Aside0.mk (grown_trans HG.out (grown_set wr g 18 (.int .i64 0)))
      rw [Nat.add_zero] at cm
      go_wp2_with fail
      go_ret
      refine ⟨by rw [HOK.out]; rfl, HG1.out, fun _ => ?_⟩
      have := HS.out
      rw [tab_set _ (fun j => (Huf.c0 L j : Int)) 0 _ (by omega) (by simp [Huf.c0]) (fun k hk _ => by rw [List.take_of_length_le (by rw [HLn.out]; omega)]; simp [Huf.c0, hk])] at this
      exact this
end Go.Proofs.Ytlgpmpnobcdogaa.My
