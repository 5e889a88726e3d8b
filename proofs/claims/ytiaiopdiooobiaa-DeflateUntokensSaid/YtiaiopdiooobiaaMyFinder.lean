/- The walks of deflate's finder. -/
import Derived.Test.YtiaiopdiooobiaaMyTokP
import Derived.Test.YtiaiopdiooobiaaMyCut
import Derived.RegionTactic
import Derived.Deep.RegionLaw
namespace Go.Proofs.Ytiaiopdiooobiaa.My
open Go.RowKit Go.Proofs.YtiaiopdiooobiaaW.PrintWords Go.Proofs.YtiaiopdiooobiaaW.PrintLast Go.Proofs.YtiaiopdiooobiaaW.PrintMore
set_option linter.unusedVariables false
set_option linter.unusedSimpArgs false

/-- A finder at a block: its text, of each hash the last place, of each place the one ahead. -/
structure Fnd (w : World) (B g gb : Nat) (A : Option Addr) (c : Nat) (t last back : List Int) : Prop where
  blk : w.heap[g]? = some (.cells (.slice A t.length c :: (nums .i64 last ++ [.slice (some ⟨gb, 0, none⟩) t.length t.length])).toArray 50 (0, 0))
  len : last.length = 4096
  txt : (Kd.int .u8).C w A t.length t
  row : w.ownsRow B 3 1 (.slice (some ⟨gb, 0, none⟩) t.length t.length) t.length (nums .i64 back)
  bg : B ≤ g
theorem Fnd.c0 {w : World} {B g gb : Nat} {A : Option Addr} {c : Nat} {t last back : List Int} (k : Fnd w B g gb A c t last back) : w.cell? ⟨g, 0, none⟩ = some (.slice A t.length c) := by
  rw [blk_cell k.blk]; rfl
theorem Fnd.cl {w : World} {B g gb : Nat} {A : Option Addr} {c : Nat} {t last back : List Int} (k : Fnd w B g gb A c t last back) (h : Nat) (hh : h < 4096) : w.cell? ⟨g, 1 + h, none⟩ = some (.int .i64 (last.getD h 0)) := by
  have hl := k.len
  rw [blk_cell k.blk, Nat.add_comm 1 h]
  simp only [List.getElem?_toArray, List.getElem?_cons_succ]
  rw [List.getElem?_append_left (by rw [nums_length]; omega)]
  simp [nums, List.getD_eq_getElem?_getD, List.getElem?_eq_getElem (show h < last.length by omega)]
theorem Fnd.cb {w : World} {B g gb : Nat} {A : Option Addr} {c : Nat} {t last back : List Int} (k : Fnd w B g gb A c t last back) : w.cell? ⟨g, 4097, none⟩ = some (.slice (some ⟨gb, 0, none⟩) t.length t.length) := by
  have hl := k.len
  rw [blk_cell k.blk]
  simp only [List.getElem?_toArray, List.getElem?_cons_succ]
  rw [List.getElem?_append_right (by rw [nums_length]; omega), nums_length, hl]
  rfl
theorem Fnd.drewN {w : World} {B g gb : Nat} {A : Option Addr} {c : Nat} {t last back : List Int} (k : Fnd w B g gb A c t last back) (n : Nat) : Fnd (w.drewN n) B g gb A c t last back := ⟨k.blk, k.len, Kd.C_drewN k.txt n, k.row, k.bg⟩
theorem byte_at {w : World} {A : Option Addr} {n : Nat} {t : List Int} (h : (Kd.int .u8).C w A n t) (i : Nat) (hi : i < n) : ∃ ad, A = some ad ∧ w.cell? (ad.add i) = some (.int .u8 (t.getD i 0)) := by
  obtain ⟨ad, e, hc⟩ := Kd.at_int h (i : Int) (by omega) (by omega)
  rw [Int.toNat_natCast] at hc
  exact ⟨ad, e, by simpa [rd] using hc⟩

set_option maxRecDepth 100000 in
theorem hash_calls (w : World) (B g gb : Nat) (A : Option Addr) (c : Nat) (t last back : List Int) (i : Nat) (k : Fnd w B g gb A c t last back) (hi : i + 3 ≤ t.length) (hn : t.length ≤ 1000000000) :
    Calls Try.prog 26 #[.pointer (some ⟨g, 0, none⟩), .int .i64 i] w fun e w' => e = .returned (.int .i64 (hsh t i)) ∧ ∃ m, w' = w.drewN m := by
  have c0 := k.c0
  obtain ⟨ad, rfl, b0⟩ := byte_at k.txt i (by omega)
  obtain ⟨ad', e1, b1⟩ := byte_at k.txt (i + 1) (by omega)
  cases e1
  obtain ⟨ad', e1, b2⟩ := byte_at k.txt (i + 2) (by omega)
  cases e1
  unfold hsh
  generalize t.getD i 0 = x at *
  generalize t.getD (i + 1) 0 = y at *
  generalize t.getD (i + 2) 0 = z at *
  have h1 : (i : Int) + 1 < ((t.length : Nat) : Int) := by omega
  have h2 : (i : Int) + 2 < ((t.length : Nat) : Int) := by omega
  have h0 : (i : Int) < ((t.length : Nat) : Int) := by omega
  have h3 : (i : Int) ≤ 1000000000 := by omega
  generalize t.length = n at *
  clear k hi
  go_enter Try.func26, Try.ntmps26
  have w1 : IntKind.i64.wrap ((i : Int) + 1) = (i : Int) + 1 := by rw [IntKind.wrap_i64]; omega
  have w2 : IntKind.i64.wrap ((i : Int) + 2) = (i : Int) + 2 := by rw [IntKind.wrap_i64]; omega
  have w3 : (0 : Int) ≤ (i : Int) + 1 := by omega
  have w4 : (0 : Int) ≤ (i : Int) + 2 := by omega
  have b1' : w.cell? ⟨ad.block, ad.off + (i + 1), none⟩ = some (.int .u8 y) := b1
  have b2' : w.cell? ⟨ad.block, ad.off + (i + 1 + 1), none⟩ = some (.int .u8 z) := b2
  have b2'' : w.cell? ⟨ad.block, ad.off + (i + 2), none⟩ = some (.int .u8 z) := b2
  have b2a : w.cell? (ad.add (i + 1 + 1)) = some (.int .u8 z) := b2
  go_wp2_with fail
  go_region
  go_wp2_with fail
  go_ret
  first
    | exact ⟨rfl, _, rfl⟩
    | exact ⟨rfl, 1, rfl⟩

set_option maxRecDepth 100000 in
theorem alike_calls (w : World) (B g gb : Nat) (A : Option Addr) (c : Nat) (t last back : List Int) (p a : Nat) (k : Fnd w B g gb A c t last back) (hp : p < a) (ha : a ≤ t.length) (hn : t.length ≤ 1000000000) :
    Calls Try.prog 27 #[.pointer (some ⟨g, 0, none⟩), .int .i64 p, .int .i64 a] w fun e w' => e = .returned (.int .i64 (alk t p a)) ∧ ∃ m, w' = w.drewN m := by
  have c0 := k.c0
  have HT := Aside0.mk k.txt
  have h3 : (a : Int) ≤ 1000000000 := by omega
  have h4 : (p : Int) ≤ 1000000000 := by omega
  have HP := Aside0.mk (show p < a ∧ a ≤ t.length from ⟨hp, ha⟩)
  obtain ⟨R, hR⟩ : ∃ R, R = alk t p a := ⟨_, rfl⟩
  rw [← hR]
  have HR := Aside0.mk hR
  have HN := Aside0.mk hn
  clear k hp ha hR hn
  go_enter Try.func27, Try.ntmps27
  go_wp2_with fail
  go_loopg [7] 258 (fun kq v7 wr => ∃ n : Nat, v7 = .int .i64 n ∧ n ≤ 258 ∧ Aside0 (kq = 258 - n ∧ alkL t p a (258 - n) n = R) ∧ Aside0 (∃ m, wr = w.drewN m))
  case atStart => exact ⟨0, rfl, Nat.zero_le _, ⟨rfl, HR.out.symm⟩, ⟨0, (World.drewN_zero _).symm⟩⟩
  case round =>
    obtain ⟨n, rfl, hn, HK, HM⟩ := hrel
    obtain ⟨m, rfl⟩ := HM.out
    have b1 : (n : Int) ≤ 258 := by omega
    have e1 : IntKind.i64.wrap ((a : Int) + (n : Int)) = (a : Int) + (n : Int) := by rw [IntKind.wrap_i64]; omega
    have e2 : IntKind.i64.wrap ((p : Int) + (n : Int)) = (p : Int) + (n : Int) := by rw [IntKind.wrap_i64]; omega
    have hlen : ((t.length : Nat) : Int) ≤ 1000000000 := by have := HN.out; omega
    by_cases hlt : n < 258
    · have d1 : decide ((n : Int) < 258) = true := by simp; omega
      obtain ⟨f, hf⟩ : ∃ f, 258 - n = f + 1 := ⟨258 - n - 1, by omega⟩
      have hk := HK.out.2
      rw [hf, alkL] at hk
      by_cases hin : a + n < t.length
      · have d2 : decide ((a : Int) + (n : Int) < ((t.length : Nat) : Int)) = true := by simp; omega
        obtain ⟨ad, rfl, x1⟩ := byte_at HT.out (p + n) (by have := HP.out; omega)
        obtain ⟨ad', e3, x2⟩ := byte_at HT.out (a + n) hin
        cases e3
        have g1 : (0 : Int) ≤ (a : Int) + (n : Int) := by omega
        have g2 : (a : Int) + (n : Int) < ((t.length : Nat) : Int) := by omega
        have g3 : (0 : Int) ≤ (p : Int) + (n : Int) := by omega
        have g4 : (p : Int) + (n : Int) < ((t.length : Nat) : Int) := by have := HP.out; omega
        by_cases heq : t.getD (p + n) 0 = t.getD (a + n) 0
        · rw [if_pos ⟨hin, heq⟩] at hk
          rw [heq] at x1
          generalize t.getD (a + n) 0 = z at *
          have d3 : (z == z) = true := by simp
          have HH := Aside0.mk (show 258 - (n + 1) = f ∧ n + 1 ≤ 258 ∧ n < 258 by omega)
          have HKK := Aside0.mk hk
          generalize t.length = L at *
          clear hk heq hin hlt hf hn
          go_wp2_with fail
          go_region
          go_wp2_with fail
          go_roundg (gk - 1)
          case measure => have := HK.out.1; have := HH.out; omega
          case rel => exact ⟨n + 1, by go_num, HH.out.2.1, ⟨by have := HK.out.1; have := HH.out; omega, by rw [HH.out.1]; exact HKK.out⟩, ⟨_, rfl⟩⟩
        · rw [if_neg (fun h => heq h.2)] at hk
          have d3 : (t.getD (p + n) 0 == t.getD (a + n) 0) = false := beq_eq_false_iff_ne.2 heq
          have HF := Aside0.mk hk
          generalize t.getD (p + n) 0 = z at *
          generalize t.getD (a + n) 0 = z' at *
          generalize t.length = L at *
          clear hk heq hin hlt hf hn
          go_wp2_with fail
          go_region
          go_wp2_with fail
          go_ret
          first
            | exact ⟨by rw [HF.out]; rfl, _, rfl⟩
            | exact ⟨by rw [HF.out]; rfl, m + 1, rfl⟩
      · have d2 : decide ((a : Int) + (n : Int) < ((t.length : Nat) : Int)) = false := by simp; omega
        rw [if_neg (fun h => hin h.1)] at hk
        have HF := Aside0.mk hk
        generalize t.length = L at *
        clear hk hin hlt hf hn
        go_wp2_with fail
        go_region
        go_wp2_with fail
        go_ret
        first
          | exact ⟨by rw [HF.out]; rfl, _, rfl⟩
          | exact ⟨by rw [HF.out]; rfl, m + 1, rfl⟩
    · have d1 : decide ((n : Int) < 258) = false := by simp; omega
      have hk := HK.out.2
      rw [show 258 - n = 0 by omega] at hk
      have HF : Aside0 (n = R) := ⟨hk⟩
      generalize t.length = L at *
      clear hk hlt hn
      go_wp2_with fail
      go_region
      go_wp2_with fail
      go_ret
      first
        | exact ⟨by rw [HF.out]; rfl, _, rfl⟩
        | exact ⟨by rw [HF.out]; rfl, m + 1, rfl⟩

/-- What a call on a finder has turned: its block, its row of places. -/
structure Moved (w w' : World) (g gb : Nat) : Prop where
  os : w'.os = w.os
  tape : w'.tape = w.tape
  output : w'.output = w.output
  size : w.heap.size ≤ w'.heap.size
  blk : ∀ i, i < w.heap.size → i ≠ g → i ≠ gb → w'.heap[i]? = w.heap[i]?
theorem Moved.refl (w : World) (g gb : Nat) : Moved w w g gb := ⟨rfl, rfl, rfl, Nat.le_refl _, fun _ _ _ _ => rfl⟩
theorem Moved.trans {w w1 w2 : World} {g gb : Nat} (h : Moved w w1 g gb) (k : Moved w1 w2 g gb) : Moved w w2 g gb :=
  ⟨k.os.trans h.os, k.tape.trans h.tape, k.output.trans h.output, Nat.le_trans h.size k.size, fun i hi h1 h2 => (k.blk i (Nat.lt_of_lt_of_le hi h.size) h1 h2).trans (h.blk i hi h1 h2)⟩
theorem Moved.drewN {w w1 : World} {g gb : Nat} (h : Moved w w1 g gb) (n : Nat) : Moved w (w1.drewN n) g gb := ⟨h.os, h.tape, h.output, h.size, h.blk⟩
theorem Moved.drew {w w1 : World} {g gb : Nat} (h : Moved w w1 g gb) : Moved w w1.drew g gb := ⟨h.os, h.tape, h.output, h.size, h.blk⟩
theorem Moved.set {w w1 : World} {g gb : Nat} (h : Moved w w1 g gb) (p : Addr) (u : Value) (hp : p.block = g ∨ p.block = gb) : Moved w (w1.setCell p u) g gb :=
  ⟨h.os, h.tape, h.output, by simpa [World.setCell] using h.size, fun i hi h1 h2 => (Below.heap_setCell w1 p u i (by rcases hp with e | e <;> omega)).trans (h.blk i hi h1 h2)⟩
theorem Moved.below {w0 w w1 : World} {B g gb : Nat} (h : Moved w w1 g gb) (hb : Below B w0 w) (hB : B ≤ w.heap.size) (h1 : B ≤ g) (h2 : B ≤ gb) : Below B w0 w1 :=
  ⟨h.os.trans hb.os, h.tape.trans hb.tape, h.output.trans hb.output, Nat.le_trans hb.size h.size, fun k hk => (h.blk k (by omega) (by omega) (by omega)).trans (hb.block k hk)⟩
theorem Fnd.below {w w1 : World} {B g gb : Nat} {A : Option Addr} {c : Nat} {t last back : List Int} (k : Fnd w B g gb A c t last back) (h : Below w.heap.size w w1) : Fnd w1 B g gb A c t last back :=
  ⟨blk_below k.blk h, k.len, Kd.C_below k.txt h, pw_own_below k.row h, k.bg⟩
theorem Fnd.ne {w : World} {B g gb : Nat} {A : Option Addr} {c : Nat} {t last back : List Int} (k : Fnd w B g gb A c t last back) : g ≠ gb := fun e => own_ne k.row k.blk (by decide) (by rw [e]; rfl)
theorem add_blk (ad : Addr) (j : Nat) : (ad.add j).block = ad.block := by
  unfold Addr.add
  split <;> rfl
/-- A place is made known. -/
theorem Fnd.stored {w : World} {B g gb : Nat} {A : Option Addr} {c : Nat} {t last back : List Int} (k : Fnd w B g gb A c t last back) (a H : Nat) (x y : Int) (hH : H < 4096)
    (htx : ∀ ad, A = some ad → ad.block ≠ g ∧ ad.block ≠ gb) : Fnd ((w.setCell ⟨gb, a, none⟩ (.int .i64 x)).setCell ⟨g, 1 + H, none⟩ (.int .i64 y)) B g gb A c t (last.set H y) (back.set a x) := by
  have hl := k.len
  have h1 := (own_store k.row (a : Int) x).1
  rw [Int.toNat_natCast] at h1
  refine ⟨?_, by rw [List.length_set]; exact hl, ?_, own_setCell h1 (fun e => own_ne k.row k.blk (by decide) e) _, k.bg⟩
  · refine blk_put (blk_far k.blk k.ne _) (1 + H) _ ?_
    simp only [List.setIfInBounds_toArray, Nat.add_comm 1 H, List.set_cons_succ]
    congr 2
    rw [List.set_append_left _ _ (by rw [nums_length]; omega)]
    simp [nums, List.map_set]
  · refine Kd.C_of_reads (d := 0) ?_
    obtain ⟨e1, e2, e3⟩ := Kd.reads_of_C (d := 0) k.txt
    refine ⟨e1, e2, fun hn => ?_⟩
    obtain ⟨ad, rfl, hc⟩ := e3 hn
    refine ⟨ad, rfl, fun j hj => ?_⟩
    have := htx ad rfl
    refine (World.cell?_setCell_other _ _ _ _ ?_).trans ((World.cell?_setCell_other _ _ _ _ ?_).trans (hc j hj))
    · intro e
      have e1 := congrArg Addr.block e
      rw [add_blk] at e1
      simp only at e1
      omega
    · intro e
      have e1 := congrArg Addr.block e
      rw [add_blk] at e1
      simp only at e1
      omega
end Go.Proofs.Ytiaiopdiooobiaa.My
