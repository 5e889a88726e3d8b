/- Layer 6: alive. -/
import Derived.Test.YtjlophlheoikgaaMyCode
import Derived.Test.YtjlophlheoikgaaMyNum
namespace Go.Proofs.Ytjlophlheoikgaa.My
open Go.RowKit Go.Proofs.YtjlophlheoikgaaW.PrintWords Go.Proofs.YtjlophlheoikgaaW.PrintLast Go.Proofs.YtjlophlheoikgaaW.PrintMore

theorem Grew.below {w0 w w1 : World} {B g : Nat} {v v1 : Value} (h : Grew w w1 g v v1) (hb : Below B w0 w) (hB : B ≤ w.heap.size) (hg : B ≤ g) (hv : ∀ k, v.ownBlock = some k → B ≤ k) : Below B w0 w1 :=
  ⟨h.os.trans hb.os, h.tape.trans hb.tape, h.output.trans hb.output, Nat.le_trans hb.size h.keep.1, fun k hk =>
    (h.keep.2 k (by omega) (by omega) (fun e => by have := hv k e.symm; omega)).trans (hb.block k hk)⟩
theorem Writ.base {w : World} {B g : Nat} {v : Value} {V N : Nat} (k : Writ w B g v V N) : ∀ j, v.ownBlock = some j → B ≤ j := own_base k.wr.row
theorem alive_calls (w : World) : Calls Try.prog 7 #[] w fun e w' => e = .returned (.bool true) ∧ Below w.heap.size w w' := by
  have u1 := Try.underlying31
  have HN := Aside0.mk (newWriter_calls w)
  have HW := Writ.new w w.heap.size (Nat.le_refl _)
  have HB0 := below_alloc (Below.refl w.heap.size w) (.cells #[.slice none 0 0, .int .u64 0, .int .i64 0] 66)
  have hs0 : w.heap.size ≤ (w.alloc (.cells #[.slice none 0 0, .int .u64 0, .int .i64 0] 66)).heap.size := by simp
  generalize w.alloc (.cells #[.slice none 0 0, .int .u64 0, .int .i64 0] 66) = w1 at HN HW HB0 hs0
  generalize w.heap.size = g at *
  have HP1 : Aside0 (Calls Try.prog 10 #[.pointer (some ⟨g, 0, none⟩), .int .u32 1, .int .i64 1] w1 fun e w' => e = .returned .nilIface ∧ ∃ v', Writ w' g g v' 1 1 ∧ Grew w1 w' g (.slice none 0 0) v') := by
    refine ⟨(put_calls w1 g g _ 0 0 1 1 hs0 HW (by decide) (by decide)).mono ?_⟩
    rintro e w' ⟨rfl, ⟨h1, _⟩ | ⟨_, v', h1, h2⟩⟩
    · exact absurd h1 (by decide)
    · exact ⟨rfl, v', h1, h2⟩
  have hstr : strOfNums [5] = ByteArray.mk #[5] := by rfl
  have HC : Aside0 (∀ (w2 : World) (v : Value), g ≤ w2.heap.size → Writ w2 g g v 1 1 → Calls Try.prog 11 #[.pointer (some ⟨g, 0, none⟩), .int .u32 1, .int .i64 2] w2 fun e w' => e = .returned .nilIface ∧ ∃ v', Writ w' g g v' 5 3 ∧ Grew w2 w' g v v') := by
    refine ⟨fun w2 v hg h => (code_calls' w2 g g v 1 1 1 2 hg h (by decide) (by decide)).mono ?_⟩
    rintro e w' ⟨rfl, ⟨h1, _⟩ | ⟨_, v', h1, h2⟩⟩
    · exact absurd h1 (by decide)
    · refine ⟨rfl, v', ?_, h2⟩
      have e : 1 + rv 1 (2 : Int).toNat * 2 ^ 1 = 5 := by decide +kernel
      rw [e] at h1
      exact h1
  have HT : Aside0 (∀ (w3 : World) (v : Value), g ≤ w3.heap.size → Writ w3 g g v 5 3 → Calls Try.prog 18 #[.pointer (some ⟨g, 0, none⟩)] w3 fun e w' => ∃ A c, e = .returned (.slice A 1 c) ∧ (Kd.int .u8).C w' A 1 [5] ∧ Below g w3 w') := by
    refine ⟨fun w3 v hg h => (wtext_calls w3 g g v 5 3 h (by decide)).mono ?_⟩
    rintro e w' ⟨v', rfl, ho, hb⟩
    have e : leB 5 ((3 + 7) / 8) = [5] := by decide +kernel
    rw [e] at ho
    obtain ⟨A, c, rfl, _, hc⟩ := own_slice' ho
    exact ⟨A, c, rfl, hc, hb.mono hg⟩
  have HB := Aside0.mk HB0
  have HS := Aside0.mk hs0
  clear HW HB0 hs0
  go_enter Try.func7, Try.ntmps7
  go_wp2_with (first
    | (go_at_call 8; refine HN.out.mono ?_; rintro e w' ⟨rfl, rfl⟩)
    | (go_at_call 10; refine HP1.out.mono ?_; rintro e w2 ⟨rfl, v2, h2, h3⟩; have B2 := h3.below HB.out HS.out (Nat.le_refl _) (by simp [Value.ownBlock]); have S2 := Nat.le_trans HS.out h3.keep.1; have H2 := Aside0.mk h2; replace B2 := Aside0.mk B2; replace S2 := Aside0.mk S2; clear h2 h3)
    | (go_at_call 11; refine (HC.out _ _ S2.out H2.out).mono ?_; rintro e w3 ⟨rfl, v3, h2, h3⟩; have B3 := h3.below B2.out S2.out (Nat.le_refl _) H2.out.base; have S3 := Nat.le_trans S2.out h3.keep.1; have H3 := Aside0.mk h2; replace B3 := Aside0.mk B3; replace S3 := Aside0.mk S3; clear h2 h3)
    | (go_at_call 18; refine (HT.out _ _ S3.out H3.out).mono ?_; rintro e w4 ⟨A, c, rfl, hc, hb⟩; have k1 := Kd.C_string (P := Try.prog) (src := 26) (dst := 9) (c := c) Try.underlying26 Try.underlying5 Try.underlying9 hc; rw [hstr] at k1; have B4 := Aside0.mk (B3.out.trans hb); clear hc hb))
  go_ret
  exact ⟨rfl, B4.out⟩
end Go.Proofs.Ytjlophlheoikgaa.My
