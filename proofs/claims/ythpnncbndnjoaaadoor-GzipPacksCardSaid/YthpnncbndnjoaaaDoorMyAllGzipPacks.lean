/- MyPackP, MyPackW, MyRepeat, MyFixed, MyFixD, MyPacker, MyStoreW, MyFixedW, MyPackL, MyDeflW, MyGzPack, MyGzA, MyDocC, MyDocD, MyTokD, MyRef6, MyRefPut, MyPackD, MyDocDef, MyCrcR, MyDocPack, MyGzPacksL: laid into one text by merge.py. -/
import Derived.Test.YthpnncbndnjoaaaDoorMyAllW
import Derived.Lib.BitFns
import Derived.Test.YthpnncbndnjoaaaDoorMyShelf
import Derived.OwnWalk
import Derived.Test.YthpnncbndnjoaaaDoorMyDocs
import Derived.Laws.CopyOwn
import Derived.Deep.RegionLaw
import Derived.StillTailTactics
import Derived.Lib.Walk
import Derived.Test.YthpnncbndnjoaaaDoorRows
import Derived.ProofKit
import Derived.Lib.LaidTab
import Derived.Lib.RabinKarpLaws
import Derived.Test.YthpnncbndnjoaaaDoorPOfx1
import Derived.Test.YthpnncbndnjoaaaDoorPfourx1

/- Packing, plainly: bits that are put behind one another, a token's signs, a text's bytes of kind 0 and 1. No program in sight. -/
namespace Go.Proofs.YthpnncbndnjoaaaDoor.My
open Go.RowKit Go.Proofs.YthpnncbndnjoaaaDoor.Huf
set_option maxRecDepth 100000
set_option linter.unusedVariables false
set_option linter.unusedSimpArgs false

/-- Bits: a number, and how many. -/
structure Bs where
  V : Nat
  N : Nat
def Bs.put (b : Bs) (x n : Nat) : Bs := ⟨b.V + x * 2 ^ b.N, b.N + n⟩
/-- A length's letter, its further bits' number, how many these are. -/
def lenS (l : Nat) : Nat × Nat × Nat :=
  if l - 3 = 255 then (285, 0, 0) else if l - 3 < 8 then (257 + (l - 3), 0, 0)
  else (257 + 4 * (Lib.bitLen (l - 3) - 3 + 1) + (l - 3) / 2 ^ (Lib.bitLen (l - 3) - 3) - 4, (l - 3) % 2 ^ (Lib.bitLen (l - 3) - 3), Lib.bitLen (l - 3) - 3)
def disS (d : Nat) : Nat × Nat × Nat :=
  if d - 1 < 4 then (d - 1, 0, 0)
  else (2 * (Lib.bitLen (d - 1) - 2 + 1) + (d - 1) / 2 ^ (Lib.bitLen (d - 1) - 2) - 2, (d - 1) % 2 ^ (Lib.bitLen (d - 1) - 2), Lib.bitLen (d - 1) - 2)
/-- The least length of a letter, the least distance of a sign; how many further bits. -/
def exL (s : Nat) : Nat := if s = 285 ∨ s < 265 then 0 else (s - 257) / 4 - 1
def lowL (s : Nat) : Nat := if s = 285 then 258 else if s < 265 then 3 + (s - 257) else 3 + (4 + (s - 257) % 4) * 2 ^ ((s - 257) / 4 - 1)
def exD (s : Nat) : Nat := if s < 4 then 0 else s / 2 - 1
def lowD (s : Nat) : Nat := if s < 4 then 1 + s else 1 + (2 + s % 2) * 2 ^ (s / 2 - 1)
structure LenOk (l : Nat) : Prop where
  s0 : 257 ≤ (lenS l).1
  s1 : (lenS l).1 ≤ 285
  m : (lenS l).2.1 < 2 ^ (lenS l).2.2
  k : (lenS l).2.2 ≤ 5
  ex : exL (lenS l).1 = (lenS l).2.2
  low : l = lowL (lenS l).1 + (lenS l).2.1
  up : ∀ s, (lenS l).1 < s → s ≤ 285 → l < lowL s
theorem lenS_ok (l : Nat) (h0 : 3 ≤ l) (h1 : l ≤ 258) : LenOk l := by
  have h : ∀ i : Fin 256, 257 ≤ (lenS (3 + i)).1 ∧ (lenS (3 + i)).1 ≤ 285 ∧ (lenS (3 + i)).2.1 < 2 ^ (lenS (3 + i)).2.2 ∧ (lenS (3 + i)).2.2 ≤ 5 ∧ exL (lenS (3 + i)).1 = (lenS (3 + i)).2.2 ∧ 3 + i.val = lowL (lenS (3 + i)).1 + (lenS (3 + i)).2.1 ∧
      ∀ s : Fin 29, (lenS (3 + i)).1 < 257 + s.val → 3 + i.val < lowL (257 + s.val) := by decide +kernel
  have h2 := h ⟨l - 3, by omega⟩
  simp only [show 3 + (l - 3) = l by omega] at h2
  obtain ⟨a, b, c, d, e, f, g⟩ := h2
  refine ⟨a, b, c, d, e, f, fun s hs1 hs2 => ?_⟩
  have := g ⟨s - 257, by omega⟩
  simp only [show 257 + (s - 257) = s by omega] at this
  exact this hs1
structure DisOk (d : Nat) : Prop where
  s1 : (disS d).1 < 30
  m : (disS d).2.1 < 2 ^ (disS d).2.2
  k : (disS d).2.2 ≤ 13
  ex : exD (disS d).1 = (disS d).2.2
  low : d = lowD (disS d).1 + (disS d).2.1
  up : ∀ s, (disS d).1 < s → s < 30 → d < lowD s
theorem lowD_mono (a b : Nat) (h : a ≤ b) (hb : b < 30) : lowD a ≤ lowD b := by
  have h1 : ∀ a b : Fin 30, a.val ≤ b.val → lowD a.val ≤ lowD b.val := by decide +kernel
  exact h1 ⟨a, by omega⟩ ⟨b, hb⟩ h
theorem bitLen_of (q k : Nat) (h0 : 2 ^ k ≤ q) (h1 : q < 2 ^ (k + 1)) (hk : k < 60) : Lib.bitLen q = k + 1 := by
  have aux : ∀ f k q : Nat, k < f → 2 ^ k ≤ q → q < 2 ^ (k + 1) → Lib.bitLenAux f q = k + 1 := by
    intro f
    induction f with
    | zero => intro k q h; omega
    | succ f ih =>
      intro k q hf h0 h1
      have hq : q ≠ 0 := by have := Nat.two_pow_pos k; omega
      unfold Lib.bitLenAux
      rw [if_neg hq]
      cases k with
      | zero =>
        have : q = 1 := by simp at h0 h1; omega
        subst this
        cases f with
        | zero => rfl
        | succ f => rfl
      | succ k =>
        rw [ih k (q / 2) (by omega) (by rw [Nat.pow_succ] at h0; omega) (by rw [Nat.pow_succ] at h1; omega)]
        omega
  exact aux 64 k q (by omega) h0 h1
theorem pow_between (q : Nat) (h : q < 32768) (h4 : 4 ≤ q) : ∃ k, 1 ≤ k ∧ k ≤ 13 ∧ 2 ^ (k + 1) ≤ q ∧ q < 2 ^ (k + 2) := by
  have aux : ∀ j, 2 ^ 2 ≤ q → q < 2 ^ (2 + j) → ∃ k, 1 ≤ k ∧ k ≤ j ∧ 2 ^ (k + 1) ≤ q ∧ q < 2 ^ (k + 2) := by
    intro j
    induction j with
    | zero => intro a b; simp at a b; omega
    | succ j ih =>
      intro a b
      by_cases c : q < 2 ^ (2 + j)
      · obtain ⟨k, p⟩ := ih a c
        exact ⟨k, p.1, by omega, p.2.2⟩
      · exact ⟨j + 1, by omega, Nat.le_refl _, by rw [show j + 1 + 1 = 2 + j by omega]; omega, by rw [show j + 1 + 2 = 2 + (j + 1) by omega]; exact b⟩
  exact aux 13 h4 h
theorem disS_ok (d : Nat) (h0 : 1 ≤ d) (h1 : d ≤ 32768) : DisOk d := by
  by_cases h4 : d - 1 < 4
  · have h : ∀ i : Fin 4, (disS (1 + i)).1 < 30 ∧ (disS (1 + i)).2.1 < 2 ^ (disS (1 + i)).2.2 ∧ (disS (1 + i)).2.2 ≤ 13 ∧ exD (disS (1 + i)).1 = (disS (1 + i)).2.2 ∧ 1 + i.val = lowD (disS (1 + i)).1 + (disS (1 + i)).2.1 ∧
        ∀ s : Fin 30, (disS (1 + i)).1 < s.val → 1 + i.val < lowD s.val := by decide +kernel
    have h2 := h ⟨d - 1, h4⟩
    simp only [show 1 + (d - 1) = d by omega] at h2
    obtain ⟨a, b, c, e, f, g⟩ := h2
    exact ⟨a, b, c, e, f, fun s hs1 hs2 => g ⟨s, hs2⟩ hs1⟩
  · obtain ⟨k, k1, k13, hlo, hhi⟩ := pow_between (d - 1) (by omega) (by omega)
    have hb : Lib.bitLen (d - 1) = k + 2 := bitLen_of (d - 1) (k + 1) hlo hhi (by omega)
    have hP := Nat.two_pow_pos k
    have e1 : 2 ^ (k + 1) = 2 * 2 ^ k := by rw [Nat.pow_succ]; omega
    have e2 : 2 ^ (k + 2) = 4 * 2 ^ k := by rw [Nat.pow_add]; omega
    have hdm := Nat.div_add_mod (d - 1) (2 ^ k)
    have hml := Nat.mod_lt (d - 1) hP
    have hq2 : (d - 1) / 2 ^ k = 2 ∨ (d - 1) / 2 ^ k = 3 := by
      have a1 : 2 ≤ (d - 1) / 2 ^ k := (Nat.le_div_iff_mul_le hP).2 (by omega)
      have a2 : (d - 1) / 2 ^ k < 4 := (Nat.div_lt_iff_lt_mul hP).2 (by omega)
      omega
    have hS : disS d = (2 * (k + 1) + (d - 1) / 2 ^ k - 2, (d - 1) % 2 ^ k, k) := by
      unfold disS
      rw [if_neg h4, hb]
      rfl
    rcases hq2 with hq | hq
    · rw [hq] at hS hdm
      have hs : (disS d).1 = 2 * k + 2 := by rw [hS]; show 2 * (k + 1) + 2 - 2 = _; omega
      have hlow : lowD (2 * k + 2) = 1 + 2 * 2 ^ k := by
        unfold lowD
        rw [if_neg (by omega), show (2 * k + 2) % 2 = 0 by omega, show (2 * k + 2) / 2 - 1 = k by omega]
      have hlow2 : lowD (2 * k + 3) = 1 + 3 * 2 ^ k := by
        unfold lowD
        rw [if_neg (by omega), show (2 * k + 3) % 2 = 1 by omega, show (2 * k + 3) / 2 - 1 = k by omega]
      refine ⟨by rw [hs]; omega, by rw [hS]; exact hml, by rw [hS]; exact k13, ?_, ?_, fun s s1 s2 => ?_⟩
      · rw [hs, hS]; unfold exD; rw [if_neg (by omega)]; show _ = k; omega
      · rw [hs, hlow, hS]; show d = 1 + 2 * 2 ^ k + (d - 1) % 2 ^ k; omega
      · rw [hs] at s1
        have := lowD_mono (2 * k + 3) s (by omega) s2
        rw [hlow2] at this
        omega
    · rw [hq] at hS hdm
      have hs : (disS d).1 = 2 * k + 3 := by rw [hS]; show 2 * (k + 1) + 3 - 2 = _; omega
      have hlow : lowD (2 * k + 3) = 1 + 3 * 2 ^ k := by
        unfold lowD
        rw [if_neg (by omega), show (2 * k + 3) % 2 = 1 by omega, show (2 * k + 3) / 2 - 1 = k by omega]
      have hlow2 : lowD (2 * k + 4) = 1 + 4 * 2 ^ k := by
        unfold lowD
        rw [if_neg (by omega), show (2 * k + 4) % 2 = 0 by omega, show (2 * k + 4) / 2 - 1 = k + 1 by omega, e1]
        omega
      refine ⟨by rw [hs]; omega, by rw [hS]; exact hml, by rw [hS]; exact k13, ?_, ?_, fun s s1 s2 => ?_⟩
      · rw [hs, hS]; unfold exD; rw [if_neg (by omega)]; show _ = k; omega
      · rw [hs, hlow, hS]; show d = 1 + 3 * 2 ^ k + (d - 1) % 2 ^ k; omega
      · rw [hs] at s1
        have := lowD_mono (2 * k + 4) s (by omega) s2
        rw [hlow2] at this
        omega
/-- What a token of a text is. -/
structure TkOk (k : Tk) : Prop where
  b : 0 ≤ k.b ∧ k.b < 256
  l : k.l = 0 ∨ (3 ≤ k.l ∧ k.l ≤ 258 ∧ 1 ≤ k.d ∧ k.d ≤ 32768)
theorem scan_ok (t : List Int) (a : Nat) : ∀ x lk bl bd, x ≤ a → (bl = 0 ∨ (3 ≤ bl ∧ bl ≤ 258 ∧ 1 ≤ bd ∧ bd ≤ 32768)) →
    ((scan t a x lk bl bd).1 = 0 ∨ (3 ≤ (scan t a x lk bl bd).1 ∧ (scan t a x lk bl bd).1 ≤ 258 ∧ 1 ≤ (scan t a x lk bl bd).2 ∧ (scan t a x lk bl bd).2 ≤ 32768))
  | 0, _, _, _, _, h => h
  | x + 1, lk, bl, bd, hx, h => by
    unfold scan
    split
    · rename_i hb
      split
      · exact scan_ok t a x lk bl bd (by omega) h
      · split
        · exact scan_ok t a x (lk + 1) _ _ (by omega) (.inr ⟨by omega, alk_le t x a, by omega, hb.1⟩)
        · exact scan_ok t a x (lk + 1) bl bd (by omega) h
    · exact h
theorem tok_ok (t : List Int) (ht : ∀ z ∈ t, 0 ≤ z ∧ z < 256) (a : Nat) : TkOk (tok t a) := by
  have h := scan_ok t a a 0 0 0 (Nat.le_refl _) (.inl rfl)
  have hg : ∀ i, 0 ≤ t.getD i 0 ∧ t.getD i 0 < 256 := fun i => by
    by_cases hi : i < t.length
    · have := ht (t[i]) (List.getElem_mem hi)
      simpa [List.getD_eq_getElem?_getD, hi] using this
    · have : t.getD i 0 = 0 := by simp [List.getD_eq_getElem?_getD, List.getElem?_eq_none (Nat.le_of_not_lt hi)]
      rw [this]; omega
  unfold tok
  split
  · exact ⟨hg a, .inl rfl⟩
  · rename_i h0
    exact ⟨by show (0 : Int) ≤ 0 ∧ (0 : Int) < 256; omega, .inr (h.resolve_left h0)⟩
theorem toksF_ok (t : List Int) (ht : ∀ z ∈ t, 0 ≤ z ∧ z < 256) : ∀ f a, ∀ k ∈ toksF t f a, TkOk k
  | 0, _, k, h => by simp [toksF] at h
  | f + 1, a, k, h => by
    unfold toksF at h
    split at h
    · rcases List.mem_cons.1 h with e | e
      · rw [e]; exact tok_ok t ht a
      · exact toksF_ok t ht f _ k e
    · simp at h
theorem toks_ok (t : List Int) (ht : ∀ z ∈ t, 0 ≤ z ∧ z < 256) : ∀ k ∈ toks t, TkOk k := toksF_ok t ht _ _
theorem toksF_len (t : List Int) : ∀ f a, (toksF t f a).length ≤ f
  | 0, _ => Nat.le_refl _
  | f + 1, a => by
    unfold toksF
    split
    · have := toksF_len t f (a + max (tok t a).l 1); simp only [List.length_cons]; omega
    · simp
theorem toks_len (t : List Int) : (toks t).length ≤ t.length := toksF_len t _ _

/-- A sign's code behind bits; a token; all of a text as a block of kind 1. -/
def sgB (L : List Int) (b : Bs) (s : Nat) : Bs := b.put (rv (code L s) (L.getD s 0).toNat) (L.getD s 0).toNat
section
variable (A B : List Int)
def tokB (b : Bs) (k : Tk) : Bs :=
  if k.l = 0 then sgB A b k.b.toNat
  else (sgB B ((sgB A b (lenS k.l).1).put (lenS k.l).2.1 (lenS k.l).2.2) (disS k.d).1).put (disS k.d).2.1 (disS k.d).2.2
def fixB' (t : List Int) : Bs := sgB A ((toks t).foldl (tokB A B) ⟨3, 3⟩) 256
def fixedL (t : List Int) : List Int := leB (fixB' A B t).V (((fixB' A B t).N + 7) / 8)
end
/-- A text as a block of kind 0. -/
def plainL (t : List Int) : List Int := [1, ((t.length % 256 : Nat) : Int), ((t.length / 256 : Nat) : Int), ((255 - t.length % 256 : Nat) : Int), ((255 - t.length / 256 : Nat) : Int)] ++ t
theorem plainL_len (t : List Int) : (plainL t).length = 5 + t.length := by simp [plainL]; omega
end Go.Proofs.YthpnncbndnjoaaaDoor.My

/- The walks of the packer's small functions: distance, length, put. -/
namespace Go.Proofs.YthpnncbndnjoaaaDoor.My
open Go.RowKit Go.Proofs.YthpnncbndnjoaaaDoor.Huf Go.Proofs.YthpnncbndnjoaaaDoorW.PrintWords Go.Proofs.YthpnncbndnjoaaaDoorW.PrintLast Go.Proofs.YthpnncbndnjoaaaDoorW.PrintMore
set_option maxRecDepth 100000
set_option linter.unusedVariables false
set_option linter.unusedSimpArgs false

theorem and_nat63 (a b : Nat) (ha : a < 2 ^ 63) (hb : b < 2 ^ 63) : Go.bits .and .i64 a b = ((a &&& b : Nat) : Int) := by
  have hl : a &&& b < 2 ^ 63 := Nat.and_lt_two_pow _ hb
  show IntKind.i64.wrap ((BitVec.ofInt 64 (a : Int) &&& BitVec.ofInt 64 (b : Int)).toNat : Int) = _
  rw [BitVec.ofInt_natCast, BitVec.ofInt_natCast, BitVec.toNat_and, BitVec.toNat_ofNat, BitVec.toNat_ofNat, Nat.mod_eq_of_lt (by omega), Nat.mod_eq_of_lt (by omega), IntWalk.i64_in _ ⟨by omega, by omega⟩]
theorem and_mask (q k m : Nat) (hq : q < 2 ^ 62) (hk : k ≤ 32) (hm : m = 2 ^ k - 1) : Go.bits .and .i64 (q : Int) (m : Int) = ((q % 2 ^ k : Nat) : Int) := by
  have h1 : (2 : Nat) ^ k ≤ 2 ^ 32 := Nat.pow_le_pow_right (by decide) hk
  subst hm
  rw [and_nat63 _ _ (by omega) (by omega), Nat.and_two_pow_sub_one_eq_mod]
theorem disS_big (q k : Nat) (h4 : ¬ q < 4) (hb : Lib.bitLen q = k + 2) : disS (q + 1) = (2 * (k + 1) + q / 2 ^ k - 2, q % 2 ^ k, k) := by
  unfold disS
  rw [show q + 1 - 1 = q by omega, if_neg h4, hb]
  rfl
theorem tup3 {x y z x' y' z' : Int} (h1 : x = x') (h2 : y = y') (h3 : z = z') : Ending.returned (.tuple #[.int .i64 x, .int .i64 y, .int .i64 z]) = Ending.returned (.tuple #[.int .i64 x', .int .i64 y', .int .i64 z']) := by rw [h1, h2, h3]
theorem distance_calls (w : World) (d : Nat) (h0 : 1 ≤ d) (h1 : d ≤ 32768) :
    Calls Tryd.prog 79 #[.int .i64 d] w fun e w' => e = .returned (.tuple #[.int .i64 ((disS d).1 : Nat), .int .i64 ((disS d).2.1 : Nat), .int .i64 ((disS d).2.2 : Nat)]) ∧ Below w.heap.size w w' := by
  obtain ⟨q, rfl⟩ : ∃ q, d = q + 1 := ⟨d - 1, by omega⟩
  have e0 : ((q + 1 : Nat) : Int) = (q : Int) + 1 := by omega
  rw [e0]
  have hq : (q : Int) ≤ 32767 := by omega
  by_cases h4 : q < 4
  · have hS : disS (q + 1) = (q, 0, 0) := by unfold disS; rw [show q + 1 - 1 = q by omega, if_pos h4]
    have h4' : (q : Int) < 4 := by omega
    rw [hS]
    clear h0 h1 h4 hS e0
    go_enter Tryd.func79, Tryd.ntmps79
    go_wp2_with fail
    go_ret3
    exact ⟨rfl, Below.refl _ _⟩
  · obtain ⟨k, k1, k13, hlo, hhi⟩ := pow_between q (by omega) (by omega)
    have hb : Lib.bitLen q = k + 2 := bitLen_of q (k + 1) hlo hhi (by omega)
    have hS := disS_big q k h4 hb
    have h4' : (4 : Int) ≤ (q : Int) := by omega
    have HL : Aside0 (∀ w : World, Calls Tryd.prog 94 #[.int .u64 q] w fun e w' => e = .returned (.int .i64 ((k + 2 : Nat) : Int)) ∧ w = w') :=
      ⟨fun w => (Tryd.bits_Len q w (by omega) (by omega)).mono fun e w' h => ⟨by rw [h.1, Int.toNat_natCast, hb], h.2.symm⟩⟩
    rw [hS]
    have hm : ∀ m : Nat, m = 2 ^ k - 1 → Go.bits .and .i64 (q : Int) (m : Int) = ((q % 2 ^ k : Nat) : Int) := fun m hm => and_mask q k m (by omega) (by omega) hm
    have hdv : 1 ≤ q / 2 ^ k := (Nat.le_div_iff_mul_le (Nat.two_pow_pos k)).2 (by rw [Nat.pow_succ] at hlo; omega)
    have HM := Aside0.mk hm
    have HDV := Aside0.mk hdv
    clear h0 h1 h4 hS e0 hb hlo hhi hm hdv
    have hk : k = 1 ∨ k = 2 ∨ k = 3 ∨ k = 4 ∨ k = 5 ∨ k = 6 ∨ k = 7 ∨ k = 8 ∨ k = 9 ∨ k = 10 ∨ k = 11 ∨ k = 12 ∨ k = 13 := by omega
    clear k1 k13
    rcases hk with rfl | rfl | rfl | rfl | rfl | rfl | rfl | rfl | rfl | rfl | rfl | rfl | rfl
    all_goals
      go_enter Tryd.func79, Tryd.ntmps79
      go_wp2_with (go_at_call 94; refine (HL.out _).mono ?_; rintro e w' ⟨rfl, rfl⟩)
      go_quiet (fail)
      go_wp2_with fail
      go_ret3
      refine ⟨?_, pw_below_drewN (Below.refl _ _) _⟩
      have a := HM.out _ rfl
      have b := HDV.out
      simp only [Nat.reducePow, Nat.reduceSub, Nat.reduceAdd, Nat.reduceMul] at a b ⊢
      refine tup3 ?_ a ?_
      · omega
      · rfl
theorem lenS_big (q k : Nat) (h8 : ¬ q < 8) (h255 : q ≠ 255) (hb : Lib.bitLen q = k + 3) : lenS (q + 3) = (257 + 4 * (k + 1) + q / 2 ^ k - 4, q % 2 ^ k, k) := by
  unfold lenS
  rw [show q + 3 - 3 = q by omega, if_neg h255, if_neg h8, hb]
  rfl
theorem length_calls (w : World) (l : Nat) (h0 : 3 ≤ l) (h1 : l ≤ 258) :
    Calls Tryd.prog 78 #[.int .i64 l] w fun e w' => e = .returned (.tuple #[.int .i64 ((lenS l).1 : Nat), .int .i64 ((lenS l).2.1 : Nat), .int .i64 ((lenS l).2.2 : Nat)]) ∧ Below w.heap.size w w' := by
  obtain ⟨q, rfl⟩ : ∃ q, l = q + 3 := ⟨l - 3, by omega⟩
  have e0 : ((q + 3 : Nat) : Int) = (q : Int) + 3 := by omega
  rw [e0]
  have hq : (q : Int) ≤ 255 := by omega
  by_cases h255 : q = 255
  · subst h255
    clear hq h0 h1 e0
    go_enter Tryd.func78, Tryd.ntmps78
    go_wp2_with fail
    go_ret3
    exact ⟨rfl, Below.refl _ _⟩
  by_cases h8 : q < 8
  · have hS : lenS (q + 3) = (257 + q, 0, 0) := by unfold lenS; rw [show q + 3 - 3 = q by omega, if_neg h255, if_pos h8]
    have h8' : (q : Int) < 8 := by omega
    have hne : ((q : Int) == 255) = false := by simp; omega
    rw [hS]
    clear h0 h1 h8 hS e0
    go_enter Tryd.func78, Tryd.ntmps78
    go_wp2_with fail
    go_ret3
    exact ⟨rfl, Below.refl _ _⟩
  · obtain ⟨k', k1, k13, hlo, hhi⟩ := pow_between q (by omega) (by omega)
    obtain ⟨k, rfl⟩ : ∃ k, k' = k + 1 := ⟨k' - 1, by omega⟩
    have hb : Lib.bitLen q = k + 3 := bitLen_of q (k + 2) hlo hhi (by omega)
    have hS := lenS_big q k h8 h255 hb
    have h8' : (8 : Int) ≤ (q : Int) := by omega
    have hne : ((q : Int) == 255) = false := by simp; omega
    have HL : Aside0 (∀ w : World, Calls Tryd.prog 94 #[.int .u64 q] w fun e w' => e = .returned (.int .i64 ((k + 3 : Nat) : Int)) ∧ w = w') :=
      ⟨fun w => (Tryd.bits_Len q w (by omega) (by omega)).mono fun e w' h => ⟨by rw [h.1, Int.toNat_natCast, hb], h.2.symm⟩⟩
    rw [hS]
    have hm : ∀ m : Nat, m = 2 ^ k - 1 → Go.bits .and .i64 (q : Int) (m : Int) = ((q % 2 ^ k : Nat) : Int) := fun m hm => and_mask q k m (by omega) (by omega) hm
    have HM := Aside0.mk hm
    have hkk : 1 ≤ k ∧ k ≤ 5 := by
      constructor
      · cases k with
        | zero => simp at hhi; omega
        | succ k => omega
      · by_cases h : k ≤ 5
        · exact h
        · have : 2 ^ 8 ≤ 2 ^ (k + 1 + 1) := Nat.pow_le_pow_right (by decide) (by omega)
          omega
    clear h0 h1 h8 hS e0 hb hlo hhi hm k1 k13
    have hk : k = 1 ∨ k = 2 ∨ k = 3 ∨ k = 4 ∨ k = 5 := by omega
    clear hkk h255
    rcases hk with rfl | rfl | rfl | rfl | rfl
    all_goals
      go_enter Tryd.func78, Tryd.ntmps78
      go_wp2_with (go_at_call 94; refine (HL.out _).mono ?_; rintro e w' ⟨rfl, rfl⟩)
      go_quiet (fail)
      go_wp2_with fail
      go_ret3
      refine ⟨?_, pw_below_drewN (Below.refl _ _) _⟩
      have a := HM.out _ rfl
      simp only [Nat.reducePow, Nat.reduceSub, Nat.reduceAdd, Nat.reduceMul] at a ⊢
      refine tup3 ?_ a ?_
      · omega
      · rfl
end Go.Proofs.YthpnncbndnjoaaaDoor.My

/- The walk of slices.Repeat of one number. -/
namespace Go.Proofs.YthpnncbndnjoaaaDoor.My
open Go.RowKit Go.Lib Go.Proofs.YthpnncbndnjoaaaDoor.PMul Go.Proofs.YthpnncbndnjoaaaDoorW.PrintWords Go.Proofs.YthpnncbndnjoaaaDoorW.PrintLast Go.Proofs.YthpnncbndnjoaaaDoorW.PrintMore
set_option maxRecDepth 100000
set_option linter.unusedVariables false
set_option linter.unusedSimpArgs false

/-- So many of one number, the others noughts. -/
def rep (v : Int) (k n : Nat) : List Int := List.replicate k v ++ List.replicate (n - k) 0
theorem rep_len (v : Int) (k n : Nat) (h : k ≤ n) : (rep v k n).length = n := by simp [rep]; omega
theorem rep_splice (v : Int) (k c n : Nat) (h : k + c ≤ n) : splice (nums .i64 (rep v k n)) k (nums .i64 (List.replicate c v)) = nums .i64 (rep v (k + c) n) := by
  unfold splice rep nums
  simp only [List.map_append, List.map_replicate, List.length_replicate]
  rw [List.take_left' (by simp), ← List.append_assoc, List.replicate_append_replicate]
  congr 1
  rw [List.drop_append, List.length_replicate, List.drop_eq_nil_of_le (by simp), List.nil_append, List.drop_replicate]
  congr 1
  omega
theorem add_zero' (a : Addr) : a.add 0 = a := by
  unfold Addr.add
  split <;> simp_all
set_option maxHeartbeats 2000000 in
theorem repeat_calls (w : World) (ad : Addr) (c : Nat) (v : Int) (n : Nat) (hx : w.cell? ad = some (.int .i64 v)) (h0 : 0 < n) (hn : n ≤ 1000000) (hm : bits_Mul.f 1 n = some (0, (n : Int))) :
    Calls Tryd.prog 70 #[.slice (some ad) 1 c, .int .i64 n] w fun e w' => ∃ g, e = .returned (.slice (some ⟨g, 0, none⟩) n n) ∧ w.heap.size ≤ g ∧ IRow w' g 3 (List.replicate n v) ∧ Below w.heap.size w w' := by
  have HM : Aside0 (∀ wx, Calls Tryd.prog 91 #[.int .u64 1, .int .u64 n] wx fun e w' => e = .returned (.tuple #[.int .u64 0, .int .u64 n]) ∧ Drawn0 wx w') := ⟨fun wx => bits_Mul.calls 1 n 0 n wx hm⟩
  have hni : (n : Int) ≤ 1000000 := by omega
  have hn0 : (0 : Int) < (n : Int) := by omega
  have mk : ∀ W : World, (Instr.makeSlice 66 (.int .i64 n) (.int .i64 n)).run Tryd.prog W = .ok (.slice (some ⟨W.heap.size, 0, none⟩) n n) (W.alloc (.cells (madeCells #[.int .i64 0] n) 3)) := fun W => make_ints n (by omega) W
  have HX := Aside0.mk hx
  clear hx hm
  go_enter Tryd.func70, Tryd.ntmps70
  have hsz : (Tryd.prog.info? 3).map (·.size) = some 1 := by
    obtain ⟨i0, hi, hz⟩ := Option.map_eq_some_iff.1 info_i64
    rw [hi]
    simp only [Prod.mk.injEq] at hz
    rw [Option.map_some, hz.2.1]
  have HSZ := Aside0.mk hsz
  have HMade : Aside0 (∀ W : World, (W.alloc (.cells (madeCells #[.int .i64 0] n) 3)).heap[W.heap.size]? = some (.cells (nums .i64 (rep v 0 n)).toArray 3 (0, 0))) := ⟨fun W => by
    rw [made_nums, alloc_self]
    simp [rep]⟩
  clear hsz
  go_upto_region 7 with (go_at_call 91; refine (HM.out _).mono ?_; rintro e w1 ⟨rfl, ⟨m1, rfl⟩⟩)
  have hrow := HMade.out (w.drewN m1)
  have hbel : Below w.heap.size w ((w.drewN m1).alloc (.cells (madeCells #[.int .i64 0] n) 3)) := below_alloc (pw_below_drewN (Below.refl _ _) m1) _
  have hcx := pw_cell_below hbel HX.out
  have hgg : (w.drewN m1).heap.size = w.heap.size := rfl
  rw [hgg] at hrow
  generalize (w.drewN m1).alloc (.cells (madeCells #[.int .i64 0] n) 3) = w2 at *
  have hfit : 0 + [Value.int .i64 v].length ≤ (nums .i64 (rep v 0 n)).length := by rw [nums_length, rep_len v 0 n (Nat.zero_le _)]; simp; omega
  have hmin : [Value.int .i64 v].length = Nat.min 1 n := by show 1 = Nat.min 1 n; simp [Nat.min_def]; omega
  have hone : ∀ x ∈ [Value.int .i64 v], x.oneCell' = true := by simp [Value.oneCell']
  have hsrc : ∀ (j : Nat) (x : Value), [Value.int .i64 v][j]? = some x → w2.cell? (ad.add j) = some x := by
    intro j x hj
    cases j with
    | zero => simp at hj; subst hj; rw [add_zero']; exact hcx
    | succ j => simp at hj
  have HH := Aside0.mk (And.intro hrow (And.intro hbel (And.intro hfit (And.intro hmin (And.intro hone hsrc)))))
  have HSp := Aside0.mk (rep_splice v 0 1 n (by omega))
  clear hrow hbel hcx hfit hmin hone hsrc hgg HMade mk
  generalize hg : w.heap.size = g at *
  have HG := Aside0.mk hg
  clear hg
  go_wp2_with ((with_reducible refine gate_dst (N := 33) rfl ?_); refine wpList_copy_splice rfl (.tmp 31) (.tmp 32) 66 66 rfl 3 Tryd.underlying66 HSZ.out (some ⟨g, 0, none⟩) (some ad) n n 1 c rfl rfl g 0 (nums .i64 (rep v 0 n)) 3 HH.out.1 [.int .i64 v] HH.out.2.2.2.1 (fun _ => ⟨rfl, ad, rfl, HH.out.2.2.2.2.2⟩) HH.out.2.2.1 HH.out.2.2.2.2.1 g w HH.out.2.1 (Nat.le_refl _) ?_; intro w3 hr3 hb3; have HR3 := Aside0.mk hr3; have HB3 := Aside0.mk hb3; clear hr3 hb3)
  have HR4 : Aside0 (w3.heap[g]? = some (.cells (nums .i64 (rep v 1 n)).toArray 3 (0, 0))) := ⟨by
    have h : w3.heap[g]? = some (.cells (splice (nums .i64 (rep v 0 n)) 0 [.int .i64 v]).toArray 3 (0, 0)) := HR3.out
    have h2 := HSp.out
    rw [Nat.zero_add] at h2
    rw [← h2]
    exact h⟩
  clear HR3 HH HSp
  go_loopg [8] n (fun kq v8 wr => ∃ k : Nat, v8 = .int .i64 k ∧ 1 ≤ k ∧ k ≤ n ∧ Aside0 (kq = n - k + 1) ∧ Aside0 (wr.heap[g]? = some (.cells (nums .i64 (rep v k n)).toArray 3 (0, 0))) ∧ Aside0 (Below g w wr))
  case atStart => exact ⟨1, rfl, Nat.le_refl _, h0, ⟨by omega⟩, HR4, HB3⟩
  case round =>
    obtain ⟨k, rfl, hk1, hk, HK, HR, HB⟩ := hrel
    by_cases hlt : k < n
    · have hlt' : (k : Int) < (n : Int) := by omega
      obtain ⟨q, hq⟩ : ∃ q, q = Nat.min k (n - k) := ⟨_, rfl⟩
      have hq1 : k + q ≤ n := by rw [hq]; simp only [Nat.min_def]; split <;> omega
      have hq2 : 1 ≤ q := by rw [hq]; simp only [Nat.min_def]; split <;> omega
      have hq3 : q ≤ k := by rw [hq]; simp only [Nat.min_def]; split <;> omega
      have hqi : (q : Int) ≤ 1000000 := by omega
      have hfit : k + (nums .i64 (List.replicate q v)).length ≤ (nums .i64 (rep v k n)).length := by rw [nums_length, nums_length, rep_len v k n hk, List.length_replicate]; exact hq1
      have hmin : (nums .i64 (List.replicate q v)).length = Nat.min k (n - k) := by rw [nums_length, List.length_replicate]; exact hq
      have hone : ∀ x ∈ nums .i64 (List.replicate q v), x.oneCell' = true := by
        intro x hx
        unfold nums at hx
        obtain ⟨y, _, rfl⟩ := List.mem_map.1 hx
        rfl
      have hsrc : ∀ (j : Nat) (x : Value), (nums .i64 (List.replicate q v))[j]? = some x → wr.cell? ((⟨g, 0, none⟩ : Addr).add j) = some x := by
        intro j x hj
        have hjl := (List.getElem?_eq_some_iff.1 hj).1
        rw [nums_length, List.length_replicate] at hjl
        rw [add_plain]
        have hrw : IRow wr g 3 (rep v k n) := HR.out
        rw [hrw.cell j (by rw [rep_len v k n hk]; omega)]
        rw [nums_at _ j (by rw [List.length_replicate]; exact hjl)] at hj
        rw [← hj]
        congr 2
        unfold rep
        rw [List.getD_eq_getElem?_getD, List.getElem?_append_left (by rw [List.length_replicate]; omega), List.getD_eq_getElem?_getD, List.getElem?_replicate, List.getElem?_replicate, if_pos (by omega), if_pos hjl]
      have HH := Aside0.mk (And.intro hfit (And.intro hmin (And.intro hone hsrc)))
      have HSp := Aside0.mk (rep_splice v k q n hq1)
      have HQ1 := Aside0.mk hq1
      have HQ2 := Aside0.mk hq2
      have HQL : Aside0 ((nums .i64 (List.replicate q v)).length = q) := ⟨by rw [nums_length, List.length_replicate]⟩
      clear hfit hmin hone hsrc hq hq1 hq2 hq3
      go_upto_region 9 with fail
      go_region_law (refine step_copy_splice rfl (.tmp 41) (.tmp 44) 66 66 rfl 3 Tryd.underlying66 HSZ.out (some ⟨g, k, none⟩) (some ⟨g, 0, none⟩) (n - k) (n - k) k n (by first | (simp [Act.eval, Act.put]; done) | (simp [Act.eval, Act.put]; omega)) (by first | (simp [Act.eval, Act.put]; done) | (simp [Act.eval, Act.put]; omega)) g k (nums .i64 (rep v k n)) 3 HR.out (nums .i64 (List.replicate q v)) HH.out.2.1 (fun _ => ⟨rfl, ⟨g, 0, none⟩, rfl, HH.out.2.2.2⟩) HH.out.1 HH.out.2.2.1 g w (below_drew HB.out) (Nat.le_refl _) ?_; intro w4 hr4 hb4; have HR5 := Aside0.mk hr4; have HB5 := Aside0.mk hb4; clear hr4 hb4)
      all_goals (go_wp2_with fail)
      all_goals
        have e1 : IntKind.i64.wrap ((k : Int) + ((nums .i64 (List.replicate q v)).length : Nat)) = ((k + q : Nat) : Int) := by rw [HQL.out, IntKind.wrap_i64]; have := HQ1.out; omega
        rw [e1]
        go_roundg (n - (k + q) + 1)
        case measure => have h1 := HK.out; have h2 := HQ1.out; have h3 := HQ2.out; omega
        case rel =>
          refine ⟨k + q, rfl, by have := HQ2.out; omega, HQ1.out, ⟨rfl⟩, ⟨?_⟩, HB5⟩
          have h : w4.heap[g]? = some (.cells (splice (nums .i64 (rep v k n)) k (nums .i64 (List.replicate q v))).toArray 3 (0, 0)) := HR5.out
          rw [HSp.out] at h
          exact h
    · have hkn : k = n := by omega
      have hlt' : ¬ (k : Int) < (n : Int) := by omega
      have HF : Aside0 (IRow wr g 3 (List.replicate n v)) := ⟨by
        have h := HR.out
        rw [hkn] at h
        have e : rep v n n = List.replicate n v := by unfold rep; simp
        rw [e] at h
        exact h⟩
      clear hkn
      go_wp2_with fail
      go_ret
      exact ⟨g, rfl, by rw [HG.out]; exact Nat.le_refl _, HF.out, by rw [HG.out]; exact HB.out⟩
end Go.Proofs.YthpnncbndnjoaaaDoor.My

/- The walk of huff.Fixed, and the document's. -/
namespace Go.Proofs.YthpnncbndnjoaaaDoor.My
open Go.RowKit Go.Proofs.YthpnncbndnjoaaaDoor.PMul Go.Proofs.YthpnncbndnjoaaaDoor.PGzipPacks Go.Proofs.YthpnncbndnjoaaaDoorW.PrintWords Go.Proofs.YthpnncbndnjoaaaDoorW.PrintLast Go.Proofs.YthpnncbndnjoaaaDoorW.PrintMore
set_option maxRecDepth 100000
set_option linter.unusedVariables false
set_option linter.unusedSimpArgs false

def letters : List Int := List.replicate 144 8 ++ (List.replicate 112 9 ++ (List.replicate 24 7 ++ List.replicate 8 8))
def dists : List Int := List.replicate 30 5
def letV (u : Nat) : Int := if 144 ≤ u ∧ u < 256 then 9 else if 256 ≤ u ∧ u < 280 then 7 else 8
def upTo (v : Nat → Int) (n i : Nat) : List Int := (List.range n).map fun u => if u < i then v u else 0
theorem upTo_len (v : Nat → Int) (n i : Nat) : (upTo v n i).length = n := by simp [upTo]
theorem upTo_set (v : Nat → Int) (n i : Nat) (x : Int) (hx : x = v i) : (upTo v n i).set i x = upTo v n (i + 1) := by
  apply List.ext_getElem
  · simp [upTo]
  · intro j a b
    rw [List.getElem_set]
    simp only [upTo, List.getElem_map, List.getElem_range]
    split
    · next e => subst e; rw [if_pos (by omega), hx]
    · next e =>
      by_cases h : j < i
      · rw [if_pos h, if_pos (by omega)]
      · rw [if_neg h, if_neg (by omega)]
theorem upTo_more (v : Nat → Int) (n i : Nat) (h : n ≤ i) : upTo v n (i + 1) = upTo v n i := by
  unfold upTo
  apply List.map_congr_left
  intro u hu
  have := List.mem_range.1 hu
  rw [if_pos (by omega), if_pos (by omega)]
theorem fix_step (k i : Nat) (hi : i < 288) : crossdockref07_Fixed.l0 (k + 4) (upTo letV 288 i) (upTo (fun _ => 5) 30 i) (i : Int) = crossdockref07_Fixed.l0 k (upTo letV 288 (i + 1)) (upTo (fun _ => 5) 30 (i + 1)) ((i + 1 : Nat) : Int) := by
  have w1 : wrap64 ((i : Int) + 1) = ((i + 1 : Nat) : Int) := by unfold wrap64; omega
  have h3 : ∀ (X : List Int), X.length = 288 → ∀ b : Bool, (b = true → X.set i 7 = upTo letV 288 (i + 1)) → (b = false → X = upTo letV 288 (i + 1)) → crossdockref07_Fixed.j3 (k + 1) X (upTo (fun _ => 5) 30 i) (i : Int) b = crossdockref07_Fixed.l0 k (upTo letV 288 (i + 1)) (upTo (fun _ => 5) 30 (i + 1)) ((i + 1 : Nat) : Int) := by
    intro X hX b h1 h2
    simp only [crossdockref07_Fixed.j3, upTo_len, hX, Int.toNat_natCast, Option.bind_some, w1]
    by_cases h30 : i < 30
    · cases b with
      | true => rw [if_pos rfl, if_pos (by omega), if_pos (by omega), if_pos (by omega), if_pos (by omega), h1 rfl, upTo_set _ _ _ _ rfl]
      | false => rw [if_neg (by decide), if_pos (by omega), if_pos (by omega), if_pos (by omega), h2 rfl, upTo_set _ _ _ _ rfl]
    · cases b with
      | true => rw [if_pos rfl, if_pos (by omega), if_pos (by omega), if_neg (by omega), h1 rfl, upTo_more (fun _ => 5) 30 i (by omega)]
      | false => rw [if_neg (by decide), if_neg (by omega), h2 rfl, upTo_more (fun _ => 5) 30 i (by omega)]
  have h0 : ∀ k', crossdockref07_Fixed.l0 (k' + 1) (upTo letV 288 i) (upTo (fun _ => 5) 30 i) (i : Int) = crossdockref07_Fixed.j1 k' ((upTo letV 288 i).set i 8) (upTo (fun _ => 5) 30 i) (i : Int) (decide (144 ≤ i ∧ i < 256)) := by
    intro k'
    simp only [crossdockref07_Fixed.l0, upTo_len, Int.toNat_natCast, Option.bind_some]
    rw [if_pos (by omega), if_pos (by omega), if_pos (by omega)]
    by_cases h : 144 ≤ i
    · rw [if_pos (by omega), show decide ((i : Int) < 256) = decide (144 ≤ i ∧ i < 256) from decide_eq_decide.2 (by omega)]
    · rw [if_neg (by omega), show decide (144 ≤ i ∧ i < 256) = false from decide_eq_false (by omega)]
  rw [show k + 4 = (k + 3) + 1 from rfl, h0, show k + 3 = (k + 2) + 1 from rfl]
  have h1 : ∀ k', crossdockref07_Fixed.j1 (k' + 1) ((upTo letV 288 i).set i 8) (upTo (fun _ => 5) 30 i) (i : Int) (decide (144 ≤ i ∧ i < 256)) = crossdockref07_Fixed.j2 k' ((upTo letV 288 i).set i (if 144 ≤ i ∧ i < 256 then 9 else 8)) (upTo (fun _ => 5) 30 i) (i : Int) := by
    intro k'
    simp only [crossdockref07_Fixed.j1, List.length_set, upTo_len, Int.toNat_natCast, List.set_set]
    by_cases h : 144 ≤ i ∧ i < 256
    · rw [decide_eq_true h, if_pos rfl, if_pos (by omega), if_pos (by omega), if_pos h]
    · rw [decide_eq_false h, if_neg (by decide), if_neg h]
  rw [h1, show k + 2 = (k + 1) + 1 from rfl]
  simp only [crossdockref07_Fixed.j2]
  by_cases h256 : 256 ≤ i
  · rw [if_pos (by omega)]
    refine h3 _ (by simp [upTo_len]) _ (fun hb => ?_) (fun hb => ?_)
    · have := of_decide_eq_true hb
      rw [List.set_set]
      exact upTo_set _ _ _ _ (by unfold letV; rw [if_neg (by omega), if_pos (by omega)])
    · have := of_decide_eq_false hb
      rw [if_neg (by omega)]
      exact upTo_set _ _ _ _ (by unfold letV; rw [if_neg (by omega), if_neg (by omega)])
  · rw [if_neg (by omega)]
    refine h3 _ (by simp [upTo_len]) _ (fun hb => by cases hb) (fun hb => ?_)
    by_cases h : 144 ≤ i
    · rw [if_pos (by omega)]
      exact upTo_set _ _ _ _ (by unfold letV; rw [if_pos (by omega)])
    · rw [if_neg (by omega)]
      exact upTo_set _ _ _ _ (by unfold letV; rw [if_neg (by omega), if_neg (by omega)])
theorem fix_run (k : Nat) : ∀ d i, i + d = 288 → crossdockref07_Fixed.l0 (k + 4 * d + 1) (upTo letV 288 i) (upTo (fun _ => 5) 30 i) (i : Int) = some (upTo letV 288 288, upTo (fun _ => 5) 30 288)
  | 0, i, h => by
    obtain rfl : i = 288 := by omega
    simp only [crossdockref07_Fixed.l0]
    rw [if_neg (by decide)]
  | d + 1, i, h => by
    rw [show k + 4 * (d + 1) + 1 = (k + 4 * d + 1) + 4 by omega, fix_step _ i (by omega)]
    exact fix_run k d (i + 1) (by omega)
theorem letters_eq : upTo letV 288 288 = letters := by decide +kernel
theorem dists_eq : upTo (fun _ => 5) 30 288 = dists := by decide +kernel
theorem doc_fixed : crossdockref07_Fixed.f (0 + 4 * 288 + 1) = some (letters, dists) := by
  unfold crossdockref07_Fixed.f
  rw [if_pos (by decide), if_pos (by decide), ← letters_eq, ← dists_eq]
  have h := fix_run 0 288 0 rfl
  have e1 : upTo letV 288 0 = List.replicate 288 0 := by decide +kernel
  have e2 : upTo (fun _ => 5) 30 0 = List.replicate 30 0 := by decide +kernel
  rw [e1, e2] at h
  exact h
theorem mul144 : bits_Mul.f 1 ((144 : Nat) : Int) = some (0, ((144 : Nat) : Int)) := by decide +kernel
theorem mul112 : bits_Mul.f 1 ((112 : Nat) : Int) = some (0, ((112 : Nat) : Int)) := by decide +kernel
theorem mul24 : bits_Mul.f 1 ((24 : Nat) : Int) = some (0, ((24 : Nat) : Int)) := by decide +kernel
theorem mul8 : bits_Mul.f 1 ((8 : Nat) : Int) = some (0, ((8 : Nat) : Int)) := by decide +kernel
theorem mul30 : bits_Mul.f 1 ((30 : Nat) : Int) = some (0, ((30 : Nat) : Int)) := by decide +kernel
/-- Repeat of a number just laid. -/
theorem rep_calls (w : World) (v : Int) (n : Nat) (h0 : 0 < n) (hn : n ≤ 1000000) (hm : bits_Mul.f 1 n = some (0, (n : Int))) :
    Calls Tryd.prog 70 #[.slice (some ⟨w.heap.size, 0, none⟩) 1 1, .int .i64 n] (w.alloc (.cells #[.int .i64 v] 3)) fun e w' => ∃ g, e = .returned (.slice (some ⟨g, 0, none⟩) n n) ∧ w.heap.size ≤ g ∧ IRow w' g 3 (List.replicate n v) ∧ Below w.heap.size w w' := by
  have hb : Below w.heap.size w (w.alloc (.cells #[.int .i64 v] 3)) := below_alloc (Below.refl _ _) _
  refine (repeat_calls (w.alloc (.cells #[.int .i64 v] 3)) ⟨w.heap.size, 0, none⟩ 1 v n ?_ h0 hn hm).mono ?_
  · have h : IRow (w.alloc (.cells #[.int .i64 v] 3)) w.heap.size 3 [v] := alloc_self _ _
    exact h.cell 0 (by simp)
  · rintro e w' ⟨g, rfl, h1, h2, h3⟩
    exact ⟨g, rfl, Nat.le_trans hb.size h1, h2, below_then hb hb.size h3⟩
set_option maxHeartbeats 4000000 in
set_option maxRecDepth 100000 in
theorem fixed_calls (w : World) : Calls Tryd.prog 53 #[] w fun e w' => ∃ (A1 A2 : Option Addr) (c1 c2 : Nat), e = .returned (.tuple #[.slice A1 288 c1, .slice A2 30 c2]) ∧ (Kd.int .i64).C w' A1 288 letters ∧ (∃ g, A2 = some ⟨g, 0, none⟩ ∧ c2 = 30 ∧ w.heap.size ≤ g ∧ IRow w' g 3 dists) ∧ 288 ≤ c1 ∧ Below w.heap.size w w' := by
  have H1 : Aside0 (∀ wx, Calls Tryd.prog 70 #[.slice (some ⟨wx.heap.size, 0, none⟩) 1 1, .int .i64 144] (wx.alloc (.cells #[.int .i64 8] 3)) fun e w' => ∃ g, e = .returned (.slice (some ⟨g, 0, none⟩) 144 144) ∧ wx.heap.size ≤ g ∧ IRow w' g 3 (List.replicate 144 8) ∧ Below wx.heap.size wx w') := ⟨fun wx => rep_calls wx 8 144 (by decide) (by decide) mul144⟩
  have H2 : Aside0 (∀ wx, Calls Tryd.prog 70 #[.slice (some ⟨wx.heap.size, 0, none⟩) 1 1, .int .i64 112] (wx.alloc (.cells #[.int .i64 9] 3)) fun e w' => ∃ g, e = .returned (.slice (some ⟨g, 0, none⟩) 112 112) ∧ wx.heap.size ≤ g ∧ IRow w' g 3 (List.replicate 112 9) ∧ Below wx.heap.size wx w') := ⟨fun wx => rep_calls wx 9 112 (by decide) (by decide) mul112⟩
  have H3 : Aside0 (∀ wx, Calls Tryd.prog 70 #[.slice (some ⟨wx.heap.size, 0, none⟩) 1 1, .int .i64 24] (wx.alloc (.cells #[.int .i64 7] 3)) fun e w' => ∃ g, e = .returned (.slice (some ⟨g, 0, none⟩) 24 24) ∧ wx.heap.size ≤ g ∧ IRow w' g 3 (List.replicate 24 7) ∧ Below wx.heap.size wx w') := ⟨fun wx => rep_calls wx 7 24 (by decide) (by decide) mul24⟩
  have H4 : Aside0 (∀ wx, Calls Tryd.prog 70 #[.slice (some ⟨wx.heap.size, 0, none⟩) 1 1, .int .i64 8] (wx.alloc (.cells #[.int .i64 8] 3)) fun e w' => ∃ g, e = .returned (.slice (some ⟨g, 0, none⟩) 8 8) ∧ wx.heap.size ≤ g ∧ IRow w' g 3 (List.replicate 8 8) ∧ Below wx.heap.size wx w') := ⟨fun wx => rep_calls wx 8 8 (by decide) (by decide) mul8⟩
  have H5 : Aside0 (∀ wx, Calls Tryd.prog 70 #[.slice (some ⟨wx.heap.size, 0, none⟩) 1 1, .int .i64 30] (wx.alloc (.cells #[.int .i64 5] 3)) fun e w' => ∃ g, e = .returned (.slice (some ⟨g, 0, none⟩) 30 30) ∧ wx.heap.size ≤ g ∧ IRow w' g 3 (List.replicate 30 5) ∧ Below wx.heap.size wx w') := ⟨fun wx => rep_calls wx 5 30 (by decide) (by decide) mul30⟩
  go_enter Tryd.func53, Tryd.ntmps53
  go_wp2_with fail
  refine (H1.out _).mono ?_
  rintro e w1 ⟨g1, rfl, hg1, hr1, hb1⟩
  go_wp2_with fail
  refine (H2.out _).mono ?_
  rintro e w2 ⟨g2, rfl, hg2, hr2, hb2⟩
  go_wp2_with fail
  refine (H3.out _).mono ?_
  rintro e w3 ⟨g3, rfl, hg3, hr3, hb3⟩
  go_wp2_with fail
  refine (H4.out _).mono ?_
  rintro e w4 ⟨g4, rfl, hg4, hr4, hb4⟩
  have q1 := ((hr1.below hb2).below hb3).below hb4
  have q2 := (hr2.below hb3).below hb4
  have q3 := hr3.below hb4
  have HB := Aside0.mk (below_then (below_then (below_then hb1 hb1.size hb2) (Nat.le_trans hb1.size hb2.size) hb3) (Nat.le_trans (Nat.le_trans hb1.size hb2.size) hb3.size) hb4)
  have HQ := Aside0.mk (And.intro q1 (And.intro q2 (And.intro q3 hr4)))
  clear hr1 hr2 hr3 hr4 hb1 hb2 hb3 hb4 q1 q2 q3 hg1 hg2 hg3 hg4
  have HA : Aside0 (∀ i, i < 4 → ∃ (A : Option Addr) (c : Nat), (w4.alloc (.cells #[.slice (some ⟨g1, 0, none⟩) 144 144, .slice (some ⟨g2, 0, none⟩) 112 112, .slice (some ⟨g3, 0, none⟩) 24 24, .slice (some ⟨g4, 0, none⟩) 8 8] 66)).cell? ⟨w4.heap.size, i, none⟩ = some (.slice A ([List.replicate 144 8, List.replicate 112 9, List.replicate 24 7, List.replicate 8 (8 : Int)].getD i []).length c) ∧ (Kd.int .i64).C (w4.alloc (.cells #[.slice (some ⟨g1, 0, none⟩) 144 144, .slice (some ⟨g2, 0, none⟩) 112 112, .slice (some ⟨g3, 0, none⟩) 24 24, .slice (some ⟨g4, 0, none⟩) 8 8] 66)) A ([List.replicate 144 8, List.replicate 112 9, List.replicate 24 7, List.replicate 8 (8 : Int)].getD i []).length ([List.replicate 144 8, List.replicate 112 9, List.replicate 24 7, List.replicate 8 (8 : Int)].getD i [])) := ⟨fun i hi => by
    have hbe := below_alloc (Below.refl w4.heap.size w4) (.cells #[.slice (some ⟨g1, 0, none⟩) 144 144, .slice (some ⟨g2, 0, none⟩) 112 112, .slice (some ⟨g3, 0, none⟩) 24 24, .slice (some ⟨g4, 0, none⟩) 8 8] 66)
    have hc := blk_cell (alloc_self w4 (.cells #[.slice (some ⟨g1, 0, none⟩) 144 144, .slice (some ⟨g2, 0, none⟩) 112 112, .slice (some ⟨g3, 0, none⟩) 24 24, .slice (some ⟨g4, 0, none⟩) 8 8] 66))
    have : i = 0 ∨ i = 1 ∨ i = 2 ∨ i = 3 := by omega
    rcases this with rfl | rfl | rfl | rfl
    · exact ⟨_, _, hc 0, by have := (HQ.out.1.below hbe).reads (by simp); exact this⟩
    · exact ⟨_, _, hc 1, by have := (HQ.out.2.1.below hbe).reads (by simp); exact this⟩
    · exact ⟨_, _, hc 2, by have := (HQ.out.2.2.1.below hbe).reads (by simp); exact this⟩
    · exact ⟨_, _, hc 3, by have := (HQ.out.2.2.2.below hbe).reads (by simp); exact this⟩⟩
  have HC := Aside0.mk (concat_calls _ w4.heap.size 4 [List.replicate 144 8, List.replicate 112 9, List.replicate 24 7, List.replicate 8 (8 : Int)] letters rfl rfl (by decide) (by decide +kernel) (by decide +kernel) HA.out)
  have hll : letters.length = 288 := by decide +kernel
  have HB4 := Aside0.mk (below_then HB.out HB.out.size (below_alloc (Below.refl w4.heap.size w4) (.cells #[.slice (some ⟨g1, 0, none⟩) 144 144, .slice (some ⟨g2, 0, none⟩) 112 112, .slice (some ⟨g3, 0, none⟩) 24 24, .slice (some ⟨g4, 0, none⟩) 8 8] 66)))
  rw [hll] at HC
  clear hll HA HQ H1 H2 H3 H4
  go_wp2_with fail
  refine (HC.out).mono ?_
  rintro e w5 ⟨v5, rfl, ho5, hb5⟩
  obtain ⟨A5, c5, rfl, hc5, hC5⟩ := own_slice' ho5
  have HB5 := Aside0.mk (below_then HB4.out HB4.out.size hb5)
  have HC5 := Aside0.mk hC5
  clear ho5 hb5 hC5
  go_wp2_with fail
  refine (H5.out _).mono ?_
  rintro e w6 ⟨g6, rfl, hg6, hr6, hb6⟩
  have HB6 := Aside0.mk (below_then HB5.out HB5.out.size hb6)
  have HC6 := Aside0.mk (And.intro (Kd.C_below HC5.out hb6) hr6)
  have HH := Aside0.mk hc5
  have HG6 := Aside0.mk (Nat.le_trans HB5.out.size hg6)
  clear hg6 hr6 hb6 hc5
  go_wp2_with fail
  go_ret2
  exact ⟨A5, _, c5, 30, rfl, HC6.out.1, ⟨g6, rfl, rfl, HG6.out, HC6.out.2⟩, HH.out, HB6.out⟩
end Go.Proofs.YthpnncbndnjoaaaDoor.My

/- The fixed lengths: how many, and how great; what tokens come to in bits. -/
namespace Go.Proofs.YthpnncbndnjoaaaDoor.My
open Go.RowKit Go.Proofs.YthpnncbndnjoaaaDoor.Huf
set_option maxRecDepth 100000
set_option linter.unusedVariables false
set_option linter.unusedSimpArgs false
def fixD : List Int := dists ++ [5, 5]
theorem letters_len' : letters.length = 288 := by decide +kernel
theorem fixD_len' : fixD.length = 32 := by decide +kernel
def Bs.ok (b : Bs) : Prop := b.V < 2 ^ b.N
theorem Bs.put_ok {b : Bs} (h : b.ok) {x n : Nat} (hx : x < 2 ^ n) : (b.put x n).ok := val_lt h hx
def L15 (L : List Int) : Prop := ∀ s, (L.getD s 0).toNat ≤ 15
theorem sg_ok {L : List Int} (h15 : L15 L) {b : Bs} (h : b.ok) (s : Nat) : (sgB L b s).ok := Bs.put_ok h (rv_lt _ _ (by have := h15 s; omega))
theorem sg_N {L : List Int} (h15 : L15 L) (b : Bs) (s : Nat) : (sgB L b s).N ≤ b.N + 15 := by have := h15 s; show b.N + _ ≤ _; omega
theorem letters15 : L15 letters := by
  intro s
  by_cases h : s < 288
  · have : ∀ i : Fin 288, (letters.getD i.val 0).toNat ≤ 15 := by decide +kernel
    exact this ⟨s, h⟩
  · rw [List.getD_eq_getElem?_getD, List.getElem?_eq_none (by rw [letters_len']; omega)]; decide
theorem fixD15 : L15 fixD := by
  intro s
  by_cases h : s < 32
  · have : ∀ i : Fin 32, (fixD.getD i.val 0).toNat ≤ 15 := by decide +kernel
    exact this ⟨s, h⟩
  · rw [List.getD_eq_getElem?_getD, List.getElem?_eq_none (by rw [fixD_len']; omega)]; decide
theorem tokB_N (b : Bs) {k : Tk} (hk : TkOk k) : (tokB letters fixD b k).N ≤ b.N + 60 := by
  unfold tokB
  split
  · have := sg_N letters15 b k.b.toNat; omega
  · rename_i h
    obtain ⟨h1, h2, h3, h4⟩ := hk.l.resolve_left h
    have a := (lenS_ok k.l h1 h2).k
    have c := (disS_ok k.d h3 h4).k
    have n1 := sg_N letters15 b (lenS k.l).1
    have n3 := sg_N fixD15 ((sgB letters b (lenS k.l).1).put (lenS k.l).2.1 (lenS k.l).2.2) (disS k.d).1
    show (sgB fixD ((sgB letters b (lenS k.l).1).put (lenS k.l).2.1 (lenS k.l).2.2) (disS k.d).1).N + (disS k.d).2.2 ≤ _
    have n2 : ((sgB letters b (lenS k.l).1).put (lenS k.l).2.1 (lenS k.l).2.2).N = (sgB letters b (lenS k.l).1).N + (lenS k.l).2.2 := rfl
    omega
theorem tokB_ok {b : Bs} (hb : b.ok) {k : Tk} (hk : TkOk k) : (tokB letters fixD b k).ok ∧ (tokB letters fixD b k).N ≤ b.N + 60 := by
  unfold tokB
  split
  · exact ⟨sg_ok letters15 hb _, by have := sg_N letters15 b k.b.toNat; omega⟩
  · rename_i h
    obtain ⟨h1, h2, h3, h4⟩ := hk.l.resolve_left h
    have hl := lenS_ok k.l h1 h2
    have hd := disS_ok k.d h3 h4
    have o1 := sg_ok letters15 hb (lenS k.l).1
    have o2 := Bs.put_ok o1 hl.m
    have o3 := sg_ok fixD15 o2 (disS k.d).1
    refine ⟨Bs.put_ok o3 hd.m, ?_⟩
    have n1 := sg_N letters15 b (lenS k.l).1
    have n3 := sg_N fixD15 ((sgB letters b (lenS k.l).1).put (lenS k.l).2.1 (lenS k.l).2.2) (disS k.d).1
    have a := hl.k
    have c := hd.k
    show (sgB fixD ((sgB letters b (lenS k.l).1).put (lenS k.l).2.1 (lenS k.l).2.2) (disS k.d).1).N + (disS k.d).2.2 ≤ _
    have n2 : ((sgB letters b (lenS k.l).1).put (lenS k.l).2.1 (lenS k.l).2.2).N = (sgB letters b (lenS k.l).1).N + (lenS k.l).2.2 := rfl
    omega
theorem fold_ok : ∀ (T : List Tk), (∀ k ∈ T, TkOk k) → ∀ b : Bs, b.ok → (T.foldl (tokB letters fixD) b).ok ∧ (T.foldl (tokB letters fixD) b).N ≤ b.N + 60 * T.length
  | [], _, b, hb => ⟨hb, by simp⟩
  | k :: T, hT, b, hb => by
    have h1 := tokB_ok hb (hT k (by simp))
    have h2 := fold_ok T (fun x hx => hT x (by simp [hx])) _ h1.1
    exact ⟨h2.1, by have := h1.2; have := h2.2; simp only [List.foldl_cons, List.length_cons]; omega⟩
end Go.Proofs.YthpnncbndnjoaaaDoor.My

/- The walks of the packer: put, a sign, a token. -/
namespace Go.Proofs.YthpnncbndnjoaaaDoor.My
open Go.RowKit Go.Proofs.YthpnncbndnjoaaaDoor.Huf Go.Proofs.YthpnncbndnjoaaaDoorW.PrintWords Go.Proofs.YthpnncbndnjoaaaDoorW.PrintLast Go.Proofs.YthpnncbndnjoaaaDoorW.PrintMore
set_option maxRecDepth 100000
set_option linter.unusedVariables false
set_option linter.unusedSimpArgs false

/-! ### Frames -/
theorem Grew.of_below {w w1 : World} (h : Below w.heap.size w w1) (g : Nat) (v : Value) : Grew w w1 g v v := ⟨h.os, h.tape, h.output, KeepBut.of_below h g _, .inl rfl⟩
theorem Grew.obj {w w1 : World} {g k : Nat} {v v1 : Value} {o : Obj} (h : Grew w w1 g v v1) (ho : w.heap[k]? = some o) (h1 : k ≠ g) (h2 : some k ≠ v.ownBlock) : w1.heap[k]? = some o := by
  have hlt : k < w.heap.size := by
    rcases Nat.lt_or_ge k w.heap.size with hlt | hge
    · exact hlt
    · rw [Array.getElem?_eq_none hge] at ho; cases ho
  exact (h.keep.2 k hlt h1 h2).trans ho
theorem cell_same {w w1 : World} {ad : Addr} (h : w1.heap[ad.block]? = w.heap[ad.block]?) : w1.cell? ad = w.cell? ad := by
  unfold World.cell?
  rw [h]
theorem RB.same {w w1 : World} {lo hi : Nat} {A : Option Addr} {n : Nat} {xs : List Int} (h : RB w lo hi A n xs) (hs : ∀ k, lo ≤ k → k < hi → w1.heap[k]? = w.heap[k]?) : RB w1 lo hi A n xs := by
  refine ⟨C_of_readsInt ?_, h.b⟩
  obtain ⟨h1, h2, h3⟩ := reads_of_C h.c
  refine ⟨h1, h2, fun hn => ?_⟩
  obtain ⟨ad, e, hc⟩ := h3 hn
  refine ⟨ad, e, fun j hj => ?_⟩
  have hb := h.b ad e
  have e2 := cell_same (w := w) (w1 := w1) (ad := ad.add j) (by rw [add_block]; exact hs ad.block hb.1 hb.2)
  rw [e2]
  exact hc j hj
theorem CodeAt.same {w w1 : World} {lo hi g : Nat} {L : List Int} (h : CodeAt w lo hi g L) (hs : ∀ k, lo ≤ k → k < hi → w1.heap[k]? = w.heap[k]?) : CodeAt w1 lo hi g L := by
  obtain ⟨A, A1, A2, c, c1, c2, S, k, r0, r1, r2, hS, h1, h2⟩ := h.out
  exact ⟨A, A1, A2, c, c1, c2, S, ⟨(hs g h1 h2).trans k.blk, k.lf, k.lm, k.lb⟩, r0.same hs, r1.same hs, r2.same hs, hS, h1, h2⟩
theorem CodeAt.mono {w : World} {lo hi lo' hi' g : Nat} {L : List Int} (h : CodeAt w lo hi g L) (h1 : lo' ≤ lo) (h2 : hi ≤ hi') : CodeAt w lo' hi' g L := by
  obtain ⟨A, A1, A2, c, c1, c2, S, k, r0, r1, r2, hS, h3, h4⟩ := h.out
  exact ⟨A, A1, A2, c, c1, c2, S, k, r0.mono h1 h2, r1.mono h1 h2, r2.mono h1 h2, hS, by omega, by omega⟩
theorem Writ.below' {w w1 : World} {B g : Nat} {v : Value} {V N : Nat} (k : Writ w B g v V N) (h : Below w.heap.size w w1) : Writ w1 B g v V N := ⟨⟨blk_below k.wr.blk h, pw_own_below k.wr.row h, k.wr.bg⟩, k.lt⟩
/-- A packer: its own block, its writer. -/
structure Pk (w : World) (gp gw : Nat) (pa pb v : Value) (b : Bs) : Prop where
  blk : w.heap[gp]? = some (.cells #[.pointer (some ⟨gw, 0, none⟩), pa, pb] 60 (0, 0))
  wri : Writ w gw gw v b.V b.N
  lt : gw < gp
theorem Pk.step {w w1 : World} {gp gw : Nat} {pa pb v v1 : Value} {b b1 : Bs} (h : Pk w gp gw pa pb v b) (hw : Writ w1 gw gw v1 b1.V b1.N) (hg : Grew w w1 gw v v1) : Pk w1 gp gw pa pb v1 b1 :=
  ⟨hg.obj h.blk (by have := h.lt; omega) (own_ne h.wri.wr.row h.blk (by decide)), hw, h.lt⟩
theorem Pk.below {w w1 : World} {gp gw : Nat} {pa pb v : Value} {b : Bs} (h : Pk w gp gw pa pb v b) (hb : Below w.heap.size w w1) : Pk w1 gp gw pa pb v b :=
  h.step (h.wri.below' hb) (Grew.of_below hb gw v)
/-- With its codes, in blocks from lo up to hi. -/
structure Pks (w : World) (lo hi gp gw ga gb : Nat) (v : Value) (b : Bs) : Prop where
  pk : Pk w gp gw (.pointer (some ⟨ga, 0, none⟩)) (.pointer (some ⟨gb, 0, none⟩)) v b
  ca : CodeAt w lo hi ga letters
  cb : CodeAt w lo hi gb fixD
  glo : gw < lo
  hih : hi ≤ w.heap.size
  own : ∀ k, v.ownBlock = some k → hi ≤ k
theorem Pks.step {w w1 : World} {lo hi gp gw ga gb : Nat} {v v1 : Value} {b b1 : Bs} (h : Pks w lo hi gp gw ga gb v b) (hw : Writ w1 gw gw v1 b1.V b1.N) (hg : Grew w w1 gw v v1) : Pks w1 lo hi gp gw ga gb v1 b1 := by
  have hs : ∀ k, lo ≤ k → k < hi → w1.heap[k]? = w.heap[k]? := fun k h1 h2 => hg.keep.2 k (by have := h.hih; omega) (by have := h.glo; omega) (fun e => by have := h.own k e.symm; omega)
  refine ⟨h.pk.step hw hg, h.ca.same hs, h.cb.same hs, h.glo, Nat.le_trans h.hih hg.keep.1, fun k hk => ?_⟩
  rcases hg.at_ with e | ⟨q, e, hq⟩
  · rw [e] at hk; exact h.own k hk
  · rw [e] at hk; cases hk; exact Nat.le_trans h.hih hq
theorem Pks.below {w w1 : World} {lo hi gp gw ga gb : Nat} {v : Value} {b : Bs} (h : Pks w lo hi gp gw ga gb v b) (hb : Below w.heap.size w w1) : Pks w1 lo hi gp gw ga gb v b :=
  h.step (h.pk.wri.below' hb) (Grew.of_below hb gw v)
theorem Pk.cells {w : World} {gp gw : Nat} {pa pb v : Value} {b : Bs} (h : Pk w gp gw pa pb v b) : w.cell? ⟨gp, 0, none⟩ = some (.pointer (some ⟨gw, 0, none⟩)) ∧ w.cell? ⟨gp, 1, none⟩ = some pa ∧ w.cell? ⟨gp, 2, none⟩ = some pb ∧
    w.frozen? ⟨gp, 1, none⟩ = false ∧ w.frozen? ⟨gp, 2, none⟩ = false := by
  refine ⟨?_, ?_, ?_, ?_, ?_⟩ <;> first | (rw [blk_cell h.blk]; rfl) | exact blk_frozen h.blk _
theorem Pk.gwlt {w : World} {gp gw : Nat} {pa pb v : Value} {b : Bs} (h : Pk w gp gw pa pb v b) : gw ≤ w.heap.size := Nat.le_of_lt (blk_lt h.wri.wr.blk)

/-! ### put -/
theorem pput_calls (w : World) (gp gw : Nat) (pa pb v : Value) (b : Bs) (h : Pk w gp gw pa pb v b) (x n : Nat) (hx : x < 2 ^ n) (hn : n ≤ 32) (hN : b.N ≤ 1000000000) :
    Calls Tryd.prog 50 #[.pointer (some ⟨gp, 0, none⟩), .int .i64 x, .int .i64 n] w fun e w' => e = .returned (.tuple #[]) ∧ ∃ v', Writ w' gw gw v' (b.put x n).V (b.put x n).N ∧ Grew w w' gw v v' := by
  obtain ⟨c0, c1, c2, f1, f2⟩ := h.cells
  have hx32 : x < 4294967296 := Nat.lt_of_lt_of_le hx (Nat.pow_le_pow_right (n := 2) (by decide) hn)
  have hok : okW x n = true := decide_eq_true ⟨by omega, by omega, by simpa using hx⟩
  have HP : Aside0 (Calls Tryd.prog 67 #[.pointer (some ⟨gw, 0, none⟩), .int .u32 x, .int .i64 n] w fun e w' => e = .returned .nilIface ∧ ∃ v', Writ w' gw gw v' (b.put x n).V (b.put x n).N ∧ Grew w w' gw v v') := ⟨by
    refine (put_calls w gw gw v b.V b.N x n h.gwlt h.wri hx32 (by omega)).mono ?_
    rintro e w' ⟨rfl, h2⟩
    rcases h2 with ⟨h3, _⟩ | ⟨_, v', h3, h4⟩
    · rw [hok] at h3; cases h3
    · refine ⟨by unfold askE; rw [hok]; rfl, v', by rw [Int.toNat_natCast] at h3; exact h3, h4⟩⟩
  have hxi : (x : Int) < 4294967296 := by omega
  have hni : (n : Int) ≤ 32 := by omega
  clear h hx hn hN hok hx32
  go_enter Tryd.func50, Tryd.ntmps50
  go_wp2_with (first
    | (go_at_call 67; refine HP.out.mono ?_; rintro e w1 ⟨rfl, v', hW, hG⟩; have HW := Aside0.mk hW; have HG := Aside0.mk hG; clear hW hG)
    | (go_at_call 46; refine (pass_nil _).mono ?_; rintro e w2 ⟨rfl, rfl⟩))
  refine bodyPost_end (results_none rfl _ _ _) rfl ?_
  exact ⟨rfl, v', HW.out, HG.out⟩

/-! ### A sign -/
theorem has_of (L : List Int) (s : Nat) (hs : s < L.length) (h : 0 < L.getD s 0) : Has L s (L.getD s 0).toNat := ⟨hs, by omega, by omega⟩
theorem letters_ok : ∀ s : Fin 288, 0 < letters.getD s.val 0 ∧ letters.getD s.val 0 ≤ 15 ∧ code letters s.val < 2 ^ (letters.getD s.val 0).toNat := by decide +kernel
theorem fixD_ok : ∀ s : Fin 32, 0 < fixD.getD s.val 0 ∧ fixD.getD s.val 0 ≤ 15 ∧ code fixD s.val < 2 ^ (fixD.getD s.val 0).toNat := by decide +kernel
theorem csign (w : World) (lo hi g : Nat) (L : List Int) (k : CodeAt w lo hi g L) (hl : L.length ≤ 1000000) (gw : Nat) (v : Value) (b : Bs) (hB : gw ≤ w.heap.size) (hw : Writ w gw gw v b.V b.N) (hN : b.N ≤ 1000000000) (s : Nat) (hs : s < L.length) (h1 : 0 < L.getD s 0) (h2 : L.getD s 0 ≤ 15) (h3 : code L s < 2 ^ (L.getD s 0).toNat) :
    Calls Tryd.prog 57 #[.pointer (some ⟨g, 0, none⟩), .pointer (some ⟨gw, 0, none⟩), .int .i64 s] w fun e w' => e = .returned .nilIface ∧ ∃ v', Writ w' gw gw v' (sgB L b s).V (sgB L b s).N ∧ Grew w w' gw v v' := by
  refine (putc_calls w lo hi g L k hl gw gw v b.V b.N hB hw hN s (L.getD s 0).toNat (has_of L s hs h1) h3 (by omega)).mono ?_
  rintro e w' ⟨rfl, w1, v', hb, hW, hG⟩
  exact ⟨rfl, v', hW, (Grew.of_below hb gw v).trans hG⟩
theorem csignA (w : World) (lo hi gp gw ga gb : Nat) (v : Value) (b : Bs) (h : Pks w lo hi gp gw ga gb v b) (hN : b.N ≤ 1000000000) (s : Nat) (hs : s < 288) :
    Calls Tryd.prog 57 #[.pointer (some ⟨ga, 0, none⟩), .pointer (some ⟨gw, 0, none⟩), .int .i64 s] w fun e w' => e = .returned .nilIface ∧ ∃ v', Pks w' lo hi gp gw ga gb v' (sgB letters b s) ∧ Grew w w' gw v v' := by
  have k := letters_ok ⟨s, hs⟩
  refine (csign w lo hi ga letters h.ca (by rw [letters_len']; omega) gw v b h.pk.gwlt h.pk.wri hN s (by rw [letters_len']; exact hs) k.1 k.2.1 k.2.2).mono ?_
  rintro e w' ⟨rfl, v', hW, hG⟩
  exact ⟨rfl, v', h.step hW hG, hG⟩
theorem csignB (w : World) (lo hi gp gw ga gb : Nat) (v : Value) (b : Bs) (h : Pks w lo hi gp gw ga gb v b) (hN : b.N ≤ 1000000000) (s : Nat) (hs : s < 32) :
    Calls Tryd.prog 57 #[.pointer (some ⟨gb, 0, none⟩), .pointer (some ⟨gw, 0, none⟩), .int .i64 s] w fun e w' => e = .returned .nilIface ∧ ∃ v', Pks w' lo hi gp gw ga gb v' (sgB fixD b s) ∧ Grew w w' gw v v' := by
  have k := fixD_ok ⟨s, hs⟩
  refine (csign w lo hi gb fixD h.cb (by rw [fixD_len']; omega) gw v b h.pk.gwlt h.pk.wri hN s (by rw [fixD_len']; exact hs) k.1 k.2.1 k.2.2).mono ?_
  rintro e w' ⟨rfl, v', hW, hG⟩
  exact ⟨rfl, v', h.step hW hG, hG⟩
theorem pputs_calls (w : World) (lo hi gp gw ga gb : Nat) (v : Value) (b : Bs) (h : Pks w lo hi gp gw ga gb v b) (hN : b.N ≤ 1000000000) (x n : Nat) (hx : x < 2 ^ n) (hn : n ≤ 32) :
    Calls Tryd.prog 50 #[.pointer (some ⟨gp, 0, none⟩), .int .i64 x, .int .i64 n] w fun e w' => e = .returned (.tuple #[]) ∧ ∃ v', Pks w' lo hi gp gw ga gb v' (b.put x n) ∧ Grew w w' gw v v' := by
  refine (pput_calls w gp gw _ _ v b h.pk x n hx hn hN).mono ?_
  rintro e w' ⟨rfl, v', hW, hG⟩
  exact ⟨rfl, v', h.step hW hG, hG⟩

/-! ### A token -/
/-- The token's own box. -/
structure Box (w : World) (g : Nat) (k : Tk) : Prop where mk :: (out : w.heap[g]? = some (.cells #[.int .u8 k.b, .int .i64 k.l, .int .i64 k.d] 98 (0, 0)))
theorem Box.grew {w w1 : World} {g gw : Nat} {k : Tk} {v v1 : Value} {n : Nat} {B : Nat} {xs : List Value} (h : Box w g k) (hg : Grew w w1 gw v v1) (hne : g ≠ gw) (ho : w.ownsRow B 5 1 v n xs) : Box w1 g k := ⟨hg.obj h.out hne (own_ne ho h.out (by decide))⟩
theorem Box.cells {w : World} {g : Nat} {k : Tk} (h : Box w g k) : w.cell? ⟨g, 0, none⟩ = some (.int .u8 k.b) ∧ w.cell? ⟨g, 1, none⟩ = some (.int .i64 k.l) ∧ w.cell? ⟨g, 2, none⟩ = some (.int .i64 k.d) := by
  refine ⟨?_, ?_, ?_⟩ <;> (rw [blk_cell h.out]; rfl)
/-- What a call on the packer answers, over any world that grew out of this one. -/
def PkCall (F : FuncId) (args : Array Value) (r : Value) (w : World) (lo hi gp gw ga gb : Nat) (v : Value) (b : Bs) : Prop :=
  ∀ W, Below w.heap.size w W → Calls Tryd.prog F args W fun e w' => e = .returned r ∧ ∃ v', Pks w' lo hi gp gw ga gb v' b ∧ Grew w w' gw v v'
section
variable {w : World} {lo hi gp gw ga gb : Nat} {v : Value} {b : Bs}
theorem pk_signA (h : Pks w lo hi gp gw ga gb v b) (hN : b.N ≤ 1000000000) (s : Nat) (hs : s < 288) : PkCall 57 #[.pointer (some ⟨ga, 0, none⟩), .pointer (some ⟨gw, 0, none⟩), .int .i64 s] .nilIface w lo hi gp gw ga gb v (sgB letters b s) := fun W hb => by
  refine (csignA W lo hi gp gw ga gb v b (h.below hb) hN s hs).mono ?_
  rintro e w' ⟨rfl, v', hP, hG⟩
  exact ⟨rfl, v', hP, (Grew.of_below hb gw v).trans hG⟩
theorem pk_signB (h : Pks w lo hi gp gw ga gb v b) (hN : b.N ≤ 1000000000) (s : Nat) (hs : s < 32) : PkCall 57 #[.pointer (some ⟨gb, 0, none⟩), .pointer (some ⟨gw, 0, none⟩), .int .i64 s] .nilIface w lo hi gp gw ga gb v (sgB fixD b s) := fun W hb => by
  refine (csignB W lo hi gp gw ga gb v b (h.below hb) hN s hs).mono ?_
  rintro e w' ⟨rfl, v', hP, hG⟩
  exact ⟨rfl, v', hP, (Grew.of_below hb gw v).trans hG⟩
theorem pk_put (h : Pks w lo hi gp gw ga gb v b) (hN : b.N ≤ 1000000000) (x n : Nat) (hx : x < 2 ^ n) (hn : n ≤ 32) : PkCall 50 #[.pointer (some ⟨gp, 0, none⟩), .int .i64 x, .int .i64 n] (.tuple #[]) w lo hi gp gw ga gb v (b.put x n) := fun W hb => by
  refine (pputs_calls W lo hi gp gw ga gb v b (h.below hb) hN x n hx hn).mono ?_
  rintro e w' ⟨rfl, v', hP, hG⟩
  exact ⟨rfl, v', hP, (Grew.of_below hb gw v).trans hG⟩
theorem Pks.cells (h : Pks w lo hi gp gw ga gb v b) : w.cell? ⟨gp, 0, none⟩ = some (.pointer (some ⟨gw, 0, none⟩)) ∧ w.cell? ⟨gp, 1, none⟩ = some (.pointer (some ⟨ga, 0, none⟩)) ∧ w.cell? ⟨gp, 2, none⟩ = some (.pointer (some ⟨gb, 0, none⟩)) := ⟨h.pk.cells.1, h.pk.cells.2.1, h.pk.cells.2.2.1⟩
end
theorem sg_N1 (L : List Int) (b : Bs) (s : Nat) (h : L.getD s 0 ≤ 15) : (sgB L b s).N ≤ b.N + 15 := by show b.N + _ ≤ _; omega
set_option maxHeartbeats 2000000 in
theorem token_byte (w : World) (lo hi gp gw ga gb : Nat) (v : Value) (b : Bs) (h : Pks w lo hi gp gw ga gb v b) (hN : b.N ≤ 999999900) (k : Tk) (hk : TkOk k) (h0 : k.l = 0) :
    Calls Tryd.prog 56 #[.pointer (some ⟨gp, 0, none⟩), .agg #[.int .u8 k.b, .int .i64 k.l, .int .i64 k.d]] w fun e w' => e = .returned (.tuple #[]) ∧ ∃ v', Pks w' lo hi gp gw ga gb v' (tokB letters fixD b k) ∧ Grew w w' gw v v' := by
  obtain ⟨kb, kl, kd⟩ := k
  obtain ⟨z, hz⟩ := Int.eq_ofNat_of_zero_le hk.b.1
  have hz1 : (z : Int) < 256 := by have := hk.b.2; rw [hz] at this; exact this
  have hT : tokB letters fixD b ⟨kb, kl, kd⟩ = sgB letters b z := by unfold tokB; rw [if_pos h0]; show sgB letters b kb.toNat = _; rw [show kb = (z : Int) from hz, Int.toNat_natCast]
  rw [hT]
  simp only at hz h0
  subst hz h0
  show Calls Tryd.prog 56 #[.pointer (some ⟨gp, 0, none⟩), .agg #[.int .u8 (z : Int), .int .i64 0, .int .i64 kd]] w _
  have hb1 := below_alloc (Below.refl w.heap.size w) (.cells #[.int .u8 (z : Int), .int .i64 0, .int .i64 kd] 98)
  have HB := Aside0.mk (Grew.of_below hb1 gw v)
  have HP := Aside0.mk (h.below hb1)
  have hx : Box (w.alloc (.cells #[.int .u8 (z : Int), .int .i64 0, .int .i64 kd] 98)) w.heap.size ⟨(z : Int), 0, kd⟩ := ⟨alloc_self _ _⟩
  have HX := Aside0.mk hx
  have HN := Aside0.mk hN
  clear hT h hk hb1 hx hN
  go_enter Tryd.func56, Tryd.ntmps56
  go_upto_region 1 with fail
  generalize w.alloc (.cells #[.int .u8 (z : Int), .int .i64 0, .int .i64 kd] 98) = w1 at *
  generalize w.heap.size = gt at *
  obtain ⟨x0, x1, x2⟩ := HX.out.cells
  obtain ⟨c0, c1, c2⟩ := HP.out.cells
  have HS := Aside0.mk (pk_signA HP.out (by have := HN.out; omega) z (by omega))
  go_wp2_with fail
  go_still_tail 11, (by kernel_rfl)
  change wpList _ _ _ _ _ (World.drew _)
  go_wp2_with (first
    | (go_at_call 57; refine (HS.out _ (below_drew (Below.refl _ _))).mono ?_; rintro e w3 ⟨rfl, v', hW, hG⟩; have HW := Aside0.mk hW; have HG := Aside0.mk hG; clear hW hG)
    | (go_at_call 46; refine (pass_nil _).mono ?_; rintro e w4 ⟨rfl, rfl⟩))
  exact bodyPost_ret (results_none rfl _ _ _) rfl ⟨rfl, v', HW.out, HB.out.trans HG.out⟩
theorem Box.pk {w w1 : World} {lo hi gp gw ga gb g : Nat} {v v1 : Value} {b : Bs} {k : Tk} (h : Box w g k) (hp : Pks w lo hi gp gw ga gb v b) (hg : Grew w w1 gw v v1) : Box w1 g k := by
  refine h.grew hg ?_ hp.pk.wri.wr.row
  intro e
  have h1 := h.out
  rw [e, hp.pk.wri.wr.blk] at h1
  simp at h1
set_option maxHeartbeats 2000000 in
theorem token_match (w : World) (lo hi gp gw ga gb : Nat) (v : Value) (b : Bs) (h : Pks w lo hi gp gw ga gb v b) (hN : b.N ≤ 999999900) (k : Tk) (hk : TkOk k) (h0 : k.l ≠ 0) :
    Calls Tryd.prog 56 #[.pointer (some ⟨gp, 0, none⟩), .agg #[.int .u8 k.b, .int .i64 k.l, .int .i64 k.d]] w fun e w' => e = .returned (.tuple #[]) ∧ ∃ v', Pks w' lo hi gp gw ga gb v' (tokB letters fixD b k) ∧ Grew w w' gw v v' := by
  have hT : tokB letters fixD b k = (sgB fixD ((sgB letters b (lenS k.l).1).put (lenS k.l).2.1 (lenS k.l).2.2) (disS k.d).1).put (disS k.d).2.1 (disS k.d).2.2 := by unfold tokB; rw [if_neg h0]
  rw [hT]
  obtain ⟨hl0, hl1, hd0, hd1⟩ := hk.l.resolve_left h0
  have ls0 := (lenS_ok k.l hl0 hl1).s0
  have ls1 := (lenS_ok k.l hl0 hl1).s1
  have lm := (lenS_ok k.l hl0 hl1).m
  have lk := (lenS_ok k.l hl0 hl1).k
  have ds1 := (disS_ok k.d hd0 hd1).s1
  have dm := (disS_ok k.d hd0 hd1).m
  have dk := (disS_ok k.d hd0 hd1).k
  have HLen : Aside0 (∀ W, Calls Tryd.prog 78 #[.int .i64 k.l] W fun e w' => e = .returned (.tuple #[.int .i64 ((lenS k.l).1 : Nat), .int .i64 ((lenS k.l).2.1 : Nat), .int .i64 ((lenS k.l).2.2 : Nat)]) ∧ Below W.heap.size W w') := ⟨fun W => length_calls W k.l hl0 hl1⟩
  have HDis : Aside0 (∀ W, Calls Tryd.prog 79 #[.int .i64 k.d] W fun e w' => e = .returned (.tuple #[.int .i64 ((disS k.d).1 : Nat), .int .i64 ((disS k.d).2.1 : Nat), .int .i64 ((disS k.d).2.2 : Nat)]) ∧ Below W.heap.size W w') := ⟨fun W => distance_calls W k.d hd0 hd1⟩
  have hb1 := below_alloc (Below.refl w.heap.size w) (.cells #[.int .u8 k.b, .int .i64 k.l, .int .i64 k.d] 98)
  have HB := Aside0.mk (Grew.of_below hb1 gw v)
  have HP := Aside0.mk (h.below hb1)
  have hx : Box (w.alloc (.cells #[.int .u8 k.b, .int .i64 k.l, .int .i64 k.d] 98)) w.heap.size k := ⟨alloc_self _ _⟩
  have HX := Aside0.mk hx
  have HN := Aside0.mk hN
  have hz : ((k.l : Int) == 0) = false := by simp; exact h0
  have HFac := Aside0.mk (And.intro (And.intro ls0 (And.intro ls1 (And.intro lm lk))) (And.intro ds1 (And.intro dm dk)))
  clear hT h hk hb1 hx hN hl0 hl1 hd0 hd1 ls0 ls1 lm lk ds1 dm dk h0
  generalize (lenS k.l).1 = s1 at *
  generalize (lenS k.l).2.1 = m1 at *
  generalize (lenS k.l).2.2 = q1 at *
  generalize (disS k.d).1 = s2 at *
  generalize (disS k.d).2.1 = m2 at *
  generalize (disS k.d).2.2 = q2 at *
  go_enter Tryd.func56, Tryd.ntmps56
  go_upto_region 1 with fail
  generalize w.alloc (.cells #[.int .u8 k.b, .int .i64 k.l, .int .i64 k.d] 98) = w1 at *
  generalize w.heap.size = gt at *
  obtain ⟨x0, x1, x2⟩ := HX.out.cells
  go_wp2_with fail
  refine (HLen.out _).mono ?_
  rintro e w2 ⟨rfl, hb2⟩
  have HG2 := Aside0.mk (HB.out.trans (Grew.of_below hb2 gw v))
  have HX2 := Aside0.mk (HX.out.pk HP.out (Grew.of_below hb2 gw v))
  have HP2 := Aside0.mk (HP.out.below hb2)
  clear hb2 x0 x1 x2 HP HX HB
  obtain ⟨c0, c1, c2⟩ := HP2.out.cells
  have HS := Aside0.mk (pk_signA HP2.out (by have := HN.out; omega) s1 (by have := HFac.out; omega))
  go_wp2_with fail
  go_still_tail 9, (by kernel_rfl)
  change wpList _ _ _ _ _ (World.drew _)
  go_upto_region 5 with (first
    | (go_at_call 57; refine (HS.out _ (below_drew (Below.refl _ _))).mono ?_; rintro e w3 ⟨rfl, v3, hW, hG⟩; have HP3 := Aside0.mk hW; have HX3 := Aside0.mk (HX2.out.pk HP2.out hG); have HG3 := Aside0.mk (HG2.out.trans hG); clear hW hG)
    | (go_at_call 46; refine (pass_nil _).mono ?_; rintro e w4 ⟨rfl, rfl⟩))
  clear c0 c1 c2 HS
  have hn1 : Aside0 ((sgB letters b s1).N ≤ b.N + 15) := ⟨sg_N1 letters b s1 (by have := letters_ok ⟨s1, by have := HFac.out; omega⟩; exact this.2.1)⟩
  have HU := Aside0.mk (pk_put HP3.out (by have := hn1.out; have := HN.out; omega) m1 q1 HFac.out.1.2.2.1 (by have := HFac.out.1.2.2.2; omega))
  go_upto_region 6 with (go_at_call 50; refine (HU.out _ (Below.refl _ _)).mono ?_; rintro e w5 ⟨rfl, v5, hW, hG⟩; have HP5 := Aside0.mk hW; have HX5 := Aside0.mk (HX3.out.pk HP3.out hG); have HG5 := Aside0.mk (HG3.out.trans hG); clear hW hG)
  clear HU
  obtain ⟨x0, x1, x2⟩ := HX5.out.cells
  go_wp2_with fail
  refine (HDis.out _).mono ?_
  rintro e w6 ⟨rfl, hb6⟩
  have HG6 := Aside0.mk (HG5.out.trans (Grew.of_below hb6 gw v5))
  have HP6 := Aside0.mk (HP5.out.below hb6)
  clear hb6 x0 x1 x2
  obtain ⟨c0, c1, c2⟩ := HP6.out.cells
  have hn2 : Aside0 (((sgB letters b s1).put m1 q1).N ≤ b.N + 20) := ⟨by show (sgB letters b s1).N + q1 ≤ _; have := hn1.out; have := HFac.out.1.2.2.2; omega⟩
  have HS := Aside0.mk (pk_signB HP6.out (by have := hn2.out; have := HN.out; omega) s2 (by have := HFac.out; omega))
  go_wp2_with fail
  go_still_tail 9, (by kernel_rfl)
  change wpList _ _ _ _ _ (World.drew _)
  go_upto_region 8 with (first
    | (go_at_call 57; refine (HS.out _ (below_drew (Below.refl _ _))).mono ?_; rintro e w7 ⟨rfl, v7, hW, hG⟩; have HP7 := Aside0.mk hW; have HG7 := Aside0.mk (HG6.out.trans hG); clear hW hG)
    | (go_at_call 46; refine (pass_nil _).mono ?_; rintro e w8 ⟨rfl, rfl⟩))
  clear c0 c1 c2 HS
  have hn3 : Aside0 ((sgB fixD ((sgB letters b s1).put m1 q1) s2).N ≤ b.N + 35) := ⟨by have h1 := sg_N1 fixD ((sgB letters b s1).put m1 q1) s2 (by have := fixD_ok ⟨s2, by have := HFac.out; omega⟩; exact this.2.1); have := hn2.out; omega⟩
  have HU := Aside0.mk (pk_put HP7.out (by have := hn3.out; have := HN.out; omega) m2 q2 HFac.out.2.2.1 (by have := HFac.out.2.2.2; omega))
  go_wp2_with (go_at_call 50; refine (HU.out _ (Below.refl _ _)).mono ?_; rintro e w9 ⟨rfl, v9, hW, hG⟩; have HP9 := Aside0.mk hW; have HG9 := Aside0.mk (HG7.out.trans hG); clear hW hG)
  refine bodyPost_end (results_none rfl _ _ _) rfl ?_
  exact ⟨rfl, v9, HP9.out, HG9.out⟩
theorem token_calls (w : World) (lo hi gp gw ga gb : Nat) (v : Value) (b : Bs) (h : Pks w lo hi gp gw ga gb v b) (hN : b.N ≤ 999999900) (k : Tk) (hk : TkOk k) :
    Calls Tryd.prog 56 #[.pointer (some ⟨gp, 0, none⟩), .agg #[.int .u8 k.b, .int .i64 k.l, .int .i64 k.d]] w fun e w' => e = .returned (.tuple #[]) ∧ ∃ v', Pks w' lo hi gp gw ga gb v' (tokB letters fixD b k) ∧ Grew w w' gw v v' := by
  by_cases h0 : k.l = 0
  · exact token_byte w lo hi gp gw ga gb v b h hN k hk h0
  · exact token_match w lo hi gp gw ga gb v b h hN k hk h0
end Go.Proofs.YthpnncbndnjoaaaDoor.My

/- The walk of the packer's plain: a text as a block of kind 0. -/
namespace Go.Proofs.YthpnncbndnjoaaaDoor.My
open Go.RowKit Go.Proofs.YthpnncbndnjoaaaDoor.Huf Go.Proofs.YthpnncbndnjoaaaDoorW.PrintWords Go.Proofs.YthpnncbndnjoaaaDoorW.PrintLast Go.Proofs.YthpnncbndnjoaaaDoorW.PrintMore
set_option maxRecDepth 100000
set_option linter.unusedVariables false
set_option linter.unusedSimpArgs false

theorem Grew.under {B gw : Nat} {w0 w w1 : World} {v v1 : Value} {V N : Nat} (hG : Grew w w1 gw v v1) (hw : Writ w gw gw v V N) (h0 : Below B w0 w) (hB : B ≤ gw) : Below B w0 w1 := by
  have hl := blk_lt hw.wr.blk
  refine ⟨hG.os.trans h0.os, hG.tape.trans h0.tape, hG.output.trans h0.output, Nat.le_trans h0.size hG.keep.1, fun k hk => ?_⟩
  rw [hG.keep.2 k (by omega) (by omega) (fun e => by have := own_base hw.wr.row k e.symm; omega)]
  exact h0.block k hk
theorem slice_to8 (A : Option Addr) (n c a : Nat) (h : a ≤ c) (W : World) : (Instr.slice 22 (.slice A n c) none (some (.int .i64 a)) none).run Tryd.prog W = .ok (.slice A a c) W := by
  obtain ⟨i0, hi, hz⟩ := Option.map_eq_some_iff.1 info_u8
  simp only [Prod.mk.injEq] at hz
  have hel : Tryd.prog.elem 22 = 5 := by simp [Program.elem, Tryd.underlying22]
  have hu : Tryd.prog.underlying 22 = some (.slice (Tryd.prog.elem 22)) := by rw [hel]; exact Tryd.underlying22
  rw [run_slice_h W 22 A n c hu .i64 a (by omega) (by omega), hel]
  simp [sizeOf, typeInfo, hi, hz.2.1, sliced, Result.andThen]
  intro _
  cases A with
  | none => rfl
  | some ad => simp [Addr.add]
theorem slice_from8 (A : Option Addr) (n c a : Nat) (h : a ≤ n) (hc : n ≤ c) : ∃ A', ∀ W : World, (Instr.slice 22 (.slice A n c) (some (.int .i64 a)) none none).run Tryd.prog W = .ok (.slice A' (n - a) (c - a)) W := by
  obtain ⟨i0, hi, hz⟩ := Option.map_eq_some_iff.1 info_u8
  simp only [Prod.mk.injEq] at hz
  have hel : Tryd.prog.elem 22 = 5 := by simp [Program.elem, Tryd.underlying22]
  have hu : Tryd.prog.underlying 22 = some (.slice (Tryd.prog.elem 22)) := by rw [hel]; exact Tryd.underlying22
  refine ⟨if c = a then A else A.map (·.add a), fun W => ?_⟩
  rw [run_slice_l W 22 A n c hu .i64 a (by omega) (by omega), hel]
  simp [sizeOf, typeInfo, hi, hz.2.1, sliced, Result.andThen]
theorem xor_mask (n : Nat) (h : n ≤ 65535) : Go.bits .xor .i64 (n : Int) 65535 = ((65535 - n : Nat) : Int) := by
  have e : n ^^^ 65535 = 65535 - n := by
    apply Nat.eq_of_testBit_eq
    intro i
    have h1 : (65535 : Nat).testBit i = decide (i < 16) := by rw [show (65535 : Nat) = 2 ^ 16 - 1 from rfl]; exact Nat.testBit_two_pow_sub_one ..
    rw [Nat.testBit_xor, h1, show 65535 - n = 2 ^ 16 - (n + 1) by omega, Nat.testBit_two_pow_sub_succ (by omega)]
    by_cases hi : i < 16
    · simp [hi]
    · simp [hi]
      exact Nat.testBit_lt_two_pow (Nat.lt_of_lt_of_le (show n < 2 ^ 16 by omega) (Nat.pow_le_pow_right (by decide) (by omega)))
  have hl : n ^^^ 65535 < 2 ^ 63 := by rw [e]; omega
  show IntKind.i64.wrap ((BitVec.ofInt 64 (n : Int) ^^^ BitVec.ofInt 64 ((65535 : Nat) : Int)).toNat : Int) = _
  rw [BitVec.ofInt_natCast, BitVec.ofInt_natCast, BitVec.toNat_xor, BitVec.toNat_ofNat, BitVec.toNat_ofNat, Nat.mod_eq_of_lt (by omega), Nat.mod_eq_of_lt (by omega), IntWalk.i64_in _ ⟨by omega, by omega⟩, e]
/-- The bits of a block of kind 0. -/
def stB (t : List Int) : Bs := ⟨1 + t.length * 2 ^ 8 + (65535 - t.length) * 2 ^ 24 + ofB t * 2 ^ 40, 40 + 8 * t.length⟩
theorem st_b3 (n : Nat) (hn : n ≤ 65535) : (1 + n * 256 + (65535 - n) * 16777216) / 16777216 % 256 = 255 - n % 256 := by
  have : (1 + n * 256 + (65535 - n) * 16777216) / 16777216 = 65535 - n := by omega
  rw [this]; omega
theorem st_b4 (n : Nat) (hn : n ≤ 65535) : (1 + n * 256 + (65535 - n) * 16777216) / 4294967296 % 256 = 255 - n / 256 := by
  have : (1 + n * 256 + (65535 - n) * 16777216) / 16777216 = 65535 - n := by omega
  rw [show (4294967296 : Nat) = 16777216 * 256 from rfl, ← Nat.div_div_eq_div_mul, this]; omega
theorem st_leB (t : List Int) (ht : ∀ z ∈ t, 0 ≤ z ∧ z < 256) (hn : t.length ≤ 65535) : leB (stB t).V (((stB t).N + 7) / 8) = plainL t := by
  have hV : 1 + t.length * 2 ^ 8 + (65535 - t.length) * 2 ^ 24 < 2 ^ (8 * 5) := by omega
  have h := leB_app t (1 + t.length * 2 ^ 8 + (65535 - t.length) * 2 ^ 24) 5 ht hV
  have e1 : ((stB t).N + 7) / 8 = 5 + t.length := by show (40 + 8 * t.length + 7) / 8 = _; omega
  rw [e1]
  show leB (1 + t.length * 2 ^ 8 + (65535 - t.length) * 2 ^ 24 + ofB t * 2 ^ (8 * 5)) (5 + t.length) = _
  rw [h]
  unfold plainL
  congr 1
  generalize t.length = n at *
  simp only [leB, List.range_succ, List.range_zero, List.map_append, List.map_cons, List.map_nil, List.nil_append, List.cons_append, List.cons.injEq, and_true, Nat.reducePow, Nat.reduceMul]
  refine ⟨?_, ?_, ?_, ?_, ?_⟩ <;> first | omega | (refine congrArg (fun x : Nat => (x : Int)) ?_; first | exact st_b3 n hn | exact st_b4 n hn)
set_option maxHeartbeats 2000000 in
theorem plain_calls (w0 w : World) (gp gw : Nat) (pa pb v : Value) (h : Pk w gp gw pa pb v ⟨0, 0⟩) (hb0 : Below w0.heap.size w0 w) (hgw : w0.heap.size ≤ gw) (A : Option Addr) (n c : Nat) (t : List Int) (ht : (Kd.int .u8).C w0 A n t) (hc : n ≤ c) (hl : t.length = n) (hby : ∀ z ∈ t, 0 ≤ z ∧ z < 256) (hn : n ≤ 65535) :
    Calls Tryd.prog 33 #[.pointer (some ⟨gp, 0, none⟩), .slice A n c] w fun e w' => e = .returned (.tuple #[]) ∧ ∃ v', Pk w' gp gw pa pb v' (stB t) ∧ Grew w w' gw v v' := by
  have hn' : (n : Int) ≤ 65535 := by omega
  have hmin : min (n : Int) 65535 = (n : Int) := by omega
  have hxor := xor_mask n hn
  have hto : ∀ W : World, (Instr.slice 22 (.slice A n c) none (some (.int .i64 n)) none).run Tryd.prog W = .ok (.slice A n c) W := fun W => slice_to8 A n c n hc W
  obtain ⟨A', hfrom⟩ := slice_from8 A n c n (Nat.le_refl _) hc
  have heq : ((n : Int) == (n : Int)) = true := by simp
  have HP := Aside0.mk h
  have HB0 := Aside0.mk (And.intro hb0 hgw)
  have HT := Aside0.mk (And.intro ht (And.intro hl (And.intro hby hn)))
  have HU1 := Aside0.mk (pput_calls w gp gw pa pb v ⟨0, 0⟩ h 1 3 (by decide) (by decide) (by decide))
  clear h hb0 hgw ht hl hby hn hc
  go_enter Tryd.func33, Tryd.ntmps33
  go_wp2_with fail
  go_loopg [1] 0 (fun kq v1 wr => v1 = .slice A n c ∧ Aside0 (kq = 0) ∧ wr = w)
  case atStart => exact ⟨rfl, ⟨rfl⟩, rfl⟩
  case round =>
    obtain ⟨rfl, HK, rfl⟩ := hrel
    clear HK
    go_upto_region 5 with (go_at_call 50; refine HU1.out.mono ?_; rintro e w1 ⟨rfl, v1, hW, hG⟩; have HP1 := Aside0.mk (HP.out.step (b1 := ⟨1, 3⟩) hW hG); have HG1 := Aside0.mk hG; have HB1 := Aside0.mk (hG.under HP.out.wri HB0.out.1 HB0.out.2); clear hW hG)
    clear HU1
    obtain ⟨c0, c1, c2, _, _⟩ := HP1.out.cells
    have HU2 := Aside0.mk (align_calls w1 gw gw v1 1 3 HP1.out.gwlt HP1.out.wri (by decide))
    go_upto_region 6 with (go_at_call 51; refine HU2.out.mono ?_; rintro e w2 ⟨rfl, v2, hW, hG⟩; have HP2 := Aside0.mk (HP1.out.step (b1 := ⟨1, 8⟩) hW hG); have HG2 := Aside0.mk (HG1.out.trans hG); have HB2 := Aside0.mk (hG.under HP1.out.wri HB1.out HB0.out.2); clear hW hG)
    clear HU2 c0 c1 c2
    have HU3 := Aside0.mk (pput_calls w2 gp gw pa pb v2 ⟨1, 8⟩ HP2.out n 16 (by have := HT.out; omega) (by decide) (by decide))
    go_upto_region 7 with (go_at_call 50; refine HU3.out.mono ?_; rintro e w3 ⟨rfl, v3, hW, hG⟩; have HP3 := Aside0.mk (HP2.out.step (b1 := ⟨1 + n * 2 ^ 8, 24⟩) hW hG); have HG3 := Aside0.mk (HG2.out.trans hG); have HB3 := Aside0.mk (hG.under HP2.out.wri HB2.out HB0.out.2); clear hW hG)
    clear HU3
    have HU4 := Aside0.mk (pput_calls w3 gp gw pa pb v3 ⟨1 + n * 2 ^ 8, 24⟩ HP3.out (65535 - n) 16 (by omega) (by decide) (show 24 ≤ _ by decide))
    go_upto_region 8 with (go_at_call 50; refine HU4.out.mono ?_; rintro e w4 ⟨rfl, v4, hW, hG⟩; have HP4 := Aside0.mk (HP3.out.step (b1 := ⟨1 + n * 2 ^ 8 + (65535 - n) * 2 ^ 24, 40⟩) hW hG); have HG4 := Aside0.mk (HG3.out.trans hG); have HB4 := Aside0.mk (hG.under HP3.out.wri HB3.out HB0.out.2); clear hW hG)
    clear HU4
    obtain ⟨c0, c1, c2, _, _⟩ := HP4.out.cells
    have HU5 : Aside0 (∀ W, Below w4.heap.size w4 W → Calls Tryd.prog 52 #[.pointer (some ⟨gw, 0, none⟩), .slice A n c] W fun e w' => e = .returned .nilIface ∧ ∃ v', Writ w' gw gw v' (stB t).V (stB t).N ∧ Grew w4 w' gw v4 v') := ⟨fun W hb => by
      have hP := HP4.out.below hb
      refine (wbytes_calls W gw gw v4 _ _ A n c t hP.gwlt hP.wri (by show 40 % 8 = 0; decide) (by show 40 ≤ _; decide) (Kd.C_below (Kd.C_below HT.out.1 HB4.out) hb) HT.out.2.1 (by have := HT.out.2.2.2; omega) HT.out.2.2.1).mono ?_
      rintro e w' ⟨rfl, v', hW, hG⟩
      refine ⟨rfl, v', ?_, (Grew.of_below hb gw v4).trans hG⟩
      unfold stB
      rw [HT.out.2.1]
      exact hW⟩
    go_wp2_with fail
    go_still_tail 7, (by kernel_rfl)
    change wpList _ _ _ _ _ (World.drew _)
    go_wp2_with (first
      | (go_at_call 52; refine (HU5.out _ (below_drew (Below.refl _ _))).mono ?_; rintro e w5 ⟨rfl, v5, hW, hG⟩; have HP5 := Aside0.mk (HP4.out.step (b1 := stB t) hW hG); have HG5 := Aside0.mk (HG4.out.trans hG); clear hW hG)
      | (go_at_call 46; refine (pass_nil _).mono ?_; rintro e w8 ⟨rfl, rfl⟩))
    exact bodyPost_ret (results_none rfl _ _ _) rfl ⟨rfl, v5, HP5.out, HG5.out⟩
end Go.Proofs.YthpnncbndnjoaaaDoor.My

/- The walk of the packer's fixed: a text as a block of kind 1. -/
namespace Go.Proofs.YthpnncbndnjoaaaDoor.My
open Go.RowKit Go.Proofs.YthpnncbndnjoaaaDoor.Huf Go.Proofs.YthpnncbndnjoaaaDoorW.PrintWords Go.Proofs.YthpnncbndnjoaaaDoorW.PrintLast Go.Proofs.YthpnncbndnjoaaaDoorW.PrintMore
set_option maxRecDepth 100000
set_option linter.unusedVariables false
set_option linter.unusedSimpArgs false

section
variable {w w1 : World} {gp gw : Nat} {pa pb v : Value} {b : Bs}
theorem Pk.far (h : Pk w gp gw pa pb v b) (j : Nat) (x : Value) : Writ (w.setCell ⟨gp, j, none⟩ x) gw gw v b.V b.N :=
  ⟨⟨blk_far h.wri.wr.blk (p := ⟨gp, j, none⟩) (by have := h.lt; show gw ≠ gp; omega) x, own_setCell h.wri.wr.row (p := ⟨gp, j, none⟩) (own_ne h.wri.wr.row h.blk (by decide)) x, h.wri.wr.bg⟩, h.wri.lt⟩
theorem Pk.set1 (h : Pk w gp gw pa pb v b) (x : Value) : Pk (w.setCell ⟨gp, 1, none⟩ x) gp gw x pb v b := ⟨by have := blk_set h.blk 1 x; simpa using this, h.far 1 x, h.lt⟩
theorem Pk.set2 (h : Pk w gp gw pa pb v b) (x : Value) : Pk (w.setCell ⟨gp, 2, none⟩ x) gp gw pa x v b := ⟨by have := blk_set h.blk 2 x; simpa using this, h.far 2 x, h.lt⟩
end
theorem Pk.grown {w w1 : World} {gp gw : Nat} {pa pb v : Value} {b : Bs} (h : Pk w gp gw pa pb v b) {row : Option Nat} (hg : w.grownBy w1 row) (h1 : some gp ≠ row) (h2 : some gw ≠ row) (h3 : v.ownBlock = none) : Pk w1 gp gw pa pb v b :=
  ⟨blk_grown h.blk hg h1, ⟨⟨blk_grown h.wri.wr.blk hg h2, own_other h.wri.wr.row hg (.inl h3), h.wri.wr.bg⟩, h.wri.lt⟩, h.lt⟩
def toTi (k : Tk) : Ti := ⟨k.b, k.l, k.d⟩
theorem tk_ti (l : List Tk) : tkCells l = tiCells (l.map toTi) := by
  induction l with
  | nil => rfl
  | cons a t ih => simp only [tkCells, tiCells, List.flatMap_cons, List.map_cons] at *; rw [ih]; rfl
/-- Tokens that are read, in a block of tokens. -/
structure TRow (w : World) (A : Option Addr) (T : List Tk) : Prop where
  cells : TkR w A (T.map toTi)
  ty : ∀ ad, A = some ad → ∃ cs, w.heap[ad.block]? = some (.cells cs 98 (0, 0))
theorem TRow.of_own {w : World} {B n c : Nat} {A : Option Addr} {T : List Tk} (h : w.ownsRow B 98 3 (.slice A n c) T.length (tkCells T)) : TRow w A T := by
  refine ⟨?_, ?_⟩
  · rw [tk_ti, show T.length = (T.map toTi).length by rw [List.length_map]] at h
    exact tk_of_own h
  · intro ad e
    rcases h.2 with ⟨h1, h2⟩ | ⟨g, cap, cur, h1, _, hh, _⟩
    · cases h1; cases e
    · cases h1; cases e; exact ⟨cur, hh⟩
theorem TRow.grew {w w1 : World} {A : Option Addr} {T : List Tk} {gw : Nat} {v v1 : Value} {V N : Nat} (h : TRow w A T) (hG : Grew w w1 gw v v1) (hW : Writ w gw gw v V N) : TRow w1 A T := by
  have hk : ∀ ad, A = some ad → w1.heap[ad.block]? = w.heap[ad.block]? := fun ad e => by
    obtain ⟨cs, hc⟩ := h.ty ad e
    refine (hG.obj hc ?_ (own_ne hW.wr.row hc (by decide))).trans hc.symm
    intro e2
    rw [e2, hW.wr.blk] at hc
    simp at hc
  refine ⟨fun i k hi => ?_, fun ad e => by obtain ⟨cs, hc⟩ := h.ty ad e; exact ⟨cs, (hk ad e).trans hc⟩⟩
  obtain ⟨ad, e, x0, x1, x2⟩ := h.cells i k hi
  have hb := hk ad e
  refine ⟨ad, e, ?_, ?_, ?_⟩
  · rw [cell_same (w := w) (by rw [add_block]; exact hb)]; exact x0
  · rw [cell_same (w := w) (by show w1.heap[(ad.add (i * 3)).block]? = _; rw [add_block]; exact hb)]; exact x1
  · rw [cell_same (w := w) (by show w1.heap[(ad.add (i * 3)).block]? = _; rw [add_block]; exact hb)]; exact x2
theorem TRow.below {w w1 : World} {A : Option Addr} {T : List Tk} (h : TRow w A T) (hb : Below w.heap.size w w1) : TRow w1 A T :=
  ⟨h.cells.below hb, fun ad e => by obtain ⟨cs, hc⟩ := h.ty ad e; exact ⟨cs, blk_below hc hb⟩⟩
theorem newR_L : newR letters false = none := by decide +kernel
theorem newR_D : newR fixD false = none := by decide +kernel
theorem new_free (w : World) (A : Option Addr) (n c : Nat) (L : List Int) (hL : (Kd.int .i64).C w A n L) (hn : n ≤ 1000000) (hl : L.length = n) (h0 : 0 < n) (hr : newR L false = none) :
    Calls Tryd.prog 54 #[.slice A n c, .bool false] w fun e w' => ∃ g, e = .returned (.tuple #[.pointer (some ⟨g, 0, none⟩), .nilIface]) ∧ CodeAt w' w.heap.size w'.heap.size g L ∧ Below w.heap.size w w' := by
  refine (new_calls w A n c L false hL hn hl (fun e => by
    obtain ⟨h1, h2, h3⟩ := reads_of_C hL
    obtain ⟨ad, e2, _⟩ := h3 h0
    rw [e] at e2; cases e2)).mono ?_
  rintro e w' ⟨v, rfl, hb, _, h2⟩
  obtain ⟨g, rfl, hk⟩ := h2 hr
  rw [hr]
  exact ⟨g, rfl, hk, hb⟩
set_option maxHeartbeats 4000000 in
theorem packfix_calls (w0 w : World) (gp gw : Nat) (pa pb v : Value) (h : Pk w gp gw pa pb v ⟨0, 0⟩) (hv : v.ownBlock = none) (hb0 : Below w0.heap.size w0 w) (hgw : w0.heap.size ≤ gw) (A : Option Addr) (n c : Nat) (t : List Int) (ht : (Kd.int .u8).C w0 A n t) (hl : t.length = n) (hby : ∀ z ∈ t, 0 ≤ z ∧ z < 256) (hn : n ≤ 1048576) :
    Calls Tryd.prog 34 #[.pointer (some ⟨gp, 0, none⟩), .slice A n c] w fun e w' => e = .returned (.tuple #[]) ∧ ∃ pa' pb' v', Pk w' gp gw pa' pb' v' (fixB' letters fixD t) ∧ Below w0.heap.size w0 w' := by
  have HB0 := Aside0.mk (And.intro hb0 (And.intro hgw hv))
  have HT := Aside0.mk (And.intro ht (And.intro hl (And.intro hby hn)))
  have HP := Aside0.mk h
  clear h hv hb0 hgw ht hl hby hn
  go_enter Tryd.func34, Tryd.ntmps34
  go_wp2_with (go_at_call 53; refine (fixed_calls w).mono ?_; rintro e w1 ⟨A1, A2, c1, c2, rfl, hC1, ⟨g, rfl, rfl, hg, hr⟩, hc1, hb⟩; have HC1 := Aside0.mk hC1; have HR := Aside0.mk (And.intro hr hg); have HB := Aside0.mk hb; clear hC1 hr hb hg hc1)
  refine (new_free w1 A1 288 c1 letters HC1.out (by omega) letters_len' (by omega) newR_L).mono ?_
  rintro e w2 ⟨ga, rfl, hka, hb2⟩
  have hr2 : IRow w2 g 3 dists := blk_below HR.out.1 hb2
  have hP2 := (HP.out.below HB.out).below hb2
  obtain ⟨c0, p1, p2, f1, f2⟩ := hP2.cells
  have HP2 := Aside0.mk hP2
  have HB2 := Aside0.mk (HB0.out.1.trans ((HB.out.trans (hb2.mono HB.out.size)).mono HB0.out.1.size))
  have HK2 := Aside0.mk (And.intro hka (Nat.le_trans HB.out.size (Nat.le_refl _)))
  have HR2 := Aside0.mk (And.intro hr2 HR.out.2)
  clear hka hb2 hr2 hP2
  go_upto_region 4 with (go_at_call 46; refine (pass_nil _).mono ?_; rintro e w4 ⟨rfl, rfl⟩)
  have hgp := blk_lt HP.out.blk
  have HGP := Aside0.mk hgp
  have hP3 := HP2.out.set1 (.pointer (some ⟨ga, 0, none⟩))
  have hB3 := HB2.out.setCell (p := ⟨gp, 1, none⟩) (by show w0.heap.size ≤ gp; have := HB0.out.2.1; have := HP.out.lt; omega) (.pointer (some ⟨ga, 0, none⟩))
  have hK3 := HK2.out.1.grown (grown_set w2 gp 1 (.pointer (some ⟨ga, 0, none⟩))) (fun r e => by cases e; left; have := HK2.out.2; omega)
  have hne : g ≠ gp := by have := HR2.out.2; omega
  have hr3 : IRow (w2.setCell ⟨gp, 1, none⟩ (.pointer (some ⟨ga, 0, none⟩))) g 3 dists := blk_far HR2.out.1 (p := ⟨gp, 1, none⟩) hne _
  have hsz3 : (w2.setCell ⟨gp, 1, none⟩ (.pointer (some ⟨ga, 0, none⟩))).heap.size = w2.heap.size := by simp [World.setCell]
  rw [← hsz3] at hK3
  have HP3 := Aside0.mk hP3
  have HB3 := Aside0.mk hB3
  have HK3 := Aside0.mk (And.intro hK3 HK2.out.2)
  have HR3 := Aside0.mk (And.intro hr3 HR2.out.2)
  have HSZ3 : Aside0 (w.heap.size ≤ (w2.setCell ⟨gp, 1, none⟩ (.pointer (some ⟨ga, 0, none⟩))).heap.size) := ⟨by
    have := hK3.out
    rw [hsz3]
    obtain ⟨_, _, _, _, _, _, _, _, _, _, _, _, h1, h2⟩ := HK2.out.1.out
    have := HK2.out.2
    omega⟩
  clear hP3 hB3 hK3 hr3 hsz3 c0 p1 p2 f1 f2 HP2 HB2 HK2 HR2 hgp hne
  generalize w2.setCell ⟨gp, 1, none⟩ (.pointer (some ⟨ga, 0, none⟩)) = w3 at *
  have hlt := blk_lt HR3.out.1
  have hown : w3.ownsRow w.heap.size 3 1 (.slice (some ⟨g, 0, none⟩) 30 30) dists.length (nums .i64 dists) := by
    refine ⟨by rw [nums_length, Nat.mul_one], .inr ⟨g, 30, (nums .i64 dists).toArray, rfl, HR3.out.2, HR3.out.1, by decide, by unfold maxLen; decide, by rw [List.size_toArray, nums_length]; rfl, by rw [List.take_of_length_le (by simp [nums_length])]⟩⟩
  have HOw := Aside0.mk hown
  have HRd : Aside0 (∀ W : World, ReadsInt (W.alloc (.cells #[.int .i64 5, .int .i64 5] 3)) .i64 (some ⟨W.heap.size, 0, none⟩) 2 [5, 5]) := ⟨fun W => reads_of_C (C_block (W.alloc (.cells #[.int .i64 5, .int .i64 5] 3)) W.heap.size .i64 [5, 5] 3 (0, 0) (alloc_self _ _) (by simp))⟩
  have HLt := Aside0.mk hlt
  clear hown hlt
  go_wp2_with ((with_reducible refine gate_dst (N := 27) rfl ?_); refine print_append_row (w0 := w3) w.heap.size rfl (.tmp 25) (.tmp 26) 66 3 .i64 8 rfl Tryd.underlying66 info_i64 (by decide) (.slice (some ⟨g, 0, none⟩) 30 30) dists [5, 5] (some ⟨w3.heap.size, 0, none⟩) 2 2 rfl rfl (HOw.out.alloc _) (HRd.out w3) ((below_alloc (Below.refl w3.heap.size w3) _).mono HSZ3.out) (by have := HSZ3.out; simp; omega) (by decide) ?_)
  intro v4 w4 ho hb4 hg4 _
  obtain ⟨A3, c3, rfl, hc3, hC3⟩ := own_slice' ho
  have hg4' : w3.grownBy w4 (some g) := ⟨hg4.os, hg4.tape, hg4.output, Nat.le_trans (by simp) hg4.size, fun k hk hne => (hg4.block k (by simp; omega) hne).trans (Below.heap_alloc w3 _ k hk)⟩
  have hl32 : dists.length + 2 = 32 := by decide
  rw [hl32] at *
  have HP4 := Aside0.mk (HP3.out.grown hg4' (by intro e; cases e; have := HR3.out.2; have := HGP.out; omega) (by intro e; cases e; have := HR3.out.2; have := HGP.out; have := HP.out.lt; omega) HB0.out.2.2)
  have HK4 := Aside0.mk (HK3.out.1.grown hg4' (fun r e => by cases e; left; exact blk_lt HR.out.1))
  have HB4 := Aside0.mk (HB3.out.trans (hb4.mono HB0.out.1.size))
  have HN4 := Aside0.mk (new_free w4 A3 32 c3 fixD hC3 (by omega) fixD_len' (by omega) newR_D)
  have HSZ4 := Aside0.mk hg4'.size
  clear ho hb4 hg4 hc3 hC3 hg4' HOw HRd HLt HP3 HK3 HB3 HC1
  go_wp2_with fail
  refine HN4.out.mono ?_
  rintro e w5 ⟨gb, rfl, hkb, hb5⟩
  have hP5 := HP4.out.below hb5
  obtain ⟨c0, p1, p2, f1, f2⟩ := hP5.cells
  have HP5 := Aside0.mk hP5
  have HB5 := Aside0.mk (HB4.out.trans (hb5.mono HB4.out.size))
  have HA5 := Aside0.mk (HK4.out.below hb5)
  have HC5 := Aside0.mk hkb
  have HSZ5 := Aside0.mk hb5.size
  clear hP5 hkb hb5 HP4 HB4 HK4 HN4
  go_upto_region 6 with (go_at_call 46; refine (pass_nil _).mono ?_; rintro e w4 ⟨rfl, rfl⟩)
  have hlow : w.heap.size ≤ w1.heap.size := HB.out.size
  have hP6 := HP5.out.set2 (.pointer (some ⟨gb, 0, none⟩))
  have hB6 := HB5.out.setCell (p := ⟨gp, 2, none⟩) (by show w0.heap.size ≤ gp; have := HB0.out.2.1; have := HP.out.lt; omega) (.pointer (some ⟨gb, 0, none⟩))
  have hA6 := HA5.out.grown (grown_set w5 gp 2 (.pointer (some ⟨gb, 0, none⟩))) (fun r e => by cases e; left; have := HGP.out; omega)
  have hC6 := HC5.out.grown (grown_set w5 gp 2 (.pointer (some ⟨gb, 0, none⟩))) (fun r e => by cases e; left; have := HGP.out; have := HSZ3.out; have := HSZ4.out; omega)
  have hsz6 : (w5.setCell ⟨gp, 2, none⟩ (.pointer (some ⟨gb, 0, none⟩))).heap.size = w5.heap.size := by simp [World.setCell]
  have hS6 : Pks (w5.setCell ⟨gp, 2, none⟩ (.pointer (some ⟨gb, 0, none⟩))) w.heap.size w5.heap.size gp gw ga gb v ⟨0, 0⟩ :=
    ⟨hP6, hA6.mono hlow (by have := HSZ4.out; have := HSZ5.out; omega), hC6.mono (by have := HSZ3.out; have := HSZ4.out; omega) (Nat.le_refl _), by have := HGP.out; have := HP.out.lt; omega, by rw [hsz6]; exact Nat.le_refl _, fun k hk => by rw [HB0.out.2.2] at hk; cases hk⟩
  have HS6 := Aside0.mk hS6
  have HB6 := Aside0.mk hB6
  clear hP6 hB6 hA6 hC6 hsz6 hS6 hlow c0 p1 p2 f1 f2 HP5 HB5 HA5 HC5
  generalize w5.setCell ⟨gp, 2, none⟩ (.pointer (some ⟨gb, 0, none⟩)) = w6 at *
  have HU := Aside0.mk (pk_put HS6.out (by decide) 3 3 (by decide) (by decide))
  go_upto_region 7 with (go_at_call 50; refine (HU.out _ (Below.refl _ _)).mono ?_; rintro e w7 ⟨rfl, v7, hW, hG⟩; have HS7 := Aside0.mk hW; have HB7 := Aside0.mk (hG.under HS6.out.pk.wri HB6.out HB0.out.2.1); clear hW hG)
  clear HU
  have HTk := Aside0.mk (tokens_calls w7 A c t n (Kd.C_below HT.out.1 HB7.out) (by have := HT.out.2.2.2; omega))
  have HTo := Aside0.mk (And.intro (toks_ok t HT.out.2.2.1) (toks_len t))
  obtain ⟨bF, hbF⟩ : ∃ b, b = fixB' letters fixD t := ⟨_, rfl⟩
  have HFx : Aside0 (bF = sgB letters ((toks t).foldl (tokB letters fixD) ⟨3, 3⟩) 256) := ⟨hbF⟩
  have HQ := Aside0.mk hbF
  clear hbF
  generalize toks t = T at *
  go_wp2_with fail
  refine HTk.out.mono ?_
  rintro e w8 ⟨vt, rfl, ho, hb8⟩
  obtain ⟨At, ct, rfl⟩ := own_slice ho
  have HR8 := Aside0.mk (TRow.of_own ho)
  have HS8 := Aside0.mk (HS7.out.below hb8)
  have HB8 := Aside0.mk (HB7.out.trans (hb8.mono HB7.out.size))
  clear ho hb8 HTk HS7 HB7 HS6 HB6
  obtain ⟨m, hm⟩ : ∃ m, m = T.length := ⟨_, rfl⟩
  have HM := Aside0.mk hm
  rw [← hm]
  have hmb : (m : Int) ≤ 1048576 := by have := HTo.out.2; have := HT.out.2.1; have := HT.out.2.2.2; omega
  clear hm
  go_wp2_with fail
  go_loopg [40] m (fun kq v40 wr => ∃ (i : Nat) (b : Bs) (v' : Value), v40 = .int .i64 i ∧ i ≤ m ∧ Aside0 (kq = m - i) ∧ Aside0 (Pks wr w.heap.size w5.heap.size gp gw ga gb v' b) ∧ Aside0 (TRow wr At T) ∧ Aside0 (Below w0.heap.size w0 wr) ∧ Aside0 (b.N ≤ 3 + 60 * i ∧ (T.drop i).foldl (tokB letters fixD) b = T.foldl (tokB letters fixD) ⟨3, 3⟩))
  case atStart => exact ⟨0, ⟨3, 3⟩, v7, rfl, Nat.zero_le _, ⟨rfl⟩, HS8, HR8, HB8, ⟨by decide, rfl⟩⟩
  case round =>
    obtain ⟨i, b, v', rfl, hi, HK, HS, HR', HBr, HN⟩ := hrel
    by_cases hlt : i < m
    · have hlt' : (i : Int) < (m : Int) := by omega
      have hget : T[i]? = some (T[i]'(by have := HM.out; omega)) := List.getElem?_eq_getElem _
      have hdrop : T.drop i = T[i]'(by have := HM.out; omega) :: T.drop (i + 1) := List.drop_eq_getElem_cons _
      have hok := HTo.out.1 (T[i]'(by have := HM.out; omega)) (List.getElem_mem _)
      generalize (T[i]'(by have := HM.out; omega)) = k at *
      obtain ⟨ad, rfl, x0, x1, x2⟩ := HR'.out.cells i (toTi k) (by rw [List.getElem?_map, hget]; rfl)
      have HDr := Aside0.mk hdrop
      have HOk := Aside0.mk hok
      clear hdrop hok hget
      have hbx := below_alloc (Below.refl wr.heap.size wr) (.cells #[.int .u8 (toTi k).b, .int .i64 (toTi k).l, .int .i64 (toTi k).d] 98)
      have hX9 : Box (wr.alloc (.cells #[.int .u8 (toTi k).b, .int .i64 (toTi k).l, .int .i64 (toTi k).d] 98)) wr.heap.size k := ⟨alloc_self _ _⟩
      have HS9 := Aside0.mk (HS.out.below hbx)
      have HR9 := Aside0.mk (HR'.out.below hbx)
      have HB9 := Aside0.mk (HBr.out.trans (hbx.mono HBr.out.size))
      have HX9 := Aside0.mk hX9
      clear hbx hX9
      go_upto_region 10 with fail
      generalize wr.alloc (.cells #[.int .u8 (toTi k).b, .int .i64 (toTi k).l, .int .i64 (toTi k).d] 98) = w9 at *
      generalize wr.heap.size = g9 at *
      clear x0 x1 x2
      obtain ⟨y0, y1, y2⟩ := HX9.out.cells
      have HT9 := Aside0.mk (token_calls w9 _ _ gp gw ga gb v' b HS9.out (by have := HN.out.1; omega) k HOk.out)
      go_wp2_with (go_at_call 56; refine HT9.out.mono ?_; rintro e w10 ⟨rfl, v10, hW, hG⟩; have HS10 := Aside0.mk hW; have HB10 := Aside0.mk (hG.under HS9.out.pk.wri HB9.out HB0.out.2.1); have HR10 := Aside0.mk (HR9.out.grew hG HS9.out.pk.wri); clear hW hG)
      go_roundg (gk - 1)
      case measure => have := HK.out; omega
      case rel =>
        refine ⟨i + 1, tokB letters fixD b k, v10, by go_num, by omega, ⟨by have := HK.out; omega⟩, HS10, HR10, HB10, ⟨?_, ?_⟩⟩
        · have := tokB_N b HOk.out; have := HN.out.1; omega
        · have h1 := HN.out.2
          rw [HDr.out, List.foldl_cons] at h1
          exact h1
    · have hni : ¬ ((i : Int) < (m : Int)) := by omega
      obtain ⟨c0, c1', c2⟩ := HS.out.cells
      have hbF : bF = sgB letters b 256 := by
        rw [HFx.out, ← HN.out.2, List.drop_of_length_le (by have := HM.out; omega), List.foldl_nil]
      have HU := Aside0.mk (pk_signA HS.out (by have := HN.out.1; omega) 256 (by decide))
      rw [← hbF] at HU
      clear hbF
      go_wp2_with fail
      go_still_tail 8, (by kernel_rfl)
      change wpList _ _ _ _ _ (World.drew _)
      go_wp2_with (first
        | (go_at_call 57; refine (HU.out _ (below_drew (Below.refl _ _))).mono ?_; rintro e w10 ⟨rfl, v10, hW, hG⟩; have HS10 := Aside0.mk hW; have HB10 := Aside0.mk (hG.under HS.out.pk.wri HBr.out HB0.out.2.1); clear hW hG)
        | (go_at_call 46; refine (pass_nil _).mono ?_; rintro e w4 ⟨rfl, rfl⟩))
      refine bodyPost_end (results_none rfl _ _ _) rfl ?_
      exact ⟨rfl, _, _, v10, HQ.out ▸ HS10.out.pk, HB10.out⟩
end Go.Proofs.YthpnncbndnjoaaaDoor.My

/- The walk of deflate's pack. -/
namespace Go.Proofs.YthpnncbndnjoaaaDoor.My
open Go.RowKit Go.Proofs.YthpnncbndnjoaaaDoor.Huf Go.Proofs.YthpnncbndnjoaaaDoorW.PrintWords Go.Proofs.YthpnncbndnjoaaaDoorW.PrintLast Go.Proofs.YthpnncbndnjoaaaDoorW.PrintMore
set_option maxRecDepth 100000
set_option linter.unusedVariables false
set_option linter.unusedSimpArgs false

theorem own_base_le {w : World} {B B' n : Nat} {e : TypeId} {s : Nat} {v : Value} {xs : List Value} (h : w.ownsRow B' e s v n xs) (hB : B ≤ B') : w.ownsRow B e s v n xs := by
  refine ⟨h.1, ?_⟩
  rcases h.2 with h2 | ⟨g, cap, cur, h1, h2, h3⟩
  · exact .inl h2
  · exact .inr ⟨g, cap, cur, h1, Nat.le_trans hB h2, h3⟩
/-- A text by mode 0, or by mode 1. -/
def pkL (t : List Int) (m : Int) : List Int := if m = 0 then plainL t else fixedL letters fixD t
def Packed (w : World) (out : List Int) (e : Ending) (w' : World) : Prop := ∃ v, e = .returned v ∧ w'.ownsRow w.heap.size 5 1 v out.length (nums .u8 out) ∧ Below w.heap.size w w'
theorem fixedL_len (t : List Int) : (fixedL letters fixD t).length = ((fixB' letters fixD t).N + 7) / 8 := by unfold fixedL; rw [leB_len]
theorem fix_N (t : List Int) (hby : ∀ z ∈ t, 0 ≤ z ∧ z < 256) : (fixB' letters fixD t).N ≤ 18 + 60 * t.length := by
  have h := fold_ok (toks t) (toks_ok t hby) ⟨3, 3⟩ (show (3 : Nat) < 2 ^ 3 by decide)
  have h2 := sg_N letters15 ((toks t).foldl (tokB letters fixD) ⟨3, 3⟩) 256
  have h3 := toks_len t
  have h4 := h.2
  show (sgB letters _ 256).N ≤ _
  have : (⟨3, 3⟩ : Bs).N = 3 := rfl
  omega
set_option maxHeartbeats 2000000 in
theorem pack_calls (w : World) (A : Option Addr) (n c : Nat) (t : List Int) (m : Int) (hm : m = 0 ∨ m = 1) (ht : (Kd.int .u8).C w A n t) (hc : n ≤ c) (hl : t.length = n) (hby : ∀ z ∈ t, 0 ≤ z ∧ z < 256) (hn : n ≤ 65535) :
    Calls Tryd.prog 23 #[.slice A n c, .int .i64 m] w (Packed w (pkL t m)) := by
  have hb1 := below_alloc (Below.refl w.heap.size w) (.cells #[.slice none 0 0, .int .u64 0, .int .i64 0] 90)
  have hw1 := Writ.new w w.heap.size (Nat.le_refl _)
  have hb2 := below_alloc hb1 (.cells #[.pointer (some ⟨w.heap.size, 0, none⟩), .pointer none, .pointer none] 60)
  have hP : Pk ((w.alloc (.cells #[.slice none 0 0, .int .u64 0, .int .i64 0] 90)).alloc (.cells #[.pointer (some ⟨w.heap.size, 0, none⟩), .pointer none, .pointer none] 60)) (w.heap.size + 1) w.heap.size (.pointer none) (.pointer none) (.slice none 0 0) ⟨0, 0⟩ := by
    refine ⟨?_, hw1.below' (below_alloc (Below.refl _ _) _), by omega⟩
    have := alloc_self (w.alloc (.cells #[.slice none 0 0, .int .u64 0, .int .i64 0] 90)) (.cells #[.pointer (some ⟨w.heap.size, 0, none⟩), .pointer none, .pointer none] 60)
    rwa [alloc_size] at this
  have HP := Aside0.mk hP
  have HB := Aside0.mk hb2
  have HW : Aside0 (∀ (wx : World) (pa pb v' : Value) (b : Bs), Pk wx (w.heap.size + 1) w.heap.size pa pb v' b → Below w.heap.size w wx → b.N ≤ 1000000000 → Calls Tryd.prog 35 #[.pointer (some ⟨w.heap.size, 0, none⟩)] wx (Packed w (leB b.V ((b.N + 7) / 8)))) := ⟨fun wx pa pb v' b h hb hN => by
    refine (wtext_calls wx w.heap.size w.heap.size v' b.V b.N h.wri (by omega)).mono ?_
    rintro e w' ⟨v'', rfl, ho, hb'⟩
    refine ⟨v'', rfl, own_base_le ?_ hb.size, hb.trans (hb'.mono hb.size)⟩
    rw [leB_len]
    exact ho⟩
  rcases hm with rfl | rfl
  · have HC := Aside0.mk (plain_calls w _ (w.heap.size + 1) w.heap.size _ _ _ hP hb2 (Nat.le_refl _) A n c t ht hc hl hby hn)
    have hout : pkL t 0 = leB (stB t).V (((stB t).N + 7) / 8) := by unfold pkL; rw [if_pos rfl, st_leB t hby (by omega)]
    rw [hout]
    have HN : Aside0 ((stB t).N ≤ 1000000000) := ⟨by show 40 + 8 * t.length ≤ _; omega⟩
    clear hb1 hw1 hb2 hP ht hc hl hby hn hout
    go_enter Tryd.func23, Tryd.ntmps23
    go_wp2_with (go_at_call 32; refine (newWriter_calls _).mono ?_; rintro e w1 ⟨rfl, rfl⟩)
    refine HC.out.mono ?_
    rintro e w3 ⟨rfl, v3, hP3, hG3⟩
    obtain ⟨c0, c1, c2, _, _⟩ := hP3.cells
    have HT := Aside0.mk (HW.out w3 _ _ v3 _ hP3 (hG3.under HP.out.wri HB.out (Nat.le_refl _)) HN.out)
    clear hP3 hG3
    go_wp2_with fail
    refine HT.out.mono ?_
    rintro e w4 ⟨v4, rfl, h4⟩
    go_wp2_with fail
    go_ret
    exact ⟨v4, rfl, h4⟩
  · have HC := Aside0.mk (packfix_calls w _ (w.heap.size + 1) w.heap.size _ _ _ hP rfl hb2 (Nat.le_refl _) A n c t ht hl hby (by omega))
    have hout : pkL t 1 = leB (fixB' letters fixD t).V (((fixB' letters fixD t).N + 7) / 8) := by unfold pkL; rw [if_neg (by decide)]; rfl
    rw [hout]
    have HN : Aside0 ((fixB' letters fixD t).N ≤ 1000000000) := ⟨by have := fix_N t hby; omega⟩
    clear hb1 hw1 hb2 hP ht hc hl hby hn hout
    go_enter Tryd.func23, Tryd.ntmps23
    go_wp2_with (go_at_call 32; refine (newWriter_calls _).mono ?_; rintro e w1 ⟨rfl, rfl⟩)
    refine HC.out.mono ?_
    rintro e w3 ⟨rfl, pa, pb, v3, hP3, hB3⟩
    obtain ⟨c0, c1, c2, _, _⟩ := hP3.cells
    have HT := Aside0.mk (HW.out w3 _ _ v3 _ hP3 hB3 HN.out)
    clear hP3 hB3
    go_wp2_with fail
    refine HT.out.mono ?_
    rintro e w4 ⟨v4, rfl, h4⟩
    go_wp2_with fail
    go_ret
    exact ⟨v4, rfl, h4⟩
end Go.Proofs.YthpnncbndnjoaaaDoor.My

/- The walk of deflate.Deflate. -/
namespace Go.Proofs.YthpnncbndnjoaaaDoor.My
open Go.RowKit Go.Proofs.YthpnncbndnjoaaaDoor.Huf Go.Proofs.YthpnncbndnjoaaaDoorW.PrintWords Go.Proofs.YthpnncbndnjoaaaDoorW.PrintLast Go.Proofs.YthpnncbndnjoaaaDoorW.PrintMore
set_option maxRecDepth 100000
set_option linter.unusedVariables false
set_option linter.unusedSimpArgs false

/-- A text, packed by a mode from 0 to 2. -/
def deflL (t : List Int) (m : Int) : List Int := if m = 2 ∧ (plainL t).length < (fixedL letters fixD t).length then plainL t else pkL t (min m 1)
/-- What is known of the text while it is packed: its box, the mode's, the answer's. -/
structure DefB (w : World) (gx : Nat) (A : Option Addr) (n c : Nat) (m : Int) : Prop where
  x : w.heap[gx]? = some (.cells #[.slice A n c] 22 (0, 0))
  m : w.heap[gx + 1]? = some (.cells #[.int .i64 m] 3 (0, 0))
theorem DefB.below {w w1 : World} {gx : Nat} {A : Option Addr} {n c : Nat} {m : Int} (h : DefB w gx A n c m) (hb : Below w.heap.size w w1) : DefB w1 gx A n c m := ⟨blk_below h.x hb, blk_below h.m hb⟩
theorem DefB.set {w : World} {gx : Nat} {A : Option Addr} {n c : Nat} {m : Int} (h : DefB w gx A n c m) (v : Value) : DefB (w.setCell ⟨gx + 2, 0, none⟩ v) gx A n c m :=
  ⟨blk_far h.x (p := ⟨gx + 2, 0, none⟩) (by show gx ≠ gx + 2; omega) v, blk_far h.m (p := ⟨gx + 2, 0, none⟩) (by show gx + 1 ≠ gx + 2; omega) v⟩
theorem DefB.cells {w : World} {gx : Nat} {A : Option Addr} {n c : Nat} {m : Int} (h : DefB w gx A n c m) : w.cell? ⟨gx, 0, none⟩ = some (.slice A n c) ∧ w.cell? ⟨gx + 1, 0, none⟩ = some (.int .i64 m) := ⟨by rw [blk_cell h.x]; rfl, by rw [blk_cell h.m]; rfl⟩
/-- The answer's box holds packed bytes; nothing ahead of it has turned. -/
structure DefO (w w1 : World) (gx : Nat) (out : List Int) : Prop where mk :: (out : ∃ v : Value, w1.heap[gx + 2]? = some (.cells #[v] 22 (0, 0)) ∧ w1.ownsRow w.heap.size 5 1 v out.length (nums .u8 out) ∧ Below (gx + 2) w w1 ∧ (∀ k, gx + 2 < k → k < w.heap.size → w1.heap[k]? = w.heap[k]?) ∧ w.heap.size ≤ w1.heap.size)
theorem packed_put {w w1 w2 : World} {gx : Nat} {out : List Int} {v u : Value} (hg : gx + 2 < w1.heap.size) (h : w2.ownsRow w1.heap.size 5 1 v out.length (nums .u8 out)) (hb : Below w1.heap.size w1 w2)
    (hc : w1.heap[gx + 2]? = some (.cells #[u] 22 (0, 0))) (h0 : Below (gx + 2) w w1) (h1 : ∀ k, gx + 2 < k → k < w.heap.size → w1.heap[k]? = w.heap[k]?) (h2 : w.heap.size ≤ w1.heap.size) : DefO w (w2.setCell ⟨gx + 2, 0, none⟩ v) gx out := by
  have hc2 := blk_below hc hb
  refine ⟨v, ?_, own_base_le (own_setCell h (p := ⟨gx + 2, 0, none⟩) (own_ne h hc2 (by decide)) v) h2, ?_, ?_, ?_⟩
  · have := blk_set hc2 0 v
    simpa using this
  · exact (h0.trans (hb.mono (by omega))).setCell (by show gx + 2 ≤ gx + 2; omega) v
  · intro k h3 h4
    rw [Below.heap_setCell _ _ _ _ (by show k ≠ gx + 2; omega), hb.block k (by omega), h1 k h3 h4]
  · have := hb.size
    simp only [World.setCell, Array.size_modify]
    omega
theorem DefO.below {w w1 w2 : World} {gx : Nat} {out : List Int} (h : DefO w w1 gx out) (hg : gx + 2 < w.heap.size) (hb : Below w1.heap.size w1 w2) : DefO w w2 gx out := by
  obtain ⟨v, h1, h2, h3, h4, h5⟩ := h.out
  exact ⟨v, blk_below h1 hb, pw_own_below h2 hb, h3.trans (hb.mono (by omega)), fun k a b => (hb.block k (by omega)).trans (h4 k a b), Nat.le_trans h5 hb.size⟩
theorem C_same8 {w w1 : World} {A : Option Addr} {n : Nat} {xs : List Int} (h : (Kd.int .u8).C w A n xs) (hs : 0 < n → ∀ ad, A = some ad → w1.heap[ad.block]? = w.heap[ad.block]?) : (Kd.int .u8).C w1 A n xs := by
  refine C_of_readsInt ?_
  obtain ⟨h1, h2, h3⟩ := reads_of_C h
  refine ⟨h1, h2, fun hn => ?_⟩
  obtain ⟨ad, e, hc⟩ := h3 hn
  refine ⟨ad, e, fun j hj => ?_⟩
  have e2 := cell_same (w := w) (w1 := w1) (ad := ad.add j) (by rw [add_block]; exact hs hn ad e)
  rw [e2]
  exact hc j hj
theorem DefO.C {w w1 : World} {gx : Nat} {out : List Int} (h : DefO w w1 gx out) {A : Option Addr} {n : Nat} {xs : List Int} (hC : (Kd.int .u8).C w A n xs) (hA : 0 < n → ∀ ad, A = some ad → ad.block < gx) : (Kd.int .u8).C w1 A n xs := by
  obtain ⟨v, h1, h2, h3, h4, h5⟩ := h.out
  exact C_same8 hC (fun hn ad e => h3.block ad.block (by have := hA hn ad e; omega))
set_option maxHeartbeats 4000000 in
theorem closure_calls (w : World) (gx : Nat) (A : Option Addr) (n c : Nat) (t : List Int) (m : Int) (h0 : 0 ≤ m) (h2 : m ≤ 2) (hx : DefB w gx A n c m) (hg : gx + 2 < w.heap.size) (ho : w.heap[gx + 2]? = some (.cells #[.slice none 0 0] 22 (0, 0))) (ht : (Kd.int .u8).C w A n t) (hta : 0 < n → ∀ ad, A = some ad → ad.block < gx) (hc : n ≤ c) (hl : t.length = n) (hby : ∀ z ∈ t, 0 ≤ z ∧ z < 256) (hn : n ≤ 65535) :
    Calls Tryd.prog 22 #[.pointer (some ⟨gx, 0, none⟩), .pointer (some ⟨gx + 1, 0, none⟩), .pointer (some ⟨gx + 2, 0, none⟩)] w fun e w' => e = .returned (.tuple #[]) ∧ DefO w w' gx (deflL t m) := by
  obtain ⟨c0, c1⟩ := hx.cells
  have c2 : w.cell? ⟨gx + 2, 0, none⟩ = some (.slice none 0 0) := by rw [blk_cell ho]; rfl
  have f2 := blk_frozen ho 0
  have HX := Aside0.mk hx
  have HO := Aside0.mk (And.intro ho hg)
  have HT := Aside0.mk (And.intro ht (And.intro hta (And.intro hc (And.intro hl (And.intro hby hn)))))
  clear hx ho ht hta hc hl hby hn hg
  have HP : Aside0 (∀ (W : World) (k : Int), (k = 0 ∨ k = 1) → (Kd.int .u8).C W A n t → Calls Tryd.prog 23 #[.slice A n c, .int .i64 k] W (Packed W (pkL t k))) := ⟨fun W k hk hC => pack_calls W A n c t k hk hC HT.out.2.2.1 HT.out.2.2.2.1 HT.out.2.2.2.2.1 HT.out.2.2.2.2.2⟩
  by_cases hm2 : m < 2
  · have hmin : min m 1 = m := by omega
    have hout : deflL t m = pkL t m := by unfold deflL; rw [if_neg (by omega), hmin]
    rw [hout]
    have hle : m ≤ 1 := by omega
    have HP1 := Aside0.mk (HP.out w m (by omega) HT.out.1)
    clear hout
    go_enter Tryd.func22, Tryd.ntmps22
    go_upto_region 1 with (go_at_call 23; refine HP1.out.mono ?_; rintro e w1 ⟨v1, rfl, ho1, hb1⟩; obtain ⟨A1, k1, rfl⟩ := own_slice ho1; have f2' := blk_frozen (blk_below HO.out.1 hb1) 0; have c2' := pw_cell_below hb1 c2; have c1' := pw_cell_below hb1 c1; have HO1 := Aside0.mk (packed_put (u := .slice none 0 0) HO.out.2 ho1 hb1 HO.out.1 (Below.refl _ _) (fun k _ _ => rfl) (Nat.le_refl _)); have HX1 := Aside0.mk ((HX.out.below hb1).set (.slice A1 (pkL t m).length k1)).cells; clear ho1 hb1)
    generalize w1.setCell ⟨gx + 2, 0, none⟩ (.slice A1 (pkL t m).length k1) = w2 at *
    obtain ⟨d0, d1⟩ := HX1.out
    go_wp2_with fail
    exact bodyPost_ret (results_none rfl _ _ _) rfl ⟨rfl, HO1.out⟩
  · obtain rfl : m = 2 := by omega
    have HP1 := Aside0.mk (HP.out w 1 (.inr rfl) HT.out.1)
    have hbig : Aside0 (((plainL t).length < (pkL t 1).length → deflL t 2 = plainL t) ∧ (¬ (plainL t).length < (pkL t 1).length → deflL t 2 = pkL t 1)) := ⟨by
      have e : pkL t 1 = fixedL letters fixD t := by unfold pkL; rw [if_neg (by decide)]
      have e2 : min (2 : Int) 1 = 1 := by decide
      rw [e]
      refine ⟨fun h => by unfold deflL; rw [if_pos ⟨rfl, h⟩], fun h => by unfold deflL; rw [if_neg (fun k => h k.2), e2, e]⟩⟩
    have hp0 : Aside0 (pkL t 0 = plainL t) := ⟨by unfold pkL; rw [if_pos rfl]⟩
    have hlen1 : Aside0 ((pkL t 1).length ≤ 100000000 ∧ (plainL t).length ≤ 100000000) := ⟨by
      have e : pkL t 1 = fixedL letters fixD t := by unfold pkL; rw [if_neg (by decide)]
      rw [e, fixedL_len, plainL_len]
      have := fix_N t HT.out.2.2.2.2.1
      have := HT.out.2.2.2.1
      have := HT.out.2.2.2.2.2
      omega⟩
    clear h0 h2 hm2
    generalize hD : deflL t 2 = D at *
    have HD := Aside0.mk hD
    clear hD
    go_enter Tryd.func22, Tryd.ntmps22
    go_upto_region 1 with (go_at_call 23; refine HP1.out.mono ?_; rintro e w1 ⟨v1, rfl, ho1, hb1⟩; obtain ⟨A1, k1, rfl⟩ := own_slice ho1; have f2' := blk_frozen (blk_below HO.out.1 hb1) 0; have c2' := pw_cell_below hb1 c2; have HO1 := Aside0.mk (packed_put (u := .slice none 0 0) HO.out.2 ho1 hb1 HO.out.1 (Below.refl _ _) (fun k _ _ => rfl) (Nat.le_refl _)); have HX1 := Aside0.mk ((HX.out.below hb1).set (.slice A1 (pkL t 1).length k1)); have HV1 := Aside0.mk (blk_set (blk_below HO.out.1 hb1) 0 (.slice A1 (pkL t 1).length k1)); clear ho1 hb1)
    generalize w1.setCell ⟨gx + 2, 0, none⟩ (.slice A1 (pkL t 1).length k1) = w2 at *
    obtain ⟨d0, d1⟩ := HX1.out.cells
    have HP2 := Aside0.mk (HP.out w2 0 (.inl rfl) (HO1.out.C HT.out.1 HT.out.2.1))
    have HSz := Aside0.mk (show gx + 2 < w2.heap.size from by obtain ⟨_, _, _, _, _, h⟩ := HO1.out.out; have := HO.out.2; omega)
    have hV1 : w2.heap[gx + 2]? = some (.cells #[.slice A1 (pkL t 1).length k1] 22 (0, 0)) := by have := HV1.out; simpa using this
    have HV2 := Aside0.mk hV1
    clear hV1 HV1
    rw [hp0.out] at HP2
    clear HP HP1 c0 c1 c2 f2 f2' c2'
    generalize pkL t 1 = F at *
    go_upto_region 3 with (go_at_call 23; refine HP2.out.mono ?_; rintro e w3 ⟨v3, rfl, ho3, hb3⟩; obtain ⟨A3, k3, rfl⟩ := own_slice ho3; have HO3 := Aside0.mk (And.intro ho3 hb3); have hv3 := blk_below HV2.out hb3; have HV3 := Aside0.mk hv3; clear hv3 ho3 hb3)
    have c2 : w3.cell? ⟨gx + 2, 0, none⟩ = some (.slice A1 F.length k1) := by rw [blk_cell HV3.out]; rfl
    have f2 := blk_frozen HV3.out 0
    by_cases hlt : (plainL t).length < F.length
    · have hlt' : ((plainL t).length : Int) < (F.length : Int) := by omega
      have HE := Aside0.mk (hbig.out.1 hlt)
      have HF := Aside0.mk (by
        obtain ⟨_, _, _, h3, h4, h5⟩ := HO1.out.out
        exact packed_put (w := w) (u := .slice A1 F.length k1) HSz.out HO3.out.1 HO3.out.2 HV2.out h3 h4 h5)
      have hl1 := hlen1.out
      clear hlt hbig hp0 HT HO1 hlen1
      generalize (plainL t).length = p at *
      generalize F.length = q at *
      have hp1 : (p : Int) ≤ 100000000 := by omega
      clear hl1
      go_wp2_with fail
      refine bodyPost_end (results_none rfl _ _ _) rfl ?_
      exact ⟨rfl, by rw [HE.out]; exact HF.out⟩
    · have hlt' : ¬ ((plainL t).length : Int) < (F.length : Int) := by omega
      have HE := Aside0.mk (hbig.out.2 hlt)
      have HF := Aside0.mk (HO1.out.below HO.out.2 HO3.out.2)
      have hl1 := hlen1.out
      clear hlt hbig hp0 HT HO1 hlen1
      generalize (plainL t).length = p at *
      have hp1 : (p : Int) ≤ 100000000 := by omega
      have hq1 : (F.length : Int) ≤ 100000000 := by omega
      clear hl1
      generalize F.length = q at *
      go_wp2_with fail
      refine bodyPost_end (results_none rfl _ _ _) rfl ?_
      exact ⟨rfl, by rw [HE.out]; exact HF.out⟩

/-- What Deflate answers. -/
def DefR (t : List Int) (m : Int) : Option Int × List Int := if m < 0 ∨ 2 < m then (some 1, []) else (none, deflL t m)
def Deflated (w : World) (t : List Int) (m : Int) (e : Ending) (w' : World) : Prop :=
  Below w.heap.size w w' ∧ ((∃ c, (DefR t m).1 = some c ∧ e = .returned (.tuple #[.slice none 0 0, errV (some c)])) ∨
    ((DefR t m).1 = none ∧ ∃ A c, e = .returned (.tuple #[.slice A (deflL t m).length c, .nilIface]) ∧ (deflL t m).length ≤ c ∧ (Kd.int .u8).C w' A (deflL t m).length (deflL t m)))
set_option maxHeartbeats 4000000 in
theorem deflate_calls (w : World) (A : Option Addr) (n c : Nat) (t : List Int) (m : Int) (ht : (Kd.int .u8).C w A n t) (hc : n ≤ c) (hl : t.length = n) (hby : ∀ z ∈ t, 0 ≤ z ∧ z < 256) (hn : n ≤ 65535) :
    Calls Tryd.prog 14 #[.slice A n c, .int .i64 m] w (Deflated w t m) := by
  have hta : 0 < n → ∀ ad, A = some ad → ad.block < w.heap.size := fun h0 ad e => by
    obtain ⟨ad', e2, hc⟩ := byte_at ht 0 h0
    rw [e] at e2; cases e2
    have := World.block_lt_of_cell? w _ hc
    rwa [add_block] at this
  have hb1 := below_alloc (Below.refl w.heap.size w) (.cells #[.slice A n c] 22)
  have hb2 := below_alloc hb1 (.cells #[.int .i64 m] 3)
  have hx1 := alloc_self w (.cells #[.slice A n c] 22)
  have hx2 := blk_below hx1 (below_alloc (Below.refl _ _) (.cells #[.int .i64 m] 3))
  have hm2 := alloc_self (w.alloc (.cells #[.slice A n c] 22)) (.cells #[.int .i64 m] 3)
  rw [alloc_size] at hm2
  have HX := Aside0.mk (DefB.mk hx2 hm2)
  have HB := Aside0.mk hb2
  have HSz : Aside0 (((w.alloc (.cells #[.slice A n c] 22)).alloc (.cells #[.int .i64 m] 3)).heap.size = w.heap.size + 2) := ⟨by rw [alloc_size, alloc_size]⟩
  have HT := Aside0.mk (And.intro ht (And.intro hta (And.intro hc (And.intro hl (And.intro hby hn)))))
  have hn' : (n : Int) ≤ 65535 := by omega
  clear ht hta hc hl hby hn hb1 hb2 hx1 hx2 hm2
  by_cases h0 : m < 0 ∨ 2 < m
  · have hR : Aside0 ((DefR t m).1 = some 1) := ⟨by unfold DefR; rw [if_pos h0]⟩
    go_enter Tryd.func14, Tryd.ntmps14
    go_upto_region 1 with fail
    generalize (w.alloc (.cells #[.slice A n c] 22)).alloc (.cells #[.int .i64 m] 3) = w2 at *
    obtain ⟨c0, c1⟩ := HX.out.cells
    by_cases h1 : m < 0
    · go_wp2_with fail
      go_ret2
      exact ⟨HB.out, .inl ⟨1, hR.out, rfl⟩⟩
    · have h2 : 2 < m := by omega
      clear h0
      go_wp2_with fail
      go_ret2
      exact ⟨HB.out, .inl ⟨1, hR.out, rfl⟩⟩
  · have hm0 : 0 ≤ m := by omega
    have hm2 : m ≤ 2 := by omega
    have hR : Aside0 ((DefR t m).1 = none) := ⟨by unfold DefR; rw [if_neg h0]⟩
    have hcf : ∀ (gx : Nat) (W : World), (callFunc 22 #[.pointer (some ⟨gx, 0, none⟩), .pointer (some ⟨gx + 1, 0, none⟩), .pointer (some ⟨gx + 2, 0, none⟩)]).run Tryd.prog W = .ok (.enter 22 #[.pointer (some ⟨gx, 0, none⟩), .pointer (some ⟨gx + 1, 0, none⟩), .pointer (some ⟨gx + 2, 0, none⟩)]) W := fun _ _ => rfl
    clear h0
    go_enter Tryd.func14, Tryd.ntmps14
    go_upto_region 1 with fail
    generalize (w.alloc (.cells #[.slice A n c] 22)).alloc (.cells #[.int .i64 m] 3) = w2 at *
    obtain ⟨c0, c1⟩ := HX.out.cells
    go_upto_region 6 with fail
    rw [HSz.out]
    have hb3 := below_alloc (Below.refl w2.heap.size w2) (.cells #[.slice none 0 0] 22)
    have hv3 := alloc_self w2 (.cells #[.slice none 0 0] 22)
    have hs3 := alloc_size w2 (.cells #[.slice none 0 0] 22)
    have hX3 := HX.out.below hb3
    have hB3 := HB.out.trans (hb3.mono HB.out.size)
    rw [HSz.out] at hv3 hs3
    have HX3 := Aside0.mk (And.intro hX3 (And.intro hv3 hs3))
    have HB3 := Aside0.mk hB3
    clear hb3 hv3 hs3 hX3 hB3 c0 c1
    generalize w2.alloc (.cells #[.slice none 0 0] 22) = w3 at *
    have hb4 := below_alloc (Below.refl w3.heap.size w3) (.cells #[.nilIface] 25)
    have hs4 := alloc_size w3 (.cells #[.nilIface] 25)
    have hk4 := alloc_self w3 (.cells #[.nilIface] 25)
    have HTry := Aside0.mk (try_fun 22 #[.pointer (some ⟨w.heap.size, 0, none⟩), .pointer (some ⟨w.heap.size + 1, 0, none⟩), .pointer (some ⟨w.heap.size + 2, 0, none⟩)] w3 (fun w1 => DefO (w3.alloc (.cells #[.nilIface] 25)) w1 w.heap.size (deflL t m)) (fun _ _ => False) (hcf w.heap.size)
      ((closure_calls (w3.alloc (.cells #[.nilIface] 25)) w.heap.size A n c t m hm0 hm2 (HX3.out.1.below hb4) (by rw [hs4, HX3.out.2.2]; omega) (blk_below HX3.out.2.1 hb4) (Kd.C_below (Kd.C_below HT.out.1 HB3.out) hb4) HT.out.2.1 HT.out.2.2.1 HT.out.2.2.2.1 HT.out.2.2.2.2.1 HT.out.2.2.2.2.2).mono fun e w' h => by
        obtain ⟨rfl, hD⟩ := h
        refine ⟨?_, .inl ⟨_, rfl, hD⟩⟩
        obtain ⟨v, h1, h2, h3, h4, h5⟩ := hD.out
        rw [h4 w3.heap.size (by rw [HX3.out.2.2]; omega) (by rw [hs4]; omega)]
        exact hk4))
    have HB4 := Aside0.mk (And.intro (HB3.out.trans (hb4.mono HB3.out.size)) (And.intro hs4 hk4))
    clear hb4 hs4 hk4 hcf
    have u1 := Tryd.underlying25
    go_wp2_with fail
    refine HTry.out.mono ?_
    rintro e w5 (⟨rfl, w1, hD, rfl⟩ | ⟨g, rfl, w1, hF, rfl⟩)
    · obtain ⟨v, h1, h2, h3, h4, h5⟩ := hD.out
      obtain ⟨A', c', rfl, hc', hC'⟩ := own_slice' h2
      have hk5 : w1.heap[w3.heap.size]? = some (.cells #[.nilIface] 25 (0, 0)) := by
        rw [h4 w3.heap.size (by rw [HX3.out.2.2]; omega) (by rw [HB4.out.2.1]; omega)]
        exact HB4.out.2.2
      have hv5 := blk_far h1 (p := ⟨w3.heap.size, 0, none⟩) (blk_ne h1 hk5 (by decide)) .nilIface
      have ho5 := own_setCell h2 (p := ⟨w3.heap.size, 0, none⟩) (own_ne h2 hk5 (by decide)) .nilIface
      have hb5 : Below w.heap.size w (w1.setCell ⟨w3.heap.size, 0, none⟩ .nilIface) :=
        (HB4.out.1.trans (h3.mono (by omega))).setCell (by show w.heap.size ≤ w3.heap.size; rw [HX3.out.2.2]; omega) _
      have HR5 := Aside0.mk (And.intro ho5 (And.intro hb5 hc'))
      have d0 := blk_cell hv5 0
      clear h1 h2 h3 h4 h5 hC' hk5 hv5 ho5 hb5 hc' hD
      generalize w1.setCell ⟨w3.heap.size, 0, none⟩ .nilIface = w6 at *
      generalize hq : deflL t m = D at *
      generalize hqn : D.length = q at *
      go_wp2_with fail
      go_ret2
      refine ⟨HR5.out.2.1, .inr ⟨hR.out, A', c', ?_, ?_, ?_⟩⟩
      · first | (rw [hq, hqn]) | (rw [hq, hqn]; rfl)
        try rfl
      · rw [hq, hqn]; exact HR5.out.2.2
      · rw [hq, hqn]
        obtain ⟨A6, c6, e6, _, hC6⟩ := own_slice' HR5.out.1
        cases e6
        exact hC6
    · exact hF.elim
end Go.Proofs.YthpnncbndnjoaaaDoor.My

/- The walks of gzip's Pack and the document's. -/
namespace Go.Proofs.YthpnncbndnjoaaaDoor.My
open Go.RowKit Go.Proofs.YthpnncbndnjoaaaDoor.Huf Go.Proofs.YthpnncbndnjoaaaDoor.Plain Go.Proofs.YthpnncbndnjoaaaDoorW.PrintWords Go.Proofs.YthpnncbndnjoaaaDoorW.PrintLast Go.Proofs.YthpnncbndnjoaaaDoorW.PrintMore
set_option maxRecDepth 100000
set_option linter.unusedVariables false
set_option linter.unusedSimpArgs false

/-- A text's sum. -/
def crcN (t : List Int) : Nat := addN 0 (t.map Int.toNat)
theorem bytes_nat (t : List Int) (h : ∀ z ∈ t, 0 ≤ z ∧ z < 256) : Plain.Bytes (t.map Int.toNat) ∧ ints (t.map Int.toNat) = t := by
  refine ⟨fun x hx => ?_, ?_⟩
  · obtain ⟨z, hz, rfl⟩ := List.mem_map.1 hx
    have := h z hz
    omega
  · unfold ints
    rw [List.map_map]
    conv => rhs; rw [← List.map_id t]
    apply List.map_congr_left
    intro z hz
    have := h z hz
    simp
    omega
theorem crcN_lt (t : List Int) (h : ∀ z ∈ t, 0 ≤ z ∧ z < 256) : crcN t < 4294967296 := addN_lt 0 _ (by decide) (bytes_nat t h).1
theorem crc_of (A : Option Addr) (n c : Nat) (t : List Int) (w : World) (ht : TabW w) (hC : (Kd.int .u8).C w A n t) (hl : t.length = n) (hc : n ≤ c) (hby : ∀ z ∈ t, 0 ≤ z ∧ z < 256) :
    Calls Tryd.prog 16 #[.slice A n c] w fun e w' => e = .returned (.int .u32 (crcN t : Nat)) ∧ Below w.heap.size w w' := by
  have h := crcOf_calls A c t w ht (by rw [hl]; exact hC) (by rw [hl]; exact hc)
  rw [hl] at h
  refine h.mono ?_
  rintro e w' ⟨rfl, hd⟩
  have hn := bytes_nat t hby
  have := addF_nat 0 (t.map Int.toNat) (by decide) hn.1
  rw [hn.2] at this
  exact ⟨by rw [show (0 : Int) = ((0 : Nat) : Int) from rfl, this]; rfl, hd.below⟩
theorem leB4 (x : Nat) (hx : x < 4294967296) : leB x 4 = [(x : Int) % 256, (x : Int) / 256 % 256, (x : Int) / 65536 % 256, (x : Int) / 16777216] := by
  simp only [leB, List.range_succ, List.range_zero, List.map_append, List.map_cons, List.map_nil, List.nil_append, List.cons_append, Nat.reducePow, Nat.reduceMul, List.cons.injEq, and_true]
  refine ⟨?_, ?_, ?_, ?_⟩ <;> omega
theorem little_calls (x : Nat) (hx : x < 4294967296) (w : World) : Calls Tryd.prog 15 #[.int .u32 x] w fun e w' => e = .returned (.slice (some ⟨w.heap.size, 0, none⟩) 4 4) ∧ w' = w.alloc (.cells (nums .u8 (leB x 4)).toArray 5) := by
  have h1 : (x : Int) < 4294967296 := by omega
  rw [leB4 x hx]
  clear hx
  go_enter Tryd.func15, Tryd.ntmps15
  go_wp2_with fail
  go_ret
  refine ⟨rfl, ?_⟩
  rfl
/-- The head of what Pack writes; a member. -/
def gzHead : List Int := [31, 139, 8, 0, 0, 0, 0, 0, 0, 255]
def gzTail (t : List Int) : List Int := leB (crcN t) 4 ++ leB (t.length % 4294967296) 4
def gzL (t : List Int) (m : Int) : List Int := gzHead ++ deflL t m ++ leB (crcN t) 4 ++ leB t.length 4
def Gzipped (w : World) (t : List Int) (m : Int) (e : Ending) (w' : World) : Prop :=
  Below w.heap.size w w' ∧ ((∃ c, (DefR t m).1 = some c ∧ e = .returned (.tuple #[.slice none 0 0, errV (some c)])) ∨
    ((DefR t m).1 = none ∧ ∃ v, e = .returned (.tuple #[v, .nilIface]) ∧ w'.ownsRow w.heap.size 5 1 v (gzL t m).length (nums .u8 (gzL t m))))
theorem deflL_len (t : List Int) (m : Int) (hby : ∀ z ∈ t, 0 ≤ z ∧ z < 256) (hn : t.length ≤ 65535) : (deflL t m).length ≤ 100000000 := by
  have h1 : (fixedL letters fixD t).length ≤ 100000000 := by rw [fixedL_len]; have := fix_N t hby; omega
  have h2 : (plainL t).length ≤ 100000000 := by rw [plainL_len]; omega
  unfold deflL pkL
  split
  · exact h2
  · split
    · exact h2
    · exact h1
theorem wpl_append_run {P : Program} {w : World} {ops : Array Oper} {rest : List Oper} {o : Oper} {a : Act} {Q : Exit → Act → World → Prop} (hgd : o.guard = none) (s x : Operand) (t ty : TypeId) (hty : o.type = ty)
    (ho : o.op = .call { callee := .builtin .append, args := #[s, x], argTypes := #[t, t] }) (vs vx : Value) (hs : a.eval s = vs) (hx : a.eval x = vx) (v' : Value) (w' : World)
    (hrun : (Builtin.append_ #[t, t] ty #[vs, vx]).run P w = .ok v' w') (h : wpList P ops Q rest (a.put o.dst v') w') : wpList P ops Q (o :: rest) a w := by
  subst hty
  refine wpList_plain hgd fun K hK => ?_
  unfold Oper.wp execOp
  simp only [ho, resolve, invoke, builtin, Sem.run_bind, Sem.run_pure, Result.andThen_ok, List.map_toArray, List.map_cons, List.map_nil, hs, hx, hrun]
  exact hK _ _ h
theorem cell_nums {W : World} {g : Nat} {l : List Int} {e : TypeId} {fr : Nat × Nat} (h : W.heap[g]? = some (.cells (nums .u8 l).toArray e fr)) (j : Nat) (u : Value) (hu : (nums .u8 l)[j]? = some u) : W.cell? ⟨g, j, none⟩ = some u := by
  rw [World.cell?]
  simp [h, hu]
/-- The head's first bytes, a text that was converted, with the others behind them. -/
theorem head_append (w1 : World) : ∃ v' w', (Builtin.append_ #[22, 22] 22 #[.slice (some ⟨w1.heap.size, 0, none⟩) 3 3, .slice (some ⟨w1.heap.size + 1, 0, none⟩) 7 7]).run Tryd.prog ((w1.alloc (.cells #[.int .u8 31, .int .u8 139, .int .u8 8] 5 (3, 4))).alloc (.cells #[.int .u8 0, .int .u8 0, .int .u8 0, .int .u8 0, .int .u8 0, .int .u8 0, .int .u8 255] 5)) = .ok v' w' ∧
    w'.ownsRow w1.heap.size 5 1 v' 10 (nums .u8 gzHead) ∧ Below w1.heap.size w1 w' := by
  obtain ⟨i, hi, hz⟩ := Option.map_eq_some_iff.1 info_u8
  simp only [Prod.mk.injEq] at hz
  obtain ⟨W, hW⟩ : ∃ W, W = (w1.alloc (.cells #[.int .u8 31, .int .u8 139, .int .u8 8] 5 (3, 4))).alloc (.cells #[.int .u8 0, .int .u8 0, .int .u8 0, .int .u8 0, .int .u8 0, .int .u8 0, .int .u8 255] 5) := ⟨_, rfl⟩
  have h1 : W.heap[w1.heap.size]? = some (.cells (nums .u8 [31, 139, 8]).toArray 5 (3, 4)) := by
    rw [hW]; exact blk_below (alloc_self w1 _) (below_alloc (Below.refl _ _) _)
  have h2 : W.heap[w1.heap.size + 1]? = some (.cells (nums .u8 [0, 0, 0, 0, 0, 0, 255]).toArray 5 (0, 0)) := by
    have := alloc_self (w1.alloc (.cells #[.int .u8 31, .int .u8 139, .int .u8 8] 5 (3, 4))) (.cells #[.int .u8 0, .int .u8 0, .int .u8 0, .int .u8 0, .int .u8 0, .int .u8 0, .int .u8 255] 5)
    rw [alloc_size] at this
    rw [hW]; exact this
  have hsz : w1.heap.size ≤ W.heap.size := by rw [hW, alloc_size, alloc_size]; omega
  have hbel : Below w1.heap.size w1 W := by rw [hW]; exact below_alloc (below_alloc (Below.refl _ _) _) _
  rw [← hW]
  obtain ⟨v', w', hr, ho, hg⟩ := run_append_arg_grows (P := Tryd.prog) W 22 22 5 i (.int .u8 0) 1 1 Tryd.underlying22 hi hz.1 hz.2.1 hz.2.2 rfl (by decide) ⟨w1.heap.size, 0, none⟩ 3 3 (nums .u8 [31, 139, 8]) rfl
    (fun j u hu => by rw [add_at, Nat.zero_add]; exact cell_nums h1 j u hu)
    ⟨w1.heap.size + 1, 0, none⟩ 7 7 (nums .u8 [0, 0, 0, 0, 0, 0, 255]) rfl
    (fun j u hu => by rw [add_at, Nat.zero_add]; exact cell_nums h2 j u hu)
    (by decide) (by unfold maxLen; decide) (by decide)
  exact ⟨v', w', hr, own_base_le ho hsz, below_then hbel hsz ⟨hg.os, hg.tape, hg.output, hg.size, fun k hk => hg.block k hk (by simp)⟩⟩
set_option maxHeartbeats 4000000 in
theorem gzpack_calls (w : World) (A : Option Addr) (n c : Nat) (t : List Int) (m : Int) (hT : TabW w) (ht : (Kd.int .u8).C w A n t) (hc : n ≤ c) (hl : t.length = n) (hby : ∀ z ∈ t, 0 ≤ z ∧ z < 256) (hn : n ≤ 65535) :
    Calls Tryd.prog 7 #[.slice A n c, .int .i64 m] w (Gzipped w t m) := by
  have HD := Aside0.mk (deflate_calls w A n c t m ht hc hl hby hn)
  have HT := Aside0.mk (And.intro hT ht)
  have HL := Aside0.mk (And.intro hc (And.intro hl (And.intro hby hn)))
  have HDl := Aside0.mk (deflL_len t m hby (by omega))
  have hn' : (n : Int) ≤ 65535 := by omega
  clear hT ht hc hl hby hn
  go_enter Tryd.func7, Tryd.ntmps7
  go_wp2_with fail
  refine HD.out.mono ?_
  rintro e w1 ⟨hb1, ⟨ce, hr, rfl⟩ | ⟨hr, A1, c1, rfl, hc1, hC1⟩⟩
  · have hce : ce = 1 := by unfold DefR at hr; split at hr <;> simp at hr; exact hr.symm
    subst hce
    have HB1 := Aside0.mk hb1
    have HR := Aside0.mk hr
    clear hb1 hr
    unfold errV
    have u1 := Tryd.underlying25
    go_wp2_with fail
    go_ret2
    exact ⟨HB1.out, .inl ⟨1, HR.out, rfl⟩⟩
  · have HB1 := Aside0.mk hb1
    have HR := Aside0.mk hr
    have HC1 := Aside0.mk (And.intro hc1 hC1)
    have u1 := Tryd.underlying25
    clear hb1 hr hc1 hC1 HD
    have kc : (convert 22 22 (.slice (some ⟨w1.heap.size, 0, none⟩) 3 3)).run Tryd.prog (w1.alloc (.cells #[.int .u8 31, .int .u8 139, .int .u8 8] 5)) = .ok (.slice (some ⟨w1.heap.size, 0, none⟩) 3 3) (w1.alloc (.cells #[.int .u8 31, .int .u8 139, .int .u8 8] 5 (3, 4))) := Lib.run_convert_bytes_const (P := Tryd.prog) w1 22 5 #[.int .u8 31, .int .u8 139, .int .u8 8] 3 3 Tryd.underlying22 Tryd.underlying5
    obtain ⟨v3, w3, hrun, ho3, hb3⟩ := head_append w1
    obtain ⟨A3, c3, rfl⟩ := own_slice ho3
    have HO3 := Aside0.mk (own_base_le ho3 HB1.out.size)
    have HB3 := Aside0.mk (HB1.out.trans (hb3.mono HB1.out.size))
    have HB13 := Aside0.mk hb3
    have HRun := Aside0.mk hrun
    clear hrun ho3 hb3
    go_upto_region 5 with ((with_reducible refine gate_dst (N := 21) rfl ?_); refine wpl_append_run rfl (.tmp 19) (.tmp 20) 22 22 rfl rfl _ _ rfl rfl _ _ HRun.out ?_)
    clear HRun kc
    have HGl : Aside0 (gzHead.length = 10) := ⟨rfl⟩
    have HOx : Aside0 (w3.ownsRow w.heap.size 5 1 (.slice A3 10 c3) gzHead.length (nums .u8 gzHead)) := ⟨HO3.out⟩
    have HRx := Aside0.mk (reads_of_C (Kd.C_below HC1.out.2 HB13.out))
    have HLx : Aside0 ((gzHead.length + (deflL t m).length) * 1 ≤ 140737488355328) := ⟨by have := HDl.out; have := HGl.out; omega⟩
    have HGz : Aside0 (gzHead ++ deflL t m ++ leB (crcN t) 4 ++ leB t.length 4 = gzL t m) := ⟨rfl⟩
    obtain ⟨G, hG⟩ : ∃ G, G = gzHead := ⟨_, rfl⟩
    obtain ⟨D, hD⟩ : ∃ D, D = deflL t m := ⟨_, rfl⟩
    rw [← hG] at HGl HOx HLx HGz
    rw [← hD] at HRx HLx HGz HDl
    rw [← hD]
    clear hG hD HO3
    go_upto_region 6 with ((with_reducible refine gate_dst (N := 24) rfl ?_); refine print_append_row (w0 := w) w.heap.size rfl (.tmp 22) (.tmp 23) 22 5 .u8 1 rfl Tryd.underlying22 info_u8 (by decide) (.slice A3 10 c3) G D A1 D.length c1 rfl rfl HOx.out HRx.out HB3.out HB3.out.size HLx.out ?_; intro v4 w4 ho4 hb4 hg4 hat4; clear hg4 hat4; generalize hP : G ++ D = P at ho4; have HP := Aside0.mk hP; clear hP; obtain ⟨A4, c4, rfl⟩ := own_slice ho4; have HO4 := Aside0.mk ho4; have HB4 := Aside0.mk hb4; clear ho4 hb4)
    have hl1 : (G ++ D).length = G.length + D.length := List.length_append
    rw [HP.out] at HGz hl1
    have HL1 : Aside0 (P.length ≤ 100000010) := ⟨by have := HGl.out; have := HDl.out; omega⟩
    clear hl1 HRx HLx HOx
    have HCr := Aside0.mk (crc_of A n c t w4 (HT.out.1.below HB4.out) (Kd.C_below HT.out.2 HB4.out) HL.out.2.1 HL.out.1 HL.out.2.2.1)
    have HK := Aside0.mk (crcN_lt t HL.out.2.2.1)
    have HRl : Aside0 (∀ (x : Nat) (W : World), ReadsInt (W.alloc (.cells (nums .u8 (leB x 4)).toArray 5)) .u8 (some ⟨W.heap.size, 0, none⟩) 4 (leB x 4)) := ⟨fun x W => by
      have := C_block (W.alloc (.cells (nums .u8 (leB x 4)).toArray 5)) W.heap.size .u8 (leB x 4) 5 (0, 0) (alloc_self _ _) (by simp)
      rw [leB_len] at this
      exact reads_of_C this⟩
    go_upto_region 7 with (first
      | (go_at_call 16; refine HCr.out.mono ?_; rintro e w5 ⟨rfl, hb5⟩; have HB5 := Aside0.mk (HB4.out.trans (hb5.mono HB4.out.size)); have HO5 := Aside0.mk (pw_own_below HO4.out hb5); clear hb5)
      | (go_at_call 15; refine (little_calls (crcN t) HK.out _).mono ?_; rintro e w6 ⟨rfl, rfl⟩)
      | ((with_reducible refine gate_dst (N := 29) rfl ?_); refine print_append_row (w0 := w) w.heap.size rfl (.tmp 25) (.tmp 28) 22 5 .u8 1 rfl Tryd.underlying22 info_u8 (by decide) (.slice A4 P.length c4) P (leB (crcN t) 4) (some ⟨w5.heap.size, 0, none⟩) 4 4 rfl rfl (HO5.out.alloc _) (HRl.out (crcN t) w5) (below_alloc HB5.out _) (by have := HB5.out.size; rw [alloc_size]; omega) (by have := HL1.out; omega) ?_; intro v7 w7 ho7 hb7 hg7 hat7; clear hg7 hat7; generalize hR : P ++ leB (crcN t) 4 = R at ho7; have HRe := Aside0.mk hR; clear hR; obtain ⟨A7, c7, rfl⟩ := own_slice ho7; have HO7 := Aside0.mk ho7; have HB7 := Aside0.mk hb7; clear ho7 hb7))
    have hl2 : (P ++ leB (crcN t) 4).length = P.length + 4 := by rw [List.length_append, leB_len]
    rw [HRe.out] at HGz hl2
    have HL2 : Aside0 (R.length ≤ 100000020) := ⟨by have := HL1.out; omega⟩
    clear hl2 HCr
    rw [HL.out.2.1] at HGz
    have HN32 : Aside0 (n < 4294967296) := ⟨by omega⟩
    go_wp2_with (first
      | (go_at_call 15; refine (little_calls n HN32.out _).mono ?_; rintro e w8 ⟨rfl, rfl⟩)
      | ((with_reducible refine gate_dst (N := 35) rfl ?_); refine print_append_row (w0 := w) w.heap.size rfl (.tmp 30) (.tmp 34) 22 5 .u8 1 rfl Tryd.underlying22 info_u8 (by decide) (.slice A7 R.length c7) R (leB n 4) (some ⟨w7.heap.size, 0, none⟩) 4 4 rfl rfl (HO7.out.alloc _) (HRl.out n w7) (below_alloc HB7.out _) (by have := HB7.out.size; rw [alloc_size]; omega) (by have := HL2.out; omega) ?_; intro v9 w9 ho9 hb9 hg9 hat9; clear hg9 hat9; have HO9 := Aside0.mk ho9; have HB9 := Aside0.mk hb9; clear ho9 hb9))
    go_ret2
    have h9 := HO9.out
    rw [HGz.out] at h9
    exact ⟨HB9.out, .inr ⟨HR.out, v9, rfl, h9⟩⟩
end Go.Proofs.YthpnncbndnjoaaaDoor.My

/- What all laws of gzip share: the table as it is laid, Is, the fixed fact. -/
namespace Go.Proofs.YthpnncbndnjoaaaDoor.My
open Go.RowKit Go.Proofs.YthpnncbndnjoaaaDoor.Huf Go.Proofs.YthpnncbndnjoaaaDoor.Plain Go.Proofs.YthpnncbndnjoaaaDoorW.PrintWords Go.Proofs.YthpnncbndnjoaaaDoorW.PrintLast Go.Proofs.YthpnncbndnjoaaaDoorW.PrintMore
set_option maxRecDepth 100000
set_option linter.unusedVariables false
set_option linter.unusedSimpArgs false

theorem gTab : Tryd.prog.globalNamed "crossdock/crc.table" = some 0 := by kernel_rfl
theorem gTabType : (Tryd.prog.globals[0]?).map (·.type) = some 65 := by kernel_rfl
theorem cells16 : Tryd.prog.cellsOf 65 = 16 := by kernel_rfl
theorem cellsU : Tryd.prog.cellsOf 41 = 1 := by kernel_rfl
def tabZ : List Int := [0, 498536548, 997073096, 651767980, 1994146192, 1802195444, 1303535960, 1342533948, 3988292384, 4027552580, 3604390888, 3412177804, 2607071920, 2262029012, 2685067896, 3183342108]
theorem table1 {W : World} (h : laidMetH Tryd.prog [("crossdock/crc.table", Rows.laid_crossdock_crc_table)] W) : TabW W := by
  have ht : Lib.TabIs Tryd.prog W "crossdock/crc.table" .u32 tabZ := Lib.tabIs_of_head (rest := []) gTab gTabType Tryd.underlying65 Tryd.underlying41 cellsU cells16 h
  have hc := fun i hi => ht.cell gTab i hi
  refine ⟨World.block_lt_of_cell? W _ (hc 0 (by decide)), fun i hi => ?_⟩
  rw [hc i (by simpa [tabZ] using hi)]
  rfl
-- ORDER{
theorem table2 {W : World} (h : laidMetH Tryd.prog [("crossdock/crc.table", Rows.laid_crossdock_crc_table), ("crossdock/inflate.order", Rows.laid_crossdock_inflate_order)] W) : TabW W := by
  have ht : Lib.TabIs Tryd.prog W "crossdock/crc.table" .u32 tabZ := Lib.tabIs_of_head (rest := [("crossdock/inflate.order", Rows.laid_crossdock_inflate_order)]) gTab gTabType Tryd.underlying65 Tryd.underlying41 cellsU cells16 h
  have hc := fun i hi => ht.cell gTab i hi
  refine ⟨World.block_lt_of_cell? W _ (hc 0 (by decide)), fun i hi => ?_⟩
  rw [hc i (by simpa [tabZ] using hi)]
  rfl
-- }ORDER
noncomputable def laidWorld (os : Os) : World :=
  let w0 := World.holding Tryd.prog os ⟨#[], #[], []⟩
  let put (h : Array Obj) (g : Nat) (cs : Array Value) : Array Obj := h.modify g fun
    | .cells _ t frozen => .cells cs t frozen
    | o => o
  let h1 := put w0.heap 0 (tabZ.map (Value.int .u32)).toArray
  { w0 with heap := put h1 2 ((([16, 17, 18, 0, 8, 7, 9, 6, 10, 5, 11, 4, 12, 3, 13, 2, 14, 1, 15] : List Int).map fun (z : Int) => Value.int .i64 z).toArray) }
theorem C_take8 {w : World} {A : Option Addr} {n : Nat} {xs : List Int} (h : (Kd.int .u8).C w A n xs) (a : Nat) (ha : a ≤ n) : (Kd.int .u8).C w A a (xs.take a) := by
  obtain ⟨h1, h2, h3⟩ := reads_of_C h
  refine C_of_readsInt ⟨by rw [List.length_take]; omega, by omega, fun hn => ?_⟩
  obtain ⟨ad, e, hc⟩ := h3 (by omega)
  refine ⟨ad, e, fun j hj => ?_⟩
  rw [hc j (by omega)]
  simp [List.getD_eq_getElem?_getD, List.getElem?_take, hj]
/-- Do bytes begin as a member does? -/
def isG (l : List Int) : Bool := decide (3 ≤ l.length) && ((strOfNums (l.take 3)).toList == [31, 139, 8])
theorem isg_calls (A : Option Addr) (n c : Nat) (l : List Int) (w : World) (hC : (Kd.int .u8).C w A n l) (hl : l.length = n) (hc : n ≤ c) (hn : n ≤ 1000000000) :
    Calls Tryd.prog 13 #[.slice A n c] w fun e w' => e = .returned (.bool (isG l)) ∧ w = w' := by
  have hI : Aside0 (isG l = (decide (3 ≤ l.length) && ((strOfNums (l.take 3)).toList == [31, 139, 8]))) := ⟨rfl⟩
  by_cases h3 : 3 ≤ n
  · have hto : ∀ W : World, (Instr.slice 22 (.slice A n c) none (some (.int .i64 3)) none).run Tryd.prog W = .ok (.slice A 3 c) W := fun W => slice_to8 A n c 3 (by omega) W
    have k1 := Kd.C_string (P := Tryd.prog) (src := 22) (dst := 9) (c := c) Tryd.underlying22 Tryd.underlying5 Tryd.underlying9 (C_take8 hC 3 h3)
    have h3' : (3 : Int) ≤ (n : Int) := by omega
    have e : isG l = ((strOfNums (l.take 3)).toList == [31, 139, 8]) := by rw [hI.out, hl, decide_eq_true h3, Bool.true_and]
    rw [e]
    clear hC hl hc hI e h3
    generalize strOfNums (l.take 3) = s at *
    go_enter Tryd.func13, Tryd.ntmps13
    go_wp2
    go_ret
    exact ⟨rfl, rfl⟩
  · have h3' : ¬ (3 : Int) ≤ (n : Int) := by omega
    have h3'' : (n : Int) < 3 := by omega
    have e : isG l = false := by rw [hI.out, hl, decide_eq_false h3, Bool.false_and]
    rw [e]
    clear hC hl hc hI e h3
    go_enter Tryd.func13, Tryd.ntmps13
    go_wp2
    go_ret
    exact ⟨rfl, rfl⟩
theorem gzL_nil : gzL [] 1 = [31, 139, 8, 0, 0, 0, 0, 0, 0, 255, 3, 0, 0, 0, 0, 0, 0, 0, 0, 0] := by kernel_rfl
theorem isG_nil : isG [31, 139, 8, 0, 0, 0, 0, 0, 0, 255, 3, 0, 0, 0, 0, 0, 0, 0, 0, 0] = true := by decide +kernel
theorem defR_nil : (DefR [] 1).1 = none := by kernel_rfl
set_option maxHeartbeats 2000000 in
theorem alive_calls (w : World) (hT : TabW w) : Calls Tryd.prog 6 #[] w fun e w' => e = .returned (.bool true) ∧ Below w.heap.size w w' := by
  have HP := Aside0.mk (gzpack_calls w none 0 0 [] 1 hT (by exact C_of_readsInt ⟨rfl, by omega, fun h => absurd h (by omega)⟩) (Nat.le_refl _) rfl (fun z hz => by simp at hz) (by omega))
  have u1 := Tryd.underlying25
  go_enter Tryd.func6, Tryd.ntmps6
  go_wp2_with fail
  refine HP.out.mono ?_
  rintro e w1 ⟨hb, ⟨c, h1, _⟩ | ⟨_, v, rfl, ho⟩⟩
  · rw [defR_nil] at h1; cases h1
  · rw [gzL_nil] at ho
    have HB := Aside0.mk hb
    obtain ⟨A1, c1, rfl, hc1, hC1⟩ := own_slice' ho
    have HI := Aside0.mk (isg_calls A1 20 c1 _ w1 hC1 rfl hc1 (by decide))
    rw [isG_nil] at HI
    obtain ⟨ad, rfl, h9⟩ := byte_at hC1 9 (by decide)
    obtain ⟨ad', e2, h10⟩ := byte_at hC1 10 (by decide)
    cases e2
    clear ho hb hc1 hC1
    have h9' : w1.cell? ⟨ad.block, ad.off + 9, none⟩ = some (.int .u8 255) := by rw [show (⟨ad.block, ad.off + 9, none⟩ : Addr) = ad.add 9 by simp [Addr.add]]; exact h9
    have h10' : w1.cell? ⟨ad.block, ad.off + 10, none⟩ = some (.int .u8 3) := by rw [show (⟨ad.block, ad.off + 10, none⟩ : Addr) = ad.add 10 by simp [Addr.add]]; exact h10
    clear h9 h10
    dsimp only [List.length_cons, List.length_nil] at *
    go_wp2_with (go_at_call 13; refine HI.out.mono ?_; rintro e w2 ⟨rfl, rfl⟩)
    go_ret
    exact ⟨rfl, HB.out⟩
end Go.Proofs.YthpnncbndnjoaaaDoor.My

/- The document's codes, plainly: its rows of bits, and what it answers to which lengths. -/
namespace Go.Proofs.YthpnncbndnjoaaaDoor.My
open Go.RowKit Go.Proofs.YthpnncbndnjoaaaDoor.Huf Go.Proofs.YthpnncbndnjoaaaDoor.PGzipPacks Go.Proofs.YthpnncbndnjoaaaDoorW.PrintWords Go.Proofs.YthpnncbndnjoaaaDoorW.PrintLast Go.Proofs.YthpnncbndnjoaaaDoorW.PrintMore
set_option maxRecDepth 100000
set_option linter.unusedVariables false
set_option linter.unusedSimpArgs false

theorem wn (x : Int) (h0 : -9223372036854775808 ≤ x) (h : x ≤ 9223372036854775807) : wrap64 x = x := by unfold wrap64; omega
theorem un (x : Int) (h0 : 0 ≤ x) (h : x ≤ 18446744073709551615) : IntKind.u64.wrap x = x := IntWalk.u64_in x ⟨h0, h⟩
/-- A bit as a digit. -/
def bitc (x i : Nat) : ByteArray := if x / 2 ^ i % 2 = 1 then ⟨#[49]⟩ else ⟨#[48]⟩
theorem bitc_size (x i : Nat) : (bitc x i).size = 1 := by unfold bitc; split <;> rfl
/-- So many bits, behind a text. -/
def rowF (x : Nat) : Nat → ByteArray → ByteArray
  | 0, acc => acc
  | j + 1, acc => rowF x j (acc ++ bitc x j)
theorem shr_nat (x j : Nat) (h : j ≤ 60) : shr .i64 (x : Int) (IntKind.u64.wrap (j : Int)) = ((x / 2 ^ j : Nat) : Int) := by
  rw [un (j : Int) (by omega) (by omega)]
  show (x : Int) / 2 ^ min (j : Int).toNat 64 = _
  rw [Nat.min_eq_left (by omega)]
  simp
theorem size_app (a b : ByteArray) : (a ++ b).size = a.size + b.size := ByteArray.size_append
theorem rowD_run (x : Nat) : ∀ (j k : Nat) (acc : ByteArray), j ≤ 60 → acc.size + j ≤ 1000 → crossdockref07_row.l0 (k + j + 1) x acc ((j : Int) - 1) = some (rowF x j acc)
  | 0, k, acc, _, _ => by
    simp only [crossdockref07_row.l0, rowF]
    rw [if_neg (by omega)]
  | j + 1, k, acc, hj, hs => by
    rw [show k + (j + 1) + 1 = (k + j + 1) + 1 from rfl]
    simp only [crossdockref07_row.l0, rowF]
    rw [if_pos (by omega), show (((j + 1 : Nat) : Int) - 1) = (j : Int) from by omega, if_pos (by rw [un (j : Int) (by omega) (by omega)]; omega), shr_nat x j (by omega)]
    rw [wn ((j : Int) - 1) (by omega) (by omega)]
    have ih := rowD_run x j k (acc ++ bitc x j) (by omega) (by rw [size_app, bitc_size]; omega)
    unfold bitc at ih ⊢
    have ht : Int.tmod ((x / 2 ^ j : Nat) : Int) 2 = ((x / 2 ^ j % 2 : Nat) : Int) := by rw [Int.tmod_eq_emod_of_nonneg (Int.natCast_nonneg _)]; exact (Int.natCast_emod _ _).symm
    rw [ht]
    generalize x / 2 ^ j % 2 = q at *
    by_cases hb : q = 1
    · rw [if_pos hb] at ih ⊢
      rw [if_pos (by omega), if_pos (by omega)]
      exact ih
    · rw [if_neg hb] at ih ⊢
      rw [if_neg (by omega), if_pos (by omega)]
      exact ih
theorem rowD (x n k : Nat) (h : n ≤ 60) : crossdockref07_row.f (k + n + 1) x n = some (rowF x n ⟨#[]⟩) := by
  unfold crossdockref07_row.f
  rw [wn _ (by omega) (by omega)]
  exact rowD_run x n k _ h (by show 0 + n ≤ 1000; omega)
theorem digit (x j : Nat) (hx : x < 9223372036854775808) : strOfNums [wrap64 (48 + Go.bits .and .i64 ((x / 2 ^ j : Nat) : Int) 1) % 256] = bitc x j := by
  have h1 : x / 2 ^ j < 9223372036854775808 := Nat.lt_of_le_of_lt (Nat.div_le_self _ _) hx
  rw [Go.Proofs.and_one _ h1]
  unfold bitc
  have h2 : x / 2 ^ j % 2 < 2 := Nat.mod_lt _ (by decide)
  by_cases hb : x / 2 ^ j % 2 = 1
  · rw [if_pos hb, hb]; decide +kernel
  · rw [if_neg hb, show x / 2 ^ j % 2 = 0 by omega]; decide +kernel
end Go.Proofs.YthpnncbndnjoaaaDoor.My

/- The document's Codes answers what New does. -/
namespace Go.Proofs.YthpnncbndnjoaaaDoor.My
open Go.RowKit Go.Proofs.YthpnncbndnjoaaaDoor.Huf Go.Proofs.YthpnncbndnjoaaaDoor.PGzipPacks Go.Proofs.YthpnncbndnjoaaaDoorW.PrintWords Go.Proofs.YthpnncbndnjoaaaDoorW.PrintLast Go.Proofs.YthpnncbndnjoaaaDoorW.PrintMore
set_option maxRecDepth 100000
set_option linter.unusedVariables false
set_option linter.unusedSimpArgs false

def rowOf (L : List Int) (u : Nat) : ByteArray := rowF (code L u) (L.getD u 0).toNat ⟨#[]⟩
/-- All codes as rows of bits. -/
def wantL (L : List Int) : List ByteArray := (List.range L.length).map (rowOf L)
/-- Those that are laid so far: all of lengths below n, and of length n those ahead of t. -/
def outL (L : List Int) (n t : Nat) : List ByteArray := (List.range L.length).map fun u => if L.getD u 0 ≠ 0 ∧ (L.getD u 0 < (n : Int) ∨ L.getD u 0 = (n : Int) ∧ u < t) then rowOf L u else ⟨#[]⟩
theorem outL_len (L : List Int) (n t : Nat) : (outL L n t).length = L.length := by simp [outL]
theorem map_range_congr {α : Type} (n : Nat) (f g : Nat → α) (h : ∀ u, u < n → f u = g u) : (List.range n).map f = (List.range n).map g := by
  apply List.map_congr_left
  intro u hu
  exact h u (List.mem_range.1 hu)
theorem outL_skip (L : List Int) (n s : Nat) (h : L.getD s 0 ≠ (n : Int)) : outL L n (s + 1) = outL L n s := map_range_congr _ _ _ fun u hu => by
  have : (L.getD u 0 ≠ 0 ∧ (L.getD u 0 < (n : Int) ∨ L.getD u 0 = (n : Int) ∧ u < s + 1)) ↔ (L.getD u 0 ≠ 0 ∧ (L.getD u 0 < (n : Int) ∨ L.getD u 0 = (n : Int) ∧ u < s)) := by
    by_cases e : u = s
    · subst e
      exact ⟨fun ⟨a, b⟩ => ⟨a, b.elim .inl fun c => absurd c.1 h⟩, fun ⟨a, b⟩ => ⟨a, b.elim .inl fun c => absurd c.1 h⟩⟩
    · exact ⟨fun ⟨a, b⟩ => ⟨a, b.elim .inl fun c => .inr ⟨c.1, by omega⟩⟩, fun ⟨a, b⟩ => ⟨a, b.elim .inl fun c => .inr ⟨c.1, by omega⟩⟩⟩
  simp only [this]
theorem outL_set (L : List Int) (n s : Nat) (hn : n ≠ 0) (h : L.getD s 0 = (n : Int)) : (outL L n s).set s (rowOf L s) = outL L n (s + 1) := by
  apply List.ext_getElem
  · simp [outL]
  · intro u a b
    rw [List.getElem_set]
    simp only [outL, List.getElem_map, List.getElem_range]
    split
    · next e =>
      subst e
      rw [if_pos ⟨by rw [h]; omega, .inr ⟨h, by omega⟩⟩]
    · next e =>
      have : (L.getD u 0 ≠ 0 ∧ (L.getD u 0 < (n : Int) ∨ L.getD u 0 = (n : Int) ∧ u < s + 1)) ↔ (L.getD u 0 ≠ 0 ∧ (L.getD u 0 < (n : Int) ∨ L.getD u 0 = (n : Int) ∧ u < s)) :=
        ⟨fun ⟨a, b⟩ => ⟨a, b.elim .inl fun c => .inr ⟨c.1, by omega⟩⟩, fun ⟨a, b⟩ => ⟨a, b.elim .inl fun c => .inr ⟨c.1, by omega⟩⟩⟩
      simp only [this]
theorem outL_next (L : List Int) (n : Nat) : outL L n L.length = outL L (n + 1) 0 := map_range_congr _ _ _ fun u hu => by
  have : (L.getD u 0 ≠ 0 ∧ (L.getD u 0 < (n : Int) ∨ L.getD u 0 = (n : Int) ∧ u < L.length)) ↔ (L.getD u 0 ≠ 0 ∧ (L.getD u 0 < ((n + 1 : Nat) : Int) ∨ L.getD u 0 = ((n + 1 : Nat) : Int) ∧ u < 0)) :=
    ⟨fun ⟨a, b⟩ => ⟨a, b.elim (fun c => .inl (by omega)) fun c => .inl (by omega)⟩, fun ⟨a, b⟩ => ⟨a, b.elim (fun c => by by_cases e : L.getD u 0 = (n : Int); exact .inr ⟨e, hu⟩; exact .inl (by omega)) fun c => by omega⟩⟩
  simp only [this]
theorem getD_ok (L : List Int) (hok : okL L = true) (u : Nat) (hu : u < L.length) : 0 ≤ L.getD u 0 ∧ L.getD u 0 ≤ 15 := by
  have hmem : L.getD u 0 ∈ L := by rw [List.getD_eq_getElem?_getD, List.getElem?_eq_getElem hu]; exact List.getElem_mem _
  have := List.all_eq_true.1 hok _ hmem
  simpa using this
theorem outL_all (L : List Int) (hok : okL L = true) : outL L 16 0 = wantL L := map_range_congr _ _ _ fun u hu => by
  have h := getD_ok L hok u hu
  by_cases e : L.getD u 0 = 0
  · rw [if_neg (fun c => c.1 e)]
    unfold rowOf
    rw [e]
    rfl
  · rw [if_pos ⟨e, .inl (by omega)⟩]
theorem outL_none (L : List Int) (hok : okL L = true) : List.replicate L.length (⟨#[]⟩ : ByteArray) = outL L 1 0 := by
  apply List.ext_getElem
  · simp [outL]
  · intro u a b
    have hu : u < L.length := by simpa using a
    have h := getD_ok L hok u hu
    simp only [outL, List.getElem_replicate, List.getElem_map, List.getElem_range]
    rw [if_neg (fun c => by rcases c.2 with d | d <;> omega)]
theorem shl_one (n : Nat) (h : n ≤ 40) : shl .i64 1 (IntKind.u64.wrap (n : Int)) = ((2 ^ n : Nat) : Int) := by
  rw [un (n : Int) (by omega) (by omega)]
  have h1 : 2 ^ n ≤ 2 ^ 40 := Nat.pow_le_pow_right (by decide) h
  show IntKind.i64.wrap (1 * 2 ^ min (n : Int).toNat 64) = _
  rw [Nat.min_eq_left (by omega), Int.toNat_natCast, Int.one_mul, show ((2 : Int) ^ n) = ((2 ^ n : Nat) : Int) by push_cast; rfl, IntKind.wrap_i64]
  generalize 2 ^ n = q at *
  omega
def onesF (L : List Int) (n s : Nat) : Nat := if n = 1 then cn (L.take s) 1 else cn L 1
theorem step_mul (a b q : Nat) : (a + (b + 1)) * q = (a + b) * q + q := by rw [← Nat.add_assoc]; exact Nat.succ_mul _ _
theorem wr2 (a b n : Nat) (h15 : n ≤ 15) (hle : a + b ≤ 2 ^ n) : wrap64 ((((a + b) * 2 ^ (15 - n) : Nat) : Int) + ((2 ^ (15 - n) : Nat) : Int)) = (((a + (b + 1)) * 2 ^ (15 - n) : Nat) : Int) := by
  have hu : 2 ^ n * 2 ^ (15 - n) = 2 ^ 15 := by rw [← Nat.pow_add]; congr 1; omega
  have hu2 : (a + b) * 2 ^ (15 - n) ≤ 2 ^ 15 := by rw [← hu]; exact Nat.mul_le_mul_right _ hle
  have hu3 : 2 ^ (15 - n) ≤ 2 ^ 15 := Nat.pow_le_pow_right (by decide) (by omega)
  rw [step_mul]
  clear hu hle
  generalize (a + b) * 2 ^ (15 - n) = q1 at *
  generalize 2 ^ (15 - n) = q2 at *
  have h1 : q1 ≤ 32768 := hu2
  have h2 : q2 ≤ 32768 := hu3
  clear hu2 hu3
  rw [wn _ (by omega) (by omega)]
  omega
theorem wr1 (x : Nat) (h : x ≤ 1000000) : wrap64 ((x : Int) + 1) = ((x + 1 : Nat) : Int) := by rw [wn _ (by omega) (by omega)]; omega
theorem beg_le2 (L : List Int) (hl : L.length ≤ 320) (n s : Nat) (h15 : n ≤ 15) : beg L n + cn (L.take s) n ≤ 1000000 := by
  have h4 := beg_le L n
  have h5 := cn_take_le L s n
  have h6 := cn_le L n
  have h7 : n * L.length ≤ 15 * 320 := Nat.mul_le_mul h15 hl
  omega
theorem ones_le (L : List Int) (hl : L.length ≤ 320) (n s : Nat) : onesF L n s ≤ 1000000 := by
  unfold onesF
  split
  · have := cn_take_le L s 1; have := cn_le L 1; omega
  · have := cn_le L 1; omega
theorem pow15 (n x : Nat) (h15 : n ≤ 15) (h : x ≤ 2 ^ n) : x ≤ 1000000 := by
  have h1 : 2 ^ n ≤ 2 ^ 15 := Nat.pow_le_pow_right (by decide) h15
  exact Nat.le_trans h (Nat.le_trans h1 (by decide))
theorem l2_run (L : List Int) (lone : Bool) (hl : L.length ≤ 320) (n : Nat) (h1 : 1 ≤ n) (h15 : n ≤ 15) (k : Nat) (hk : 17 ≤ k) : ∀ d s, s + d = L.length → fst L n + cn (L.take s) n ≤ 2 ^ n →
    crossdockref07_Codes.l2 (k + 1 + d) L lone (outL L n s) ((fst L n + cn (L.take s) n : Nat) : Int) (((fst L n + cn (L.take s) n) * 2 ^ (15 - n) : Nat) : Int) ((beg L n + cn (L.take s) n : Nat) : Int) ((onesF L n s : Nat) : Int) (n : Int) (s : Int) =
      if over L n then some ([], 14) else crossdockref07_Codes.l1 k L lone (outL L n L.length) ((fst L n + cn L n : Nat) : Int) (((fst L n + cn L n) * 2 ^ (15 - n) : Nat) : Int) ((beg L n + cn L n : Nat) : Int) ((onesF L n L.length : Nat) : Int) ((n + 1 : Nat) : Int)
  | 0, s, hs, hle => by
    have : s = L.length := by omega
    subst this
    rw [List.take_length] at hle ⊢
    rw [Nat.add_zero, show k + 1 = Nat.succ k from rfl]
    simp only [crossdockref07_Codes.l2]
    rw [if_neg (by omega), wn _ (by omega) (by omega), if_neg (show ¬ over L n = true by unfold over; simpa using hle)]
    rfl
  | d + 1, s, hs, hle => by
    have hlt : s < L.length := by omega
    have hx := getD_some L s hlt
    have ih := l2_run L lone hl n h1 h15 k hk d (s + 1) (by omega)
    rw [show k + 1 + (d + 1) = Nat.succ (k + 1 + d) from rfl]
    simp only [crossdockref07_Codes.l2]
    rw [if_pos (by omega), if_pos (by omega), show rd L (s : Int) = L.getD s 0 from by unfold rd; rw [Int.toNat_natCast]]
    rw [cn_take L s n _ hx] at ih
    have hs1 : wrap64 ((s : Int) + 1) = ((s + 1 : Nat) : Int) := by rw [wn _ (by omega) (by omega)]; omega
    by_cases e : L.getD s 0 = (n : Int)
    · rw [if_pos e, if_pos (by rw [un _ (by omega) (by omega)]; omega), shl_one n (by omega)]
      rw [if_pos e] at ih
      have hcl := cn_take_le L (s + 1) n
      rw [cn_take L s n _ hx, if_pos e] at hcl
      by_cases hov : fst L n + cn (L.take s) n = 2 ^ n
      · rw [if_pos (by omega), if_pos (show over L n = true by unfold over; exact decide_eq_true (by omega))]
      · rw [if_neg (by omega), show k + 1 + d = (k + d - n) + n + 1 by omega, rowD _ n _ (by omega), Option.bind_some, if_pos (by rw [outL_len]; omega), Option.bind_some]
        have hcode : rowF (fst L n + cn (L.take s) n) n ⟨#[]⟩ = rowOf L s := by
          unfold rowOf code
          rw [e]
          simp only [Int.toNat_natCast]
          rw [if_neg (by omega)]
        rw [hcode, Int.toNat_natCast, outL_set L n s (by omega) e]
        have h15n : wrap64 (15 - (n : Int)) = ((15 - n : Nat) : Int) := by rw [wn _ (by omega) (by omega)]; omega
        rw [h15n, if_pos (by rw [un _ (by omega) (by omega)]; omega), shl_one (15 - n) (by omega)]
        have w1 : wrap64 (((fst L n + cn (L.take s) n : Nat) : Int) + 1) = ((fst L n + (cn (L.take s) n + 1) : Nat) : Int) := wr1 _ (pow15 n _ h15 hle)
        have w2 := wr2 (fst L n) (cn (L.take s) n) n h15 hle
        have w3 : wrap64 (((beg L n + cn (L.take s) n : Nat) : Int) + 1) = ((beg L n + (cn (L.take s) n + 1) : Nat) : Int) := wr1 _ (beg_le2 L hl n s h15)
        have w4 : wrap64 (((onesF L n s : Nat) : Int) + 1) = ((onesF L n s + 1 : Nat) : Int) := wr1 _ (ones_le L hl n s)
        have hle1 : fst L n + (cn (L.take s) n + 1) ≤ 2 ^ n := Nat.succ_le_of_lt (Nat.lt_of_le_of_ne hle hov)
        have hkk : k + d - n + n + 1 = k + 1 + d := by clear w1 w2 w3 w4 ih hle hov hle1; omega
        have hn1i : n = 1 → ((n : Int) = 1) := fun e => by rw [e]; rfl
        have hn1j : n ≠ 1 → ¬ ((n : Int) = 1) := fun e e2 => e (by clear w1 w2 w3 w4 ih hle hov hle1; omega)
        replace ih := ih hle1
        rw [hkk, w1, w2, w3, w4, hs1]
        by_cases hn1 : n = 1
        · rw [if_pos (hn1i hn1), ← ih]
          have : onesF L n (s + 1) = onesF L n s + 1 := by
            unfold onesF
            subst hn1
            rw [if_pos rfl, if_pos rfl, cn_take L s 1 _ hx, if_pos e]
          rw [this]
        · rw [if_neg (hn1j hn1), ← ih]
          have : onesF L n (s + 1) = onesF L n s := by unfold onesF; rw [if_neg hn1, if_neg hn1]
          rw [this]
    · rw [if_neg e, hs1]
      rw [if_neg e, Nat.add_zero, outL_skip L n s e] at ih
      rw [← ih hle]
      have : onesF L n (s + 1) = onesF L n s := by
        unfold onesF
        split
        · next hn1 => subst hn1; rw [cn_take L s 1 _ hx, if_neg e]; rfl
        · rfl
      rw [this]
/-- How many codes there are up to a length, of that length. -/
def pre (L : List Int) (n : Nat) : Nat := fst L (n - 1) + c0 L (n - 1)
def doneR (L : List Int) (lone : Bool) (b : Bool) : List ByteArray × Int :=
  if b = true then ([], 14) else if fst L 15 + cn L 15 = 32768 then (wantL L, 0) else if lone = true ∧ aloneL L = true then (wantL L, 0) else ([], 2)
theorem pre_succ (L : List Int) (n : Nat) (h1 : 1 ≤ n) : pre L (n + 1) = fst L n + cn L n := by
  unfold pre
  rw [Nat.add_sub_cancel]
  unfold c0
  rw [if_neg (by omega)]
theorem fst_pre (L : List Int) (n : Nat) (h1 : 1 ≤ n) : fst L n = pre L n * 2 := by
  obtain ⟨m, rfl⟩ : ∃ m, n = m + 1 := ⟨n - 1, by omega⟩
  rw [fst]
  unfold pre
  rw [Nat.add_sub_cancel, Nat.mul_comm]
theorem used_pre (L : List Int) (n : Nat) (h1 : 1 ≤ n) (h15 : n ≤ 15) : pre L n * 2 ^ (16 - n) = fst L n * 2 ^ (15 - n) := by
  rw [fst_pre L n h1, Nat.mul_assoc, show 16 - n = (15 - n) + 1 by omega, Nat.pow_succ, Nat.mul_comm 2 (2 ^ (15 - n))]
theorem beg_succ (L : List Int) (n : Nat) (h1 : 1 ≤ n) : beg L (n + 1) = beg L n + cn L n := by rw [beg]; unfold c0; rw [if_neg (by omega)]
theorem aloneL_iff (L : List Int) : aloneL L = true ↔ (beg L 16 = 0 ∨ beg L 16 = 1 ∧ cn L 1 = 1) := by
  unfold aloneL c0
  simp
theorem l1_run (L : List Int) (lone : Bool) (hok : okL L = true) (hl : L.length ≤ 320) (k : Nat) (hk : 17 ≤ k) : ∀ j n, n + j = 16 → 1 ≤ n → (∀ i, 1 ≤ i → i < n → over L i = false) →
    crossdockref07_Codes.l1 (k + (L.length + 2) * j + 1) L lone (outL L n 0) ((pre L n : Nat) : Int) ((pre L n * 2 ^ (16 - n) : Nat) : Int) ((beg L n : Nat) : Int) ((if n = 1 then 0 else cn L 1 : Nat) : Int) (n : Int) = some (doneR L lone (anyOver L j n))
  | 0, n, hn, h1, ho => by
    have : n = 16 := by omega
    subst this
    simp only [crossdockref07_Codes.l1]
    rw [if_neg (by omega), pre_succ L 15 (by omega), outL_all L hok]
    have e0 : (fst L 15 + cn L 15) * 2 ^ (16 - 16) = fst L 15 + cn L 15 := Nat.mul_one _
    rw [e0, show anyOver L 0 16 = false from rfl]
    unfold doneR
    rw [if_neg (show ¬ (false = true) by decide)]
    have ha := aloneL_iff L
    have e1 : (if 16 = 1 then 0 else cn L 1) = cn L 1 := if_neg (by decide)
    rw [e1]
    by_cases c : fst L 15 + cn L 15 = 32768
    · rw [if_pos (by omega), if_pos c]
    · rw [if_neg (by omega), if_neg c]
      cases lone with
      | false => rw [if_neg (by decide), if_neg (fun h => absurd h.1 (by decide))]
      | true =>
        rw [if_pos rfl]
        by_cases b0 : beg L 16 = 0
        · rw [if_pos (by omega), if_pos ⟨rfl, ha.2 (.inl b0)⟩]
        · rw [if_neg (by omega)]
          by_cases b1 : beg L 16 = 1
          · rw [if_pos (by omega)]
            by_cases b2 : cn L 1 = 1
            · rw [if_pos (by omega), if_pos ⟨rfl, ha.2 (.inr ⟨b1, b2⟩)⟩]
            · rw [if_neg (by omega), if_neg (fun h => (ha.1 h.2).elim b0 (fun h => b2 h.2))]
          · rw [if_neg (by omega), if_neg (fun h => (ha.1 h.2).elim b0 (fun h => b1 h.1))]
  | j + 1, n, hn, h1, ho => by
    have h15 : n ≤ 15 := by omega
    have hf := fst_le L n ho
    have hfuel : k + (L.length + 2) * (j + 1) + 1 = Nat.succ ((k + (L.length + 2) * j + 1) + 1 + L.length) := by rw [Nat.mul_succ]; omega
    rw [hfuel]
    simp only [crossdockref07_Codes.l1]
    rw [if_pos (by omega)]
    have hp := fst_pre L n h1
    have hpl := pow15 n _ h15 hf
    have w0 : wrap64 (((pre L n : Nat) : Int) * 2) = ((fst L n : Nat) : Int) := by rw [wn _ (by omega) (by omega)]; omega
    rw [w0, used_pre L n h1 h15]
    have h2 := l2_run L lone hl n h1 h15 (k + (L.length + 2) * j + 1) (by omega) L.length 0 (by omega) (by simpa [cn] using hf)
    have e0 : cn (L.take 0) n = 0 := by simp [cn]
    have e1 : onesF L n 0 = if n = 1 then 0 else cn L 1 := by unfold onesF; simp [cn]
    rw [e0, Nat.add_zero, Nat.add_zero, e1] at h2
    refine h2.trans ?_
    rw [anyOver]
    by_cases hov : over L n = true
    · rw [if_pos hov, hov, Bool.true_or]
      unfold doneR
      rw [if_pos rfl]
    · have hov' : over L n = false := by simpa using hov
      rw [if_neg hov, hov', Bool.false_or]
      have ih := l1_run L lone hok hl k hk j (n + 1) (by omega) (by omega) (fun i hi1 hi2 => by
        by_cases e : i = n
        · rw [e]; exact hov'
        · exact ho i hi1 (by omega))
      rw [pre_succ L n h1, beg_succ L n h1, show 16 - (n + 1) = 15 - n by omega, if_neg (by omega), ← outL_next L n] at ih
      have e2 : onesF L n L.length = cn L 1 := by
        unfold onesF
        split
        · rw [List.take_length]
        · rfl
      rw [e2]
      exact ih
theorem l0_run (L : List Int) (lone : Bool) (hl : L.length ≤ 320) (k : Nat) : ∀ d s, s + d = L.length → (∀ u, u < s → 0 ≤ L.getD u 0 ∧ L.getD u 0 ≤ 15) →
    crossdockref07_Codes.l0 (k + d + 1) L lone L (L.length : Int) (s : Int) = if okL L = true then crossdockref07_Codes.l1 k L lone (List.replicate L.length ⟨#[]⟩) 0 0 0 0 1 else some ([], 1)
  | 0, s, hs, ho => by
    simp only [crossdockref07_Codes.l0]
    have hok : okL L = true := all_true L (fun i x hx => by
      have hi := (List.getElem?_eq_some_iff.1 hx).1
      have := ho i (by omega)
      rw [List.getD_eq_getElem?_getD, hx] at this
      exact this)
    rw [if_neg (by omega), if_pos (by omega), if_pos (by omega), if_pos hok, Int.toNat_natCast]
  | d + 1, s, hs, ho => by
    rw [show k + (d + 1) + 1 = (k + d + 1) + 1 by omega]
    simp only [crossdockref07_Codes.l0]
    rw [if_pos (by omega), if_pos (by omega), if_pos (by omega), show rd L (s : Int) = L.getD s 0 from by unfold rd; rw [Int.toNat_natCast]]
    have hx := getD_some L s (by omega)
    have hbad := all_take L s _ hx
    by_cases c1 : L.getD s 0 < 0
    · rw [if_pos c1, if_neg (by rw [hbad (by omega)]; decide)]
    · rw [if_neg c1]
      by_cases c2 : L.getD s 0 > 15
      · rw [if_pos c2, if_neg (by rw [hbad (by omega)]; decide)]
      · rw [if_neg c2, wr1 s (by omega)]
        exact l0_run L lone hl k d (s + 1) (by omega) (fun u hu => by
          by_cases e : u = s
          · subst e; omega
          · exact ho u (by omega))
/-- The document's answer. -/
def docR (L : List Int) (lone : Bool) : List ByteArray × Int := match newR L lone with | none => (wantL L, 0) | some c => ([], c)
theorem doc_codes (L : List Int) (lone : Bool) : ∃ k, crossdockref07_Codes.f k L lone = some (docR L lone) := by
  refine ⟨(17 + (L.length + 2) * 15 + 1) + L.length + 1, ?_⟩
  unfold crossdockref07_Codes.f docR newR
  by_cases h320 : 320 < L.length
  · rw [if_pos (by omega), if_pos h320]
  · rw [if_neg (by omega), if_neg h320]
    have h0 := l0_run L lone (by omega) (17 + (L.length + 2) * 15 + 1) L.length 0 (by omega) (fun u hu => by omega)
    refine h0.trans ?_
    by_cases hok : okL L = true
    · rw [if_pos hok, if_neg (by rw [hok]; decide)]
      have h1 := l1_run L lone hok (by omega) 17 (Nat.le_refl _) 15 1 (by omega) (by omega) (fun i h1 h2 => by omega)
      rw [← outL_none L hok] at h1
      have hp : pre L 1 = 0 := by unfold pre; simp [fst, c0]
      have hb : beg L 1 = 0 := by simp [beg, c0]
      rw [hp, hb, if_pos rfl, Nat.zero_mul] at h1
      refine h1.trans ?_
      unfold doneR numR
      by_cases hov : anyOver L 15 1 = true
      · rw [if_pos hov, if_pos hov, if_pos (by decide)]
      · rw [if_neg hov, if_neg hov]
        have hov' : anyOver L 15 1 = false := by simpa using hov
        have h15 := over_all L 15 1 hov' 15 (by omega) (by omega)
        have h16 : fst L 15 + cn L 15 ≤ 32768 := by
          unfold over at h15
          have h17 := of_decide_eq_false h15
          rw [show 2 ^ 15 = 32768 from rfl] at h17
          omega
        rw [if_neg (show ¬ (32768 - ((fst L 15 + cn L 15 : Nat) : Int) < 0) by omega)]
        by_cases c : fst L 15 + cn L 15 = 32768
        · rw [if_pos c, if_neg (show ¬ (0 < 32768 - ((fst L 15 + cn L 15 : Nat) : Int) ∧ ¬ (lone = true ∧ aloneL L = true)) by omega)]
        · rw [if_neg c]
          by_cases c2 : lone = true ∧ aloneL L = true
          · rw [if_pos c2, if_neg (fun h => h.2 c2)]
          · rw [if_neg c2, if_pos ⟨by omega, c2⟩]
    · rw [if_neg hok, if_pos (by simpa using hok)]
end Go.Proofs.YthpnncbndnjoaaaDoor.My

/- The document's Tokens is the plain function. -/
namespace Go.Proofs.YthpnncbndnjoaaaDoor.My
open Go.RowKit Go.Proofs.YthpnncbndnjoaaaDoorW.PrintWords Go.Proofs.YthpnncbndnjoaaaDoorW.PrintLast Go.Proofs.YthpnncbndnjoaaaDoorW.PrintMore Go.Proofs.YthpnncbndnjoaaaDoor.PGzipPacks
set_option maxRecDepth 100000
set_option linter.unusedVariables false
set_option linter.unusedSimpArgs false

def toS (k : Tk) : S75 := ⟨k.b, k.l, k.d⟩
theorem rd_nat (t : List Int) (i : Nat) : rd t (i : Int) = t.getD i 0 := by unfold rd; rw [Int.toNat_natCast]
theorem w64 (n : Nat) (h : n ≤ 1000000000000) : wrap64 (n : Int) = (n : Int) := by unfold wrap64; omega
theorem l2_ends (t : List Int) (acc : List S75) (a p lk : Nat) (b : Int) (l d : Int) (r : List S75) (ha : a < t.length) (hp : p < a) (hn : t.length ≤ 1000000000) : ∀ f n, f = 258 - n → n ≤ 258 →
    (∃ K, crossdockref09_Tokens.j4 K t acc a lk p (alkL t p a f n : Nat) b l d = some r) → ∃ K, crossdockref09_Tokens.l2 K t acc a lk p (n : Nat) b l d = some r
  | 0, n, hf, hn8, ⟨K, hK⟩ => by
    refine ⟨K + 1, ?_⟩
    rw [crossdockref09_Tokens.l2, if_neg (by omega)]
    exact hK
  | f + 1, n, hf, hn8, hK => by
    have e1 : wrap64 ((a : Int) + (n : Int)) = ((a + n : Nat) : Int) := by unfold wrap64; omega
    have e2 : wrap64 ((p : Int) + (n : Int)) = ((p + n : Nat) : Int) := by unfold wrap64; omega
    have e3 : wrap64 ((n : Int) + 1) = ((n + 1 : Nat) : Int) := by unfold wrap64; omega
    rw [alkL] at hK
    by_cases h1 : a + n < t.length
    · by_cases h2 : t.getD (p + n) 0 = t.getD (a + n) 0
      · rw [if_pos ⟨h1, h2⟩] at hK
        obtain ⟨K, hK⟩ := l2_ends t acc a p lk b l d r ha hp hn f (n + 1) (by omega) (by omega) hK
        refine ⟨K + 1, ?_⟩
        rw [crossdockref09_Tokens.l2, if_pos (by omega), e1, if_pos (by omega), e2, if_pos (by omega), if_pos (by omega), if_pos (by omega), rd_nat, rd_nat, if_pos h2, e3]
        exact hK
      · rw [if_neg (fun h => h2 h.2)] at hK
        obtain ⟨K, hK⟩ := hK
        refine ⟨K + 1, ?_⟩
        rw [crossdockref09_Tokens.l2, if_pos (by omega), e1, if_pos (by omega), e2, if_pos (by omega), if_pos (by omega), if_pos (by omega), rd_nat, rd_nat, if_neg h2]
        exact hK
    · rw [if_neg (fun h => h1 h.1)] at hK
      obtain ⟨K, hK⟩ := hK
      refine ⟨K + 1, ?_⟩
      rw [crossdockref09_Tokens.l2, if_pos (by omega), e1, if_neg (by omega)]
      exact hK
/-- The byte of the best so far. -/
def bx (t : List Int) (a l : Nat) : Int := if l = 0 then t.getD a 0 else 0
theorem l1_stop (t : List Int) (acc : List S75) (a lk l d : Nat) (r : List S75) (hl : l ≤ 258) (hacc : acc.length < 5864062014805) (hn : a ≤ 1000000000) (K : Nat) (x7 : Int)
    (hK : crossdockref09_Tokens.l0 K t (acc ++ [⟨bx t a l, l, d⟩]) ((a + max l 1 : Nat) : Int) = some r) : crossdockref09_Tokens.j2 (K + 1) t acc a lk x7 false (bx t a l) l d = some r := by
  have e1 : wrap64 ((a : Int) + mx (l : Int) 1) = ((a + max l 1 : Nat) : Int) := by unfold wrap64 mx; omega
  rw [crossdockref09_Tokens.j2, if_neg (by simp), if_pos hacc, e1]
  exact hK
theorem l1_ends (t : List Int) (acc : List S75) (a : Nat) (r : List S75) (ha : a < t.length) (hn : t.length ≤ 1000000000) (hacc : acc.length < 5864062014805) : ∀ p lk l d, p ≤ a → lk ≤ 64 → l ≤ 258 →
    (∃ K, crossdockref09_Tokens.l0 K t (acc ++ [⟨bx t a (scan t a p lk l d).1, (scan t a p lk l d).1, (scan t a p lk l d).2⟩]) ((a + max (scan t a p lk l d).1 1 : Nat) : Int) = some r) →
    ∃ K, crossdockref09_Tokens.l1 K t acc a (lk : Nat) ((p : Int) - 1) (bx t a l) (l : Nat) (d : Nat) = some r
  | 0, lk, l, d, hp, hlk, hl, ⟨K, hK⟩ => by
    refine ⟨K + 2, ?_⟩
    rw [crossdockref09_Tokens.l1, if_neg (by omega)]
    exact l1_stop t acc a lk l d r hl hacc (by omega) K _ hK
  | p + 1, lk, l, d, hp, hlk, hl, hK => by
    have e0 : ((p + 1 : Nat) : Int) - 1 = (p : Int) := by omega
    have e1 : wrap64 ((a : Int) - (p : Int)) = ((a - p : Nat) : Int) := by unfold wrap64; omega
    have e2 : wrap64 ((p : Int) - 1) = (p : Int) - 1 := by unfold wrap64; omega
    have e3 : wrap64 ((lk : Int) + 1) = ((lk + 1 : Nat) : Int) := by unfold wrap64; omega
    rw [scan] at hK
    rw [e0]
    by_cases h1 : a - p ≤ 32768
    · by_cases h2 : lk < 64
      · rw [if_pos ⟨h1, h2⟩] at hK
        have hal := alk_le t p a
        suffices h : ∃ K, crossdockref09_Tokens.j4 K t acc a lk p (alkL t p a 258 0 : Nat) (bx t a l) l d = some r by
          obtain ⟨K, hK⟩ := l2_ends t acc a p lk (bx t a l) l d r ha (by omega) hn 258 0 rfl (by omega) h
          refine ⟨K + 2, ?_⟩
          rw [crossdockref09_Tokens.l1, if_pos (by omega), e1, if_pos (by omega), crossdockref09_Tokens.j2, if_pos (by simp; omega)]
          exact hK
        rw [show alkL t p a 258 0 = alk t p a from rfl]
        by_cases h3 : alk t p a < 3
        · rw [if_pos h3] at hK
          obtain ⟨K, hK⟩ := l1_ends t acc a r ha hn hacc p lk l d (by omega) hlk hl hK
          refine ⟨K + 1, ?_⟩
          rw [crossdockref09_Tokens.j4, if_pos (by omega), e2]
          exact hK
        · rw [if_neg h3] at hK
          by_cases h4 : l < alk t p a
          · rw [if_pos h4] at hK
            obtain ⟨K, hK⟩ := l1_ends t acc a r ha hn hacc p (lk + 1) (alk t p a) (a - p) (by omega) (by omega) hal hK
            refine ⟨K + 1, ?_⟩
            rw [crossdockref09_Tokens.j4, if_neg (by omega), if_pos (by omega), e1, e2, e3]
            rw [show bx t a (alk t p a) = 0 by unfold bx; rw [if_neg (by omega)]] at hK
            exact hK
          · rw [if_neg h4] at hK
            obtain ⟨K, hK⟩ := l1_ends t acc a r ha hn hacc p (lk + 1) l d (by omega) (by omega) hl hK
            refine ⟨K + 1, ?_⟩
            rw [crossdockref09_Tokens.j4, if_neg (by omega), if_neg (by omega), e2, e3]
            exact hK
      · rw [if_neg (fun h => h2 h.2)] at hK
        obtain ⟨K, hK⟩ := hK
        refine ⟨K + 2, ?_⟩
        rw [crossdockref09_Tokens.l1, if_pos (by omega), e1, if_pos (by omega), show decide ((lk : Int) < 64) = false by simp; omega]
        exact l1_stop t acc a lk l d r hl hacc (by omega) K _ hK
    · rw [if_neg (fun h => h1 h.1)] at hK
      obtain ⟨K, hK⟩ := hK
      refine ⟨K + 2, ?_⟩
      rw [crossdockref09_Tokens.l1, if_pos (by omega), e1, if_neg (by omega)]
      exact l1_stop t acc a lk l d r hl hacc (by omega) K _ hK
theorem l0_ends (t : List Int) (hn : t.length ≤ 1000000000) : ∀ m a acc, m = t.length - a → acc.length ≤ a → ∃ K, crossdockref09_Tokens.l0 K t acc (a : Nat) = some (acc ++ (rest t a).map toS) := by
  intro m
  induction m using Nat.strongRecOn with
  | _ m ih =>
    intro a acc hm hacc
    by_cases h : a < t.length
    · have hs := rest_step t a h
      have hfit := tok_fits t a h
      have htl := tok_l t a
      have hlk := tok_le t a
      have hxx : (⟨bx t a (scan t a a 0 0 0).1, (scan t a a 0 0 0).1, (scan t a a 0 0 0).2⟩ : S75) = toS (tok t a) := by
        unfold tok bx toS
        by_cases h0 : (scan t a a 0 0 0).1 = 0
        · rw [if_pos h0, if_pos h0, h0]
        · rw [if_neg h0, if_neg h0]
      obtain ⟨K, hK⟩ := ih (t.length - (a + max (tok t a).l 1)) (by omega) (a + max (tok t a).l 1) (acc ++ [toS (tok t a)]) rfl (by simp; omega)
      rw [← hxx, htl] at hK
      obtain ⟨K, hK⟩ := l1_ends t acc a _ h hn (by omega) a 0 0 0 (Nat.le_refl _) (by omega) (by omega) ⟨K, hK⟩
      refine ⟨K + 1, ?_⟩
      have e2 : wrap64 ((a : Int) - 1) = (a : Int) - 1 := by unfold wrap64; omega
      rw [crossdockref09_Tokens.l0, if_pos (by omega), if_pos (by omega), e2, rd_nat]
      rw [show bx t a 0 = t.getD a 0 from rfl] at hK
      refine hK.trans ?_
      rw [hs, hxx, ← htl]
      simp
    · refine ⟨1, ?_⟩
      rw [crossdockref09_Tokens.l0, if_neg (by omega), rest_end t a (by omega)]
      simp
theorem tokens_f (t : List Int) (hn : t.length ≤ 1000000000) : ∃ K, crossdockref09_Tokens.f K t = some ((toks t).map toS) := by
  obtain ⟨K, hK⟩ := l0_ends t hn t.length 0 [] rfl (Nat.le_refl _)
  refine ⟨K, ?_⟩
  unfold crossdockref09_Tokens.f
  refine hK.trans ?_
  unfold rest toks
  simp
end Go.Proofs.YthpnncbndnjoaaaDoor.My

/- The document's Text, Of, Put of layer 6, as numbers: plain. -/
namespace Go.Proofs.YthpnncbndnjoaaaDoor.My
open Go.RowKit Go.Proofs.YthpnncbndnjoaaaDoorW.PrintWords Go.Proofs.YthpnncbndnjoaaaDoorW.PrintLast Go.Proofs.YthpnncbndnjoaaaDoorW.PrintMore Go.Proofs.YthpnncbndnjoaaaDoor.PGzipPacks
set_option maxRecDepth 100000

/-- The bits of a number, the lowest one first. -/
def btL (V N : Nat) : List Int := (List.range N).map fun i => ((V / 2 ^ i % 2 : Nat) : Int)
@[simp] theorem btL_len (V N : Nat) : (btL V N).length = N := by simp [btL]
theorem btL_rd (V N i : Nat) (h : i < N) : rd (btL V N) (i : Int) = ((V / 2 ^ i % 2 : Nat) : Int) := by simp [rd, btL, List.getD_eq_getElem?_getD, h]
theorem leB_rd (V n i : Nat) (h : i < n) : rd (leB V n) (i : Int) = ((V / 2 ^ (8 * i) % 256 : Nat) : Int) := by unfold rd; rw [Int.toNat_natCast]; exact leB_getD V n i h
theorem or_nat8 (a b : Nat) (ha : a < 2 ^ 8) (hb : b < 2 ^ 8) : Go.bits .or .u8 a b = ((a ||| b : Nat) : Int) := by
  have hl : a ||| b < 2 ^ 8 := Nat.or_lt_two_pow ha hb
  show IntKind.u8.wrap ((BitVec.ofInt 8 (a : Int) ||| BitVec.ofInt 8 (b : Int)).toNat : Int) = _
  rw [BitVec.ofInt_natCast, BitVec.ofInt_natCast, BitVec.toNat_or, BitVec.toNat_ofNat, BitVec.toNat_ofNat, Nat.mod_eq_of_lt ha, Nat.mod_eq_of_lt hb, IntKind.wrap_u8]
  omega
theorem text_byte (V i : Nat) : V % 2 ^ i / 2 ^ (8 * (i / 8)) < 2 ^ (i % 8) := by
  have h := held_lt (V := V % 2 ^ i) (N := i) (Nat.mod_lt _ (Nat.two_pow_pos _)) (i / 8) (by omega)
  rwa [show i - 8 * (i / 8) = i % 8 by omega] at h
theorem mod_succ (V i : Nat) : V % 2 ^ (i + 1) = V % 2 ^ i + V / 2 ^ i % 2 * 2 ^ i := by
  rw [Nat.pow_succ, Nat.mod_mul, Nat.mul_comm (2 ^ i)]
theorem byte_add (a b i j : Nat) (h : 8 * j + 8 ≤ i) : (a + b * 2 ^ i) / 2 ^ (8 * j) % 256 = a / 2 ^ (8 * j) % 256 := by
  have e : 2 ^ i = 2 ^ (i - (8 * j + 8)) * 256 * 2 ^ (8 * j) := by
    rw [show (256 : Nat) = 2 ^ 8 from rfl, ← Nat.pow_add, ← Nat.pow_add]
    congr 1
    omega
  rw [e, ← Nat.mul_assoc, Nat.add_mul_div_right _ _ (Nat.two_pow_pos _), ← Nat.mul_assoc, Nat.add_mul_mod_self_right]
theorem text_set (V i n : Nat) (_ : i / 8 < n) : (leB (V % 2 ^ i) n).set (i / 8) ((V % 2 ^ i / 2 ^ (8 * (i / 8)) + V / 2 ^ i % 2 * 2 ^ (i % 8) : Nat) : Int) = leB (V % 2 ^ (i + 1)) n := by
  apply List.ext_getElem
  · simp
  · intro j h1 h2
    have hj : j < n := by simpa using h2
    have hb : V / 2 ^ i % 2 < 2 := Nat.mod_lt _ (by decide)
    rw [List.getElem_set]
    by_cases e : i / 8 = j
    · subst e
      rw [if_pos rfl]
      have e1 : (V % 2 ^ (i + 1)) / 2 ^ (8 * (i / 8)) = V % 2 ^ i / 2 ^ (8 * (i / 8)) + V / 2 ^ i % 2 * 2 ^ (i % 8) := by
        rw [mod_succ, held_add _ _ _ _ (by omega), show i - 8 * (i / 8) = i % 8 by omega]
      have h3 := val_lt (n := 1) (x := V / 2 ^ i % 2) (text_byte V i) (by omega)
      have h4 : (2 : Nat) ^ (i % 8 + 1) ≤ 2 ^ 8 := Nat.pow_le_pow_right (by decide) (by omega)
      simp only [leB, List.getElem_map, List.getElem_range]
      have h5 : V % 2 ^ i / 2 ^ (8 * (i / 8)) + V / 2 ^ i % 2 * 2 ^ (i % 8) < 256 := Nat.lt_of_lt_of_le h3 h4
      rw [e1, Nat.mod_eq_of_lt h5]
    · rw [if_neg e]
      simp only [leB, List.getElem_map, List.getElem_range]
      congr 1
      by_cases hlt : j < i / 8
      · rw [mod_succ, byte_add _ _ _ _ (by omega)]
      · have g1 : V % 2 ^ i < 2 ^ (8 * j) := Nat.lt_of_lt_of_le (Nat.mod_lt _ (Nat.two_pow_pos _)) (Nat.pow_le_pow_right (by decide) (by omega))
        have g2 : V % 2 ^ (i + 1) < 2 ^ (8 * j) := Nat.lt_of_lt_of_le (Nat.mod_lt _ (Nat.two_pow_pos _)) (Nat.pow_le_pow_right (by decide) (by omega))
        rw [Nat.div_eq_of_lt g1, Nat.div_eq_of_lt g2]
theorem text_end (V N n : Nat) (hV : V < 2 ^ N) (k : Nat) : crossdockref06_Text.l0 (k + 1) (btL V N) (leB (V % 2 ^ N) n) (N : Int) = some (leB V n) := by
  rw [crossdockref06_Text.l0, btL_len, if_neg (Int.lt_irrefl _), Nat.mod_eq_of_lt hV]
theorem tdiv8 (i : Nat) (h : i ≤ 1000000000000000) : wrap64 (Int.tdiv (i : Int) 8) = ((i / 8 : Nat) : Int) := by
  rw [Int.tdiv_eq_ediv_of_nonneg (by omega)]
  unfold wrap64
  omega
theorem tmod8 (i : Nat) : IntKind.u64.wrap (Int.tmod (i : Int) 8) = ((i % 8 : Nat) : Int) := by
  rw [Int.tmod_eq_emod_of_nonneg (by omega), IntKind.wrap_u64]
  omega
theorem next1 (i : Nat) (h : i ≤ 1000000000000000) : wrap64 ((i : Int) + 1) = ((i + 1 : Nat) : Int) := by unfold wrap64; omega
theorem bit_shl (b m : Nat) (hb : b < 2) (hm : m < 8) : shl .u8 (b : Int) (m : Int) = ((b * 2 ^ m : Nat) : Int) ∧ b * 2 ^ m < 2 ^ 8 := by
  have : ∀ b : Fin 2, ∀ m : Fin 8, shl .u8 (b.val : Int) (m.val : Int) = ((b.val * 2 ^ m.val : Nat) : Int) ∧ b.val * 2 ^ m.val < 2 ^ 8 := by decide +kernel
  exact this ⟨b, hb⟩ ⟨m, hm⟩
theorem text_step (V N n i k : Nat) (hi : i < N) (hN : N ≤ 1000000000000000) (c6 : i / 8 < n) : crossdockref06_Text.l0 (k + 1) (btL V N) (leB (V % 2 ^ i) n) (i : Int) = crossdockref06_Text.l0 k (btL V N) (leB (V % 2 ^ (i + 1)) n) ((i + 1 : Nat) : Int) := by
  have c1 : (i : Int) < (N : Int) := by omega
  have c2 : (0 : Int) ≤ ((i / 8 : Nat) : Int) := Int.natCast_nonneg _
  have c3 : ((i / 8 : Nat) : Int) < (n : Int) := by omega
  have c4 : (0 : Int) ≤ (i : Int) := Int.natCast_nonneg _
  have c5 : (0 : Int) ≤ ((i % 8 : Nat) : Int) := Int.natCast_nonneg _
  have hm8 : i % 8 < 8 := Nat.mod_lt _ (by decide)
  have hh := text_byte V i
  have hp : (2 : Nat) ^ (i % 8) ≤ 2 ^ 8 := Nat.pow_le_pow_right (by decide) (Nat.le_of_lt hm8)
  have c7 : V % 2 ^ i / 2 ^ (8 * (i / 8)) < 2 ^ 8 := Nat.lt_of_lt_of_le hh hp
  have hs := bit_shl (V / 2 ^ i % 2) (i % 8) (Nat.mod_lt _ (by decide)) hm8
  rw [crossdockref06_Text.l0, btL_len, if_pos c1, tdiv8 i (by omega), if_pos c2, leB_len, if_pos c3, if_pos c4, tmod8, if_pos c5, Int.toNat_natCast, leB_rd _ _ _ c6, btL_rd _ _ _ hi, hs.1, next1 i (by omega), Nat.mod_eq_of_lt (b := 256) c7, or_nat8 _ _ c7 hs.2, or_low _ _ _ hh, text_set _ _ _ c6]
theorem text_l0 (V N n : Nat) (hn : n = (N + 7) / 8) (hV : V < 2 ^ N) (hN : N ≤ 1000000000000000) : ∀ d i k, N = i + d → d < k → crossdockref06_Text.l0 k (btL V N) (leB (V % 2 ^ i) n) (i : Int) = some (leB V n) := by
  intro d
  induction d with
  | zero =>
    intro i k e hk
    obtain ⟨k, rfl⟩ : ∃ j, k = j + 1 := ⟨k - 1, by omega⟩
    obtain rfl : N = i := by omega
    exact text_end V N n hV k
  | succ d ih =>
    intro i k e hk
    obtain ⟨k, rfl⟩ : ∃ j, k = j + 1 := ⟨k - 1, by omega⟩
    rw [text_step V N n i k (by omega) hN (by omega)]
    exact ih (i + 1) k (by omega) (by omega)
theorem text_f (V N : Nat) (hV : V < 2 ^ N) (hN : N ≤ 1000000000000000) : crossdockref06_Text.f (N + 1) (btL V N) = some (leB V ((N + 7) / 8)) := by
  unfold crossdockref06_Text.f
  have e1 : wrap64 (Int.tdiv (wrap64 (((btL V N).length : Int) + 7)) 8) = (((N + 7) / 8 : Nat) : Int) := by
    rw [btL_len, show wrap64 ((N : Int) + 7) = (N : Int) + 7 by unfold wrap64; omega, Int.tdiv_eq_ediv_of_nonneg (by omega)]
    unfold wrap64
    omega
  have e2 : List.replicate ((N + 7) / 8) (0 : Int) = leB (V % 2 ^ 0) ((N + 7) / 8) := by
    rw [Nat.pow_zero, Nat.mod_one]
    unfold leB
    apply List.ext_getElem <;> simp
  rw [e1, if_pos (by omega), Int.toNat_natCast, if_pos (by omega), e2]
  exact text_l0 V N _ rfl hV hN N 0 (N + 1) (by omega) (by omega)

theorem btL_succ (V m : Nat) : btL V (m + 1) = btL V m ++ [((V / 2 ^ m % 2 : Nat) : Int)] := by simp [btL, List.range_succ]
theorem bit_of (y t : Nat) (hy : y < 256) (ht : t < 8) : Go.bits .and .u8 (shr .u8 (y : Int) (IntKind.u64.wrap (t : Int))) 1 = ((y / 2 ^ t % 2 : Nat) : Int) := by
  have : ∀ y : Fin 256, ∀ t : Fin 8, Go.bits .and .u8 (shr .u8 (y.val : Int) (IntKind.u64.wrap (t.val : Int))) 1 = ((y.val / 2 ^ t.val % 2 : Nat) : Int) := by decide +kernel
  exact this ⟨y, hy⟩ ⟨t, ht⟩
theorem byte_bit (V i t : Nat) (ht : t < 8) : V / 2 ^ (8 * i) % 256 / 2 ^ t % 2 = V / 2 ^ (8 * i + t) % 2 := by
  rw [show (256 : Nat) = 2 ^ t * 2 ^ (8 - t) by rw [← Nat.pow_add, show t + (8 - t) = 8 by omega], Nat.mod_mul_right_div_self, Nat.div_div_eq_div_mul, ← Nat.pow_add]
  exact Nat.mod_mod_of_dvd _ ⟨2 ^ (7 - t), by rw [Nat.mul_comm, ← Nat.pow_succ]; congr 1; omega⟩
end Go.Proofs.YthpnncbndnjoaaaDoor.My

/- The walk of the document's Put of layer 6. -/
namespace Go.Proofs.YthpnncbndnjoaaaDoor.My
open Go.RowKit Go.Proofs.YthpnncbndnjoaaaDoorW.PrintWords Go.Proofs.YthpnncbndnjoaaaDoorW.PrintLast Go.Proofs.YthpnncbndnjoaaaDoorW.PrintMore
set_option maxRecDepth 100000

def putL (x n : Nat) (high : Bool) (i : Nat) : List Int := (List.range i).map fun j => ((x / 2 ^ (if high then n - 1 - j else j) % 2 : Nat) : Int)
@[simp] theorem putL_len (x n : Nat) (high : Bool) (i : Nat) : (putL x n high i).length = i := by simp [putL]
theorem putL_succ (x n : Nat) (high : Bool) (i : Nat) : putL x n high (i + 1) = putL x n high i ++ [((x / 2 ^ (if high then n - 1 - i else i) % 2 : Nat) : Int)] := by simp [putL, List.range_succ]
theorem bit_div (a i : Nat) : a / 2 ^ i % 2 = (a.testBit i).toNat := by
  rw [Nat.testBit_eq_decide_div_mod_eq]
  have h : a / 2 ^ i % 2 < 2 := Nat.mod_lt _ (by decide)
  by_cases e : a / 2 ^ i % 2 = 1
  · simp [e]
  · have : a / 2 ^ i % 2 = 0 := by omega
    simp [this]
theorem btL_put (V N x n : Nat) (high : Bool) (hV : V < 2 ^ N) (hn : n ≤ 32) : btL V N ++ putL x n high n = btL (V + (if high then rv x n else x) * 2 ^ N) (N + n) := by
  apply List.ext_getElem
  · simp
  · intro t h1 h2
    have ht : t < N + n := by simpa using h2
    by_cases h : t < N
    · rw [List.getElem_append_left (by simpa using h)]
      simp only [btL, List.getElem_map, List.getElem_range]
      congr 1
      rw [show 2 ^ N = 2 ^ (N - (t + 1)) * 2 ^ (t + 1) by rw [← Nat.pow_add]; congr 1; omega, ← Nat.mul_assoc, Nat.pow_succ, Nat.mul_comm (2 ^ t) 2, ← Nat.mul_assoc, Nat.add_mul_div_right _ _ (Nat.two_pow_pos _), Nat.add_mul_mod_self_right]
    · rw [List.getElem_append_right (by simp; omega)]
      simp only [btL, putL, List.getElem_map, List.getElem_range, List.length_map, List.length_range]
      congr 1
      have e : (V + (if high then rv x n else x) * 2 ^ N) / 2 ^ t = (if high then rv x n else x) / 2 ^ (t - N) := by
        rw [show 2 ^ t = 2 ^ N * 2 ^ (t - N) by rw [← Nat.pow_add]; congr 1; omega, ← Nat.div_div_eq_div_mul, Nat.add_mul_div_right _ _ (Nat.two_pow_pos _), Nat.div_eq_of_lt hV, Nat.zero_add]
      rw [e]
      cases high with
      | false => rfl
      | true =>
        simp only [if_true]
        rw [bit_div, bit_div, rv_bit _ _ _ hn]
        simp [show t - N < n by omega]
end Go.Proofs.YthpnncbndnjoaaaDoor.My

/- The document's block of kind 1 is the plain one. -/
namespace Go.Proofs.YthpnncbndnjoaaaDoor.My
open Go.RowKit Go.Proofs.YthpnncbndnjoaaaDoor.Huf Go.Proofs.YthpnncbndnjoaaaDoor.PGzipPacks Go.Proofs.YthpnncbndnjoaaaDoorW.PrintWords Go.Proofs.YthpnncbndnjoaaaDoorW.PrintLast Go.Proofs.YthpnncbndnjoaaaDoorW.PrintMore
set_option maxRecDepth 100000
set_option linter.unusedVariables false
set_option linter.unusedSimpArgs false


/-! ### A row of digits -/
theorem bt_left (a b : ByteArray) (i : Nat) (h : i < a.size) : bt (a ++ b) (i : Int) = bt a (i : Int) := by
  unfold bt
  rw [Int.toNat_natCast, dif_pos (by rw [ByteArray.size_append]; omega), dif_pos h, ByteArray.getElem_append_left h]
theorem bt_bitc (a : ByteArray) (x j : Nat) : bt (a ++ bitc x j) (a.size : Int) = 48 + ((x / 2 ^ j % 2 : Nat) : Int) := by
  have hs := bitc_size x j
  unfold bt
  rw [Int.toNat_natCast, dif_pos (by rw [ByteArray.size_append]; omega), ByteArray.getElem_append_right (Nat.le_refl _)]
  simp only [Nat.sub_self]
  have h2 : x / 2 ^ j % 2 < 2 := Nat.mod_lt _ (by decide)
  unfold bitc
  by_cases hb : x / 2 ^ j % 2 = 1
  · simp only [if_pos hb, hb]; rfl
  · simp only [if_neg hb, show x / 2 ^ j % 2 = 0 by omega]; rfl
theorem rowF_spec (x : Nat) : ∀ (n : Nat) (acc : ByteArray), (rowF x n acc).size = acc.size + n ∧ (∀ i, i < acc.size → bt (rowF x n acc) (i : Int) = bt acc (i : Int)) ∧
    ∀ j, j < n → bt (rowF x n acc) ((acc.size + j : Nat) : Int) = 48 + ((x / 2 ^ (n - 1 - j) % 2 : Nat) : Int)
  | 0, acc => ⟨rfl, fun _ _ => rfl, fun j h => absurd h (by omega)⟩
  | n + 1, acc => by
    obtain ⟨h1, h2, h3⟩ := rowF_spec x n (acc ++ bitc x n)
    have hs : (acc ++ bitc x n).size = acc.size + 1 := by rw [ByteArray.size_append, bitc_size]
    unfold rowF
    refine ⟨by rw [h1, hs]; omega, fun i hi => by rw [h2 i (by omega), bt_left _ _ _ hi], fun j hj => ?_⟩
    cases j with
    | zero =>
      rw [Nat.add_zero, h2 acc.size (by omega), bt_bitc, show n + 1 - 1 - 0 = n by omega]
    | succ j =>
      have := h3 j (by omega)
      rw [hs] at this
      rw [show acc.size + (j + 1) = acc.size + 1 + j by omega, this, show n + 1 - 1 - (j + 1) = n - 1 - j by omega]
theorem digit8 (q : Nat) (h : q < 2) : (48 + (q : Int) - 48) % 256 = (q : Int) := by omega
theorem nx (i : Nat) (h : i ≤ 1000000000000000) : wrap64 ((i : Int) + 1) = ((i + 1 : Nat) : Int) := by unfold wrap64; omega
theorem ev_code (l : List Int) (x n : Nat) (hn : n ≤ 32) (hl : l.length ≤ 1000000000000) : Ev (fun k => crossdockref09_code.f k l (rowF x n ⟨#[]⟩)) (l ++ putL x n true n) := by
  obtain ⟨h1, _, h3⟩ := rowF_spec x n ⟨#[]⟩
  have e0 : (⟨#[]⟩ : ByteArray).size = 0 := rfl
  rw [e0, Nat.zero_add] at h1
  have main : ∀ m i, i + m = n → Ev (fun k => crossdockref09_code.l0 k (l ++ putL x n true i) (rowF x n ⟨#[]⟩) (i : Int)) (l ++ putL x n true n) := by
    intro m
    induction m with
    | zero =>
      intro i hi
      obtain rfl : i = n := by omega
      refine Ev.step (f := fun _ => some (l ++ putL x i true i)) (fun k => ?_) (Ev.now _)
      rw [crossdockref09_code.l0, if_neg (by rw [h1]; omega)]
    | succ m ih =>
      intro i hi
      refine Ev.step (f := fun k => crossdockref09_code.l0 k (l ++ putL x n true (i + 1)) (rowF x n ⟨#[]⟩) ((i + 1 : Nat) : Int)) (fun k => ?_) (ih (i + 1) (by omega))
      have hb := h3 i (by omega)
      rw [e0, Nat.zero_add] at hb
      rw [crossdockref09_code.l0, if_pos (by rw [h1]; omega), if_pos (by omega), if_pos (by rw [List.length_append, putL_len]; omega), hb, digit8 _ (Nat.mod_lt _ (by decide)), nx i (by omega), putL_succ, if_pos rfl, List.append_assoc]
  have := main n 0 (by omega)
  simpa [putL, crossdockref09_code.f] using this
theorem ev_put (l : List Int) (x n : Nat) (hn : n ≤ 32) (hx : x < 9223372036854775808) (hl : l.length ≤ 1000000000000) : Ev (fun k => crossdockref09_put.f k l x n) (l ++ putL x n false n) := by
  have main : ∀ m i, i + m = n → Ev (fun k => crossdockref09_put.l0 k (l ++ putL x n false i) x n (i : Int)) (l ++ putL x n false n) := by
    intro m
    induction m with
    | zero =>
      intro i hi
      obtain rfl : i = n := by omega
      refine Ev.step (f := fun _ => some (l ++ putL x i false i)) (fun k => ?_) (Ev.now _)
      rw [crossdockref09_put.l0, if_neg (by omega)]
    | succ m ih =>
      intro i hi
      refine Ev.step (f := fun k => crossdockref09_put.l0 k (l ++ putL x n false (i + 1)) x n ((i + 1 : Nat) : Int)) (fun k => ?_) (ih (i + 1) (by omega))
      have hd : x / 2 ^ i < 9223372036854775808 := Nat.lt_of_le_of_lt (Nat.div_le_self _ _) hx
      have h2 : x / 2 ^ i % 2 < 2 := Nat.mod_lt _ (by decide)
      rw [crossdockref09_put.l0, if_pos (by omega), if_pos (by rw [un (i : Int) (by omega) (by omega)]; omega), if_pos (by rw [List.length_append, putL_len]; omega), shr_nat x i (by omega), Go.Proofs.and_one _ hd, nx i (by omega), putL_succ, if_neg (by decide), List.append_assoc]
      congr 4
      omega
  have := main n 0 (by omega)
  simpa [putL, crossdockref09_put.f] using this

/-! ### Bits -/
theorem wantL_len' (L : List Int) : (wantL L).length = L.length := by simp [wantL]
theorem wantL_rd (L : List Int) (s : Nat) (h : s < L.length) : rdOf ByteArray.empty (wantL L) (s : Int) = rowOf L s := by simp [rdOf, wantL, List.getD_eq_getElem?_getD, h]
theorem ev_sg (L : List Int) (h15 : L15 L) (b : Bs) (hb : b.ok) (hN : b.N ≤ 1000000000000) (s : Nat) (hs : s < L.length) :
    Ev (fun k => crossdockref09_code.f k (btL b.V b.N) (rdOf ByteArray.empty (wantL L) (s : Int))) (btL (sgB L b s).V (sgB L b s).N) := by
  rw [wantL_rd L s hs]
  have h := ev_code (btL b.V b.N) (code L s) (L.getD s 0).toNat (by have := h15 s; omega) (by rw [btL_len]; exact hN)
  rw [btL_put _ _ _ _ true hb (by have := h15 s; omega), if_pos rfl] at h
  exact h
theorem ev_pt (b : Bs) (hb : b.ok) (hN : b.N ≤ 1000000000000) (x n : Nat) (hn : n ≤ 32) (hx : x < 2 ^ n) :
    Ev (fun k => crossdockref09_put.f k (btL b.V b.N) (x : Int) (n : Int)) (btL (b.put x n).V (b.put x n).N) := by
  have h := ev_put (btL b.V b.N) x n hn (Nat.lt_of_lt_of_le hx (Nat.le_trans (Nat.pow_le_pow_right (by decide) hn) (by decide))) (by rw [btL_len]; exact hN)
  rw [btL_put _ _ _ _ false hb hn, if_neg (by decide)] at h
  exact h
theorem doc_len (s : Nat) (h0 : 257 ≤ s) (h1 : s ≤ 285) : Ev (fun k => crossdockref08_Length.f k (s : Int)) ((lowL s : Int), (exL s : Int)) := by
  have h : ∀ i : Fin 29, crossdockref08_Length.f 40 ((257 + i.val : Nat) : Int) = some ((lowL (257 + i.val) : Int), (exL (257 + i.val) : Int)) := by decide +kernel
  have h2 := h ⟨s - 257, by omega⟩
  simp only [show 257 + (s - 257) = s by omega] at h2
  exact Ev.of (crossdockref08_Length.mono (s : Int)) h2
theorem doc_dis (s : Nat) (h1 : s < 30) : Ev (fun k => crossdockref08_Distance.f k (s : Int)) ((lowD s : Int), (exD s : Int)) := by
  have h : ∀ i : Fin 30, crossdockref08_Distance.f 40 ((i.val : Nat) : Int) = some ((lowD i.val : Int), (exD i.val : Int)) := by decide +kernel
  exact Ev.of (crossdockref08_Distance.mono (s : Int)) (h ⟨s, h1⟩)

/-! ### The loops -/


section
variable (T : List (S75)) (n i : Int) (f0 : Int)
theorem l2_down (l d : Nat) (b : Bs) (R : List Int) (s : Nat) (hs : s < 30) (hup : ∀ s', s < s' → s' < 30 → d < lowD s') (h : Ev (fun k => crossdockref09_Fixed.l2 k (wantL letters) (wantL fixD) (btL b.V b.N) (s : Int) T n i f0 l d) R) :
    ∀ j, s + j < 30 → Ev (fun k => crossdockref09_Fixed.l2 k (wantL letters) (wantL fixD) (btL b.V b.N) ((s + j : Nat) : Int) T n i f0 l d) R
  | 0, _ => h
  | j + 1, hj => by
    have ih := l2_down l d b R s hs hup h j (by omega)
    have hu := hup (s + (j + 1)) (by omega) hj
    refine Ev.step (f := fun k => (crossdockref08_Distance.f k ((s + (j + 1) : Nat) : Int)).bind fun bt235 => if (d : Int) ≥ bt235.1 then (if 0 ≤ ((s + (j + 1) : Nat) : Int) then (if ((s + (j + 1) : Nat) : Int) < ((wantL fixD).length : Int) then ((crossdockref09_code.f k (btL b.V b.N) (rdOf ByteArray.empty (wantL fixD) ((s + (j + 1) : Nat) : Int))).bind fun t238 => ((crossdockref09_put.f k t238 (wrap64 ((d : Int) - bt235.1)) bt235.2).bind fun t241 => (crossdockref09_Fixed.l0 k (wantL letters) (wantL fixD) t241 T n (wrap64 (i + 1))))) else (none)) else (none)) else (crossdockref09_Fixed.l2 k (wantL letters) (wantL fixD) (btL b.V b.N) (wrap64 (((s + (j + 1) : Nat) : Int) - 1)) T n i f0 l d)) (fun k => by rw [crossdockref09_Fixed.l2, if_pos (by omega)]) ?_
    refine Ev.bind (doc_dis _ hj) ?_
    refine Ev.congr (fun k => if_neg ?_) ?_
    · show ¬ (d : Int) ≥ (lowD (s + (j + 1)) : Int)
      omega
    · rw [show wrap64 (((s + (j + 1) : Nat) : Int) - 1) = ((s + j : Nat) : Int) by unfold wrap64; omega]
      exact ih
theorem l1_down (l d : Nat) (b : Bs) (R : List Int) (s : Nat) (hs : 257 ≤ s) (hup : ∀ s', s < s' → s' ≤ 285 → l < lowL s') (h : Ev (fun k => crossdockref09_Fixed.l1 k (wantL letters) (wantL fixD) (btL b.V b.N) (s : Int) T n i f0 l d) R) :
    ∀ j, s + j ≤ 285 → Ev (fun k => crossdockref09_Fixed.l1 k (wantL letters) (wantL fixD) (btL b.V b.N) ((s + j : Nat) : Int) T n i f0 l d) R
  | 0, _ => h
  | j + 1, hj => by
    have ih := l1_down l d b R s hs hup h j (by omega)
    have hu := hup (s + (j + 1)) (by omega) hj
    refine Ev.step (f := fun k => (crossdockref08_Length.f k ((s + (j + 1) : Nat) : Int)).bind fun bt226 => (if (l : Int) ≥ bt226.1 then (if 0 ≤ ((s + (j + 1) : Nat) : Int) then (if ((s + (j + 1) : Nat) : Int) < ((wantL letters).length : Int) then ((crossdockref09_code.f k (btL b.V b.N) (rdOf ByteArray.empty (wantL letters) ((s + (j + 1) : Nat) : Int))).bind fun t229 => ((crossdockref09_put.f k t229 (wrap64 ((l : Int) - bt226.1)) bt226.2).bind fun t232 => (crossdockref09_Fixed.j2 k (wantL letters) (wantL fixD) t232 T n i f0 l d))) else (none)) else (none)) else (crossdockref09_Fixed.l1 k (wantL letters) (wantL fixD) (btL b.V b.N) (wrap64 (((s + (j + 1) : Nat) : Int) - 1)) T n i f0 l d))) (fun k => by rw [crossdockref09_Fixed.l1, if_pos (by omega)]) ?_
    refine Ev.bind (doc_len _ (by omega) hj) ?_
    refine Ev.congr (fun k => if_neg ?_) ?_
    · show ¬ (l : Int) ≥ (lowL (s + (j + 1)) : Int)
      omega
    · rw [show wrap64 (((s + (j + 1) : Nat) : Int) - 1) = ((s + j : Nat) : Int) by unfold wrap64; omega]
      exact ih
theorem l2_hit (l d : Nat) (b : Bs) (hb : b.ok) (hN : b.N ≤ 100000000000) (R : List Int) (hd : DisOk d)
    (h : Ev (fun k => crossdockref09_Fixed.l0 k (wantL letters) (wantL fixD) (btL ((sgB fixD b (disS d).1).put (disS d).2.1 (disS d).2.2).V ((sgB fixD b (disS d).1).put (disS d).2.1 (disS d).2.2).N) T n (wrap64 (i + 1))) R) :
    Ev (fun k => crossdockref09_Fixed.l2 k (wantL letters) (wantL fixD) (btL b.V b.N) ((29 : Nat) : Int) T n i f0 l d) R := by
  obtain ⟨s1, hm, hk, hex, hlow, hup⟩ := hd
  have e29 := l2_down T n i f0 l d b R (disS d).1 s1 hup ?_ (29 - (disS d).1) (by omega)
  · rw [show (disS d).1 + (29 - (disS d).1) = 29 by omega] at e29
    exact e29
  · generalize (disS d).1 = s at *
    generalize (disS d).2.1 = m at *
    generalize (disS d).2.2 = q at *
    refine Ev.step (f := fun k => (crossdockref08_Distance.f k (s : Int)).bind fun bt235 => if (d : Int) ≥ bt235.1 then (if 0 ≤ (s : Int) then (if (s : Int) < ((wantL fixD).length : Int) then ((crossdockref09_code.f k (btL b.V b.N) (rdOf ByteArray.empty (wantL fixD) (s : Int))).bind fun t238 => ((crossdockref09_put.f k t238 (wrap64 ((d : Int) - bt235.1)) bt235.2).bind fun t241 => (crossdockref09_Fixed.l0 k (wantL letters) (wantL fixD) t241 T n (wrap64 (i + 1))))) else (none)) else (none)) else (crossdockref09_Fixed.l2 k (wantL letters) (wantL fixD) (btL b.V b.N) (wrap64 ((s : Int) - 1)) T n i f0 l d)) (fun k => by rw [crossdockref09_Fixed.l2, if_pos (by omega)]) ?_
    refine Ev.bind (doc_dis _ s1) ?_
    refine Ev.congr (fun k => if_pos (show (d : Int) ≥ (lowD s : Int) by omega)) ?_
    refine Ev.congr (fun k => if_pos (by omega)) ?_
    refine Ev.congr (fun k => if_pos (by rw [wantL_len', fixD_len']; omega)) ?_
    refine Ev.bind (ev_sg fixD fixD15 b hb (by omega) s (by rw [fixD_len']; omega)) ?_
    have e1 : wrap64 ((d : Int) - (lowD s : Int)) = (m : Int) := by
      have : m < 32768 := Nat.lt_of_lt_of_le hm (Nat.pow_le_pow_right (n := 2) (by decide) (show q ≤ 15 by omega))
      unfold wrap64; omega
    have e2 : ((exD s : Nat) : Int) = (q : Int) := by rw [hex]
    simp only [e1, e2]
    refine Ev.bind (ev_pt (sgB fixD b s) (sg_ok fixD15 hb s) (by have := sg_N fixD15 b s; omega) m q (by omega) hm) ?_
    exact h
theorem l1_hit (l d : Nat) (b : Bs) (hb : b.ok) (hN : b.N ≤ 100000000000) (R : List Int) (hl : LenOk l)
    (h : Ev (fun k => crossdockref09_Fixed.l2 k (wantL letters) (wantL fixD) (btL ((sgB letters b (lenS l).1).put (lenS l).2.1 (lenS l).2.2).V ((sgB letters b (lenS l).1).put (lenS l).2.1 (lenS l).2.2).N) ((29 : Nat) : Int) T n i f0 l d) R) :
    Ev (fun k => crossdockref09_Fixed.l1 k (wantL letters) (wantL fixD) (btL b.V b.N) ((285 : Nat) : Int) T n i f0 l d) R := by
  obtain ⟨s0, s1, hm, hk, hex, hlow, hup⟩ := hl
  have e29 := l1_down T n i f0 l d b R (lenS l).1 s0 hup ?_ (285 - (lenS l).1) (by omega)
  · rw [show (lenS l).1 + (285 - (lenS l).1) = 285 by omega] at e29
    exact e29
  · generalize (lenS l).1 = s at *
    generalize (lenS l).2.1 = m at *
    generalize (lenS l).2.2 = q at *
    refine Ev.step (f := fun k => (crossdockref08_Length.f k (s : Int)).bind fun bt226 => (if (l : Int) ≥ bt226.1 then (if 0 ≤ (s : Int) then (if (s : Int) < ((wantL letters).length : Int) then ((crossdockref09_code.f k (btL b.V b.N) (rdOf ByteArray.empty (wantL letters) (s : Int))).bind fun t229 => ((crossdockref09_put.f k t229 (wrap64 ((l : Int) - bt226.1)) bt226.2).bind fun t232 => (crossdockref09_Fixed.j2 k (wantL letters) (wantL fixD) t232 T n i f0 l d))) else (none)) else (none)) else (crossdockref09_Fixed.l1 k (wantL letters) (wantL fixD) (btL b.V b.N) (wrap64 ((s : Int) - 1)) T n i f0 l d))) (fun k => by rw [crossdockref09_Fixed.l1, if_pos (by omega)]) ?_
    refine Ev.bind (doc_len _ s0 s1) ?_
    refine Ev.congr (fun k => if_pos (show (l : Int) ≥ (lowL s : Int) by omega)) ?_
    refine Ev.congr (fun k => if_pos (by omega)) ?_
    refine Ev.congr (fun k => if_pos (by rw [wantL_len', letters_len']; omega)) ?_
    refine Ev.bind (ev_sg letters letters15 b hb (by omega) s (by rw [letters_len']; omega)) ?_
    have e1 : wrap64 ((l : Int) - (lowL s : Int)) = (m : Int) := by
      have : m < 32768 := Nat.lt_of_lt_of_le hm (Nat.pow_le_pow_right (n := 2) (by decide) (show q ≤ 15 by omega))
      unfold wrap64; omega
    have e2 : ((exL s : Nat) : Int) = (q : Int) := by rw [hex]
    simp only [e1, e2]
    refine Ev.bind (ev_pt (sgB letters b s) (sg_ok letters15 hb s) (by have := sg_N letters15 b s; omega) m q (by omega) hm) ?_
    refine Ev.step (fun k => by rw [crossdockref09_Fixed.j2]; rfl) h
end
theorem ev_l0 (T : List Tk) (hT : ∀ k ∈ T, TkOk k) (hlen : T.length ≤ 100000000) : ∀ m i (b : Bs), i + m = T.length → b.ok → b.N ≤ 60 * i + 3 →
    Ev (fun k => crossdockref09_Fixed.l0 k (wantL letters) (wantL fixD) (btL b.V b.N) (T.map toS) ((T.map toS).length : Int) (i : Int)) (leB (sgB letters ((T.drop i).foldl (tokB letters fixD) b) 256).V (((sgB letters ((T.drop i).foldl (tokB letters fixD) b) 256).N + 7) / 8)) := by
  intro m
  induction m with
  | zero =>
    intro i b hi hb hN
    obtain rfl : i = T.length := by omega
    rw [List.drop_length, List.foldl_nil]
    have hs := sg_ok letters15 hb 256
    have hn := sg_N letters15 b 256
    refine Ev.step (f := fun k => (crossdockref09_code.f k (btL b.V b.N) (rdOf ByteArray.empty (wantL letters) ((256 : Nat) : Int))).bind fun t214 => ((crossdockref06_Text.f k t214).bind fun t217 => (some t217))) (fun k => ?_) ?_
    · rw [crossdockref09_Fixed.l0, List.length_map, if_neg (by omega), if_pos (by rw [wantL_len', letters_len']; omega)]
      rfl
    · refine Ev.bind (ev_sg letters letters15 b hb (by omega) 256 (by rw [letters_len']; omega)) ?_
      refine Ev.bind (Ev.of (crossdockref06_Text.mono _) (text_f _ _ hs (by omega))) ?_
      exact Ev.now _
  | succ m ih =>
    intro i b hi hb hN
    have hlt : i < T.length := by omega
    have hk : T[i]? = some T[i] := List.getElem?_eq_getElem hlt
    have hok := hT T[i] (List.getElem_mem hlt)
    have hdrop : T.drop i = T[i] :: T.drop (i + 1) := List.drop_eq_getElem_cons hlt
    rw [hdrop, List.foldl_cons]
    generalize T[i] = t at *
    have h2 := tokB_ok hb hok
    have ih2 := ih (i + 1) _ (by omega) h2.1 (by omega)
    have hrd : rd_T75 (T.map toS) (i : Int) = toS t := by simp [rd_T75, List.getD_eq_getElem?_getD, hk]
    by_cases h0 : t.l = 0
    · have hb256 := hok.b
      obtain ⟨z, hz⟩ := Int.eq_ofNat_of_zero_le hb256.1
      have htk : tokB letters fixD b t = sgB letters b z := by unfold tokB; rw [if_pos h0, hz, Int.toNat_natCast]
      rw [htk] at ih2 ⊢
      refine Ev.step (f := fun k => (crossdockref09_code.f k (btL b.V b.N) (rdOf ByteArray.empty (wantL letters) (z : Int))).bind fun t223 => crossdockref09_Fixed.l0 k (wantL letters) (wantL fixD) t223 (T.map toS) ((T.map toS).length : Int) ((i + 1 : Nat) : Int)) (fun k => ?_) ?_
      · rw [crossdockref09_Fixed.l0, if_pos (by rw [List.length_map]; omega), if_pos (by omega), if_pos (by rw [List.length_map]; omega), hrd]
        show (if ((t.l : Nat) : Int) = 0 then (if 0 ≤ t.b then (if t.b < _ then _ else _) else _) else _) = _
        rw [if_pos (by omega), if_pos (by omega), if_pos (by rw [wantL_len', letters_len']; omega), nx i (by omega)]
        have e : (toS t).f0 = (z : Int) := hz
        rw [e]
      · exact Ev.bind (ev_sg letters letters15 b hb (by omega) z (by rw [letters_len']; omega)) ih2
    · obtain ⟨h1, h3, h4, h5⟩ := hok.l.resolve_left h0
      have htk : tokB letters fixD b t = (sgB fixD ((sgB letters b (lenS t.l).1).put (lenS t.l).2.1 (lenS t.l).2.2) (disS t.d).1).put (disS t.d).2.1 (disS t.d).2.2 := by unfold tokB; rw [if_neg h0]
      rw [htk] at ih2 ⊢
      have hl := lenS_ok t.l h1 h3
      have hd := disS_ok t.d h4 h5
      refine Ev.step (f := fun k => crossdockref09_Fixed.l1 k (wantL letters) (wantL fixD) (btL b.V b.N) ((285 : Nat) : Int) (T.map toS) ((T.map toS).length : Int) (i : Int) t.b t.l t.d) (fun k => ?_) ?_
      · rw [crossdockref09_Fixed.l0, if_pos (by rw [List.length_map]; omega), if_pos (by omega), if_pos (by rw [List.length_map]; omega), hrd]
        show (if ((t.l : Nat) : Int) = 0 then _ else _) = _
        rw [if_neg (by omega)]
        rfl
      · refine l1_hit _ _ _ _ t.l t.d b hb (by omega) _ hl ?_
        refine l2_hit _ _ _ _ t.l t.d _ (Bs.put_ok (sg_ok letters15 hb _) hl.m) ?_ _ hd ?_
        · have := sg_N letters15 b (lenS t.l).1
          have := hl.k
          show (sgB letters b (lenS t.l).1).N + (lenS t.l).2.2 ≤ _
          omega
        · rw [nx i (by omega)]
          exact ih2
theorem newR_letters : newR letters false = none := by decide +kernel
theorem newR_fixD : newR fixD false = none := by decide +kernel
theorem doc_fixed_f (t : List Int) (ht : ∀ z ∈ t, 0 ≤ z ∧ z < 256) (hn : t.length ≤ 100000000) : ∃ k, crossdockref09_Fixed.f k t = some (fixedL letters fixD t) := by
  refine Ev.rounds (g := fun k => crossdockref09_Fixed.f k t) ?_
  unfold crossdockref09_Fixed.f
  refine Ev.bind (Ev.of (crossdockref07_Fixed.mono) doc_fixed) ?_
  obtain ⟨k1, h1⟩ := doc_codes letters false
  have d1 : docR letters false = (wantL letters, 0) := by unfold docR; rw [newR_letters]
  rw [d1] at h1
  refine Ev.bind (Ev.of (crossdockref07_Codes.mono letters false) h1) ?_
  refine Ev.bind (Ev.now _) ?_
  refine Ev.congr (fun k => if_pos (by show dists.length + 2 < _; decide +kernel)) ?_
  obtain ⟨k2, h2⟩ := doc_codes fixD false
  have d2 : docR fixD false = (wantL fixD, 0) := by unfold docR; rw [newR_fixD]
  rw [d2] at h2
  refine Ev.bind (Ev.of (crossdockref07_Codes.mono fixD false) h2) ?_
  obtain ⟨k3, h3⟩ := tokens_f t (by omega)
  refine Ev.bind (Ev.of (crossdockref09_Tokens.mono t) h3) ?_
  have h := ev_l0 (toks t) (toks_ok t ht) (by have := toks_len t; omega) (toks t).length 0 ⟨3, 3⟩ (by omega) (show (3 : Nat) < 2 ^ 3 by decide) (by decide)
  rw [List.drop_zero] at h
  have e : btL 3 3 = [1, 1, 0] := by decide +kernel
  rw [show (⟨3, 3⟩ : Bs).V = 3 from rfl, show (⟨3, 3⟩ : Bs).N = 3 from rfl, e] at h
  exact h
end Go.Proofs.YthpnncbndnjoaaaDoor.My

/- The document's Plain and Deflate of layer 9. -/
namespace Go.Proofs.YthpnncbndnjoaaaDoor.My
open Go.RowKit Go.Proofs.YthpnncbndnjoaaaDoor.Huf Go.Proofs.YthpnncbndnjoaaaDoor.PGzipPacks Go.Proofs.YthpnncbndnjoaaaDoorW.PrintWords Go.Proofs.YthpnncbndnjoaaaDoorW.PrintLast Go.Proofs.YthpnncbndnjoaaaDoorW.PrintMore
set_option maxRecDepth 100000
set_option linter.unusedVariables false
set_option linter.unusedSimpArgs false

theorem plain_eq (t : List Int) (n : Nat) (hl : t.length = n) (hn : n ≤ 65535) : ([] : List Int) ++ [1, (n : Int) % 256, (n : Int) / 256, 255 - (n : Int) % 256, 255 - (n : Int) / 256] ++ t = plainL t := by
  unfold plainL
  rw [hl, List.nil_append]
  congr 1
  simp only [List.cons.injEq, and_true, true_and]
  refine ⟨?_, ?_, ?_, ?_⟩ <;> omega
set_option maxHeartbeats 2000000 in
theorem docPlain_calls (w : World) (A : Option Addr) (n c : Nat) (t : List Int) (ht : (Kd.int .u8).C w A n t) (hc : n ≤ c) (hl : t.length = n) (hn : n ≤ 65535) :
    Calls Tryd.prog 26 #[.slice A n c] w (Packed w (plainL t)) := by
  have hto : ∀ W : World, (Instr.slice 22 (.slice A n c) none (some (.int .i64 n)) none).run Tryd.prog W = .ok (.slice A n c) W := fun W => slice_to8 A n c n hc W
  obtain ⟨A', hfrom⟩ := slice_from8 A n c n (Nat.le_refl _) hc
  have hn' : (n : Int) ≤ 65535 := by omega
  have ho1 := own_lit w w.heap.size 5 .u8 [] (Nat.le_refl _) (by decide)
  have hb1 := below_alloc (Below.refl w.heap.size w) (.cells #[] 5)
  have HO1 := Aside0.mk ho1
  have HB1 := Aside0.mk hb1
  have HT := Aside0.mk (And.intro ht (And.intro hc hl))
  have HPl := Aside0.mk (plain_eq t n hl hn)
  clear ht hc hl hn ho1 hb1
  go_enter Tryd.func26, Tryd.ntmps26
  go_wp2_with fail
  go_loopg [0, 3] 0 (fun kq v0 v3 wr => ∃ (A0 : Option Addr) (c0 : Nat), v0 = .slice A n c ∧ v3 = .slice A0 0 c0 ∧ Aside0 (kq = 0) ∧ Aside0 (Below w.heap.size w wr) ∧ Aside0 (wr.ownsRow w.heap.size 5 1 (.slice A0 0 c0) 0 (nums .u8 [])))
  case atStart => exact ⟨_, _, rfl, rfl, ⟨rfl⟩, HB1, HO1⟩
  case round =>
    obtain ⟨A0, c0, rfl, rfl, HK, HB, HO⟩ := hrel
    clear HK HO1 HB1
    have HRd : Aside0 (∀ W : World, ReadsInt (W.alloc (.cells #[.int .u8 1, .int .u8 ((n : Int) % 256), .int .u8 ((n : Int) / 256), .int .u8 (255 - (n : Int) % 256), .int .u8 (255 - (n : Int) / 256)] 5)) .u8 (some ⟨W.heap.size, 0, none⟩) 5 [1, (n : Int) % 256, (n : Int) / 256, 255 - (n : Int) % 256, 255 - (n : Int) / 256]) := ⟨fun W => reads_of_C (C_block (W.alloc (.cells #[.int .u8 1, .int .u8 ((n : Int) % 256), .int .u8 ((n : Int) / 256), .int .u8 (255 - (n : Int) % 256), .int .u8 (255 - (n : Int) / 256)] 5)) W.heap.size .u8 [1, (n : Int) % 256, (n : Int) / 256, 255 - (n : Int) % 256, 255 - (n : Int) / 256] 5 (0, 0) (alloc_self _ _) (by simp))⟩
    go_upto_region 6 with ((with_reducible refine gate_dst (N := 28) rfl ?_); refine print_append_row (w0 := wr) w.heap.size rfl (.tmp 11) (.tmp 27) 22 5 .u8 1 rfl Tryd.underlying22 info_u8 (by decide) (.slice A0 0 c0) [] [1, (n : Int) % 256, (n : Int) / 256, 255 - (n : Int) % 256, 255 - (n : Int) / 256] (some ⟨wr.heap.size, 0, none⟩) 5 5 rfl rfl (HO.out.alloc _) (HRd.out wr) ((below_alloc (Below.refl wr.heap.size wr) _).mono HB.out.size) (by have := HB.out.size; simp; omega) (by decide) ?_; intro v3 w3 ho3 hb3 hg3 hat3; obtain ⟨A3, c3, rfl⟩ := own_slice ho3; have HO3 := Aside0.mk ho3; have HB3 := Aside0.mk (HB.out.trans hb3); clear ho3 hb3 hg3 hat3)
    have hl5 : (([] : List Int) ++ [1, (n : Int) % 256, (n : Int) / 256, 255 - (n : Int) % 256, 255 - (n : Int) / 256]).length = 5 := rfl
    generalize ([] : List Int) ++ [1, (n : Int) % 256, (n : Int) / 256, 255 - (n : Int) % 256, 255 - (n : Int) / 256] = P at *
    have HL5 := Aside0.mk hl5
    rw [hl5] at HO3
    clear hl5 HRd
    go_upto_region 7 with ((with_reducible refine gate_dst (N := 33) rfl ?_); refine print_append_row (w0 := w) w.heap.size rfl (.tmp 29) (.tmp 32) 22 5 .u8 1 rfl Tryd.underlying22 info_u8 (by decide) (.slice A3 5 c3) P t A n c rfl rfl (by rw [HL5.out]; exact HO3.out) (reads_of_C (Kd.C_below HT.out.1 HB3.out)) HB3.out HB3.out.size (by rw [HL5.out]; have := HT.out.2.2; omega) ?_; intro v4 w4 ho4 hb4 hg4 hat4; obtain ⟨A4, c4, rfl⟩ := own_slice ho4; rw [HPl.out] at ho4; have HO4 := Aside0.mk ho4; have HB4 := Aside0.mk hb4; clear ho4 hb4 hg4 hat4)
    go_wp2_with fail
    go_ret
    have e : (plainL t).length = P.length + t.length := by rw [← HPl.out, List.length_append]
    have h := HO4.out
    rw [e] at h
    exact ⟨_, rfl, by rw [e]; exact h, HB4.out⟩
theorem docFixed_calls (w : World) (A : Option Addr) (n c : Nat) (t : List Int) (ht : (Kd.int .u8).C w A n t) (hc : n ≤ c) (hl : t.length = n) (hby : ∀ z ∈ t, 0 ≤ z ∧ z < 256) (hn : n ≤ 65535) :
    Calls Tryd.prog 27 #[.slice A n c] w (Packed w (fixedL letters fixD t)) := by
  obtain ⟨k, hk⟩ := doc_fixed_f t hby (by omega)
  have h := crossdockref09_Fixed.calls k A c t _ w (by rw [hl]; exact ht) (by rw [hl]; exact hc) hk
  rw [hl] at h
  refine h.mono ?_
  rintro e w' ⟨v, rfl, hr, hb⟩
  exact ⟨v, rfl, Kd.own_of_R (enc := Value.int .u8) hr, hb⟩
/-- What the document's Deflate answers. -/
def DocDef (w : World) (t : List Int) (m : Int) (e : Ending) (w' : World) : Prop :=
  Below w.heap.size w w' ∧ ((∃ c, (DefR t m).1 = some c ∧ e = .returned (.tuple #[.slice none 0 0, .int .i64 c])) ∨
    ((DefR t m).1 = none ∧ ∃ A c, e = .returned (.tuple #[.slice A (deflL t m).length c, .int .i64 0]) ∧ (deflL t m).length ≤ c ∧ (Kd.int .u8).C w' A (deflL t m).length (deflL t m)))
theorem packed_slice {w w' : World} {out : List Int} {v : Value} (h : w'.ownsRow w.heap.size 5 1 v out.length (nums .u8 out)) : ∃ A c, v = .slice A out.length c ∧ out.length ≤ c ∧ (Kd.int .u8).C w' A out.length out := by
  obtain ⟨A, c, e, h1, h2⟩ := own_slice' h
  exact ⟨A, c, e, h1, h2⟩
set_option maxHeartbeats 2000000 in
theorem docDefl_calls (w : World) (A : Option Addr) (n c : Nat) (t : List Int) (m : Int) (ht : (Kd.int .u8).C w A n t) (hc : n ≤ c) (hl : t.length = n) (hby : ∀ z ∈ t, 0 ≤ z ∧ z < 256) (hn : n ≤ 65535) :
    Calls Tryd.prog 17 #[.slice A n c, .int .i64 m] w (DocDef w t m) := by
  have hn' : (n : Int) ≤ 65535 := by omega
  have HP : Aside0 (∀ W, Below w.heap.size w W → Calls Tryd.prog 26 #[.slice A n c] W (Packed W (plainL t))) := ⟨fun W hb => docPlain_calls W A n c t (Kd.C_below ht hb) hc hl hn⟩
  have HF := Aside0.mk (docFixed_calls w A n c t ht hc hl hby hn)
  have hlen1 : Aside0 ((fixedL letters fixD t).length ≤ 100000000 ∧ (plainL t).length ≤ 100000000) := ⟨by
    rw [fixedL_len, plainL_len]
    have := fix_N t hby
    omega⟩
  clear ht hc hl hby hn
  by_cases h0 : m < 0 ∨ 2 < m
  · have hR : Aside0 ((DefR t m).1 = some 1) := ⟨by unfold DefR; rw [if_pos h0]⟩
    by_cases h1 : m < 0
    · go_enter Tryd.func17, Tryd.ntmps17
      go_wp2_with fail
      go_ret2
      exact ⟨Below.refl _ _, .inl ⟨1, hR.out, rfl⟩⟩
    · have h2 : 2 < m := by omega
      clear h0
      go_enter Tryd.func17, Tryd.ntmps17
      go_wp2_with fail
      go_ret2
      exact ⟨Below.refl _ _, .inl ⟨1, hR.out, rfl⟩⟩
  · have hm0 : 0 ≤ m := by omega
    have hm2 : m ≤ 2 := by omega
    have hR : Aside0 ((DefR t m).1 = none) := ⟨by unfold DefR; rw [if_neg h0]⟩
    have hD : Aside0 ((m = 0 → deflL t m = plainL t) ∧ (m ≠ 0 → ¬ (m = 2 ∧ (plainL t).length < (fixedL letters fixD t).length) → deflL t m = fixedL letters fixD t) ∧ (m = 2 ∧ (plainL t).length < (fixedL letters fixD t).length → deflL t m = plainL t)) := ⟨by
      refine ⟨fun h => ?_, fun h k => ?_, fun k => ?_⟩
      · subst h; unfold deflL pkL; rw [if_neg (fun k => by cases k.1), if_pos (by decide)]
      · unfold deflL pkL; rw [if_neg k, if_neg (by omega)]
      · unfold deflL; rw [if_pos k]⟩
    clear h0
    by_cases h00 : m = 0
    · subst h00
      have HP1 := Aside0.mk (HP.out w (Below.refl _ _))
      have hD0 := Aside0.mk (hD.out.1 rfl)
      clear hD HP
      go_enter Tryd.func17, Tryd.ntmps17
      go_wp2_with fail
      refine HP1.out.mono ?_
      rintro e w1 ⟨v, rfl, ho, hb⟩
      go_wp2_with fail
      go_ret2
      obtain ⟨A1, c1, rfl, h1, h2⟩ := packed_slice ho
      refine ⟨hb, .inr ⟨hR.out, A1, c1, ?_, ?_, ?_⟩⟩
      · rw [hD0.out]; rfl
      · rw [hD0.out]; exact h1
      · rw [hD0.out]; exact h2
    · have hne : (m == 0) = false := by simpa using h00
      have hDn := Aside0.mk (hD.out.2.1 h00)
      have hDl := Aside0.mk hD.out.2.2
      clear hD
      obtain ⟨F, hF⟩ : ∃ F, F = fixedL letters fixD t := ⟨_, rfl⟩
      obtain ⟨P, hPp⟩ : ∃ P, P = plainL t := ⟨_, rfl⟩
      rw [← hF] at HF hlen1 hDn hDl
      rw [← hPp] at HP hlen1 hDn hDl
      clear hF hPp
      go_enter Tryd.func17, Tryd.ntmps17
      go_wp2_with fail
      refine HF.out.mono ?_
      rintro e w1 ⟨v1, rfl, ho1, hb1⟩
      obtain ⟨A1, c1, rfl, hc1, hC1⟩ := packed_slice ho1
      have HP1 := Aside0.mk (HP.out w1 hb1)
      have HC1 := Aside0.mk (And.intro hC1 (And.intro hc1 hb1))
      clear ho1 hc1 hC1 hb1 HF HP
      go_wp2_with fail
      refine HP1.out.mono ?_
      rintro e w2 ⟨v2, rfl, ho2, hb2⟩
      obtain ⟨A2, c2, rfl, hc2, hC2⟩ := packed_slice ho2
      have HC2 := Aside0.mk (And.intro hC2 (And.intro hc2 hb2))
      clear ho2 hc2 hC2 hb2 HP1
      have HB := Aside0.mk (HC1.out.2.2.trans (HC2.out.2.2.mono HC1.out.2.2.size))
      have hl1 := hlen1.out
      by_cases hm22 : m = 2
      · subst hm22
        by_cases hlt : P.length < F.length
        · have hE := Aside0.mk (hDl.out ⟨rfl, hlt⟩)
          obtain ⟨p, hp⟩ : ∃ p, P.length = p := ⟨_, rfl⟩
          obtain ⟨q, hq⟩ : ∃ q, F.length = q := ⟨_, rfl⟩
          have hpq : (p : Int) < (q : Int) := by omega
          have hpb : (p : Int) ≤ 100000000 := by omega
          have hqb : (q : Int) ≤ 100000000 := by omega
          have HPp := Aside0.mk hp
          rw [hp, hq]
          clear hlt hl1 hp hq
          go_wp2_with fail
          go_ret2
          refine ⟨HB.out, .inr ⟨hR.out, A2, c2, ?_, ?_, ?_⟩⟩
          · rw [hE.out, HPp.out]; rfl
          · rw [hE.out]; exact HC2.out.2.1
          · rw [hE.out]; exact HC2.out.1
        · have hE := Aside0.mk (hDn.out (fun k => hlt k.2))
          obtain ⟨p, hp⟩ : ∃ p, P.length = p := ⟨_, rfl⟩
          obtain ⟨q, hq⟩ : ∃ q, F.length = q := ⟨_, rfl⟩
          have hpq : ¬ (p : Int) < (q : Int) := by omega
          have hpb : (p : Int) ≤ 100000000 := by omega
          have hqb : (q : Int) ≤ 100000000 := by omega
          have HPq := Aside0.mk hq
          rw [hp, hq]
          clear hlt hl1 hp hq
          go_wp2_with fail
          go_ret2
          refine ⟨HB.out, .inr ⟨hR.out, A1, c1, ?_, ?_, ?_⟩⟩
          · rw [hE.out, HPq.out]; rfl
          · rw [hE.out]; exact HC1.out.2.1
          · rw [hE.out]; exact Kd.C_below HC1.out.1 HC2.out.2.2
      · have hE := Aside0.mk (hDn.out (fun k => hm22 k.1))
        have hne2 : (m == 2) = false := by simpa using hm22
        obtain ⟨p, hp⟩ : ∃ p, P.length = p := ⟨_, rfl⟩
        obtain ⟨q, hq⟩ : ∃ q, F.length = q := ⟨_, rfl⟩
        have hpb : (p : Int) ≤ 100000000 := by omega
        have hqb : (q : Int) ≤ 100000000 := by omega
        have HPq := Aside0.mk hq
        rw [hp, hq]
        clear hl1 hp hq
        go_wp2_with fail
        go_ret2
        refine ⟨HB.out, .inr ⟨hR.out, A1, c1, ?_, ?_, ?_⟩⟩
        · rw [hE.out, HPq.out]; rfl
        · rw [hE.out]; exact HC1.out.2.1
        · rw [hE.out]; exact Kd.C_below HC1.out.1 HC2.out.2.2
end Go.Proofs.YthpnncbndnjoaaaDoor.My

/- The document's answer (crossdockref04.Add, as print.sh wrote it down) is the plain sum. -/
namespace Go.Proofs.YthpnncbndnjoaaaDoor.My
open Go.RowKit Go.Proofs.YthpnncbndnjoaaaDoor.Plain Go.Proofs.YthpnncbndnjoaaaDoor.POf Go.Proofs.YthpnncbndnjoaaaDoorW.PrintWords
set_option maxRecDepth 100000

theorem ref_l1 (x1 : List Int) (x6 : Int) (k d : Nat) (hd : d ≤ 8) : ∀ r : Nat, r < 2 ^ 32 →
    crossdockref04_Add.l1 (k + d + 1) x1 r x6 (8 - d) = crossdockref04_Add.l0 k x1 (stps d r : Nat) (wrap64 (x6 + 1)) := by
  induction d with
  | zero =>
    intro r h
    simp only [crossdockref04_Add.l1, stps]
    rw [if_neg (by omega)]
  | succ d ih =>
    intro r h
    rw [show k + (d + 1) + 1 = (k + d + 1) + 1 from rfl]
    rw [crossdockref04_Add.l1, stps]
    rw [if_pos (by omega), show wrap64 (8 - ((d + 1 : Nat) : Int) + 1) = 8 - (d : Int) from by unfold wrap64; omega]
    have h1 : Int.tmod (r : Int) 2 = ((r % 2 : Nat) : Int) := by rw [Int.tmod_eq_emod_of_nonneg (by omega)]; omega
    have h2 : Int.tdiv (r : Int) 2 % 4294967296 = ((r / 2 : Nat) : Int) := by rw [Int.tdiv_eq_ediv_of_nonneg (by omega)]; omega
    rw [h1, h2]
    by_cases hr : r % 2 = 1
    · rw [if_pos (by omega), show (3988292384 : Int) = ((P32 : Nat) : Int) from rfl, xor_nat _ _ (by omega) P32_lt, ih (by omega) _ (Nat.xor_lt_two_pow (by omega) P32_lt)]
      unfold stp; rw [if_pos hr]
    · rw [if_neg (by omega), ih (by omega) _ (by omega)]
      unfold stp; rw [if_neg hr]

theorem rd_ints (l : List Nat) (i : Nat) (h : i < l.length) : rd (ints l) (i : Int) = ((l[i] : Nat) : Int) := by simp [rd, ints, h]
theorem ints_length (l : List Nat) : (ints l).length = l.length := by simp [ints]

theorem ref_l0 (l : List Nat) (hl : Bytes l) (hm : l.length ≤ 140737488351232) (d : Nat) : ∀ (r i : Nat), r < 2 ^ 32 → i + d = l.length →
    crossdockref04_Add.l0 (10 * d + 1) (ints l) r i = some ((foldN r (l.drop i) ^^^ M32 : Nat) : Int) := by
  induction d with
  | zero =>
    intro r i h hi
    simp only [crossdockref04_Add.l0]
    rw [if_neg (by rw [ints_length]; omega), show (4294967295 : Int) = ((M32 : Nat) : Int) from rfl, xor_nat _ _ h M32_lt, List.drop_eq_nil_of_le (by omega)]
    rfl
  | succ d ih =>
    intro r i h hi
    have hlt : i < l.length := by omega
    have hx : l[i] < 256 := hl _ (List.getElem_mem _)
    rw [show 10 * (d + 1) + 1 = ((10 * d + 1) + 8 + 1) + 1 from by omega]
    rw [crossdockref04_Add.l0]
    rw [if_pos (by rw [ints_length]; omega), if_pos (by omega), rd_ints l i hlt, show ((l[i] : Nat) : Int) % 4294967296 = ((l[i] : Nat) : Int) from by omega,
      xor_nat _ _ h (by omega)]
    have := ref_l1 (ints l) i (10 * d + 1) 8 (by omega) (r ^^^ l[i]) (Nat.xor_lt_two_pow h (by omega))
    rw [show (8 : Int) - ((8 : Nat) : Int) = 0 from rfl] at this
    rw [this, show wrap64 ((i : Int) + 1) = ((i + 1 : Nat) : Int) from by unfold wrap64; omega, List.drop_eq_getElem_cons hlt]
    exact ih (bytN r l[i]) (i + 1) (bytN_lt _ _ h hx) (by omega)

theorem ref_add (s : Nat) (l : List Nat) (h : s < 2 ^ 32) (hl : Bytes l) (hm : l.length ≤ 140737488351232) :
    ∃ k, crossdockref04_Add.f k s (ints l) = some ((addN s l : Nat) : Int) := by
  refine ⟨10 * l.length + 1, ?_⟩
  unfold crossdockref04_Add.f
  rw [show (4294967295 : Int) = ((M32 : Nat) : Int) from rfl, xor_nat _ _ h M32_lt]
  have := ref_l0 l hl hm l.length (s ^^^ M32) 0 (Nat.xor_lt_two_pow h M32_lt) (by omega)
  rw [show ((0 : Nat) : Int) = 0 from rfl] at this
  rw [this]
  unfold addN
  rw [List.drop_zero, Nat.xor_comm _ M32, Nat.xor_comm s M32]
theorem ref_of (l : List Nat) (hl : Bytes l) (hm : l.length ≤ 140737488351232) : ∃ k, crossdockref04_Of.f k (ints l) = some ((addN 0 l : Nat) : Int) := by
  obtain ⟨k, hk⟩ := ref_add 0 l (by decide) hl hm
  refine ⟨k, ?_⟩
  unfold crossdockref04_Of.f
  rw [show (0 : Int) = ((0 : Nat) : Int) from rfl, hk]
  rfl
end Go.Proofs.YthpnncbndnjoaaaDoor.My

/- The walk of the document's Pack of layer 10. -/
namespace Go.Proofs.YthpnncbndnjoaaaDoor.My
open Go.RowKit Go.Proofs.YthpnncbndnjoaaaDoor.Huf Go.Proofs.YthpnncbndnjoaaaDoor.Plain Go.Proofs.YthpnncbndnjoaaaDoor.POf Go.Proofs.YthpnncbndnjoaaaDoor.Pfour Go.Proofs.YthpnncbndnjoaaaDoorW.PrintWords Go.Proofs.YthpnncbndnjoaaaDoorW.PrintLast Go.Proofs.YthpnncbndnjoaaaDoorW.PrintMore
set_option maxRecDepth 100000
set_option linter.unusedVariables false
set_option linter.unusedSimpArgs false

theorem docOf_calls (A : Option Addr) (n c : Nat) (t : List Int) (w : World) (hC : (Kd.int .u8).C w A n t) (hl : t.length = n) (hc : n ≤ c) (hby : ∀ z ∈ t, 0 ≤ z ∧ z < 256) (hn : n ≤ 1000000) :
    Calls Tryd.prog 19 #[.slice A n c] w fun e w' => e = .returned (.int .u32 (crcN t : Nat)) ∧ Below w.heap.size w w' := by
  have hb := bytes_nat t hby
  obtain ⟨k, hk⟩ := ref_of (t.map Int.toNat) hb.1 (by rw [List.length_map]; omega)
  rw [hb.2] at hk
  have h := crossdockref04_Of.calls k A c t _ w (by rw [hl]; exact hC) (by rw [hl]; exact hc) hk
  rw [hl] at h
  refine h.mono ?_
  rintro e w' ⟨rfl, hd⟩
  exact ⟨rfl, hd.below⟩
theorem four_f (x : Nat) (hx : x < 4294967296) : crossdockref10_four.f (x : Int) = some (leB x 4) := by
  unfold crossdockref10_four.f
  rw [leB4 x hx]
  rw [Int.tmod_eq_emod_of_nonneg (by omega), Int.tdiv_eq_ediv_of_nonneg (by omega), Int.tdiv_eq_ediv_of_nonneg (by omega), Int.tdiv_eq_ediv_of_nonneg (by omega)]
  simp only [Option.some.injEq, List.cons.injEq, and_true]
  refine ⟨?_, ?_, ?_, ?_⟩ <;> omega
theorem docFour_calls (x : Nat) (hx : x < 4294967296) (w : World) : Calls Tryd.prog 18 #[.int .u32 x] w fun e w' => ∃ A c, e = .returned (.slice A 4 c) ∧ ReadsInt w' .u8 A 4 (leB x 4) ∧ Below w.heap.size w w' := by
  refine (crossdockref10_four.calls x (leB x 4) w (four_f x hx)).mono ?_
  rintro e w' ⟨v, rfl, hr, hb⟩
  have ho := Kd.own_of_R (enc := Value.int .u8) hr
  rw [leB_len] at ho
  obtain ⟨A, c, rfl⟩ := own_slice ho
  exact ⟨A, c, rfl, own_reads' ho, hb⟩
/-- What the document's Pack answers. -/
def DocGz (w : World) (t : List Int) (m : Int) (e : Ending) (w' : World) : Prop :=
  Below w.heap.size w w' ∧ ((∃ c, (DefR t m).1 = some c ∧ e = .returned (.tuple #[.slice none 0 0, .int .i64 c])) ∨
    ((DefR t m).1 = none ∧ ∃ v, e = .returned (.tuple #[v, .int .i64 0]) ∧ w'.ownsRow w.heap.size 5 1 v (gzL t m).length (nums .u8 (gzL t m))))
set_option maxHeartbeats 4000000 in
theorem docPack_calls (w : World) (A : Option Addr) (n c : Nat) (t : List Int) (m : Int) (ht : (Kd.int .u8).C w A n t) (hc : n ≤ c) (hl : t.length = n) (hby : ∀ z ∈ t, 0 ≤ z ∧ z < 256) (hn : n ≤ 65535) :
    Calls Tryd.prog 8 #[.slice A n c, .int .i64 m] w (DocGz w t m) := by
  have HD := Aside0.mk (docDefl_calls w A n c t m ht hc hl hby hn)
  have HT := Aside0.mk ht
  have HL := Aside0.mk (And.intro hc (And.intro hl (And.intro hby hn)))
  have HDl := Aside0.mk (deflL_len t m hby (by omega))
  have hn' : (n : Int) ≤ 65535 := by omega
  clear ht hc hl hby hn
  go_enter Tryd.func8, Tryd.ntmps8
  go_wp2_with fail
  refine HD.out.mono ?_
  rintro e w1 ⟨hb1, ⟨ce, hr, rfl⟩ | ⟨hr, A1, c1, rfl, hc1, hC1⟩⟩
  · have hce : ce = 1 := by unfold DefR at hr; split at hr <;> simp at hr; exact hr.symm
    subst hce
    have HB1 := Aside0.mk hb1
    have HR := Aside0.mk hr
    clear hb1 hr
    go_wp2_with fail
    go_ret2
    exact ⟨HB1.out, .inl ⟨1, HR.out, rfl⟩⟩
  · have HB1 := Aside0.mk hb1
    have HR := Aside0.mk hr
    have HRx := Aside0.mk (reads_of_C hC1)
    clear hb1 hr hc1 hC1 HD
    have ho2 := own_lit w1 w.heap.size 5 .u8 gzHead HB1.out.size (by decide)
    have HO2 : Aside0 ((w1.alloc (.cells #[.int .u8 31, .int .u8 139, .int .u8 8, .int .u8 0, .int .u8 0, .int .u8 0, .int .u8 0, .int .u8 0, .int .u8 0, .int .u8 255] 5)).ownsRow w.heap.size 5 1 (.slice (some ⟨w1.heap.size, 0, none⟩) 10 10) gzHead.length (nums .u8 gzHead)) := ⟨ho2⟩
    have HB2 := Aside0.mk (below_alloc HB1.out (.cells #[.int .u8 31, .int .u8 139, .int .u8 8, .int .u8 0, .int .u8 0, .int .u8 0, .int .u8 0, .int .u8 0, .int .u8 0, .int .u8 255] 5))
    have HR2 : Aside0 (ReadsInt (w1.alloc (.cells #[.int .u8 31, .int .u8 139, .int .u8 8, .int .u8 0, .int .u8 0, .int .u8 0, .int .u8 0, .int .u8 0, .int .u8 0, .int .u8 255] 5)) .u8 A1 (deflL t m).length (deflL t m)) := ⟨reads_of_C (Kd.C_alloc (C_of_readsInt HRx.out) _)⟩
    have HGl : Aside0 (gzHead.length = 10) := ⟨rfl⟩
    have HLx : Aside0 ((gzHead.length + (deflL t m).length) * 1 ≤ 140737488355328) := ⟨by have := HDl.out; have := HGl.out; omega⟩
    have HGz : Aside0 (gzHead ++ deflL t m ++ leB (crcN t) 4 ++ leB t.length 4 = gzL t m) := ⟨rfl⟩
    obtain ⟨G, hG⟩ : ∃ G, G = gzHead := ⟨_, rfl⟩
    obtain ⟨D, hD⟩ : ∃ D, D = deflL t m := ⟨_, rfl⟩
    rw [← hG] at HGl HO2 HLx HGz
    rw [← hD] at HR2 HLx HGz HDl
    rw [← hD]
    clear hG hD ho2 HRx
    go_upto_region 5 with fail
    generalize w1.alloc (.cells #[.int .u8 31, .int .u8 139, .int .u8 8, .int .u8 0, .int .u8 0, .int .u8 0, .int .u8 0, .int .u8 0, .int .u8 0, .int .u8 255] 5) = w3 at *
    go_upto_region 6 with ((with_reducible refine gate_dst (N := 21) rfl ?_); refine print_append_row (w0 := w) w.heap.size rfl (.tmp 19) (.tmp 20) 22 5 .u8 1 rfl Tryd.underlying22 info_u8 (by decide) (.slice (some ⟨w1.heap.size, 0, none⟩) 10 10) G D A1 D.length c1 rfl rfl HO2.out HR2.out HB2.out HB2.out.size HLx.out ?_; intro v4 w4 ho4 hb4 hg4 hat4; clear hg4 hat4; generalize hP : G ++ D = P at ho4; have HP := Aside0.mk hP; clear hP; obtain ⟨A4, c4, rfl⟩ := own_slice ho4; have HO4 := Aside0.mk ho4; have HB4 := Aside0.mk hb4; clear ho4 hb4)
    have hl1 : (G ++ D).length = G.length + D.length := List.length_append
    rw [HP.out] at HGz hl1
    have HL1 : Aside0 (P.length ≤ 100000010) := ⟨by have := HGl.out; have := HDl.out; omega⟩
    clear hl1 HR2 HLx HO2
    have HCr := Aside0.mk (docOf_calls A n c t w4 (Kd.C_below HT.out HB4.out) HL.out.2.1 HL.out.1 HL.out.2.2.1 (by omega))
    have HK := Aside0.mk (crcN_lt t HL.out.2.2.1)
    go_upto_region 7 with (first
      | (go_at_call 19; refine HCr.out.mono ?_; rintro e w5 ⟨rfl, hb5⟩; have HB5 := Aside0.mk (HB4.out.trans (hb5.mono HB4.out.size)); have HO5 := Aside0.mk (pw_own_below HO4.out hb5); clear hb5)
      | (go_at_call 18; refine (docFour_calls (crcN t) HK.out _).mono ?_; rintro e w6 ⟨A6, c6, rfl, hr6, hb6⟩; have HR6 := Aside0.mk hr6; have HB6 := Aside0.mk (HB5.out.trans (hb6.mono HB5.out.size)); have HO6 := Aside0.mk (pw_own_below HO5.out hb6); clear hr6 hb6)
      | ((with_reducible refine gate_dst (N := 26) rfl ?_); refine print_append_row (w0 := w) w.heap.size rfl (.tmp 22) (.tmp 25) 22 5 .u8 1 rfl Tryd.underlying22 info_u8 (by decide) (.slice A4 P.length c4) P (leB (crcN t) 4) A6 4 c6 rfl rfl HO6.out HR6.out HB6.out HB6.out.size (by have := HL1.out; omega) ?_; intro v7 w7 ho7 hb7 hg7 hat7; clear hg7 hat7; generalize hR : P ++ leB (crcN t) 4 = R at ho7; have HRe := Aside0.mk hR; clear hR; obtain ⟨A7, c7, rfl⟩ := own_slice ho7; have HO7 := Aside0.mk ho7; have HB7 := Aside0.mk hb7; clear ho7 hb7))
    have hl2 : (P ++ leB (crcN t) 4).length = P.length + 4 := by rw [List.length_append, leB_len]
    rw [HRe.out] at HGz hl2
    have HL2 : Aside0 (R.length ≤ 100000020) := ⟨by have := HL1.out; omega⟩
    clear hl2 HCr
    rw [HL.out.2.1] at HGz
    have HN32 : Aside0 (n < 4294967296) := ⟨by omega⟩
    go_wp2_with (first
      | (go_at_call 18; refine (docFour_calls n HN32.out _).mono ?_; rintro e w8 ⟨A8, c8, rfl, hr8, hb8⟩; have HR8 := Aside0.mk hr8; have HB8 := Aside0.mk (HB7.out.trans (hb8.mono HB7.out.size)); have HO8 := Aside0.mk (pw_own_below HO7.out hb8); clear hr8 hb8)
      | ((with_reducible refine gate_dst (N := 32) rfl ?_); refine print_append_row (w0 := w) w.heap.size rfl (.tmp 27) (.tmp 31) 22 5 .u8 1 rfl Tryd.underlying22 info_u8 (by decide) (.slice A7 R.length c7) R (leB n 4) A8 4 c8 rfl rfl HO8.out HR8.out HB8.out HB8.out.size (by have := HL2.out; omega) ?_; intro v9 w9 ho9 hb9 hg9 hat9; clear hg9 hat9; have HO9 := Aside0.mk ho9; have HB9 := Aside0.mk hb9; clear ho9 hb9))
    go_ret2
    have h9 := HO9.out
    rw [HGz.out] at h9
    exact ⟨HB9.out, .inr ⟨HR.out, v9, rfl, h9⟩⟩
end Go.Proofs.YthpnncbndnjoaaaDoor.My

/- GzipPacks: any text as a member, by any mode. -/
namespace Go.Proofs.YthpnncbndnjoaaaDoor.My
open Go.RowKit Go.Proofs.YthpnncbndnjoaaaDoor.Huf Go.Proofs.YthpnncbndnjoaaaDoor.Plain Go.Proofs.YthpnncbndnjoaaaDoorW.PrintWords Go.Proofs.YthpnncbndnjoaaaDoorW.PrintLast Go.Proofs.YthpnncbndnjoaaaDoorW.PrintMore
set_option maxRecDepth 100000
set_option linter.unusedVariables false
set_option linter.unusedSimpArgs false
set_option maxHeartbeats 4000000 in
theorem gzpacks_walk (A : Option Addr) (n c : Nat) (zs : List Int) (m : Int) (w : World) (hrow : IsRow .u8 w A n c zs) (_hcb : n * 1 ≤ 140737488351232) (_wm : (Lit.int .i64 m).wf = true) (hL : laidMetH Tryd.prog Rows.gzipPacksRow.laid w) :
    Calls Tryd.prog 3 #[.slice A n c, .int .i64 m] w fun e w' => e = .returned (.bool true) ∧ Below w.heap.size w w' := by
  have hT : TabW w := table1 hL
  have HA := Aside0.mk (alive_calls w hT)
  obtain ⟨t, hzl, hzc, hzC, hzw⟩ := row_C hrow
  rw [hzl] at hzC
  have hby : ∀ z ∈ t, 0 ≤ z ∧ z < 256 := fun z hz => wf_u8 (hzw z hz)
  by_cases h1 : n ≤ 600
  · have b3 : (n : Int) ≤ 600 := by omega
    have HD : Aside0 (∀ W, Below w.heap.size w W → Calls Tryd.prog 7 #[.slice A n c, .int .i64 m] W (Gzipped W t m)) := ⟨fun W hb => gzpack_calls W A n c t m (hT.below hb) (Kd.C_below hzC hb) hzc hzl hby (by omega)⟩
    have HE : Aside0 (∀ W, Below w.heap.size w W → Calls Tryd.prog 8 #[.slice A n c, .int .i64 m] W (DocGz W t m)) := ⟨fun W hb => docPack_calls W A n c t m (Kd.C_below hzC hb) hzc hzl hby (by omega)⟩
    clear hrow hzl hzc hzC hzw hby h1 hL hT
    go_enter Tryd.func3, Tryd.ntmps3
    go_upto_region 5 with (go_at_call 6; refine HA.out.mono ?_; rintro e w1 ⟨rfl, hb⟩; have HW1 := Aside0.mk hb; clear hb)
    go_wp2_with fail
    refine (HD.out w1 HW1.out).mono ?_
    rintro e w2 ⟨hb2, ⟨ce, hr, rfl⟩ | ⟨hr, v2, rfl, ho2⟩⟩
    · have HW2 := Aside0.mk (HW1.out.trans (hb2.mono HW1.out.size))
      have hce : ce = 1 := by unfold DefR at hr; split at hr <;> simp at hr; exact hr.symm
      subst hce
      have HR := Aside0.mk hr
      clear hb2 hr
      unfold errV
      go_upto_region 6 with fail
      go_wp2_with fail
      refine (HE.out w2 HW2.out).mono ?_
      rintro e w3 ⟨hb3, ⟨ce, hr3, rfl⟩ | ⟨hr3, _⟩⟩
      · rw [HR.out] at hr3
        cases hr3
        have HW3 := Aside0.mk (HW2.out.trans (hb3.mono HW2.out.size))
        have HNu : Aside0 (∀ W, Calls Tryd.prog 9 #[.iface 36 (.int .i64 1)] W fun r w' => r = .returned (.int .i64 1) ∧ W = w') := ⟨fun W => num_calls (some 1) W (fun c h => by cases h; decide)⟩
        clear hb3 HD HE
        go_wp2_with (go_at_call 9; refine (HNu.out _).mono ?_; rintro e w4 ⟨rfl, rfl⟩)
        go_ret
        exact ⟨rfl, HW3.out⟩
      · rw [HR.out] at hr3; cases hr3
    · have HW2 := Aside0.mk (HW1.out.trans (hb2.mono HW1.out.size))
      obtain ⟨A2, c2, rfl, _, hC2⟩ := own_slice' ho2
      have HC2 := Aside0.mk hC2
      have HR := Aside0.mk hr
      clear hb2 hr hC2 ho2
      go_upto_region 6 with fail
      go_wp2_with fail
      refine (HE.out w2 HW2.out).mono ?_
      rintro e w3 ⟨hb3, ⟨ce, hr3, rfl⟩ | ⟨hr3, v3, rfl, ho3⟩⟩
      · rw [HR.out] at hr3; cases hr3
      · have HW3 := Aside0.mk (HW2.out.trans (hb3.mono HW2.out.size))
        obtain ⟨A3, c3, rfl, _, hC3⟩ := own_slice' ho3
        have HBy := Aside0.mk (bytes_yes A2 A3 (gzL t m).length (gzL t m).length c2 c3 (gzL t m) w3 (Kd.C_below HC2.out hb3) hC3)
        have HNu : Aside0 (∀ W, Calls Tryd.prog 9 #[.nilIface] W fun r w' => r = .returned (.int .i64 0) ∧ W = w') := ⟨fun W => num_calls none W (fun c h => by cases h)⟩
        clear hb3 hC3 HD HE ho3
        generalize (gzL t m).length = q at *
        go_wp2_with (first
          | (go_at_call 9; refine (HNu.out _).mono ?_; rintro e w4 ⟨rfl, rfl⟩)
          | (go_at_call 10; refine HBy.out.mono ?_; rintro e w4 ⟨rfl, rfl⟩))
        go_ret
        exact ⟨rfl, HW3.out⟩
  · have b3 : (600 : Int) < (n : Int) := by omega
    clear h1 hrow hzl hzc hzC hzw hby hL hT
    go_enter Tryd.func3, Tryd.ntmps3
    go_wp2_with (go_at_call 6; refine HA.out.mono ?_; rintro e w1 ⟨rfl, hb⟩; replace hb := Aside0.mk hb)
    go_ret
    exact ⟨rfl, hb.out⟩
end Go.Proofs.YthpnncbndnjoaaaDoor.My
