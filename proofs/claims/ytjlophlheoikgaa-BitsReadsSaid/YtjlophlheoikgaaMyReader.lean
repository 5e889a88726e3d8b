/- The walks of bits.Reader: NewReader, At, Align, Bits. -/
import Derived.Test.YtjlophlheoikgaaMyPeek
namespace Go.Proofs.Ytjlophlheoikgaa.My
open Go.RowKit Go.Proofs.YtjlophlheoikgaaW.PrintWords Go.Proofs.YtjlophlheoikgaaW.PrintLast Go.Proofs.YtjlophlheoikgaaW.PrintMore

/-- What a call on a reader has turned: its block alone. -/
structure Gone (w w' : World) (g : Nat) : Prop where
  os : w'.os = w.os
  tape : w'.tape = w.tape
  output : w'.output = w.output
  keep : KeepBut w w' g none
theorem Gone.refl (w : World) (g : Nat) : Gone w w g := ⟨rfl, rfl, rfl, KeepBut.refl _ _ _⟩
theorem Gone.trans {w w1 w2 : World} {g : Nat} (h : Gone w w1 g) (k : Gone w1 w2 g) : Gone w w2 g :=
  ⟨k.os.trans h.os, k.tape.trans h.tape, k.output.trans h.output, h.keep.trans k.keep (.inl rfl)⟩
theorem Gone.drewN {w w1 : World} {g : Nat} (h : Gone w w1 g) (n : Nat) : Gone w (w1.drewN n) g := ⟨h.os, h.tape, h.output, ⟨h.keep.1, h.keep.2⟩⟩
theorem Gone.drew {w w1 : World} {g : Nat} (h : Gone w w1 g) : Gone w w1.drew g := ⟨h.os, h.tape, h.output, ⟨h.keep.1, h.keep.2⟩⟩
theorem Gone.set {w w1 : World} {g : Nat} (h : Gone w w1 g) (j : Nat) (u : Value) : Gone w (w1.setCell ⟨g, j, none⟩ u) g := ⟨h.os, h.tape, h.output, h.keep.set_ j u⟩
theorem Gone.below {w0 w w1 : World} {B g : Nat} (h : Gone w w1 g) (hb : Below B w0 w) (hB : B ≤ w.heap.size) (hg : B ≤ g) : Below B w0 w1 :=
  ⟨h.os.trans hb.os, h.tape.trans hb.tape, h.output.trans hb.output, Nat.le_trans hb.size h.keep.1, fun k hk =>
    (h.keep.2 k (by omega) (by omega) (fun e => by cases e)).trans (hb.block k hk)⟩

theorem at_calls (w : World) (B g : Nat) (v : Value) (V L a : Nat) (hr : Rdr w B g v V L a) :
    Calls Try.prog 23 #[.pointer (some ⟨g, 0, none⟩)] w fun e w' => e = .returned (.int .i64 a) ∧ w' = w := by
  obtain ⟨c0, c1, f1⟩ := hr.cells
  clear hr
  go_enter Try.func23, Try.ntmps23
  go_wp2
  go_ret
  exact ⟨rfl, rfl⟩

theorem peekx_calls (g : Nat) (n : Int) (w : World) (h : inW n = false) :
    Calls Try.prog 22 #[.pointer (some ⟨g, 0, none⟩), .int .i64 n] w fun e w' => e = .returned (.tuple #[.int .u32 0, .int .i64 0]) ∧ w' = w := by
  have HF : Aside0 (∀ w : World, Calls Try.prog 36 #[.int .i64 n] w fun e w' => e = .returned (.bool false) ∧ w = w') := ⟨fun w => h ▸ fitsw_calls n w⟩
  clear h
  go_enter Try.func22, Try.ntmps22
  go_wp2_with (go_at_call 36; refine (HF.out _).mono ?_; rintro e w' ⟨rfl, rfl⟩)
  go_ret2
  exact ⟨rfl, rfl⟩

theorem ralign_calls (w : World) (B g : Nat) (v : Value) (V L a : Nat) (hr : Rdr w B g v V L a) (hL : L ≤ 100000000000000) :
    Calls Try.prog 24 #[.pointer (some ⟨g, 0, none⟩)] w fun e w' => e = .returned (.int .i64 ((8 - a % 8) % 8 : Nat)) ∧ Rdr w' B g v V L (a + (8 - a % 8) % 8) ∧ Gone w w' g := by
  obtain ⟨c0, c1, f1⟩ := hr.cells
  have hle := hr.le
  obtain ⟨d, hd⟩ : ∃ d, d = (8 - a % 8) % 8 := ⟨_, rfl⟩
  have hm : (a : Int).tmod 8 = ((a % 8 : Nat) : Int) := by rw [Int.tmod_eq_emod_of_nonneg (by omega)]; omega
  have hm2 : ((8 : Int) - ((a % 8 : Nat) : Int)).tmod 8 = (d : Int) := by rw [Int.tmod_eq_emod_of_nonneg (by omega)]; omega
  have hm3 : (8 : Int) - (a : Int).tmod 8 = 8 - ((a % 8 : Nat) : Int) := by rw [hm]
  rw [← hd]
  have hr8 : ((a % 8 : Nat) : Int) < 8 := by omega
  have h1 : (a : Int) ≤ 800000000000000 := by omega
  have h2 : (d : Int) ≤ 7 := by omega
  have HR := Aside0.mk (hr.set (a + d) (by omega))
  have HG := Aside0.mk ((Gone.refl w g).set 1 (.int .i64 (a + d : Nat)))
  have ep : ((a + d : Nat) : Int) = (a : Int) + (d : Int) := by omega
  rw [ep] at HR HG
  clear hr hle hd ep
  generalize a % 8 = r at *
  go_enter Try.func24, Try.ntmps24
  go_wp2
  go_ret
  first
    | exact ⟨rfl, HR.out, HG.out⟩
    | exact ⟨rfl, HR.out.drew, HG.out.drew⟩

/-- What Bits answers. -/
def bitsE (n : Int) (l : Nat) : Option Int := if inW n then (if n ≤ l then none else some 10) else some 1
def bitsX (V a l : Nat) (n : Int) : Nat := if (bitsE n l).isNone then V / 2 ^ a % 2 ^ n.toNat else 0
theorem rbits_calls (w : World) (B g : Nat) (v : Value) (V L a : Nat) (n : Int) (hr : Rdr w B g v V L a) (hL : L ≤ 100000000000000) :
    Calls Try.prog 21 #[.pointer (some ⟨g, 0, none⟩), .int .i64 n] w fun e w' => e = .returned (.tuple #[.int .u32 (bitsX V a (8 * L - a) n), errV (bitsE n (8 * L - a))]) ∧
      Rdr w' B g v V L (if (bitsE n (8 * L - a)).isNone then a + n.toNat else a) ∧ Gone w w' g := by
  have HLf : Aside0 (Calls Try.prog 30 #[.pointer (some ⟨g, 0, none⟩)] w fun e w' => e = .returned (.int .i64 (8 * L - a : Nat)) ∧ ∃ m, w' = w.drewN m) := ⟨left_calls w B g v V L a hr hL⟩
  have HF : Aside0 (∀ w : World, Calls Try.prog 36 #[.int .i64 n] w fun e w' => e = .returned (.bool (inW n)) ∧ w = w') := ⟨fun w => fitsw_calls n w⟩
  cases hf : inW n with
  | false =>
    have e1 : bitsE n (8 * L - a) = some 1 := by unfold bitsE; rw [hf]; rfl
    have e2 : bitsX V a (8 * L - a) n = 0 := by unfold bitsX; rw [e1]; rfl
    rw [e1, e2]
    have HR := Aside0.mk hr
    have HF : Aside0 (∀ w : World, Calls Try.prog 36 #[.int .i64 n] w fun e w' => e = .returned (.bool false) ∧ w = w') := ⟨fun w => hf ▸ fitsw_calls n w⟩
    clear hr e1 e2 hf
    go_enter Try.func21, Try.ntmps21
    go_wp2_with (go_at_call 36; refine (HF.out _).mono ?_; rintro e w' ⟨rfl, rfl⟩)
    go_ret2
    exact ⟨rfl, HR.out, Gone.refl _ _⟩
  | true =>
    have HF : Aside0 (∀ w : World, Calls Try.prog 36 #[.int .i64 n] w fun e w' => e = .returned (.bool true) ∧ w = w') := ⟨fun w => hf ▸ fitsw_calls n w⟩
    have hin : 0 ≤ n ∧ n ≤ 32 := of_decide_eq_true hf
    obtain ⟨k, rfl⟩ := Int.eq_ofNat_of_zero_le hin.1
    rw [Int.toNat_natCast]
    by_cases hl : k ≤ 8 * L - a
    · have e1 : bitsE (k : Int) (8 * L - a) = none := by unfold bitsE; rw [hf, if_pos rfl, if_pos (by omega)]
      have e2 : bitsX V a (8 * L - a) (k : Int) = V / 2 ^ a % 2 ^ k := by unfold bitsX; rw [e1]; rfl
      rw [e1, e2]
      have hp := peek_calls w B g v V L a k (by omega) hr hL
      rw [Nat.min_eq_left hl] at hp
      have HP : Aside0 (∀ m, Calls Try.prog 22 #[.pointer (some ⟨g, 0, none⟩), .int .i64 k] (w.drewN m) fun e w' => e = .returned (.tuple #[.int .u32 (V / 2 ^ a % 2 ^ k : Nat), .int .i64 k]) ∧ ∃ m', w' = w.drewN m') := by
        refine ⟨fun m => ?_⟩
        have hp := peek_calls (w.drewN m) B g v V L a k (by omega) (hr.drewN m) hL
        rw [Nat.min_eq_left hl] at hp
        refine hp.mono ?_
        rintro e w' ⟨rfl, m', rfl⟩
        exact ⟨rfl, m + m', by simp⟩
      obtain ⟨c0, c1, f1⟩ := hr.cells
      have hle := hr.le
      have h0 : ((k : Nat) : Int) ≤ ((8 * L - a : Nat) : Int) := by omega
      have HR : Aside0 (∀ m, Rdr ((w.drewN m).setCell ⟨g, 1, none⟩ (.int .i64 ((a : Int) + (k : Int)))) B g v V L (a + k)) := ⟨fun m => by
        have := (hr.drewN m).set (a + k) (by omega)
        rwa [show ((a + k : Nat) : Int) = (a : Int) + (k : Int) by omega] at this⟩
      have HG := Aside0.mk (Gone.refl w g)
      have h1 : (a : Int) ≤ 800000000000000 := by omega
      have h2 : (k : Int) ≤ 32 := by omega
      generalize V / 2 ^ a % 2 ^ k = res at *
      generalize 8 * L - a = l at *
      clear hr hle hf e1 e2 hp hin hl
      go_enter Try.func21, Try.ntmps21
      go_wp2_with (first
        | (go_at_call 36; refine (HF.out _).mono ?_; rintro e w' ⟨rfl, rfl⟩)
        | (go_at_call 30; refine HLf.out.mono ?_; rintro e w' ⟨rfl, m1, rfl⟩)
        | (go_at_call 22; refine (HP.out _).mono ?_; rintro e w' ⟨rfl, m2, rfl⟩))
      go_ret2
      first
        | exact ⟨rfl, HR.out _, (HG.out.drewN _).set _ _⟩
        | exact ⟨rfl, (HR.out _).drew, ((HG.out.drewN _).set _ _).drew⟩
    · have e1 : bitsE (k : Int) (8 * L - a) = some 10 := by unfold bitsE; rw [hf, if_pos rfl, if_neg (by omega)]
      have e2 : bitsX V a (8 * L - a) (k : Int) = 0 := by unfold bitsX; rw [e1]; rfl
      rw [e1, e2]
      have HR := Aside0.mk hr
      have h0 : ((8 * L - a : Nat) : Int) < ((k : Nat) : Int) := by omega
      generalize 8 * L - a = l at *
      clear hr hf e1 e2 hin hl
      go_enter Try.func21, Try.ntmps21
      go_wp2_with (first
        | (go_at_call 36; refine (HF.out _).mono ?_; rintro e w' ⟨rfl, rfl⟩)
        | (go_at_call 30; refine HLf.out.mono ?_; rintro e w' ⟨rfl, m1, rfl⟩))
      go_ret2
      exact ⟨rfl, HR.out.drewN _, (Gone.refl _ _).drewN _⟩
end Go.Proofs.Ytjlophlheoikgaa.My
