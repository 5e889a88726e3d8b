/- The literal's block, and what its methods answer: next. -/
import Derived.Test.YtojhbioljpamhaaDoorMyQuote
import Derived.Test.YtojhbioljpamhaaDoorMyTry
import Derived.Deep.QuietTactic
import Derived.BigQuiet
import Derived.StillTailTactics
namespace Go.Proofs.YtojhbioljpamhaaDoor.My
open Go.RowKit Go.Lib Go.Proofs.YtojhbioljpamhaaDoorW.PrintWords Go.Proofs.YtojhbioljpamhaaDoorW.PrintLast Go.Proofs.YtojhbioljpamhaaDoorW.PrintMore
set_option maxRecDepth 100000
set_option linter.unusedVariables false
set_option linter.unusedSimpArgs false

abbrev lc (s : ByteArray) (i : Nat) (c v : Value) : Array Value := #[.string s, .int .i64 (i : Int), c, v]
/-- A literal in block g: its text, its place, what was put out. -/
def Lit (w : World) (B g : Nat) (s : ByteArray) (i : Nat) (out : List Int) : Prop :=
  ∃ c v, Bld w B g 2 51 (lc s i c v) v out
/-- An error was thrown. -/
def Thr (B g : Nat) (W : World) (c : Int) (e : Ending) (w' : World) : Prop :=
  ∃ k, e = .panicked [{ v := fltV k, recovered := false }] ∧ Flt w' k c ⟨#[]⟩ ∧ Kp B g W w'
section
variable {w w1 w2 : World} {B g : Nat} {s : ByteArray} {i : Nat} {out : List Int}
theorem Lit.below (h : Lit w B g s i out) (hb : Below w.heap.size w w1) : Lit w1 B g s i out := by
  obtain ⟨c, v, h⟩ := h
  exact ⟨c, v, h.below hb⟩
theorem Thr.after {c : Int} {e : Ending} (h : Kp B g w w1) (k : Thr B g w1 c e w2) : Thr B g w c e w2 := by
  obtain ⟨j, h1, h2, h3⟩ := k
  exact ⟨j, h1, h2, h.trans h3⟩
theorem thr_new (c : Int) (w : World) : Thr B g w c (.panicked [{ v := fltV w.heap.size, recovered := false }]) (w.alloc (.cells #[.int .i64 c, .string ⟨#[]⟩] 69)) :=
  ⟨w.heap.size, rfl, ⟨alloc_self _ _⟩, Kp.of_below (below_alloc (Below.refl _ _) _)⟩
theorem thr_drew (c : Int) (w : World) : Thr B g w c (.panicked [{ v := fltV w.heap.size, recovered := false }]) (w.drew.alloc (.cells #[.int .i64 c, .string ⟨#[]⟩] 69)) :=
  Thr.after (w1 := w.drew) (Kp.of_below ⟨rfl, rfl, rfl, Nat.le_refl _, fun _ _ => rfl⟩) (show Thr B g w.drew c (.panicked [{ v := fltV w.drew.heap.size, recovered := false }]) _ from thr_new c w.drew)
theorem kp_drew (w : World) : Kp B g w w.drew := Kp.of_below ⟨rfl, rfl, rfl, Nat.le_refl _, fun _ _ => rfl⟩
theorem Bld.setAt {c v : Value} {j : Nat} (h : Bld w B g 2 51 (lc s i c v) v out) : Bld (w.setCell ⟨g, 1, none⟩ (.int .i64 (j : Int))) B g 2 51 (lc s j c v) v out :=
  ⟨blk_set h.blk 1 _, h.c0, h.c1, own_setCell h.row (by have := h.own; simpa using this) _, h.lies, h.ne, by have := h.bs_; simpa [World.setCell] using this⟩
theorem Bld.drew {o : Nat} {T : TypeId} {cs : Array Value} {v : Value} (h : Bld w B g o T cs v out) : Bld w.drew B g o T cs v out := h.below ⟨rfl, rfl, rfl, Nat.le_refl _, fun _ _ => rfl⟩
/-- A text's byte. -/
abbrev byteI (s : ByteArray) (i : Nat) (h : i < s.size) : Int := ((s[i]'h).toNat : Int)

theorem next_calls (w : World) (h : Lit w B g s i out) (hs : s.size ≤ 1000000) (hi : i ≤ s.size) :
    Calls Tryd.prog 36 #[.pointer (some ⟨g, 0, none⟩)] w fun e w' =>
      (∃ k : i < s.size, e = .returned (.int .u8 (byteI s i k)) ∧ Lit w' B g s (i + 1) out ∧ ∀ B', Kp B' g w w') ∨ (s.size ≤ i ∧ Thr B g w 10 e w') := by
  obtain ⟨c, v, hb⟩ := h
  have c0 : w.cell? ⟨g, 0, none⟩ = some (.string s) := by rw [blk_cell hb.blk]; rfl
  have c1 : w.cell? ⟨g, 1, none⟩ = some (.int .i64 (i : Int)) := by rw [blk_cell hb.blk]; rfl
  have d0 : w.drew.cell? ⟨g, 0, none⟩ = some (.string s) := c0
  have d1 : w.drew.cell? ⟨g, 1, none⟩ = some (.int .i64 (i : Int)) := c1
  have HB := Aside0.mk hb
  by_cases hlt : i < s.size
  · have f1 : decide ((i : Int) < (s.size : Int)) = true := decide_eq_true (by omega)
    have hl2 : (i : Int) < (s.size : Int) := by omega
    have hf := blk_frozen hb.blk 1
    clear hb
    go_enter Tryd.func36, Tryd.ntmps36
    go_wp2
    go_still_tail 10, (by kernel_rfl)
    change wpList _ _ _ _ _ w.drew
    have f2 : w.drew.frozen? ⟨g, 1, none⟩ = false := hf
    have H2 := Aside0.mk HB.out.drew
    have HK : Aside0 (∀ B', Kp B' g w w.drew) := ⟨fun _ => kp_drew w⟩
    generalize w.drew = w2 at *
    go_wp2_with (go_at_call 35; refine (must_yes _ _ _).mono ?_; rintro e w' ⟨rfl, rfl⟩)
    obtain ⟨w3, hw3⟩ : ∃ w3, w3 = w2.setCell ⟨g, 1, none⟩ (.int .i64 ((i : Int) + 1)) := ⟨_, rfl⟩
    have H3 : Aside0 (Bld w3 B g 2 51 (lc s (i + 1) c v) v out ∧ ∀ B', Kp B' g w w3) := ⟨by
      have := H2.out.setAt (j := i + 1)
      rw [show ((i + 1 : Nat) : Int) = (i : Int) + 1 by omega, ← hw3] at this
      exact ⟨this, fun B' => by rw [hw3]; exact (HK.out B').set _ _⟩⟩
    rw [← hw3]
    have k0 : w3.cell? ⟨g, 0, none⟩ = some (.string s) := by rw [blk_cell H3.out.1.blk]; rfl
    have k1 : w3.cell? ⟨g, 1, none⟩ = some (.int .i64 ((i : Int) + 1)) := by rw [blk_cell H3.out.1.blk]; rfl
    clear hw3 d0 d1 f2 c0 c1 hf f1 H2 HK HB
    have e1 : (i : Int) + 1 - 1 = (i : Int) := by omega
    have l0 : (0 : Int) ≤ (i : Int) := by omega
    go_quiet (fail)
    go_wp2_with fail
    go_ret
    exact .inl ⟨hlt, rfl, ⟨c, v, H3.out.1.below (below_drewN _ _)⟩, fun B' => (H3.out.2 B').below (below_drewN _ _)⟩
  · have f1 : decide ((i : Int) < (s.size : Int)) = false := decide_eq_false (by omega)
    have hl2 : ¬ (i : Int) < (s.size : Int) := by omega
    clear hb
    go_enter Tryd.func36, Tryd.ntmps36
    go_wp2
    go_still_tail 10, (by kernel_rfl)
    change wpList _ _ _ _ _ w.drew
    go_wp2_with (go_at_call 35; refine (must_no _ _ _).mono ?_; rintro e w' ⟨rfl, rfl⟩)
    exact post_panic rfl (.inr ⟨by omega, thr_drew 10 w⟩)
end
end Go.Proofs.YtojhbioljpamhaaDoor.My
