/- A strings.Builder at any place of a block: copyCheck, WriteByte, WriteString, WriteRune, String. -/
import Derived.Test.YtojhbioljpamhaaDoorMyBytes
import Derived.Test.YtojhbioljpamhaaDoorMyShelf
import Derived.Lib.Builder
import Derived.Lib.UnsafeStr
import Derived.Lib.RuneBytes
import Derived.Lib.AppendStr
import Derived.Laws.Externs
import Derived.Lib.OthersKept
import Derived.RegionTactic
namespace Go.Proofs.YtojhbioljpamhaaDoor.My
open Go.RowKit Go.Proofs.YtojhbioljpamhaaDoorW.PrintWords Go.Proofs.YtojhbioljpamhaaDoorW.PrintLast Go.Proofs.YtojhbioljpamhaaDoorW.PrintMore
set_option maxRecDepth 100000
set_option linter.unusedVariables false
set_option linter.unusedSimpArgs false

/-- What was turned: a block g, rows of bytes from B on, and what is new. -/
structure Kp (B g : Nat) (w w' : World) : Prop where
  os : w'.os = w.os
  tape : w'.tape = w.tape
  output : w'.output = w.output
  size : w.heap.size ≤ w'.heap.size
  low : ∀ k, k < B → k < w.heap.size → k ≠ g → w'.heap[k]? = w.heap[k]?
  oth : ∀ k o, w.heap[k]? = some o → k ≠ g → (∀ c fz, o ≠ .cells c 5 fz) → w'.heap[k]? = some o
section
variable {B g : Nat} {w w1 w2 : World} {v v1 v2 : Value}
theorem Kp.refl (B g : Nat) (w : World) : Kp B g w w := ⟨rfl, rfl, rfl, Nat.le_refl _, fun _ _ _ _ => rfl, fun _ _ h _ _ => h⟩
theorem Kp.trans (h : Kp B g w w1) (k : Kp B g w1 w2) : Kp B g w w2 :=
  ⟨k.os.trans h.os, k.tape.trans h.tape, k.output.trans h.output, Nat.le_trans h.size k.size, fun i hb hi h1 => (k.low i hb (Nat.lt_of_lt_of_le hi h.size) h1).trans (h.low i hb hi h1), fun i o ho h1 h2 => k.oth i o (h.oth i o ho h1 h2) h1 h2⟩
theorem Kp.of_below (hb : Below w.heap.size w w1) : Kp B g w w1 := ⟨hb.os, hb.tape, hb.output, hb.size, fun k _ hk _ => hb.block k hk, fun k o ho _ _ => (hb.block k (blk_lt ho)).trans ho⟩
theorem Kp.below (h : Kp B g w w1) (hb : Below w1.heap.size w1 w2) : Kp B g w w2 := h.trans (Kp.of_below hb)
theorem Kp.of_grown {n : Nat} {xs : List Value} (hg : w.grownBy w1 v.ownBlock) (ho : w.ownsRow B 5 1 v n xs) : Kp B g w w1 :=
  ⟨hg.os, hg.tape, hg.output, hg.size, fun k hb hk h1 => hg.block k hk (fun e => by have := own_base ho k e.symm; omega), fun k o hk h1 h2 => (hg.block k (blk_lt hk) (fun e => by
    obtain ⟨c, hc⟩ := own_typed ho k e.symm
    rw [hk] at hc
    exact h2 _ _ (Option.some.inj hc))).trans hk⟩
theorem Kp.set (h : Kp B g w w1) (j : Nat) (u : Value) : Kp B g w (w1.setCell ⟨g, j, none⟩ u) :=
  h.trans ⟨rfl, rfl, rfl, by simp [World.setCell], fun k _ _ h1 => Below.heap_setCell _ _ _ _ h1, fun k o ho h1 _ => (Below.heap_setCell _ _ _ _ h1).trans ho⟩
theorem Kp.lower {B' : Nat} (h : Kp B g w w1) (hB : B' ≤ B) : Kp B' g w w1 := ⟨h.os, h.tape, h.output, h.size, fun k hb hk h1 => h.low k (by omega) hk h1, h.oth⟩
theorem Kp.of_freeze {p : Addr} (n : Nat) (hp : ∃ c fz, w.heap[p.block]? = some (.cells c 5 fz)) (hB : B ≤ p.block) : Kp B g w (w.freeze p n) := by
  have h1 := Lib.below_freeze (Below.refl B w) hB n
  have h2 := Lib.OthersKept.freeze (Lib.OthersKept.refl 5 none w) p n hp
  exact ⟨h1.os, h1.tape, h1.output, h1.size, fun k hb _ _ => h1.block k hb, fun k o ho _ h3 => h2 k o ho (by simp) h3⟩
/-- All that was turned is new. -/
theorem Kp.under (h : Kp B g w w1) {W : World} (hb : Below W.heap.size W w) (h1 : W.heap.size ≤ g) (h2 : W.heap.size ≤ B) : Below W.heap.size W w1 :=
  ⟨h.os.trans hb.os, h.tape.trans hb.tape, h.output.trans hb.output, Nat.le_trans hb.size h.size, fun k hk => (h.low k (by omega) (Nat.lt_of_lt_of_le hk hb.size) (by omega)).trans (hb.block k hk)⟩
end

/-- A builder's two cells at place o of block g; its bytes bs. -/
structure Bld (w : World) (B g o : Nat) (T : TypeId) (cs : Array Value) (v : Value) (bs : List Int) : Prop where
  blk : w.heap[g]? = some (.cells cs T (0, 0))
  c0 : cs[o]? = some (.pointer none) ∨ cs[o]? = some (.pointer (some ⟨g, o, none⟩))
  c1 : cs[o + 1]? = some v
  row : w.ownsRow B 5 1 v bs.length (nums .u8 bs)
  lies : liesAt Tryd.prog Tryd.prog.depth T (cs.size / Tryd.prog.cellsOf T) o 49 1 = true
  ne : 5 ≠ T
  bs_ : B ≤ w.heap.size
/-- The block's cells behind a write. -/
def wrote (g o : Nat) (cs : Array Value) (v : Value) : Array Value := (cs.setIfInBounds o (.pointer (some ⟨g, o, none⟩))).setIfInBounds (o + 1) v
section
variable {w w1 : World} {B g o : Nat} {T : TypeId} {cs : Array Value} {v : Value} {bs : List Int}
theorem Bld.own (h : Bld w B g o T cs v bs) : some g ≠ v.ownBlock := own_ne h.row h.blk h.ne
theorem Bld.below (h : Bld w B g o T cs v bs) (hb : Below w.heap.size w w1) : Bld w1 B g o T cs v bs :=
  ⟨blk_below h.blk hb, h.c0, h.c1, pw_own_below h.row hb, h.lies, h.ne, Nat.le_trans h.bs_ hb.size⟩
theorem size_builder : (Tryd.prog.info? 49).map (fun i => (i.size)) = some 2 := by kernel_rfl

theorem check_calls (w : World) (h : Bld w B g o T cs v bs) :
    Calls Tryd.prog 41 #[.pointer (some ⟨g, o, none⟩)] w fun e w' => e = .returned (.tuple #[]) ∧ Bld w' B g o T (cs.setIfInBounds o (.pointer (some ⟨g, o, none⟩))) v bs ∧ Kp B g w w' := by
  obtain ⟨j, hj, hjs⟩ := Option.map_eq_some_iff.1 size_builder
  have hco : w.cell? ⟨g, o, none⟩ = cs[o]? := blk_cell h.blk o
  have hlt : o < cs.size := by
    rcases h.c0 with e | e
    · exact (Array.getElem?_eq_some_iff.1 e).1
    · exact (Array.getElem?_eq_some_iff.1 e).1
  have hsh : w.shape? g = some (T, cs.size) := by simp [World.shape?, h.blk]
  rcases h.c0 with e | e
  · have hc : w.cell? ⟨g, o, none⟩ = some (.pointer none) := by rw [hco, e]
    have hf := blk_frozen h.blk o
    have H := Aside0.mk h
    have HJ := Aside0.mk (And.intro hj (And.intro hjs (And.intro hsh hlt)))
    clear h e hco hj hjs hsh hlt
    go_enter Tryd.func41, Tryd.ntmps41
    go_wp2
    rw [Lib.run_to_unsafe w ⟨g, o, none⟩ Tryd.underlying47 Tryd.underlying83 HJ.out.1 (by rw [HJ.out.2.1]; decide) HJ.out.2.2.1 HJ.out.2.2.2]
    simp only [Result.andThen]
    rw [Oper.upon_value]
    go_wp2
    rw [run_callFunc_extern Tryd.func50 (by kernel_rfl) (by kernel_rfl) (by kernel_rfl) (e := Extern.AbiNoEscape.same) (by kernel_rfl)]
    rw [Lib.run_noEscape]
    simp only [Result.andThen]
    rw [Oper.upon_value]
    go_wp2
    rw [Lib.run_from_unsafe w ⟨g, o, none⟩ Tryd.underlying83 Tryd.underlying47 HJ.out.1 HJ.out.2.2.1 H.out.lies]
    simp only [Result.andThen]
    rw [Oper.upon_value]
    go_wp2
    go_end0
    refine ⟨rfl, ⟨blk_set H.out.blk _ _, .inr ?_, ?_, own_setCell H.out.row (by have := H.out.own; simpa using this) _, by rw [Array.size_setIfInBounds]; exact H.out.lies, H.out.ne, ?_⟩, (Kp.refl _ _ _).set _ _⟩
    · simp [HJ.out.2.2.2]
    · have := H.out.c1
      rw [Array.getElem?_setIfInBounds]
      simpa using this
    · have := H.out.bs_; simpa [World.setCell] using this
  · have hc : w.cell? ⟨g, o, none⟩ = some (.pointer (some ⟨g, o, none⟩)) := by rw [hco, e]
    have hcs : cs.setIfInBounds o (.pointer (some ⟨g, o, none⟩)) = cs := by
      apply Array.ext_getElem?
      intro i
      rw [Array.getElem?_setIfInBounds]
      split
      · rename_i hi; subst hi; have := (Array.getElem?_eq_some_iff.1 e).2; simp [hlt, this]
      · rfl
    rw [hcs]
    have H := Aside0.mk h
    clear h e hco hsh hlt hjs hcs
    go_enter Tryd.func41, Tryd.ntmps41
    go_wp2
    rw [Lib.run_neq_ptr_same w _ Tryd.underlying47 hj]
    go_wp2
    go_end0
    exact ⟨rfl, H.out, Kp.refl _ _ _⟩
theorem Bld.put {w5 : World} {v5 : Value} {n : Nat} (h : Bld w B g o T cs v bs) {ys : List Int} (hn : n = bs.length + ys.length) (hr : w5.ownsRow B 5 1 v5 n (nums .u8 (bs ++ ys))) (hg : w.grownBy w5 v.ownBlock) : Bld (w5.setCell ⟨g, o + 1, none⟩ v5) B g o T (cs.setIfInBounds (o + 1) v5) v5 (bs ++ ys) ∧ Kp B g w (w5.setCell ⟨g, o + 1, none⟩ v5) := by
  subst hn
  have hbk := blk_grown h.blk hg h.own
  have hlt : o + 1 < cs.size := (Array.getElem?_eq_some_iff.1 h.c1).1
  refine ⟨⟨blk_set hbk _ _, ?_, ?_, ?_, by rw [Array.size_setIfInBounds]; exact h.lies, h.ne, ?_⟩, (Kp.of_grown hg h.row).set _ _⟩
  · rw [Array.getElem?_setIfInBounds]
    simpa using h.c0
  · simp [hlt]
  · rw [List.length_append]
    exact own_setCell hr (own_ne hr hbk h.ne) _
  · have := hg.size; have := h.bs_; simp [World.setCell]; omega
theorem self_c0 (hlt : o < cs.size) : (cs.setIfInBounds o (Value.pointer (some ⟨g, o, none⟩)))[o]? = some (.pointer (some ⟨g, o, none⟩)) := by simp [hlt]

theorem wbyte_calls (c : Int) (w : World) (h : Bld w B g o T cs v bs) (hl : bs.length ≤ 1000000000) :
    Calls Tryd.prog 29 #[.pointer (some ⟨g, o, none⟩), .int .u8 c] w fun e w' => e = .returned .nilIface ∧ ∃ v', Bld w' B g o T (wrote g o cs v') v' (bs ++ [c]) ∧ Kp B g w w' := by
  have HC := Aside0.mk (check_calls w h)
  clear h
  go_enter Tryd.func29, Tryd.ntmps29
  go_wp2_with fail
  refine HC.out.mono ?_
  rintro e w1 ⟨rfl, h1, hk1⟩
  have H1 := Aside0.mk (And.intro h1 hk1)
  have c1 : w1.cell? ⟨g, o + 1, none⟩ = some v := by rw [blk_cell h1.blk]; exact h1.c1
  obtain ⟨A, k, rfl, hk, _⟩ := own_slice' h1.row
  clear h1 hk1
  go_wp2_with (at_builtin
               refine Kd.R_append (Kd.int .u8) (w0 := w1) B rfl _ _ 44 5 (.int .u8 0) 1 rfl Tryd.underlying44 info_u8 rfl (by decide) (by omega) (Value.slice A bs.length k) bs c [.int .u8 c] (fun _ => True) (fun _ => False) rfl rfl rfl (fun _ hk => hk.elim) (fun _ _ => trivial) (Kd.R_of_own H1.out.1.row (fun _ _ => trivial)) (Below.refl _ _) H1.out.1.bs_ (by omega) ?_
               intro v5 w5 hv5 hb5 hg5 hat5
               have ho5 : w5.ownsRow B 5 1 v5 (bs.length + 1) (nums .u8 (bs ++ [c])) := by have t := Kd.own_of_R hv5; rw [List.length_append, List.length_singleton] at t; exact t
               obtain ⟨A5, k5, rfl, _, _⟩ := own_slice' ho5
               have HX := Aside0.mk (And.intro ho5 hg5)
               have hbk := blk_grown H1.out.1.blk hg5 H1.out.1.own
               have c5 : w5.cell? ⟨g, o + 1, none⟩ = some (.slice A bs.length k) := by rw [blk_cell hbk]; exact H1.out.1.c1
               have f5 := blk_frozen hbk (o + 1)
               clear hv5 hb5 hg5 hat5 hbk ho5)
  go_ret
  obtain ⟨q1, q2⟩ := H1.out.1.put (ys := [c]) (by simp) HX.out.1 HX.out.2
  exact ⟨rfl, _, q1, H1.out.2.trans q2⟩
theorem wstring_calls (y : ByteArray) (w : World) (h : Bld w B g o T cs v bs) (hl : bs.length ≤ 1000000000) (hy : y.size ≤ 1000000000) :
    Calls Tryd.prog 47 #[.pointer (some ⟨g, o, none⟩), .string y] w fun e w' => e = .returned (.tuple #[.int .i64 y.size, .nilIface]) ∧ ∃ v', Bld w' B g o T (wrote g o cs v') v' (bs ++ bytesOf y) ∧ Kp B g w w' := by
  have HC := Aside0.mk (check_calls w h)
  clear h
  go_enter Tryd.func47, Tryd.ntmps47
  go_wp2_with fail
  refine HC.out.mono ?_
  rintro e w1 ⟨rfl, h1, hk1⟩
  have H1 := Aside0.mk (And.intro h1 hk1)
  have c1 : w1.cell? ⟨g, o + 1, none⟩ = some v := by rw [blk_cell h1.blk]; exact h1.c1
  obtain ⟨A, k, rfl, hk, _⟩ := own_slice' h1.row
  clear h1 hk1
  go_wp2_with (at_builtin
               refine print_append_str (w0 := w1) B rfl _ _ 44 9 5 rfl Tryd.underlying44 Tryd.underlying9 info_u8 (Value.slice A bs.length k) bs y rfl rfl H1.out.1.row (Below.refl _ _) H1.out.1.bs_ (by omega) ?_
               intro v5 w5 hv5 hb5 hg5
               have hlen : (bs ++ bytesOf y).length = bs.length + y.size := by rw [List.length_append, bytesOf_length]
               have ho5 : w5.ownsRow B 5 1 v5 (bs.length + y.size) (nums .u8 (bs ++ bytesOf y)) := by have t := hv5; rw [hlen] at t; exact t
               obtain ⟨A5, k5, rfl, _, _⟩ := own_slice' ho5
               have HX := Aside0.mk (And.intro ho5 hg5)
               have hbk := blk_grown H1.out.1.blk hg5 H1.out.1.own
               have c5 : w5.cell? ⟨g, o + 1, none⟩ = some (.slice A bs.length k) := by rw [blk_cell hbk]; exact H1.out.1.c1
               have f5 := blk_frozen hbk (o + 1)
               clear hv5 hb5 hg5 hbk ho5 hlen)
  go_ret2
  obtain ⟨q1, q2⟩ := H1.out.1.put (ys := bytesOf y) (by rw [bytesOf_length]) HX.out.1 HX.out.2
  exact ⟨rfl, _, q1, H1.out.2.trans q2⟩

/-- A sign's bytes, as numbers. -/
abbrev enc (r : Int) : List Int := Lib.encodeRuneZ r
theorem wrune_calls (r : Int) (w : World) (h : Bld w B g o T cs v bs) (hl : bs.length ≤ 1000000000) (h0 : 0 ≤ r) (h1 : r ≤ 2147483647) :
    Calls Tryd.prog 31 #[.pointer (some ⟨g, o, none⟩), .int .i32 r] w fun e w' => (∃ n : Int, e = .returned (.tuple #[.int .i64 n, .nilIface])) ∧ ∃ v', Bld w' B g o T (wrote g o cs v') v' (bs ++ enc r) ∧ Kp B g w w' := by
  have HC := Aside0.mk (check_calls w h)
  have hle : (enc r).length ≤ 4 := by unfold enc Lib.encodeRuneZ; repeat' split
                                      all_goals simp
  have HLE := Aside0.mk hle
  clear h hle
  go_enter Tryd.func31, Tryd.ntmps31
  go_wp2_with fail
  refine HC.out.mono ?_
  rintro e w1 ⟨rfl, h1, hk1⟩
  have H1 := Aside0.mk (And.intro h1 hk1)
  have c1 : w1.cell? ⟨g, o + 1, none⟩ = some v := by rw [blk_cell h1.blk]; exact h1.c1
  obtain ⟨A, k, rfl, hk, _⟩ := own_slice' h1.row
  clear h1 hk1
  go_wp2_with fail
  refine (Tryd.utf8_AppendRune_plain B (.slice A bs.length k) bs.length (nums .u8 bs) r (by omega) (by omega) w1 H1.out.1.row (by omega) H1.out.1.bs_).mono ?_
  rintro e w5 ⟨v5, rfl, ho5, bx, hg5⟩
  have hnum : nums .u8 (bs ++ enc r) = nums .u8 bs ++ Lib.runeCells r := by rw [nums_append]; rfl
  have hlen : (Lib.runeCells r).length = (enc r).length := by simp [Lib.runeCells, enc]
  rw [← hnum, hlen] at ho5
  have hg6 : w1.grownBy w5 (Value.slice A bs.length k).ownBlock := grown_trans (World.grownBy_alloc w1 bx _) hg5
  obtain ⟨A5, k5, rfl, _, _⟩ := own_slice' ho5
  have HX := Aside0.mk (And.intro ho5 hg6)
  have hbk := blk_grown H1.out.1.blk hg6 H1.out.1.own
  have c5 : w5.cell? ⟨g, o + 1, none⟩ = some (.slice A bs.length k) := by rw [blk_cell hbk]; exact H1.out.1.c1
  have f5 := blk_frozen hbk (o + 1)
  clear ho5 hg5 hg6 hbk hnum hlen
  go_wp2_with fail
  go_ret2
  obtain ⟨q1, q2⟩ := H1.out.1.put (ys := enc r) rfl HX.out.1 HX.out.2
  exact ⟨⟨_, rfl⟩, _, q1, H1.out.2.trans q2⟩

/-- The text of bytes. -/
theorem string_calls (w : World) (h : Bld w B g o T cs v bs) (hl : bs.length ≤ 1000000000) (hb : ∀ x ∈ bs, 0 ≤ x ∧ x < 256) :
    Calls Tryd.prog 25 #[.pointer (some ⟨g, o, none⟩)] w fun e w' => e = .returned (.string (strOfNums bs)) ∧ ∀ i, Kp B i w w' := by
  have c1 : w.drew.cell? ⟨g, o + 1, none⟩ = some v := by
    have : w.drew.heap[g]? = some (.cells cs T (0, 0)) := h.blk
    rw [blk_cell this]; exact h.c1
  have HB := Aside0.mk h
  have hk0 : ∀ i, Kp B i w w.drew := fun i => Kp.of_below ⟨rfl, rfl, rfl, Nat.le_refl _, fun _ _ => rfl⟩
  by_cases h0 : bs = []
  · subst h0
    have hs : strOfNums [] = ⟨#[]⟩ := rfl
    rw [hs]
    rcases h.row.2 with ⟨rfl, _⟩ | ⟨gr, cap, cur, rfl, hbg, hg, _, _, _, _⟩
    · have hSD : (Builtin.unsafeSliceData_ #[44] 70 #[.slice none 0 0]).run Tryd.prog w.drew = .ok (.pointer none) w.drew := Lib.run_unsafeSliceData_nil _ _ _ _ _
      have hUS : (Builtin.unsafeString_ #[70, 3] 9 #[.pointer none, .int .i64 0]).run Tryd.prog w.drew = .ok (.string .empty) w.drew := Lib.run_unsafeString_none _ _ _ _ _
      clear h hb
      go_enter Tryd.func25, Tryd.ntmps25
      go_wp2
      go_region
      all_goals (go_wp2; go_ret; exact ⟨rfl, hk0⟩)
    · by_cases hc0 : cap = 0
      · subst hc0
        have hSD : (Builtin.unsafeSliceData_ #[44] 70 #[.slice (some ⟨gr, 0, none⟩) ([] : List Int).length 0]).run Tryd.prog w.drew = .ok (.pointer (some ⟨w.drew.heap.size, 0, none⟩)) (w.drew.alloc (.view ⟨gr, 0, none⟩ 5)) := Lib.run_unsafeSliceData_zero _ _ _ 5 Tryd.underlying70 _ _ (5, cur.size) (by have hg' : w.drew.heap[gr]? = some (.cells cur 5 (0, 0)) := hg; simp [World.shape?, hg'])
        have hUS : ∀ W : World, (Builtin.unsafeString_ #[70, 3] 9 #[.pointer (some ⟨w.heap.size, 0, none⟩), .int .i64 0]).run Tryd.prog W = .ok (.string .empty) W := fun W => Lib.run_unsafeString_none _ _ _ _ _
        have hc2 : (w.alloc (.view ⟨gr, 0, none⟩ 5)).cell? ⟨g, o + 1, none⟩ = some (.slice (some ⟨gr, 0, none⟩) ([] : List Int).length 0) := by
          rw [blk_cell (blk_alloc h.blk _)]; exact h.c1
        have hk1 : ∀ i, Kp B i w (w.drew.alloc (.view ⟨gr, 0, none⟩ 5)) := fun i => (hk0 i).below (below_alloc (Below.refl _ _) _)
        simp only [List.length_nil] at *
        have HK := Aside0.mk (And.intro hk0 hk1)
        clear h hb hk0 hk1 hg hbg
        go_enter Tryd.func25, Tryd.ntmps25
        go_wp2
        go_region
        all_goals (go_wp2; go_ret; exact ⟨rfl, HK.out.2⟩)
      · have hSD : (Builtin.unsafeSliceData_ #[44] 70 #[.slice (some ⟨gr, 0, none⟩) ([] : List Int).length cap]).run Tryd.prog w.drew = .ok (.pointer (some ⟨gr, 0, none⟩)) w.drew := Lib.run_unsafeSliceData_row _ _ _ _ _ _ hc0
        have hUS : (Builtin.unsafeString_ #[70, 3] 9 #[.pointer (some ⟨gr, 0, none⟩), .int .i64 0]).run Tryd.prog w.drew = .ok (.string .empty) w.drew := Lib.run_unsafeString_none _ _ _ _ _
        simp only [List.length_nil] at *
        clear h hb hg hbg hc0
        go_enter Tryd.func25, Tryd.ntmps25
        go_wp2
        go_region
        all_goals (go_wp2; go_ret; exact ⟨rfl, hk0⟩)
  · obtain ⟨gr, cap, cur, rfl, hbg, hg, hnc, hcm, hcs, htake⟩ : ∃ gr cap cur, v = .slice (some ⟨gr, 0, none⟩) bs.length cap ∧ B ≤ gr ∧ w.heap[gr]? = some (.cells cur 5 (0, 0)) ∧ bs.length ≤ cap ∧ cap ≤ maxLen ∧ cur.size = cap * 1 ∧ cur.toList.take (bs.length * 1) = nums .u8 bs := by
      rcases h.row.2 with ⟨_, hz⟩ | ⟨gr, cap, cur, hv, r⟩
      · exact absurd (List.eq_nil_of_length_eq_zero hz) h0
      · exact ⟨gr, cap, cur, hv, r⟩
    have hl1 : 1 ≤ bs.length := by cases bs with | nil => exact absurd rfl h0 | cons _ _ => simp
    have hbl : (bs.map fun n => UInt8.ofNat n.toNat).length = bs.length := by simp
    have hSD : (Builtin.unsafeSliceData_ #[44] 70 #[.slice (some ⟨gr, 0, none⟩) bs.length cap]).run Tryd.prog w.drew = .ok (.pointer (some ⟨gr, 0, none⟩)) w.drew := Lib.run_unsafeSliceData_row _ _ _ _ _ _ (by omega)
    have hUS : (Builtin.unsafeString_ #[70, 3] 9 #[.pointer (some ⟨gr, 0, none⟩), .int .i64 (bs.length : Int)]).run Tryd.prog w.drew = .ok (.string (strOfNums bs)) (w.drew.freeze ⟨gr, 0, none⟩ bs.length) := by
      have := Lib.run_unsafeString_row (P := Tryd.prog) w.drew 70 3 9 5 Tryd.underlying70 (by kernel_rfl) gr cur.size (by have hg' : w.drew.heap[gr]? = some (.cells cur 5 (0, 0)) := hg; simp [World.shape?, hg']) (bs.map fun n => UInt8.ofNat n.toNat) (by simpa using h0) (by rw [hbl]; omega) (by rw [hbl]; omega) (by
        intro j x hx
        rw [List.getElem?_map] at hx
        obtain ⟨n, hn, rfl⟩ := Option.map_eq_some_iff.1 hx
        have h3 := h.row.cells (g := gr) rfl j (.int .u8 n) (by simp [nums, hn])
        have hr := hb n (List.mem_of_getElem? hn)
        have e : ((UInt8.ofNat n.toNat).toNat : Int) = n := by
          rw [UInt8.toNat_ofNat']; omega
        rw [e]
        exact h3)
      rw [hbl] at this
      exact this
    have hk1 : ∀ i, Kp B i w (w.drew.freeze ⟨gr, 0, none⟩ bs.length) := fun i => (hk0 i).trans (Kp.of_freeze _ ⟨_, _, hg⟩ hbg)
    generalize hsn : strOfNums bs = sn at *
    clear h hb hsn hg hbg hcs htake h0 hbl hk0
    go_enter Tryd.func25, Tryd.ntmps25
    go_wp2
    go_region
    all_goals (go_wp2; go_ret; exact ⟨rfl, hk1⟩)
end
end Go.Proofs.YtojhbioljpamhaaDoor.My
