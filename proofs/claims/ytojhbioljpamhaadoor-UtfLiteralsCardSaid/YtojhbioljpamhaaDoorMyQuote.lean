/- The walk of utf.quote: the literal of any text. -/
import Derived.Test.YtojhbioljpamhaaDoorMyBad
import Derived.Test.YtojhbioljpamhaaDoorMyFour
import Derived.Test.YtojhbioljpamhaaDoorMyIdx
import Derived.Test.YtojhbioljpamhaaDoorMyValidP
namespace Go.Proofs.YtojhbioljpamhaaDoor.My
open Go.RowKit Go.Lib Go.Proofs.YtojhbioljpamhaaDoorW.PrintWords Go.Proofs.YtojhbioljpamhaaDoorW.PrintLast Go.Proofs.YtojhbioljpamhaaDoorW.PrintMore
set_option maxRecDepth 100000
set_option linter.unusedVariables false
set_option linter.unusedSimpArgs false

structure Ok (w0 w : World) : Prop where
  gl : Gl w
  bel : Below w0.heap.size w0 w
theorem Ok.start {w : World} (h : Gl w) : Ok w w := ⟨h, Below.refl _ _⟩
theorem Ok.next {w0 w w1 : World} (h : Ok w0 w) (hb : Below w.heap.size w w1) : Ok w0 w1 := ⟨h.gl.next hb, h.bel.trans (hb.mono h.bel.size)⟩
theorem Ok.drawn {w0 w w1 : World} (h : Ok w0 w) (hd : Drawn0 w w1) : Ok w0 w1 := h.next hd.below
theorem valid_ok (s : ByteArray) (w0 w : World) (h : Ok w0 w) (hs : s.size ≤ 1000000) :
    Calls Tryd.prog 10 #[.string s] w fun e w' => e = .returned (.bool (decide (badU s < 0))) ∧ Ok w0 w' := by
  go_enter Tryd.func10, Tryd.ntmps10
  go_wp2_with (go_at_call 9; refine (bad_calls s _ h.gl hs).mono ?_; rintro e w' ⟨rfl, hb⟩; have h2 := h.next hb; clear hb)
  go_ret
  exact ⟨rfl, h2⟩

/-! ### what a literal is -/
def plainL : List Int := [34, 92, 47, 98, 102, 110, 114, 116]
def piece (e r : Int) : List Int :=
  if r = 47 ∨ (idxS r < 0 ∧ 32 ≤ r ∧ r < e) then enc r
  else if 0 ≤ idxS r then [92, plainL.getD (idxS r).toNat 0]
  else if 65536 ≤ r then fourB (55296 + (r - 65536) / 1024) ++ fourB (56320 + (r - 65536) % 1024)
  else fourB r
def outF (s : ByteArray) (e : Int) : Nat → Nat → List Int
  | 0, _ => []
  | f + 1, pos => if pos < s.size then piece e ((Utf8.decode s pos).1 : Int) ++ outF s e f (pos + (Utf8.decode s pos).2) else []
def quoL (s : ByteArray) (e : Int) : List Int := [34] ++ outF s e s.size 0 ++ [34]
theorem outF_end (s : ByteArray) (e : Int) (f pos : Nat) (h : ¬ pos < s.size) : outF s e f pos = [] := by
  cases f with
  | zero => rfl
  | succ f => simp [outF, h]
theorem enc_le (r : Int) : (enc r).length ≤ 4 := (Lib.encodeRuneZ_length r).2
theorem piece_le (e r : Int) : (piece e r).length ≤ 12 := by
  unfold piece
  have := enc_le r
  repeat' split
  all_goals first | omega | simp [fourB]
theorem outF_length (s : ByteArray) (e : Int) : ∀ f p, (outF s e f p).length ≤ 12 * f
  | 0, p => by rw [outF]; exact Nat.zero_le _
  | f + 1, p => by
    rw [outF]
    split
    · have h1 := outF_length s e f (p + (Utf8.decode s p).2)
      have h2 := piece_le e ((Utf8.decode s p).1 : Int)
      rw [List.length_append]
      omega
    · exact Nat.zero_le _
theorem fig_byte (n : Int) (h0 : 0 ≤ n) (h1 : n < 16) : 0 ≤ fig n ∧ fig n < 256 := by
  unfold fig
  split <;> omega
theorem fourB_byte (r : Int) : ∀ x ∈ fourB r, 0 ≤ x ∧ x < 256 := by
  intro x hx
  simp only [fourB, List.mem_cons, List.not_mem_nil, or_false] at hx
  rcases hx with rfl | rfl | rfl | rfl | rfl | rfl
  · omega
  · omega
  all_goals exact fig_byte _ (by omega) (by omega)
theorem plainL_byte : ∀ i : Nat, 0 ≤ plainL.getD i 0 ∧ plainL.getD i 0 < 256
  | 0 | 1 | 2 | 3 | 4 | 5 | 6 | 7 => by decide
  | i + 8 => by simp [plainL]
theorem piece_byte (e r : Int) : ∀ x ∈ piece e r, 0 ≤ x ∧ x < 256 := by
  intro x hx
  unfold piece at hx
  split at hx
  · exact Lib.encodeRuneZ_byte r x hx
  · split at hx
    · simp only [List.mem_cons, List.not_mem_nil, or_false] at hx
      rcases hx with rfl | rfl
      · omega
      · exact plainL_byte _
    · split at hx
      · rcases List.mem_append.1 hx with hx | hx
        · exact fourB_byte _ x hx
        · exact fourB_byte _ x hx
      · exact fourB_byte _ x hx
theorem outF_byte (s : ByteArray) (e : Int) : ∀ f p, ∀ x ∈ outF s e f p, 0 ≤ x ∧ x < 256
  | 0, p => by intro x hx; rw [outF] at hx; cases hx
  | f + 1, p => by
    intro x hx
    rw [outF] at hx
    split at hx
    · rcases List.mem_append.1 hx with hx | hx
      · exact piece_byte _ _ x hx
      · exact outF_byte s e f _ x hx
    · cases hx
theorem quoL_byte (s : ByteArray) (e : Int) : ∀ x ∈ quoL s e, 0 ≤ x ∧ x < 256 := by
  intro x hx
  rcases List.mem_append.1 hx with hx | hx
  · rcases List.mem_append.1 hx with hx | hx
    · rw [List.mem_singleton.1 hx]; omega
    · exact outF_byte _ _ _ _ x hx
  · rw [List.mem_singleton.1 hx]; omega
theorem idxS_range (r : Int) : -1 ≤ idxS r ∧ idxS r < 8 := by
  unfold idxS
  repeat' split
  all_goals omega
theorem idxS_high (r : Int) (h : 128 ≤ r) : idxS r = -1 := by
  unfold idxS
  rw [if_neg (by omega), if_neg (by omega), if_neg (by omega), if_neg (by omega), if_neg (by omega), if_neg (by omega), if_neg (by omega), if_neg (by omega)]
/-- A right sign is a code point. -/
theorem decode_rune (s : ByteArray) (i : Nat) (h : i < s.size) (hg : ¬ ((Utf8.decode s i).1 = 65533 ∧ (Utf8.decode s i).2 = 1)) :
    (Utf8.decode s i).1 < 55296 ∨ (57344 ≤ (Utf8.decode s i).1 ∧ (Utf8.decode s i).1 ≤ 1114111) := by
  rw [decode_at] at hg ⊢
  have hl : ∀ k, (s.get! k).toNat < 256 := fun k => UInt8.toNat_lt _
  have l0 := hl i
  have l1 := hl (i + 1)
  have l2 := hl (i + 2)
  have l3 := hl (i + 3)
  unfold decodeN at hg ⊢
  repeat' split
  all_goals first | (simp only; omega) | (simp only at hg ⊢; omega) | omega
theorem i32_and1023 (y : Int) (h0 : 0 ≤ y) (h1 : y < 2147483648) : bits .and .i32 y 1023 = y % 1024 := by
  obtain ⟨a, rfl⟩ := Int.eq_ofNat_of_zero_le h0
  have e1 : (BitVec.ofInt 32 (a : Int)).toNat = a := by
    rw [BitVec.ofInt_natCast, BitVec.toNat_ofNat]; exact Nat.mod_eq_of_lt (by omega)
  have e2 : (BitVec.ofInt 32 1023).toNat = 1023 := by decide
  show IntKind.i32.wrap ((BitVec.ofInt 32 (a : Int) &&& BitVec.ofInt 32 1023).toNat : Int) = _
  rw [BitVec.toNat_and, e1, e2, show (1023 : Nat) = 2 ^ 10 - 1 from rfl, Nat.and_two_pow_sub_one_eq_mod, IntKind.wrap_i32]
  omega
theorem idx_calls (r : Nat) (w : World) (h : r < 55296 ∨ (57344 ≤ r ∧ r ≤ 1114111)) :
    Calls Tryd.prog 30 #[.string signs, .int .i32 (r : Int)] w fun e w' => e = .returned (.int .i64 (idxS r)) ∧ Below w.heap.size w w' := by
  by_cases h1 : r < 128
  · exact idx_ascii r w h1
  · rw [idxS_high r (by omega)]
    by_cases h2 : r = 65533
    · subst h2
      exact idx_fffd w
    · refine idx_high (r : Int) w (by omega) ?_ ?_ (by omega) (by omega)
      · simp only [Utf8.valid, Bool.and_eq_true, Bool.or_eq_true, decide_eq_true_eq]
        omega
      · simp only [Lib.validRune, Bool.and_eq_true, Bool.or_eq_true, decide_eq_true_eq]
        omega
abbrev plainB : ByteArray := ⟨#[34, 92, 47, 98, 102, 110, 114, 116]⟩
theorem plain_at (i : Int) (h0 : 0 ≤ i) (h1 : i < 8) (h : i.toNat < plainB.size) : (((plainB[i.toNat]'h).toNat : Nat) : Int) = plainL.getD i.toNat 0 := by
  have key : ∀ i : Fin 8, (((plainB[i.1]'i.2).toNat : Nat) : Int) = plainL.getD i.1 0 := by decide +kernel
  exact key ⟨i.toNat, by omega⟩

/-! ### the walk -/
abbrev bcells (g : Nat) (v : Value) : Array Value := wrote g 0 #[.pointer none, .slice none 0 0] v
def QuoPost (s : ByteArray) (e0 : Int) (w0 : World) (e : Ending) (w' : World) : Prop :=
  e = .returned (.tuple #[.string (if badU s < 0 then strOfNums (quoL s e0) else ⟨#[]⟩), errV (if badU s < 0 then none else some 9)]) ∧ Ok w0 w'
theorem bld_new (w : World) : Bld (w.alloc (.cells #[.pointer none, .slice none 0 0] 49)) w.heap.size w.heap.size 0 49 #[.pointer none, .slice none 0 0] (.slice none 0 0) [] :=
  ⟨alloc_self _ _, .inl rfl, rfl, ⟨rfl, .inl ⟨rfl, rfl⟩⟩, by kernel_rfl, by decide, by simp⟩
theorem Kp.bel {B g : Nat} {W w w1 : World} (h : Kp B g w w1) (hb : Below W.heap.size W w) (h1 : W.heap.size ≤ g) (h2 : W.heap.size ≤ B) : Below W.heap.size W w1 := h.under hb h1 h2
theorem Kp.iter {B g it : Nat} {w w1 : World} {s : ByteArray} {p : Nat} (h : Kp B g w w1) (hi : w.heap[it]? = some (.stringIter s p)) (hne : it ≠ g) : w1.heap[it]? = some (.stringIter s p) :=
  h.oth it _ hi hne (fun _ _ e => by cases e)
theorem Bld.iterAt {w : World} {B g o it : Nat} {T : TypeId} {cs : Array Value} {v : Value} {bs : List Int} {s : ByteArray} {p : Nat} (h : Bld w B g o T cs v bs) (hi : w.heap[it]? = some (.stringIter s p)) (p' : Nat) : Bld (w.iterAt it s p') B g o T cs v bs := by
  have hne : g ≠ it := by rintro rfl; rw [h.blk] at hi; cases hi
  refine ⟨(Lib.iterAt_other w it g s p' hne).trans h.blk, h.c0, h.c1, ⟨h.row.1, ?_⟩, h.lies, h.ne, by rw [Lib.iterAt_size]; exact h.bs_⟩
  rcases h.row.2 with hn | ⟨gr, cap, cur, hv, hb, hg, rest⟩
  · exact .inl hn
  · have hk : gr ≠ it := by rintro rfl; rw [hg] at hi; cases hi
    exact .inr ⟨gr, cap, cur, hv, hb, (Lib.iterAt_other w it gr s p' hk).trans hg, rest⟩
theorem Bld.rebox {w w1 : World} {B g o : Nat} {T : TypeId} {cs : Array Value} {v : Value} {bs : List Int} (h : Bld w B g o T cs v bs) (hb : Below w.heap.size w w1) : Bld w1 B g o T cs v bs := h.below hb

theorem quote_bad (s : ByteArray) (e0 : Int) (w0 w : World) (h : Ok w0 w) (hs : s.size ≤ 1000000) (hv : ¬ badU s < 0) :
    Calls Tryd.prog 20 #[.string s, .int .i32 e0] w (QuoPost s e0 w0) := by
  have HV : Aside0 (∀ w, Ok w0 w → Calls Tryd.prog 10 #[.string s] w fun e w' => e = .returned (.bool false) ∧ Ok w0 w') := ⟨fun w h => by
    have := valid_ok s w0 w h hs
    rw [decide_eq_false hv] at this
    exact this⟩
  have HN := Aside0.mk hv
  clear hv
  go_enter Tryd.func20, Tryd.ntmps20
  go_wp2_with (go_at_call 10; refine (HV.out _ h).mono ?_; rintro e w1 ⟨rfl, h1⟩)
  go_ret2
  exact ⟨by rw [if_neg (by have := HN.out; omega), if_neg (by have := HN.out; omega)]; rfl, h1⟩
theorem quote_ok (s : ByteArray) (e0 : Int) (w0 w : World) (h : Ok w0 w) (hs : s.size ≤ 1000000) (hv : badU s < 0) (he0 : 0 ≤ e0) (he1 : e0 ≤ 2000000) :
    Calls Tryd.prog 20 #[.string s, .int .i32 e0] w (QuoPost s e0 w0) := by
  have HV : Aside0 (∀ w, Ok w0 w → Calls Tryd.prog 10 #[.string s] w fun e w' => e = .returned (.bool true) ∧ Ok w0 w') := ⟨fun w h => by
    have := valid_ok s w0 w h hs
    rw [decide_eq_true hv] at this
    exact this⟩
  have HVV := Aside0.mk hv
  clear hv
  go_enter Tryd.func20, Tryd.ntmps20
  go_wp2_with (go_at_call 10; refine (HV.out _ h).mono ?_; rintro e w1 ⟨rfl, h1⟩)
  refine (wbyte_calls 34 _ (bld_new w1) (by simp)).mono ?_
  rintro e w2 ⟨rfl, v2, hb2, hk2⟩
  have hbel2 : Below w1.heap.size w1 w2 := hk2.bel (below_alloc (Below.refl _ _) _) (Nat.le_refl _) (Nat.le_refl _)
  have hg2 : w1.heap.size < w2.heap.size := blk_lt hb2.blk
  have H1 := Aside0.mk h1
  have HB2 := Aside0.mk (And.intro hb2 (And.intro hbel2 hg2))
  clear hb2 hk2 hbel2 hg2 h1 h
  go_wp2_with fail
  go_loopw [8] (fun _ wr => ∃ (pos f : Nat) (v : Value) (out : List Int), Aside0 (wr.heap[w2.heap.size]? = some (.stringIter s pos)) ∧ Aside0 (Bld wr w1.heap.size w1.heap.size 0 49 (bcells w1.heap.size v) v out) ∧ Aside0 (Below w1.heap.size w1 wr) ∧
      Aside0 (out ++ outF s e0 f pos = [34] ++ outF s e0 s.size 0) ∧ Aside0 (badF s f pos < 0) ∧ s.size ≤ pos + f ∧ Aside0 (out.length ≤ 1 + 12 * pos)) (fun _ wr => s.size - wr.iterPos w2.heap.size)
  case atStart => exact ⟨0, s.size, v2, [34], ⟨World.iter_heap _ _ _⟩, ⟨HB2.out.1.below (below_alloc (Below.refl _ _) _)⟩, ⟨HB2.out.2.1.trans ((below_alloc (Below.refl _ _) _).mono HB2.out.2.1.size)⟩, ⟨rfl⟩, ⟨HVV.out⟩, by omega, ⟨by simp⟩⟩
  case round =>
    obtain ⟨pos, f, v, out, HIT, HB, HBel, HOut, HBad, hf, HLen⟩ := hrel
    by_cases hp : pos < s.size
    · obtain ⟨f, rfl⟩ : ∃ g, f = g + 1 := ⟨f - 1, by omega⟩
      have hgood : ¬ ((Utf8.decode s pos).1 = 65533 ∧ (Utf8.decode s pos).2 = 1) := by
        intro hb
        have := HBad.out
        rw [badF_hit s f pos hp hb.1 hb.2] at this
        omega
      have hbad2 : Aside0 (badF s f (pos + (Utf8.decode s pos).2) < 0) := ⟨by have := HBad.out; rw [badF_on s f pos hp hgood] at this; exact this⟩
      have hrune := decode_rune s pos hp hgood
      have hwd := width_pos s pos hp
      have hout := HOut.out
      rw [outF, if_pos hp] at hout
      have hnx : ∀ ty, (Instr.next (.pointer (some ⟨w2.heap.size, 0, none⟩)) true ty).run Tryd.prog wr = _ := fun ty => Lib.run_next_any_at wr w2.heap.size s pos ty HIT.out hp
      have hposw := iterPos_of HIT.out
      have HPOS := Aside0.mk hposw
      generalize (Utf8.decode s pos).2 = wd at *
      generalize (Utf8.decode s pos).1 = r at *
      have hit2 : (wr.iterAt w2.heap.size s (pos + wd)).heap[w2.heap.size]? = some (.stringIter s (pos + wd)) := Lib.iterAt_heap _ _ _ _ _ HIT.out
      have hb2' := HB.out.iterAt HIT.out (pos + wd)
      have hbel2' := Lib.below_iterAt (k := w2.heap.size) HBel.out (Nat.le_of_lt HB2.out.2.2) s (pos + wd)
      have HOUT2 := Aside0.mk hout
      have HI2 := Aside0.mk (And.intro hit2 (And.intro hb2' hbel2'))
      have HX : Aside0 (∀ w, Calls Tryd.prog 30 #[.string signs, .int .i32 (r : Int)] w fun e w' => e = .returned (.int .i64 (idxS r)) ∧ Below w.heap.size w w') := ⟨fun w => idx_calls r w hrune⟩
      obtain ⟨hx0, hx1⟩ := idxS_range (r : Int)
      have hr2 : (r : Int) ≤ 1114111 := by omega
      have hr0 : 0 ≤ (r : Int) := by omega
      clear hgood hout hposw hit2 hb2' hbel2' HIT HB HBel HOut HBad hrune
      generalize (r : Int) = ri at *
      go_wp2_with fail
      refine (HX.out _).mono ?_
      rintro e w4 ⟨rfl, hb4⟩
      have hit4 := blk_below HI2.out.1 hb4
      have hbl4 := HI2.out.2.1.below hb4
      have hbe4 := HI2.out.2.2.trans (hb4.mono HI2.out.2.2.size)
      have H4 := Aside0.mk (And.intro hit4 (And.intro hbl4 hbe4))
      have hol : out.length ≤ 100000000 := by have := HLen.out; omega
      have hne : w2.heap.size ≠ w1.heap.size := by have := HB2.out.2.2; omega
      have HNE := Aside0.mk hne
      -- what a piece leaves
      have HFin : Aside0 (∀ (w9 : World) (v9 : Value) (q : List Int), q = piece e0 ri → Bld w9 w1.heap.size w1.heap.size 0 49 (bcells w1.heap.size v9) v9 (out ++ q) → Kp w1.heap.size w1.heap.size w4 w9 →
          ∃ (pos' f' : Nat) (v' : Value) (out' : List Int), Aside0 (w9.heap[w2.heap.size]? = some (.stringIter s pos')) ∧ Aside0 (Bld w9 w1.heap.size w1.heap.size 0 49 (bcells w1.heap.size v') v' out') ∧ Aside0 (Below w1.heap.size w1 w9) ∧
            Aside0 (out' ++ outF s e0 f' pos' = [34] ++ outF s e0 s.size 0) ∧ Aside0 (badF s f' pos' < 0) ∧ s.size ≤ pos' + f' ∧ Aside0 (out'.length ≤ 1 + 12 * pos')) := ⟨fun w9 v9 q hq hb9 hk9 =>
        ⟨pos + wd, f, v9, out ++ q, ⟨hk9.iter H4.out.1 HNE.out⟩, ⟨hb9⟩, ⟨hk9.bel H4.out.2.2 (Nat.le_refl _) (Nat.le_refl _)⟩, ⟨by rw [List.append_assoc, hq]; exact HOUT2.out⟩, hbad2, by omega, ⟨by have := HLen.out; have := piece_le e0 ri; rw [List.length_append, hq]; omega⟩⟩⟩
      have HMes : Aside0 (∀ w9 : World, Kp w1.heap.size w1.heap.size w4 w9 → s.size - w9.iterPos w2.heap.size < s.size - wr.iterPos w2.heap.size) := ⟨fun w9 hk9 => by
        rw [iterPos_of (hk9.iter H4.out.1 HNE.out), HPOS.out]; omega⟩
      clear hb4 hit4 hbl4 hbe4 hne HX HI2 HOUT2 hbad2
      by_cases hA : ri = 47 ∨ (idxS ri < 0 ∧ 32 ≤ ri ∧ ri < e0)
      · have hpc : Aside0 (enc ri = piece e0 ri) := ⟨by rw [piece, if_pos hA]⟩
        have HBlk := Aside0.mk H4.out.2.1
        rcases hA with e47 | ⟨a1, a2, a3⟩
        · have f1 : (ri == 47) = true := beq_iff_eq.2 e47
          clear e47
          go_wp2_with fail
          refine (wrune_calls ri w4 HBlk.out (by omega) (by omega) (by omega)).mono ?_
          rintro e w9 ⟨⟨nn, rfl⟩, v9, hb9, hk9⟩
          rw [wrote_wrote] at hb9
          have HB9 := Aside0.mk (And.intro hb9 hk9)
          clear hb9 hk9
          go_wp2_with fail
          go_roundw
          case rel => exact HFin.out _ _ _ hpc.out HB9.out.1 HB9.out.2
          case measure => exact HMes.out _ HB9.out.2
        · have f1 : (ri == 47) = false := by
            rw [beq_eq_false_iff_ne]
            intro e
            rw [e] at a1
            exact absurd a1 (by decide)
          go_wp2_with fail
          refine (wrune_calls ri w4 HBlk.out (by omega) (by omega) (by omega)).mono ?_
          rintro e w9 ⟨⟨nn, rfl⟩, v9, hb9, hk9⟩
          rw [wrote_wrote] at hb9
          have HB9 := Aside0.mk (And.intro hb9 hk9)
          clear hb9 hk9
          go_wp2_with fail
          go_roundw
          case rel => exact HFin.out _ _ _ hpc.out HB9.out.1 HB9.out.2
          case measure => exact HMes.out _ HB9.out.2
      · by_cases hB : 0 ≤ idxS ri
        · have hpc : Aside0 ([92, plainL.getD (idxS ri).toNat 0] = piece e0 ri) := ⟨by rw [piece, if_neg hA, if_pos hB]⟩
          have HBlk := Aside0.mk H4.out.2.1
          have f1 : (ri == 47) = false := beq_eq_false_iff_ne.2 (fun e => hA (.inl e))

          have HPL := Aside0.mk (plain_at (idxS ri) hB hx1)
          clear hA
          generalize idxS ri = ix at *
          go_wp2_with fail
          refine (wbyte_calls 92 w4 HBlk.out (by omega)).mono ?_
          rintro e w8 ⟨rfl, v8, hb8, hk8⟩
          rw [wrote_wrote] at hb8
          have HB8 := Aside0.mk (And.intro hb8 hk8)
          clear hb8 hk8
          go_wp2_with fail
          refine (wbyte_calls _ w8 HB8.out.1 (by rw [List.length_append, List.length_singleton]; omega)).mono ?_
          rintro e w9 ⟨rfl, v9, hb9, hk9⟩
          rw [wrote_wrote, HPL.out, List.append_assoc] at hb9
          have HB9 := Aside0.mk (And.intro hb9 (HB8.out.2.trans hk9))
          clear hb9 hk9
          go_wp2_with fail
          go_roundw
          case rel => exact HFin.out _ _ _ hpc.out HB9.out.1 HB9.out.2
          case measure => exact HMes.out _ HB9.out.2
        · by_cases hC : 65536 ≤ ri
          · have hpc : Aside0 (fourB (55296 + (ri - 65536) / 1024) ++ fourB (56320 + (ri - 65536) % 1024) = piece e0 ri) := ⟨by rw [piece, if_neg hA, if_neg hB, if_pos hC]⟩
            have HBlk := Aside0.mk H4.out.2.1
            have f1 : (ri == 47) = false := beq_eq_false_iff_ne.2 (fun e => hA (.inl e))

            have f2 : ¬ (idxS ri < 0 ∧ 32 ≤ ri ∧ ri < e0) := fun e => hA (.inr e)
            have f3 : e0 ≤ ri := by omega
            have hq0 : 0 ≤ (ri - 65536) / 1024 ∧ (ri - 65536) / 1024 < 1024 := by omega
            have hq1 : 0 ≤ (ri - 65536) % 1024 ∧ (ri - 65536) % 1024 < 1024 := by omega
            have hand := i32_and1023 (ri - 65536) (by omega) (by omega)
            have f4 : idxS ri < 0 := by omega
            clear hA hB f2
            generalize idxS ri = ix at *
            go_wp2_with fail
            refine (four_calls (55296 + (ri - 65536) / 1024) w4 HBlk.out (by omega) (by omega) (by omega)).mono ?_
            rintro e w8 ⟨rfl, v8, hb8, hk8⟩
            rw [wrote_wrote] at hb8
            have HB8 := Aside0.mk (And.intro hb8 hk8)
            clear hb8 hk8
            go_wp2_with fail
            refine (four_calls (56320 + (ri - 65536) % 1024) w8 HB8.out.1 (by rw [List.length_append]; have : (fourB (55296 + (ri - 65536) / 1024)).length = 6 := rfl; omega) (by omega) (by omega)).mono ?_
            rintro e w9 ⟨rfl, v9, hb9, hk9⟩
            rw [wrote_wrote, List.append_assoc] at hb9
            have HB9 := Aside0.mk (And.intro hb9 (HB8.out.2.trans hk9))
            clear hb9 hk9
            go_wp2_with fail
            go_roundw
            case rel => exact HFin.out _ _ _ hpc.out HB9.out.1 HB9.out.2
            case measure => exact HMes.out _ HB9.out.2
          · have hpc : Aside0 (fourB ri = piece e0 ri) := ⟨by rw [piece, if_neg hA, if_neg hB, if_neg hC]⟩
            have HBlk := Aside0.mk H4.out.2.1
            have f1 : (ri == 47) = false := beq_eq_false_iff_ne.2 (fun e => hA (.inl e))

            have f4 : idxS ri < 0 := by omega
            have f5 : ¬ (32 ≤ ri ∧ ri < e0) := fun e => hA (.inr ⟨f4, e⟩)
            have f9 : ri < 65536 := by omega
            clear hA hB hC
            generalize idxS ri = ix at *
            by_cases h32 : 32 ≤ ri
            · have f6 : e0 ≤ ri := by omega
              clear f5
              go_wp2_with fail
              refine (four_calls ri w4 HBlk.out (by omega) (by omega) (by omega)).mono ?_
              rintro e w9 ⟨rfl, v9, hb9, hk9⟩
              rw [wrote_wrote] at hb9
              have HB9 := Aside0.mk (And.intro hb9 hk9)
              clear hb9 hk9
              go_wp2_with fail
              go_roundw
              case rel => exact HFin.out _ _ _ hpc.out HB9.out.1 HB9.out.2
              case measure => exact HMes.out _ HB9.out.2
            · clear f5
              go_wp2_with fail
              refine (four_calls ri w4 HBlk.out (by omega) (by omega) (by omega)).mono ?_
              rintro e w9 ⟨rfl, v9, hb9, hk9⟩
              rw [wrote_wrote] at hb9
              have HB9 := Aside0.mk (And.intro hb9 hk9)
              clear hb9 hk9
              go_wp2_with fail
              go_roundw
              case rel => exact HFin.out _ _ _ hpc.out HB9.out.1 HB9.out.2
              case measure => exact HMes.out _ HB9.out.2
    · have hnx : ∀ ty, (Instr.next (.pointer (some ⟨w2.heap.size, 0, none⟩)) true ty).run Tryd.prog wr = _ := fun ty => Lib.run_next_end_at wr w2.heap.size s pos ty HIT.out hp
      have hout := HOut.out
      rw [outF_end s e0 f pos hp, List.append_nil] at hout
      have hol : out.length ≤ 100000000 := by
        have h3 := outF_length s e0 s.size 0
        rw [hout]
        simp only [List.length_append, List.length_singleton]
        omega
      have HO := Aside0.mk hout
      clear HOut hout
      go_wp2_with fail
      refine (wbyte_calls 34 wr HB.out (by omega)).mono ?_
      rintro e w8 ⟨rfl, v8, hb8, hk8⟩
      rw [wrote_wrote] at hb8
      have HB8 := Aside0.mk (And.intro hb8 hk8)
      clear hb8 hk8
      go_wp2_with fail
      refine (string_calls w8 HB8.out.1 (by rw [List.length_append, List.length_singleton]; omega) ?_).mono ?_
      · have := quoL_byte s e0
        rw [quoL, ← HO.out] at this
        exact this
      rintro e w9 ⟨rfl, hk9⟩
      have HK9 := Aside0.mk ((HB8.out.2.trans (hk9 _)).bel HBel.out (Nat.le_refl _) (Nat.le_refl _))
      clear hk9
      go_wp2_with fail
      go_ret2
      exact ⟨by rw [if_pos HVV.out, if_pos HVV.out, quoL, ← HO.out]; rfl, H1.out.next HK9.out⟩
end Go.Proofs.YtojhbioljpamhaaDoor.My
