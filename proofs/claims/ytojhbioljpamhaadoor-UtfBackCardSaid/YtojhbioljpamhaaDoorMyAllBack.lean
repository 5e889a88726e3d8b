/- MyUtfA, MySgn, MyRead, MyUnqW, MyJoinsP, MyUBackP, MyUBackL: laid into one text by merge.py. -/
import Derived.Test.YtojhbioljpamhaaDoorMyQuote
import Derived.Test.YtojhbioljpamhaaDoorMyNumE
import Derived.Test.YtojhbioljpamhaaDoorMyEsc
import Derived.Test.YtojhbioljpamhaaDoorMyMeth

/- The walks of utf.Quote, utf.Narrow, crossdocknum.Is, the law's alive. -/
namespace Go.Proofs.YtojhbioljpamhaaDoor.My
open Go.RowKit Go.Lib Go.Proofs.YtojhbioljpamhaaDoorW.PrintWords
set_option linter.unusedVariables false
set_option linter.unusedSimpArgs false

theorem is_calls (e : Option Int) (c : Int) (w : World) (h : ∀ c, e = some c → c ≠ 0) : Calls Tryd.prog 14 #[errV e, .int .i64 c] w fun r w' => r = .returned (.bool (numE e == c)) ∧ w = w' := by
  have HN : Aside0 (∀ w : World, Calls Tryd.prog 17 #[errV e] w fun r w' => r = .returned (.int .i64 (numE e)) ∧ w = w') := ⟨fun w => num_calls e w h⟩
  clear h
  generalize errV e = v at *
  go_enter Tryd.func14, Tryd.ntmps14
  go_wp2_with (go_at_call 17; refine (HN.out _).mono ?_; rintro e w' ⟨rfl, rfl⟩)
  go_ret
  exact ⟨rfl, rfl⟩
theorem bad_ok (s : ByteArray) (w0 w : World) (h : Ok w0 w) (hs : s.size ≤ 1000000) :
    Calls Tryd.prog 9 #[.string s] w fun e w' => e = .returned (.int .i64 (badU s)) ∧ Ok w0 w' :=
  (bad_calls s w h.gl hs).mono fun e w' ⟨h1, h2⟩ => ⟨h1, h.next h2⟩
/-- What Quote and Narrow answer: a text and an error. -/
def quoT (s : ByteArray) (e0 : Int) : ByteArray := if badU s < 0 then strOfNums (quoL s e0) else ⟨#[]⟩
def quoE (s : ByteArray) : Option Int := if badU s < 0 then none else some 9
theorem quote_calls (s : ByteArray) (e0 : Int) (w0 w : World) (h : Ok w0 w) (hs : s.size ≤ 1000000) (he0 : 0 ≤ e0) (he1 : e0 ≤ 2000000) :
    Calls Tryd.prog 20 #[.string s, .int .i32 e0] w fun e w' => e = .returned (.tuple #[.string (quoT s e0), errV (quoE s)]) ∧ Ok w0 w' := by
  by_cases hv : badU s < 0
  · exact quote_ok s e0 w0 w h hs hv he0 he1
  · exact quote_bad s e0 w0 w h hs hv
theorem Quote_ok (s : ByteArray) (w0 w : World) (h : Ok w0 w) (hs : s.size ≤ 1000000) :
    Calls Tryd.prog 11 #[.string s] w fun e w' => e = .returned (.tuple #[.string (quoT s 1114112), errV (quoE s)]) ∧ Ok w0 w' := by
  have HQ := Aside0.mk (quote_calls s 1114112)
  go_enter Tryd.func11, Tryd.ntmps11
  go_wp2_with (go_at_call 20; refine (HQ.out _ _ h hs (by decide) (by decide)).mono ?_; rintro e w1 ⟨rfl, h1⟩)
  go_ret2
  exact ⟨rfl, h1⟩
theorem Narrow_ok (s : ByteArray) (w0 w : World) (h : Ok w0 w) (hs : s.size ≤ 1000000) :
    Calls Tryd.prog 12 #[.string s] w fun e w' => e = .returned (.tuple #[.string (quoT s 127), errV (quoE s)]) ∧ Ok w0 w' := by
  have HQ := Aside0.mk (quote_calls s 127)
  go_enter Tryd.func12, Tryd.ntmps12
  go_wp2_with (go_at_call 20; refine (HQ.out _ _ h hs (by decide) (by decide)).mono ?_; rintro e w1 ⟨rfl, h1⟩)
  go_ret2
  exact ⟨rfl, h1⟩
abbrev exS : ByteArray := ⟨#[97, 10, 195, 169]⟩
theorem ex_bad : badU exS < 0 := by decide +kernel
theorem ex_quote : quoT exS 1114112 = ⟨#[34, 97, 92, 110, 195, 169, 34]⟩ := by
  rw [quoT, if_pos ex_bad]
  decide +kernel
theorem ex_narrow : quoT exS 127 = ⟨#[34, 97, 92, 110, 92, 117, 48, 48, 101, 57, 34]⟩ := by
  rw [quoT, if_pos ex_bad]
  decide +kernel
theorem ex_err : quoE exS = none := by rw [quoE, if_pos ex_bad]
theorem alive_ok (w0 w : World) (h : Ok w0 w) : Calls Tryd.prog 7 #[] w fun e w' => e = .returned (.bool true) ∧ Ok w0 w' := by
  have H1 : Aside0 (∀ w, Ok w0 w → Calls Tryd.prog 11 #[.string exS] w fun e w' => e = .returned (.tuple #[.string ⟨#[34, 97, 92, 110, 195, 169, 34]⟩, errV none]) ∧ Ok w0 w') := ⟨fun w h => by
    have := Quote_ok exS w0 w h (by decide)
    rw [ex_quote, ex_err] at this
    exact this⟩
  have H2 : Aside0 (∀ w, Ok w0 w → Calls Tryd.prog 12 #[.string exS] w fun e w' => e = .returned (.tuple #[.string ⟨#[34, 97, 92, 110, 92, 117, 48, 48, 101, 57, 34]⟩, errV none]) ∧ Ok w0 w') := ⟨fun w h => by
    have := Narrow_ok exS w0 w h (by decide)
    rw [ex_narrow, ex_err] at this
    exact this⟩
  rw [show errV none = .nilIface from rfl] at H1 H2
  go_enter Tryd.func7, Tryd.ntmps7
  go_wp2_with (first
    | (go_at_call 11; refine (H1.out _ h).mono ?_; rintro e w1 ⟨rfl, h1⟩)
    | (go_at_call 12; refine (H2.out _ h1).mono ?_; rintro e w2 ⟨rfl, h2⟩))
  go_ret
  exact ⟨rfl, h2⟩
end Go.Proofs.YtojhbioljpamhaaDoor.My

/- The walk of literal.sign. -/
namespace Go.Proofs.YtojhbioljpamhaaDoor.My
open Go.RowKit Go.Lib Go.Proofs.YtojhbioljpamhaaDoorW.PrintWords Go.Proofs.YtojhbioljpamhaaDoorW.PrintLast Go.Proofs.YtojhbioljpamhaaDoorW.PrintMore
set_option maxRecDepth 100000
set_option linter.unusedVariables false
set_option linter.unusedSimpArgs false
section
variable {B g : Nat} {s : ByteArray} {i : Nat} {out : List Int}
theorem cell_kept {w w1 : World} {b : Nat} (h : w1.heap[b]? = w.heap[b]?) (o : Nat) : w1.cell? ⟨b, o, none⟩ = w.cell? ⟨b, o, none⟩ := by
  simp only [World.cell?, h]
theorem Gl.kp {w w1 : World} (h : Gl w) (k : Kp B g w w1) (hB : 2 ≤ B) (hg : 2 ≤ g) : Gl w1 := by
  have h0 := k.low 0 (by omega) (by have := h.low; omega) (by omega)
  have h1 := k.low 1 (by omega) (by have := h.low; omega) (by omega)
  obtain ⟨⟨t1, t2⟩, hl⟩ := h
  exact ⟨⟨fun c hc => (cell_kept h0 c).trans (t1 c hc), fun i hi => ⟨(cell_kept h1 _).trans (t2 i hi).1, (cell_kept h1 _).trans (t2 i hi).2⟩⟩, Nat.le_trans hl k.size⟩
theorem sign_calls (w : World) (h : Lit w B g s i out) (hg : Gl w) (hs : s.size ≤ 1000000) (hi : i < s.size) (ho : out.length ≤ 100000000) :
    Calls Tryd.prog 39 #[.pointer (some ⟨g, 0, none⟩)] w fun e w' =>
      (∃ p j, signR s i = .ok (p, j) ∧ e = .returned (.tuple #[]) ∧ i < j ∧ j ≤ s.size ∧ Lit w' B g s j (out ++ p) ∧ Kp B g w w') ∨ (∃ c, signR s i = .error c ∧ Thr B g w c e w') := by
  obtain ⟨c, v, hb⟩ := h
  have c0 : w.cell? ⟨g, 0, none⟩ = some (.string s) := by rw [blk_cell hb.blk]; rfl
  have c1 : w.cell? ⟨g, 1, none⟩ = some (.int .i64 (i : Int)) := by rw [blk_cell hb.blk]; rfl
  have HB := Aside0.mk hb
  have l0 : (0 : Int) ≤ (i : Int) := by omega
  have l1 : (i : Int) ≤ (s.size : Int) := by omega
  have hrs : (s.extract i s.size).size = s.size - i := by rw [ByteArray.size_extract]; omega
  have HD : Aside0 (∀ w, Gl w → Calls Tryd.prog 19 #[.string (s.extract i s.size)] w fun e w' => e = .returned (.tuple #[.int .i32 ((Utf8.decode s i).1 : Int), .int .i64 ((Utf8.decode s i).2 : Int)]) ∧ Below w.heap.size w w') := ⟨fun w hg => by
    have := Tryd.utf8_DecodeRuneInString (s.extract i s.size) w hg.tabs
    rwa [decode_extract s i hi] at this⟩
  clear hb
  by_cases hbad : (Utf8.decode s i).1 = 65533 ∧ (Utf8.decode s i).2 = 1
  · have HU : Aside0 (signR s i = if fullX (firstT (s.get! i).toNat) (s.size - i) (s.get! (i + 1)).toNat (s.get! (i + 2)).toNat = true then .error 9 else .error 10) := ⟨by rw [signR, if_pos hbad]⟩
    have HFull : Aside0 (∀ w, Gl w → Calls Tryd.prog 49 #[.string (s.extract i s.size)] w fun e w' => e = .returned (.bool (fullX (firstT (s.get! i).toNat) (s.size - i) (s.get! (i + 1)).toNat (s.get! (i + 2)).toNat)) ∧ Below w.heap.size w w') := ⟨fun w hg => by
      have := full_calls (s.extract i s.size) w hg (by omega)
      rwa [hrs, get_extract, get_extract, get_extract, Nat.add_zero] at this⟩
    rw [hbad.1, hbad.2] at HD
    cases hfu : fullX (firstT (s.get! i).toNat) (s.size - i) (s.get! (i + 1)).toNat (s.get! (i + 2)).toNat with
    | true =>
      have HE : Aside0 (signR s i = .error 9) := ⟨by rw [HU.out, if_pos hfu]⟩
      rw [hfu] at HFull
      clear HU hfu hbad
      go_enter Tryd.func39, Tryd.ntmps39
      go_wp2
      go_quiet (fail)
      rename_i nq
      have hg1 : Gl (w.drewN nq) := hg.next (below_drewN w nq)
      have HK := Aside0.mk (Kp.of_below (B := B) (g := g) (below_drewN w nq))
      go_wp2_with (first
        | (go_at_call 19; refine (HD.out _ hg1).mono ?_; rintro e w2 ⟨rfl, hb2⟩; have hg2 := hg1.next hb2; replace HK := Aside0.mk (HK.out.below hb2); clear hb2)
        | (go_at_call 49; refine (HFull.out _ hg2).mono ?_; rintro e w3 ⟨rfl, hb3⟩; replace HK := Aside0.mk (HK.out.below hb3); clear hb3)
        | (go_at_call 35; refine (must_yes _ _ _).mono ?_; rintro e w' ⟨rfl, rfl⟩)
        | (go_at_call 38; refine (throw_calls _ _ _).mono ?_; rintro e w' ⟨rfl, rfl⟩))
      exact post_panic rfl (.inr ⟨9, HE.out, Thr.after HK.out (thr_new 9 _)⟩)
    | false =>
      have HE : Aside0 (signR s i = .error 10) := ⟨by rw [HU.out, if_neg (by rw [hfu]; decide)]⟩
      rw [hfu] at HFull
      clear HU hfu hbad
      go_enter Tryd.func39, Tryd.ntmps39
      go_wp2
      go_quiet (fail)
      rename_i nq
      have hg1 : Gl (w.drewN nq) := hg.next (below_drewN w nq)
      have HK := Aside0.mk (Kp.of_below (B := B) (g := g) (below_drewN w nq))
      go_wp2_with (first
        | (go_at_call 19; refine (HD.out _ hg1).mono ?_; rintro e w2 ⟨rfl, hb2⟩; have hg2 := hg1.next hb2; replace HK := Aside0.mk (HK.out.below hb2); clear hb2)
        | (go_at_call 49; refine (HFull.out _ hg2).mono ?_; rintro e w3 ⟨rfl, hb3⟩; replace HK := Aside0.mk (HK.out.below hb3); clear hb3)
        | (go_at_call 35; refine (must_no _ _ _).mono ?_; rintro e w' ⟨rfl, rfl⟩))
      exact post_panic rfl (.inr ⟨10, HE.out, Thr.after HK.out (thr_new 10 _)⟩)
  · have HE : Aside0 (signR s i = .ok (bytesOf (s.extract i (i + (Utf8.decode s i).2)), i + (Utf8.decode s i).2)) := ⟨by rw [signR, if_neg hbad]⟩
    obtain ⟨hw1, hw2⟩ := width_in s i hi hbad
    have hex : (s.extract i s.size).extract 0 (Utf8.decode s i).2 = s.extract i (i + (Utf8.decode s i).2) := by
      apply ByteArray.ext
      rw [ByteArray.data_extract, ByteArray.data_extract, ByteArray.data_extract, Array.extract_extract]
      congr 1
      omega
    have hz : (s.extract i (i + (Utf8.decode s i).2)).size ≤ 1000000 := by rw [ByteArray.size_extract]; omega
    have f1 : (((Utf8.decode s i).1 : Int) == 65533 && ((Utf8.decode s i).2 : Int) == 1) = false := by
      rw [Bool.eq_false_iff]
      intro e
      rw [Bool.and_eq_true, beq_iff_eq, beq_iff_eq] at e
      exact hbad ⟨by omega, by omega⟩
    have hww : ((Utf8.decode s i).2 : Int) ≤ ((s.extract i s.size).size : Int) := by rw [hrs]; omega
    have hww2 : ((Utf8.decode s i).2 : Int) ≤ ((s.size - i : Nat) : Int) := by omega
    have hww3 : (Utf8.decode s i).2 ≤ s.size - i := by omega
    clear hrs
    generalize (Utf8.decode s i).2 = wd at *
    generalize (Utf8.decode s i).1 = r at *
    have w0' : (0 : Int) ≤ (wd : Int) := by omega
    have w1' : (i : Int) + (wd : Int) ≤ 1000000 := by omega
    by_cases hr : (r : Int) = 65533
    · have f2 : ((r : Int) == 65533) = true := beq_iff_eq.2 hr
      have f3 : ((wd : Int) == 1) = false := by rw [f2] at f1; simpa using f1
      clear hr f1 hbad
      go_enter Tryd.func39, Tryd.ntmps39
      go_wp2
      go_quiet (fail)
      rename_i nq
      have hg1 : Gl (w.drewN nq) := hg.next (below_drewN w nq)
      have HK := Aside0.mk (below_drewN w nq)
      go_wp2_with (go_at_call 19; refine (HD.out _ hg1).mono ?_; rintro e w2 ⟨rfl, hb2⟩; replace HK := Aside0.mk (HK.out.trans (hb2.mono HK.out.size)); clear hb2)
      go_still_tail 6, (by kernel_rfl)
      change wpList _ _ _ _ _ w2.drew
      have H2 : Aside0 (Bld w2.drew B g 2 51 (lc s i c v) v out ∧ Kp B g w w2.drew) := ⟨HB.out.below (HK.out.drew), Kp.of_below HK.out.drew⟩
      generalize w2.drew = w3 at *
      go_wp2_with fail
      refine (wstring_calls (s.extract i (i + wd)) w3 H2.out.1 (by omega) (by omega)).mono ?_
      rintro e w4 ⟨rfl, v', hb4, hK4⟩
      change Bld w4 B g 2 51 (lc s i (.pointer (some ⟨g, 2, none⟩)) v') v' _ at hb4
      have k1 : w4.cell? ⟨g, 1, none⟩ = some (.int .i64 (i : Int)) := by rw [blk_cell hb4.blk]; rfl
      have hf := blk_frozen hb4.blk 1
      have H4 := Aside0.mk (And.intro hb4 (H2.out.2.trans hK4))
      clear hb4 hK4
      go_wp2_with fail
      go_end0
      refine .inl ⟨_, _, HE.out, rfl, by omega, hw2, ?_, H4.out.2.set _ _⟩
      have := H4.out.1.setAt (j := i + wd)
      rw [show ((i + wd : Nat) : Int) = (i : Int) + (wd : Int) by omega] at this
      exact ⟨_, _, this⟩
    · have f2 : ((r : Int) == 65533) = false := beq_eq_false_iff_ne.2 hr
      clear hr f1 hbad
      go_enter Tryd.func39, Tryd.ntmps39
      go_wp2
      go_quiet (fail)
      rename_i nq
      have hg1 : Gl (w.drewN nq) := hg.next (below_drewN w nq)
      have HK := Aside0.mk (below_drewN w nq)
      go_wp2_with (go_at_call 19; refine (HD.out _ hg1).mono ?_; rintro e w2 ⟨rfl, hb2⟩; replace HK := Aside0.mk (HK.out.trans (hb2.mono HK.out.size)); clear hb2)
      go_still_tail 6, (by kernel_rfl)
      change wpList _ _ _ _ _ w2.drew
      have H2 : Aside0 (Bld w2.drew B g 2 51 (lc s i c v) v out ∧ Kp B g w w2.drew) := ⟨HB.out.below (HK.out.drew), Kp.of_below HK.out.drew⟩
      generalize w2.drew = w3 at *
      go_wp2_with fail
      refine (wstring_calls (s.extract i (i + wd)) w3 H2.out.1 (by omega) (by omega)).mono ?_
      rintro e w4 ⟨rfl, v', hb4, hK4⟩
      change Bld w4 B g 2 51 (lc s i (.pointer (some ⟨g, 2, none⟩)) v') v' _ at hb4
      have k1 : w4.cell? ⟨g, 1, none⟩ = some (.int .i64 (i : Int)) := by rw [blk_cell hb4.blk]; rfl
      have hf := blk_frozen hb4.blk 1
      have H4 := Aside0.mk (And.intro hb4 (H2.out.2.trans hK4))
      clear hb4 hK4
      go_wp2_with fail
      go_end0
      refine .inl ⟨_, _, HE.out, rfl, by omega, hw2, ?_, H4.out.2.set _ _⟩
      have := H4.out.1.setAt (j := i + wd)
      rw [show ((i + wd : Nat) : Int) = (i : Int) + (wd : Int) by omega] at this
      exact ⟨_, _, this⟩
end
end Go.Proofs.YtojhbioljpamhaaDoor.My

/- The walk of literal.read. -/
namespace Go.Proofs.YtojhbioljpamhaaDoor.My
open Go.RowKit Go.Lib Go.Proofs.YtojhbioljpamhaaDoorW.PrintWords Go.Proofs.YtojhbioljpamhaaDoorW.PrintLast Go.Proofs.YtojhbioljpamhaaDoorW.PrintMore
set_option maxRecDepth 100000
set_option linter.unusedVariables false
set_option linter.unusedSimpArgs false

def readF (s : ByteArray) : Nat → Nat → List Int → Except Int (List Int × Nat)
  | 0, _, _ => .error 10
  | f + 1, i, out =>
    if h : i < s.size then
      if byteI s i h = 34 then .ok (out, i + 1) else
      if byteI s i h = 92 then (match escR s (i + 1) with
        | .error c => .error c
        | .ok (p, j) => readF s f j (out ++ p))
      else if byteI s i h < 32 then .error 2 else (match signR s i with
        | .error c => .error c
        | .ok (p, j) => readF s f j (out ++ p))
    else .error 10
/-- What a literal comes to, and its place behind. -/
def unqR (s : ByteArray) : Except Int (List Int × Nat) :=
  if h : 0 < s.size then if byteI s 0 h = 34 then readF s s.size 1 [] else .error 2 else .error 10
def atOf (w : World) (g : Nat) : Nat := match w.cell? ⟨g, 1, none⟩ with | some (.int _ n) => n.toNat | _ => 0
theorem escR_len {s : ByteArray} {i j : Nat} {p : List Int} (h : escR s i = .ok (p, j)) : p.length ≤ 4 := by
  unfold escR at h
  split at h
  · split at h
    · split at h
      · cases h
      · cases h; exact enc_le _
    · split at h
      · cases h
      · cases h; simp
  · cases h
theorem signR_len {s : ByteArray} {i j : Nat} {p : List Int} (hi : i < s.size) (h : signR s i = .ok (p, j)) : p.length ≤ 4 := by
  unfold signR at h
  split at h
  · split at h <;> cases h
  · rename_i hb
    cases h
    have := enc_at s i hi hb
    rw [← this]
    exact enc_le _
section
variable {B g : Nat} {s : ByteArray} {i : Nat} {out : List Int}
theorem Lit.atOf {w : World} (h : Lit w B g s i out) : atOf w g = i := by
  obtain ⟨c, v, hb⟩ := h
  have c1 : w.cell? ⟨g, 1, none⟩ = some (.int .i64 (i : Int)) := by rw [blk_cell hb.blk]; rfl
  unfold My.atOf
  rw [c1]
  simp
theorem read_calls (w : World) (h : Lit w B g s 0 []) (hg : Gl w) (hB : 2 ≤ B) (hg2 : 2 ≤ g) (hs : s.size ≤ 1000000) :
    Calls Tryd.prog 23 #[.pointer (some ⟨g, 0, none⟩)] w fun e w' =>
      (∃ p j, unqR s = .ok (p, j) ∧ e = .returned (.tuple #[]) ∧ j ≤ s.size ∧ 2 ≤ j ∧ p.length ≤ 4 * j ∧ Lit w' B g s j p ∧ Kp B g w w') ∨ (∃ c, unqR s = .error c ∧ Thr B g w c e w') := by
  have HN := Aside0.mk (next_calls w h hs (Nat.zero_le _))
  clear h
  go_enter Tryd.func23, Tryd.ntmps23
  go_wp2_with fail
  refine HN.out.mono ?_
  rintro e w1 (⟨hlt, rfl, hL1, hK1⟩ | ⟨hge, hT⟩)
  · have H1 := Aside0.mk (And.intro hL1 (And.intro (hK1 B) (hg.kp (hK1 B) hB hg2)))
    clear hL1 hK1 HN hg
    by_cases e0 : byteI s 0 hlt = 34
    · have f1 : (byteI s 0 hlt == 34) = true := beq_iff_eq.2 e0
      have HU : Aside0 (unqR s = readF s s.size 1 []) := ⟨by rw [unqR, dif_pos hlt, if_pos e0]⟩
      clear e0
      generalize byteI s 0 hlt = b0 at *
      go_wp2_with (go_at_call 35; refine (must_yes _ _ _).mono ?_; rintro e w' ⟨rfl, rfl⟩)
      go_loopw [2] (fun _ wr => ∃ (i f : Nat) (out : List Int), 1 ≤ i ∧ i ≤ s.size ∧ s.size ≤ i + f ∧ Aside0 (out.length ≤ 4 * i ∧ unqR s = readF s (f + 1) i out) ∧ Aside0 (Lit wr B g s i out ∧ Kp B g w wr ∧ Gl wr)) (fun _ wr => s.size - atOf wr g)
      case atStart => exact ⟨1, s.size - 1, [], by omega, by omega, by omega, ⟨by simp, by rw [HU.out, show s.size - 1 + 1 = s.size by omega]⟩, ⟨H1.out.1, H1.out.2.1, H1.out.2.2⟩⟩
      case round =>
        obtain ⟨i, f, out, hi1, hi2, hf, HR, HL⟩ := hrel
        have HAt := Aside0.mk HL.out.1.atOf
        have HN := Aside0.mk (next_calls wr HL.out.1 hs hi2)
        have HFin : Aside0 (∀ (w9 : World) (p : List Int) (j : Nat), i < j → j ≤ s.size → p.length ≤ 4 → unqR s = readF s f j (out ++ p) → Lit w9 B g s j (out ++ p) → Kp B g wr w9 →
            ∃ (i' f' : Nat) (out' : List Int), 1 ≤ i' ∧ i' ≤ s.size ∧ s.size ≤ i' + f' ∧ Aside0 (out'.length ≤ 4 * i' ∧ unqR s = readF s (f' + 1) i' out') ∧ Aside0 (Lit w9 B g s i' out' ∧ Kp B g w w9 ∧ Gl w9)) := ⟨fun w9 p j h1 h2 h3 h4 h5 h6 => by
          obtain ⟨f, rfl⟩ : ∃ e, f = e + 1 := ⟨f - 1, by omega⟩
          exact ⟨j, f, out ++ p, by omega, h2, by omega, ⟨by have := HR.out.1; rw [List.length_append]; omega, h4⟩, ⟨h5, HL.out.2.1.trans h6, HL.out.2.2.kp h6 hB hg2⟩⟩⟩
        have HMes : Aside0 (∀ (w9 : World) (j : Nat) (p : List Int), i < j → j ≤ s.size → Lit w9 B g s j p → s.size - atOf w9 g < s.size - atOf wr g) := ⟨fun w9 j p h1 h2 h3 => by rw [h3.atOf, HAt.out]; omega⟩
        go_wp2_with fail
        refine HN.out.mono ?_
        rintro e w2 (⟨hl, rfl, hL2, hK2⟩ | ⟨hge, hT⟩)
        · have H2 := Aside0.mk (And.intro hL2 (And.intro (hK2 B) (HL.out.2.2.kp (hK2 B) hB hg2)))
          clear hL2 hK2 HN
          have hl4 : out.length ≤ 100000000 := by have := HR.out.1; omega
          by_cases c34 : byteI s i hl = 34
          · have f1 : (byteI s i hl == 34) = true := beq_iff_eq.2 c34
            have HE : Aside0 (unqR s = .ok (out, i + 1)) := ⟨by rw [HR.out.2, readF, dif_pos hl, if_pos c34]⟩
            clear c34
            generalize byteI s i hl = b1 at *
            go_wp2_with fail
            exact bodyPost_ret (results_none rfl _ _ _) rfl (.inl ⟨out, i + 1, HE.out, rfl, by omega, by omega, by have := HR.out.1; omega, H2.out.1, HL.out.2.1.trans H2.out.2.1⟩)
          · by_cases c92 : byteI s i hl = 92
            · have f1 : (byteI s i hl == 34) = false := beq_eq_false_iff_ne.2 c34
              have f2 : (byteI s i hl == 92) = true := beq_iff_eq.2 c92
              have HS : Aside0 (unqR s = match escR s (i + 1) with
                | .error c => .error c
                | .ok (p, j) => readF s f j (out ++ p)) := ⟨by rw [HR.out.2, readF, dif_pos hl, if_neg c34, if_pos c92]⟩
              have HC := Aside0.mk (escape_calls w2 H2.out.1 hs (by omega) hl4)
              clear c34 c92
              generalize byteI s i hl = b1 at *
              go_wp2_with fail
              refine HC.out.mono ?_
              rintro e w3 (⟨p, j, hp, rfl, hj0, hj1, hL3, hK3⟩ | ⟨c, hc, hT⟩)
              · have H3 := Aside0.mk (And.intro hL3 (H2.out.2.1.trans hK3))
                have HS2 : Aside0 (unqR s = readF s f j (out ++ p)) := ⟨by rw [HS.out, hp]⟩
                have hpl := escR_len hp
                clear hL3 hK3 hp HS
                go_wp2_with fail
                go_roundw
                case rel => exact HFin.out _ p j (by omega) hj1 hpl HS2.out H3.out.1 H3.out.2
                case measure => exact HMes.out _ j _ (by omega) hj1 H3.out.1
              · have HT := Aside0.mk (Thr.after HL.out.2.1 (Thr.after H2.out.2.1 hT))
                obtain ⟨j, rfl, hT2⟩ := hT
                clear hT2
                go_wp2_with fail
                exact post_panic rfl (.inr ⟨c, by rw [HS.out, hc], HT.out⟩)
            · have f1 : (byteI s i hl == 34) = false := beq_eq_false_iff_ne.2 c34
              have f2 : (byteI s i hl == 92) = false := beq_eq_false_iff_ne.2 c92
              by_cases c32 : byteI s i hl < 32
              · have HS : Aside0 (unqR s = .error 2) := ⟨by rw [HR.out.2, readF, dif_pos hl, if_neg c34, if_neg c92, if_pos c32]⟩
                have f3 : decide (byteI s i hl < 32) = true := decide_eq_true c32
                clear c34 c92
                generalize byteI s i hl = b1 at *
                go_wp2_with (go_at_call 38; refine (throw_calls _ _ _).mono ?_; rintro e w' ⟨rfl, rfl⟩)
                exact post_panic rfl (.inr ⟨2, HS.out, Thr.after (HL.out.2.1.trans H2.out.2.1) (thr_new 2 _)⟩)
              · have HS : Aside0 (unqR s = match signR s i with
                  | .error c => .error c
                  | .ok (p, j) => readF s f j (out ++ p)) := ⟨by rw [HR.out.2, readF, dif_pos hl, if_neg c34, if_neg c92, if_neg c32]⟩
                have f3 : decide (byteI s i hl < 32) = false := decide_eq_false c32
                clear c34 c92
                generalize byteI s i hl = b1 at *
                obtain ⟨c, v, hb2⟩ := H2.out.1
                have k1 : w2.cell? ⟨g, 1, none⟩ = some (.int .i64 ((i : Int) + 1)) := by rw [blk_cell hb2.blk, show (i : Int) + 1 = ((i + 1 : Nat) : Int) by omega]; rfl
                have hfz := blk_frozen hb2.blk 1
                have e1 : (i : Int) + 1 - 1 = (i : Int) := by omega
                have H3 : Aside0 (Lit (w2.setCell ⟨g, 1, none⟩ (.int .i64 (i : Int))) B g s i out ∧ Kp B g wr (w2.setCell ⟨g, 1, none⟩ (.int .i64 (i : Int))) ∧ Gl (w2.setCell ⟨g, 1, none⟩ (.int .i64 (i : Int)))) := ⟨⟨c, v, hb2.setAt⟩, H2.out.2.1.set _ _, H2.out.2.2.kp ((Kp.refl B g w2).set 1 _) hB hg2⟩
                have HC := Aside0.mk (sign_calls _ H3.out.1 H3.out.2.2 hs hl hl4)
                clear hb2
                go_wp2_with fail
                refine HC.out.mono ?_
                rintro e w3 (⟨p, j, hp, rfl, hj0, hj1, hL3, hK3⟩ | ⟨c, hc, hT⟩)
                · have H4 := Aside0.mk (And.intro hL3 (H3.out.2.1.trans hK3))
                  have HS2 : Aside0 (unqR s = readF s f j (out ++ p)) := ⟨by rw [HS.out, hp]⟩
                  have hpl := signR_len hl hp
                  clear hL3 hK3 hp HS
                  go_wp2_with fail
                  go_roundw
                  case rel => exact HFin.out _ p j (by omega) hj1 hpl HS2.out H4.out.1 H4.out.2
                  case measure => exact HMes.out _ j _ (by omega) hj1 H4.out.1
                · have HT := Aside0.mk (Thr.after HL.out.2.1 (Thr.after H3.out.2.1 hT))
                  obtain ⟨j, rfl, hT2⟩ := hT
                  clear hT2
                  go_wp2_with fail
                  exact post_panic rfl (.inr ⟨c, by rw [HS.out, hc], HT.out⟩)
        · have HT := Aside0.mk (Thr.after HL.out.2.1 hT)
          obtain ⟨j, rfl, hT2⟩ := hT
          clear hT2
          go_wp2_with fail
          exact post_panic rfl (.inr ⟨10, by rw [HR.out.2, readF, dif_neg (by omega)], HT.out⟩)
    · have f1 : (byteI s 0 hlt == 34) = false := beq_eq_false_iff_ne.2 e0
      have HU : Aside0 (unqR s = .error 2) := ⟨by rw [unqR, dif_pos hlt, if_neg e0]⟩
      clear e0
      generalize byteI s 0 hlt = b0 at *
      go_wp2_with (go_at_call 35; refine (must_no _ _ _).mono ?_; rintro e w' ⟨rfl, rfl⟩)
      exact post_panic rfl (.inr ⟨2, HU.out, Thr.after H1.out.2.1 (thr_new 2 _)⟩)
  · have HT := Aside0.mk hT
    obtain ⟨j, rfl, hT2⟩ := hT
    clear hT2
    go_wp2_with fail
    exact post_panic rfl (.inr ⟨10, by rw [unqR, dif_neg (by omega)], HT.out⟩)
end
end Go.Proofs.YtojhbioljpamhaaDoor.My

/- The walk of utf.Unquote. -/
namespace Go.Proofs.YtojhbioljpamhaaDoor.My
open Go.RowKit Go.Lib Go.Proofs.YtojhbioljpamhaaDoorW.PrintWords Go.Proofs.YtojhbioljpamhaaDoorW.PrintLast Go.Proofs.YtojhbioljpamhaaDoorW.PrintMore
set_option maxRecDepth 100000
set_option linter.unusedVariables false
set_option linter.unusedSimpArgs false

def unqT (s : ByteArray) : ByteArray := match unqR s with | .ok (p, _) => strOfNums p | .error _ => ⟨#[]⟩
def unqN (s : ByteArray) : Int := match unqR s with | .ok (_, j) => (j : Int) | .error _ => 0
def unqE (s : ByteArray) : Option Int := match unqR s with | .ok _ => none | .error c => some c
section
variable {B g : Nat} {s : ByteArray} {i : Nat} {out : List Int}
theorem Lit.setOther {w : World} {k : Nat} {cs : Array Value} (h : Lit w B g s i out) (hk : w.heap[k]? = some (.cells cs 26 (0, 0))) (v : Value) : Lit (w.setCell ⟨k, 0, none⟩ v) B g s i out := by
  obtain ⟨c, u, hb⟩ := h
  have hne : g ≠ k := by
    rintro rfl
    rw [hb.blk] at hk
    cases hk
  exact ⟨c, u, ⟨(Below.heap_setCell _ _ _ _ hne).trans hb.blk, hb.c0, hb.c1, own_setCell hb.row (by have := own_ne hb.row hk (by decide); simpa using this) _, hb.lies, hb.ne, by have := hb.bs_; simpa [World.setCell] using this⟩⟩
theorem escR_byte {s : ByteArray} {i j : Nat} {p : List Int} (h : escR s i = .ok (p, j)) : ∀ x ∈ p, 0 ≤ x ∧ x < 256 := by
  unfold escR at h
  split at h
  · split at h
    · split at h
      · cases h
      · cases h; exact Lib.encodeRuneZ_byte _
    · split at h
      · cases h
      · cases h
        intro x hx
        rw [List.mem_singleton.1 hx]
        have key : ∀ n : Nat, 0 ≤ sgL.getD n 0 ∧ sgL.getD n 0 < 256 := by
          intro n
          by_cases hn : n < 8
          · have : ∀ n : Fin 8, 0 ≤ sgL.getD n.1 0 ∧ sgL.getD n.1 0 < 256 := by decide
            exact this ⟨n, hn⟩
          · rw [List.getD_eq_getElem?_getD, List.getElem?_eq_none (by simp [sgL]; omega)]
            decide
        exact key _
  · cases h
theorem bytesOf_byte (s : ByteArray) : ∀ x ∈ bytesOf s, 0 ≤ x ∧ x < 256 := by
  intro x hx
  obtain ⟨b, _, rfl⟩ := List.mem_map.1 hx
  have := b.toNat_lt
  omega
theorem signR_byte {s : ByteArray} {i j : Nat} {p : List Int} (h : signR s i = .ok (p, j)) : ∀ x ∈ p, 0 ≤ x ∧ x < 256 := by
  unfold signR at h
  split at h
  · split at h <;> cases h
  · cases h; exact bytesOf_byte _
theorem readF_byte {s : ByteArray} : ∀ {f i j : Nat} {out p : List Int}, (∀ x ∈ out, 0 ≤ x ∧ x < 256) → readF s f i out = .ok (p, j) → ∀ x ∈ p, 0 ≤ x ∧ x < 256
  | 0, i, j, out, p, ho, h => by cases h
  | f + 1, i, j, out, p, ho, h => by
    rw [readF] at h
    split at h
    · split at h
      · cases h; exact ho
      · split at h
        · split at h
          · cases h
          · rename_i q j' he
            exact readF_byte (by intro x hx; rcases List.mem_append.1 hx with hx | hx; exact ho x hx; exact escR_byte he x hx) h
        · split at h
          · cases h
          · split at h
            · cases h
            · rename_i q j' he
              exact readF_byte (by intro x hx; rcases List.mem_append.1 hx with hx | hx; exact ho x hx; exact signR_byte he x hx) h
    · cases h
theorem unqR_byte {s : ByteArray} {j : Nat} {p : List Int} (h : unqR s = .ok (p, j)) : ∀ x ∈ p, 0 ≤ x ∧ x < 256 := by
  unfold unqR at h
  split at h
  · split at h
    · exact readF_byte (by intro x hx; cases hx) h
    · cases h
  · cases h
theorem lit_new (w : World) (s : ByteArray) : Lit (w.alloc (.cells #[.string s, .int .i64 0, .pointer none, .slice none 0 0] 51)) w.heap.size w.heap.size s 0 [] :=
  ⟨.pointer none, .slice none 0 0, ⟨alloc_self _ _, .inl rfl, rfl, ⟨rfl, .inl ⟨rfl, rfl⟩⟩, by kernel_rfl, by decide, by simp⟩⟩
theorem try_read {V : World} (w : World) (h : Lit w g g s 0 []) (hgl : Gl w) (hg : 2 ≤ g) (hs : s.size ≤ 1000000) (hb : Below V.heap.size V w) (hV : V.heap.size ≤ g) :
    Calls Tryd.prog 22 #[.func (.func 23) #[.pointer (some ⟨g, 0, none⟩)] #[]] w fun e w' =>
      (∃ p j, unqR s = .ok (p, j) ∧ e = .returned .nilIface ∧ j ≤ s.size ∧ p.length ≤ 4 * j ∧ Lit w' g g s j p ∧ Below V.heap.size V w') ∨ (∃ c k, unqR s = .error c ∧ e = .returned (fltV k) ∧ Flt w' k c ⟨#[]⟩ ∧ Below V.heap.size V w') := by
  have hcf : ∀ W : World, (callFunc 23 #[.pointer (some ⟨g, 0, none⟩)]).run Tryd.prog W = .ok (.enter 23 #[.pointer (some ⟨g, 0, none⟩)]) W := fun _ => rfl
  have hlt : g < w.heap.size := by
    obtain ⟨c, v, hb⟩ := h
    exact blk_lt hb.blk
  have hal : Below w.heap.size w (w.alloc (.cells #[.nilIface] 26)) := below_alloc (Below.refl _ _) _
  have hR := read_calls (w.alloc (.cells #[.nilIface] 26)) (h.below hal) (hgl.next hal) hg hg hs
  have hb1 : Below V.heap.size V (w.alloc (.cells #[.nilIface] 26)) := hb.trans (hal.mono hb.size)
  have hkeep : ∀ w', Kp g g (w.alloc (.cells #[.nilIface] 26)) w' → w'.heap[w.heap.size]? = some (.cells #[.nilIface] 26 (0, 0)) := fun w' hk => hk.oth _ _ (alloc_self _ _) (by omega) (fun _ _ e => by cases e)
  have hfin : ∀ w' v, Kp g g (w.alloc (.cells #[.nilIface] 26)) w' → Below V.heap.size V (w'.setCell ⟨w.heap.size, 0, none⟩ v) := fun w' v hk =>
    ((Kp.refl V.heap.size w.heap.size w').set 0 v).under (hk.under hb1 hV hV) (by omega) (Nat.le_refl _)
  refine (try_meth _ _ w (fun w1 => ∃ p j, unqR s = .ok (p, j) ∧ j ≤ s.size ∧ p.length ≤ 4 * j ∧ Lit w1 g g s j p ∧ Kp g g (w.alloc (.cells #[.nilIface] 26)) w1) (fun k w1 => ∃ c, unqR s = .error c ∧ Flt w1 k c ⟨#[]⟩ ∧ Kp g g (w.alloc (.cells #[.nilIface] 26)) w1) hcf (hR.mono ?_)).mono ?_
  · rintro e w' (⟨p, j, h1, rfl, h2, _, h3, h4, h5⟩ | ⟨c, h1, k, rfl, h2, h3⟩)
    · exact ⟨hkeep _ h5, .inl ⟨_, rfl, p, j, h1, h2, h3, h4, h5⟩⟩
    · exact ⟨hkeep _ h3, .inr ⟨k, rfl, c, h1, h2, h3⟩⟩
  · rintro e w' (⟨rfl, w1, ⟨p, j, h1, h2, h3, h4, h5⟩, rfl⟩ | ⟨k, rfl, w1, ⟨c, h1, h2, h3⟩, rfl⟩)
    · exact .inl ⟨p, j, h1, rfl, h2, h3, h4.setOther (hkeep _ h5) _, hfin _ _ h5⟩
    · refine .inr ⟨c, k, h1, rfl, ⟨?_⟩, hfin _ _ h3⟩
      have hne : k ≠ w.heap.size := by
        rintro rfl
        have := hkeep _ h3
        rw [h2.out] at this
        cases this
      exact (Below.heap_setCell _ _ _ _ hne).trans h2.out
theorem unquote_ok (s : ByteArray) (w0 w : World) (h : Ok w0 w) (hs : s.size ≤ 1000000) :
    Calls Tryd.prog 15 #[.string s] w fun e w' => e = .returned (.tuple #[.string (unqT s), .int .i64 (unqN s), errV (unqE s)]) ∧ Ok w0 w' := by
  have hba : Below w.heap.size w (w.alloc (.cells #[.string s, .int .i64 0, .pointer none, .slice none 0 0] 51)) := below_alloc (Below.refl _ _) _
  have HT := Aside0.mk (try_read (V := w) _ (lit_new w s) (h.gl.next hba) h.gl.low hs hba (Nat.le_refl _))
  have HOk := Aside0.mk h
  clear hba h
  go_enter Tryd.func15, Tryd.ntmps15
  go_wp2_with fail
  refine HT.out.mono ?_
  rintro e w2 (⟨p, j, hu, rfl, hj, hp, hL, hb⟩ | ⟨c, k, hu, rfl, hF, hb⟩)
  · have HE : Aside0 (unqT s = strOfNums p ∧ unqN s = (j : Int) ∧ unqE s = none) := ⟨by unfold unqT; rw [hu], by unfold unqN; rw [hu], by unfold unqE; rw [hu]⟩
    have hby := unqR_byte hu
    clear hu
    obtain ⟨c, v, hbl⟩ := hL
    have hbd := hbl.drew
    have k1 : w2.drew.cell? ⟨w.heap.size, 1, none⟩ = some (.int .i64 (j : Int)) := by rw [blk_cell hbd.blk]; rfl
    have H2 := Aside0.mk (And.intro hbd hb.drew)
    have HC : Aside0 (Calls Tryd.prog 25 #[.pointer (some ⟨w.heap.size, 2, none⟩)] w2.drew fun e w3 => e = .returned (.string (strOfNums p)) ∧ w3.cell? ⟨w.heap.size, 1, none⟩ = some (.int .i64 (j : Int)) ∧ Below w.heap.size w w3) := ⟨(string_calls w2.drew hbd (by omega) hby).mono fun e w3 ⟨he, hk3⟩ => ⟨he, by
      have hg3 := (hk3 (w.heap.size + 1)).oth _ _ H2.out.1.blk (by omega) (fun _ _ e => by cases e)
      rw [blk_cell hg3]; rfl, (hk3 w.heap.size).under H2.out.2 (Nat.le_refl _) (Nat.le_refl _)⟩⟩
    clear hbl hbd hb hby
    go_wp2_with fail
    go_region_with (go_at_call 25; refine HC.out.mono ?_; rintro e w3 ⟨rfl, k3, hb3⟩)
    all_goals go_wp2_with fail
    all_goals (go_ret3; exact ⟨by rw [HE.out.1, HE.out.2.1, HE.out.2.2]; rfl, HOk.out.next (by assumption)⟩)
  · have HE : Aside0 (unqT s = ⟨#[]⟩ ∧ unqN s = 0 ∧ unqE s = some c) := ⟨by unfold unqT; rw [hu], by unfold unqN; rw [hu], by unfold unqE; rw [hu]⟩
    have H2 := Aside0.mk (And.intro hF hb)
    clear hu hF hb
    go_wp2_with (go_at_call 24; refine (code_flt k c ⟨#[]⟩ _ H2.out.1).mono ?_; rintro e w3 ⟨rfl, rfl⟩)
    go_ret3
    exact ⟨by rw [HE.out.1, HE.out.2.1, HE.out.2.2]; rfl, HOk.out.next H2.out.2⟩
end
end Go.Proofs.YtojhbioljpamhaaDoor.My

/- UtfJoins, in plain Lean: what is unquoted is right; texts behind one another. -/
namespace Go.Proofs.YtojhbioljpamhaaDoor.My
open Go.RowKit Go.Lib Go.Proofs.YtojhbioljpamhaaDoorW.PrintWords
set_option linter.unusedVariables false
set_option linter.unusedSimpArgs false

abbrev tb (xs : List Int) : List UInt8 := xs.map fun n => UInt8.ofNat n.toNat
theorem str_data (xs : List Int) : (strOfNums xs).data.toList = tb xs := rfl
theorem tb_nat (z : Int) (h0 : 0 ≤ z) (h1 : z < 256) : (UInt8.ofNat z.toNat).toNat = z.toNat := by
  rw [UInt8.toNat_ofNat']; exact Nat.mod_eq_of_lt (by omega)
theorem sgn_one (a : UInt8) (t : List UInt8) : sgn (a :: t) = decodeN (t.length + 1) a.toNat (t.getD 0 0).toNat (t.getD 1 0).toNat (t.getD 2 0).toNat := rfl
theorem sgn_two (a b : UInt8) (t : List UInt8) : sgn (a :: b :: t) = decodeN (t.length + 2) a.toNat b.toNat (t.getD 0 0).toNat (t.getD 1 0).toNat := rfl
theorem sgn_three (a b c : UInt8) (t : List UInt8) : sgn (a :: b :: c :: t) = decodeN (t.length + 3) a.toNat b.toNat c.toNat (t.getD 0 0).toNat := rfl
theorem sgn_four (a b c d : UInt8) (t : List UInt8) : sgn (a :: b :: c :: d :: t) = decodeN (t.length + 4) a.toNat b.toNat c.toNat d.toNat := rfl
/-- A sign's bytes are the sign's, whatever stands behind. -/
theorem enc_sgn (r : Int) (t : List UInt8) : good (tb (enc r) ++ t) ∧ (sgn (tb (enc r) ++ t)).2 = (tb (enc r)).length ∧
    ((0 ≤ r ∧ r < 55296) ∨ (57343 < r ∧ r ≤ 1114111) → ((sgn (tb (enc r) ++ t)).1 : Int) = r) := by
  by_cases h1 : 0 ≤ r ∧ r ≤ 127
  · rw [enc, encodeRuneZ_one h1.1 h1.2]
    have hs : sgn (tb [r] ++ t) = (r.toNat, 1) := by
      show sgn (UInt8.ofNat r.toNat :: t) = _
      rw [sgn_one, tb_nat r (by omega) (by omega), decodeN, if_pos (by omega)]
    unfold good
    rw [hs]
    refine ⟨?_, rfl, fun _ => ?_⟩
    · simp only; omega
    · simp only; omega
  by_cases h2 : 128 ≤ r ∧ r ≤ 2047
  · rw [enc, encodeRuneZ_two h2.1 h2.2]
    have hs : sgn (tb [192 + r / 64, 128 + r % 64] ++ t) = (r.toNat, 2) := by
      show sgn (UInt8.ofNat (192 + r / 64).toNat :: UInt8.ofNat (128 + r % 64).toNat :: t) = _
      rw [sgn_two, tb_nat (192 + r / 64) (by omega) (by omega), tb_nat (128 + r % 64) (by omega) (by omega)]
      unfold decodeN
      rw [if_neg (by omega), if_pos (by omega), if_pos (by omega)]
      congr 1; omega
    unfold good
    rw [hs]
    refine ⟨?_, rfl, fun _ => ?_⟩
    · simp only; omega
    · simp only; omega
  by_cases h3 : (2048 ≤ r ∧ r < 55296) ∨ (57343 < r ∧ r ≤ 65535)
  · rw [enc, encodeRuneZ_three h3]
    have hs : sgn (tb [224 + r / 4096, 128 + r / 64 % 64, 128 + r % 64] ++ t) = (r.toNat, 3) := by
      show sgn (UInt8.ofNat (224 + r / 4096).toNat :: UInt8.ofNat (128 + r / 64 % 64).toNat :: UInt8.ofNat (128 + r % 64).toNat :: t) = _
      rw [sgn_three, tb_nat (224 + r / 4096) (by omega) (by omega), tb_nat (128 + r / 64 % 64) (by omega) (by omega), tb_nat (128 + r % 64) (by omega) (by omega)]
      have e : ∀ m : Nat, (224 + r / 4096).toNat % 16 * 4096 + (128 + r / 64 % 64).toNat % 64 * 64 + (128 + r % 64).toNat % 64 = r.toNat := fun _ => by omega
      unfold decodeN
      rw [if_neg (by omega), if_neg (by omega), if_pos (by omega), e 0, if_pos (by omega)]
    unfold good
    rw [hs]
    refine ⟨?_, rfl, fun _ => ?_⟩
    · simp only; omega
    · simp only; omega
  by_cases h4 : 65536 ≤ r ∧ r ≤ 1114111
  · rw [enc, encodeRuneZ_four h4.1 h4.2]
    have hs : sgn (tb [240 + r / 262144, 128 + r / 4096 % 64, 128 + r / 64 % 64, 128 + r % 64] ++ t) = (r.toNat, 4) := by
      show sgn (UInt8.ofNat (240 + r / 262144).toNat :: UInt8.ofNat (128 + r / 4096 % 64).toNat :: UInt8.ofNat (128 + r / 64 % 64).toNat :: UInt8.ofNat (128 + r % 64).toNat :: t) = _
      rw [sgn_four, tb_nat (240 + r / 262144) (by omega) (by omega), tb_nat (128 + r / 4096 % 64) (by omega) (by omega), tb_nat (128 + r / 64 % 64) (by omega) (by omega), tb_nat (128 + r % 64) (by omega) (by omega)]
      have e : ∀ m : Nat, (240 + r / 262144).toNat % 8 * 262144 + (128 + r / 4096 % 64).toNat % 64 * 4096 + (128 + r / 64 % 64).toNat % 64 * 64 + (128 + r % 64).toNat % 64 = r.toNat := fun _ => by omega
      unfold decodeN
      rw [if_neg (by omega), if_neg (by omega), if_neg (by omega), if_pos (by omega), e 0, if_pos (by omega)]
    unfold good
    rw [hs]
    refine ⟨?_, rfl, fun _ => ?_⟩
    · simp only; omega
    · simp only; omega
  · rw [enc, encodeRuneZ_bad (by omega)]
    have hs : sgn (tb [239, 191, 189] ++ t) = (65533, 3) := by
      show sgn (239 :: 191 :: 189 :: t) = _
      rw [sgn_three]
      unfold decodeN
      rw [if_neg (by decide), if_neg (by rintro ⟨h, _⟩; exact absurd h (by decide)), if_pos ⟨by decide, ⟨by omega, by decide⟩, by omega, by decide⟩, if_pos ⟨by decide, by decide⟩]
      rfl
    unfold good
    rw [hs]
    exact ⟨fun h => absurd h.2 (by decide), rfl, fun h => by omega⟩
theorem V_enc (r : Int) : V (tb (enc r)) := by
  obtain ⟨h1, h2, _⟩ := enc_sgn r []
  rw [List.append_nil] at h1 h2
  have hl := (Lib.encodeRuneZ_length r).1
  refine V.cons _ ?_ h1 ?_
  · intro e
    have := congrArg List.length e
    rw [List.length_map] at this
    have h3 : (Lib.encodeRuneZ r).length = 0 := this
    omega
  · rw [h2, List.drop_length]; exact V.nil
theorem tb_app (a b : List Int) : tb (a ++ b) = tb a ++ tb b := List.map_append
theorem escR_V {s : ByteArray} {i j : Nat} {p : List Int} (h : escR s i = .ok (p, j)) : V (tb p) := by
  unfold escR at h
  split at h
  · split at h
    · split at h
      · cases h
      · cases h; exact V_enc _
    · split at h
      · cases h
      · cases h
        have key : ∀ n : Nat, 0 ≤ sgL.getD n 0 ∧ sgL.getD n 0 < 128 := by
          intro n
          by_cases hn : n < 8
          · have : ∀ n : Fin 8, 0 ≤ sgL.getD n.1 0 ∧ sgL.getD n.1 0 < 128 := by decide
            exact this ⟨n, hn⟩
          · rw [List.getD_eq_getElem?_getD, List.getElem?_eq_none (by simp [sgL]; omega)]
            decide
        have hk := key (shI (byteI s i (by assumption))).toNat
        refine V_ascii ?_ V.nil
        rw [tb_nat _ hk.1 (by omega)]
        omega
  · cases h
theorem signR_V {s : ByteArray} {i j : Nat} {p : List Int} (hi : i < s.size) (h : signR s i = .ok (p, j)) : V (tb p) := by
  unfold signR at h
  split at h
  · split at h <;> cases h
  · rename_i hb
    cases h
    rw [← enc_at s i hi hb]
    exact V_enc _
theorem readF_V {s : ByteArray} : ∀ {f i j : Nat} {out p : List Int}, V (tb out) → readF s f i out = .ok (p, j) → V (tb p)
  | 0, i, j, out, p, ho, h => by cases h
  | f + 1, i, j, out, p, ho, h => by
    rw [readF] at h
    split at h
    · rename_i hi
      split at h
      · cases h; exact ho
      · split at h
        · split at h
          · cases h
          · rename_i q j' he
            exact readF_V (by rw [tb_app]; exact V_app ho (escR_V he)) h
        · split at h
          · cases h
          · split at h
            · cases h
            · rename_i q j' he
              exact readF_V (by rw [tb_app]; exact V_app ho (signR_V hi he)) h
    · cases h
theorem unqR_V {s : ByteArray} {j : Nat} {p : List Int} (h : unqR s = .ok (p, j)) : badU (strOfNums p) < 0 := by
  rw [badU_V, str_data]
  unfold unqR at h
  split at h
  · split at h
    · exact readF_V (out := []) V.nil h
    · cases h
  · cases h
/-! ### where it ends -/
theorem figR_place {s : ByteArray} {wrong : Int} : ∀ {n i : Nat} {x y : Int}, i ≤ s.size → figR s wrong n i x = .ok y → i + n ≤ s.size
  | 0, i, x, y, hi, h => hi
  | n + 1, i, x, y, hi, h => by
    rw [figR] at h
    split at h
    · split at h
      · cases h
      · have := figR_place (by omega) h
        omega
    · cases h
theorem lowR_place {s : ByteArray} {i j : Nat} {x y : Int} (h : lowR s i x = .ok (y, j)) : i < j ∧ j ≤ s.size := by
  unfold lowR at h
  split at h
  · split at h
    · cases h
    · split at h
      · split at h
        · cases h
        · split at h
          · cases h
          · rename_i h0 _ h1 _ z hz
            have := figR_place (by omega) hz
            split at h
            · cases h; omega
            · cases h
      · cases h
  · cases h
theorem uniR_place {s : ByteArray} {i j : Nat} {x : Int} (hi : i ≤ s.size) (h : uniR s i = .ok (x, j)) : i < j ∧ j ≤ s.size := by
  unfold uniR at h
  split at h
  · cases h
  · rename_i y hy
    have := figR_place hi hy
    split at h
    · cases h; omega
    · split at h
      · cases h
      · have := lowR_place h
        omega
theorem escR_place {s : ByteArray} {i j : Nat} {p : List Int} (h : escR s i = .ok (p, j)) : i < j ∧ j ≤ s.size := by
  unfold escR at h
  split at h
  · split at h
    · split at h
      · cases h
      · rename_i x j' hx
        have := uniR_place (by omega) hx
        cases h; omega
    · split at h
      · cases h
      · cases h; omega
  · cases h
theorem signR_place {s : ByteArray} {i j : Nat} {p : List Int} (hi : i < s.size) (h : signR s i = .ok (p, j)) : i < j ∧ j ≤ s.size := by
  unfold signR at h
  split at h
  · split at h <;> cases h
  · rename_i hb
    have := width_in s i hi hb
    cases h; omega
theorem readF_place {s : ByteArray} : ∀ {f i j : Nat} {out p : List Int}, out.length ≤ 4 * i → readF s f i out = .ok (p, j) → i < j ∧ j ≤ s.size ∧ p.length ≤ 4 * j
  | 0, i, j, out, p, ho, h => by cases h
  | f + 1, i, j, out, p, ho, h => by
    rw [readF] at h
    split at h
    · rename_i hi
      split at h
      · cases h; omega
      · split at h
        · split at h
          · cases h
          · rename_i q j' he
            have h1 := escR_place he
            have h2 := escR_len he
            have := readF_place (by rw [List.length_append]; omega) h
            omega
        · split at h
          · cases h
          · split at h
            · cases h
            · rename_i q j' he
              have h1 := signR_place hi he
              have h2 := signR_len hi he
              have := readF_place (by rw [List.length_append]; omega) h
              omega
    · cases h
theorem str_size (xs : List Int) : (strOfNums xs).size = xs.length := by
  rw [← data_length, str_data, List.length_map]
theorem unqR_len {s : ByteArray} {j : Nat} {p : List Int} (hs : s.size ≤ 3000) (h : unqR s = .ok (p, j)) : (2 : Int) ≤ (j : Int) ∧ (j : Int) ≤ s.size ∧ (strOfNums p).size ≤ 100000 := by
  rw [str_size]
  unfold unqR at h
  split at h
  · split at h
    · have := readF_place (out := []) (by simp) h
      omega
    · cases h
  · cases h
/-! ### texts behind one another -/
theorem badF_lt (s : ByteArray) : ∀ f i, badF s f i < s.size
  | 0, i => by rw [badF]; omega
  | f + 1, i => by
    rw [badF]
    split
    · split
      · omega
      · exact badF_lt s f _
    · omega
theorem badF_shift (s t : ByteArray) : ∀ (f p q : Nat), s.data.toList.drop p = t.data.toList.drop q → p ≤ s.size → q ≤ t.size → badF s f p = if badF t f q < 0 then -1 else badF t f q - q + p
  | 0, p, q, h, hp, hq => by rw [badF, badF, if_pos (by decide)]
  | f + 1, p, q, h, hp, hq => by
    have hls : s.data.toList.length = s.size := by rw [Array.length_toList]; rfl
    have hlt : t.data.toList.length = t.size := by rw [Array.length_toList]; rfl
    have hl := congrArg List.length h
    rw [List.length_drop, List.length_drop, hls, hlt] at hl
    have hd : Utf8.decode s p = Utf8.decode t q := by rw [sgn_at, sgn_at, h]
    by_cases hps : p < s.size
    · have hqt : q < t.size := by omega
      by_cases hb : (Utf8.decode t q).1 = 65533 ∧ (Utf8.decode t q).2 = 1
      · rw [badF_hit s f p hps (by rw [hd]; exact hb.1) (by rw [hd]; exact hb.2), badF_hit t f q hqt hb.1 hb.2, if_neg (by omega)]
        omega
      · have hw := width_in t q hqt hb
        rw [badF_on s f p hps (by rw [hd]; exact hb), badF_on t f q hqt hb, hd, badF_shift s t f (p + (Utf8.decode t q).2) (q + (Utf8.decode t q).2) (by rw [← List.drop_drop, ← List.drop_drop, h]) (by omega) (by omega)]
        split
        · rfl
        · omega
    · rw [badF_end s _ p hps, badF_end t _ q (by omega), if_pos (by omega)]
theorem badF_behind (s b : ByteArray) : ∀ (n : Nat) (l : List UInt8) (f p : Nat), l.length ≤ n → V l → s.data.toList.drop p = l ++ b.data.toList → p ≤ s.size → s.size ≤ p + f →
    badF s f p = if badU b < 0 then -1 else (p : Int) + l.length + badU b
  | n, [], f, p, hn, hv, hd, hp, hf => by
    have hls : s.data.toList.length = s.size := by rw [Array.length_toList]; rfl
    have hlb : b.data.toList.length = b.size := by rw [Array.length_toList]; rfl
    have hl := congrArg List.length hd
    rw [List.length_drop, List.nil_append, hls, hlb] at hl
    rw [badF_shift s b f p 0 (by rw [hd]; rfl) hp (Nat.zero_le _), badF_more b b.size 0 (by omega) f (by omega)]
    show (if badU b < 0 then (-1 : Int) else badU b - ((0 : Nat) : Int) + p) = _
    split
    · rfl
    · simp; omega
  | 0, c :: l, f, p, hn, hv, hd, hp, hf => by simp at hn
  | n + 1, c :: l, f, p, hn, hv, hd, hp, hf => by
    have hls : s.data.toList.length = s.size := by rw [Array.length_toList]; rfl
    have hne : c :: l ≠ [] := by simp
    obtain ⟨hg, h2⟩ := V_inv hv hne
    obtain ⟨w1, w2, w3⟩ := sgn_good hne hg
    have hl := congrArg List.length hd
    rw [List.length_drop, hls, List.length_append] at hl
    have hps : p < s.size := by rw [List.length_cons] at hl; omega
    have hdec : Utf8.decode s p = sgn (c :: l) := by rw [sgn_at, hd, sgn_app _ hne hg]
    obtain ⟨f, rfl⟩ : ∃ e, f = e + 1 := ⟨f - 1, by omega⟩
    rw [badF_on s f p hps (by rw [hdec]; exact hg), hdec,
      badF_behind s b n ((c :: l).drop (sgn (c :: l)).2) f (p + (sgn (c :: l)).2) (by rw [List.length_drop]; omega) h2 (by rw [← List.drop_drop, hd, List.drop_append_of_le_length w2]) (by omega) (by omega)]
    split
    · rfl
    · rw [List.length_drop]; omega
theorem badU_app (a b : ByteArray) (ha : badU a < 0) : badU (a ++ b) = if badU b < 0 then -1 else (a.size : Int) + badU b := by
  have hla : a.data.toList.length = a.size := by rw [Array.length_toList]; rfl
  have := badF_behind (a ++ b) b a.size a.data.toList (a ++ b).size 0 (by omega) ((badU_V a).1 ha) (by rw [List.drop_zero, ByteArray.data_append, Array.toList_append]) (Nat.zero_le _) (by omega)
  rw [hla] at this
  show badF _ _ _ = _
  rw [this]
  split
  · rfl
  · omega
end Go.Proofs.YtojhbioljpamhaaDoor.My

/- UtfBack, in plain Lean: what is quoted is unquoted. -/
namespace Go.Proofs.YtojhbioljpamhaaDoor.My
open Go.RowKit Go.Lib Go.Proofs.YtojhbioljpamhaaDoorW.PrintWords
set_option linter.unusedVariables false
set_option linter.unusedSimpArgs false

theorem at_cons {t : ByteArray} {i : Nat} {x : Int} {l : List UInt8} (hd : t.data.toList.drop i = UInt8.ofNat x.toNat :: l) (h0 : 0 ≤ x) (h1 : x < 256) :
    ∃ h : i < t.size, byteI t i h = x ∧ t.data.toList.drop (i + 1) = l := by
  have hl : t.data.toList.length = t.size := by rw [Array.length_toList]; rfl
  have hlt : i < t.size := by
    have := congrArg List.length hd
    rw [List.length_drop, hl, List.length_cons] at this
    omega
  refine ⟨hlt, ?_, ?_⟩
  · have h2 : t.data.toList[i]? = some (UInt8.ofNat x.toNat) := by
      have := congrArg (fun l => l[0]?) hd
      simpa [List.getElem?_drop] using this
    have h3 : t.data.toList[i]? = some (t[i]'hlt) := by
      rw [List.getElem?_eq_getElem (by omega)]; rfl
    rw [h3] at h2
    have h4 : t[i]'hlt = UInt8.ofNat x.toNat := Option.some.inj h2
    show (((t[i]'hlt).toNat : Nat) : Int) = x
    rw [h4, tb_nat x h0 h1]
    omega
  · rw [← List.drop_drop, hd]; rfl
theorem hexV_fig (a : Int) (h0 : 0 ≤ a) (h1 : a < 16) : hexV (fig a) = a ∧ 0 ≤ fig a ∧ fig a < 256 := by
  unfold hexV fig
  split
  · rw [if_pos (by omega)]; omega
  · rw [if_neg (by omega), if_pos (by omega)]; omega
theorem figR_fig {t : ByteArray} {wrong : Int} {n i : Nat} {x a : Int} {l : List UInt8} (hd : t.data.toList.drop i = UInt8.ofNat (fig a).toNat :: l) (h0 : 0 ≤ a) (h1 : a < 16) :
    figR t wrong (n + 1) i x = figR t wrong n (i + 1) (x * 16 + a) ∧ t.data.toList.drop (i + 1) = l := by
  obtain ⟨k0, k1, k2⟩ := hexV_fig a h0 h1
  obtain ⟨h, e, hd2⟩ := at_cons hd k1 k2
  refine ⟨?_, hd2⟩
  rw [figR, dif_pos h, e, k0, if_neg (by omega)]
theorem figR_four {t : ByteArray} {wrong : Int} {i : Nat} {x : Int} {l : List UInt8} (h0 : 0 ≤ x) (h1 : x < 65536)
    (hd : t.data.toList.drop i = tb [fig (x / 4096 % 16), fig (x / 256 % 16), fig (x / 16 % 16), fig (x % 16)] ++ l) : figR t wrong 4 i 0 = .ok x ∧ t.data.toList.drop (i + 4) = l := by
  obtain ⟨e1, d1⟩ := figR_fig (wrong := wrong) (n := 3) (x := 0) hd (by omega) (by omega)
  obtain ⟨e2, d2⟩ := figR_fig (wrong := wrong) (n := 2) (x := 0 * 16 + x / 4096 % 16) d1 (by omega) (by omega)
  obtain ⟨e3, d3⟩ := figR_fig (wrong := wrong) (n := 1) (x := (0 * 16 + x / 4096 % 16) * 16 + x / 256 % 16) d2 (by omega) (by omega)
  obtain ⟨e4, d4⟩ := figR_fig (wrong := wrong) (n := 0) (x := ((0 * 16 + x / 4096 % 16) * 16 + x / 256 % 16) * 16 + x / 16 % 16) d3 (by omega) (by omega)
  refine ⟨?_, d4⟩
  rw [e1, e2, e3, e4, figR]
  congr 1
  omega
theorem sh_plain (i : Int) (h0 : 0 ≤ i) (h1 : i < 8) : shI (plainL.getD i.toNat 0) = i ∧ plainL.getD i.toNat 0 ≠ 117 ∧ 0 ≤ plainL.getD i.toNat 0 ∧ plainL.getD i.toNat 0 < 128 := by
  have key : ∀ i : Fin 8, shI (plainL.getD i.1 0) = i.1 ∧ plainL.getD i.1 0 ≠ 117 ∧ 0 ≤ plainL.getD i.1 0 ∧ plainL.getD i.1 0 < 128 := by decide +kernel
  have := key ⟨i.toNat, by omega⟩
  refine ⟨?_, this.2⟩
  rw [this.1]
  show ((i.toNat : Nat) : Int) = i
  omega
theorem sg_idx (r : Int) (h : 0 ≤ idxS r) : sgL.getD (idxS r).toNat 0 = r ∧ 0 ≤ r ∧ r < 128 := by
  unfold idxS at h ⊢
  repeat' split
  all_goals first | (subst_vars; decide) | omega
theorem idx_47 : idxS 47 = 2 := rfl
theorem raw_first (r : Int) (h0 : 0 ≤ r) (h1 : r ≤ 1114111) : ∃ c l, enc r = c :: l ∧ (c = r ∨ (128 ≤ r ∧ 128 ≤ c)) ∧ 0 ≤ c ∧ c < 256 := by
  by_cases k1 : r ≤ 127
  · exact ⟨r, [], encodeRuneZ_one h0 k1, .inl rfl, h0, by omega⟩
  by_cases k2 : r ≤ 2047
  · exact ⟨_, _, encodeRuneZ_two (by omega) k2, .inr ⟨by omega, by omega⟩, by omega, by omega⟩
  by_cases k3 : (2048 ≤ r ∧ r < 55296) ∨ (57343 < r ∧ r ≤ 65535)
  · exact ⟨_, _, encodeRuneZ_three k3, .inr ⟨by omega, by omega⟩, by omega, by omega⟩
  by_cases k4 : 65536 ≤ r
  · exact ⟨_, _, encodeRuneZ_four k4 h1, .inr ⟨by omega, by omega⟩, by omega, by omega⟩
  · exact ⟨_, _, encodeRuneZ_bad (by omega), .inr ⟨by omega, by omega⟩, by omega, by omega⟩
/-- A piece is read. -/
theorem piece_read (t : ByteArray) (e r : Int) (hv : (0 ≤ r ∧ r < 55296) ∨ (57343 < r ∧ r ≤ 1114111)) (f i : Nat) (out : List Int) (l : List UInt8) (hd : t.data.toList.drop i = tb (piece e r) ++ l) :
    readF t (f + 1) i out = readF t f (i + (piece e r).length) (out ++ enc r) ∧ t.data.toList.drop (i + (piece e r).length) = l := by
  have hdrop : t.data.toList.drop (i + (piece e r).length) = l := by
    rw [← List.drop_drop, hd, List.drop_append_of_le_length (by rw [List.length_map]; exact Nat.le_refl _), List.drop_eq_nil_of_le (by rw [List.length_map]; exact Nat.le_refl _)]
    rfl
  refine ⟨?_, hdrop⟩
  clear hdrop
  have hidx := idxS_range r
  unfold piece at hd ⊢
  by_cases hA : r = 47 ∨ (idxS r < 0 ∧ 32 ≤ r ∧ r < e)
  · rw [if_pos hA] at hd ⊢
    obtain ⟨c, rest, he, hc, c0, c1⟩ := raw_first r (by omega) (by omega)
    have hd1 : t.data.toList.drop i = UInt8.ofNat c.toNat :: (tb rest ++ l) := by rw [hd, he]; rfl
    obtain ⟨hlt, hb, _⟩ := at_cons hd1 c0 c1
    have n34 : r ≠ 34 := by rintro rfl; rcases hA with h | h; · omega
                            · exact absurd h.1 (by decide)
    have n92 : r ≠ 92 := by rintro rfl; rcases hA with h | h; · omega
                            · exact absurd h.1 (by decide)
    have hs : Utf8.decode t i = sgn (tb (enc r) ++ l) := by rw [sgn_at, hd]
    obtain ⟨g1, g2, g3⟩ := enc_sgn r l
    have hg : ¬ ((Utf8.decode t i).1 = 65533 ∧ (Utf8.decode t i).2 = 1) := by rw [hs]; exact g1
    have hr : ((Utf8.decode t i).1 : Int) = r := by rw [hs]; exact g3 hv
    have hw : (Utf8.decode t i).2 = (enc r).length := by rw [hs, g2, List.length_map]
    have hsign : signR t i = .ok (enc r, i + (enc r).length) := by
      rw [signR, if_neg hg, ← enc_at t i hlt hg, hr, hw]
    rw [readF, dif_pos hlt, hb, if_neg (by omega), if_neg (by omega), if_neg (by omega), hsign]
  · rw [if_neg hA] at hd ⊢
    by_cases hB : 0 ≤ idxS r
    · rw [if_pos hB] at hd ⊢
      obtain ⟨p1, p2, p3, p4⟩ := sh_plain (idxS r) hB hidx.2
      obtain ⟨q1, q2, q3⟩ := sg_idx r hB
      have hd1 : t.data.toList.drop i = UInt8.ofNat (92 : Int).toNat :: (UInt8.ofNat (plainL.getD (idxS r).toNat 0).toNat :: l) := hd
      obtain ⟨hlt, hb, hd2⟩ := at_cons hd1 (by decide) (by decide)
      obtain ⟨hlt2, hb2, _⟩ := at_cons hd2 p3 (by omega)
      have hesc : escR t (i + 1) = .ok ([r], i + 2) := by
        rw [escR, dif_pos hlt2, hb2, if_neg p2, p1, if_neg (by omega), q1]
      rw [readF, dif_pos hlt, hb, if_neg (by decide), if_pos rfl, hesc, enc, encodeRuneZ_one q2 (by omega)]
      rfl
    · rw [if_neg hB] at hd ⊢
      by_cases hC : 65536 ≤ r
      · rw [if_pos hC] at hd ⊢
        obtain ⟨a, ha⟩ : ∃ a, a = 55296 + (r - 65536) / 1024 := ⟨_, rfl⟩
        obtain ⟨b, hb⟩ : ∃ b, b = 56320 + (r - 65536) % 1024 := ⟨_, rfl⟩
        rw [← ha, ← hb] at hd ⊢
        have hd1 : t.data.toList.drop i = UInt8.ofNat (92 : Int).toNat :: (UInt8.ofNat (117 : Int).toNat :: (tb [fig (a / 4096 % 16), fig (a / 256 % 16), fig (a / 16 % 16), fig (a % 16)] ++ (tb (fourB b) ++ l))) := by rw [hd, tb_app, List.append_assoc]; rfl
        obtain ⟨hlt, hb1, hd2⟩ := at_cons hd1 (by decide) (by decide)
        obtain ⟨hlt2, hb2, hd3⟩ := at_cons hd2 (by decide) (by decide)
        obtain ⟨e1, hd4⟩ := figR_four (wrong := 2) (x := a) (by omega) (by omega) hd3
        have hd5 : t.data.toList.drop (i + 1 + 1 + 4) = UInt8.ofNat (92 : Int).toNat :: (UInt8.ofNat (117 : Int).toNat :: (tb [fig (b / 4096 % 16), fig (b / 256 % 16), fig (b / 16 % 16), fig (b % 16)] ++ l)) := hd4
        obtain ⟨hlt6, hb6, hd6⟩ := at_cons hd5 (by decide) (by decide)
        obtain ⟨hlt7, hb7, hd7⟩ := at_cons hd6 (by decide) (by decide)
        obtain ⟨e2, _⟩ := figR_four (wrong := 9) (x := b) (by omega) (by omega) hd7
        have hlow : lowR t (i + 1 + 1 + 4) a = .ok (r, i + 1 + 1 + 4 + 6) := by
          rw [lowR, dif_pos hlt6, hb6, if_neg (by decide), dif_pos hlt7, hb7, if_neg (by decide), show i + 1 + 1 + 4 + 2 = i + 1 + 1 + 4 + 1 + 1 from rfl, e2]
          simp only
          rw [if_pos (by omega)]
          congr 2
          omega
        have hesc : escR t (i + 1) = .ok (enc r, i + 12) := by
          rw [escR, dif_pos hlt2, hb2, if_pos rfl, uniR, e1]
          simp only
          rw [if_neg (by omega), if_neg (by omega), hlow]
        rw [readF, dif_pos hlt, hb1, if_neg (by decide), if_pos rfl, hesc]
        rfl
      · rw [if_neg hC] at hd ⊢
        have hd1 : t.data.toList.drop i = UInt8.ofNat (92 : Int).toNat :: (UInt8.ofNat (117 : Int).toNat :: (tb [fig (r / 4096 % 16), fig (r / 256 % 16), fig (r / 16 % 16), fig (r % 16)] ++ l)) := by rw [hd]; rfl
        obtain ⟨hlt, hb1, hd2⟩ := at_cons hd1 (by decide) (by decide)
        obtain ⟨hlt2, hb2, hd3⟩ := at_cons hd2 (by decide) (by decide)
        obtain ⟨e1, hd4⟩ := figR_four (wrong := 2) (x := r) (by omega) (by omega) hd3
        have hesc : escR t (i + 1) = .ok (enc r, i + 6) := by
          rw [escR, dif_pos hlt2, hb2, if_pos rfl, uniR, e1]
          simp only
          rw [if_pos (by omega)]
        rw [readF, dif_pos hlt, hb1, if_neg (by decide), if_pos rfl, hesc]
        rfl
theorem outF_read (s t : ByteArray) (e : Int) (l : List UInt8) : ∀ (f pos F i : Nat) (out : List Int), s.size ≤ pos + f → badF s f pos < 0 → t.data.toList.drop i = tb (outF s e f pos) ++ UInt8.ofNat (34 : Int).toNat :: l → f + 1 ≤ F →
    readF t F i out = .ok (out ++ (s.data.toList.drop pos).map (fun b => (b.toNat : Int)), i + (outF s e f pos).length + 1)
  | f, pos, F, i, out, hf, hb, hd, hF => by
    have hls : s.data.toList.length = s.size := by rw [Array.length_toList]; rfl
    obtain ⟨F, rfl⟩ : ∃ q, F = q + 1 := ⟨F - 1, by omega⟩
    by_cases hp : pos < s.size
    · obtain ⟨f, rfl⟩ : ∃ q, f = q + 1 := ⟨f - 1, by omega⟩
      have hg : ¬ ((Utf8.decode s pos).1 = 65533 ∧ (Utf8.decode s pos).2 = 1) := by
        intro hx
        rw [badF_hit s f pos hp hx.1 hx.2] at hb
        omega
      rw [badF_on s f pos hp hg] at hb
      have hw := width_in s pos hp hg
      have hr := decode_rune s pos hp hg
      rw [outF, if_pos hp] at hd ⊢
      rw [tb_app, List.append_assoc] at hd
      obtain ⟨h1, h2⟩ := piece_read t e ((Utf8.decode s pos).1 : Int) (by omega) F i out _ hd
      rw [h1, outF_read s t e l f (pos + (Utf8.decode s pos).2) F _ _ (by omega) hb h2 (by omega), enc_at s pos hp hg, List.append_assoc, List.length_append]
      congr 2
      · congr 1
        rw [bytesOf, ByteArray.data_extract, Array.toList_extract, List.extract_eq_take_drop, ← List.map_append, show pos + (Utf8.decode s pos).2 - pos = (Utf8.decode s pos).2 by omega, ← List.drop_drop, List.take_append_drop]
      · omega
    · rw [outF_end s e f pos hp] at hd ⊢
      obtain ⟨hlt, hb1, _⟩ := at_cons (show t.data.toList.drop i = UInt8.ofNat (34 : Int).toNat :: l from hd) (by decide) (by decide)
      rw [readF, dif_pos hlt, hb1, if_pos rfl, List.drop_eq_nil_of_le (by omega)]
      simp
theorem piece_ge (e r : Int) : (enc r).length ≤ (piece e r).length := by
  have h4 := enc_le r
  unfold piece
  split
  · exact Nat.le_refl _
  · split
    · rename_i h
      obtain ⟨_, q2, q3⟩ := sg_idx r h
      rw [enc, encodeRuneZ_one q2 (by omega)]
      simp
    · split
      · rw [List.length_append]
        have : (fourB (55296 + (r - 65536) / 1024)).length = 6 := rfl
        omega
      · have : (fourB r).length = 6 := rfl
        omega
theorem outF_ge (s : ByteArray) (e : Int) : ∀ f pos, s.size ≤ pos + f → badF s f pos < 0 → s.size - pos ≤ (outF s e f pos).length
  | 0, pos, hf, hb => by omega
  | f + 1, pos, hf, hb => by
    by_cases hp : pos < s.size
    · have hg : ¬ ((Utf8.decode s pos).1 = 65533 ∧ (Utf8.decode s pos).2 = 1) := by
        intro hx
        rw [badF_hit s f pos hp hx.1 hx.2] at hb
        omega
      rw [badF_on s f pos hp hg] at hb
      have hw := width_in s pos hp hg
      have h1 := outF_ge s e f (pos + (Utf8.decode s pos).2) (by omega) hb
      have h2 := piece_ge e ((Utf8.decode s pos).1 : Int)
      have h3 := congrArg List.length (enc_at s pos hp hg)
      rw [bytesOf_length, ByteArray.size_extract] at h3
      rw [outF, if_pos hp, List.length_append]
      omega
    · omega
/-- A narrow literal's bytes. -/
theorem fig_narrow (n : Int) (h0 : 0 ≤ n) (h1 : n < 16) : 32 ≤ fig n ∧ fig n ≤ 126 := by
  unfold fig
  split <;> omega
theorem fourB_narrow (r : Int) : ∀ x ∈ fourB r, 32 ≤ x ∧ x ≤ 126 := by
  intro x hx
  simp only [fourB, List.mem_cons, List.not_mem_nil, or_false] at hx
  rcases hx with rfl | rfl | rfl | rfl | rfl | rfl
  · omega
  · omega
  all_goals exact fig_narrow _ (by omega) (by omega)
theorem piece_narrow (r : Int) : ∀ x ∈ piece 127 r, 32 ≤ x ∧ x ≤ 126 := by
  intro x hx
  unfold piece at hx
  split at hx
  · rename_i h
    rw [enc, encodeRuneZ_one (by omega) (by omega), List.mem_singleton] at hx
    omega
  · split at hx
    · rename_i h
      have hr := idxS_range r
      have key : ∀ i : Fin 8, 32 ≤ plainL.getD i.1 0 ∧ plainL.getD i.1 0 ≤ 126 := by decide +kernel
      have hk := key ⟨(idxS r).toNat, by omega⟩
      simp only [List.mem_cons, List.not_mem_nil, or_false] at hx
      rcases hx with rfl | rfl
      · omega
      · exact hk
    · split at hx
      · rcases List.mem_append.1 hx with hx | hx
        · exact fourB_narrow _ x hx
        · exact fourB_narrow _ x hx
      · exact fourB_narrow _ x hx
theorem outF_narrow (s : ByteArray) : ∀ f p, ∀ x ∈ outF s 127 f p, 32 ≤ x ∧ x ≤ 126
  | 0, p => by intro x hx; rw [outF] at hx; cases hx
  | f + 1, p => by
    intro x hx
    rw [outF] at hx
    split at hx
    · rcases List.mem_append.1 hx with hx | hx
      · exact piece_narrow _ x hx
      · exact outF_narrow s f _ x hx
    · cases hx
theorem quoL_narrow (s : ByteArray) : ∀ x ∈ quoL s 127, 32 ≤ x ∧ x ≤ 126 := by
  intro x hx
  rcases List.mem_append.1 hx with hx | hx
  · rcases List.mem_append.1 hx with hx | hx
    · rw [List.mem_singleton.1 hx]; omega
    · exact outF_narrow _ _ _ x hx
  · rw [List.mem_singleton.1 hx]; omega
theorem piece_short (r : Int) : (piece 1114112 r).length ≤ (piece 127 r).length := by
  have h4 := enc_le r
  have h5 := piece_ge 127 r
  unfold piece at h5 ⊢
  by_cases hA : r = 47 ∨ (idxS r < 0 ∧ 32 ≤ r ∧ r < 1114112)
  · rw [if_pos hA]; exact h5
  · rw [if_neg hA, if_neg (show ¬ (r = 47 ∨ (idxS r < 0 ∧ 32 ≤ r ∧ r < 127)) by omega)]
    exact Nat.le_refl _
theorem outF_short (s : ByteArray) : ∀ f p, (outF s 1114112 f p).length ≤ (outF s 127 f p).length
  | 0, p => Nat.le_refl _
  | f + 1, p => by
    rw [outF, outF]
    split
    · have h1 := piece_short ((Utf8.decode s p).1 : Int)
      have h2 := outF_short s f (p + (Utf8.decode s p).2)
      rw [List.length_append, List.length_append]
      omega
    · exact Nat.le_refl _
theorem quoL_short (s : ByteArray) : (quoL s 1114112).length ≤ (quoL s 127).length := by
  have := outF_short s s.size 0
  rw [quoL, quoL]
  simp
  omega
theorem quoL_length (s : ByteArray) (e : Int) : (quoL s e).length ≤ 12 * s.size + 2 := by
  have := outF_length s e s.size 0
  rw [quoL]
  simp
  omega
theorem str_bytes (s : ByteArray) : strOfNums (bytesOf s) = s := by
  apply ByteArray.ext
  apply Array.ext'
  show tb (bytesOf s) = _
  rw [bytesOf, tb, List.map_map]
  refine (List.map_congr_left (g := id) ?_).trans (List.map_id _)
  intro x _
  simp
theorem quo_unq (s b : ByteArray) (e : Int) (h : badU s < 0) : unqR (strOfNums (quoL s e) ++ b) = .ok (bytesOf s, (quoL s e).length) := by
  obtain ⟨t, ht⟩ : ∃ t, t = strOfNums (quoL s e) ++ b := ⟨_, rfl⟩
  rw [← ht]
  have hl : t.data.toList = tb (quoL s e) ++ b.data.toList := by rw [ht, ByteArray.data_append, Array.toList_append]; rfl
  have hd0 : t.data.toList.drop 0 = UInt8.ofNat (34 : Int).toNat :: (tb (outF s e s.size 0) ++ UInt8.ofNat (34 : Int).toNat :: b.data.toList) := by
    rw [List.drop_zero, hl, quoL, tb_app, tb_app]
    simp
  obtain ⟨hlt, hb, hd1⟩ := at_cons hd0 (by decide) (by decide)
  have hsz : t.size = (quoL s e).length + b.size := by
    rw [← data_length, hl, List.length_append, List.length_map, data_length]
  have hpl := outF_ge s e s.size 0 (by omega) h
  have hql : (quoL s e).length = (outF s e s.size 0).length + 2 := by rw [quoL]; simp [Nat.add_comm]; try omega
  rw [unqR, dif_pos hlt, hb, if_pos rfl, outF_read s t e b.data.toList s.size 0 t.size 1 [] (by omega) h hd1 (by omega)]
  congr 2
  rw [quoL]
  simp
  omega
end Go.Proofs.YtojhbioljpamhaaDoor.My

/- UtfBack: the law's walk. -/
namespace Go.Proofs.YtojhbioljpamhaaDoor.My
open Go.RowKit Go.Lib Go.Proofs.YtojhbioljpamhaaDoorW.PrintWords Go.Proofs.YtojhbioljpamhaaDoorW.PrintLast Go.Proofs.YtojhbioljpamhaaDoorW.PrintMore
set_option maxRecDepth 100000
set_option linter.unusedVariables false
set_option linter.unusedSimpArgs false

theorem quo_back (s b : ByteArray) (e : Int) (h : badU s < 0) (hs : s.size ≤ 2000) (hb : b.size ≤ 200) (w0 w : World) (hw : Ok w0 w) :
    Calls Tryd.prog 15 #[.string (quoT s e ++ b)] w fun r w' => r = .returned (.tuple #[.string s, .int .i64 ((quoT s e).size : Int), .nilIface]) ∧ Ok w0 w' := by
  have hq : quoT s e = strOfNums (quoL s e) := by rw [quoT, if_pos h]
  have hl := quoL_length s e
  have := unquote_ok (quoT s e ++ b) w0 w hw (by rw [ByteArray.size_append, hq, str_size]; omega)
  unfold unqT unqN unqE at this
  rw [hq] at this ⊢
  rw [quo_unq s b e h] at this
  simp only [str_bytes] at this
  rw [str_size]
  exact this
theorem uback_ok (s b : ByteArray) (w0 w : World) (h : Ok w0 w) (hs : s.size ≤ 2000) (hb : b.size ≤ 200) :
    Calls Tryd.prog 5 #[.string s, .string b] w fun e w' => e = .returned (.bool true) ∧ Ok w0 w' := by
  have g1 : decide ((2000 : Int) < (s.size : Int)) = false := decide_eq_false (by omega)
  have g2 : decide ((200 : Int) < (b.size : Int)) = false := decide_eq_false (by omega)
  have HV : Aside0 (∀ w, Ok w0 w → Calls Tryd.prog 10 #[.string s] w fun e w' => e = .returned (.bool (decide (badU s < 0))) ∧ Ok w0 w') := ⟨fun w h => valid_ok s w0 w h (by omega)⟩
  have HQ : Aside0 (∀ w, Ok w0 w → Calls Tryd.prog 11 #[.string s] w fun e w' => e = .returned (.tuple #[.string (quoT s 1114112), errV (quoE s)]) ∧ Ok w0 w') := ⟨fun w h => Quote_ok s w0 w h (by omega)⟩
  have HN : Aside0 (∀ w, Ok w0 w → Calls Tryd.prog 12 #[.string s] w fun e w' => e = .returned (.tuple #[.string (quoT s 127), errV (quoE s)]) ∧ Ok w0 w') := ⟨fun w h => Narrow_ok s w0 w h (by omega)⟩
  by_cases hbad : badU s < 0
  · have e1 : quoE s = none := by rw [quoE, if_pos hbad]
    rw [e1] at HQ HN
    rw [decide_eq_true hbad] at HV
    rw [show errV none = .nilIface from rfl] at HQ HN
    have HU1 : Aside0 (∀ w, Ok w0 w → Calls Tryd.prog 15 #[.string (quoT s 1114112 ++ b)] w fun r w' => r = .returned (.tuple #[.string s, .int .i64 ((quoT s 1114112).size : Int), .nilIface]) ∧ Ok w0 w') := ⟨quo_back s b _ hbad hs hb w0⟩
    have HU2 : Aside0 (∀ w, Ok w0 w → Calls Tryd.prog 15 #[.string (quoT s 127 ++ b)] w fun r w' => r = .returned (.tuple #[.string s, .int .i64 ((quoT s 127).size : Int), .nilIface]) ∧ Ok w0 w') := ⟨quo_back s b _ hbad hs hb w0⟩
    have hq : ∀ e, quoT s e = strOfNums (quoL s e) := fun e => by rw [quoT, if_pos hbad]
    have hsh : (quoT s 1114112).size ≤ (quoT s 127).size := by rw [hq, hq, str_size, str_size]; exact quoL_short s
    have hsz : (quoT s 127).size ≤ 100000 := by rw [hq, str_size]; have := quoL_length s 127; omega
    have HC : Aside0 (∀ i (hi : i < (quoT s 127).size), 32 ≤ byteI (quoT s 127) i hi ∧ byteI (quoT s 127) i hi ≤ 126) := ⟨fun i hi => by
      have hd : (quoT s 127).data.toList = tb (quoL s 127) := by rw [hq]; rfl
      have hz : (quoT s 127).size = (quoL s 127).length := by rw [hq, str_size]
      have hx := quoL_narrow s ((quoL s 127)[i]'(by omega)) (List.getElem_mem _)
      have h1 : (quoT s 127).data.toList[i]? = some ((quoT s 127)[i]'hi) := by
        rw [List.getElem?_eq_getElem (by rw [Array.length_toList]; exact hi)]; rfl
      rw [hd, List.getElem?_map, List.getElem?_eq_getElem (by omega)] at h1
      have h2 : UInt8.ofNat ((quoL s 127)[i]'(by omega)).toNat = (quoT s 127)[i]'hi := Option.some.inj h1
      show 32 ≤ ((((quoT s 127)[i]'hi).toNat : Nat) : Int) ∧ ((((quoT s 127)[i]'hi).toNat : Nat) : Int) ≤ 126
      rw [← h2, tb_nat _ (by omega) (by omega)]
      omega⟩
    clear hq e1 hbad
    generalize quoT s 1114112 = q1 at *
    generalize quoT s 127 = q2 at *
    have a1 : (!s.toList == s.toList) = false := by simp
    have a2 : (s.toList == s.toList) = true := by simp
    have a3 : decide ((q2.size : Int) < (q1.size : Int)) = false := decide_eq_false (by omega)
    have p1 : (q1 ++ b).size ≤ 9223372036854775807 := by rw [ByteArray.size_append]; omega
    have p2 : (q2 ++ b).size ≤ 9223372036854775807 := by rw [ByteArray.size_append]; omega
    go_enter Tryd.func5, Tryd.ntmps5
    go_wp2_with (first
      | (go_at_call 7; refine (alive_ok w0 _ h).mono ?_; rintro e w1 ⟨rfl, h1⟩)
      | (go_at_call 11; refine (HQ.out _ h1).mono ?_; rintro e w2 ⟨rfl, h2⟩)
      | (go_at_call 12; refine (HN.out _ h2).mono ?_; rintro e w3 ⟨rfl, h3⟩)
      | (go_at_call 10; refine (HV.out _ h3).mono ?_; rintro e w4 ⟨rfl, h4⟩)
      | (go_at_call 15; (with_reducible refine (HU1.out _ h4).mono ?_); rintro e w5 ⟨rfl, h5⟩)
      | (go_at_call 15; (with_reducible refine (HU2.out _ h5).mono ?_); rintro e w6 ⟨rfl, h6⟩))
    have HOk : Aside0 (Ok w0 w6) := ⟨h6⟩
    clear h1 h2 h3 h4 h5 h6
    go_loopw [112] (fun i wr => ∃ (k : Nat), i = .int .i64 k ∧ k ≤ q2.size ∧ Aside0 (Ok w0 wr)) (fun i _ => q2.size - (Go.RowKit.intOf i).toNat)
    case atStart => exact ⟨0, rfl, Nat.zero_le _, HOk⟩
    case round =>
      obtain ⟨k, rfl, hk, HW⟩ := hrel
      by_cases hlt : k < q2.size
      · obtain ⟨c1, c2⟩ := HC.out k hlt
        have d1 : decide ((((q2[k]'hlt).toNat : Nat) : Int) < 32) = false := decide_eq_false (by have : 32 ≤ (((q2[k]'hlt).toNat : Nat) : Int) := c1; omega)
        have d2 : decide ((126 : Int) < (((q2[k]'hlt).toNat : Nat) : Int)) = false := decide_eq_false (by have : (((q2[k]'hlt).toNat : Nat) : Int) ≤ 126 := c2; omega)
        have l1 : (k : Int) < (q2.size : Int) := by omega
        clear c1 c2
        go_wp2_with fail
        go_roundw
        case rel => exact ⟨k + 1, by go_num, by omega, HW⟩
        case measure => simp [Go.RowKit.intOf]; omega
      · go_wp2_with fail
        go_ret
        exact ⟨rfl, HW.out⟩
  · have e1 : quoE s = some 9 := by rw [quoE, if_neg hbad]
    have e2 : ∀ e, quoT s e = ⟨#[]⟩ := fun e => by rw [quoT, if_neg hbad]
    rw [e1, e2] at HQ HN
    rw [decide_eq_false hbad] at HV
    rw [show errV (some 9) = .iface 32 (.int .i64 9) from rfl] at HQ HN
    have u1 := Tryd.underlying26
    have em : ((⟨#[]⟩ : ByteArray) ++ ⟨#[]⟩).toList.isEmpty = true := by decide +kernel
    clear e1 e2 hbad
    go_enter Tryd.func5, Tryd.ntmps5
    go_wp2_with (first
      | (go_at_call 7; refine (alive_ok w0 _ h).mono ?_; rintro e w1 ⟨rfl, h1⟩)
      | (go_at_call 11; refine (HQ.out _ h1).mono ?_; rintro e w2 ⟨rfl, h2⟩)
      | (go_at_call 12; refine (HN.out _ h2).mono ?_; rintro e w3 ⟨rfl, h3⟩)
      | (go_at_call 10; refine (HV.out _ h3).mono ?_; rintro e w4 ⟨rfl, h4⟩))
    go_ret
    exact ⟨rfl, h4⟩
theorem uback_long (a b : ByteArray) (w0 w : World) (h : Ok w0 w) (hl : ¬ (a.size ≤ 2000 ∧ b.size ≤ 200)) (h1 : a.size ≤ 140737488351232) (h2 : b.size ≤ 140737488351232) :
    Calls Tryd.prog 5 #[.string a, .string b] w fun e w' => e = .returned (.bool true) ∧ Ok w0 w' := by
  by_cases h3 : 2000 < a.size
  · have f1 : decide ((2000 : Int) < (a.size : Int)) = true := decide_eq_true (by omega)
    clear hl
    go_enter Tryd.func5, Tryd.ntmps5
    go_wp2_with (go_at_call 7; refine (alive_ok w0 _ h).mono ?_; rintro e w1 ⟨rfl, h1⟩)
    go_ret
    exact ⟨rfl, by assumption⟩
  · have f1 : decide ((2000 : Int) < (a.size : Int)) = false := decide_eq_false (by omega)
    have f2 : decide ((200 : Int) < (b.size : Int)) = true := decide_eq_true (by omega)
    clear hl h3
    go_enter Tryd.func5, Tryd.ntmps5
    go_wp2_with (go_at_call 7; refine (alive_ok w0 _ h).mono ?_; rintro e w1 ⟨rfl, h1⟩)
    go_ret
    exact ⟨rfl, by assumption⟩
theorem uback_walk (a b : ByteArray) (w : World) (h1 : a.size ≤ 140737488351232) (h2 : b.size ≤ 140737488351232)
    (hL : laidMetH Tryd.prog Rows.utfBackRow.laid w) :
    Calls Tryd.prog 5 #[.string a, .string b] w fun e w' => e = .returned (.bool true) ∧ Below w.heap.size w w' := by
  have hg := Ok.start (gl_of hL)
  by_cases h : a.size ≤ 2000 ∧ b.size ≤ 200
  · exact (uback_ok a b w w hg h.1 h.2).mono fun e w' ⟨h1, h2⟩ => ⟨h1, h2.bel⟩
  · exact (uback_long a b w w hg h h1 h2).mono fun e w' ⟨h1, h2⟩ => ⟨h1, h2.bel⟩
end Go.Proofs.YtojhbioljpamhaaDoor.My
