/- Untokens, the program's and the document's, as one plain function. -/
import Derived.Test.YtiaiopdiooobiaaMyDocu
import Derived.Test.YtiaiopdiooobiaaMyDocUn
import Derived.Test.YtiaiopdiooobiaaMyDocUr
namespace Go.Proofs.Ytiaiopdiooobiaa.My
open Go.RowKit Go.Proofs.YtiaiopdiooobiaaW.PrintWords Go.Proofs.YtiaiopdiooobiaaW.PrintLast Go.Proofs.YtiaiopdiooobiaaW.PrintMore Go.Proofs.Ytiaiopdiooobiaa.PDeflateUntokens
set_option linter.unusedVariables false
set_option linter.unusedSimpArgs false

/-- Bytes that are put out again. -/
def cpy (d : Nat) : Nat → List Int → List Int
  | 0, out => out
  | l + 1, out => cpy d l (out ++ [out.getD (out.length - d) 0])
/-- A token that may not be. -/
def badT (k : Ti) : Prop := k.l < 0 ∨ k.l = 1 ∨ k.l = 2 ∨ 258 < k.l ∨ (k.l = 0 ∧ k.d ≠ 0) ∨ (k.l ≠ 0 ∧ k.d = 0) ∨ (0 < k.l ∧ k.b ≠ 0)
instance (k : Ti) : Decidable (badT k) := by unfold badT; infer_instance
def unt : List Ti → List Int → List Int × Int
  | [], out => (out, 0)
  | k :: ks, out =>
    if badT k then ([], 2)
    else if k.l = 0 then (if (out.length : Int) ≥ 1048576 then ([], 3) else unt ks (out ++ [k.b]))
    else if k.d < 1 ∨ 32768 < k.d ∨ (out.length : Int) < k.d then ([], 1)
    else if 1048576 < (out.length : Int) + k.l then ([], 3)
    else unt ks (cpy k.d.toNat k.l.toNat out)
theorem cpy_len (d : Nat) : ∀ l out, (cpy d l out).length = out.length + l
  | 0, out => rfl
  | l + 1, out => by rw [cpy, cpy_len d l]; simp; omega
theorem unt_bad : ∀ ks out, (unt ks out).2 = 0 ∨ ((unt ks out).1 = [] ∧ 0 < (unt ks out).2)
  | [], out => .inl rfl
  | k :: ks, out => by
    unfold unt
    split
    · exact .inr ⟨rfl, by simp⟩
    · split
      · split
        · exact .inr ⟨rfl, by simp⟩
        · exact unt_bad ks _
      · split
        · exact .inr ⟨rfl, by simp⟩
        · split
          · exact .inr ⟨rfl, by simp⟩
          · exact unt_bad ks _
def optE (c : Int) : Option Int := if c = 0 then none else some c
def ti45 (x : S45) : Ti := ⟨x.f0, x.f1, x.f2⟩
def ti31 (x : S31) : Ti := ⟨x.f0, x.f1, x.f2⟩
theorem rd45 (xs : List S45) (i : Nat) (x : S45) (h : xs[i]? = some x) : rd_T45 xs (i : Int) = x := by simp [rd_T45, List.getD_eq_getElem?_getD, h]
theorem rd31 (xs : List S31) (i : Nat) (x : S31) (h : xs[i]? = some x) : rd_T31 xs (i : Int) = x := by simp [rd_T31, List.getD_eq_getElem?_getD, h]
theorem rdn (t : List Int) (i : Nat) : rd t (i : Int) = t.getD i 0 := by unfold rd; rw [Int.toNat_natCast]

theorem wsub (a d : Nat) (D : Int) (hD : D = (d : Int)) (h : d ≤ a) (ha : a ≤ 1000000000) : wrap64 ((a : Int) - D) = ((a - d : Nat) : Int) := by subst hD; unfold wrap64; omega
theorem wsucc (j : Nat) (h : j ≤ 1000000000) : wrap64 ((j : Int) + 1) = ((j + 1 : Nat) : Int) := by unfold wrap64; omega
theorem wadd (a : Nat) (l : Int) (h : 0 ≤ l) (hl : l ≤ 258) (ha : a ≤ 1000000000) : wrap64 ((a : Int) + mx l 1) = (a : Int) + mx l 1 := by unfold mx wrap64; omega
theorem pcopy (xs : List S45) (n i : Nat) (b L D : Int) (d : Nat) (hD : D = (d : Int)) (hd : 1 ≤ d) (r : List Int × Option Int) (l : Nat) (hL : L = (l : Int)) (hl : l ≤ 258) : ∀ m j out, m = l - j → j ≤ l → d ≤ out.length → out.length + m ≤ 2000000 →
    (∃ K, MyDocUn.deflate_Untokens.l0 K (cpy d m out) xs n (wrap64 ((i : Int) + 1)) = some r) → ∃ K, MyDocUn.deflate_Untokens.l1 K out xs n i L (j : Nat) b L D = some r
  | 0, j, out, hm, hj, _, _, ⟨K, hK⟩ => by
    refine ⟨K + 1, ?_⟩
    rw [MyDocUn.deflate_Untokens.l1, if_neg (by omega)]
    exact hK
  | m + 1, j, out, hm, hj, hdo, ho, hK => by
    have c1 : (j : Int) < L := by omega
    have c2 : (0 : Int) ≤ ((out.length - d : Nat) : Int) := by omega
    have c3 : ((out.length - d : Nat) : Int) < (out.length : Int) := by omega
    have c4 : out.length < 140737488355328 := by omega
    obtain ⟨K, hK⟩ := pcopy xs n i b L D d hD hd r l hL hl m (j + 1) (out ++ [out.getD (out.length - d) 0]) (by omega) (by omega) (by simp; omega) (by simp; omega) hK
    have e1 : wrap64 ((out.length : Int) - D) = ((out.length - d : Nat) : Int) := wsub _ _ D hD (by omega) (by omega)
    have e2 : wrap64 ((j : Int) + 1) = ((j + 1 : Nat) : Int) := wsucc _ (by omega)
    refine ⟨K + 1, ?_⟩
    rw [MyDocUn.deflate_Untokens.l1, if_pos c1, e1, if_pos c2, if_pos c3, if_pos c4, rdn, e2]
    exact hK
theorem rcopy (xs : List S31) (n i : Nat) (b L D : Int) (d : Nat) (hD : D = (d : Int)) (hd : 1 ≤ d) (r : List Int × Int) (l : Nat) (hL : L = (l : Int)) (hl : l ≤ 258) : ∀ m j out, m = l - j → j ≤ l → d ≤ out.length → out.length + m ≤ 2000000 →
    (∃ K, MyDocUr.crossdockref09_Untokens.l0 K (cpy d m out) xs n (wrap64 ((i : Int) + 1)) = some r) → ∃ K, MyDocUr.crossdockref09_Untokens.l1 K out (j : Nat) xs n i b L D = some r
  | 0, j, out, hm, hj, _, _, ⟨K, hK⟩ => by
    refine ⟨K + 1, ?_⟩
    rw [MyDocUr.crossdockref09_Untokens.l1, if_neg (by omega)]
    exact hK
  | m + 1, j, out, hm, hj, hdo, ho, hK => by
    have c1 : (j : Int) < L := by omega
    have c2 : (0 : Int) ≤ ((out.length - d : Nat) : Int) := by omega
    have c3 : ((out.length - d : Nat) : Int) < (out.length : Int) := by omega
    have c4 : out.length < 140737488355328 := by omega
    obtain ⟨K, hK⟩ := rcopy xs n i b L D d hD hd r l hL hl m (j + 1) (out ++ [out.getD (out.length - d) 0]) (by omega) (by omega) (by simp; omega) (by simp; omega) hK
    have e1 : wrap64 ((out.length : Int) - D) = ((out.length - d : Nat) : Int) := wsub _ _ D hD (by omega) (by omega)
    have e2 : wrap64 ((j : Int) + 1) = ((j + 1 : Nat) : Int) := wsucc _ (by omega)
    refine ⟨K + 1, ?_⟩
    rw [MyDocUr.crossdockref09_Untokens.l1, if_pos c1, e1, if_pos c2, if_pos c3, if_pos c4, rdn, e2]
    exact hK
theorem form_f (b l d : Int) : MyDocUn.deflate_Token_form.f b l d = some (decide (¬ badT ⟨b, l, d⟩)) := by
  have hT : ¬ (l < 0 ∨ l = 1 ∨ l = 2 ∨ 258 < l ∨ (l = 0 ∧ d ≠ 0) ∨ (l ≠ 0 ∧ d = 0) ∨ (0 < l ∧ b ≠ 0)) → decide (¬ badT ⟨b, l, d⟩) = true := fun h => decide_eq_true h
  have hF : (l < 0 ∨ l = 1 ∨ l = 2 ∨ 258 < l ∨ (l = 0 ∧ d ≠ 0) ∨ (l ≠ 0 ∧ d = 0) ∨ (0 < l ∧ b ≠ 0)) → decide (¬ badT ⟨b, l, d⟩) = false := fun h => decide_eq_false (fun k => k h)
  unfold MyDocUn.deflate_Token_form.f
  by_cases h0 : l = 0
  · rw [if_pos h0]
    by_cases h1 : d = 0
    · rw [hT (by omega)]; simp [h1]
    · rw [hF (by omega)]; simp [h1]
  · rw [if_neg h0]
    by_cases h1 : l ≥ 3
    · rw [if_pos h1]
      by_cases h2 : l ≤ 258
      · rw [if_pos h2]
        by_cases h3 : d = 0
        · rw [if_pos h3, hF (by omega)]
        · rw [if_neg h3]
          by_cases h4 : b = 0
          · rw [hT (by omega)]; simp [h4]
          · rw [hF (by omega)]; simp [h4]
      · rw [if_neg h2, hF (by omega)]
    · rw [if_neg h1, hF (by omega)]
theorem unt_p (xs : List S45) (n : Nat) (hn : xs.length = n) (hn9 : n ≤ 1000000000) : ∀ m i out, m = n - i → i ≤ n → out.length ≤ 1048576 →
    ∃ K, MyDocUn.deflate_Untokens.l0 K out xs n (i : Nat) = some ((unt ((xs.drop i).map ti45) out).1, optE (unt ((xs.drop i).map ti45) out).2)
  | 0, i, out, hm, hi, ho => by
    refine ⟨1, ?_⟩
    rw [MyDocUn.deflate_Untokens.l0, if_neg (by omega), List.drop_eq_nil_of_le (by omega)]
    rfl
  | m + 1, i, out, hm, hi, ho => by
    obtain ⟨x, hx⟩ : ∃ x, xs[i]? = some x := ⟨_, List.getElem?_eq_getElem (by omega)⟩
    have hdr : xs.drop i = x :: xs.drop (i + 1) := by
      rw [List.drop_eq_getElem_cons (by omega)]
      congr 1
      exact Option.some.inj ((List.getElem?_eq_getElem (by omega)).symm.trans hx)
    rw [hdr, List.map_cons, unt]
    have hl0 : ∀ K r, MyDocUn.deflate_Untokens.l0 (K + 1) out xs n (i : Nat) = r ↔ ((MyDocUn.deflate_Token_form.f x.f0 x.f1 x.f2).bind fun t118 => (if t118 = true then (if x.f1 > 0 then (if x.f2 < 1 then (MyDocUn.deflate_Untokens.j1 K out xs n i true x.f0 x.f1 x.f2) else (MyDocUn.deflate_Untokens.j1 K out xs n i (decide (x.f2 > (mn 32768 (out.length : Int)))) x.f0 x.f1 x.f2)) else (MyDocUn.deflate_Untokens.j1 K out xs n i false x.f0 x.f1 x.f2)) else (some (([] : List Int), some 2)))) = r := by
      intro K r
      rw [MyDocUn.deflate_Untokens.l0, if_pos (by omega), if_pos (by omega), if_pos (by omega), rd45 xs i x hx]
    by_cases hb : badT (ti45 x)
    · rw [if_pos hb]
      refine ⟨1, ?_⟩
      rw [hl0, form_f, Option.bind_some, if_neg (by rw [decide_eq_true_iff]; exact fun h => h hb)]
      rfl
    · have hbb : ¬ (x.f1 < 0 ∨ x.f1 = 1 ∨ x.f1 = 2 ∨ 258 < x.f1 ∨ (x.f1 = 0 ∧ x.f2 ≠ 0) ∨ (x.f1 ≠ 0 ∧ x.f2 = 0) ∨ (0 < x.f1 ∧ x.f0 ≠ 0)) := hb
      rw [if_neg hb]
      have hform : ∀ K, MyDocUn.deflate_Untokens.l0 (K + 1) out xs n (i : Nat) = (if x.f1 > 0 then (if x.f2 < 1 then (MyDocUn.deflate_Untokens.j1 K out xs n i true x.f0 x.f1 x.f2) else (MyDocUn.deflate_Untokens.j1 K out xs n i (decide (x.f2 > (mn 32768 (out.length : Int)))) x.f0 x.f1 x.f2)) else (MyDocUn.deflate_Untokens.j1 K out xs n i false x.f0 x.f1 x.f2)) := by
        intro K
        rw [hl0, form_f, Option.bind_some, if_pos (by rw [decide_eq_true_iff]; exact hb)]
      by_cases h0 : (ti45 x).l = 0
      · have h0' : x.f1 = 0 := h0
        rw [if_pos h0]
        by_cases h1 : (out.length : Int) ≥ 1048576
        · rw [if_pos h1]
          refine ⟨2, ?_⟩
          rw [hform, if_neg (by omega), MyDocUn.deflate_Untokens.j1, if_neg (by simp), if_pos (by rw [wadd _ _ (by omega) (by omega) (by omega)]; unfold mx; omega)]
          rfl
        · rw [if_neg h1]
          obtain ⟨K, hK⟩ := unt_p xs n hn hn9 m (i + 1) (out ++ [x.f0]) (by omega) (by omega) (by simp; omega)
          refine ⟨K + 4, ?_⟩
          rw [hform, if_neg (by omega), MyDocUn.deflate_Untokens.j1, if_neg (by simp), if_neg (by rw [wadd _ _ (by omega) (by omega) (by omega)]; unfold mx; omega), if_pos h0', if_pos (by omega), MyDocUn.deflate_Untokens.j2, MyDocUn.deflate_Untokens.l1, if_neg (by omega), wsucc _ (by omega)]
          exact hK
      · have h0' : x.f1 ≠ 0 := h0
        rw [if_neg h0]
        by_cases h1 : (ti45 x).d < 1 ∨ 32768 < (ti45 x).d ∨ (out.length : Int) < (ti45 x).d
        · have h1' : x.f2 < 1 ∨ 32768 < x.f2 ∨ (out.length : Int) < x.f2 := h1
          rw [if_pos h1]
          refine ⟨2, ?_⟩
          rw [hform, if_pos (by omega)]
          by_cases h2 : x.f2 < 1
          · rw [if_pos h2, MyDocUn.deflate_Untokens.j1, if_pos rfl]; rfl
          · rw [if_neg h2, MyDocUn.deflate_Untokens.j1, if_pos (by rw [decide_eq_true_iff]; unfold mn; omega)]; rfl
        · have h1' : ¬ (x.f2 < 1 ∨ 32768 < x.f2 ∨ (out.length : Int) < x.f2) := h1
          rw [if_neg h1]
          have hj : ∀ K, MyDocUn.deflate_Untokens.l0 (K + 2) out xs n (i : Nat) = if (wrap64 ((out.length : Int) + (mx x.f1 1))) > 1048576 then (some (([] : List Int), some 3)) else (MyDocUn.deflate_Untokens.j2 K out xs n i x.f0 x.f1 x.f2) := by
            intro K
            rw [hform, if_pos (by omega), if_neg (by omega), MyDocUn.deflate_Untokens.j1, if_neg (by rw [decide_eq_true_iff]; unfold mn; omega), if_neg h0']
          by_cases h3 : 1048576 < (out.length : Int) + (ti45 x).l
          · have h3' : 1048576 < (out.length : Int) + x.f1 := h3
            rw [if_pos h3]
            refine ⟨2, ?_⟩
            rw [hj 0, if_pos (by rw [wadd _ _ (by omega) (by omega) (by omega)]; unfold mx; omega)]
            rfl
          · have h3' : ¬ 1048576 < (out.length : Int) + x.f1 := h3
            rw [if_neg h3]
            obtain ⟨d, hd⟩ := Int.eq_ofNat_of_zero_le (show 0 ≤ x.f2 by omega)
            obtain ⟨l, hl⟩ := Int.eq_ofNat_of_zero_le (show 0 ≤ x.f1 by omega)
            have hrec := unt_p xs n hn hn9 m (i + 1) (cpy d l out) (by omega) (by omega) (by rw [cpy_len]; omega)
            rw [← wsucc i (by omega)] at hrec
            obtain ⟨K, hK⟩ := pcopy xs n i x.f0 x.f1 x.f2 d hd (by omega) _ l hl (by omega) l 0 out rfl (Nat.zero_le _) (by omega) (by omega) hrec
            refine ⟨K + 3, ?_⟩
            rw [hj (K + 1), if_neg (by rw [wadd _ _ (by omega) (by omega) (by omega)]; unfold mx; omega), MyDocUn.deflate_Untokens.j2]
            have ed : (ti45 x).d.toNat = d := by show x.f2.toNat = d; rw [hd]; rfl
            have el : (ti45 x).l.toNat = l := by show x.f1.toNat = l; rw [hl]; rfl
            rw [ed, el]
            exact hK
theorem wadd2 (a : Nat) (l : Int) (h : 0 ≤ l) (hl : l ≤ 258) (ha : a ≤ 1000000000) : wrap64 ((a : Int) + l) = (a : Int) + l := by unfold wrap64; omega
theorem rl0 (xs : List S31) (n i : Nat) (out : List Int) (x : S31) (hx : xs[i]? = some x) (hn : xs.length = n) (K : Nat) : MyDocUr.crossdockref09_Untokens.l0 (K + 1) out xs n (i : Nat) = MyDocUr.crossdockref09_Untokens.j1 K out xs n i (decide (badT (ti31 x))) x.f0 x.f1 x.f2 := by
  have hi : i < n := by rw [← hn]; exact (List.getElem?_eq_some_iff.1 hx).1
  have hT : (x.f1 < 0 ∨ x.f1 = 1 ∨ x.f1 = 2 ∨ 258 < x.f1 ∨ (x.f1 = 0 ∧ x.f2 ≠ 0) ∨ (x.f1 ≠ 0 ∧ x.f2 = 0) ∨ (0 < x.f1 ∧ x.f0 ≠ 0)) → decide (badT (ti31 x)) = true := fun h => decide_eq_true h
  have hF : ¬ (x.f1 < 0 ∨ x.f1 = 1 ∨ x.f1 = 2 ∨ 258 < x.f1 ∨ (x.f1 = 0 ∧ x.f2 ≠ 0) ∨ (x.f1 ≠ 0 ∧ x.f2 = 0) ∨ (0 < x.f1 ∧ x.f0 ≠ 0)) → decide (badT (ti31 x)) = false := fun h => decide_eq_false h
  rw [MyDocUr.crossdockref09_Untokens.l0, if_pos (by omega), if_pos (by omega), if_pos (by omega), rd31 xs i x hx]
  by_cases h1 : x.f1 < 0
  · rw [if_pos h1, hT (by omega)]
  · rw [if_neg h1]
    by_cases h2 : x.f1 = 1
    · rw [if_pos h2, hT (by omega)]
    · rw [if_neg h2]
      by_cases h3 : x.f1 = 2
      · rw [if_pos h3, hT (by omega)]
      · rw [if_neg h3]
        by_cases h4 : x.f1 > 258
        · rw [if_pos h4, hT (by omega)]
        · rw [if_neg h4]
          by_cases h5 : x.f1 = 0
          · by_cases h6 : x.f2 = 0
            · rw [if_neg (by simp [h5, h6]), if_neg (by omega), hF (by omega)]
            · rw [if_pos (by simp [h5, h6]), hT (by omega)]
          · by_cases h6 : x.f2 = 0
            · rw [if_pos (by simp [h5, h6]), hT (by omega)]
            · rw [if_neg (by rw [beq_eq_false_iff_ne.2 h5, beq_eq_false_iff_ne.2 h6]; simp), if_pos (by omega)]
              by_cases h7 : x.f0 = 0
              · rw [hF (by omega), show (x.f0 != 0) = false by rw [h7]; rfl]
              · rw [hT (by omega), bne_iff_ne.2 h7]
theorem unt_r (xs : List S31) (n : Nat) (hn : xs.length = n) (hn9 : n ≤ 1000000000) : ∀ m i out, m = n - i → i ≤ n → out.length ≤ 1048576 →
    ∃ K, MyDocUr.crossdockref09_Untokens.l0 K out xs n (i : Nat) = some ((unt ((xs.drop i).map ti31) out).1, (unt ((xs.drop i).map ti31) out).2)
  | 0, i, out, hm, hi, ho => by
    refine ⟨1, ?_⟩
    rw [MyDocUr.crossdockref09_Untokens.l0, if_neg (by omega), List.drop_eq_nil_of_le (by omega)]
    rfl
  | m + 1, i, out, hm, hi, ho => by
    obtain ⟨x, hx⟩ : ∃ x, xs[i]? = some x := ⟨_, List.getElem?_eq_getElem (by omega)⟩
    have hdr : xs.drop i = x :: xs.drop (i + 1) := by
      rw [List.drop_eq_getElem_cons (by omega)]
      congr 1
      exact Option.some.inj ((List.getElem?_eq_getElem (by omega)).symm.trans hx)
    rw [hdr, List.map_cons, unt]
    by_cases hb : badT (ti31 x)
    · rw [if_pos hb]
      refine ⟨2, ?_⟩
      rw [rl0 xs n i out x hx hn, decide_eq_true hb, MyDocUr.crossdockref09_Untokens.j1, if_pos rfl]
    · have hbb : ¬ (x.f1 < 0 ∨ x.f1 = 1 ∨ x.f1 = 2 ∨ 258 < x.f1 ∨ (x.f1 = 0 ∧ x.f2 ≠ 0) ∨ (x.f1 ≠ 0 ∧ x.f2 = 0) ∨ (0 < x.f1 ∧ x.f0 ≠ 0)) := hb
      rw [if_neg hb]
      by_cases h0 : (ti31 x).l = 0
      · have h0' : x.f1 = 0 := h0
        rw [if_pos h0]
        by_cases h1 : (out.length : Int) ≥ 1048576
        · rw [if_pos h1]
          refine ⟨2, ?_⟩
          rw [rl0 xs n i out x hx hn, decide_eq_false hb, MyDocUr.crossdockref09_Untokens.j1, if_neg (by simp), if_pos h0', if_pos h1]
        · rw [if_neg h1]
          obtain ⟨K, hK⟩ := unt_r xs n hn hn9 m (i + 1) (out ++ [x.f0]) (by omega) (by omega) (by simp; omega)
          refine ⟨K + 2, ?_⟩
          rw [rl0 xs n i out x hx hn, decide_eq_false hb, MyDocUr.crossdockref09_Untokens.j1, if_neg (by simp), if_pos h0', if_neg h1, if_pos (by omega), wsucc _ (by omega)]
          exact hK
      · have h0' : x.f1 ≠ 0 := h0
        rw [if_neg h0]
        by_cases h1 : (ti31 x).d < 1 ∨ 32768 < (ti31 x).d ∨ (out.length : Int) < (ti31 x).d
        · have h1' : x.f2 < 1 ∨ 32768 < x.f2 ∨ (out.length : Int) < x.f2 := h1
          rw [if_pos h1]
          refine ⟨3, ?_⟩
          rw [rl0 xs n i out x hx hn, decide_eq_false hb, MyDocUr.crossdockref09_Untokens.j1, if_neg (by simp), if_neg h0']
          by_cases h2 : x.f2 < 1
          · rw [if_pos h2, MyDocUr.crossdockref09_Untokens.j2, if_pos rfl]
          · rw [if_neg h2]
            by_cases h3 : x.f2 > 32768
            · rw [if_pos h3, MyDocUr.crossdockref09_Untokens.j2, if_pos rfl]
            · rw [if_neg h3, MyDocUr.crossdockref09_Untokens.j2, if_pos (by rw [decide_eq_true_iff]; omega)]
        · have h1' : ¬ (x.f2 < 1 ∨ 32768 < x.f2 ∨ (out.length : Int) < x.f2) := h1
          rw [if_neg h1]
          have hj : ∀ K, MyDocUr.crossdockref09_Untokens.l0 (K + 3) out xs n (i : Nat) = if 1048576 < (out.length : Int) + x.f1 then (some (([] : List Int), 3)) else (MyDocUr.crossdockref09_Untokens.l1 K out 0 xs n i x.f0 x.f1 x.f2) := by
            intro K
            rw [rl0 xs n i out x hx hn, decide_eq_false hb, MyDocUr.crossdockref09_Untokens.j1, if_neg (by simp), if_neg h0', if_neg (by omega), if_neg (by omega), MyDocUr.crossdockref09_Untokens.j2, if_neg (by rw [decide_eq_true_iff]; omega), wadd2 _ _ (by omega) (by omega) (by omega)]
          by_cases h3 : 1048576 < (out.length : Int) + (ti31 x).l
          · have h3' : 1048576 < (out.length : Int) + x.f1 := h3
            rw [if_pos h3]
            refine ⟨3, ?_⟩
            rw [hj 0, if_pos h3']
          · have h3' : ¬ 1048576 < (out.length : Int) + x.f1 := h3
            rw [if_neg h3]
            obtain ⟨d, hd⟩ := Int.eq_ofNat_of_zero_le (show 0 ≤ x.f2 by omega)
            obtain ⟨l, hl⟩ := Int.eq_ofNat_of_zero_le (show 0 ≤ x.f1 by omega)
            have hrec := unt_r xs n hn hn9 m (i + 1) (cpy d l out) (by omega) (by omega) (by rw [cpy_len]; omega)
            rw [← wsucc i (by omega)] at hrec
            obtain ⟨K, hK⟩ := rcopy xs n i x.f0 x.f1 x.f2 d hd (by omega) _ l hl (by omega) l 0 out rfl (Nat.zero_le _) (by omega) (by omega) hrec
            refine ⟨K + 3, ?_⟩
            rw [hj K, if_neg h3']
            have ed : (ti31 x).d.toNat = d := by show x.f2.toNat = d; rw [hd]; rfl
            have el : (ti31 x).l.toNat = l := by show x.f1.toNat = l; rw [hl]; rfl
            rw [ed, el]
            exact hK
/-- A row of tokens as the prints read it. -/
theorem tk_cells {w : World} {A : Option Addr} {l : List Ti} (h : TkR w A l) (hl : 0 < l.length) : ∃ ad, A = some ad ∧ ∀ (j : Nat) k, l[j]? = some k → ∀ i u, k.cells[i]? = some u → w.cell? (ad.add (j * 3 + i)) = some u := by
  obtain ⟨ad, e, _⟩ := h 0 _ (List.getElem?_eq_getElem hl)
  refine ⟨ad, e, fun j k hk i u hu => ?_⟩
  obtain ⟨ad', e', h0, h1, h2⟩ := h j k hk
  rw [e] at e'
  cases e'
  have hi : i < 3 := by
    have := (List.getElem?_eq_some_iff.1 hu).1
    simpa [Ti.cells] using this
  match i, hi with
  | 0, _ => simp [Ti.cells] at hu; subst hu; exact h0
  | 1, _ => simp [Ti.cells] at hu; subst hu; rw [add_field _ _ 1 (by omega)]; exact h1
  | 2, _ => simp [Ti.cells] at hu; subst hu; rw [add_field _ _ 2 (by omega)]; exact h2
theorem C45 {w : World} {A : Option Addr} {l : List Ti} (h : TkR w A l) (hm : l.length ≤ 1000000000) : Kd.C k45 w A l.length (l.map fun k => (⟨k.b, k.l, k.d⟩ : S45)) := by
  refine ⟨by simp, by omega, fun hl => ?_⟩
  obtain ⟨ad, e, hc⟩ := tk_cells h hl
  refine ⟨ad, e, fun j p hp => ?_⟩
  rw [List.getElem?_map, Option.map_eq_some_iff] at hp
  obtain ⟨k, hk, rfl⟩ := hp
  exact ⟨k.cells, rfl, ⟨[.int .u8 k.b], [.int .i64 k.l, .int .i64 k.d], rfl, rfl, ⟨[.int .i64 k.l], [.int .i64 k.d], rfl, rfl, rfl⟩⟩, hc j k hk⟩
theorem C31 {w : World} {A : Option Addr} {l : List Ti} (h : TkR w A l) (hm : l.length ≤ 1000000000) : Kd.C k31 w A l.length (l.map fun k => (⟨k.b, k.l, k.d⟩ : S31)) := by
  refine ⟨by simp, by omega, fun hl => ?_⟩
  obtain ⟨ad, e, hc⟩ := tk_cells h hl
  refine ⟨ad, e, fun j p hp => ?_⟩
  rw [List.getElem?_map, Option.map_eq_some_iff] at hp
  obtain ⟨k, hk, rfl⟩ := hp
  exact ⟨k.cells, rfl, ⟨[.int .u8 k.b], [.int .i64 k.l, .int .i64 k.d], rfl, rfl, ⟨[.int .i64 k.l], [.int .i64 k.d], rfl, rfl, rfl⟩⟩, hc j k hk⟩
theorem untokens_calls (w : World) (A : Option Addr) (c n : Nat) (l : List Ti) (h : TkR w A l) (hn : l.length = n) (hc : n ≤ c) (hn9 : n ≤ 1000000000) :
    Calls Try.prog 11 #[.slice A n c] w fun e w' => ∃ A' c', e = .returned (.tuple #[.slice A' (unt l []).1.length c', errW (optE (unt l []).2)]) ∧ (Kd.int .u8).C w' A' (unt l []).1.length (unt l []).1 ∧ (unt l []).1.length ≤ c' ∧ Below w.heap.size w w' := by
  subst hn
  obtain ⟨K, hK⟩ := unt_p (l.map fun k => (⟨k.b, k.l, k.d⟩ : S45)) l.length (by simp) hn9 l.length 0 [] (by omega) (Nat.zero_le _) (by simp)
  have hmap : ((l.map fun k => (⟨k.b, k.l, k.d⟩ : S45)).drop 0).map ti45 = l := by
    rw [List.drop_zero, List.map_map]
    exact List.map_id' l
  rw [hmap] at hK
  have hf : MyDocUn.deflate_Untokens.f K (l.map fun k => (⟨k.b, k.l, k.d⟩ : S45)) = some ((unt l []).1, optE (unt l []).2) := by
    unfold MyDocUn.deflate_Untokens.f
    rw [List.length_map]
    exact hK
  have h := MyDocUn.deflate_Untokens.calls K A c _ _ _ w (by rw [List.length_map]; exact C45 h hn9) (by rw [List.length_map]; exact hc) hf
  rw [List.length_map] at h
  refine h.mono ?_
  rintro e w' ⟨v, rfl, hr, hb⟩
  obtain ⟨A', c', rfl, hcc, hC⟩ := Kd.R_reads hr
  exact ⟨A', c', rfl, hC, hcc, hb⟩
theorem refUnt_calls (w : World) (A : Option Addr) (c n : Nat) (l : List Ti) (h : TkR w A l) (hn : l.length = n) (hc : n ≤ c) (hn9 : n ≤ 1000000000) :
    Calls Try.prog 12 #[.slice A n c] w fun e w' => ∃ A' c', e = .returned (.tuple #[.slice A' (unt l []).1.length c', .int .i64 (unt l []).2]) ∧ (Kd.int .u8).C w' A' (unt l []).1.length (unt l []).1 ∧ (unt l []).1.length ≤ c' ∧ Below w.heap.size w w' := by
  subst hn
  obtain ⟨K, hK⟩ := unt_r (l.map fun k => (⟨k.b, k.l, k.d⟩ : S31)) l.length (by simp) hn9 l.length 0 [] (by omega) (Nat.zero_le _) (by simp)
  have hmap : ((l.map fun k => (⟨k.b, k.l, k.d⟩ : S31)).drop 0).map ti31 = l := by
    rw [List.drop_zero, List.map_map]
    exact List.map_id' l
  rw [hmap] at hK
  have hf : MyDocUr.crossdockref09_Untokens.f K (l.map fun k => (⟨k.b, k.l, k.d⟩ : S31)) = some ((unt l []).1, (unt l []).2) := by
    unfold MyDocUr.crossdockref09_Untokens.f
    rw [List.length_map]
    exact hK
  have h := MyDocUr.crossdockref09_Untokens.calls K A c _ _ _ w (by rw [List.length_map]; exact C31 h hn9) (by rw [List.length_map]; exact hc) hf
  rw [List.length_map] at h
  refine h.mono ?_
  rintro e w' ⟨v, rfl, hr, hb⟩
  obtain ⟨A', c', rfl, hcc, hC⟩ := Kd.R_reads hr
  exact ⟨A', c', rfl, hC, hcc, hb⟩
end Go.Proofs.Ytiaiopdiooobiaa.My
