/- MyValidP, MyBackP, MyPlain, MyPBackL: laid into one text by merge.py. -/
import Derived.Test.YtiddhdhojhggeaaDoorMySignP
import Derived.Test.YtiddhdhojhggeaaDoorMyPathU
import Derived.Test.YtiddhdhojhggeaaDoorMyPathD

/- Right texts, plainly: a text is right where it is cut into right signs. No program in sight. -/
namespace Go.Proofs.YtiddhdhojhggeaaDoor.My
open Go.Lib
set_option linter.unusedVariables false
set_option linter.unusedSimpArgs false

/-- The sign with which bytes begin. -/
def sgn (l : List UInt8) : Nat × Nat := decodeN l.length (l.getD 0 0).toNat (l.getD 1 0).toNat (l.getD 2 0).toNat (l.getD 3 0).toNat
def good (l : List UInt8) : Prop := ¬ ((sgn l).1 = 65533 ∧ (sgn l).2 = 1)
theorem sgn_at (s : ByteArray) (i : Nat) : Utf8.decode s i = sgn (s.data.toList.drop i) := by
  have hl : (s.data.toList.drop i).length = s.size - i := by rw [List.length_drop, Array.length_toList]; rfl
  rw [decode_at, sgn, hl]
  simp only [get_list, List.getD_eq_getElem?_getD, List.getElem?_drop, Nat.add_zero]
inductive V : List UInt8 → Prop
  | nil : V []
  | cons (l : List UInt8) (hne : l ≠ []) (hg : good l) (h : V (l.drop (sgn l).2)) : V l

theorem V_inv {l : List UInt8} (h : V l) (hne : l ≠ []) : good l ∧ V (l.drop (sgn l).2) := by
  cases h with
  | nil => exact absurd rfl hne
  | cons _ _ hg h2 => exact ⟨hg, h2⟩
theorem u8lt (x : UInt8) : x.toNat < 256 := UInt8.toNat_lt x
/-- A right sign's bytes are there, and none but them is looked at. -/
theorem decodeN_more (n m b0 b1 b2 b3 c1 c2 c3 : Nat) (hn : 1 ≤ n) (h : ¬ ((decodeN n b0 b1 b2 b3).1 = 65533 ∧ (decodeN n b0 b1 b2 b3).2 = 1)) (hw : (decodeN n b0 b1 b2 b3).2 ≤ m)
    (e1 : 1 < (decodeN n b0 b1 b2 b3).2 → c1 = b1) (e2 : 2 < (decodeN n b0 b1 b2 b3).2 → c2 = b2) (e3 : 3 < (decodeN n b0 b1 b2 b3).2 → c3 = b3) : decodeN m b0 c1 c2 c3 = decodeN n b0 b1 b2 b3 := by
  unfold decodeN at h hw e1 e2 e3 ⊢
  by_cases a0 : b0 < 128
  · rw [if_pos a0, if_pos a0]
  · rw [if_neg a0] at h hw e1 e2 e3 ⊢
    rw [if_neg a0]
    by_cases a1 : b0 / 32 = 6 ∧ (1 < n ∧ b1 / 64 = 2)
    · rw [if_pos a1] at h hw e1 e2 e3 ⊢
      by_cases g : b0 % 32 * 64 + b1 % 64 ≥ 128
      · rw [if_pos g] at h hw e1 e2 e3 ⊢
        obtain rfl := e1 (by simp)
        rw [if_pos ⟨a1.1, by simp at hw; omega, a1.2.2⟩, if_pos g]
      · rw [if_neg g] at h; exact absurd ⟨rfl, rfl⟩ h
    · rw [if_neg a1] at h hw e1 e2 e3 ⊢
      by_cases a2 : b0 / 16 = 14 ∧ (1 < n ∧ b1 / 64 = 2) ∧ (2 < n ∧ b2 / 64 = 2)
      · rw [if_pos a2] at h hw e1 e2 e3 ⊢
        by_cases g : b0 % 16 * 4096 + b1 % 64 * 64 + b2 % 64 ≥ 2048 ∧ (b0 % 16 * 4096 + b1 % 64 * 64 + b2 % 64 < 55296 ∨ (57344 ≤ b0 % 16 * 4096 + b1 % 64 * 64 + b2 % 64 ∧ b0 % 16 * 4096 + b1 % 64 * 64 + b2 % 64 ≤ 1114111))
        · rw [if_pos g] at h hw e1 e2 e3 ⊢
          obtain rfl := e1 (by simp)
          obtain rfl := e2 (by simp)
          rw [if_neg (by omega), if_pos ⟨a2.1, ⟨by simp at hw; omega, a2.2.1.2⟩, by simp at hw; omega, a2.2.2.2⟩, if_pos g]
        · rw [if_neg g] at h; exact absurd ⟨rfl, rfl⟩ h
      · rw [if_neg a2] at h hw e1 e2 e3 ⊢
        by_cases a3 : b0 / 8 = 30 ∧ (1 < n ∧ b1 / 64 = 2) ∧ (2 < n ∧ b2 / 64 = 2) ∧ (3 < n ∧ b3 / 64 = 2)
        · rw [if_pos a3] at h hw e1 e2 e3 ⊢
          by_cases g : b0 % 8 * 262144 + b1 % 64 * 4096 + b2 % 64 * 64 + b3 % 64 ≥ 65536 ∧ (b0 % 8 * 262144 + b1 % 64 * 4096 + b2 % 64 * 64 + b3 % 64 < 55296 ∨ (57344 ≤ b0 % 8 * 262144 + b1 % 64 * 4096 + b2 % 64 * 64 + b3 % 64 ∧ b0 % 8 * 262144 + b1 % 64 * 4096 + b2 % 64 * 64 + b3 % 64 ≤ 1114111))
          · rw [if_pos g] at h hw e1 e2 e3 ⊢
            obtain rfl := e1 (by simp)
            obtain rfl := e2 (by simp)
            obtain rfl := e3 (by simp)
            rw [if_neg (by omega), if_neg (by omega), if_pos ⟨a3.1, ⟨by simp at hw; omega, a3.2.1.2⟩, ⟨by simp at hw; omega, a3.2.2.1.2⟩, by simp at hw; omega, a3.2.2.2.2⟩, if_pos g]
          · rw [if_neg g] at h; exact absurd ⟨rfl, rfl⟩ h
        · rw [if_neg a3] at h; exact absurd ⟨rfl, rfl⟩ h
/-- The bytes behind a sign's first are from 128 on. -/
theorem decodeN_cont (n b0 b1 b2 b3 : Nat) (h : ¬ ((decodeN n b0 b1 b2 b3).1 = 65533 ∧ (decodeN n b0 b1 b2 b3).2 = 1)) :
    (decodeN n b0 b1 b2 b3).2 ≤ max n 1 ∧ 1 ≤ (decodeN n b0 b1 b2 b3).2 ∧ (decodeN n b0 b1 b2 b3).2 ≤ 4 ∧ (1 < (decodeN n b0 b1 b2 b3).2 → 128 ≤ b1) ∧ (2 < (decodeN n b0 b1 b2 b3).2 → 128 ≤ b2) ∧ (3 < (decodeN n b0 b1 b2 b3).2 → 128 ≤ b3) := by
  unfold decodeN at h ⊢
  repeat' split
  all_goals (simp only [Nat.max_def]; first | (refine ⟨?_, ?_, ?_, ?_, ?_, ?_⟩ <;> (try split) <;> omega) | skip)
theorem sgn_good {l : List UInt8} (hne : l ≠ []) (h : good l) : 1 ≤ (sgn l).2 ∧ (sgn l).2 ≤ l.length ∧ (sgn l).2 ≤ 4 := by
  obtain ⟨h1, h2, h3, _⟩ := decodeN_cont _ _ _ _ _ h
  have : 1 ≤ l.length := by cases l with | nil => exact absurd rfl hne | cons _ _ => simp
  rw [show max l.length 1 = l.length by rw [Nat.max_def]; split <;> omega] at h1
  exact ⟨h2, h1, h3⟩
theorem getD_app (a b : List UInt8) (i : Nat) (h : i < a.length) : (a ++ b).getD i 0 = a.getD i 0 := by
  simp [List.getD_eq_getElem?_getD, List.getElem?_append_left h]
theorem sgn_app {a : List UInt8} (b : List UInt8) (hne : a ≠ []) (h : good a) : sgn (a ++ b) = sgn a := by
  have hw := sgn_good hne h
  have hl : 1 ≤ a.length := by omega
  unfold sgn
  rw [getD_app a b 0 (by omega)]
  unfold sgn at hw
  exact decodeN_more _ _ _ _ _ _ _ _ _ hl h (by rw [List.length_append]; omega) (fun k => by rw [getD_app a b 1 (by omega)]) (fun k => by rw [getD_app a b 2 (by omega)]) (fun k => by rw [getD_app a b 3 (by omega)])
theorem sgn_cut {a b : List UInt8} (hne : a ≠ []) (h : good (a ++ b)) (hw : (sgn (a ++ b)).2 ≤ a.length) : sgn a = sgn (a ++ b) := by
  have hl : 1 ≤ a.length := by cases a with | nil => exact absurd rfl hne | cons _ _ => simp
  unfold sgn at hw ⊢
  rw [getD_app a b 0 (by omega)] at hw ⊢
  have h' := h
  unfold good sgn at h'
  rw [getD_app a b 0 (by omega)] at h'
  exact decodeN_more _ _ _ _ _ _ _ _ _ (by rw [List.length_append]; omega) h' hw (fun k => by rw [getD_app a b 1 (by omega)]) (fun k => by rw [getD_app a b 2 (by omega)]) (fun k => by rw [getD_app a b 3 (by omega)])
theorem V_app {a b : List UInt8} (ha : V a) (hb : V b) : V (a ++ b) := by
  induction ha with
  | nil => exact hb
  | cons l hne hg h ih =>
    have hw := sgn_good hne hg
    have e := sgn_app b hne hg
    refine V.cons _ (by simp [hne]) (by unfold good; rw [e]; exact hg) ?_
    rw [e, List.drop_append_of_le_length hw.2.1]
    exact ih
theorem sgn_ascii {c : UInt8} (l : List UInt8) (h : c.toNat < 128) : sgn (c :: l) = (c.toNat, 1) := by
  unfold sgn decodeN
  rw [if_pos (by simpa using h)]
  rfl
theorem good_ascii {c : UInt8} (l : List UInt8) (h : c.toNat < 128) : good (c :: l) := by
  unfold good; rw [sgn_ascii l h]; simp only; omega
theorem V_ascii {c : UInt8} {l : List UInt8} (h : c.toNat < 128) (hv : V l) : V (c :: l) :=
  V.cons _ (by simp) (good_ascii l h) (by rw [sgn_ascii l h]; exact hv)
theorem V_ascii_tail {c : UInt8} {l : List UInt8} (h : c.toNat < 128) (hv : V (c :: l)) : V l := by
  cases hv with
  | cons _ hne hg h2 => rw [sgn_ascii l h] at h2; exact h2
/-- A text that is right is right on both sides of a byte below 128. -/
theorem V_cut (c : UInt8) (hc : c.toNat < 128) (b : List UInt8) : ∀ (n : Nat) (a : List UInt8), a.length ≤ n → V (a ++ c :: b) → V a ∧ V b := by
  intro n
  induction n with
  | zero =>
    intro a ha hv
    have : a = [] := List.eq_nil_of_length_eq_zero (by omega)
    subst this
    exact ⟨V.nil, V_ascii_tail hc hv⟩
  | succ n ih =>
    intro a ha hv
    by_cases h0 : a = []
    · subst h0
      exact ⟨V.nil, V_ascii_tail hc hv⟩
    · have hne : a ++ c :: b ≠ [] := by simp
      obtain ⟨hg, h2⟩ := V_inv hv hne
      obtain ⟨h3, h4, h5⟩ := sgn_good hne hg
      have hal : 1 ≤ a.length := by cases a with | nil => exact absurd rfl h0 | cons _ _ => simp
      by_cases hw : (sgn (a ++ c :: b)).2 ≤ a.length
      · have e := sgn_cut h0 hg hw
        rw [List.drop_append_of_le_length hw] at h2
        obtain ⟨v1, v2⟩ := ih _ (by rw [List.length_drop]; omega) h2
        refine ⟨V.cons _ h0 (by unfold good; rw [e]; exact hg) (by rw [e]; exact v1), v2⟩
      · exfalso
        obtain ⟨_, _, _, k1, k2, k3⟩ := decodeN_cont _ _ _ _ _ hg
        have hget : (a ++ c :: b).getD a.length 0 = c := by simp [List.getD_eq_getElem?_getD]
        have hcase : a.length = 1 ∨ a.length = 2 ∨ a.length = 3 := by omega
        unfold sgn at hw
        rcases hcase with e | e | e
        · rw [e] at hget hw
          rw [hget] at k1
          have := k1 (by rw [hget] at hw; omega)
          omega
        · rw [e] at hget hw
          rw [hget] at k2
          have := k2 (by rw [hget] at hw; omega)
          omega
        · rw [e] at hget hw
          rw [hget] at k3
          have := k3 (by rw [hget] at hw; omega)
          omega
/-- badU, and V. -/
theorem badF_V (s : ByteArray) : ∀ (f i : Nat), s.size - i ≤ f → (badF s f i < 0 ↔ V (s.data.toList.drop i))
  | f, i, hf => by
    have hl : s.data.toList.length = s.size := by rw [Array.length_toList]; rfl
    by_cases hp : i < s.size
    · obtain ⟨f, rfl⟩ : ∃ e, f = e + 1 := ⟨f - 1, by omega⟩
      have hne : s.data.toList.drop i ≠ [] := by
        intro e
        have := congrArg List.length e
        rw [List.length_drop, List.length_nil] at this
        omega
      have hs := sgn_at s i
      by_cases hb : (Utf8.decode s i).1 = 65533 ∧ (Utf8.decode s i).2 = 1
      · rw [badF_hit s f i hp hb.1 hb.2]
        constructor
        · intro h; omega
        · intro h
          obtain ⟨hg, _⟩ := V_inv h hne
          exact absurd (by rw [← hs]; exact hb) hg
      · have hw := width_pos s i hp
        rw [badF_on s f i hp hb, badF_V s f (i + (Utf8.decode s i).2) (by omega)]
        constructor
        · intro h
          refine V.cons _ hne (by unfold good; rw [← hs]; exact hb) ?_
          rw [← hs, List.drop_drop]
          exact h
        · intro h
          obtain ⟨hg, h2⟩ := V_inv h hne
          rw [← hs, List.drop_drop] at h2
          exact h2
    · rw [badF_end s f i hp, List.drop_eq_nil_of_le (by omega)]
      exact ⟨fun _ => V.nil, fun _ => by omega⟩
theorem badU_V (s : ByteArray) : badU s < 0 ↔ V s.data.toList := by
  have := badF_V s s.size 0 (by omega)
  simpa [badU] using this
end Go.Proofs.YtiddhdhojhggeaaDoor.My

/- PathBack, plainly: what Clean answers is plain, and its own clean one. No walk here. -/
namespace Go.Proofs.YtiddhdhojhggeaaDoor.My
open Go.RowKit Go.Lib Go.Proofs.YtiddhdhojhggeaaDoorW.PrintWords
set_option maxRecDepth 100000
set_option linter.unusedVariables false
set_option linter.unusedSimpArgs false

def Rt (l : List UInt8) : Prop := V l ∧ 0 ∉ l
theorem rightP_iff (s : ByteArray) : rightP s = true ↔ Rt s.data.toList := by
  unfold rightP Rt
  rw [Bool.and_eq_true, decide_eq_true_iff, decide_eq_true_iff, badU_V, indexByte_neg]
theorem Rt_glue : ∀ ps : List (List UInt8), (∀ p ∈ ps, Rt p) → Rt (glue ps)
  | [], _ => ⟨V.nil, by simp [glue]⟩
  | [p], h => by simpa [glue] using h p (by simp)
  | p :: q :: r, h => by
    obtain ⟨h1, h2⟩ := h p (by simp)
    obtain ⟨h3, h4⟩ := Rt_glue (q :: r) (fun x hx => h x (List.mem_cons_of_mem _ hx))
    rw [glue]
    refine ⟨V_app h1 (V_ascii (by decide) h3), ?_⟩
    intro hm
    rcases List.mem_append.1 hm with hm | hm
    · exact h2 hm
    · rcases List.mem_cons.1 hm with hm | hm
      · cases hm
      · exact h4 hm
theorem Rt_of_glue : ∀ ps : List (List UInt8), Rt (glue ps) → ∀ p ∈ ps, Rt p
  | [], _, p, hp => by simp at hp
  | [q], h, p, hp => by
    rw [List.mem_singleton.1 hp]; simpa [glue] using h
  | q :: r :: t, h, p, hp => by
    rw [glue] at h
    obtain ⟨h1, h2⟩ := h
    obtain ⟨v1, v2⟩ := V_cut 47 (by decide) _ _ q (Nat.le_refl _) h1
    rcases List.mem_cons.1 hp with rfl | hp
    · exact ⟨v1, fun k => h2 (List.mem_append_left _ k)⟩
    · exact Rt_of_glue (r :: t) ⟨v2, fun k => h2 (List.mem_append_right _ (List.mem_cons_of_mem _ k))⟩ p hp
theorem Rt_parts {l : List UInt8} (h : Rt l) : ∀ p ∈ parts l, Rt p := Rt_of_glue _ (by rw [glue_parts]; exact h)

/-- What may stand between slashes. -/
def Fine (L : List (List UInt8)) : Prop := ∀ p ∈ L, oddP p = false ∧ 47 ∉ p ∧ Rt p
theorem cleanL_fine : ∀ (ps acc L : List (List UInt8)), cleanL acc ps = some L → Fine acc → (∀ p ∈ ps, 47 ∉ p ∧ Rt p) → Fine L
  | [], acc, L => fun h ha _ => by
    rw [cleanL] at h
    obtain rfl := Option.some.inj h
    exact ha
  | p :: r, acc, L => fun h ha hp => by
    have hr : ∀ q ∈ r, 47 ∉ q ∧ Rt q := fun q hq => hp q (List.mem_cons_of_mem _ hq)
    rw [cleanL] at h
    split at h
    · split at h
      · cases h
      · exact cleanL_fine r _ L h (fun q hq => ha q (List.mem_of_mem_take (by rw [List.dropLast_eq_take] at hq; exact hq))) hr
    · split at h
      · exact cleanL_fine r _ L h ha hr
      · rename_i h1 h2
        refine cleanL_fine r _ L h (fun q hq => ?_) hr
        rcases List.mem_append.1 hq with hq | hq
        · exact ha q hq
        · rw [List.mem_singleton.1 hq]
          exact ⟨by simpa using h2, hp p (by simp)⟩
theorem cleanL_id : ∀ (ps acc : List (List UInt8)), (∀ p ∈ ps, oddP p = false) → cleanL acc ps = some (acc ++ ps)
  | [], acc, _ => by simp [cleanL]
  | p :: r, acc, h => by
    have h1 := h p (by simp)
    have h2 : p ≠ [46, 46] := by rintro rfl; simp [oddP] at h1
    rw [cleanL, if_neg h2, if_neg (by rw [h1]; simp), cleanL_id r (acc ++ [p]) (fun q hq => h q (List.mem_cons_of_mem _ hq))]
    simp
theorem any_odd {L : List (List UInt8)} (h : ∀ p ∈ L, oddP p = false) : L.any oddP = false := by
  rw [List.any_eq_false]
  intro p hp
  rw [h p hp]; simp
theorem not_odd {L : List (List UInt8)} (h : L.any oddP = false) : ∀ p ∈ L, oddP p = false := by
  intro p hp
  have := List.any_eq_false.1 h p hp
  simpa using this
theorem plainP_iff (s : ByteArray) : plainP s = true ↔ s.size ≤ 255 ∧ Rt s.data.toList ∧ ∀ p ∈ parts s.data.toList, oddP p = false := by
  unfold plainP
  rw [Bool.and_eq_true, Bool.and_eq_true, decide_eq_true_iff, rightP_iff, Bool.not_eq_true']
  exact ⟨fun ⟨a, b, c⟩ => ⟨a, b, not_odd c⟩, fun ⟨a, b, c⟩ => ⟨a, b, any_odd c⟩⟩
theorem plain_clean {s : ByteArray} (h : plainP s = true) : cleanA s = (s.data.toList, none) := by
  obtain ⟨h1, h2, h3⟩ := (plainP_iff s).1 h
  rw [cleanA, if_pos ((rightP_iff s).2 h2), cleanL_id _ _ h3]
  simp only [List.nil_append, glue_parts]
  rw [if_neg (by rw [data_length]; omega)]
theorem back_err {s : ByteArray} {c : Int} (h : (cleanA s).2 = some c) : (cleanA s).1 = [] ∧ plainP s = false := by
  constructor
  · unfold cleanA at h ⊢
    split
    · rename_i hr
      rw [if_pos hr] at h
      split
      · rfl
      · rename_i L hL
        rw [hL] at h
        simp only at h
        split
        · rfl
        · rename_i h2
          rw [if_neg h2] at h
          cases h
    · rfl
  · cases hp : plainP s with
    | false => rfl
    | true => rw [plain_clean hp] at h; cases h
/-- What Clean answers, if it does. -/
structure Cln (x : ByteArray) (L : List (List UInt8)) : Prop where
  fine : Fine L
  eq : x.data.toList = glue L
  len : x.size ≤ 255
theorem back_cln {s x : ByteArray} (h : (cleanA s).2 = none) (hx : x.data.toList = (cleanA s).1) : ∃ L, Cln x L := by
  unfold cleanA at h hx
  by_cases hr : rightP s = true
  · rw [if_pos hr] at h hx
    cases hL : cleanL [] (parts s.data.toList) with
    | none => rw [hL] at h; cases h
    | some L =>
      rw [hL] at h hx
      simp only at h hx
      by_cases h2 : 255 < (glue L).length
      · rw [if_pos h2] at h; cases h
      · rw [if_neg h2] at hx
        refine ⟨L, ⟨cleanL_fine _ _ _ hL (fun p hp => by simp at hp) (fun p hp => ⟨parts_free _ p hp, Rt_parts ((rightP_iff s).1 hr) p hp⟩), hx, ?_⟩⟩
        rw [← data_length, hx]
        simp only
        omega
  · rw [if_neg hr] at h; cases h
theorem Cln.parts {x : ByteArray} {L : List (List UInt8)} (h : Cln x L) (hne : L ≠ []) : parts x.data.toList = L := by
  rw [h.eq, parts_glue L hne (fun p hp => (h.fine p hp).2.1)]
theorem Cln.nil_iff {x : ByteArray} {L : List (List UInt8)} (h : Cln x L) : x.data.toList = [] ↔ L = [] := by
  constructor
  · intro e
    by_cases hL : L = []
    · exact hL
    · have hp := h.parts hL
      rw [e] at hp
      have := (h.fine [] (by rw [← hp]; simp [My.parts])).1
      simp [oddP] at this
  · rintro rfl; rw [h.eq]; rfl
theorem Cln.plain {x : ByteArray} {L : List (List UInt8)} (h : Cln x L) : plainP x = decide (x.data.toList ≠ []) := by
  by_cases hL : L = []
  · have e := h.nil_iff.2 hL
    rw [e, decide_eq_false (by simp)]
    cases hp : plainP x with
    | false => rfl
    | true =>
      have := ((plainP_iff x).1 hp).2.2 [] (by rw [e]; simp [My.parts])
      simp [oddP] at this
  · rw [decide_eq_true (show x.data.toList ≠ [] from fun e => hL (h.nil_iff.1 e))]
    refine (plainP_iff x).2 ⟨h.len, ?_, ?_⟩
    · rw [h.eq]; exact Rt_glue L fun p hp => (h.fine p hp).2.2
    · rw [h.parts hL]; exact fun p hp => (h.fine p hp).1
theorem Cln.again {x : ByteArray} {L : List (List UInt8)} (h : Cln x L) : cleanA x = (x.data.toList, none) := by
  by_cases hL : L = []
  · have e := h.nil_iff.2 hL
    have hr : rightP x = true := (rightP_iff x).2 (by rw [e]; exact ⟨V.nil, by simp⟩)
    rw [cleanA, if_pos hr, e]
    simp [My.parts, cleanL, oddP, glue]
  · exact plain_clean (by rw [h.plain, decide_eq_true (show x.data.toList ≠ [] from fun e => hL (h.nil_iff.1 e))])
theorem back_same {s x : ByteArray} (hp : plainP s = true) (hx : x.data.toList = (cleanA s).1) : x = s := ba_ext (by rw [hx, plain_clean hp])

/-! ### a plain path, cut -/
theorem glue_ne {L : List (List UInt8)} (hne : L ≠ []) (h : ∀ p ∈ L, p ≠ []) : glue L ≠ [] := by
  match L, hne, h with
  | [p], _, h => simpa [glue] using h p (by simp)
  | p :: q :: r, _, h => simp [glue]
theorem odd_ne {p : List UInt8} (h : oddP p = false) : p ≠ [] := by rintro rfl; simp [oddP] at h
theorem cut_join {l : List UInt8} (h : ∀ p ∈ parts l, oddP p = false) : joinP (dirP l) (nameP l) = l ∧ withinP l (dirP l) = true ∧ withinP l l = false := by
  have hne : l ≠ [] := by
    rintro rfl
    have := h [] (by simp [parts])
    simp [oddP] at this
  have hw : withinP l l = false := by
    cases k : withinP l l with
    | false => rfl
    | true =>
      obtain ⟨t, e⟩ := (withinP_iff hne).1 k
      have := congrArg List.length e
      simp at this
  by_cases h47 : 47 ∈ l
  · obtain ⟨a, b, e, hb⟩ : ∃ a b, l = a ++ 47 :: b ∧ 47 ∉ b := by
      clear h hne hw
      induction l with
      | nil => simp at h47
      | cons c r ih =>
        by_cases hr : 47 ∈ r
        · obtain ⟨a, b, e, hb⟩ := ih hr
          exact ⟨c :: a, b, by rw [e]; rfl, hb⟩
        · rcases List.mem_cons.1 h47 with h | h
          · exact ⟨[], r, by rw [← h]; rfl, hr⟩
          · exact absurd h hr
    obtain ⟨d1, d2⟩ := split_some a b hb
    rw [← e] at d1 d2
    have ha : a ≠ [] := by
      rintro rfl
      have := h [] (by rw [e]; simp [parts])
      simp [oddP] at this
    refine ⟨?_, ?_, hw⟩
    · rw [d1, d2, joinP, if_neg ha, e]
    · rw [d1, withinP_iff ha]
      exact ⟨b, e⟩
  · obtain ⟨d1, d2⟩ := split_none h47
    refine ⟨by rw [d1, d2, joinP, if_pos rfl], ?_, hw⟩
    rw [d1, withinP, if_pos rfl, decide_eq_true hne]
theorem ups_good {x u : ByteArray} (hp : plainP x = true) (hu : u.data.toList ∈ upsP x.data.toList) : plainP u = true ∧ withinP x.data.toList u.data.toList = true ∧ lessP u.data.toList x.data.toList = true := by
  obtain ⟨h1, h2, h3⟩ := (plainP_iff x).1 hp
  obtain ⟨i, hi, he⟩ := List.mem_map.1 hu
  rw [List.mem_range'_1] at hi
  have hL : x.data.toList = glue (parts x.data.toList) := (glue_parts _).symm
  generalize hPP : parts x.data.toList = L at *
  have hfree : ∀ p ∈ L, 47 ∉ p := fun p hp => parts_free x.data.toList p (by rw [hPP]; exact hp)
  have ht : L.take i ≠ [] := by
    intro e
    have := congrArg List.length e
    rw [List.length_take, List.length_nil] at this
    omega
  have hd : L.drop i ≠ [] := by
    intro e
    have := congrArg List.length e
    rw [List.length_drop, List.length_nil] at this
    omega
  have hpu : parts u.data.toList = L.take i := by rw [← he]; exact parts_glue _ ht fun p hp => hfree p (List.mem_of_mem_take hp)
  have hx : x.data.toList = u.data.toList ++ 47 :: glue (L.drop i) := by
    rw [hL, ← he, ← glue_app _ _ ht hd, List.take_append_drop]
  have hune : u.data.toList ≠ [] := by
    rw [← he]
    exact glue_ne ht fun p hp => odd_ne (h3 p (List.mem_of_mem_take hp))
  have hw : withinP x.data.toList u.data.toList = true := (withinP_iff hune).2 ⟨_, hx⟩
  refine ⟨(plainP_iff u).2 ⟨?_, ?_, ?_⟩, hw, less_within hune hw⟩
  · have := congrArg List.length hx
    rw [List.length_append, data_length, data_length] at this
    omega
  · rw [← he]
    refine Rt_glue _ fun p hp => ?_
    have hr : ∀ p ∈ L, Rt p := by rw [← hPP]; exact Rt_parts h2
    exact hr p (List.mem_of_mem_take hp)
  · rw [hpu]
    exact fun p hp => h3 p (List.mem_of_mem_take hp)
end Go.Proofs.YtiddhdhojhggeaaDoor.My

/- The walks of path.Plain and of slices.ContainsFunc at path.odd. -/
namespace Go.Proofs.YtiddhdhojhggeaaDoor.My
open Go.RowKit Go.Lib Go.Proofs.YtiddhdhojhggeaaDoorW.PrintWords
set_option linter.unusedVariables false
set_option linter.unusedSimpArgs false

theorem indexf_ok (l : List ByteArray) (A : Option Addr) (c : Nat) (w : World) (hC : Kd.string.C w A l.length l) (hn : l.length ≤ 1000001) :
    Calls Tryd.prog 42 #[.slice A l.length c, .func (.func 28) #[] #[]] w fun e w' => ∃ i : Int, e = .returned (.int .i64 i) ∧ decide (i ≥ 0) = (lists l).any oddP ∧ Drawn0 w w' := by
  have HC := Aside0.mk hC
  clear hC
  go_enter Tryd.func42, Tryd.ntmps42
  go_wp2_with fail
  go_loopw [8] (fun i wr => ∃ (k : Nat), i = .int .i64 k ∧ k ≤ l.length ∧ Aside0 (((lists l).take k).any oddP = false) ∧ Aside0 (Drawn0 w wr)) (fun i _ => l.length - (Go.RowKit.intOf i).toNat)
  case atStart => exact ⟨0, rfl, Nat.zero_le _, ⟨rfl⟩, ⟨Drawn0.refl _⟩⟩
  case round =>
    obtain ⟨k, rfl, hk, HT, HD⟩ := hrel
    have hll : (lists l).length = l.length := by simp
    by_cases hlt : k < l.length
    · obtain ⟨n, rfl⟩ := HD.out.out
      obtain ⟨ad, rfl, hcell⟩ := Kd.at_string (Kd.C_drewN HC.out n) (k : Int) (by omega) (by omega)
      rw [rdOf_nat l k hlt, Int.toNat_natCast] at hcell
      have htk : (lists l).take (k + 1) = (lists l).take k ++ [l[k].data.toList] := by
        rw [List.take_succ_eq_append_getElem (by omega)]; simp
      obtain ⟨x, hx⟩ : ∃ x, x = l[k] := ⟨_, rfl⟩
      rw [← hx] at hcell htk
      have HX := Aside0.mk hx
      have HTK := Aside0.mk htk
      have HO : Aside0 (∀ w, Calls Tryd.prog 28 #[.string x] w fun e w' => e = .returned (.bool (oddP x.data.toList)) ∧ Drawn0 w w') := ⟨fun w => odd_calls x w⟩
      clear hx htk hll
      cases ho : oddP x.data.toList with
      | true =>
        rw [ho] at HO
        have HO2 := Aside0.mk ho
        clear ho
        go_wp2_with (go_at_call 28; refine (HO.out _).mono ?_; rintro e w4 ⟨rfl, ⟨⟨n4, rfl⟩⟩⟩)
        go_ret
        refine ⟨k, rfl, ?_, ⟨⟨_, rfl⟩⟩⟩
        rw [decide_eq_true (by omega)]
        symm
        rw [List.any_eq_true]
        exact ⟨x.data.toList, by rw [HX.out]; exact List.mem_map.2 ⟨_, List.getElem_mem hlt, rfl⟩, HO2.out⟩
      | false =>
        rw [ho] at HO
        have HO2 := Aside0.mk ho
        clear ho
        go_wp2_with (go_at_call 28; refine (HO.out _).mono ?_; rintro e w4 ⟨rfl, ⟨⟨n4, rfl⟩⟩⟩)
        go_roundw
        case rel => exact ⟨k + 1, by go_num, by omega, ⟨by rw [HTK.out, List.any_append, HT.out]; simp [HO2.out]⟩, ⟨⟨⟨_, rfl⟩⟩⟩⟩
        case measure => simp [Go.RowKit.intOf]; omega
    · go_wp2_with fail
      go_ret
      refine ⟨-1, rfl, ?_, HD.out⟩
      have := HT.out
      rw [List.take_of_length_le (by omega)] at this
      rw [this]
      rfl
theorem contains_ok (l : List ByteArray) (A : Option Addr) (c : Nat) (w : World) (hC : Kd.string.C w A l.length l) (hn : l.length ≤ 1000001) :
    Calls Tryd.prog 31 #[.slice A l.length c, .func (.func 28) #[] #[]] w fun e w' => e = .returned (.bool ((lists l).any oddP)) ∧ Drawn0 w w' := by
  have HI := Aside0.mk (indexf_ok l A c w hC hn)
  clear hC
  go_enter Tryd.func31, Tryd.ntmps31
  go_wp2_with (go_at_call 42; refine HI.out.mono ?_; rintro e w4 ⟨i, rfl, hi, hd⟩; have HX := Aside0.mk (And.intro hi hd); clear hi hd)
  go_ret
  exact ⟨by rw [← HX.out.1]; rfl, HX.out.2⟩
theorem plain_ok (s : ByteArray) (w0 w : World) (h : Ok w0 w) (hs : s.size ≤ 1000000) :
    Calls Tryd.prog 12 #[.string s] w fun e w' => e = .returned (.bool (plainP s)) ∧ Ok w0 w' := by
  have HR : Aside0 (∀ w, Ok w0 w → Calls Tryd.prog 27 #[.string s] w fun e w' => e = .returned (.bool (rightP s)) ∧ Ok w0 w') := ⟨fun w h => right_ok s w0 w h hs⟩
  by_cases h2 : s.size ≤ 255
  · cases hr : rightP s with
    | true =>
      rw [hr] at HR
      have HP : Aside0 (plainP s = !(parts s.data.toList).any oddP) := ⟨by rw [plainP, decide_eq_true h2, hr, Bool.true_and, Bool.true_and]⟩
      clear hr
      go_enter Tryd.func12, Tryd.ntmps12
      go_wp2_with (go_at_call 27; refine (HR.out _ h).mono ?_; rintro e w1 ⟨rfl, h1⟩)
      refine (split_ok s w0 _ h1 hs).mono ?_
      rintro e w3 ⟨l, rfl, hl, hn, hc, hb, h3⟩
      have C3 := C_strs w3 _ l _ _ hc (by omega)
      have HL := Aside0.mk (And.intro hl h3)
      have HC := Aside0.mk (contains_ok l _ l.length w3 C3 hn)
      clear hl hc hb h3 C3
      go_wp2_with fail
      refine HC.out.mono ?_
      rintro e w4 ⟨rfl, hd⟩
      have HD := Aside0.mk hd
      rw [HL.out.1]
      have HP2 := HP.out
      clear hd
      cases ha : (parts s.data.toList).any oddP with
      | true =>
        rw [ha] at HP2
        have HP3 := Aside0.mk HP2
        clear HP2 ha
        go_wp2_with fail
        go_ret
        exact ⟨by rw [HP3.out]; rfl, HL.out.2.drawn HD.out⟩
      | false =>
        rw [ha] at HP2
        have HP3 := Aside0.mk HP2
        clear HP2 ha
        go_wp2_with fail
        go_ret
        exact ⟨by rw [HP3.out]; rfl, HL.out.2.drawn HD.out⟩
    | false =>
      rw [hr] at HR
      have HP : Aside0 (plainP s = false) := ⟨by rw [plainP, hr]; simp⟩
      clear hr
      go_enter Tryd.func12, Tryd.ntmps12
      go_wp2_with (go_at_call 27; refine (HR.out _ h).mono ?_; rintro e w1 ⟨rfl, h1⟩)
      go_ret
      exact ⟨by rw [HP.out]; rfl, h1⟩
  · have HP : Aside0 (plainP s = false) := ⟨by rw [plainP, decide_eq_false h2, Bool.false_and]⟩
    go_enter Tryd.func12, Tryd.ntmps12
    go_wp2_with fail
    go_ret
    exact ⟨by rw [HP.out]; rfl, h⟩
end Go.Proofs.YtiddhdhojhggeaaDoor.My

/- PathBack: the law's walk. -/
namespace Go.Proofs.YtiddhdhojhggeaaDoor.My
open Go.RowKit Go.Lib Go.Proofs.YtiddhdhojhggeaaDoorW.PrintWords Go.Proofs.YtiddhdhojhggeaaDoorW.PrintLast Go.Proofs.YtiddhdhojhggeaaDoorW.PrintMore Go.Proofs.YtiddhdhojhggeaaDoor.MyDocUps
set_option maxRecDepth 100000
set_option linter.unusedVariables false
set_option linter.unusedSimpArgs false

theorem back_ok (s : ByteArray) (w0 w : World) (h : Ok w0 w) (hs : s.size ≤ 2000) :
    Calls Tryd.prog 6 #[.string s] w fun e w' => e = .returned (.bool true) ∧ Ok w0 w' := by
  have HS : Aside0 (s.size ≤ 2000) := ⟨hs⟩
  have HPs : Aside0 (∀ w, Ok w0 w → Calls Tryd.prog 12 #[.string s] w fun e w' => e = .returned (.bool (plainP s)) ∧ Ok w0 w') := ⟨fun w h => plain_ok s w0 w h (by omega)⟩
  go_enter Tryd.func6, Tryd.ntmps6
  go_wp2_with (go_at_call 7; refine (alive_ok w0 _ h).mono ?_; rintro e w1 ⟨rfl, h1⟩)
  refine (clean_ok s w0 _ h1 (by have := HS.out; omega)).mono ?_
  rintro e w2 ⟨x, rfl, hx, h2⟩
  cases he : (cleanA s).2 with
  | some c =>
    obtain ⟨p1, p2⟩ := back_err he
    rw [p1] at hx
    have f1 : (x.toList == []) = true := by rw [ByteArray.toList_eq, hx]; rfl
    have f2 : x.toList.isEmpty = true := by rw [ByteArray.toList_eq, hx]; rfl
    rw [p2] at HPs
    have u1 := Tryd.underlying26
    clear he hx p1 p2
    rw [show errV (some c) = .iface 41 (.int .i64 c) from rfl]
    go_wp2_with (go_at_call 12; refine (HPs.out _ h2).mono ?_; rintro e w3 ⟨rfl, h3⟩)
    go_ret
    exact ⟨rfl, h3⟩
  | none =>
    obtain ⟨L, hc⟩ := back_cln he hx
    have hsame := fun hp => back_same (s := s) (x := x) hp hx
    have HX := Aside0.mk (And.intro hc hsame)
    have hxs : x.size ≤ 255 := hc.len
    clear he hx hc hsame
    rw [show errV none = .nilIface from rfl]
    go_wp2_with fail
    have hcl := clean_ok x w0 _ h2 (by omega)
    unfold CleanPost at hcl
    rw [HX.out.1.again] at hcl
    refine hcl.mono ?_
    rintro e w3 ⟨x2, rfl, hx2, h3⟩
    obtain rfl : x2 = x := ba_ext hx2
    clear hx2 hcl
    rw [show errV none = .nilIface from rfl]
    have HPx : Aside0 (∀ w, Ok w0 w → Calls Tryd.prog 12 #[.string x2] w fun e w' => e = .returned (.bool (decide (x2.data.toList ≠ []))) ∧ Ok w0 w') := ⟨fun w h => HX.out.1.plain ▸ plain_ok x2 w0 w h (by have := HX.out.1.len; omega)⟩
    have q1 : (x2.toList == x2.toList) = true := by simp
    have q2 : (!x2.toList == x2.toList) = false := by simp
    go_upto_region 9 with fail
    go_cut [56] from 34 to 56 (fun v56 wx => v56 = .bool false ∧ Aside0 (Ok w0 wx))
    case first =>
      cases hp : plainP s with
      | true =>
        have hxs2 : x2 = s := HX.out.2 hp
        rw [hp] at HPs
        have q3 : (!x2.toList == s.toList) = false := by rw [hxs2]; simp
        have q4 : (x2.toList == s.toList) = true := by rw [hxs2]; simp
        clear hp hxs2
        by_cases h0 : x2.data.toList = []
        · have f1 : (x2.toList == []) = true := by rw [ByteArray.toList_eq, h0]; rfl
          have f2 : x2.toList.isEmpty = true := by rw [ByteArray.toList_eq, h0]; rfl
          rw [decide_eq_false (by simpa using h0)] at HPx
          clear h0
          go_wp2_with (first
              | (go_at_call 12; (with_reducible refine (HPx.out _ (by assumption)).mono ?_); rintro e w' ⟨rfl, h⟩)
              | (go_at_call 12; (with_reducible refine (HPs.out _ (by assumption)).mono ?_); rintro e w' ⟨rfl, h⟩))
          go_meet
          case rel => exact ⟨rfl, ⟨by assumption⟩⟩

        · have f1 : (x2.toList == []) = false := by rw [ByteArray.toList_eq]; exact beq_eq_false_iff_ne.2 h0
          have f2 : x2.toList.isEmpty = false := by
            rw [ByteArray.toList_eq]
            cases k : x2.data.toList with
            | nil => exact absurd k h0
            | cons _ _ => rfl
          rw [decide_eq_true (by simpa using h0)] at HPx
          clear h0
          go_wp2_with (first
              | (go_at_call 12; (with_reducible refine (HPx.out _ (by assumption)).mono ?_); rintro e w' ⟨rfl, h⟩)
              | (go_at_call 12; (with_reducible refine (HPs.out _ (by assumption)).mono ?_); rintro e w' ⟨rfl, h⟩))
          go_meet
          case rel => exact ⟨rfl, ⟨by assumption⟩⟩

      | false =>
        rw [hp] at HPs
        clear hp
        by_cases h0 : x2.data.toList = []
        · have f1 : (x2.toList == []) = true := by rw [ByteArray.toList_eq, h0]; rfl
          have f2 : x2.toList.isEmpty = true := by rw [ByteArray.toList_eq, h0]; rfl
          rw [decide_eq_false (by simpa using h0)] at HPx
          clear h0
          go_wp2_with (first
              | (go_at_call 12; (with_reducible refine (HPx.out _ (by assumption)).mono ?_); rintro e w' ⟨rfl, h⟩)
              | (go_at_call 12; (with_reducible refine (HPs.out _ (by assumption)).mono ?_); rintro e w' ⟨rfl, h⟩))
          go_meet
          case rel => exact ⟨rfl, ⟨by assumption⟩⟩

        · have f1 : (x2.toList == []) = false := by rw [ByteArray.toList_eq]; exact beq_eq_false_iff_ne.2 h0
          have f2 : x2.toList.isEmpty = false := by
            rw [ByteArray.toList_eq]
            cases k : x2.data.toList with
            | nil => exact absurd k h0
            | cons _ _ => rfl
          rw [decide_eq_true (by simpa using h0)] at HPx
          clear h0
          go_wp2_with (first
              | (go_at_call 12; (with_reducible refine (HPx.out _ (by assumption)).mono ?_); rintro e w' ⟨rfl, h⟩)
              | (go_at_call 12; (with_reducible refine (HPs.out _ (by assumption)).mono ?_); rintro e w' ⟨rfl, h⟩))
          go_meet
          case rel => exact ⟨rfl, ⟨by assumption⟩⟩

    case rest =>
      obtain ⟨rfl, H4⟩ := hcut
      clear HPs h1 h2 h3 h
      by_cases h0 : x2.data.toList = []
      · have f1 : (x2.toList == []) = true := by rw [ByteArray.toList_eq, h0]; rfl
        have f2 : x2.toList.isEmpty = true := by rw [ByteArray.toList_eq, h0]; rfl
        clear h0
        go_wp2_with fail
        go_ret
        exact ⟨rfl, H4.out⟩
      · have f1 : (x2.toList == []) = false := by rw [ByteArray.toList_eq]; exact beq_eq_false_iff_ne.2 h0
        have f2 : x2.toList.isEmpty = false := by
          rw [ByteArray.toList_eq]
          cases k : x2.data.toList with
          | nil => exact absurd k h0
          | cons _ _ => rfl
        have hpx : plainP x2 = true := by rw [HX.out.1.plain]; exact decide_eq_true h0
        obtain ⟨j1, j2, j3⟩ := cut_join ((plainP_iff x2).1 hpx).2.2
        have HJ := Aside0.mk (And.intro hpx (And.intro j1 (And.intro j2 j3)))
        clear hpx j1 j2 j3 h0
        go_wp2_with fail
        refine (psplit_ok x2 _ (by have := HX.out.1.len; omega)).mono ?_
        rintro e w5 ⟨d, n, rfl, hd, hn, hdr⟩
        have h5 := H4.out.drawn hdr
        have hds : d.size ≤ 1000000 ∧ n.size ≤ 1000000 := by
          have h1 : (joinP d.data.toList n.data.toList).length ≤ 255 := by rw [hd, hn, HJ.out.2.1, data_length]; exact HX.out.1.len
          unfold joinP at h1
          split at h1
          · rename_i e
            have := congrArg List.length e
            rw [data_length, List.length_nil] at this
            rw [data_length] at h1
            omega
          · rw [List.length_append, List.length_cons, data_length, data_length] at h1
            omega
        obtain ⟨r, r1, r2⟩ := pjoin_f d n hds.1 hds.2
        obtain rfl : r = x2 := ba_ext (by rw [r2, hd, hn, HJ.out.2.1])
        have HJn : Aside0 (∀ w, Calls Tryd.prog 20 #[.string d, .string n] w fun e w' => e = .returned (.string r) ∧ Drawn0 w w') := ⟨fun w => path_Join.calls d n r w r1⟩
        have HW1 : Aside0 (∀ w, Calls Tryd.prog 9 #[.string r, .string d] w fun e w' => e = .returned (.bool true) ∧ w = w') := ⟨fun w => by
          have := within_calls r d w (by omega)
          rw [hd, HJ.out.2.2.1] at this
          exact this⟩
        have HW2 : Aside0 (∀ w, Calls Tryd.prog 9 #[.string r, .string r] w fun e w' => e = .returned (.bool false) ∧ w = w') := ⟨fun w => by
          have := within_calls r r w (by omega)
          rw [HJ.out.2.2.2] at this
          exact this⟩
        obtain ⟨us, u1, u2⟩ := ups_f r (by omega)
        have hul : us.length ≤ 1000 := by
          have h1 := congrArg List.length u2
          have h2 := parts_len r.data.toList
          rw [data_length] at h2
          simp [upsP] at h1
          omega
        have HU : Aside0 (∀ w, Calls Tryd.prog 19 #[.string r] w fun e w' => ∃ v0_ : Value, e = .returned (v0_) ∧ Kd.R Kd.string 9 w' w.heap.size (fun _ => True) v0_ us ∧ Below w.heap.size w w') := ⟨fun w => path_Ups.calls _ r us w u1⟩
        have HUS : Aside0 (∀ u ∈ us, plainP u = true ∧ withinP r.data.toList u.data.toList = true ∧ lessP u.data.toList r.data.toList = true) := ⟨fun u hu => ups_good HJ.out.1 (by rw [← u2]; exact List.mem_map.2 ⟨u, hu, rfl⟩)⟩
        have H5 := Aside0.mk h5
        clear hd hn hdr hds r1 r2 u1 u2 h5
        go_wp2_with (first
          | (go_at_call 20; refine (HJn.out _).mono ?_; rintro e w7 ⟨rfl, hd7⟩; have h7 := H5.out.drawn hd7; clear hd7)
          | (go_at_call 9; (with_reducible refine (HW1.out _).mono ?_); rintro e w8 ⟨rfl, rfl⟩)
          | (go_at_call 9; (with_reducible refine (HW2.out _).mono ?_); rintro e w8 ⟨rfl, rfl⟩))
        refine (HU.out _).mono ?_
        rintro e w9 ⟨v9, rfl, hR9, hb9⟩
        obtain ⟨A9, c9, rfl, hc9, hC9⟩ := Kd.R_reads hR9
        have h9 := h7.next hb9
        have HC9 := Aside0.mk hC9
        have H9 := Aside0.mk h9
        clear hR9 hb9 hC9 h9 h7
        go_wp2_with fail
        go_loopw [83] (fun i wr => ∃ (k : Nat), i = .int .i64 k ∧ k ≤ us.length ∧ Aside0 (Below w9.heap.size w9 wr)) (fun i _ => us.length - (Go.RowKit.intOf i).toNat)
        case atStart => exact ⟨0, rfl, Nat.zero_le _, ⟨Below.refl _ _⟩⟩
        case round =>
          obtain ⟨k, rfl, hk, HB⟩ := hrel
          by_cases hlt : k < us.length
          · obtain ⟨ad, rfl, hcell⟩ := Kd.at_string (Kd.C_below HC9.out HB.out) (k : Int) (by omega) (by omega)
            rw [rdOf_nat us k hlt, Int.toNat_natCast] at hcell
            obtain ⟨u, hu⟩ : ∃ u, u = us[k] := ⟨_, rfl⟩
            rw [← hu] at hcell
            obtain ⟨g1, g2, g3⟩ := HUS.out u (by rw [hu]; exact List.getElem_mem hlt)
            have hus := ((plainP_iff u).1 g1).1
            have hok : Ok wr wr := ⟨H9.out.gl.below HB.out H9.out.gl.low, Below.refl _ _⟩
            have HPu : Aside0 (Calls Tryd.prog 12 #[.string u] wr fun e w' => e = .returned (.bool true) ∧ Ok wr w') := ⟨g1 ▸ plain_ok u wr wr hok (by omega)⟩
            have HWu : Aside0 (∀ w, Calls Tryd.prog 9 #[.string r, .string u] w fun e w' => e = .returned (.bool true) ∧ w = w') := ⟨fun w => by
              have := within_calls r u w (by omega)
              rw [g2] at this
              exact this⟩
            have HLu : Aside0 (∀ w, Ok wr w → Calls Tryd.prog 8 #[.string u, .string r] w fun e w' => e = .returned (.bool true) ∧ Ok wr w') := ⟨fun w h => by
              have := less_ok u r wr w h (by omega) (by omega)
              rw [g3] at this
              exact this⟩
            have HU2 := Aside0.mk hu
            clear hu g1 g2 g3 hok hus
            go_wp2_with (first
              | (go_at_call 12; refine HPu.out.mono ?_; rintro e w10 ⟨rfl, h10⟩)
              | (go_at_call 9; refine (HWu.out _).mono ?_; rintro e w11 ⟨rfl, rfl⟩)
              | (go_at_call 8; refine (HLu.out _ h10).mono ?_; rintro e w12 ⟨rfl, h12⟩))
            go_roundw
            case rel => exact ⟨k + 1, by go_num, by omega, ⟨HB.out.trans (h12.bel.mono HB.out.size)⟩⟩
            case measure => simp [Go.RowKit.intOf]; omega
          · go_wp2_with fail
            go_ret
            exact ⟨rfl, H9.out.next HB.out⟩
theorem back_long (s : ByteArray) (w0 w : World) (h : Ok w0 w) (hl : 2000 < s.size) (h1 : s.size ≤ 140737488351232) :
    Calls Tryd.prog 6 #[.string s] w fun e w' => e = .returned (.bool true) ∧ Ok w0 w' := by
  go_enter Tryd.func6, Tryd.ntmps6
  go_wp2_with (go_at_call 7; refine (alive_ok w0 _ h).mono ?_; rintro e w1 ⟨rfl, h1⟩)
  go_ret
  exact ⟨rfl, by assumption⟩
theorem back_walk (s : ByteArray) (w : World) (hs : s.size ≤ 140737488351232)
    (hL : laidMetH Tryd.prog Rows.pathBackRow.laid w) (hsh : w.ShapedOpen Tryd.prog) :
    Calls Tryd.prog 6 #[.string s] w fun e w' => e = .returned (.bool true) ∧ Below w.heap.size w w' := by
  have hg := Ok.start (gl_of hL hsh)
  by_cases h : 2000 < s.size
  · exact (back_long s w w hg h hs).mono fun e w' ⟨h1, h2⟩ => ⟨h1, h2.bel⟩
  · exact (back_ok s w w hg (by omega)).mono fun e w' ⟨h1, h2⟩ => ⟨h1, h2.bel⟩
end Go.Proofs.YtiddhdhojhggeaaDoor.My
