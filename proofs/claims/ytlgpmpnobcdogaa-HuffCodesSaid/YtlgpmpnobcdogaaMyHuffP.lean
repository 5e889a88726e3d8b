/- Codes by their lengths, plainly: how many of a length, the first number, where it begins, each sign's code. No program in sight. -/
import Derived.WalkKit
namespace Go.Proofs.Ytlgpmpnobcdogaa.Huf
set_option linter.unusedVariables false
set_option linter.unusedSimpArgs false

/-- A table of 17. -/
def tab (h : Nat → Int) : List Int := (List.range 17).map h
theorem tab_len (h : Nat → Int) : (tab h).length = 17 := by simp [tab]
theorem tab_get (h : Nat → Int) (n : Nat) (hn : n < 17) : (tab h).getD n 0 = h n := by simp [tab, List.getD_eq_getElem?_getD, hn]
theorem tab_set (h h' : Nat → Int) (n : Nat) (x : Int) (hn : n < 17) (h1 : h' n = x) (h2 : ∀ k, k ≠ n → k < 17 → h' k = h k) : (tab h).set n x = tab h' := by
  apply List.ext_getElem
  · simp [tab]
  · intro i a b
    have hi : i < 17 := by simpa [tab] using b
    rw [List.getElem_set]
    split
    · next e => subst e; simp [tab, h1]
    · next e => simp only [tab, List.getElem_map, List.getElem_range]; exact (h2 i (fun h => e h.symm) hi).symm
theorem tab_eq {h h' : Nat → Int} (e : ∀ k, k < 17 → h k = h' k) : tab h = tab h' := by
  unfold tab
  apply List.map_congr_left
  intro k hk
  exact e k (List.mem_range.1 hk)
/-- How many lengths are n. -/
def cn (L : List Int) (n : Nat) : Nat := L.count (n : Int)
/-- Likewise, of length 0 none. -/
def c0 (L : List Int) (n : Nat) : Nat := if n = 0 then 0 else cn L n
def fst (L : List Int) : Nat → Nat
  | 0 => 0
  | n + 1 => 2 * (fst L n + c0 L n)
def beg (L : List Int) : Nat → Nat
  | 0 => 0
  | n + 1 => beg L n + c0 L n
theorem cn_take (L : List Int) (i n : Nat) (x : Int) (h : L[i]? = some x) : cn (L.take (i + 1)) n = cn (L.take i) n + if x = (n : Int) then 1 else 0 := by
  unfold cn
  rw [List.take_add_one, h]
  simp only [Option.toList_some, List.count_append, List.count_cons, List.count_nil, Nat.zero_add, beq_iff_eq]
theorem cn_le (L : List Int) (n : Nat) : cn L n ≤ L.length := List.count_le_length
theorem cn_take_le (L : List Int) (i n : Nat) : cn (L.take i) n ≤ cn L n := (List.take_sublist i L).count_le _
theorem c0_le (L : List Int) (n : Nat) : c0 L n ≤ L.length := by unfold c0; split; omega; exact cn_le L n
theorem beg_mono (L : List Int) (n : Nat) : ∀ k, beg L n ≤ beg L (n + k)
  | 0 => Nat.le_refl _
  | k + 1 => Nat.le_trans (beg_mono L n k) (by show _ ≤ beg L (n + k) + _; omega)
/-- Is each length one that may be? -/
def okL (L : List Int) : Bool := L.all fun x => decide (0 ≤ x ∧ x ≤ 15)
/-- There are more codes of this length, or shorter, than there is room for. -/
def over (L : List Int) (n : Nat) : Bool := decide (2 ^ n < fst L n + cn L n)
/-- The first of so many lengths, from n on, that is over. -/
def anyOver (L : List Int) : Nat → Nat → Bool
  | 0, _ => false
  | k + 1, n => over L n || anyOver L k (n + 1)
def numR (L : List Int) : Int := if anyOver L 15 1 then -1 else 32768 - ((fst L 15 + cn L 15 : Nat) : Int)
/-- A sign's code. -/
def code (L : List Int) (s : Nat) : Nat := let n := (L.getD s 0).toNat; if n = 0 then 0 else fst L n + cn (L.take s) n
/-- Where a sign stands among all that have codes. -/
def pos (L : List Int) (s : Nat) : Nat := let n := (L.getD s 0).toNat; beg L n + cn (L.take s) n
theorem fst_le (L : List Int) : ∀ n, (∀ k, 1 ≤ k → k < n → over L k = false) → fst L n ≤ 2 ^ n
  | 0, _ => by simp [fst]
  | n + 1, h => by
    rw [fst, Nat.pow_succ]
    cases n with
    | zero => simp [fst, c0]
    | succ m =>
      have h1 := h (m + 1) (by omega) (by omega)
      unfold over at h1
      have h2 := of_decide_eq_false h1
      have h3 : c0 L (m + 1) = cn L (m + 1) := by simp [c0]
      omega
theorem beg_le (L : List Int) (n : Nat) : beg L n ≤ n * L.length := by
  induction n with
  | zero => simp [beg]
  | succ n ih =>
    have := c0_le L n
    rw [beg, Nat.succ_mul]
    omega
/-- All signs that have codes. -/
theorem count_split (L : List Int) (h : okL L = true) : ∀ n : Nat, (L.filter fun x => decide (0 < x ∧ x < (n : Int))).length = beg L n
  | 0 => by
    rw [beg]
    rw [List.filter_eq_nil_iff.2]
    · rfl
    · intro x _; simp; omega
  | n + 1 => by
    rw [beg, ← count_split L h n]
    clear h
    unfold c0 cn
    induction L with
    | nil => split <;> rfl
    | cons x L ih =>
      by_cases h0 : n = 0
      · subst h0
        have e : (x :: L).filter (fun x => decide (0 < x ∧ x < ((0 + 1 : Nat) : Int))) = [] := List.filter_eq_nil_iff.2 (by intro y _; simp; omega)
        have e2 : (x :: L).filter (fun x => decide (0 < x ∧ x < ((0 : Nat) : Int))) = [] := List.filter_eq_nil_iff.2 (by intro y _; simp; omega)
        rw [e, e2]; rfl
      · rw [if_neg h0] at ih ⊢
        rw [List.filter_cons, List.filter_cons, List.count_cons]
        by_cases e1 : x = (n : Int)
        · rw [if_pos (by simp; omega), if_neg (by simp; omega), if_pos (by simp [e1])]
          simp only [List.length_cons]
          omega
        · have e3 : (decide (0 < x ∧ x < ((n + 1 : Nat) : Int))) = decide (0 < x ∧ x < (n : Int)) := decide_eq_decide.2 (by omega)
          rw [e3, if_neg (show ¬ (x == (n : Int)) = true by simpa using e1)]
          split
          · simp only [List.length_cons]; omega
          · omega
theorem beg_all (L : List Int) (h : okL L = true) (n : Nat) : beg L n ≤ L.length := by rw [← count_split L h n]; exact List.length_filter_le _ _
theorem pos_lt (L : List Int) (s : Nat) (h : s < L.length) (n : Nat) (hn : L.getD s 0 = (n : Int)) (h0 : n ≠ 0) : cn (L.take s) n < cn L n := by
  have h1 := cn_take L s n (n : Int) (by rw [List.getElem?_eq_getElem h, ← hn, List.getD_eq_getElem?_getD, List.getElem?_eq_getElem h]; rfl)
  rw [if_pos rfl] at h1
  have h2 := cn_take_le L (s + 1) n
  omega
theorem cn_mono (L : List Int) (n : Nat) (i k : Nat) : cn (L.take i) n ≤ cn (L.take (i + k)) n := by
  have : (L.take (i + k)).take i = L.take i := by rw [List.take_take]; congr 1; omega
  rw [← this]
  exact cn_take_le _ _ _
theorem pos_inj (L : List Int) (s t : Nat) (hst : s < t) (ht : t < L.length) (n m : Nat) (hn : L.getD s 0 = (n : Int)) (hm : L.getD t 0 = (m : Int)) (hn0 : n ≠ 0) (hm0 : m ≠ 0) :
    beg L n + cn (L.take s) n ≠ beg L m + cn (L.take t) m := by
  have a1 := pos_lt L s (by omega) n hn hn0
  have a2 := pos_lt L t ht m hm hm0
  have b1 : beg L (n + 1) = beg L n + cn L n := by rw [beg]; simp [c0, hn0]
  have b2 : beg L (m + 1) = beg L m + cn L m := by rw [beg]; simp [c0, hm0]
  rcases Nat.lt_trichotomy n m with h | h | h
  · obtain ⟨k, rfl⟩ : ∃ k, m = (n + 1) + k := ⟨m - (n + 1), by omega⟩
    have := beg_mono L (n + 1) k
    omega
  · subst h
    have h1 := cn_take L s n (n : Int) (by rw [List.getElem?_eq_getElem (by omega), ← hn, List.getD_eq_getElem?_getD, List.getElem?_eq_getElem (by omega)]; rfl)
    rw [if_pos rfl] at h1
    obtain ⟨k, rfl⟩ : ∃ k, t = (s + 1) + k := ⟨t - (s + 1), by omega⟩
    have := cn_mono L n (s + 1) k
    omega
  · obtain ⟨k, rfl⟩ : ∃ k, n = (m + 1) + k := ⟨n - (m + 1), by omega⟩
    have := beg_mono L (m + 1) k
    omega
end Go.Proofs.Ytlgpmpnobcdogaa.Huf
