/- What the document's functions of paths answer, plainly: right, Join, Plain. -/
import Derived.Test.YtiddhdhojhggeaaDoorMyPathA
import Derived.Test.YtiddhdhojhggeaaDoorMySign
namespace Go.Proofs.YtiddhdhojhggeaaDoor.My
open Go.RowKit Go.Lib Go.Proofs.YtiddhdhojhggeaaDoorW.PrintWords Go.Proofs.YtiddhdhojhggeaaDoor.MyDocParts Go.Proofs.YtiddhdhojhggeaaDoor.MyDocClean
set_option maxRecDepth 100000
set_option linter.unusedVariables false
set_option linter.unusedSimpArgs false

theorem indexByte_neg (l : List UInt8) (c : UInt8) : indexByte l c < 0 ↔ c ∉ l := by
  induction l with
  | nil => simp [indexByte]
  | cons b l ih =>
    have hg := indexByte_ge l c
    unfold indexByte
    by_cases h : (b == c) = true
    · rw [if_pos h]
      simp [beq_iff_eq.1 h]
    · rw [if_neg h]
      have hne : ¬ c = b := fun e => h (by simp [e])
      by_cases h2 : (indexByte l c == -1) = true
      · rw [if_pos h2]
        have := beq_iff_eq.1 h2
        simp only [List.mem_cons, hne, false_or]
        exact ⟨fun _ => ih.1 (by omega), fun _ => by omega⟩
      · rw [if_neg h2]
        have h3 : indexByte l c ≠ -1 := fun e => h2 (by simp [e])
        simp only [List.mem_cons, hne, false_or]
        constructor
        · intro k; omega
        · intro k; have := ih.2 k; omega
theorem docRight_run (s : ByteArray) (hs : s.size < 1000000000) : ∀ (d i k : Nat), s.size - i ≤ d → i ≤ s.size → s.size + 22 ≤ k → 0 ∉ s.data.toList.take i →
    crossdockref18_right.l0 (k + d + 1) s (i : Int) = some (rightP s)
  | d, i, k, hd, hi, hk, hn => by
    have hl : s.data.toList.length = s.size := data_length s
    rw [crossdockref18_right.l0]
    by_cases hp : i < s.size
    · obtain ⟨d, rfl⟩ : ∃ e, d = e + 1 := ⟨d - 1, by omega⟩
      rw [if_pos (by omega), if_pos (by omega), bt_nat s i hp]
      have hget : s.data.toList[i]'(by omega) = s[i] := rfl
      by_cases h0 : s[i] = 0
      · rw [if_pos (by rw [h0]; rfl)]
        have hm : 0 ∈ s.data.toList := by rw [← h0, ← hget]; exact List.getElem_mem _
        have : ¬ indexByte s.data.toList 0 < 0 := fun e => (indexByte_neg _ _).1 e hm
        rw [rightP, decide_eq_false this, Bool.and_false]
      · rw [if_neg (fun e => h0 (UInt8.toNat_inj.1 (by simpa using (by omega : (s[i]).toNat = 0)))), wsucc i (by omega), show k + (d + 1) = k + d + 1 by omega]
        refine docRight_run s hs d (i + 1) k (by omega) (by omega) hk ?_
        rw [List.take_succ_eq_append_getElem (by omega), hget]
        intro h
        rcases List.mem_append.1 h with h | h
        · exact hn h
        · exact h0 (List.mem_singleton.1 h).symm
    · have : i = s.size := by omega
      subst this
      rw [if_neg (by omega)]
      have hb := at_rounds (g := fun k => crossdockref11_Bad.f k s) (fun k => crossdockref11_Bad.mono s k) (show s.size + 22 ≤ k + d by omega) (refBad_f s hs)
      rw [hb, Option.bind_some]
      have : indexByte s.data.toList 0 < 0 := (indexByte_neg _ _).2 (by rw [List.take_of_length_le (by omega)] at hn; exact hn)
      rw [rightP, decide_eq_true this, Bool.and_true]
theorem docRight_f (s : ByteArray) (hs : s.size < 1000000000) : crossdockref18_right.f (2 * s.size + 23) s = some (rightP s) := by
  have := docRight_run s hs s.size 0 (s.size + 22) (by omega) (by omega) (by omega) (by simp)
  rw [show 2 * s.size + 23 = s.size + 22 + s.size + 1 by omega]
  simpa [crossdockref18_right.f] using this

theorem glue_snoc (l : List (List UInt8)) (x : List UInt8) (h : l ≠ []) : glue (l ++ [x]) = glue l ++ 47 :: x := by
  rw [glue_app l [x] h (by simp)]; rfl
theorem size_glue (l : List ByteArray) (hn : l.length ≤ 1000001) (hs : ∀ p ∈ l, p.size ≤ 1000000) : (glue (lists l)).length ≤ 1000001 * 1000001 := by
  have hg := glue_len 1000000 (lists l) (fun p hp => by
    obtain ⟨q, hq, rfl⟩ := List.mem_map.1 hp
    have := hs q hq
    rw [data_length]; exact this)
  have h1 : (lists l).length = l.length := by simp
  have h2 : l.length * (1000000 + 1) ≤ 1000001 * 1000001 := Nat.mul_le_mul_right _ hn
  rw [h1] at hg
  exact Nat.le_trans hg h2
theorem ba_ext {a b : ByteArray} (h : a.data.toList = b.data.toList) : a = b := by
  cases a with
  | mk d => cases b with
    | mk e => cases d; cases e; simp only at h; rw [h]
theorem docJoin_run (l : List ByteArray) (hn : l.length ≤ 1000001) (hs : ∀ p ∈ l, p.size ≤ 1000000) : ∀ (d i k : Nat) (acc : ByteArray), l.length - i ≤ d → i ≤ l.length → acc.data.toList = glue ((lists l).take i) →
    ∃ r, crossdockref18_Join.l0 (k + d + 1) acc l (l.length : Int) (i : Int) = some r ∧ r.data.toList = glue (lists l)
  | d, i, k, acc, hd, hi, ha => by
    have hll : (lists l).length = l.length := by simp
    rw [crossdockref18_Join.l0]
    by_cases hp : i < l.length
    · obtain ⟨d, rfl⟩ : ∃ e, d = e + 1 := ⟨d - 1, by omega⟩
      have hx : l[i].size ≤ 1000000 := hs _ (List.getElem_mem hp)
      have hacc : acc.size ≤ 1000001 * 1000001 := by
        have h1 := size_glue (l.take i) (by rw [List.length_take]; omega) (fun p hp => hs p (List.mem_of_mem_take hp))
        have h2 : lists (l.take i) = (lists l).take i := List.map_take
        rw [h2, ← ha, data_length] at h1
        exact h1
      have htk : (lists l).take (i + 1) = (lists l).take i ++ [l[i].data.toList] := by
        rw [List.take_succ_eq_append_getElem (by omega)]; simp
      rw [if_pos (by omega), if_pos (by omega), if_pos (by omega), rdOf_nat l i hp, wsucc i (by omega), show k + (d + 1) = k + d + 1 by omega]
      by_cases h0 : (i : Int) > 0
      · have hsz : (acc ++ (⟨#[47]⟩ : ByteArray)).size = acc.size + 1 := by rw [ByteArray.size_append]; rfl
        rw [if_pos h0, if_pos (by omega), if_pos (by rw [hsz]; omega)]
        refine docJoin_run l hn hs d (i + 1) k _ (by omega) (by omega) ?_
        rw [htk, glue_snoc _ _ (by intro e; have := congrArg List.length e; rw [List.length_take, List.length_nil] at this; omega), ← ha]
        simp
      · have : i = 0 := by omega
        subst this
        rw [if_neg h0, if_pos (by omega)]
        refine docJoin_run l hn hs d 1 k _ (by omega) (by omega) ?_
        have ha' : acc.data.toList = [] := by rw [ha]; rfl
        rw [htk]
        simp [glue, ha']
    · rw [if_neg (by omega)]
      exact ⟨acc, rfl, by rw [ha, List.take_of_length_le (by omega)]⟩
theorem docJoin_f (l : List ByteArray) (hn : l.length ≤ 1000001) (hs : ∀ p ∈ l, p.size ≤ 1000000) : ∃ r, crossdockref18_Join.f (l.length + 1) l = some r ∧ r.data.toList = glue (lists l) := by
  obtain ⟨r, h1, h2⟩ := docJoin_run l hn hs l.length 0 0 ⟨#[]⟩ (by omega) (by omega) rfl
  exact ⟨r, by simpa [crossdockref18_Join.f] using h1, h2⟩

def plainP (s : ByteArray) : Bool := decide (s.size ≤ 255) && (rightP s && !(parts s.data.toList).any oddP)
theorem docPlain_run (l : List ByteArray) (hn : l.length ≤ 1000001) : ∀ (d i k : Nat), l.length - i ≤ d → i ≤ l.length →
    crossdockref18_Plain.l0 (k + d + 1) l (l.length : Int) (i : Int) = some (!((lists l).drop i).any oddP)
  | d, i, k, hd, hi => by
    rw [crossdockref18_Plain.l0]
    by_cases hp : i < l.length
    · obtain ⟨d, rfl⟩ : ∃ e, d = e + 1 := ⟨d - 1, by omega⟩
      have ih := docPlain_run l hn d (i + 1) k (by omega) (by omega)
      rw [if_pos (by omega), if_pos (by omega), if_pos (by omega), rdOf_nat l i hp, ByteArray.toList_eq, lists_drop l i hp, List.any_cons]
      by_cases c1 : l[i].data.toList = []
      · rw [if_pos c1, show oddP l[i].data.toList = true by simp [oddP, c1]]; rfl
      · rw [if_neg c1]
        by_cases c2 : l[i].data.toList = [46]
        · rw [if_pos c2, show oddP l[i].data.toList = true by simp [oddP, c2]]; rfl
        · rw [if_neg c2]
          by_cases c3 : l[i].data.toList = [46, 46]
          · rw [if_pos c3, show oddP l[i].data.toList = true by simp [oddP, c3]]; rfl
          · rw [if_neg c3, show oddP l[i].data.toList = false by simp [oddP, c1, c2, c3], wsucc i (by omega), Bool.false_or]
            exact ih
    · rw [if_neg (by omega), lists_end l i (by omega)]
      rfl
theorem docPlain_f (s : ByteArray) (hs : s.size ≤ 1000000) : ∃ k, crossdockref18_Plain.f k s = some (plainP s) := by
  refine ⟨(2 * s.size + 24) + 1, ?_⟩
  have hl : s.data.toList.length = s.size := data_length s
  unfold crossdockref18_Plain.f plainP
  by_cases h0 : (s.size : Int) < 1
  · rw [if_pos h0, crossdockref18_Plain.j0, if_pos rfl]
    have : s.data.toList = [] := List.eq_nil_of_length_eq_zero (by omega)
    rw [this]
    simp [parts, oddP]
  · rw [if_neg h0]
    by_cases h1 : (s.size : Int) > 255
    · rw [if_pos h1, crossdockref18_Plain.j0, if_pos rfl, decide_eq_false (by omega)]
      rfl
    · have hr := at_rounds (g := fun k => crossdockref18_right.f k s) (fun k => crossdockref18_right.mono s k) (show 2 * s.size + 23 ≤ 2 * s.size + 24 + 1 by omega) (docRight_f s (by omega))
      rw [if_neg h1, hr, Option.bind_some, crossdockref18_Plain.j0, decide_eq_true (show s.size ≤ 255 by omega), Bool.true_and]
      cases rightP s with
      | false => rfl
      | true =>
        obtain ⟨l, p1, p2⟩ := parts_f s (by omega)
        have hp := at_rounds (g := fun k => crossdockref18_Parts.f k s) (fun k => crossdockref18_Parts.mono s k) (show s.size + 2 ≤ 2 * s.size + 24 by omega) p1
        have hlen : l.length ≤ s.size + 1 := by
          have h1 := congrArg List.length p2
          have h2 := parts_len s.data.toList
          simp at h1
          omega
        rw [if_neg (by simp), hp, Option.bind_some]
        have := docPlain_run l (by omega) l.length 0 (2 * s.size + 23 - l.length) (by omega) (by omega)
        rw [show 2 * s.size + 23 - l.length + l.length + 1 = 2 * s.size + 24 by omega] at this
        rw [← p2]
        simpa using this
end Go.Proofs.YtiddhdhojhggeaaDoor.My
