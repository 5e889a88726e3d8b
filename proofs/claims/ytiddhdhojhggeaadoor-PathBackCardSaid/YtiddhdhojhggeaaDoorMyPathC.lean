/- The order of paths: slices.Compare over the parts, as the print tells it, is the plain one. -/
import Derived.Test.YtiddhdhojhggeaaDoorMyPathP
import Derived.Test.YtiddhdhojhggeaaDoorMyDocCmp
import Derived.Test.YtiddhdhojhggeaaDoorMyDocParts
import Derived.Test.YtiddhdhojhggeaaDoorMyDocLess
namespace Go.Proofs.YtiddhdhojhggeaaDoor.My
open Go.RowKit Go.Lib Go.Proofs.YtiddhdhojhggeaaDoorW.PrintWords Go.Proofs.YtiddhdhojhggeaaDoor.MyCmpS Go.Proofs.YtiddhdhojhggeaaDoor.MyDocCmp Go.Proofs.YtiddhdhojhggeaaDoor.MyDocParts Go.Proofs.YtiddhdhojhggeaaDoor.MyDocLess
set_option linter.unusedVariables false
set_option linter.unusedSimpArgs false

abbrev lists (l : List ByteArray) : List (List UInt8) := l.map fun s => s.data.toList
theorem wsucc (i : Nat) (h : i < 9223372036854775807) : wrap64 ((i : Int) + 1) = ((i + 1 : Nat) : Int) := by
  rw [IntWalk.wrap64_in _ (by omega)]; omega
theorem rdOf_nat (l : List ByteArray) (i : Nat) (h : i < l.length) : rdOf ByteArray.empty l (i : Int) = l[i] := by
  simp [rdOf, List.getD_eq_getElem?_getD, h]
theorem lists_drop (l : List ByteArray) (i : Nat) (h : i < l.length) : (lists l).drop i = l[i].data.toList :: (lists l).drop (i + 1) := by
  have : (lists l)[i]'(by simpa using h) = l[i].data.toList := by simp
  rw [← this]
  exact List.drop_eq_getElem_cons (by simpa using h)
theorem lists_end (l : List ByteArray) (i : Nat) (h : l.length ≤ i) : (lists l).drop i = [] := List.drop_eq_nil_of_le (by simpa using h)

def cmpP : List (List UInt8) → List (List UInt8) → Int
  | [], [] => 0
  | [], _ :: _ => -1
  | _ :: _, [] => 1
  | x :: xs, y :: ys => if cmpV x y = 0 then cmpP xs ys else cmpV x y
theorem cmpV_zero (x y : List UInt8) : cmpV x y = 0 ↔ x = y := by
  unfold cmpV
  constructor
  · intro h
    rcases bl_total x y with e | e | e
    · exact e
    · rw [if_pos e] at h; cases h
    · rw [if_neg (by rw [bl_asymm e]; simp), if_pos e] at h; cases h
  · rintro rfl
    simp [bl_irrefl']
theorem cmpV_neg (x y : List UInt8) (h : x ≠ y) : cmpV x y < 0 ↔ Op.bytesLess x y = true := by
  unfold cmpV
  by_cases e : Op.bytesLess x y = true
  · simp [e]
  · rw [if_neg e]
    constructor
    · intro k
      split at k <;> omega
    · exact fun k => absurd k e
theorem cmpP_lt : ∀ a b, cmpP a b < 0 ↔ ltP a b = true
  | [], [] => by simp [cmpP, ltP]
  | [], y :: ys => by simp [cmpP, ltP]
  | x :: xs, [] => by simp [cmpP, ltP]
  | x :: xs, y :: ys => by
    rw [ltP_cons]
    unfold cmpP
    by_cases h : x = y
    · subst h
      rw [if_pos ((cmpV_zero x x).2 rfl), cmpP_lt xs ys]
      simp [bl_irrefl']
    · rw [if_neg (fun k => h ((cmpV_zero x y).1 k)), cmpV_neg x y h]
      simp [h]
theorem compare_run (x y : List ByteArray) (hx : x.length < 1000000000) (hy : y.length < 1000000000) : ∀ (d i k : Nat), x.length - i ≤ d → i ≤ x.length → i ≤ y.length →
    slices_Compare_string_string.l0 (k + d + 1) x y x (x.length : Int) (i : Int) = some (cmpP ((lists x).drop i) ((lists y).drop i))
  | d, i, k, hd, hi, hj => by
    by_cases h : i < x.length
    · obtain ⟨d, rfl⟩ : ∃ e, d = e + 1 := ⟨d - 1, by omega⟩
      rw [slices_Compare_string_string.l0, if_pos (by omega), if_pos (by omega), if_pos (by omega)]
      by_cases h2 : i < y.length
      · rw [if_neg (by omega), if_pos (by omega), rdOf_nat x i h, rdOf_nat y i h2, cmp_f, Option.bind_some, lists_drop x i h, lists_drop y i h2, ByteArray.toList_eq, ByteArray.toList_eq]
        unfold cmpP
        by_cases h3 : cmpV x[i].data.toList y[i].data.toList = 0
        · rw [if_pos h3, if_pos h3, wsucc i (by omega)]
          have := compare_run x y hx hy d (i + 1) k (by omega) (by omega) (by omega)
          rw [show k + (d + 1) = k + d + 1 by omega]
          exact this
        · rw [if_neg h3, if_neg h3]
      · rw [if_pos (by omega), lists_drop x i h, lists_end y i (by omega)]
        rfl
    · rw [slices_Compare_string_string.l0, if_neg (by omega), lists_end x i (by omega)]
      by_cases h2 : i < y.length
      · rw [if_pos (by omega), lists_drop y i h2]
        rfl
      · rw [if_neg (by omega), lists_end y i (by omega)]
        rfl
theorem compare_f (x y : List ByteArray) (hx : x.length < 1000000000) (hy : y.length < 1000000000) : slices_Compare_string_string.f (x.length + 1) x y = some (cmpP (lists x) (lists y)) := by
  have := compare_run x y hx hy x.length 0 0 (by omega) (by omega) (by omega)
  simpa [slices_Compare_string_string.f] using this

/-! ### the document's parts, and its order -/
theorem bt_drop (s : ByteArray) (i : Nat) (h : i < s.size) : s.data.toList.drop i = s[i] :: s.data.toList.drop (i + 1) := by
  have h1 : i < s.data.toList.length := by rw [Array.length_toList]; exact h
  rw [List.drop_eq_getElem_cons h1]
  rfl
theorem bt_nat (s : ByteArray) (i : Nat) (h : i < s.size) : bt s (i : Int) = ((s[i]).toNat : Int) := by simp [bt, h]
theorem bt_47 (s : ByteArray) (i : Nat) (h : i < s.size) : bt s (i : Int) = 47 ↔ s[i] = 47 := by
  rw [bt_nat s i h]
  constructor
  · intro e; exact UInt8.toNat_inj.1 (by simpa using (by omega : (s[i]).toNat = 47))
  · intro e; rw [e]; rfl
theorem extract_list (s : ByteArray) (a b : Nat) : (s.extract a b).data.toList = (s.data.toList.take b).drop a := by
  rw [extract_data, List.drop_take]
/-- What is left to be cut at place i, a part of which began at place a. -/
theorem parts_run (s : ByteArray) (hs : s.size < 1000000) : ∀ (d i k : Nat) (acc : List ByteArray) (a : Nat), s.size + 1 - i ≤ d → i ≤ s.size → a ≤ i → acc.length ≤ a → (∀ c ∈ (s.data.toList.take i).drop a, c ≠ 47) →
    ∃ l, crossdockref18_Parts.l0 (k + d + 1) s acc (a : Int) (i : Int) = some (acc ++ l) ∧ lists l = parts (s.data.toList.drop a)
  | 0, i, k, acc, a, hd, hi, _, _, _ => by omega
  | d + 1, i, k, acc, a, hd, hi, ha, hacc, hf => by
    have hl : s.data.toList.length = s.size := by rw [Array.length_toList]; rfl
    rw [show k + (d + 1) + 1 = (k + d + 1) + 1 by omega, crossdockref18_Parts.l0, if_pos (by omega)]
    have hsp : s.data.toList.drop a = (s.data.toList.take i).drop a ++ s.data.toList.drop i := by
      rw [← List.take_append_drop i s.data.toList]
      rw [List.drop_append_of_le_length (by rw [List.length_take]; omega)]
      simp
      try omega
    have hno : 47 ∉ (s.data.toList.take i).drop a := fun h => hf 47 h rfl
    by_cases he : i = s.size
    · subst he
      rw [if_pos rfl, if_pos (by omega), if_pos (by omega), if_pos (by omega), wsucc s.size (by omega), show k + d + 1 = (k + d) + 1 from rfl, crossdockref18_Parts.l0, if_neg (by omega)]
      refine ⟨_, rfl, ?_⟩
      have e1 : s.data.toList.drop s.size = [] := List.drop_eq_nil_of_le (by omega)
      rw [hsp, e1, List.append_nil, parts_plain _ hno]
      simp [List.drop_take]
    · have hlt : i < s.size := by omega
      rw [if_neg (by omega), if_pos (by omega), if_pos (by omega)]
      by_cases h47 : s[i] = 47
      · rw [if_pos ((bt_47 s i hlt).2 h47), if_pos (by omega), if_pos (by omega), if_pos (by omega), wsucc i (by omega)]
        obtain ⟨l, h1, h2⟩ := parts_run s hs d (i + 1) k (acc ++ [s.extract a i]) (i + 1) (by omega) (by omega) (by omega) (by simp; omega) (by simp [List.drop_eq_nil_of_le, List.length_take]; try omega)
        refine ⟨s.extract a i :: l, by simpa using h1, ?_⟩
        rw [hsp, bt_drop s i hlt, h47, parts_app, parts_plain _ hno, ← h2]
        simp [List.drop_take]
      · rw [if_neg (fun h => h47 ((bt_47 s i hlt).1 h)), wsucc i (by omega)]
        obtain ⟨l, h1, h2⟩ := parts_run s hs d (i + 1) k acc a (by omega) (by omega) (by omega) (by omega) (by
          intro c hc
          have e2 : s.data.toList.take (i + 1) = s.data.toList.take i ++ [s[i]] := by
            rw [List.take_succ_eq_append_getElem (by omega)]; rfl
          rw [e2, List.drop_append_of_le_length (by rw [List.length_take]; omega)] at hc
          rcases List.mem_append.1 hc with hc | hc
          · exact hf c hc
          · rw [List.mem_singleton.1 hc]; exact h47)
        exact ⟨l, h1, h2⟩
theorem parts_f (s : ByteArray) (hs : s.size < 1000000) : ∃ l, crossdockref18_Parts.f (s.size + 2) s = some l ∧ lists l = parts s.data.toList := by
  obtain ⟨l, h1, h2⟩ := parts_run s hs (s.size + 1) 0 0 [] 0 (by omega) (by omega) (by omega) (by simp) (by simp)
  exact ⟨l, by simpa [crossdockref18_Parts.f] using h1, by simpa using h2⟩
theorem less_run (x y : List ByteArray) (hx : x.length < 1000000000) (hy : y.length < 1000000000) : ∀ (d i k : Nat), x.length - i ≤ d → i ≤ x.length → i ≤ y.length →
    crossdockref18_Less.l0 (k + 2 * d + 2) x y (i : Int) = some (ltP ((lists x).drop i) ((lists y).drop i))
  | d, i, k, hd, hi, hj => by
    rw [show k + 2 * d + 2 = (k + 2 * d + 1) + 1 by omega, crossdockref18_Less.l0]
    by_cases h : i < x.length
    · obtain ⟨d, rfl⟩ : ∃ e, d = e + 1 := ⟨d - 1, by omega⟩
      rw [if_pos (by omega), show k + 2 * (d + 1) + 1 = (k + 2 * d + 2) + 1 by omega, crossdockref18_Less.j1]
      by_cases h2 : i < y.length
      · rw [if_pos (by simp; omega), if_pos (by omega), if_pos (by omega), if_pos (by omega), rdOf_nat x i h, rdOf_nat y i h2, lists_drop x i h, lists_drop y i h2, ByteArray.toList_eq, ByteArray.toList_eq]
        rw [show ∀ a b (c d : List (List UInt8)), ltP (a :: c) (b :: d) = if a = b then ltP c d else Op.bytesLess a b from fun _ _ _ _ => rfl]
        by_cases h3 : x[i].data.toList = y[i].data.toList
        · rw [if_pos h3, if_pos h3, wsucc i (by omega)]
          exact less_run x y hx hy d (i + 1) k (by omega) (by omega) (by omega)
        · rw [if_neg h3, if_neg h3]
      · rw [if_neg (by simp; omega), lists_drop x i h, lists_end y i (by omega)]
        simp [ltP]
        try omega
    · rw [if_neg (by omega), show k + 2 * d + 1 = (k + 2 * d) + 1 by omega, crossdockref18_Less.j1, if_neg (by simp), lists_end x i (by omega)]
      by_cases h2 : i < y.length
      · rw [lists_drop y i h2]
        simp [ltP]
        try omega
      · rw [lists_end y i (by omega)]
        simp [ltP]
        try omega
end Go.Proofs.YtiddhdhojhggeaaDoor.My
