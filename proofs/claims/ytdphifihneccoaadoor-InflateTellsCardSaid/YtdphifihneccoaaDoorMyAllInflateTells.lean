/- MyDocT, MyRef8, MyDoc8, MyDoc8b, MyDoc8c, MyDoc8t, MyDoc8e, MyDoc8d, MyDoc8f, MySim8, MyDoc8g, MyNumB, MyTellL: laid into one text by merge.py. -/
import Derived.Test.YtdphifihneccoaaDoorPInflateTellsx3
import Derived.Test.YtdphifihneccoaaDoorMyAllB
import Derived.Test.YtdphifihneccoaaDoorPInflateTellsx1
import Derived.Test.YtdphifihneccoaaDoorMyAllI
import Derived.Lib.Walk
import Derived.StillTailTactics
import Derived.Deep.RegionWith

/- The document's Take, plainly. -/
namespace Go.Proofs.YtdphifihneccoaaDoor.My
open Go.RowKit Go.Proofs.YtdphifihneccoaaDoor.Huf Go.Proofs.YtdphifihneccoaaDoor.PInflateTells Go.Proofs.YtdphifihneccoaaDoorW.PrintWords Go.Proofs.YtdphifihneccoaaDoorW.PrintLast Go.Proofs.YtdphifihneccoaaDoorW.PrintMore
set_option maxRecDepth 100000
set_option linter.unusedVariables false
set_option linter.unusedSimpArgs false

/-- From some fuel on, this. -/
def Ev {α : Type} (f : Nat → Option α) (r : α) : Prop := ∃ k0, ∀ k, k0 ≤ k → f k = some r
theorem Ev.step {α : Type} {f g : Nat → Option α} {r : α} (h : Ev g r) (e : ∀ k, f (k + 1) = g k) : Ev f r := by
  obtain ⟨k0, h⟩ := h
  refine ⟨k0 + 1, fun k hk => ?_⟩
  obtain ⟨m, rfl⟩ : ∃ m, k = m + 1 := ⟨k - 1, by omega⟩
  rw [e]
  exact h m (by omega)
theorem Ev.now {α : Type} {f : Nat → Option α} {r : α} (e : ∀ k, f (k + 1) = some r) : Ev f r := by
  refine ⟨1, fun k hk => ?_⟩
  obtain ⟨m, rfl⟩ : ∃ m, k = m + 1 := ⟨k - 1, by omega⟩
  exact e m
/-- The bits from a place on. -/
def lbits (V a left : Nat) : List Int := (List.range left).map fun i => ((bv V (a + i) : Nat) : Int)
theorem lbits_len (V a left : Nat) : (lbits V a left).length = left := by simp [lbits]
theorem lbits_get (V a left i : Nat) (h : i < left) : rd (lbits V a left) (i : Int) = ((bv V (a + i) : Nat) : Int) := by
  unfold rd lbits
  simp [List.getD_eq_getElem?_getD, h]
theorem bitc_list (x i : Nat) : (bitc x i).data.toList = [if x / 2 ^ i % 2 = 1 then 49 else 48] := by unfold bitc; split <;> rfl
theorem app_list (a b : ByteArray) : (a ++ b).data.toList = a.data.toList ++ b.data.toList := by simp
theorem rowF_list (x : Nat) : ∀ j acc, (rowF x j acc).data.toList = acc.data.toList ++ (List.range j).map fun k => if x / 2 ^ (j - 1 - k) % 2 = 1 then (49 : UInt8) else 48
  | 0, acc => by simp [rowF]
  | j + 1, acc => by
    rw [rowF, rowF_list x j, app_list, bitc_list, List.append_assoc, List.range_succ_eq_map, List.map_cons, List.map_map]
    refine congrArg (acc.data.toList ++ ·) (congrArg ((if x / 2 ^ j % 2 = 1 then (49 : UInt8) else 48) :: ·) ?_)
    apply List.map_congr_left
    intro k hk
    simp only [Function.comp]
    rw [show j + 1 - 1 - Nat.succ k = j - 1 - k by omega]
theorem rowOf_list (L : List Int) (s n : Nat) (h : L.getD s 0 = (n : Int)) : (rowOf L s).data.toList = (List.range n).map fun k => if code L s / 2 ^ (n - 1 - k) % 2 = 1 then (49 : UInt8) else 48 := by
  unfold rowOf
  rw [h, Int.toNat_natCast, rowF_list]
  rfl
theorem rowOf_size (L : List Int) (s n : Nat) (h : L.getD s 0 = (n : Int)) : (rowOf L s).size = n := by
  show (rowOf L s).data.size = n
  rw [← Array.length_toList, rowOf_list L s n h]
  simp
theorem bt_list (b : ByteArray) (l : List UInt8) (h : b.data.toList = l) (k : Nat) (hk : k < l.length) : bt b (k : Int) = ((l[k]'hk).toNat : Int) := by
  subst h
  unfold bt
  have h1 : k < b.size := by
    show k < b.data.size
    rw [← Array.length_toList]
    exact hk
  rw [dif_pos (by simpa using h1)]
  rfl
theorem digit_at (L : List Int) (s n k : Nat) (h : L.getD s 0 = (n : Int)) (hk : k < n) : (bt (rowOf L s) (k : Int) - 48) % 256 = ((code L s / 2 ^ (n - 1 - k) % 2 : Nat) : Int) := by
  rw [bt_list _ _ (rowOf_list L s n h) k (by simpa using hk)]
  simp only [List.getElem_map, List.getElem_range]
  have h2 : code L s / 2 ^ (n - 1 - k) % 2 < 2 := Nat.mod_lt _ (by decide)
  generalize code L s / 2 ^ (n - 1 - k) % 2 = q at *
  by_cases e : q = 1
  · rw [if_pos e, e]; decide
  · rw [if_neg e, show q = 0 by omega]; decide
theorem wantL_len2 (L : List Int) : (wantL L).length = L.length := by simp [wantL]
theorem wantL_get2 (L : List Int) (s : Nat) (h : s < L.length) : rdOf ByteArray.empty (wantL L) (s : Int) = rowOf L s := by
  unfold rdOf wantL
  simp [List.getD_eq_getElem?_getD, h]
theorem fits_down (L : List Int) (V a left s n j : Nat) (h : Fits L V a left s n) (hj : j ≤ n) : code L s / 2 ^ (n - j) = cd V a j := by
  obtain ⟨d, rfl⟩ : ∃ d, n = j + d := ⟨n - j, by omega⟩
  rw [h.2.2, show j + d - j = d by omega]
  exact cd_div V a j d
theorem ends_down (L : List Int) (V a left s n j : Nat) (h : Cuts L V a left s n) (hj : j ≤ left) : code L s / 2 ^ (n - j) = cd V a j := by
  obtain ⟨d, rfl⟩ : ∃ d, left = j + d := ⟨left - j, by omega⟩
  have h1 := h.2.2
  have h2 := h.2.1
  rw [show n - j = (n - (j + d)) + d by omega, Nat.pow_add, ← Nat.div_div_eq_div_mul, h1]
  exact cd_div V a j d
theorem l1_ev (L : List Int) (V a left s n : Nat) (x7 : Bool) (r : Int × Int × Int) (hs : Has L s n) (h15 : n ≤ 15)
    (H : ∀ j, j ≤ n → j ≤ left → code L s / 2 ^ (n - j) = cd V a j → (j < n → j < left → code L s / 2 ^ (n - (j + 1)) ≠ cd V a (j + 1)) → Ev (fun k => crossdockref07_Take.j2 k (wantL L) (lbits V a left) x7 s (rowOf L s) (j : Int)) r) :
    ∀ d j, j + d = n → j ≤ left → code L s / 2 ^ (n - j) = cd V a j → Ev (fun k => crossdockref07_Take.l1 k (wantL L) (lbits V a left) x7 s (rowOf L s) (j : Int)) r
  | 0, j, hj, hl, hc => by
    refine Ev.step (H j (by omega) hl hc (fun h => by omega)) (fun k => ?_)
    simp only [crossdockref07_Take.l1]
    rw [if_neg (by rw [rowOf_size L s n hs.2.2]; omega)]
  | d + 1, j, hj, hl, hc => by
    by_cases h1 : j < left
    · have hd := digit_at L s n j hs.2.2 (by omega)
      have hb := lbits_get V a left j h1
      have hstep : code L s / 2 ^ (n - j) = code L s / 2 ^ (n - 1 - j) / 2 := by
        rw [Nat.div_div_eq_div_mul, ← Nat.pow_succ, show n - j = (n - 1 - j) + 1 by omega]
      have e1 : n - (j + 1) = n - 1 - j := by omega
      by_cases e : code L s / 2 ^ (n - 1 - j) % 2 = bv V (a + j)
      · refine Ev.step (l1_ev L V a left s n x7 r hs h15 H d (j + 1) (by omega) h1 ?_) (fun k => ?_)
        · rw [cd, ← hc, hstep, ← e, e1]
          omega
        · simp only [crossdockref07_Take.l1]
          rw [if_pos (by rw [rowOf_size L s n hs.2.2]; omega), if_pos (by rw [lbits_len]; omega), if_pos (by omega), hd, hb, if_pos (by rw [e]), wr1 j (by omega)]
      · refine Ev.step (H j (by omega) hl hc (fun _ _ => ?_)) (fun k => ?_)
        · rw [cd, ← hc, hstep, e1]
          have := bv_lt V (a + j)
          generalize code L s / 2 ^ (n - 1 - j) = q at *
          omega
        · simp only [crossdockref07_Take.l1]
          rw [if_pos (by rw [rowOf_size L s n hs.2.2]; omega), if_pos (by rw [lbits_len]; omega), if_pos (by omega), hd, hb, if_neg (by omega)]
    · refine Ev.step (H j (by omega) hl hc (fun _ h => by omega)) (fun k => ?_)
      simp only [crossdockref07_Take.l1]
      rw [if_pos (by rw [rowOf_size L s n hs.2.2]; omega), if_neg (by rw [lbits_len]; omega)]
theorem code_pow (L : List Int) (hov : anyOver L 15 1 = false) (s n : Nat) (h : Has L s n) (h15 : n ≤ 15) : code L s < 2 ^ n := by
  have h1 := has_range L s n h
  have h2 := over_all L 15 1 hov n (by have := h.2.1; omega) (by omega)
  unfold over at h2
  have h3 := of_decide_eq_false h2
  generalize 2 ^ n = q at *
  omega
theorem l0_ev (L : List Int) (hok : okL L = true) (hov : anyOver L 15 1 = false) (hl : L.length ≤ 320) (V a left : Nat) (hleft : left ≤ 1000000) : ∀ d s (x7 : Bool), s + d = L.length → (∀ t n, t < s → ¬ Fits L V a left t n) → (x7 = true → ∃ t n, Cuts L V a left t n) → (x7 = false → ∀ t n, t < s → ¬ Cuts L V a left t n) →
    ∃ x n e, TakeR L V a left x n e ∧ Ev (fun k => crossdockref07_Take.l0 k (wantL L) (lbits V a left) x7 (s : Int)) (x, (n : Int), numE e)
  | 0, s, x7, hs, hf, h1, h2 => by
    cases x7 with
    | true =>
      obtain ⟨t, n, ht⟩ := h1 rfl
      refine ⟨0, 0, some 10, .ends (fun t n h => hf t n (by have := h.1.1; omega) h) t n ht, Ev.now fun k => ?_⟩
      simp only [crossdockref07_Take.l0]
      rw [if_neg (by rw [wantL_len2]; omega), if_pos trivial]
      rfl
    | false =>
      refine ⟨0, 0, some 2, .form (fun t n h => hf t n (by have := h.1.1; omega) h) (fun t n h => h2 rfl t n (by have := h.1.1; omega) h), Ev.now fun k => ?_⟩
      simp only [crossdockref07_Take.l0]
      rw [if_neg (by rw [wantL_len2]; omega), if_neg (by decide)]
      rfl
  | d + 1, s, x7, hs, hf, h1, h2 => by
    have hlt : s < L.length := by omega
    have h15 := getD_ok L hok s hlt
    obtain ⟨n, hn⟩ := Int.eq_ofNat_of_zero_le h15.1
    have hlist := rowOf_list L s n hn
    have hsz := rowOf_size L s n hn
    by_cases hn0 : n = 0
    · subst hn0
      have no1 : ∀ t n, t < s + 1 → ¬ Fits L V a left t n := fun t n ht h => by
        by_cases e : t = s
        · subst e; have h3 := h.1.2.2; have h4 := h.1.2.1; rw [hn] at h3; exact h4 (by omega)
        · exact hf t n (by omega) h
      have no2 : x7 = false → ∀ t n, t < s + 1 → ¬ Cuts L V a left t n := fun hx t n ht h => by
        by_cases e : t = s
        · subst e; have h3 := h.1.2.2; have h4 := h.1.2.1; rw [hn] at h3; exact h4 (by omega)
        · exact h2 hx t n (by omega) h
      obtain ⟨x, n, e, hT, hE⟩ := l0_ev L hok hov hl V a left hleft d (s + 1) x7 (by omega) no1 h1 no2
      refine ⟨x, n, e, hT, Ev.step hE fun k => ?_⟩
      simp only [crossdockref07_Take.l0]
      rw [if_pos (by rw [wantL_len2]; omega), if_pos (by omega), wantL_get2 L s hlt, ByteArray.toList_eq, hlist, if_pos (by rfl : List.map (fun k => if code L s / 2 ^ (0 - 1 - k) % 2 = 1 then (49 : UInt8) else 48) (List.range 0) = []), wr1 s (by omega)]
    · have hs' : Has L s n := ⟨hlt, hn0, hn⟩
      have hn15 : n ≤ 15 := by omega
      have hcode0 : code L s / 2 ^ (n - 0) = cd V a 0 := Nat.div_eq_of_lt (code_pow L hov s n hs' hn15)
      have hstep0 : ∀ k, crossdockref07_Take.l0 (k + 1) (wantL L) (lbits V a left) x7 (s : Int) = crossdockref07_Take.l1 k (wantL L) (lbits V a left) x7 (s : Int) (rowOf L s) ((0 : Nat) : Int) := fun k => by
        simp only [crossdockref07_Take.l0]
        rw [if_pos (by rw [wantL_len2]; omega), if_pos (by omega), wantL_get2 L s hlt, if_neg (by rw [ByteArray.toList_eq]; intro e; rw [e] at hlist; have := congrArg List.length hlist; simp at this; omega)]
        rfl
      by_cases hfit : Fits L V a left s n
      · refine ⟨s, n, none, .sign s n hfit, Ev.step (l1_ev L V a left s n x7 _ hs' hn15 (fun j h1 h2 h3 h4 => ?_) n 0 (by omega) (by omega) hcode0) hstep0⟩
        have hjn : j = n := by
          by_cases e : j = n
          · exact e
          · exact absurd (fits_down L V a left s n (j + 1) hfit (by omega)) (h4 (by omega) (by have := hfit.2.1; omega))
        refine Ev.now fun k => ?_
        simp only [crossdockref07_Take.j2]
        rw [if_pos (by rw [hsz, hjn]), hjn]
        rfl
      · have no1 : ∀ t m, t < s + 1 → ¬ Fits L V a left t m := fun t m ht h => by
          by_cases e : t = s
          · subst e
            have h3 := h.1.2.2
            rw [hn] at h3
            have : m = n := by omega
            subst this
            exact hfit h
          · exact hf t m (by omega) h
        by_cases hend : Cuts L V a left s n
        · obtain ⟨x, m, e, hT, hE⟩ := l0_ev L hok hov hl V a left hleft d (s + 1) true (by omega) no1 (fun _ => ⟨s, n, hend⟩) (fun h => by cases h)
          refine ⟨x, m, e, hT, Ev.step (l1_ev L V a left s n x7 _ hs' hn15 (fun j h1 h2 h3 h4 => ?_) n 0 (by omega) (by omega) hcode0) hstep0⟩
          have hlt2 := hend.2.1
          have hjl : j = left := by
            by_cases e : j = left
            · exact e
            · exact absurd (ends_down L V a left s n (j + 1) hend (by omega)) (h4 (by omega) (by omega))
          refine Ev.step hE fun k => ?_
          simp only [crossdockref07_Take.j2]
          rw [if_neg (by rw [hsz, hjl]; omega), if_pos (by rw [lbits_len, hjl]), wr1 s (by omega)]
        · have no2 : x7 = false → ∀ t m, t < s + 1 → ¬ Cuts L V a left t m := fun hx t m ht h => by
            by_cases e : t = s
            · subst e
              have h3 := h.1.2.2
              rw [hn] at h3
              have : m = n := by omega
              subst this
              exact hend h
            · exact h2 hx t m (by omega) h
          obtain ⟨x, m, e, hT, hE⟩ := l0_ev L hok hov hl V a left hleft d (s + 1) x7 (by omega) no1 h1 no2
          refine ⟨x, m, e, hT, Ev.step (l1_ev L V a left s n x7 _ hs' hn15 (fun j h1 h2 h3 h4 => ?_) n 0 (by omega) (by omega) hcode0) hstep0⟩
          have hjn : j ≠ n := fun e => hfit ⟨hs', by omega, by subst e; simpa using h3⟩
          have hjl : j ≠ left := fun e => hend ⟨hs', by omega, by subst e; exact h3⟩
          refine Ev.step hE fun k => ?_
          simp only [crossdockref07_Take.j2]
          rw [if_neg (by rw [hsz]; omega), if_neg (by rw [lbits_len]; omega), wr1 s (by omega)]
/-- The document's answer. -/
theorem doc_take (L : List Int) (hok : okL L = true) (hov : anyOver L 15 1 = false) (hl : L.length ≤ 320) (V a left : Nat) (hleft : left ≤ 1000000) :
    ∃ x n e k, TakeR L V a left x n e ∧ crossdockref07_Take.f k (wantL L) (lbits V a left) = some (x, (n : Int), numE e) := by
  obtain ⟨x, n, e, hT, k0, hE⟩ := l0_ev L hok hov hl V a left hleft L.length 0 false (by omega) (fun t n h => by omega) (fun h => by cases h) (fun _ t n h => by omega)
  exact ⟨x, n, e, k0, hT, hE k0 (Nat.le_refl _)⟩
end Go.Proofs.YtdphifihneccoaaDoor.My

/- The document's Of and Number, as numbers. -/
namespace Go.Proofs.YtdphifihneccoaaDoor.My
open Go.RowKit Go.Proofs.YtdphifihneccoaaDoor.Huf Go.Proofs.YtdphifihneccoaaDoor.PInflateTells Go.Proofs.YtdphifihneccoaaDoorW.PrintWords Go.Proofs.YtdphifihneccoaaDoorW.PrintLast Go.Proofs.YtdphifihneccoaaDoorW.PrintMore
set_option maxRecDepth 100000
set_option linter.unusedVariables false
set_option linter.unusedSimpArgs false

/-- The bits of a number, the lowest one first. -/
def btL (V N : Nat) : List Int := (List.range N).map fun i => ((V / 2 ^ i % 2 : Nat) : Int)
@[simp] theorem btL_len (V N : Nat) : (btL V N).length = N := by simp [btL]
theorem btL_rd (V N i : Nat) (h : i < N) : rd (btL V N) (i : Int) = ((V / 2 ^ i % 2 : Nat) : Int) := by simp [rd, btL, List.getD_eq_getElem?_getD, h]
theorem leB_rd (V n i : Nat) (h : i < n) : rd (leB V n) (i : Int) = ((V / 2 ^ (8 * i) % 256 : Nat) : Int) := by unfold rd; rw [Int.toNat_natCast]; exact leB_getD V n i h
theorem next1 (i : Nat) (h : i ≤ 1000000000000000) : wrap64 ((i : Int) + 1) = ((i + 1 : Nat) : Int) := by unfold wrap64; omega
theorem btL_succ (V m : Nat) : btL V (m + 1) = btL V m ++ [((V / 2 ^ m % 2 : Nat) : Int)] := by simp [btL, List.range_succ]
theorem bit_of (y t : Nat) (hy : y < 256) (ht : t < 8) : Go.bits .and .u8 (shr .u8 (y : Int) (IntKind.u64.wrap (t : Int))) 1 = ((y / 2 ^ t % 2 : Nat) : Int) := by
  have : ∀ y : Fin 256, ∀ t : Fin 8, Go.bits .and .u8 (shr .u8 (y.val : Int) (IntKind.u64.wrap (t.val : Int))) 1 = ((y.val / 2 ^ t.val % 2 : Nat) : Int) := by decide +kernel
  exact this ⟨y, hy⟩ ⟨t, ht⟩
theorem byte_bit (V i t : Nat) (ht : t < 8) : V / 2 ^ (8 * i) % 256 / 2 ^ t % 2 = V / 2 ^ (8 * i + t) % 2 := by
  rw [show (256 : Nat) = 2 ^ t * 2 ^ (8 - t) by rw [← Nat.pow_add, show t + (8 - t) = 8 by omega], Nat.mod_mul_right_div_self, Nat.div_div_eq_div_mul, ← Nat.pow_add]
  exact Nat.mod_mod_of_dvd _ ⟨2 ^ (7 - t), by rw [Nat.mul_comm, ← Nat.pow_succ]; congr 1; omega⟩
theorem of_bit (V n i t k : Nat) (hi : i < n) (ht : t < 8) (hn : n ≤ 1000000000000) : crossdockref06_Of.l1 (k + 1) (leB V n) (btL V (8 * i + t)) (i : Int) (t : Int) = crossdockref06_Of.l1 k (leB V n) (btL V (8 * i + (t + 1))) (i : Int) ((t + 1 : Nat) : Int) := by
  have c1 : (t : Int) < 8 := by omega
  have c2 : (0 : Int) ≤ (i : Int) := Int.natCast_nonneg _
  have c3 : (i : Int) < (n : Int) := by omega
  have c4 : (0 : Int) ≤ IntKind.u64.wrap (t : Int) := by rw [IntKind.wrap_u64]; omega
  have c5 : 8 * i + t < 140737488355328 := by omega
  have hy : V / 2 ^ (8 * i) % 256 < 256 := Nat.mod_lt _ (by decide)
  rw [crossdockref06_Of.l1, if_pos c1, if_pos c2, leB_len, if_pos c3, if_pos c4, btL_len, if_pos c5, leB_rd _ _ _ hi, bit_of _ _ hy ht, byte_bit _ _ _ ht, ← btL_succ, next1 t (by omega)]
  rfl
theorem of_in (V n i k : Nat) (hi : i < n) (x3 : List Int) : crossdockref06_Of.l0 (k + 1) (leB V n) x3 (i : Int) = crossdockref06_Of.l1 k (leB V n) x3 (i : Int) ((0 : Nat) : Int) := by
  have c1 : (i : Int) < (n : Int) := by omega
  rw [crossdockref06_Of.l0, leB_len, if_pos c1]
  rfl
theorem of_next (V n i k : Nat) (hi : i ≤ 1000000000000) (x3 : List Int) : crossdockref06_Of.l1 (k + 1) (leB V n) x3 (i : Int) ((8 : Nat) : Int) = crossdockref06_Of.l0 k (leB V n) x3 ((i + 1 : Nat) : Int) := by
  rw [crossdockref06_Of.l1, if_neg (by decide), next1 i (by omega)]
theorem of_round (V n i k : Nat) (hi : i < n) (hn : n ≤ 1000000000000) : crossdockref06_Of.l0 (k + 10) (leB V n) (btL V (8 * i)) (i : Int) = crossdockref06_Of.l0 k (leB V n) (btL V (8 * (i + 1))) ((i + 1 : Nat) : Int) := by
  rw [of_in V n i (k + 9) hi]
  exact (of_bit V n i 0 (k + 8) hi (by decide) hn).trans ((of_bit V n i 1 (k + 7) hi (by decide) hn).trans ((of_bit V n i 2 (k + 6) hi (by decide) hn).trans ((of_bit V n i 3 (k + 5) hi (by decide) hn).trans ((of_bit V n i 4 (k + 4) hi (by decide) hn).trans
    ((of_bit V n i 5 (k + 3) hi (by decide) hn).trans ((of_bit V n i 6 (k + 2) hi (by decide) hn).trans ((of_bit V n i 7 (k + 1) hi (by decide) hn).trans (of_next V n i k (by omega) _))))))))
theorem of_l0 (V n : Nat) (hn : n ≤ 1000000000000) : ∀ d i, n = i + d → crossdockref06_Of.l0 (10 * d + 1) (leB V n) (btL V (8 * i)) (i : Int) = some (btL V (8 * n)) := by
  intro d
  induction d with
  | zero =>
    intro i e
    obtain rfl : n = i := by omega
    rw [Nat.mul_zero, Nat.zero_add, crossdockref06_Of.l0, leB_len, if_neg (Int.lt_irrefl _)]
  | succ d ih =>
    intro i e
    rw [show 10 * (d + 1) + 1 = 10 * d + 1 + 10 by omega, of_round V n i _ (by omega) hn]
    exact ih (i + 1) (by omega)
theorem of_f (V n : Nat) (hn : n ≤ 1000000000000) : crossdockref06_Of.f (10 * n + 1) (leB V n) = some (btL V (8 * n)) := of_l0 V n hn n 0 (by omega)
theorem num_step (U i : Nat) (m : Nat) : U / 2 ^ i % 2 ^ (m + 1) = U / 2 ^ (i + 1) % 2 ^ m * 2 + U / 2 ^ i % 2 := by
  rw [show U / 2 ^ (i + 1) = U / 2 ^ i / 2 by rw [Nat.pow_succ, Nat.div_div_eq_div_mul], Nat.pow_succ, Nat.mul_comm (2 ^ m) 2, Nat.mod_mul]
  omega
theorem number_l0 (U n : Nat) (hn : n ≤ 32) : ∀ i, i ≤ n → crossdockref06_Number.l0 (i + 1) (btL U n) ((U / 2 ^ i % 2 ^ (n - i) : Nat) : Int) ((i : Int) - 1) = some ((U % 2 ^ n : Nat) : Int)
  | 0, _ => by
    have h1 : U % 2 ^ n < 2 ^ 32 := Nat.lt_of_lt_of_le (Nat.mod_lt _ (Nat.two_pow_pos _)) (Nat.pow_le_pow_right (by decide) hn)
    rw [crossdockref06_Number.l0, if_neg (by omega)]
    simp only [Nat.pow_zero, Nat.div_one, Nat.sub_zero]
    congr 1
    omega
  | i + 1, h => by
    have h0 : U / 2 ^ (i + 1) % 2 ^ (n - (i + 1)) < 2 ^ 32 := Nat.lt_of_lt_of_le (Nat.mod_lt _ (Nat.two_pow_pos _)) (Nat.pow_le_pow_right (by decide) (by omega))
    have hb : U / 2 ^ i % 2 < 2 := Nat.mod_lt _ (by decide)
    have hs := num_step U i (n - (i + 1))
    rw [show n - (i + 1) + 1 = n - i by omega] at hs
    have ih := number_l0 U n hn i (by omega)
    rw [crossdockref06_Number.l0, if_pos (by omega), if_pos (by omega), btL_len, if_pos (by omega)]
    rw [show ((i + 1 : Nat) : Int) - 1 = (i : Int) by omega, btL_rd U n i (by omega)]
    rw [hs] at ih
    rw [show IntKind.u64.wrap (IntKind.u64.wrap (((U / 2 ^ (i + 1) % 2 ^ (n - (i + 1)) : Nat) : Int) * 2) + IntKind.u64.wrap ((U / 2 ^ i % 2 : Nat) : Int)) = ((U / 2 ^ (i + 1) % 2 ^ (n - (i + 1)) * 2 + U / 2 ^ i % 2 : Nat) : Int) by
      generalize U / 2 ^ (i + 1) % 2 ^ (n - (i + 1)) = x at *
      generalize U / 2 ^ i % 2 = y at *
      rw [IntKind.wrap_u64, IntKind.wrap_u64, IntKind.wrap_u64]
      omega, show wrap64 ((i : Int) - 1) = (i : Int) - 1 by unfold wrap64; omega]
    exact ih
theorem number_f (U n : Nat) (hn : n ≤ 32) : crossdockref06_Number.f (n + 1) (btL U n) = some ((U % 2 ^ n : Nat) : Int) := by
  have h := number_l0 U n hn n (Nat.le_refl _)
  rw [Nat.sub_self, Nat.pow_zero, Nat.mod_one] at h
  unfold crossdockref06_Number.f
  rw [btL_len, show wrap64 ((n : Int) - 1) = (n : Int) - 1 by unfold wrap64; omega]
  exact h
theorem refNumber_calls (A : Option Addr) (c U n : Nat) (w : World) (hn : n ≤ 32) (hl : (Kd.int .u8).C w A n (btL U n)) (hc : n ≤ c) :
    Calls Tryd.prog 34 #[.slice A n c] w fun e w' => e = .returned (.int .u32 (U % 2 ^ n : Nat)) ∧ ∃ m, w' = w.drewN m := by
  have h := crossdockref06_Number.calls (n + 1) A c (btL U n) _ w (by rw [btL_len]; exact hl) (by rw [btL_len]; exact hc) (number_f U n hn)
  rw [btL_len] at h
  refine h.mono ?_
  rintro e w' ⟨rfl, ⟨m, rfl⟩⟩
  exact ⟨rfl, m, rfl⟩
theorem btL_mid (V N p k : Nat) (h : p + k ≤ N) : ((btL V N).take (p + k)).drop p = btL (V / 2 ^ p) k := by
  apply List.ext_getElem
  · simp; omega
  · intro i h1 h2
    have hi : i < k := by simpa using h2
    simp only [List.getElem_drop, List.getElem_take, btL, List.getElem_map, List.getElem_range]
    rw [Nat.div_div_eq_div_mul, ← Nat.pow_add]

theorem lbits_btL (V a n : Nat) : lbits V a n = btL (V / 2 ^ a) n := by
  unfold lbits btL bv
  apply map_range_congr
  intro u _
  rw [Nat.div_div_eq_div_mul, ← Nat.pow_add]
end Go.Proofs.YtdphifihneccoaaDoor.My

/- The document's machine: its steps as a function, and the walks of the small ones. -/
namespace Go.Proofs.YtdphifihneccoaaDoor.My
open Go.RowKit Go.Proofs.YtdphifihneccoaaDoor.Huf Go.Proofs.YtdphifihneccoaaDoor.PInflateTells Go.Proofs.YtdphifihneccoaaDoorW.PrintWords Go.Proofs.YtdphifihneccoaaDoorW.PrintLast Go.Proofs.YtdphifihneccoaaDoorW.PrintMore
set_option maxRecDepth 100000
set_option linter.unusedVariables false
set_option linter.unusedSimpArgs false
/-- What the document's machine holds. -/
structure DS where
  a : Nat
  out : List Int
  st : Int
  bad : Int
/-- Which bits: above a world of which all is kept. -/
structure Bts (W1 : World) (AL : Option Addr) (cL V N : Nat) : Prop where
  c : (Kd.int .u8).C W1 AL N (btL V N)
  cap : N ≤ cL
  nil : AL = none → N = 0 ∧ cL = 0
  hl : N ≤ 1600
structure Doc (W1 w : World) (g : Nat) (AL : Option Addr) (cL N : Nat) (lim : Int) (vo : Value) (d : DS) : Prop where
  bel : Below W1.heap.size W1 w
  blk : w.heap[g]? = some (.cells #[.slice AL N cL, .int .i64 d.a, vo, .int .i64 lim, .int .i64 d.st, .int .i64 d.bad] 51 (0, 0))
  row : w.ownsRow W1.heap.size 5 1 vo d.out.length (nums .u8 d.out)
  bg : W1.heap.size ≤ g
  al : d.a ≤ N
section
variable {W1 w w1 w2 : World} {g : Nat} {AL : Option Addr} {cL V N : Nat} {lim : Int} {vo v1 v2 : Value} {d : DS}
theorem Doc.cells (h : Doc W1 w g AL cL N lim vo d) : w.cell? ⟨g, 0, none⟩ = some (.slice AL N cL) ∧ w.cell? ⟨g, 1, none⟩ = some (.int .i64 d.a) ∧ w.cell? ⟨g, 2, none⟩ = some vo ∧ w.cell? ⟨g, 3, none⟩ = some (.int .i64 lim) ∧ w.cell? ⟨g, 4, none⟩ = some (.int .i64 d.st) ∧ w.cell? ⟨g, 5, none⟩ = some (.int .i64 d.bad) ∧ (∀ j, w.frozen? ⟨g, j, none⟩ = false) := by
  refine ⟨?_, ?_, ?_, ?_, ?_, ?_, ?_⟩ <;> first | (rw [blk_cell h.blk]; rfl) | exact blk_frozen h.blk
theorem Doc.ne (h : Doc W1 w g AL cL N lim vo d) : some g ≠ vo.ownBlock := own_ne h.row h.blk (by decide)
theorem Doc.below (h : Doc W1 w g AL cL N lim vo d) (hb : Below w.heap.size w w1) : Doc W1 w1 g AL cL N lim vo d :=
  ⟨h.bel.trans (Below.mono hb h.bel.size), blk_below h.blk hb, pw_own_below h.row hb, h.bg, h.al⟩
theorem Doc.drewN (h : Doc W1 w g AL cL N lim vo d) (n : Nat) : Doc W1 (w.drewN n) g AL cL N lim vo d := h.below ⟨rfl, rfl, rfl, Nat.le_refl _, fun _ _ => rfl⟩
theorem Doc.drew (h : Doc W1 w g AL cL N lim vo d) : Doc W1 w.drew g AL cL N lim vo d := h.below ⟨rfl, rfl, rfl, Nat.le_refl _, fun _ _ => rfl⟩
theorem Doc.set (h : Doc W1 w g AL cL N lim vo d) (j : Nat) (u : Value) (d' : DS) (ho : d'.out = d.out) (ha : d'.a ≤ N) (he : (#[.slice AL N cL, .int .i64 d.a, vo, .int .i64 lim, .int .i64 d.st, .int .i64 d.bad] : Array Value).setIfInBounds j u = #[.slice AL N cL, .int .i64 d'.a, vo, .int .i64 lim, .int .i64 d'.st, .int .i64 d'.bad]) : Doc W1 (w.setCell ⟨g, j, none⟩ u) g AL cL N lim vo d' := by
  have hb := blk_set h.blk j u
  rw [he] at hb
  refine ⟨Below.setCell h.bel h.bg _, hb, ?_, h.bg, ha⟩
  rw [ho]
  exact own_setCell h.row h.ne _
theorem Doc.setAt (h : Doc W1 w g AL cL N lim vo d) (n : Nat) (hn : n ≤ N) : Doc W1 (w.setCell ⟨g, 1, none⟩ (.int .i64 (n : Int))) g AL cL N lim vo { d with a := n } := h.set 1 _ _ rfl hn (by simp)
theorem Doc.setSt (h : Doc W1 w g AL cL N lim vo d) (n : Int) : Doc W1 (w.setCell ⟨g, 4, none⟩ (.int .i64 n)) g AL cL N lim vo { d with st := n } := h.set 4 _ _ rfl h.al (by simp)
theorem Doc.setBad (h : Doc W1 w g AL cL N lim vo d) (n : Int) : Doc W1 (w.setCell ⟨g, 5, none⟩ (.int .i64 n)) g AL cL N lim vo { d with bad := n } := h.set 5 _ _ rfl h.al (by simp)
/-- A byte was put out. -/
theorem Doc.putv (h : Doc W1 w g AL cL N lim vo d) {x : Int} {n : Nat} (hn : n = d.out.length + 1) (hr : w1.ownsRow W1.heap.size 5 1 v1 n (nums .u8 (d.out ++ [x]))) (hb : Below W1.heap.size W1 w1) (hg : w.grownBy w1 vo.ownBlock) :
    Doc W1 (w1.setCell ⟨g, 2, none⟩ v1) g AL cL N lim v1 { d with out := d.out ++ [x] } := by
  subst hn
  have hbk := blk_grown h.blk hg h.ne
  have hs := blk_set hbk 2 v1
  refine ⟨Below.setCell hb h.bg _, by simpa using hs, ?_, h.bg, h.al⟩
  show World.ownsRow _ _ _ _ _ (d.out ++ [x]).length _
  rw [List.length_append]
  exact own_setCell hr (own_ne hr hbk (by decide)) _

section
variable (V N : Nat)
def numD (n : Nat) (d : DS) : Nat × DS := if d.bad ≠ 0 then (0, d) else if N < d.a + n then (0, { d with bad := 10 }) else (V / 2 ^ d.a % 2 ^ n, { d with a := d.a + n })
def wrongD (is : Bool) (c : Int) (d : DS) : DS := if d.bad = 0 ∧ is = true then { d with bad := c } else d
end
def putD (x : Int) (d : DS) : DS := { d with out := d.out ++ [x] }
theorem wrong8_calls (w : World) (h : Doc W1 w g AL cL N lim vo d) (is : Bool) (c : Int) :
    Calls Tryd.prog 25 #[.pointer (some ⟨g, 0, none⟩), .bool is, .int .i64 c] w fun e w' => e = .returned (.tuple #[]) ∧ Doc W1 w' g AL cL N lim vo (wrongD is c d) ∧ Frm g g w vo w' vo := by
  obtain ⟨_, _, _, _, _, c5, hfz⟩ := h.cells
  have f5 := hfz 5
  have HD := Aside0.mk h
  clear h hfz
  by_cases hb : d.bad = 0
  · have HB0 := Aside0.mk hb
    rw [hb] at c5
    clear hb
    cases is with
    | true =>
      go_enter Tryd.func25, Tryd.ntmps25
      go_wp2_with fail
      refine bodyPost_end (results_none rfl _ _ _) rfl ⟨rfl, ?_, (Frm.refl g g w vo).set _ _⟩
      unfold wrongD
      rw [if_pos ⟨HB0.out, rfl⟩]
      exact HD.out.setBad c
    | false =>
      go_enter Tryd.func25, Tryd.ntmps25
      go_wp2_with fail
      refine bodyPost_end (results_none rfl _ _ _) rfl ⟨rfl, ?_, (Frm.refl g g w vo)⟩
      unfold wrongD
      rw [if_neg (by simp)]
      exact HD.out
  · have b1 : (d.bad == 0) = false := beq_eq_false_iff_ne.2 hb
    have HB0 := Aside0.mk hb
    clear hb
    go_enter Tryd.func25, Tryd.ntmps25
    go_wp2_with fail
    refine bodyPost_end (results_none rfl _ _ _) rfl ⟨rfl, ?_, (Frm.refl g g w vo)⟩
    unfold wrongD
    rw [if_neg (by have := HB0.out; simp [this])]
    exact HD.out
theorem number8_calls (w : World) (h : Doc W1 w g AL cL N lim vo d) (hB : Bts W1 AL cL V N) (n : Nat) (hn : n ≤ 16) :
    Calls Tryd.prog 19 #[.pointer (some ⟨g, 0, none⟩), .int .i64 n] w fun e w' => e = .returned (.int .i64 (numD V N n d).1) ∧ Doc W1 w' g AL cL N lim vo (numD V N n d).2 ∧ Frm g g w vo w' vo := by
  obtain ⟨c0, c1, _, _, _, c5, hfz⟩ := h.cells
  have f5 := hfz 5
  have f1 := hfz 1
  have HD := Aside0.mk h
  have hal := h.al
  have hl := hB.hl
  by_cases hb : d.bad = 0
  · have HB0 := Aside0.mk hb
    rw [hb] at c5
    by_cases hlt : N < d.a + n
    · have e1 : (N : Int) < (d.a : Int) + (n : Int) := by omega
      have e2 : (d.a : Int) ≤ 1600 := by omega
      have e3 : (n : Int) ≤ 16 := by omega
      have HN : Aside0 (numD V N n d = (0, { d with bad := 10 })) := ⟨by unfold numD; rw [if_neg (by simp [hb]), if_pos hlt]⟩
      clear hb hlt h hfz hal hl hB hn
      go_enter Tryd.func19, Tryd.ntmps19
      go_wp2_with fail
      go_quiet (fail)
      go_wp2_with fail
      go_ret
      rw [HN.out]
      exact ⟨rfl, (HD.out.drewN _).setBad 10, ((Frm.refl g g w vo).drewN _).set _ _⟩
    · have e1 : (d.a : Int) + (n : Int) ≤ (N : Int) := by omega
      have e2 : (d.a : Int) ≤ 1600 := by omega
      have e3 : (n : Int) ≤ 16 := by omega
      have HN : Aside0 (numD V N n d = (V / 2 ^ d.a % 2 ^ n, { d with a := d.a + n })) := ⟨by unfold numD; rw [if_neg (by simp [hb]), if_neg hlt]⟩
      obtain ⟨i0, hi0, hz⟩ := Option.map_eq_some_iff.1 info_u8
      simp only [Prod.mk.injEq] at hz
      obtain ⟨A1, hcut, hC1, hnil⟩ := cut_mid (P := Tryd.prog) (k := .u8) 22 5 Tryd.underlying22 hi0 hz.2.1 AL N cL (btL V N) d.a (d.a + n) (by omega) (by omega) (btL_len _ _) hB.cap hB.nil
      have hcut' : ∀ W : World, (Instr.slice 22 (.slice AL N cL) (some (.int .i64 d.a)) (some (.int .i64 ((d.a : Int) + (n : Int)))) none).run Tryd.prog W = .ok (.slice A1 (d.a + n - d.a) (cL - d.a)) W := fun W => by
        have := hcut .i64 .i64 W
        rwa [Int.natCast_add] at this
      rw [show d.a + n - d.a = n by omega] at hcut' hC1
      rw [btL_mid V N d.a n (by omega)] at hC1
      have HNum : Aside0 (∀ w1, Below w.heap.size w w1 → Calls Tryd.prog 34 #[.slice A1 n (cL - d.a)] w1 fun e w' => e = .returned (.int .u32 (V / 2 ^ d.a % 2 ^ n : Nat)) ∧ ∃ m, w' = w1.drewN m) :=
        ⟨fun w1 hb => refNumber_calls A1 (cL - d.a) (V / 2 ^ d.a) n w1 (by omega) (Kd.C_below (hC1 _ (Kd.C_below hB.c h.bel)) hb) (by have := hB.cap; omega)⟩
      have HA : Aside0 (d.a + n ≤ N) := ⟨by omega⟩
      have hR : ((V / 2 ^ d.a % 2 ^ n : Nat) : Int) ≤ 65535 := by
        have := Nat.mod_lt (V / 2 ^ d.a) (Nat.two_pow_pos n)
        have := Nat.pow_le_pow_right (n := 2) (by decide) hn
        omega
      generalize V / 2 ^ d.a % 2 ^ n = R at *
      clear hb hlt h hfz hal hl hB hn hi0 hz hcut hC1 hnil
      go_enter Tryd.func19, Tryd.ntmps19
      go_wp2_with fail
      go_quiet (fail)
      have HDq := Aside0.mk (HD.out.drewN nq)
      have HFq := Aside0.mk ((Frm.refl g g w vo).drewN nq)
      have HNq := Aside0.mk (fun k => HNum.out _ (pw_below_drewN (pw_below_drewN (Below.refl w.heap.size w) nq) k))
      clear c0 c1 c5 f1 f5
      obtain ⟨c0, c1, _, _, _, c5, hfz⟩ := HDq.out.cells
      have f1 := hfz 1
      clear hfz
      generalize w.drewN nq = wq at *
      go_wp2_with fail
      have kw : IntKind.i64.wrap ((d.a : Int) + (n : Int)) = (d.a : Int) + (n : Int) := IntWalk.i64_in _ (by omega)
      go_quiet ((go_at_call 34; exact Calls.quiet_of (HNq.out _)))
      clear kw
      go_wp2_with fail
      go_ret
      rw [HN.out]
      refine ⟨rfl, ?_, ?_⟩
      · have := (HDq.out.drewN nq).setAt (d.a + n) HA.out
        rwa [Int.natCast_add] at this
      · exact (HFq.out.drewN nq).set _ _
  · have b1 : (d.bad != 0) = true := bne_iff_ne.2 hb
    have HN : Aside0 (numD V N n d = (0, d)) := ⟨by unfold numD; rw [if_pos hb]⟩
    clear hb h hfz hal hl hB hn
    go_enter Tryd.func19, Tryd.ntmps19
    go_wp2_with fail
    go_ret
    rw [HN.out]
    exact ⟨rfl, HD.out, Frm.refl _ _ _ _⟩
end
end Go.Proofs.YtdphifihneccoaaDoor.My

/- The document's machine: sign, put, codes. -/
namespace Go.Proofs.YtdphifihneccoaaDoor.My
open Go.RowKit Go.Proofs.YtdphifihneccoaaDoor.Inf Go.Proofs.YtdphifihneccoaaDoor.Huf Go.Proofs.YtdphifihneccoaaDoor.PInflateTells Go.Proofs.YtdphifihneccoaaDoorW.PrintWords Go.Proofs.YtdphifihneccoaaDoorW.PrintLast Go.Proofs.YtdphifihneccoaaDoorW.PrintMore
set_option maxRecDepth 100000
set_option linter.unusedVariables false
set_option linter.unusedSimpArgs false
section
variable {W1 w w1 w2 : World} {g : Nat} {AL : Option Addr} {cL V N : Nat} {lim : Int} {vo v1 v2 : Value} {d : DS}
noncomputable def signD (V N : Nat) (L : List Int) (d : DS) : Int × DS := if d.bad ≠ 0 then (0, d) else ((tk V L d.a (min (N - d.a) 15)).1, { d with a := d.a + (tk V L d.a (min (N - d.a) 15)).2.1, bad := numE (tk V L d.a (min (N - d.a) 15)).2.2 })
theorem signD_bad (V N : Nat) (L : List Int) (d : DS) (h : d.bad ≠ 0) : signD V N L d = (0, d) := by unfold signD; rw [if_pos h]
theorem sign8_bad (w : World) (h : Doc W1 w g AL cL N lim vo d) (hb : d.bad ≠ 0) (v : Value) :
    Calls Tryd.prog 36 #[.pointer (some ⟨g, 0, none⟩), v] w fun e w' => e = .returned (.int .i64 0) ∧ w' = w := by
  obtain ⟨c0, c1, _, _, _, c5, hfz⟩ := h.cells
  have b1 : (d.bad != 0) = true := bne_iff_ne.2 hb
  clear h hb hfz
  go_enter Tryd.func36, Tryd.ntmps36
  go_wp2_with fail
  go_ret
  exact ⟨rfl, rfl⟩
theorem sign8_calls (w : World) (h : Doc W1 w g AL cL N lim vo d) (hB : Bts W1 AL cL V N) (hb : d.bad = 0) (L : List Int) (hok : okL L = true) (hov : anyOver L 15 1 = false) (hl : L.length ≤ 320) (A2 : Option Addr) (c2 : Nat) (hC : Kd.C Kd.string w A2 L.length (wantL L)) (hc : L.length ≤ c2) :
    Calls Tryd.prog 36 #[.pointer (some ⟨g, 0, none⟩), .slice A2 L.length c2] w fun e w' => e = .returned (.int .i64 (signD V N L d).1) ∧ Doc W1 w' g AL cL N lim vo (signD V N L d).2 ∧ Frm g g w vo w' vo := by
  obtain ⟨c0, c1, _, _, _, c5, hfz⟩ := h.cells
  have f5 := hfz 5
  have f1 := hfz 1
  have HD := Aside0.mk h
  have hal := h.al
  have hn := hB.hl
  rw [hb] at c5
  obtain ⟨E, hE, hE1, hE2, hE3⟩ : ∃ E, E = min N (d.a + 15) ∧ E ≤ N ∧ E - d.a = min (N - d.a) 15 ∧ d.a ≤ E := ⟨_, rfl, by omega, by omega, by omega⟩
  obtain ⟨x, n, er, k, hT, hf⟩ := doc_take L hok hov hl V d.a (E - d.a) (by omega)
  have HT := Aside0.mk (tk_of V hT)
  have hnl : n ≤ E - d.a := by
    cases hT with
    | sign s n h => exact h.2.1
    | ends => omega
    | form => omega
  obtain ⟨i0, hi0, hz⟩ := Option.map_eq_some_iff.1 info_u8
  simp only [Prod.mk.injEq] at hz
  obtain ⟨A1, hcut, hC1, hnil⟩ := cut_mid (P := Tryd.prog) (k := .u8) 22 5 Tryd.underlying22 hi0 hz.2.1 AL N cL (btL V N) d.a E hE3 hE1 (btL_len _ _) hB.cap hB.nil
  have hcut' : ∀ W : World, (Instr.slice 22 (.slice AL N cL) (some (.int .i64 d.a)) (some (.int .i64 (E : Int))) none).run Tryd.prog W = .ok (.slice A1 (E - d.a) (cL - d.a)) W := fun W => hcut .i64 .i64 W
  rw [show (btL V N).take E = (btL V N).take (d.a + (E - d.a)) by rw [show d.a + (E - d.a) = E by omega], btL_mid V N d.a (E - d.a) (by omega), ← lbits_btL] at hC1
  have HTk : Aside0 (∀ w1, Below w.heap.size w w1 → Calls Tryd.prog 54 #[.slice A2 L.length c2, .slice A1 (E - d.a) (cL - d.a)] w1 fun e w' => e = .returned (.tuple #[.int .i64 x, .int .i64 n, .int .i64 (numE er)]) ∧ ∃ m, w' = w1.drewN m) := ⟨fun w1 hb => by
    have := crossdockref07_Take.calls k A2 c2 (wantL L) A1 (cL - d.a) (lbits V d.a (E - d.a)) _ _ _ w1 (by rw [wantL_len2]; exact Kd.C_below hC hb) (by rw [wantL_len2]; exact hc) (by rw [lbits_len]; exact Kd.C_below (hC1 _ (Kd.C_below hB.c h.bel)) hb) (by rw [lbits_len]; have := hB.cap; omega) hf
    rw [wantL_len2, lbits_len] at this
    refine this.mono ?_
    rintro e w' ⟨rfl, ⟨m, rfl⟩⟩
    exact ⟨rfl, m, rfl⟩⟩
  have HS : Aside0 (signD V N L d = (x, { d with a := d.a + n, bad := numE er })) := ⟨by
    unfold signD
    rw [if_neg (by simp [hb]), ← hE2, HT.out]⟩
  have HA : Aside0 (d.a + n ≤ N) := ⟨by omega⟩
  have e2 : (d.a : Int) ≤ 1600 := by omega
  have e3 : (n : Int) ≤ 15 := by omega
  have e4 : (N : Int) ≤ 1600 := by omega
  have kw : IntKind.i64.wrap ((d.a : Int) + 15) = (d.a : Int) + 15 := IntWalk.i64_in _ (by omega)
  have HE := Aside0.mk hE
  clear hE hE1 hE2 hE3 hT hf hnl hi0 hz hcut hC1 hnil h hB hb hok hov hl hC hc hfz hal hn
  go_enter Tryd.func36, Tryd.ntmps36
  go_wp2_with fail
  go_quiet (fail)
  rw [show min (N : Int) ((d.a : Int) + 15) = (E : Int) by have := HE.out; omega]
  have HDq := Aside0.mk (HD.out.drewN nq)
  have HFq := Aside0.mk ((Frm.refl g g w vo).drewN nq)
  have HNq := Aside0.mk (fun k => HTk.out _ (pw_below_drewN (pw_below_drewN (Below.refl w.heap.size w) nq) k))
  clear c0 c1 c5 f1 f5 kw
  obtain ⟨c0, c1, _, _, _, c5, hfz⟩ := HDq.out.cells
  have f1 := hfz 1
  have f5 := hfz 5
  clear hfz
  generalize w.drewN nq = wq at *
  go_wp2_with fail
  go_quiet ((go_at_call 54; exact Calls.quiet_of (HNq.out _)))
  go_wp2_with fail
  go_ret
  rw [HS.out]
  refine ⟨rfl, ?_, ?_⟩
  · have := ((HDq.out.drewN nq).setAt (d.a + n) HA.out).setBad (numE er)
    rwa [Int.natCast_add] at this
  · exact ((HFq.out.drewN nq).set _ _).set _ _
theorem put8_calls (w : World) (h : Doc W1 w g AL cL N lim vo d) (x : Int) (ho : d.out.length ≤ 1000000) :
    Calls Tryd.prog 35 #[.pointer (some ⟨g, 0, none⟩), .int .u8 x] w fun e w' => e = .returned (.tuple #[]) ∧ ∃ vo', Doc W1 w' g AL cL N lim vo' (putD x d) ∧ Frm g g w vo w' vo' := by
  obtain ⟨A3, c3, hvo⟩ := own_slice h.row
  subst hvo
  obtain ⟨_, _, c2, _, _, _, hfz⟩ := h.cells
  have f2 : ∀ (w2 : World), w.grownBy w2 (Value.slice A3 d.out.length c3).ownBlock → w2.cell? ⟨g, 2, none⟩ = some (Value.slice A3 d.out.length c3) ∧ w2.frozen? ⟨g, 2, none⟩ = false := fun w2 hg => ⟨by rw [blk_cell (blk_grown h.blk hg h.ne)]; rfl, blk_frozen (blk_grown h.blk hg h.ne) _⟩
  have HF2 := Aside0.mk f2
  have HD := Aside0.mk h
  have HO := Aside0.mk ho
  have HBe := Aside0.mk h.bel
  clear h hfz ho f2
  go_enter Tryd.func35, Tryd.ntmps35
  go_wp2_with ((with_reducible refine gate_dst (N := 11) rfl ?_); refine print_append_num (w0 := W1) W1.heap.size rfl (.tmp 8) (.tmp 10) 22 5 .u8 1 rfl Tryd.underlying22 info_u8 (by decide) _ d.out x rfl rfl HD.out.row HBe.out HBe.out.size (by have := HO.out; omega) ?_)
  intro v1 w2 ho2 hb2 hg2 hk2
  obtain ⟨A4, c4, rfl⟩ := own_slice ho2
  obtain ⟨k2, f2⟩ := HF2.out w2 hg2
  have HO2 := Aside0.mk ho2
  have HB2 := Aside0.mk hb2
  have HG2 := Aside0.mk (And.intro hg2 hk2)
  clear ho2 hb2 hg2 hk2
  go_wp2_with fail
  refine bodyPost_end (results_none rfl _ _ _) rfl ⟨rfl, _, HD.out.putv (by first | rfl | simp) (by have := HO2.out; simpa using this) HB2.out HG2.out.1, (Frm.of_grown HG2.out.1 HG2.out.2).set _ _⟩
/-- A row of codes stays. -/
theorem cs_frm {lo hi b : Nat} {v vo' : Value} {w' : World} {xs : List ByteArray} (h : Kd.R Kd.string 9 w b (fun k => lo ≤ k ∧ k < hi) v xs) (hf : Frm g g w vo w' vo') (hg : g < lo ∨ hi ≤ g) (ho : ∀ k, vo.ownBlock = some k → k < lo ∨ hi ≤ k) : Kd.R Kd.string 9 w' b (fun k => lo ≤ k ∧ k < hi) v xs :=
  Kd.R_step h fun k hk hlt => hf.keep k hlt (by omega) (by omega) (by intro e; have := ho k e.symm; omega)
set_option maxHeartbeats 2000000 in
theorem codes8_calls (w : World) (h : Doc W1 w g AL cL N lim vo d) (A1 : Option Addr) (c1 : Nat) (L : List Int) (lone : Bool) (hL : (Kd.int .i64).C w A1 L.length L) (hc : L.length ≤ c1) :
    Calls Tryd.prog 23 #[.pointer (some ⟨g, 0, none⟩), .slice A1 L.length c1, .bool lone] w fun e w' => ∃ v, e = .returned v ∧ Kd.R Kd.string 9 w' w.heap.size (fun k => w.heap.size ≤ k ∧ k < w'.heap.size) v (docR L lone).1 ∧ Doc W1 w' g AL cL N lim vo (wrongD ((docR L lone).2 != 0) 2 d) ∧ Frm g g w vo w' vo := by
  obtain ⟨k, hk⟩ := doc_codes L lone
  obtain ⟨⟨r1, r2⟩, hR⟩ : ∃ p : List ByteArray × Int, docR L lone = p := ⟨_, rfl⟩
  rw [hR] at hk ⊢
  have HC := Aside0.mk (crossdockref07_Codes.calls k A1 c1 L lone r1 r2 w hL hc hk)
  have HD := Aside0.mk h
  have HN : Aside0 (g < w.heap.size ∧ ∀ k, vo.ownBlock = some k → k < w.heap.size) := ⟨blk_lt h.blk, fun k e => own_lt h.row k e⟩
  clear h hL hc hk hR
  dsimp only
  go_enter Tryd.func23, Tryd.ntmps23
  go_wp2_with fail
  refine HC.out.mono ?_
  rintro e w2 ⟨v, rfl, hR, hb⟩
  have hR2 := Kd.R_bound hR
  have HR := Aside0.mk (Kd.R_mono hR2 (fun k hk => (⟨hk.2.1, hk.2.2.1⟩ : w.heap.size ≤ k ∧ k < w2.heap.size)))
  have HBl := Aside0.mk hb
  have HW := Aside0.mk (wrong8_calls w2 (HD.out.below hb) (r2 != 0) 2)
  clear hR hR2 hb
  go_wp2_with (go_at_call 25; refine HW.out.mono ?_; rintro e w3 ⟨rfl, hd, hf⟩; have HD3 := Aside0.mk hd; have HF3 := Aside0.mk hf; clear hd hf)
  go_ret
  refine ⟨v, rfl, ?_, HD3.out, (Frm.of_below HBl.out).trans HF3.out⟩
  exact Kd.R_mono (cs_frm HR.out HF3.out (.inl HN.out.1) (fun k e => .inl (HN.out.2 k e))) (fun k hk => ⟨hk.1, Nat.lt_of_lt_of_le hk.2 HF3.out.size⟩)
end
end Go.Proofs.YtdphifihneccoaaDoor.My

/- The document's machine: stored. -/
namespace Go.Proofs.YtdphifihneccoaaDoor.My
open Go.RowKit Go.Proofs.YtdphifihneccoaaDoor.Inf Go.Proofs.YtdphifihneccoaaDoor.Huf Go.Proofs.YtdphifihneccoaaDoor.PInflateTells Go.Proofs.YtdphifihneccoaaDoorW.PrintWords Go.Proofs.YtdphifihneccoaaDoorW.PrintLast Go.Proofs.YtdphifihneccoaaDoorW.PrintMore
set_option maxRecDepth 100000
set_option linter.unusedVariables false
set_option linter.unusedSimpArgs false
def al8 (a : Nat) : Nat := a + (8 - a % 8) % 8
def stD (d : DS) : DS := { d with st := wrap64 (d.st + 1) }
def byteD (V N : Nat) (d : DS) : DS := stD (putD (((numD V N 8 d).1 : Int) % 256) (numD V N 8 d).2)
def lpS (V N : Nat) : Nat → DS → DS
  | 0, d => d
  | k + 1, d => if d.bad = 0 then lpS V N k (byteD V N d) else d
def stored1 (V N : Nat) (d : DS) : Nat × Nat × DS :=
  let p := numD V N 16 { d with a := al8 d.a }
  let q := numD V N 16 p.2
  (p.1, q.1, q.2)
def stored2 (N : Nat) (lim : Int) (n t : Nat) (d : DS) : DS :=
  let d := wrongD ((n : Int) + (t : Int) != 65535) 2 d
  let d := wrongD (decide (lim < (d.out.length : Int) + (n : Int))) 3 d
  wrongD (decide ((N : Int) < (d.a : Int) + 8 * (n : Int))) 10 d
def storedD (V N : Nat) (lim : Int) (d : DS) : DS := let p := stored1 V N d; lpS V N p.1 (stored2 N lim p.1 p.2.1 p.2.2)
section
variable {W1 w w1 w2 : World} {g : Nat} {AL : Option Addr} {cL V N : Nat} {lim : Int} {vo v1 v2 : Value} {d : DS}
theorem numD_lt (n : Nat) (hn : n ≤ 16) (d : DS) : (numD V N n d).1 < 65536 := by
  unfold numD
  split
  · show (0 : Nat) < 65536; decide
  · split
    · show (0 : Nat) < 65536; decide
    · have := Nat.mod_lt (V / 2 ^ d.a) (Nat.two_pow_pos n)
      have := Nat.pow_le_pow_right (n := 2) (by decide) hn
      show V / 2 ^ d.a % 2 ^ n < 65536
      omega
theorem numD_out (n : Nat) (d : DS) : (numD V N n d).2.out = d.out := by
  unfold numD
  split
  · rfl
  · split <;> rfl
theorem wrongD_out (is : Bool) (c : Int) (d : DS) : (wrongD is c d).out = d.out := by unfold wrongD; split <;> rfl
set_option maxHeartbeats 2000000 in
theorem stored8_calls (w : World) (h : Doc W1 w g AL cL N lim vo d) (hB : Bts W1 AL cL V N) (h8 : N % 8 = 0) (ho : d.out.length ≤ 100000) (hlim : lim ≤ 100000) :
    Calls Tryd.prog 20 #[.pointer (some ⟨g, 0, none⟩)] w fun e w' => e = .returned (.tuple #[]) ∧ ∃ vo', Doc W1 w' g AL cL N lim vo' (storedD V N lim d) ∧ Frm g g w vo w' vo' := by
  have HD := Aside0.mk h
  have HB := Aside0.mk hB
  have HO := Aside0.mk ho
  have hA : al8 d.a ≤ N ∧ al8 d.a % 8 = 0 ∧ d.a ≤ al8 d.a ∧ al8 d.a < d.a + 8 := by have := h.al; unfold al8; omega
  have HA := Aside0.mk (And.intro hA hB.hl)
  clear h hB h8 ho hA
  go_enter Tryd.func20, Tryd.ntmps20
  go_wp2_with fail
  go_loopg [] (al8 d.a - d.a) (fun kq wr => ∃ a' : Nat, Aside0 (a' + kq = al8 d.a ∧ d.a ≤ a') ∧ Aside0 (Doc W1 wr g AL cL N lim vo { d with a := a' }) ∧ Aside0 (Frm g g w vo wr vo))
  case atStart => exact ⟨d.a, ⟨by have := HA.out; omega, Nat.le_refl _⟩, HD, ⟨Frm.refl _ _ _ _⟩⟩
  case round =>
    obtain ⟨a', HQ, HD1, HF1⟩ := hrel
    obtain ⟨c0, c1, _, _, _, c5, hfz⟩ := HD1.out.cells
    have f1 := hfz 1
    clear hfz
    dsimp only at c1
    have e1 : (a' : Int) ≤ 1600 := by have := HQ.out; have := HA.out; omega
    by_cases hz : a' % 8 = 0
    · have HZ : Aside0 (a' = al8 d.a) := ⟨by have := HQ.out; have := HA.out; omega⟩
      have e2 : (a' : Int).tmod 8 = 0 := by rw [Int.tmod_eq_emod_of_nonneg (by omega)]; omega
      clear hz
      have hzz := HZ.out
      subst hzz
      have HN1 := Aside0.mk (number8_calls wr HD1.out HB.out 16 (by decide))
      go_wp2_with fail
      refine HN1.out.mono ?_
      rintro e w2 ⟨rfl, hd2, hf2⟩
      have hp : numD V N 16 { d with a := al8 d.a } = numD V N 16 { d with a := al8 d.a } := rfl
      have hb1 := numD_lt (V := V) (N := N) 16 (by decide) { d with a := al8 d.a }
      have ho1 := numD_out (V := V) (N := N) 16 { d with a := al8 d.a }
      have HP := Aside0.mk hp
      generalize hP : numD V N 16 { d with a := al8 d.a } = P at *
      obtain ⟨n, d1⟩ := P
      dsimp only at *
      have HP1 := Aside0.mk hP
      have HN2 := Aside0.mk (number8_calls w2 hd2 HB.out 16 (by decide))
      have HF2 := Aside0.mk (HF1.out.trans hf2)
      clear hp HP hP hd2 hf2 HN1
      go_wp2_with fail
      refine HN2.out.mono ?_
      rintro e w3 ⟨rfl, hd3, hf3⟩
      have hb2 := numD_lt (V := V) (N := N) 16 (by decide) d1
      have ho2 := numD_out (V := V) (N := N) 16 d1
      generalize hP : numD V N 16 d1 = P at *
      obtain ⟨t, d2⟩ := P
      dsimp only at *
      have HP2 := Aside0.mk hP
      have HD3 := Aside0.mk hd3
      have HF3 := Aside0.mk (HF2.out.trans hf3)
      have HOO := Aside0.mk (ho2.trans ho1)
      have bn : (n : Int) ≤ 65535 := by omega
      have bt : (t : Int) ≤ 65535 := by omega
      have HW1 := Aside0.mk (wrong8_calls w3 hd3 ((n : Int) + (t : Int) != 65535) 2)
      clear hP hd3 hf3 HN2 hb1 hb2 ho1 ho2 HD1 HF1 HF2 c0 c1 c5 f1 e1 e2
      go_wp2_with fail
      refine HW1.out.mono ?_
      rintro e w4 ⟨rfl, hd4, hf4⟩
      have ho4 := wrongD_out ((n : Int) + (t : Int) != 65535) 2 d2
      generalize hd : wrongD ((n : Int) + (t : Int) != 65535) 2 d2 = d4 at *
      have HW4 := Aside0.mk hd
      have HF4 := Aside0.mk (HF3.out.trans hf4)
      have HO4 := Aside0.mk (ho4.trans HOO.out)
      have HD4 := Aside0.mk hd4
      obtain ⟨c0, c1, c2, c3, _, c5, hfz⟩ := hd4.cells
      obtain ⟨A5, cA5, hvo⟩ := own_slice hd4.row
      have hol : (d4.out.length : Int) ≤ 100000 := by have := HO.out; rw [HO4.out]; omega
      clear hd hf4 ho4 hd4 HW1 hfz
      subst hvo
      go_upto_region 5 with fail
      have kw : IntKind.i64.wrap ((d4.out.length : Int) + (n : Int)) = (d4.out.length : Int) + (n : Int) := IntWalk.i64_in _ (by omega)
      go_still_tail 13, (by kernel_rfl)
      change wpList _ _ _ _ _ w4.drew
      clear kw c0 c1 c2 c3 c5
      have HW2 := Aside0.mk (wrong8_calls w4.drew HD4.out.drew (decide (lim < (d4.out.length : Int) + (n : Int))) 3)
      go_wp2_with fail
      refine HW2.out.mono ?_
      rintro e w5 ⟨rfl, hd5, hf5⟩
      have ho5 := wrongD_out (decide (lim < (d4.out.length : Int) + (n : Int))) 3 d4
      generalize hd : wrongD (decide (lim < (d4.out.length : Int) + (n : Int))) 3 d4 = d5 at *
      have HW5 := Aside0.mk hd
      have HF5 := Aside0.mk (HF4.out.drew.trans hf5)
      have HO5 := Aside0.mk (ho5.trans HO4.out)
      have HD5 := Aside0.mk hd5
      obtain ⟨c0, c1, c2, c3, _, c5, hfz⟩ := hd5.cells
      have hal : (d5.a : Int) ≤ 1600 := by have := hd5.al; have := HA.out; omega
      have hnn : (N : Int) ≤ 1600 := by have := HA.out; omega
      clear hd hf5 ho5 hd5 HW2 hfz hol
      go_upto_region 6 with fail
      have kw : IntKind.i64.wrap (8 * (n : Int)) = 8 * (n : Int) := IntWalk.i64_in _ (by omega)
      have kw2 : IntKind.i64.wrap ((d5.a : Int) + 8 * (n : Int)) = (d5.a : Int) + 8 * (n : Int) := IntWalk.i64_in _ (by omega)
      go_still_tail 14, (by kernel_rfl)
      change wpList _ _ _ _ _ w5.drew
      clear kw kw2 c0 c1 c2 c3 c5
      have HW3 := Aside0.mk (wrong8_calls w5.drew HD5.out.drew (decide ((N : Int) < (d5.a : Int) + 8 * (n : Int))) 10)
      go_wp2_with fail
      refine HW3.out.mono ?_
      rintro e w6 ⟨rfl, hd6, hf6⟩
      have ho6 := wrongD_out (decide ((N : Int) < (d5.a : Int) + 8 * (n : Int))) 10 d5
      generalize hd : wrongD (decide ((N : Int) < (d5.a : Int) + 8 * (n : Int))) 10 d5 = d6 at *
      have HW6 := Aside0.mk hd
      have HF6 := Aside0.mk (HF5.out.drew.trans hf6)
      have HO6 := Aside0.mk (ho6.trans HO5.out)
      have HD6 := Aside0.mk hd6
      clear hd hf6 ho6 hd6 HW3 hal hnn
      have HS : Aside0 (storedD V N lim d = lpS V N n d6) := ⟨by
        have h1 := HP1.out
        have h2 := HP2.out
        have h4 := HW4.out
        have h5 := HW5.out
        have h6 := HW6.out
        unfold storedD stored1
        dsimp only
        rw [h1]
        dsimp only
        rw [h2]
        unfold stored2
        dsimp only
        rw [h4, h5, h6]⟩
      go_wp2_with fail
      go_loopg [4] n (fun kq v4 wr => ∃ (i : Nat) (vo' : Value) (d' : DS), v4 = .int .i64 i ∧ Aside0 (kq + i = n) ∧ Aside0 (Doc W1 wr g AL cL N lim vo' d') ∧ Aside0 (Frm g g w (Value.slice A5 d4.out.length cA5) wr vo') ∧ Aside0 (lpS V N (n - i) d' = lpS V N n d6) ∧ Aside0 (d'.out.length ≤ d.out.length + i))
      case atStart => exact ⟨0, _, d6, rfl, ⟨by omega⟩, HD6, HF6, ⟨rfl⟩, ⟨by rw [HO6.out]; exact Nat.le_refl _⟩⟩
      case round =>
        obtain ⟨i, vo', d', rfl, HQ, HD7, HF7, HL7, HO7⟩ := hrel
        obtain ⟨c0, c1, c2, c3, c4, c5, hfz⟩ := HD7.out.cells
        have bi : (i : Int) ≤ (n : Int) := by have := HQ.out; omega
        by_cases hin : i < n
        · have hin' : (i : Int) < (n : Int) := by omega
          by_cases hb : d'.bad = 0
          · have HBad := Aside0.mk hb
            rw [hb] at c5
            clear hb hfz
            have HN7 := Aside0.mk (number8_calls wr HD7.out HB.out 8 (by decide))
            go_wp2_with fail
            refine HN7.out.mono ?_
            rintro e w8 ⟨rfl, hd8, hf8⟩
            have hb8 := numD_lt (V := V) (N := N) 8 (by decide) d'
            have ho8 := numD_out (V := V) (N := N) 8 d'
            generalize hP : numD V N 8 d' = P at *
            obtain ⟨x, d8⟩ := P
            dsimp only at *
            have HP8 := Aside0.mk hP
            have HF8 := Aside0.mk (HF7.out.trans hf8)
            have HW8 := Aside0.mk (put8_calls w8 hd8 ((x : Int) % 256) (by rw [ho8]; have := HO7.out; have := HO.out; omega))
            have HO8 := Aside0.mk ho8
            have bx : (x : Int) ≤ 65535 := by omega
            clear hP hd8 hf8 hb8 ho8 HN7 c0 c1 c2 c3 c4 c5
            go_wp2_with fail
            refine HW8.out.mono ?_
            rintro e w9 ⟨rfl, vo9, hd9, hf9⟩
            have HD9 := Aside0.mk hd9
            have HF9 := Aside0.mk (HF8.out.trans hf9)
            obtain ⟨_, _, _, _, c4, _, hfz⟩ := hd9.cells
            have f4 := hfz 4
            have c4' : w9.cell? ⟨g, 4, none⟩ = some (.int .i64 d8.st) := c4
            clear hd9 hf9 hfz c4 HW8
            go_wp2_with fail
            go_roundg (n - (i + 1))
            case measure => have := HQ.out; omega
            case rel =>
              refine ⟨i + 1, vo9, byteD V N d', rfl, ⟨by omega⟩, ⟨?_⟩, ⟨HF9.out.set _ _⟩, ⟨?_⟩, ⟨?_⟩⟩
              · have := HD9.out.setSt (wrap64 (d8.st + 1))
                unfold byteD stD
                rw [HP8.out]
                exact this
              · have h1 := HL7.out
                have hq : n - i = n - (i + 1) + 1 := by have := HQ.out; omega
                rw [hq, lpS, if_pos HBad.out] at h1
                exact h1
              · have := HO7.out
                have h2 := HO8.out
                unfold byteD stD putD
                rw [HP8.out]
                show (d8.out ++ [(x : Int) % 256]).length ≤ _
                rw [List.length_append, h2, List.length_singleton]
                omega
          · have hb1 : (d'.bad == 0) = false := beq_eq_false_iff_ne.2 hb
            have HBad := Aside0.mk hb
            clear hb hfz
            go_wp2_with fail
            refine bodyPost_end (results_none rfl _ _ _) rfl ⟨rfl, _, ?_, HF7.out⟩
            have h1 := HL7.out
            have hq : n - i = n - (i + 1) + 1 := by have := HQ.out; omega
            rw [hq, lpS, if_neg HBad.out] at h1
            rw [HS.out, ← h1]
            exact HD7.out
        · have hin' : ¬ (i : Int) < (n : Int) := by omega
          go_wp2_with fail
          refine bodyPost_end (results_none rfl _ _ _) rfl ⟨rfl, _, ?_, HF7.out⟩
          have h1 := HL7.out
          have hq : n - i = 0 := by have := HQ.out; omega
          rw [hq, lpS] at h1
          rw [HS.out, ← h1]
          exact HD7.out
    · have HZ : Aside0 (a' + 1 ≤ al8 d.a) := ⟨by have := HQ.out; have := HA.out; omega⟩
      have e3 : ((a' : Int) % 8 != 0) = true := bne_iff_ne.2 (by omega)
      have e2 : ((a' : Int).tmod 8 != 0) = true := bne_iff_ne.2 (by rw [Int.tmod_eq_emod_of_nonneg (by omega)]; omega)
      clear hz
      go_wp2_with fail
      go_roundg (al8 d.a - (a' + 1))
      case measure => have := HQ.out; have := HZ.out; omega
      case rel =>
        refine ⟨a' + 1, ⟨by have := HQ.out; have := HZ.out; omega⟩, ⟨?_⟩, ⟨HF1.out.set _ _⟩⟩
        have := HD1.out.setAt (a' + 1) (by have := HZ.out; have := HA.out; omega)
        rwa [Int.natCast_add] at this
end
end Go.Proofs.YtdphifihneccoaaDoor.My

/- The document's machine while lengths are read: what stands. -/
namespace Go.Proofs.YtdphifihneccoaaDoor.My
open Go.RowKit Go.Proofs.YtdphifihneccoaaDoor.Inf Go.Proofs.YtdphifihneccoaaDoor.Huf Go.Proofs.YtdphifihneccoaaDoor.PInflateTells Go.Proofs.YtdphifihneccoaaDoorW.PrintWords Go.Proofs.YtdphifihneccoaaDoorW.PrintLast Go.Proofs.YtdphifihneccoaaDoorW.PrintMore
set_option maxRecDepth 100000
set_option linter.unusedVariables false
set_option linter.unusedSimpArgs false
section
variable {W1 w wr w1 w2 : World} {g : Nat} {AL : Option Addr} {cL V N : Nat} {lim : Int} {vo vo' v1 v2 vc : Value} {d d' d2 : DS}
theorem Doc.grown (h : Doc W1 w g AL cL N lim vo d) {row : Option Nat} (hg : w.grownBy w1 row) (hr : ∀ k, row = some k → W1.heap.size ≤ k) (h1 : some g ≠ row) (h2 : vo.ownBlock = none ∨ vo.ownBlock ≠ row) : Doc W1 w1 g AL cL N lim vo d :=
  ⟨⟨hg.os.trans h.bel.os, hg.tape.trans h.bel.tape, hg.output.trans h.bel.output, Nat.le_trans h.bel.size hg.size, fun k hk => (hg.block k (Nat.lt_of_lt_of_le hk h.bel.size) (by intro e; have := hr k e.symm; omega)).trans (h.bel.block k hk)⟩, blk_grown h.blk hg h1, own_other h.row hg h2, h.bg, h.al⟩
structure Tld (W1 w wr : World) (g : Nat) (AL : Option Addr) (cL N : Nat) (lim : Int) (vo vo' : Value) (d' : DS) (H : Nat) (A : Option Addr) (l : List Int) (c lo hi : Nat) (vc : Value) (xs : List ByteArray) : Prop where
  doc : Doc W1 wr g AL cL N lim vo' d'
  frm : Frm g g w vo wr vo'
  row : wr.ownsRow H 3 1 (.slice A l.length c) l.length (nums .i64 l)
  code : Kd.R Kd.string 9 wr lo (fun k => lo ≤ k ∧ k < hi) vc xs
  out : Out lo hi vo'
  hh : hi ≤ H
  hw : w.heap.size ≤ lo
  le : H ≤ wr.heap.size
  lh : lo ≤ hi
  gl : g < w.heap.size
  bw : W1.heap.size ≤ lo
variable {A : Option Addr} {l : List Int} {H c lo hi : Nat} {xs : List ByteArray}
theorem Tld.turn (h : Tld W1 w wr g AL cL N lim vo vo' d' H A l c lo hi vc xs) (hd : Doc W1 w2 g AL cL N lim v2 d2) (hf : Frm g g wr vo' w2 v2) : Tld W1 w w2 g AL cL N lim vo v2 d2 H A l c lo hi vc xs :=
  ⟨hd, h.frm.trans hf, own_frm hf h.row (own_ne h.row h.doc.blk (by decide)) (own_ne h.row h.doc.blk (by decide)) (own_type_ne h.row h.doc.row (by decide)),
   cs_frm h.code hf (.inl (by have := h.gl; have := h.hw; omega)) h.out, h.out.frm hf (Nat.le_trans h.hh h.le), h.hh, h.hw, Nat.le_trans h.le hf.size, h.lh, h.gl, h.bw⟩
theorem Tld.below (h : Tld W1 w wr g AL cL N lim vo vo' d' H A l c lo hi vc xs) (hb : Below wr.heap.size wr w2) : Tld W1 w w2 g AL cL N lim vo vo' d' H A l c lo hi vc xs := h.turn (h.doc.below hb) (Frm.of_below hb)
theorem Tld.push (h : Tld W1 w wr g AL cL N lim vo vo' d' H A l c lo hi vc xs) {A2 : Option Addr} {c2 : Nat} {y : Int} (hr : w2.ownsRow H 3 1 (.slice A2 (l.length + 1) c2) (l.length + 1) (nums .i64 (l ++ [y]))) (hg : wr.grownBy w2 (Value.slice A l.length c).ownBlock) : Tld W1 w w2 g AL cL N lim vo vo' d' H A2 (l ++ [y]) c2 lo hi vc xs := by
  have hk : ∀ k, (Value.slice A l.length c).ownBlock = some k → H ≤ k := own_base h.row
  have e1 : (l ++ [y]).length = l.length + 1 := by simp
  have := h.hh; have := h.hw; have := h.lh; have := h.bw
  refine ⟨h.doc.grown hg (fun k e => by have := hk k e; omega) (own_ne h.row h.doc.blk (by decide)) (own_type_ne h.doc.row h.row (by decide)), h.frm.grownNew hg (fun k e => by have := hk k e; omega), by rw [e1]; exact hr, ?_, h.out, h.hh, h.hw, Nat.le_trans h.le hg.size, h.lh, h.gl, h.bw⟩
  exact Kd.R_grown h.code hg (fun k ho e => by have := hk k e.symm; omega)
theorem Tld.last (h : Tld W1 w wr g AL cL N lim vo vo' d' H A l c lo hi vc xs) (hl : 1 ≤ l.length) (hb : l.length ≤ 1000000) : ∃ ad, A = some ad ∧ wr.cell? (ad.add (l.length - 1)) = some (.int .i64 (l.getD (l.length - 1) 0)) := by
  obtain ⟨A2, c2, e2, _, hC⟩ := own_slice' h.row
  cases e2
  obtain ⟨ad, rfl, hc⟩ := Kd.at_int hC ((l.length - 1 : Nat) : Int) (by omega) (by omega)
  rw [Int.toNat_natCast] at hc
  refine ⟨ad, rfl, ?_⟩
  rw [hc]
  unfold rd
  rw [Int.toNat_natCast]
end
end Go.Proofs.YtdphifihneccoaaDoor.My

/- The document's Length and Distance; sign in any state; coded as a function. -/
namespace Go.Proofs.YtdphifihneccoaaDoor.My
open Go.RowKit Go.Proofs.YtdphifihneccoaaDoor.Inf Go.Proofs.YtdphifihneccoaaDoor.Huf Go.Proofs.YtdphifihneccoaaDoor.PInflateTells Go.Proofs.YtdphifihneccoaaDoorW.PrintWords Go.Proofs.YtdphifihneccoaaDoorW.PrintLast Go.Proofs.YtdphifihneccoaaDoorW.PrintMore
set_option maxRecDepth 100000
set_option linter.unusedVariables false
set_option linter.unusedSimpArgs false
/-- What a letter tells: the least length, and how many bits more. -/
def lenN (s : Nat) : Nat × Nat := if s = 285 then (258, 0) else if 8 ≤ s - 257 then (3 + (4 + (s - 257) % 4) * 2 ^ ((s - 257) / 4 - 1), (s - 257) / 4 - 1) else (3 + (s - 257), 0)
def dstN (s : Nat) : Nat × Nat := if s < 4 then (1 + s, 0) else (1 + (2 + s % 2) * 2 ^ (s / 2 - 1), s / 2 - 1)
theorem len_all : ∀ s : Fin 29, crossdockref08_Length.f 60 ((257 + s.val : Nat) : Int) = some (((lenN (257 + s.val)).1 : Int), ((lenN (257 + s.val)).2 : Int)) := by decide +kernel
theorem dst_all : ∀ s : Fin 30, crossdockref08_Distance.f 60 ((s.val : Nat) : Int) = some (((dstN s.val).1 : Int), ((dstN s.val).2 : Int)) := by decide +kernel
theorem len_le : ∀ s : Fin 29, (lenN (257 + s.val)).1 ≤ 258 ∧ (lenN (257 + s.val)).2 ≤ 5 := by decide +kernel
theorem dst_le : ∀ s : Fin 30, (dstN s.val).1 ≤ 32768 ∧ (dstN s.val).2 ≤ 13 := by decide +kernel
theorem length8_calls (s : Nat) (h1 : 257 ≤ s) (h2 : s ≤ 285) (w : World) : Calls Tryd.prog 37 #[.int .i64 s] w fun e w' => e = .returned (.tuple #[.int .i64 (lenN s).1, .int .i64 (lenN s).2]) ∧ ∃ m, w' = w.drewN m := by
  have h := len_all ⟨s - 257, by omega⟩
  dsimp only at h
  rw [show 257 + (s - 257) = s by omega] at h
  refine (crossdockref08_Length.calls 60 s _ _ w h).mono ?_
  rintro e w' ⟨rfl, ⟨m, rfl⟩⟩
  exact ⟨rfl, m, rfl⟩
theorem distance8_calls (s : Nat) (h2 : s ≤ 29) (w : World) : Calls Tryd.prog 38 #[.int .i64 s] w fun e w' => e = .returned (.tuple #[.int .i64 (dstN s).1, .int .i64 (dstN s).2]) ∧ ∃ m, w' = w.drewN m := by
  have h := dst_all ⟨s, by omega⟩
  dsimp only at h
  refine (crossdockref08_Distance.calls 60 s _ _ w h).mono ?_
  rintro e w' ⟨rfl, ⟨m, rfl⟩⟩
  exact ⟨rfl, m, rfl⟩
def cpD (far : Nat) : Nat → DS → DS
  | 0, d => d
  | k + 1, d => if d.bad = 0 then cpD far k (putD (d.out.getD (d.out.length - far) 0) d) else d
def back5 (lim : Int) (n far : Nat) (d : DS) : DS := cpD far n (wrongD (decide (lim < (d.out.length : Int) + (n : Int))) 3 d)
def back4 (lim : Int) (n far : Nat) (d : DS) : DS := back5 lim n far (wrongD (decide ((d.out.length : Int) < (far : Int))) 2 d)
def back3 (V N : Nat) (lim : Int) (n s : Nat) (d : DS) : DS := back4 lim n ((dstN s).1 + (numD V N (dstN s).2 d).1) (numD V N (dstN s).2 d).2
def back2 (V N : Nat) (lim : Int) (n : Nat) (r : Int × DS) : DS := if (wrongD (decide (29 < r.1)) 2 r.2).bad ≠ 0 then wrongD (decide (29 < r.1)) 2 r.2 else back3 V N lim n r.1.toNat (wrongD (decide (29 < r.1)) 2 r.2)
noncomputable def back1 (V N : Nat) (lim : Int) (B : List Int) (s : Nat) (d : DS) : DS := back2 V N lim ((lenN s).1 + (numD V N (lenN s).2 d).1) (signD V N B (numD V N (lenN s).2 d).2)
/-- What stands behind a length's letter. -/
noncomputable def backD (V N : Nat) (lim : Int) (B : List Int) (s : Int) (d : DS) : DS :=
  if (wrongD (decide (285 < s)) 2 d).bad ≠ 0 then wrongD (decide (285 < s)) 2 d else back1 V N lim B s.toNat (wrongD (decide (285 < s)) 2 d)
noncomputable def codedD (V N : Nat) (lim : Int) (A B : List Int) : Nat → DS → DS
  | 0, d => d
  | k + 1, d => if d.bad ≠ 0 then d else
    let p := signD V N A (stD d)
    if p.2.bad ≠ 0 ∨ p.1 = 256 then p.2 else
    if p.1 < 256 then codedD V N lim A B k (putD (p.1 % 256) (wrongD (decide (lim < (p.2.out.length : Int) + 1)) 3 p.2))
    else codedD V N lim A B k (backD V N lim B p.1 p.2)
theorem codedD_bad (V N : Nat) (lim : Int) (A B : List Int) (k : Nat) (d : DS) (h : d.bad ≠ 0) : codedD V N lim A B k d = d := by
  cases k with
  | zero => rfl
  | succ k => rw [codedD, if_pos h]
theorem dst_ge : ∀ s : Fin 30, 1 ≤ (dstN s.val).1 := by decide +kernel
theorem cpD_bad (far k : Nat) (d : DS) (h : d.bad ≠ 0) : cpD far k d = d := by
  cases k with
  | zero => rfl
  | succ k => rw [cpD, if_neg h]
section
variable {W1 w w1 w2 : World} {g : Nat} {AL : Option Addr} {cL V N : Nat} {lim : Int} {vo v1 v2 : Value} {d : DS}
/-- sign in any state: the codes are asked for only where no error stands. -/
theorem sign8_all (w : World) (h : Doc W1 w g AL cL N lim vo d) (hB : Bts W1 AL cL V N) (L : List Int) (lone : Bool) (hn : d.bad = 0 → newR L lone = none) (b lo hi : Nat) (v : Value) (hR : d.bad = 0 → Kd.R Kd.string 9 w b (fun k => lo ≤ k ∧ k < hi) v (docR L lone).1) :
    Calls Tryd.prog 36 #[.pointer (some ⟨g, 0, none⟩), v] w fun e w' => e = .returned (.int .i64 (signD V N L d).1) ∧ Doc W1 w' g AL cL N lim vo (signD V N L d).2 ∧ Frm g g w vo w' vo := by
  by_cases hb : d.bad = 0
  · have hnew := hn hb
    obtain ⟨hl320, hok, hov⟩ := newR_ok hnew
    have hx : (docR L lone).1 = wantL L := by unfold docR; rw [hnew]
    obtain ⟨A2, c2, hvc, hcl, hC⟩ := Kd.R_reads (hR hb)
    have hxl : (docR L lone).1.length = L.length := by rw [hx, wantL_len2]
    rw [hvc, hxl]
    exact sign8_calls w h hB hb L hok hov hl320 A2 c2 (by rw [← hx]; rwa [hxl] at hC) (by omega)
  · rw [signD_bad V N L d hb]
    refine (sign8_bad w h hb v).mono ?_
    rintro e w' ⟨rfl, rfl⟩
    exact ⟨rfl, h, Frm.refl _ _ _ _⟩
end
end Go.Proofs.YtdphifihneccoaaDoor.My

/- The document's machine: told. -/
namespace Go.Proofs.YtdphifihneccoaaDoor.My
open Go.RowKit Go.Proofs.YtdphifihneccoaaDoor.Inf Go.Proofs.YtdphifihneccoaaDoor.Huf Go.Proofs.YtdphifihneccoaaDoor.PInflateTells Go.Proofs.YtdphifihneccoaaDoorW.PrintWords Go.Proofs.YtdphifihneccoaaDoorW.PrintLast Go.Proofs.YtdphifihneccoaaDoorW.PrintMore
set_option maxRecDepth 100000
set_option linter.unusedVariables false
set_option linter.unusedSimpArgs false
def hlD (V N : Nat) : List Nat → List Int → DS → List Int × DS
  | [], L, d => (L, d)
  | p :: ps, L, d => if d.bad = 0 then hlD V N ps (L.set p ((numD V N 3 (stD d)).1 : Int)) (numD V N 3 (stD d)).2 else (L, d)
def rep1 (V N : Nat) (x : Int) (l : List Int) (d : DS) : Int × Int × DS :=
  if x = 16 then
    let p := numD V N 2 (wrongD ((l.length : Int) == 0) 2 d)
    (3 + (p.1 : Int), l.getD (l.length - 1) 0, p.2)
  else (1, x, d)
def repx (V N : Nat) (x k : Int) (b : Int) (w : Nat) (r : Int × Int × DS) : Int × Int × DS :=
  if x = k then let p := numD V N w r.2.2; (b + (p.1 : Int), 0, p.2) else r
def repD (V N : Nat) (x : Int) (l : List Int) (d : DS) : Int × Int × DS := repx V N x 18 11 7 (repx V N x 17 3 3 (rep1 V N x l d))
noncomputable def lnD (V N : Nat) (H : List Int) (many : Nat) : Nat → List Int → DS → List Int × DS
  | 0, l, d => (l, d)
  | k + 1, l, d => if d.bad = 0 ∧ l.length < many then
      let p := signD V N H (stD d)
      let q := repD V N p.1 l p.2
      let d := wrongD (decide ((many : Int) < (l.length : Int) + q.1)) 2 q.2.2
      lnD V N H many k (if d.bad = 0 then l ++ List.replicate q.1.toNat q.2.1 else l) d
    else (l, d)
def told1 (V N : Nat) (d : DS) : Nat × Nat × Nat × DS :=
  let p := numD V N 5 d
  let q := numD V N 5 p.2
  let r := numD V N 4 q.2
  (p.1, q.1, r.1, wrongD (decide (286 < 257 + (p.1 : Int)) || decide (30 < 1 + (q.1 : Int))) 2 r.2)
noncomputable def toldD (V N : Nat) (d : DS) : List Int × List Int × DS :=
  let t := told1 V N d
  let h := hlD V N (order.take (4 + t.2.2.1)) (List.replicate 19 0) t.2.2.2
  if h.2.bad ≠ 0 then ([], [], h.2) else
  let mm := 257 + t.1 + (1 + t.2.1)
  let r := lnD V N h.1 mm (mm + 1) [] (wrongD ((docR h.1 false).2 != 0) 2 h.2)
  if r.2.bad ≠ 0 then ([], [], r.2) else
  let la := r.1.take (257 + t.1)
  let lb := r.1.drop (257 + t.1)
  (la, lb, wrongD (r.1.getD 256 0 == 0) 2 (wrongD ((docR lb true).2 != 0) 2 (wrongD ((docR la false).2 != 0) 2 r.2)))
theorem ord_cell (i : Nat) (h : i < 19) : ((nums .i64 (order.map fun (n : Nat) => (n : Int))).toArray)[i]? = some (.int .i64 ((order.getD i 0 : Nat) : Int)) := by
  have : i < order.length := h
  simp [nums, List.getD, this]
theorem ord_lit : (#[.int .i64 16, .int .i64 17, .int .i64 18, .int .i64 0, .int .i64 8, .int .i64 7, .int .i64 9, .int .i64 6, .int .i64 10, .int .i64 5, .int .i64 11, .int .i64 4, .int .i64 12, .int .i64 3, .int .i64 13, .int .i64 2, .int .i64 14, .int .i64 1, .int .i64 15] : Array Value) = (nums .i64 (order.map fun (n : Nat) => (n : Int))).toArray := by simp [nums, order]
theorem two_new (wc : World) : ((wc.alloc (.cells (nums .i64 (List.replicate 19 0)).toArray 3)).alloc (.cells (nums .i64 (order.map fun (n : Nat) => (n : Int))).toArray 3)).heap[wc.heap.size]? = some (.cells (nums .i64 (List.replicate 19 0)).toArray 3 (0, 0)) ∧
    ((wc.alloc (.cells (nums .i64 (List.replicate 19 0)).toArray 3)).alloc (.cells (nums .i64 (order.map fun (n : Nat) => (n : Int))).toArray 3)).heap[wc.heap.size + 1]? = some (.cells (nums .i64 (order.map fun (n : Nat) => (n : Int))).toArray 3 (0, 0)) ∧
    Below wc.heap.size wc ((wc.alloc (.cells (nums .i64 (List.replicate 19 0)).toArray 3)).alloc (.cells (nums .i64 (order.map fun (n : Nat) => (n : Int))).toArray 3)) := by
  generalize (nums .i64 (List.replicate 19 0)).toArray = X
  generalize (nums .i64 (order.map fun (n : Nat) => (n : Int))).toArray = Y
  refine ⟨blk_alloc (alloc_self wc _) _, ?_, below_alloc (below_alloc (Below.refl _ _) _) _⟩
  have := alloc_self (wc.alloc (.cells X 3)) (.cells Y 3)
  rwa [show (wc.alloc (.cells X 3)).heap.size = wc.heap.size + 1 by simp] at this
section
variable {W1 w w1 w2 : World} {g : Nat} {AL : Option Addr} {cL V N : Nat} {lim : Int} {vo v1 v2 : Value} {d : DS}
theorem newR_ne {L : List Int} {lone : Bool} {c : Int} (h : newR L lone = some c) : c ≠ 0 := by
  unfold newR at h
  (repeat' split at h) <;> cases h <;> decide
theorem numD_pow (n : Nat) (d : DS) : (numD V N n d).1 < 2 ^ n := by
  have h0 := Nat.two_pow_pos n
  unfold numD
  split
  · exact h0
  · split
    · exact h0
    · exact Nat.mod_lt _ h0
theorem signD_out (L : List Int) (d : DS) : (signD V N L d).2.out = d.out := by
  unfold signD
  split <;> rfl
theorem Doc.far (h : Doc W1 w g AL cL N lim vo d) {k : Nat} {t : TypeId} {cs : Array Value} (hk : w.heap[k]? = some (.cells cs t (0, 0))) (hb : W1.heap.size ≤ k) (h1 : 51 ≠ t) (h2 : 5 ≠ t) (j : Nat) (u : Value) : Doc W1 (w.setCell ⟨k, j, none⟩ u) g AL cL N lim vo d :=
  ⟨Below.setCell h.bel hb _, blk_far h.blk (blk_ne h.blk hk h1) u, own_setCell h.row (own_ne h.row hk h2) u, h.bg, h.al⟩
set_option maxHeartbeats 4000000 in
theorem told8_calls (w : World) (h : Doc W1 w g AL cL N lim vo d) (hB : Bts W1 AL cL V N) (ho : d.out.length ≤ 100000) :
    Calls Tryd.prog 24 #[.pointer (some ⟨g, 0, none⟩)] w fun e w' => ∃ p q vo' : Value, e = .returned (.tuple #[p, q]) ∧ Doc W1 w' g AL cL N lim vo' (toldD V N d).2.2 ∧ Frm g g w vo w' vo' ∧ (toldD V N d).2.2.out = d.out ∧
      ((toldD V N d).2.2.bad = 0 → ∃ lo hi, w.heap.size ≤ lo ∧ hi ≤ w'.heap.size ∧ Out lo hi vo' ∧ Kd.R Kd.string 9 w' lo (fun k => lo ≤ k ∧ k < hi) p (docR (toldD V N d).1 false).1 ∧ Kd.R Kd.string 9 w' lo (fun k => lo ≤ k ∧ k < hi) q (docR (toldD V N d).2.1 true).1) := by
  have HD := Aside0.mk h
  have HB := Aside0.mk hB
  have HO := Aside0.mk ho
  have hmk : ∀ W : World, (Instr.makeSlice 54 (.int .i64 19) (.int .i64 19)).run Tryd.prog W = .ok (.slice (some ⟨W.heap.size, 0, none⟩) 19 19) (W.alloc (.cells (madeCells #[.int .i64 0] 19) 3)) := fun W => make_ints 19 (by omega) W
  have HN1 := Aside0.mk (number8_calls w HD.out HB.out 5 (by decide))
  have HGl := Aside0.mk (blk_lt h.blk)
  clear h hB ho
  go_enter Tryd.func24, Tryd.ntmps24
  go_wp2_with fail
  refine HN1.out.mono ?_
  rintro e w2 ⟨rfl, hd2, hf2⟩
  have hb1 := numD_pow (V := V) (N := N) 5 d
  have ho1 := numD_out (V := V) (N := N) 5 d
  generalize hP : numD V N 5 d = P at *
  obtain ⟨xa, d1⟩ := P
  dsimp only at *
  have HP1 := Aside0.mk hP
  have HF2 := Aside0.mk hf2
  have HN2 := Aside0.mk (number8_calls w2 hd2 HB.out 5 (by decide))
  have ba : (xa : Int) ≤ 31 := by omega
  have HO1 := Aside0.mk ho1
  clear hP hd2 hf2 hb1 ho1 HN1
  go_wp2_with fail
  refine HN2.out.mono ?_
  rintro e w3 ⟨rfl, hd3, hf3⟩
  have hb1 := numD_pow (V := V) (N := N) 5 d1
  have ho1 := numD_out (V := V) (N := N) 5 d1
  generalize hP : numD V N 5 d1 = P at *
  obtain ⟨xb, d2⟩ := P
  dsimp only at *
  have HP2 := Aside0.mk hP
  have HF3 := Aside0.mk (HF2.out.trans hf3)
  have HN3 := Aside0.mk (number8_calls w3 hd3 HB.out 4 (by decide))
  have bb : (xb : Int) ≤ 31 := by omega
  have HO2 := Aside0.mk (ho1.trans HO1.out)
  clear hP hd3 hf3 hb1 ho1 HN2
  go_wp2_with fail
  refine HN3.out.mono ?_
  rintro e w4 ⟨rfl, hd4, hf4⟩
  have hb1 := numD_pow (V := V) (N := N) 4 d2
  have ho1 := numD_out (V := V) (N := N) 4 d2
  generalize hP : numD V N 4 d2 = P at *
  obtain ⟨xc, d3⟩ := P
  dsimp only at *
  have HP3 := Aside0.mk hP
  have HF4 := Aside0.mk (HF3.out.trans hf4)
  have HD4 := Aside0.mk hd4
  have bc : (xc : Int) ≤ 15 := by omega
  have HO3 := Aside0.mk (ho1.trans HO2.out)
  have HW4 := Aside0.mk (wrong8_calls w4 hd4 (decide (286 < 257 + (xa : Int)) || decide (30 < 1 + (xb : Int))) 2)
  clear hP hd4 hf4 hb1 ho1 HN3
  obtain ⟨is, his⟩ : ∃ is, is = (decide (286 < 257 + (xa : Int)) || decide (30 < 1 + (xb : Int))) := ⟨_, rfl⟩
  have HIs := Aside0.mk his
  clear his
  go_upto_region 4 with fail
  go_cut [] from 27 to 34 (fun wx => Aside0 (Doc W1 wx g AL cL N lim vo (wrongD is 2 d3)) ∧ Aside0 (Frm g g w vo wx vo))
  case first =>
    go_wp2_with fail
    · with_reducible refine HW4.out.mono ?_
      rintro e wc ⟨rfl, hd5, hf5⟩
      have HF5 := Aside0.mk (HF4.out.trans hf5)
      have HD5 := Aside0.mk hd5
      clear hd5 hf5
      go_wp2_with fail
      go_meet
      case rel => exact ⟨⟨by rw [HIs.out]; exact HD5.out⟩, HF5⟩
    · have hI : is = true := by rw [HIs.out]; simp; omega
      have hJ : (decide (286 < 257 + (xa : Int)) || decide (30 < 1 + (xb : Int))) = true := by rw [← HIs.out]; exact hI
      rw [hJ] at HW4
      have HI := Aside0.mk hI
      clear hI hJ
      with_reducible refine HW4.out.mono ?_
      rintro e wc ⟨rfl, hd5, hf5⟩
      have HF5 := Aside0.mk (HF4.out.trans hf5)
      have HD5 := Aside0.mk hd5
      clear hd5 hf5
      go_wp2_with fail
      go_meet
      case rel => exact ⟨⟨by rw [HI.out]; exact HD5.out⟩, HF5⟩
  case rest =>
  obtain ⟨HD5, HF5⟩ := hcut
  go_upto_region 7 with fail
  have HO5 := Aside0.mk ((wrongD_out is 2 d3).trans HO3.out)
  have HT1 : Aside0 (told1 V N d = (xa, xb, xc, wrongD is 2 d3)) := ⟨by
    unfold told1
    dsimp only
    rw [HP1.out]
    dsimp only
    rw [HP2.out]
    dsimp only
    rw [HP3.out, HIs.out]⟩
  generalize wrongD is 2 d3 = d5 at *
  clear HW4 HD4
  obtain ⟨hh, hp, hbB⟩ := two_new wc
  have HDb := Aside0.mk (HD5.out.below hbB)
  have HFb := Aside0.mk (HF5.out.below hbB)
  have HHp := Aside0.mk (And.intro hh hp)
  have HSz : Aside0 (W1.heap.size ≤ wc.heap.size ∧ w.heap.size ≤ wc.heap.size) := ⟨HD5.out.bel.size, HF5.out.size⟩
  rw [made_nums]
  rw [show (#[.int .i64 16, .int .i64 17, .int .i64 18, .int .i64 0, .int .i64 8, .int .i64 7, .int .i64 9, .int .i64 6, .int .i64 10, .int .i64 5, .int .i64 11, .int .i64 4, .int .i64 12, .int .i64 3, .int .i64 13, .int .i64 2, .int .i64 14, .int .i64 1, .int .i64 15] : Array Value) = (nums .i64 (order.map fun (n : Nat) => (n : Int))).toArray from ord_lit]
  generalize (wc.alloc (.cells (nums .i64 (List.replicate 19 0)).toArray 3)).alloc (.cells (nums .i64 (order.map fun (n : Nat) => (n : Int))).toArray 3) = wB at *
  generalize hgp : wc.heap.size + 1 = gp at *
  generalize hgh : wc.heap.size = gh at *
  have HGp := Aside0.mk (And.intro hgp hgh)
  have nep : gh ≠ gp := by omega
  have HNe := Aside0.mk nep
  obtain ⟨many, hmany⟩ : ∃ many, many = 4 + xc := ⟨_, rfl⟩
  have hmm : (4 : Int) + (xc : Int) = (many : Int) := by omega
  rw [hmm]
  have hm65 : (many : Int) ≤ 19 := by omega
  have HMany := Aside0.mk hmany
  clear hh hp hbB hgp hgh nep hmm hmany
  go_upto_block 0 with (fail)
  go_cut [] (fun wx => ∃ (L : List Int) (d' : DS) (vo' : Value), Aside0 (Doc W1 wx g AL cL N lim vo' d') ∧ Aside0 (Frm g g w vo wx vo') ∧ Aside0 (d'.out = d.out) ∧ Aside0 (wx.heap[gh]? = some (.cells (nums .i64 L).toArray 3 (0, 0)) ∧ L.length = 19) ∧ Aside0 (hlD V N (order.take many) (List.replicate 19 0) d5 = (L, d')))
  case first =>
    go_wp2_with fail
    go_loopg [9] many (fun kq v9 wr => ∃ (i : Nat) (L : List Int) (d' : DS) (vo' : Value), v9 = .int .i64 i ∧ Aside0 (kq + i = many) ∧ Aside0 (Doc W1 wr g AL cL N lim vo' d') ∧ Aside0 (Frm g g w vo wr vo') ∧ Aside0 (d'.out = d.out) ∧
      Aside0 (wr.heap[gh]? = some (.cells (nums .i64 L).toArray 3 (0, 0)) ∧ L.length = 19) ∧ Aside0 (wr.heap[gp]? = some (.cells (nums .i64 (order.map fun (n : Nat) => (n : Int))).toArray 3 (0, 0))) ∧ Aside0 (i ≤ 19 ∧ hlD V N ((order.take many).drop i) L d' = hlD V N (order.take many) (List.replicate 19 0) d5))
    case atStart => exact ⟨0, _, d5, _, rfl, ⟨rfl⟩, HDb, HFb, HO5, ⟨HHp.out.1, by simp⟩, ⟨HHp.out.2⟩, ⟨by omega, rfl⟩⟩
    case round =>
      obtain ⟨i, L, d', vo', rfl, HQ, HDr, HFr, HOr, HRr, HPr, HE⟩ := hrel
      obtain ⟨_, _, _, _, c4, c5, hfz⟩ := HDr.out.cells
      have f4 := hfz 4
      have bi : (i : Int) ≤ (many : Int) := by have := HQ.out; omega
      clear hfz
      by_cases hin : i < many
      · have hin' : (i : Int) < (many : Int) := by omega
        by_cases hb : d'.bad = 0
        · have HBad := Aside0.mk hb
          rw [hb] at c5
          have hq := order_lt i (by omega)
          have HDr2 := Aside0.mk (order_drop many i (by omega) hin)
          have hor := ord_cell i (by omega)
          have i19 : (i : Int) < 19 := by omega
          have HIn := Aside0.mk hin
          clear hb
          generalize order.getD i 0 = p at *
          have hp' : (p : Int) < 19 := by omega
          have HP19 := Aside0.mk hq
          have hds : Doc W1 (wr.setCell ⟨g, 4, none⟩ (.int .i64 (wrap64 (d'.st + 1)))) g AL cL N lim vo' (stD d') := HDr.out.setSt (wrap64 (d'.st + 1))
          have HFs := Aside0.mk (HFr.out.set 4 (.int .i64 (wrap64 (d'.st + 1))))
          have hr2 := blk_far HRr.out.1 (p := ⟨g, 4, none⟩) (blk_ne HRr.out.1 HDr.out.blk (by decide)) (.int .i64 (wrap64 (d'.st + 1)))
          have hp2 := blk_far HPr.out (p := ⟨g, 4, none⟩) (blk_ne HPr.out HDr.out.blk (by decide)) (.int .i64 (wrap64 (d'.st + 1)))
          go_upto_region 11 with fail
          clear c4 c5 f4
          generalize wr.setCell ⟨g, 4, none⟩ (.int .i64 (wrap64 (d'.st + 1))) = ws at *
          have hpow := numD_lt (V := V) (N := N) 3 (by decide) (stD d')
          have hout := numD_out (V := V) (N := N) 3 (stD d')
          have HC := Aside0.mk (number8_calls ws.drew hds.drew HB.out 3 (by decide))
          generalize hP : numD V N 3 (stD d') = P at *
          obtain ⟨x, d8⟩ := P
          dsimp only at *
          have k0 : ws.cell? ⟨gp, i, none⟩ = some (.int .i64 (p : Int)) := by rw [blk_cell hp2 i]; exact hor
          have HXf : Aside0 (∀ w2 : World, Frm g g ws.drew vo' w2 vo' → w2.cell? ⟨gp, i, none⟩ = some (.int .i64 (p : Int)) ∧ (∃ y, w2.cell? ⟨gh, p, none⟩ = some y) ∧ w2.frozen? ⟨gh, p, none⟩ = false ∧ w2.heap[gh]? = some (.cells (nums .i64 L).toArray 3 (0, 0)) ∧ w2.heap[gp]? = some (.cells (nums .i64 (order.map fun (n : Nat) => (n : Int))).toArray 3 (0, 0))) := ⟨fun w2 hf => by
            have h1 := hf.blk (o := .cells (nums .i64 L).toArray 3 (0, 0)) hr2 (blk_ne hr2 hds.blk (by decide)) (blk_ne hr2 hds.blk (by decide)) (own_ne hds.row hr2 (by decide))
            have h2 := hf.blk (o := .cells (nums .i64 (order.map fun (n : Nat) => (n : Int))).toArray 3 (0, 0)) hp2 (blk_ne hp2 hds.blk (by decide)) (blk_ne hp2 hds.blk (by decide)) (own_ne hds.row hp2 (by decide))
            refine ⟨by rw [blk_cell h2 i]; exact hor, ⟨(nums .i64 L).toArray[p]'(by rw [List.size_toArray, nums_length]; have := HRr.out.2; have := HP19.out; omega), ?_⟩, blk_frozen h1 p, h1, h2⟩
            rw [blk_cell h1 p]
            exact Array.getElem?_eq_getElem _⟩
          have HP3' := Aside0.mk hP
          have HOut := Aside0.mk hout
          clear hP hout hpow hds hr2 hp2 hor
          go_region_with (go_at_call 19; refine HC.out.mono ?_; rintro e w2 ⟨rfl, hd, hf⟩; have HD2 := Aside0.mk hd; have HF2 := Aside0.mk hf; obtain ⟨k2, ⟨y, k3⟩, k4, hk5, hk6⟩ := HXf.out w2 hf; have HK5 := Aside0.mk (And.intro hk5 hk6); clear hd hf hk5 hk6)
          all_goals
            go_wp2_with fail
            go_roundg (many - (i + 1))
            case measure => have := HQ.out; have := HIn.out; omega
            case rel =>
              refine ⟨i + 1, L.set p (x : Int), d8, vo', rfl, ⟨by have := HQ.out; have := HIn.out; omega⟩, ⟨HD2.out.far HK5.out.1 (by have := HSz.out; omega) (by decide) (by decide) p (.int .i64 (x : Int))⟩, ⟨(HFs.out.drew.trans HF2.out).setNew gh p _ (by have := HSz.out; omega)⟩, ⟨HOut.out.trans HOr.out⟩, ⟨row_set HK5.out.1 p x, by rw [List.length_set]; exact HRr.out.2⟩, ⟨blk_far HK5.out.2 (p := ⟨gh, p, none⟩) HNe.out.symm _⟩, ⟨by have := HIn.out; omega, ?_⟩⟩
              have h1 := HE.out.2
              rw [HDr2.out, hlD, if_pos HBad.out, HP3'.out] at h1
              exact h1
        · have hb1 : (d'.bad == 0) = false := beq_eq_false_iff_ne.2 hb
          have HBad := Aside0.mk hb
          have HDr2 := Aside0.mk (order_drop many i (by omega) hin)
          clear hb
          go_wp2_with fail
          go_meet
          case rel =>
            refine ⟨L, d', vo', HDr, HFr, HOr, HRr, ⟨?_⟩⟩
            have h1 := HE.out.2
            rw [HDr2.out, hlD, if_neg HBad.out] at h1
            exact h1.symm
      · have hin' : ¬ (i : Int) < (many : Int) := by omega
        go_wp2_with fail
        go_meet
        case rel =>
          refine ⟨L, d', vo', HDr, HFr, HOr, HRr, ⟨?_⟩⟩
          have h1 := HE.out.2
          rw [List.drop_eq_nil_of_le (by rw [List.length_take]; show min many 19 ≤ i; omega), hlD] at h1
          exact h1.symm
  case rest =>
  obtain ⟨H, d6, vo6, HD6, HF6, HO6, HH6, HE6⟩ := hcut
  obtain ⟨_, _, _, _, c4, c5, hfz⟩ := HD6.out.cells
  clear hfz c4
  have HT2 := Aside0.mk (And.intro HT1.out HE6.out)
  by_cases hb : d6.bad = 0
  · have HBad := Aside0.mk hb
    rw [hb] at c5
    clear hb
    have HC6 := Aside0.mk (codes8_calls wc HD6.out (some ⟨gh, 0, none⟩) 19 H false (by have := C_block wc gh .i64 H 3 (0, 0) HH6.out.1 (by have := HH6.out.2; omega); exact this) (by have := HH6.out.2; omega))
    rw [HH6.out.2] at HC6
    go_wp2_with fail
    refine HC6.out.mono ?_
    rintro e wd ⟨vc, rfl, hR, hd, hf⟩
    obtain ⟨d7, hd7⟩ : ∃ d7, d7 = wrongD ((docR H false).2 != 0) 2 d6 := ⟨_, rfl⟩
    rw [← hd7] at hd
    have HNew : Aside0 (d7.bad = 0 → newR H false = none) := ⟨fun hb => by
      cases hr : newR H false with
      | none => rfl
      | some ce =>
        exfalso
        have hne : ce ≠ 0 := newR_ne hr
        rw [hd7] at hb
        unfold wrongD docR at hb
        rw [hr] at hb
        dsimp only at hb
        rw [if_pos ⟨HBad.out, bne_iff_ne.2 hne⟩] at hb
        cases hb⟩
    have HO7 : Aside0 (d7.out = d.out) := ⟨by rw [hd7]; exact (wrongD_out _ _ _).trans HO6.out⟩
    have HD7 := Aside0.mk hd7
    obtain ⟨xs, hxs⟩ : ∃ xs, xs = (docR H false).1 := ⟨_, rfl⟩
    rw [← hxs] at hR
    have HXs := Aside0.mk hxs
    have hbl := below_alloc (Below.refl wd.heap.size wd) (.cells #[] 3)
    have hT0 : Tld W1 w (wd.alloc (.cells #[] 3)) g AL cL N lim vo vo6 d7 wd.heap.size (some ⟨wd.heap.size, 0, none⟩) [] 0 wc.heap.size wd.heap.size vc xs :=
      ⟨hd.below hbl, (HF6.out.trans hf).below hbl, own_lit wd wd.heap.size 3 .i64 [] (Nat.le_refl _) (by decide), Kd.R_below hR hbl, fun k e => .inl (own_lt HD6.out.row k e), Nat.le_refl _, HF6.out.size, by simp, hf.size, HGl.out, HD6.out.bel.size⟩
    have HT0 := Aside0.mk hT0
    have HH := Aside0.mk HH6.out.2
    clear hR hd hf hd7 hxs hbl hT0 HC6 c5
    obtain ⟨mm, hmm⟩ : ∃ mm : Nat, mm = 257 + xa + (1 + xb) := ⟨_, rfl⟩
    have bm : (mm : Int) ≤ 320 := by omega
    have em : 257 + (xa : Int) + (1 + (xb : Int)) = (mm : Int) := by omega
    have HMmE := Aside0.mk hmm
    clear hmm
    generalize hlo : wc.heap.size = lo at *
    generalize hhi : wd.heap.size = hi at *
    go_upto_block 2 with (fail)
    go_cut [11] (fun v11 wx => ∃ (A : Option Addr) (c : Nat) (l : List Int) (d' : DS) (vo' : Value), v11 = .slice A l.length c ∧ Aside0 (Tld W1 w wx g AL cL N lim vo vo' d' hi A l c lo hi vc xs) ∧ Aside0 (d'.out = d.out ∧ l.length ≤ mm) ∧ Aside0 (lnD V N H mm (mm + 1) [] d7 = (l, d')) ∧ Aside0 (d'.bad = 0 → mm ≤ l.length))
    case first =>
      go_wp2_with fail
      go_loopg [11] (mm + 1) (fun kq v11 wr => ∃ (fu : Nat) (A : Option Addr) (c : Nat) (l : List Int) (d' : DS) (vo' : Value), v11 = .slice A l.length c ∧ Aside0 (kq = fu) ∧ Aside0 (Tld W1 w wr g AL cL N lim vo vo' d' hi A l c lo hi vc xs) ∧ Aside0 (d'.out = d.out ∧ l.length ≤ mm) ∧ Aside0 (lnD V N H mm fu l d' = lnD V N H mm (mm + 1) [] d7) ∧ Aside0 (d'.bad = 0 → newR H false = none ∧ mm + 1 ≤ fu + l.length))
      case atStart => exact ⟨mm + 1, _, 0, [], d7, _, rfl, ⟨rfl⟩, HT0, ⟨HO7.out, by simp⟩, ⟨rfl⟩, ⟨fun hb => ⟨HNew.out hb, by simp⟩⟩⟩
      case round =>
        obtain ⟨fu, A, c, l, d', vo', rfl, HQ, HT, HOl, HE, HInv⟩ := hrel
        obtain ⟨_, _, _, _, c4, c5, hfz⟩ := HT.out.doc.cells
        have f4 := hfz 4
        have bl : (l.length : Int) ≤ (mm : Int) := by have := HOl.out.2; omega
        clear hfz
        by_cases hb : d'.bad = 0
        · have HBad2 := Aside0.mk hb
          rw [hb] at c5
          by_cases hlm : l.length < mm
          · have hlm' : (l.length : Int) < (mm : Int) := by omega
            obtain ⟨hnew, hfu⟩ := HInv.out hb
            obtain ⟨hl320, hok, hov⟩ := newR_ok hnew
            have hx : xs = wantL H := by rw [HXs.out]; unfold docR; rw [hnew]
            have HFu := Aside0.mk (And.intro hfu hlm)
            have HNw := Aside0.mk hnew
            have hds : Doc W1 (wr.setCell ⟨g, 4, none⟩ (.int .i64 (wrap64 (d'.st + 1)))) g AL cL N lim vo' (stD d') := HT.out.doc.setSt (wrap64 (d'.st + 1))
            have hts := HT.out.turn hds ((Frm.refl g g wr vo').set 4 (.int .i64 (wrap64 (d'.st + 1))))
            obtain ⟨A2, c2, hvc, hcl, hC⟩ := Kd.R_reads hts.code
            have hxl : xs.length = H.length := by rw [hx, wantL_len2]
            have hs := sign8_calls _ hds HB.out HBad2.out H hok hov hl320 A2 c2 (by rw [← hx]; rwa [hxl] at hC) (by omega)
            rw [← hxl, ← hvc] at hs
            have ho8 := signD_out (V := V) (N := N) H (stD d')
            clear hb hlm hnew hfu hl320 hok hov hx hvc hcl hC hxl
            go_upto_region 18 with fail
            generalize wr.setCell ⟨g, 4, none⟩ (.int .i64 (wrap64 (d'.st + 1))) = ws at *
            have HS := Aside0.mk hs
            have HTs := Aside0.mk hts
            clear hs hts hds c4 c5 f4
            go_wp2_with fail
            refine HS.out.mono ?_
            rintro e w8 ⟨rfl, hd8, hf8⟩
            generalize hP : signD V N H (stD d') = P at *
            obtain ⟨sx, d8⟩ := P
            dsimp only at *
            have HP8 := Aside0.mk hP
            have HT8 := Aside0.mk (HTs.out.turn hd8 hf8)
            have HO8 := Aside0.mk ho8
            clear hP hd8 hf8 ho8 HS
            go_upto_if 98 with (fail)
            go_cut [13, 14] (fun v13 v14 wx => ∃ (n : Nat) (x : Int) (d9 : DS) (vo9 : Value), v13 = .int .i64 n ∧ v14 = .int .i64 x ∧ Aside0 (Tld W1 w wx g AL cL N lim vo vo9 d9 hi A l c lo hi vc xs) ∧ Aside0 (rep1 V N sx l d8 = ((n : Int), x, d9)) ∧ Aside0 (1 ≤ n ∧ n ≤ 138) ∧ Aside0 (d9.out = d8.out))
            case first =>
              by_cases q1 : sx = 16
              · have e1 : (sx == 16) = true := beq_iff_eq.2 q1
                have HQ1 := Aside0.mk q1
                clear q1
                have hw := wrong8_calls w8 HT8.out.doc ((l.length : Int) == 0) 2
                have HO9w := Aside0.mk (wrongD_out ((l.length : Int) == 0) 2 d8)
                generalize hd9 : wrongD ((l.length : Int) == 0) 2 d8 = d9 at *
                have HW := Aside0.mk hw
                have HD9 := Aside0.mk hd9
                clear hw hd9
                have hl4 : l.length ≤ 1000000 := by have := HOl.out.2; omega
                have HL4 := Aside0.mk hl4
                clear hl4
                go_wp2_with fail
                refine HW.out.mono ?_
                rintro e w9 ⟨rfl, hd9, hf9⟩
                have HT9 := Aside0.mk (HT8.out.turn hd9 hf9)
                have HN9 := Aside0.mk (number8_calls w9 hd9 HB.out 2 (by decide))
                have hp9 := numD_pow (V := V) (N := N) 2 d9
                have ho9 := numD_out (V := V) (N := N) 2 d9
                generalize hP : numD V N 2 d9 = P at *
                obtain ⟨k, dA⟩ := P
                dsimp only at *
                have HPk := Aside0.mk hP
                have HOk := Aside0.mk ho9
                have bk : (k : Int) ≤ 3 := by omega
                clear hd9 hf9 hP hp9 ho9
                go_wp2_with fail
                refine HN9.out.mono ?_
                rintro e wA ⟨rfl, hdA, hfA⟩
                have HTA := Aside0.mk (HT9.out.turn hdA hfA)
                clear hdA hfA HN9
                have HRes : Aside0 (rep1 V N sx l d8 = (((3 + k : Nat) : Int), l.getD (l.length - 1) 0, dA)) := ⟨by
                  unfold rep1
                  rw [if_pos HQ1.out]
                  dsimp only
                  rw [HD9.out, HPk.out]
                  congr 1⟩
                by_cases hl0 : l.length = 0
                · have z0 : ¬ (0 : Int) < (l.length : Int) := by omega
                  have HZ : Aside0 (l.getD (l.length - 1) 0 = 0) := ⟨by have : l = [] := List.eq_nil_of_length_eq_zero hl0; rw [this]; rfl⟩
                  clear hl0
                  go_wp2_with fail
                  go_meet
                  case rel => exact ⟨3 + k, 0, dA, _, by simp, rfl, HTA, ⟨by rw [HRes.out, HZ.out]⟩, ⟨by omega⟩, ⟨HOk.out.trans HO9w.out⟩⟩
                · have hp : 1 ≤ l.length := by omega
                  have z0 : (0 : Int) < (l.length : Int) := by omega
                  have z1 : (l.length : Int) ≤ 400 := by omega
                  have z2 : (0 : Int) ≤ (l.length : Int) - 1 := by omega
                  have z3 : (l.length : Int) - 1 < (l.length : Int) := by omega
                  have ht : ((l.length : Int) - 1).toNat = l.length - 1 := by omega
                  obtain ⟨ad, rfl, k0⟩ := HTA.out.last hp HL4.out
                  generalize hyy : l.getD (l.length - 1) 0 = yy at *
                  clear hp hl0 hyy
                  go_wp2_with fail
                  go_meet
                  case rel => exact ⟨3 + k, yy, dA, _, by simp, rfl, HTA, HRes, ⟨by omega⟩, ⟨HOk.out.trans HO9w.out⟩⟩
              · have e1 : (sx == 16) = false := beq_eq_false_iff_ne.2 q1
                have HQ1 := Aside0.mk q1
                clear q1
                go_wp2_with fail
                go_meet
                case rel => exact ⟨1, sx, d8, _, rfl, rfl, HT8, ⟨by unfold rep1; rw [if_neg HQ1.out]; rfl⟩, ⟨by decide⟩, ⟨rfl⟩⟩
            case rest =>
            obtain ⟨n, x, d9, vo9, rfl, rfl, HT9, HR9, HN9, HO9⟩ := hcut
            go_upto_if 117 with (fail)
            go_cut [13, 14] (fun v13 v14 wx => ∃ (n : Nat) (x : Int) (d9 : DS) (vo9 : Value), v13 = .int .i64 n ∧ v14 = .int .i64 x ∧ Aside0 (Tld W1 w wx g AL cL N lim vo vo9 d9 hi A l c lo hi vc xs) ∧ Aside0 (repx V N sx 17 3 3 (rep1 V N sx l d8) = ((n : Int), x, d9)) ∧ Aside0 (1 ≤ n ∧ n ≤ 138) ∧ Aside0 (d9.out = d8.out))
            case first =>
              by_cases q1 : sx = 17
              · have e1 : (sx == 17) = true := beq_iff_eq.2 q1
                have HQ1 := Aside0.mk q1
                clear q1
                have HN10 := Aside0.mk (number8_calls _ HT9.out.doc HB.out 3 (by decide))
                have hp9 := numD_pow (V := V) (N := N) 3 d9
                have ho9 := numD_out (V := V) (N := N) 3 d9
                generalize hP : numD V N 3 d9 = P at *
                obtain ⟨k, dA⟩ := P
                dsimp only at *
                have HPk := Aside0.mk hP
                have HOk := Aside0.mk ho9
                have bk : (k : Int) ≤ 7 := by omega
                clear hP hp9 ho9
                go_wp2_with fail
                refine HN10.out.mono ?_
                rintro e wA ⟨rfl, hdA, hfA⟩
                have HTA := Aside0.mk (HT9.out.turn hdA hfA)
                clear hdA hfA HN10
                go_wp2_with fail
                go_meet
                case rel => exact ⟨3 + k, 0, dA, _, by simp, rfl, HTA, ⟨by unfold repx; rw [if_pos HQ1.out, HR9.out]; dsimp only; rw [HPk.out]; congr 1⟩, ⟨by omega⟩, ⟨HOk.out.trans HO9.out⟩⟩
              · have e1 : (sx == 17) = false := beq_eq_false_iff_ne.2 q1
                have HQ1 := Aside0.mk q1
                clear q1
                go_wp2_with fail
                go_meet
                case rel => exact ⟨n, x, d9, _, rfl, rfl, HT9, ⟨by unfold repx; rw [if_neg HQ1.out]; exact HR9.out⟩, HN9, HO9⟩
            case rest =>
            clear HT9 HR9 HN9 HO9
            obtain ⟨n, x, d9, vo9, rfl, rfl, HT9, HR9, HN9, HO9⟩ := hcut
            go_upto_if 122 with (fail)
            go_cut [13, 14] (fun v13 v14 wx => ∃ (n : Nat) (x : Int) (d9 : DS) (vo9 : Value), v13 = .int .i64 n ∧ v14 = .int .i64 x ∧ Aside0 (Tld W1 w wx g AL cL N lim vo vo9 d9 hi A l c lo hi vc xs) ∧ Aside0 (repD V N sx l d8 = ((n : Int), x, d9)) ∧ Aside0 (1 ≤ n ∧ n ≤ 138) ∧ Aside0 (d9.out = d8.out))
            case first =>
              by_cases q1 : sx = 18
              · have e1 : (sx == 18) = true := beq_iff_eq.2 q1
                have HQ1 := Aside0.mk q1
                clear q1
                have HN10 := Aside0.mk (number8_calls _ HT9.out.doc HB.out 7 (by decide))
                have hp9 := numD_pow (V := V) (N := N) 7 d9
                have ho9 := numD_out (V := V) (N := N) 7 d9
                generalize hP : numD V N 7 d9 = P at *
                obtain ⟨k, dA⟩ := P
                dsimp only at *
                have HPk := Aside0.mk hP
                have HOk := Aside0.mk ho9
                have bk : (k : Int) ≤ 127 := by omega
                clear hP hp9 ho9
                go_wp2_with fail
                refine HN10.out.mono ?_
                rintro e wA ⟨rfl, hdA, hfA⟩
                have HTA := Aside0.mk (HT9.out.turn hdA hfA)
                clear hdA hfA HN10
                go_wp2_with fail
                go_meet
                case rel => exact ⟨11 + k, 0, dA, _, by simp, rfl, HTA, ⟨by unfold repD; generalize repx V N sx 17 3 3 (rep1 V N sx l d8) = R at *; unfold repx; rw [if_pos HQ1.out, HR9.out]; dsimp only; rw [HPk.out]; congr 1⟩, ⟨by omega⟩, ⟨HOk.out.trans HO9.out⟩⟩
              · have e1 : (sx == 18) = false := beq_eq_false_iff_ne.2 q1
                have HQ1 := Aside0.mk q1
                clear q1
                go_wp2_with fail
                go_meet
                case rel => exact ⟨n, x, d9, _, rfl, rfl, HT9, ⟨by unfold repD; rw [HR9.out]; unfold repx; rw [if_neg HQ1.out]⟩, HN9, HO9⟩
            case rest =>
            clear HT9 HR9 HN9 HO9
            obtain ⟨n, x, d9, vo9, rfl, rfl, HT9, HR9, HN9, HO9⟩ := hcut
            have bn : (n : Int) ≤ 138 := by have := HN9.out; omega
            have hw := wrong8_calls _ HT9.out.doc (decide ((mm : Int) < (l.length : Int) + (n : Int))) 2
            have HOw := Aside0.mk (wrongD_out (decide ((mm : Int) < (l.length : Int) + (n : Int))) 2 d9)
            generalize hdA : wrongD (decide ((mm : Int) < (l.length : Int) + (n : Int))) 2 d9 = dA at *
            have HW := Aside0.mk hw
            have HDA := Aside0.mk hdA
            have HNb : Aside0 (dA.bad = 0 → l.length + n ≤ mm) := ⟨fun hb => by
              rcases Nat.lt_or_ge mm (l.length + n) with h | h
              · exfalso
                have h2 : decide ((mm : Int) < (l.length : Int) + (n : Int)) = true := decide_eq_true (by omega)
                rw [h2] at hdA
                rw [← hdA] at hb
                unfold wrongD at hb
                split at hb
                · cases hb
                · rename_i h3
                  exact h3 ⟨hb, rfl⟩
              · exact h⟩
            clear hw hdA
            go_wp2_with fail
            refine HW.out.mono ?_
            rintro e wA ⟨rfl, hdA, hfA⟩
            have HTA := Aside0.mk (HT9.out.turn hdA hfA)
            clear hdA hfA HW
            have hLn : lnD V N H mm (fu - 1) (if dA.bad = 0 then l ++ List.replicate n x else l) dA = lnD V N H mm (mm + 1) [] d7 := by
              obtain ⟨k, hk⟩ : ∃ k, fu = k + 1 := ⟨fu - 1, by have := HFu.out; omega⟩
              rw [← HE.out, hk, Nat.add_sub_cancel]
              symm
              rw [lnD, if_pos (show d'.bad = 0 ∧ l.length < mm from ⟨HBad2.out, HFu.out.2⟩), HP8.out]
              dsimp only
              rw [HR9.out]
              dsimp only
              rw [HDA.out, Int.toNat_natCast]
            have HLn := Aside0.mk hLn
            have HFu1 : Aside0 (1 ≤ fu) := ⟨by have := HFu.out; omega⟩
            clear hLn
            go_wp2_with fail
            go_loopg [11, 15] n (fun kq v11 v15 wr => ∃ (i : Nat) (A3 : Option Addr) (c3 : Nat) (m : List Int), v11 = .slice A3 m.length c3 ∧ v15 = .int .i64 i ∧ Aside0 (kq + i = n) ∧ Aside0 (m = l ++ List.replicate i x) ∧ Aside0 (i ≠ 0 → dA.bad = 0) ∧ ∃ vo3, Aside0 (Tld W1 w wr g AL cL N lim vo vo3 dA hi A3 m c3 lo hi vc xs))
            case atStart => exact ⟨0, _, _, l, rfl, rfl, ⟨rfl⟩, ⟨by simp⟩, ⟨fun h => absurd rfl h⟩, _, HTA⟩
            case round =>
              obtain ⟨i, A3, c3, m, rfl, rfl, HQi, HM, HZi, vo3, HT3⟩ := hrel
              obtain ⟨_, _, _, _, _, k5, hfz⟩ := HT3.out.doc.cells
              have bi : (i : Int) ≤ (n : Int) := by have := HQi.out; omega
              clear hfz
              by_cases hin : i < n
              · have hin' : (i : Int) < (n : Int) := by omega
                have HIn := Aside0.mk hin
                by_cases hb : dA.bad = 0
                · have HBA := Aside0.mk hb
                  rw [hb] at k5
                  have hm1 : (m.length + 1) * 8 ≤ 140737488355328 := by rw [HM.out]; have := HOl.out.2; have := HN9.out; simp; omega
                  have HM1 := Aside0.mk hm1
                  clear hb hin hm1
                  go_wp2_with ((with_reducible refine gate_dst (N := 151) rfl ?_); refine print_append_num (w0 := wr) hi rfl (.tmp 148) (.tmp 150) 54 3 .i64 8 rfl Tryd.underlying54 info_i64 (by decide) _ m x rfl rfl HT3.out.row (Below.refl _ _) HT3.out.le HM1.out ?_; intro v6 w6 ho _ hg6 _; obtain ⟨A6, c6, rfl⟩ := own_slice ho; have HT6 := Aside0.mk (HT3.out.push (A2 := A6) (c2 := c6) (y := x) (by have := ho; simpa using this) hg6); clear ho hg6)
                  go_roundg (n - (i + 1))
                  case measure => have := HQi.out; have := HIn.out; omega
                  case rel =>
                    refine ⟨i + 1, A6, c6, m ++ [x], by simp, rfl, ⟨by have := HQi.out; have := HIn.out; omega⟩, ⟨by rw [HM.out]; exact (rep_append l x i).symm⟩, ⟨fun _ => HBA.out⟩, vo3, HT6⟩
                · have hb1 : (dA.bad == 0) = false := beq_eq_false_iff_ne.2 hb
                  have HBA := Aside0.mk hb
                  have HI0 : Aside0 (m = l) := ⟨by
                    have h0 : i = 0 := by
                      rcases Nat.eq_zero_or_pos i with h | h
                      · exact h
                      · exact absurd (HZi.out (by omega)) HBA.out
                    rw [HM.out, h0]
                    simp⟩
                  clear hb hin
                  go_wp2_with fail
                  go_roundg (fu - 1)
                  case measure => have := HQ.out; have := HFu1.out; omega
                  case rel =>
                    refine ⟨fu - 1, A3, c3, m, dA, vo3, rfl, ⟨rfl⟩, HT3, ⟨HOw.out.trans (HO9.out.trans (HO8.out.trans HOl.out.1)), by rw [HI0.out]; exact HOl.out.2⟩, ⟨by have h1 := HLn.out; rw [if_neg HBA.out] at h1; rw [HI0.out]; exact h1⟩, ⟨fun h => absurd h HBA.out⟩⟩
              · have hin' : ¬ (i : Int) < (n : Int) := by omega
                have HI0 : Aside0 (i = n) := ⟨by omega⟩
                have HBA : Aside0 (dA.bad = 0) := ⟨HZi.out (by have := HN9.out; omega)⟩
                clear hin
                go_wp2_with fail
                go_roundg (fu - 1)
                case measure => have := HQ.out; have := HFu1.out; omega
                case rel =>
                  have hml : m.length = l.length + n := by rw [HM.out, HI0.out]; simp
                  refine ⟨fu - 1, A3, c3, m, dA, vo3, rfl, ⟨rfl⟩, HT3, ⟨HOw.out.trans (HO9.out.trans (HO8.out.trans HOl.out.1)), by rw [hml]; exact HNb.out HBA.out⟩, ⟨by have h1 := HLn.out; rw [if_pos HBA.out] at h1; rw [HM.out, HI0.out]; exact h1⟩, ⟨fun h => ⟨HNw.out, by have := HFu.out; have := HN9.out; omega⟩⟩⟩
          · have hlm' : ¬ (l.length : Int) < (mm : Int) := by omega
            have HLm := Aside0.mk hlm
            clear hb hlm
            go_wp2_with fail
            go_meet
            case rel =>
              refine ⟨A, c, l, d', vo', rfl, HT, HOl, ⟨?_⟩, ⟨fun _ => by have := HLm.out; omega⟩⟩
              rw [← HE.out]
              cases fu with
              | zero => rfl
              | succ k => rw [lnD, if_neg (by have := HLm.out; omega)]
        · have hb1 : (d'.bad == 0) = false := beq_eq_false_iff_ne.2 hb
          have HBad2 := Aside0.mk hb
          clear hb
          go_wp2_with fail
          go_meet
          case rel =>
            refine ⟨A, c, l, d', vo', rfl, HT, HOl, ⟨?_⟩, ⟨fun h => absurd h HBad2.out⟩⟩
            rw [← HE.out]
            cases fu with
            | zero => rfl
            | succ k => rw [lnD, if_neg (fun h => HBad2.out h.1)]
    case rest =>
    obtain ⟨A, c, l, d', vo', rfl, HT, HOl, HE, HMm⟩ := hcut
    obtain ⟨_, _, _, _, _, c5, hfz⟩ := HT.out.doc.cells
    clear hfz
    by_cases hb : d'.bad = 0
    · have HBe := Aside0.mk hb
      rw [hb] at c5
      clear hb
      have hlen : l.length = mm := by have := HOl.out.2; have := HMm.out HBe.out; omega
      obtain ⟨A0, c0, e0, hlc, hC⟩ := own_slice' HT.out.row
      injection e0 with e1 _ e2
      subst e1 e2
      have hnil := own_cap HT.out.row
      obtain ⟨i0, hi0, hz⟩ := Option.map_eq_some_iff.1 info_i64
      simp only [Prod.mk.injEq] at hz
      have h257 : 257 + xa ≤ l.length := by omega
      obtain ⟨A2, hcut2, hC2, hnil2⟩ := cut_from (P := Tryd.prog) (k := .i64) 54 3 Tryd.underlying54 hi0 hz.2.1 A l.length c l (257 + xa) h257 rfl hlc hnil
      have hsl : ∀ W : World, (Instr.slice 54 (.slice A l.length c) none (some (.int .i64 (257 + (xa : Int)))) none).run Tryd.prog W = .ok (.slice A (257 + xa) c) W := fun W => by
        have := slice_to A l.length c (257 + xa) (by omega) W
        rwa [show ((257 + xa : Nat) : Int) = 257 + (xa : Int) by omega] at this
      have hcut' : ∀ W : World, (Instr.slice 54 (.slice A l.length c) (some (.int .i64 (257 + (xa : Int)))) none none).run Tryd.prog W = .ok (.slice A2 (l.length - (257 + xa)) (c - (257 + xa))) W := fun W => by
        have := hcut2 .i64 W
        rwa [show ((257 + xa : Nat) : Int) = 257 + (xa : Int) by omega] at this
      have hla : (l.take (257 + xa)).length = 257 + xa := by rw [List.length_take]; omega
      have hlb : (l.drop (257 + xa)).length = l.length - (257 + xa) := List.length_drop ..
      have H1 := codes8_calls _ HT.out.doc A c (l.take (257 + xa)) false (by rw [hla]; exact C_take hC (257 + xa) h257) (by rw [hla]; omega)
      rw [hla] at H1
      have HC1 := Aside0.mk H1
      have HC2 := Aside0.mk hC2
      have HLb := Aside0.mk (And.intro hlb (And.intro hlen (And.intro hlc h257)))
      have z2 : (0 : Int) ≤ 257 + (xa : Int) := by omega
      have bll : (l.length : Int) ≤ 320 := by omega
      clear hlen hC hnil hi0 hz h257 hcut2 hC2 hnil2 hla hlb H1
      go_wp2_with fail
      refine HC1.out.mono ?_
      rintro e wE ⟨vp, rfl, hR1, hd1, hf1⟩
      have HTE := Aside0.mk (HT.out.turn hd1 hf1)
      have HWE := Aside0.mk hf1.size
      have hC := (own_slice' HTE.out.row)
      obtain ⟨A0, c0, e0, _, hC⟩ := hC
      injection e0 with e1 _ e2
      subst e1 e2
      have H2 := codes8_calls wE hd1 A2 (c - (257 + xa)) (l.drop (257 + xa)) true (by rw [HLb.out.1]; exact HC2.out wE hC) (by rw [HLb.out.1]; have := HLb.out; omega)
      rw [HLb.out.1] at H2
      have HCC2 := Aside0.mk H2
      have HR1 := Aside0.mk hR1
      clear hR1 hd1 hf1 hC H2 HC1
      go_wp2_with fail
      refine HCC2.out.mono ?_
      rintro e wF ⟨vq, rfl, hR2, hd2', hf2'⟩
      have HTF := Aside0.mk (HTE.out.turn hd2' hf2')
      have hg1 := blk_lt HT.out.doc.blk
      have hg2 : ∀ k, vo'.ownBlock = some k → k < _ := fun k e => own_lt HT.out.doc.row k e
      have hRp := cs_frm HR1.out hf2' (.inl hg1) (fun k e => .inl (hg2 k e))
      have HRp := Aside0.mk (Kd.R_mono hRp (fun k hk => (⟨hk.1, Nat.lt_of_lt_of_le hk.2 hf2'.size⟩ : _ ≤ k ∧ k < wF.heap.size)))
      obtain ⟨A0, c0, e0, _, hC⟩ := own_slice' HTF.out.row
      injection e0 with e1 _ e2
      subst e1 e2
      obtain ⟨ad, rfl, hc⟩ := Kd.at_int hC (256 : Int) (by omega) (by have := HLb.out; omega)
      have hc' : wF.cell? ⟨ad.block, ad.off + 256, none⟩ = some (.int .i64 (l.getD 256 0)) := hc
      have z3 : (256 : Int) < (l.length : Int) := by have := HLb.out; omega
      have HRq := Aside0.mk (Kd.R_mono (Kd.R_lower hR2 HWE.out) (fun k hk => (⟨Nat.le_trans HWE.out hk.1, hk.2⟩ : wc.heap.size ≤ k ∧ k < wF.heap.size)))
      have HW := Aside0.mk (wrong8_calls wF HTF.out.doc (l.getD 256 0 == 0) 2)
      have HOwn := Aside0.mk (And.intro hg1 hg2)
      have HWc := Aside0.mk (show w.heap.size ≤ wc.heap.size from HT.out.frm.size)
      have HTo : Aside0 (toldD V N d = (l.take (257 + xa), l.drop (257 + xa), wrongD (l.getD 256 0 == 0) 2 (wrongD ((docR (l.drop (257 + xa)) true).2 != 0) 2 (wrongD ((docR (l.take (257 + xa)) false).2 != 0) 2 d')))) := ⟨by
        unfold toldD
        rw [HT2.out.1]
        dsimp only
        rw [← HMany.out, HT2.out.2]
        dsimp only
        rw [if_neg (by simp [HBad.out]), ← HD7.out, ← HMmE.out, HE.out]
        dsimp only
        rw [if_neg (by simp [HBe.out])]⟩
      generalize l.getD 256 0 = yy at *
      clear hR2 hd2' hf2' hg1 hg2 hRp hC hc HCC2
      go_wp2_with fail
      refine HW.out.mono ?_
      rintro e wG ⟨rfl, hdG, hfG⟩
      have HDG := Aside0.mk hdG
      have HFG := Aside0.mk hfG
      clear hdG hfG HW
      go_wp2_with fail
      refine bodyPost_ret (results_list (rs := [.tmp 2, .tmp 3]) rfl (by simp) (.tmp (.tmp .nil))) rfl ?_
      rw [HTo.out]
      refine ⟨vp, vq, vo', rfl, HDG.out, HTF.out.frm.trans HFG.out, ?_, fun _ => ⟨wc.heap.size, wF.heap.size, HWc.out, HFG.out.size, fun k e => .inl (HOwn.out.2 k e), ?_, ?_⟩⟩
      · dsimp only
        rw [wrongD_out, wrongD_out, wrongD_out]
        exact HOl.out.1
      · exact cs_frm HRp.out HFG.out (.inl HOwn.out.1) (fun k e => .inl (HOwn.out.2 k e))
      · exact cs_frm HRq.out HFG.out (.inl HOwn.out.1) (fun k e => .inl (HOwn.out.2 k e))
    · have hb1 : (d'.bad != 0) = true := bne_iff_ne.2 hb
      have HBe := Aside0.mk hb
      clear hb
      go_wp2_with fail
      refine bodyPost_ret (results_list (rs := [.tmp 2, .tmp 3]) rfl (by simp) (.tmp (.tmp .nil))) rfl ?_
      have HTo : toldD V N d = ([], [], d') := by
        unfold toldD
        rw [HT2.out.1]
        dsimp only
        rw [← HMany.out, HT2.out.2]
        dsimp only
        rw [if_neg (by simp [HBad.out]), ← HD7.out, ← HMmE.out, HE.out]
        dsimp only
        rw [if_pos HBe.out]
      rw [HTo]
      exact ⟨_, _, _, rfl, HT.out.doc, HT.out.frm, HOl.out.1, fun h => absurd h HBe.out⟩
  · have hb1 : (d6.bad != 0) = true := bne_iff_ne.2 hb
    have HBad := Aside0.mk hb
    clear hb
    go_wp2_with fail
    refine bodyPost_ret (results_list (rs := [.tmp 2, .tmp 3]) rfl (by simp) (.tmp (.tmp .nil))) rfl ?_
    have HTo : toldD V N d = ([], [], d6) := by
      unfold toldD
      rw [HT2.out.1]
      dsimp only
      rw [← HMany.out, HT2.out.2]
      dsimp only
      rw [if_pos HBad.out]
    rw [HTo]
    exact ⟨_, _, _, rfl, HD6.out, HF6.out, HO6.out, fun h => absurd h HBad.out⟩
end
end Go.Proofs.YtdphifihneccoaaDoor.My

/- The document's machine: coded. -/
namespace Go.Proofs.YtdphifihneccoaaDoor.My
open Go.RowKit Go.Proofs.YtdphifihneccoaaDoor.Inf Go.Proofs.YtdphifihneccoaaDoor.Huf Go.Proofs.YtdphifihneccoaaDoor.PInflateTells Go.Proofs.YtdphifihneccoaaDoorW.PrintWords Go.Proofs.YtdphifihneccoaaDoorW.PrintLast Go.Proofs.YtdphifihneccoaaDoorW.PrintMore
set_option maxRecDepth 100000
set_option linter.unusedVariables false
set_option linter.unusedSimpArgs false
section
variable {W1 w wr w1 w2 : World} {g : Nat} {AL : Option Addr} {cL V N : Nat} {lim : Int} {vo vo' v1 v2 va vb : Value} {d d' d2 : DS}
theorem signD_adv (L : List Int) (lone : Bool) (hn : newR L lone = none) (d : DS) (ha : d.a ≤ N) (hN : N ≤ 1000000) (hb : d.bad = 0) : 0 ≤ (signD V N L d).1 ∧ (signD V N L d).1 < 320 ∧ ((signD V N L d).2.bad = 0 → d.a + 1 ≤ (signD V N L d).2.a) := by
  obtain ⟨hl, hok, hov⟩ := newR_ok hn
  obtain ⟨x, n, er, k, hT, _⟩ := doc_take L hok hov hl V d.a (min (N - d.a) 15) (by omega)
  unfold signD
  rw [if_neg (by simp [hb]), tk_of V hT]
  dsimp only
  cases hT with
  | sign s n h =>
    have h1 := h.1.1
    have h0 := h.1.2.1
    have h2 := h.2.1
    exact ⟨by omega, by omega, fun _ => by omega⟩
  | ends h s n h1 => exact ⟨by omega, by omega, fun h => by simp [numE] at h⟩
  | form h h1 => exact ⟨by omega, by omega, fun h => by simp [numE] at h⟩
theorem signD_rng (L : List Int) (lone : Bool) (hn : newR L lone = none) (d : DS) (ha : d.a ≤ N) (hN : N ≤ 1000000) : 0 ≤ (signD V N L d).1 ∧ (signD V N L d).1 < 320 := by
  by_cases hb : d.bad = 0
  · have := signD_adv (V := V) L lone hn d ha hN hb
    exact ⟨this.1, this.2.1⟩
  · rw [signD_bad V N L d hb]; exact ⟨Int.le_refl 0, show (0 : Int) < 320 by decide⟩
theorem signD_a (L : List Int) (d : DS) : d.a ≤ (signD V N L d).2.a := by
  unfold signD
  split
  · exact Nat.le_refl _
  · exact Nat.le_add_right _ _
theorem wrongD_ok {is : Bool} {c : Int} {d : DS} (hc : c ≠ 0) (h : (wrongD is c d).bad = 0) : is = false ∧ d.bad = 0 := by
  unfold wrongD at h
  split at h
  · exact absurd h hc
  · rename_i hn
    refine ⟨?_, h⟩
    cases is with
    | false => rfl
    | true => exact absurd ⟨h, rfl⟩ hn
theorem numD_a (n : Nat) (d : DS) : d.a ≤ (numD V N n d).2.a := by
  unfold numD
  split
  · exact Nat.le_refl _
  · split
    · exact Nat.le_refl _
    · exact Nat.le_add_right _ _
theorem wrongD_a (is : Bool) (c : Int) (d : DS) : (wrongD is c d).a = d.a := by unfold wrongD; split <;> rfl
/-- What stands while signs are read. -/
structure Cdl (W1 w wr : World) (g : Nat) (AL : Option Addr) (cL N : Nat) (lim : Int) (vo vo' : Value) (d' : DS) (lo hi : Nat) (va vb : Value) (xa xb : List ByteArray) : Prop where
  doc : Doc W1 wr g AL cL N lim vo' d'
  frm : Frm g g w vo wr vo'
  ca : Kd.R Kd.string 9 wr lo (fun k => lo ≤ k ∧ k < hi) va xa
  cb : Kd.R Kd.string 9 wr lo (fun k => lo ≤ k ∧ k < hi) vb xb
  out : Out lo hi vo'
  hw : hi ≤ wr.heap.size
  gl : g < lo
variable {lo hi : Nat} {xa xb : List ByteArray}
theorem Cdl.turn (h : Cdl W1 w wr g AL cL N lim vo vo' d' lo hi va vb xa xb) (hd : Doc W1 w2 g AL cL N lim v2 d2) (hf : Frm g g wr vo' w2 v2) : Cdl W1 w w2 g AL cL N lim vo v2 d2 lo hi va vb xa xb :=
  ⟨hd, h.frm.trans hf, cs_frm h.ca hf (.inl h.gl) h.out, cs_frm h.cb hf (.inl h.gl) h.out, h.out.frm hf h.hw, Nat.le_trans h.hw hf.size, h.gl⟩
theorem Cdl.back (h : Cdl W1 w wr g AL cL N lim vo vo' d' lo hi va vb xa xb) : d'.a ≤ N := h.doc.al
set_option maxHeartbeats 1000000 in
theorem coded8_calls (w : World) (A B : List Int) (hB : Bts W1 AL cL V N) (hN : d.bad = 0 → newR A false = none ∧ newR B true = none) (hlim : 0 ≤ lim ∧ lim ≤ 100000) (ho : (d.out.length : Int) ≤ lim + 1 ∧ (d.bad = 0 → (d.out.length : Int) ≤ lim))
    (h : Doc W1 w g AL cL N lim vo d) (hA : d.bad = 0 → Cdl W1 w w g AL cL N lim vo vo d lo hi va vb (docR A false).1 (docR B true).1) :
    Calls Tryd.prog 22 #[.pointer (some ⟨g, 0, none⟩), va, vb] w fun e w' => e = .returned (.tuple #[]) ∧ ∃ vo', Doc W1 w' g AL cL N lim vo' (codedD V N lim A B (N + 2) d) ∧ Frm g g w vo w' vo' := by
  have HB := Aside0.mk hB
  by_cases hb0 : d.bad = 0
  · obtain ⟨hnA, hnB⟩ := hN hb0
    have HC0 := Aside0.mk (hA hb0)
    have HNw := Aside0.mk (And.intro hnA hnB)
    have HO := Aside0.mk (And.intro hlim ho)
    clear hB hN hlim ho h hA hnA hnB
    go_enter Tryd.func22, Tryd.ntmps22
    go_wp2_with fail
    go_loopg [] (N + 2) (fun kq wr => ∃ (fu : Nat) (d' : DS) (vo' : Value), Aside0 (kq = fu) ∧ Aside0 (Cdl W1 w wr g AL cL N lim vo vo' d' lo hi va vb (docR A false).1 (docR B true).1) ∧ Aside0 ((d'.out.length : Int) ≤ lim + 1 ∧ (d'.bad = 0 → (d'.out.length : Int) ≤ lim)) ∧ Aside0 (codedD V N lim A B fu d' = codedD V N lim A B (N + 2) d) ∧ Aside0 (d'.bad = 0 → N + 2 ≤ fu + d'.a))
    case atStart => exact ⟨N + 2, d, vo, ⟨rfl⟩, HC0, ⟨HO.out.2⟩, ⟨rfl⟩, ⟨fun _ => by omega⟩⟩
    case round =>
      obtain ⟨fu, d', vo', HQ, HC, HOr, HE, HInv⟩ := hrel
      obtain ⟨_, _, _, _, c4, c5, hfz⟩ := HC.out.doc.cells
      have f4 := hfz 4
      clear hfz
      by_cases hb : d'.bad = 0
      · have HBad := Aside0.mk hb
        rw [hb] at c5
        have hfu : ∃ k, fu = k + 1 := ⟨fu - 1, by have := HInv.out hb; have := HC.out.doc.al; omega⟩
        obtain ⟨k, hk⟩ := hfu
        have hds : Doc W1 (wr.setCell ⟨g, 4, none⟩ (.int .i64 (wrap64 (d'.st + 1)))) g AL cL N lim vo' (stD d') := HC.out.doc.setSt (wrap64 (d'.st + 1))
        have hcs := HC.out.turn hds ((Frm.refl g g wr vo').set 4 (.int .i64 (wrap64 (d'.st + 1))))
        have hs := sign8_all _ hds HB.out A false (fun _ => HNw.out.1) lo lo hi va (fun _ => hcs.ca)
        have hadv := signD_adv (V := V) (N := N) A false HNw.out.1 (stD d') HC.out.doc.al (by have := HB.out.hl; omega) hb
        have hso := signD_out (V := V) (N := N) A (stD d')
        have hE1 := HE.out
        rw [hk, codedD, if_neg (by simp [hb])] at hE1
        clear hb
        go_upto_region 2 with fail
        generalize wr.setCell ⟨g, 4, none⟩ (.int .i64 (wrap64 (d'.st + 1))) = ws at *
        dsimp only at hE1
        generalize hP : signD V N A (stD d') = P at *
        obtain ⟨s, d1⟩ := P
        dsimp only at *
        have HS := Aside0.mk hs
        have HCs := Aside0.mk hcs
        have HE1 := Aside0.mk hE1
        have HAdv := Aside0.mk hadv
        have HSo := Aside0.mk hso
        have HK := Aside0.mk hk
        have b1 : 0 ≤ s := hadv.1
        have b2 : s < 320 := hadv.2.1
        clear hs hcs hE1 hadv hso hP hds c4 c5 f4 hk
        go_wp2_with fail
        refine HS.out.mono ?_
        rintro e w2 ⟨rfl, hd2, hf2⟩
        have HC2 := Aside0.mk (HCs.out.turn hd2 hf2)
        obtain ⟨_, _, _, _, _, c5, hfz⟩ := hd2.cells
        clear hd2 hf2 HS hfz
        by_cases hb : d1.bad = 0
        · have HBad1 := Aside0.mk hb
          rw [hb] at c5
          clear hb
          by_cases h256 : s = 256
          · have e1 : (s == 256) = true := beq_iff_eq.2 h256
            have H256 := Aside0.mk h256
            clear h256
            go_wp2_with fail
            refine bodyPost_ret (results_none rfl _ _ _) rfl ⟨rfl, vo', ?_, HC2.out.frm⟩
            have h1 := HE1.out
            rw [if_pos (.inr H256.out)] at h1
            rw [← h1]
            exact HC2.out.doc
          · have e1 : (s == 256) = false := beq_eq_false_iff_ne.2 h256
            have H256 := Aside0.mk h256
            clear h256
            have HOl : Aside0 (d1.out = d'.out ∧ (d1.out.length : Int) ≤ lim) := ⟨HSo.out, by rw [show d1.out = d'.out from HSo.out]; exact HOr.out.2 HBad.out⟩
            obtain ⟨A5, cA5, hvo⟩ := own_slice HC2.out.doc.row
            subst hvo
            obtain ⟨_, _, k2, k3, _, _, hfz⟩ := HC2.out.doc.cells
            have ol : (d1.out.length : Int) ≤ 100000 := by have := HOl.out.2; have := HO.out.1; omega
            have lm : lim ≤ 100000 := HO.out.1.2
            clear hfz
            by_cases h2 : s < 256
            · have H2 := Aside0.mk h2
              go_upto_region 5 with fail
              have kw : IntKind.i64.wrap ((d1.out.length : Int) + 1) = (d1.out.length : Int) + 1 := IntWalk.i64_in _ (by omega)
              go_still_tail 12, (by kernel_rfl)
              change wpList _ _ _ _ _ w2.drew
              clear kw k2 k3 c5
              have HW' := wrong8_calls w2.drew HC2.out.doc.drew (decide (lim < (d1.out.length : Int) + 1)) 3
              rw [show wrongD (decide (lim < (d1.out.length : Int) + 1)) 3 d1 = wrongD (decide (lim ≤ (d1.out.length : Int))) 3 d1 from congrArg (fun b => wrongD b 3 d1) (decide_eq_decide.2 Int.lt_add_one_iff)] at HW'
              have HW := Aside0.mk HW'
              clear HW'
              have hwo := wrongD_out (decide (lim ≤ (d1.out.length : Int))) 3 d1
              have hwa := wrongD_a (decide (lim ≤ (d1.out.length : Int))) 3 d1
              have hE2 := HE1.out
              rw [show s % 256 = s by omega] at hE2
              rw [if_neg (by have := HBad1.out; have := H256.out; simp [*]), if_pos H2.out, show decide (lim < (d1.out.length : Int) + 1) = decide (lim ≤ (d1.out.length : Int)) from decide_eq_decide.2 Int.lt_add_one_iff] at hE2
              have hwb : (wrongD (decide (lim ≤ (d1.out.length : Int))) 3 d1).bad = 0 → (d1.out.length : Int) + 1 ≤ lim := fun hb => by
                rcases Int.lt_or_le (d1.out.length : Int) lim with h | h
                · exact h
                · exfalso
                  unfold wrongD at hb
                  rw [if_pos ⟨HBad1.out, decide_eq_true h⟩] at hb
                  cases hb
              generalize wrongD (decide (lim ≤ (d1.out.length : Int))) 3 d1 = d3 at *
              have HE2 := Aside0.mk hE2
              have HWo := Aside0.mk (And.intro hwo (And.intro hwa hwb))
              clear hE2 hwo hwa hwb
              go_wp2_with fail
              with_reducible refine HW.out.mono ?_
              rintro e w3 ⟨rfl, hd3, hf3⟩
              have HC3 := Aside0.mk (HC2.out.turn hd3 ((Frm.refl g g w2 _).drew.trans hf3))
              have HP := Aside0.mk (put8_calls w3 hd3 s (by rw [HWo.out.1]; omega))
              clear hd3 hf3 HW
              go_wp2_with fail
              with_reducible refine HP.out.mono ?_
              rintro e w4 ⟨rfl, vo4, hd4, hf4⟩
              have HC4 := Aside0.mk (HC3.out.turn hd4 hf4)
              clear hd4 hf4 HP
              go_wp2_with fail
              go_roundg k
              case measure => have := HQ.out; have := HK.out; omega
              case rel =>
                have hlen : ((putD s d3).out.length : Int) = (d1.out.length : Int) + 1 := by
                  unfold putD
                  rw [List.length_append, HWo.out.1, List.length_singleton]
                  omega
                refine ⟨k, putD s d3, vo4, ⟨rfl⟩, HC4, ⟨by rw [hlen]; have := HOl.out.2; omega, fun hb => by rw [hlen]; exact HWo.out.2.2 hb⟩, HE2, ⟨fun hb => ?_⟩⟩
                have h1 := HInv.out HBad.out
                have h2 := HAdv.out.2.2 HBad1.out
                have h3 := HK.out
                have h4 := HWo.out.2.1
                show N + 2 ≤ k + d3.a
                have h5 : (stD d').a = d'.a := rfl
                omega
            · have H2 := Aside0.mk h2
              have h2' : (256 : Int) ≤ s := by omega
              have hE2 := HE1.out
              rw [if_neg (by have := HBad1.out; have := H256.out; simp [*]), if_neg H2.out] at hE2
              have HE2 := Aside0.mk hE2
              have HW := Aside0.mk (wrong8_calls w2 HC2.out.doc (decide (285 < s)) 2)
              have hwo := wrongD_out (decide (285 < s)) 2 d1
              have hwa := wrongD_a (decide (285 < s)) 2 d1
              have hwb : (wrongD (decide (285 < s)) 2 d1).bad = 0 → s ≤ 285 := fun hb => by
                rcases Int.lt_or_le 285 s with h | h
                · exfalso
                  unfold wrongD at hb
                  rw [if_pos ⟨HBad1.out, decide_eq_true h⟩] at hb
                  cases hb
                · exact h
              generalize hd3 : wrongD (decide (285 < s)) 2 d1 = d3 at *
              have HD3 := Aside0.mk hd3
              have HWo := Aside0.mk (And.intro hwo (And.intro hwa hwb))
              clear hwo hwa hwb hE2 hd3 h2 k2 k3
              go_wp2_with fail
              with_reducible refine HW.out.mono ?_
              rintro e w3 ⟨rfl, hd3, hf3⟩
              have HC3 := Aside0.mk (HC2.out.turn hd3 hf3)
              clear c5
              obtain ⟨_, _, _, _, _, c5, hfz⟩ := hd3.cells
              clear hd3 hf3 HW hfz
              by_cases hb3 : d3.bad = 0
              · have HBad3 := Aside0.mk hb3
                rw [hb3] at c5
                clear hb3
                have hs1 := HWo.out.2.2 HBad3.out
                have hs2 : (256 : Int) ≠ s := fun h => H256.out h.symm
                obtain ⟨sn, rfl⟩ : ∃ sn : Nat, s = sn := ⟨s.toNat, by omega⟩
                have hq1 : 257 ≤ sn := by omega
                have hq2 : sn ≤ 285 := by omega
                have HL := Aside0.mk (length8_calls sn hq1 hq2 w3)
                have hle := len_le ⟨sn - 257, by omega⟩
                dsimp only at hle
                rw [show 257 + (sn - 257) = sn by omega] at hle
                have hE3 := HE2.out
                unfold backD at hE3
                rw [HD3.out, Int.toNat_natCast, if_neg (by have := HBad3.out; simp [this])] at hE3
                unfold back1 at hE3
                generalize hln : lenN sn = ln at *
                obtain ⟨l1, l2⟩ := ln
                dsimp only at *
                have HE3 := Aside0.mk hE3
                have g1 : (l1 : Int) ≤ 258 := by omega
                have g2 : (l2 : Int) ≤ 5 := by omega
                have HLn := Aside0.mk (And.intro hln hle)
                clear hs1 hs2 hq1 hq2 hle hE3 hln h2'
                go_wp2_with fail
                with_reducible refine HL.out.mono ?_
                rintro e w4 ⟨rfl, m4, rfl⟩
                have HC4 := Aside0.mk (HC3.out.turn (HC3.out.doc.drewN m4) ((Frm.refl g g w3 _).drewN m4))
                have HN4 := Aside0.mk (number8_calls _ HC4.out.doc HB.out l2 (by have := HLn.out.2.2; omega))
                have hq1 := numD_pow (V := V) (N := N) l2 d3
                have hq2 := numD_out (V := V) (N := N) l2 d3
                have hq3 := numD_a (V := V) (N := N) l2 d3
                have hpw : 2 ^ l2 ≤ 2 ^ 5 := Nat.pow_le_pow_right (by decide) (by omega)
                have hE4 := HE3.out
                generalize hQ : numD V N l2 d3 = Q at *
                obtain ⟨q, d4⟩ := Q
                dsimp only at *
                have g3 : (q : Int) ≤ 31 := by omega
                have HE4 := Aside0.mk hE4
                have HQ4 := Aside0.mk (And.intro hq2 hq3)
                clear hq1 hq2 hq3 hpw hE4 hQ HE3
                go_upto_region 11 with (with_reducible refine HN4.out.mono ?_; rintro e w5 ⟨rfl, hd5, hf5⟩; have HC5 := Aside0.mk (HC4.out.turn hd5 hf5); clear hd5 hf5)
                obtain ⟨n, hn⟩ : ∃ n, n = l1 + q := ⟨_, rfl⟩
                have hn2 : (l1 : Int) + (q : Int) = (n : Int) := by omega
                rw [hn2]
                have gn : (n : Int) ≤ 289 := by omega
                have hE5 := HE4.out
                rw [← hn] at hE5
                have HS5 := Aside0.mk (sign8_all w5 HC5.out.doc HB.out B true (fun _ => HNw.out.2) lo lo hi vb (fun _ => HC5.out.cb))
                have hr1 := signD_rng (V := V) (N := N) B true HNw.out.2 d4 HC5.out.doc.al (by have := HB.out.hl; omega)
                have hr2 := signD_out (V := V) (N := N) B d4
                have hr3 := signD_a (V := V) (N := N) B d4
                clear hn hn2 g1 g2 g3 HN4 HL HC4
                generalize hR : signD V N B d4 = R at *
                obtain ⟨r, d5⟩ := R
                dsimp only at *
                have HE5 := Aside0.mk hE5
                have HR5 := Aside0.mk (And.intro hr2 hr3)
                have r0 := hr1.1
                have r1 := hr1.2
                clear hR hE5 hr1 hr2 hr3 HE4
                go_upto_region 12 with (with_reducible refine HS5.out.mono ?_; rintro e w6 ⟨rfl, hd6, hf6⟩; have HC6 := Aside0.mk (HC5.out.turn hd6 hf6); clear hd6 hf6)
                have HW6 := Aside0.mk (wrong8_calls w6 HC6.out.doc (decide (29 < r)) 2)
                have hw1 := wrongD_out (decide (29 < r)) 2 d5
                have hw2 := wrongD_a (decide (29 < r)) 2 d5
                have hw3 : (wrongD (decide (29 < r)) 2 d5).bad = 0 → r ≤ 29 := fun hb => by
                  have := of_decide_eq_false (wrongD_ok (by decide) hb).1
                  omega
                have hE6 := HE5.out
                unfold back2 at hE6
                dsimp only at hE6
                clear HS5 HE5 c5
                generalize hd6 : wrongD (decide (29 < r)) 2 d5 = d6 at *
                have HE6 := Aside0.mk hE6
                have HR6 := Aside0.mk (And.intro hw1 (And.intro hw2 hw3))
                clear hd6 hE6 hw1 hw2 hw3
                go_wp2_with fail
                with_reducible refine HW6.out.mono ?_
                rintro e w7 ⟨rfl, hd7, hf7⟩
                have HC7 := Aside0.mk (HC6.out.turn hd7 hf7)
                obtain ⟨_, _, _, _, _, c5, hfz⟩ := hd7.cells
                clear hd7 hf7 HW6 hfz
                by_cases hb6 : d6.bad = 0
                · have HBad6 := Aside0.mk hb6
                  rw [hb6] at c5
                  clear hb6
                  have hr29 := HR6.out.2.2 HBad6.out
                  obtain ⟨rn, rfl⟩ : ∃ rn : Nat, r = rn := ⟨r.toNat, by omega⟩
                  have HD7 := Aside0.mk (distance8_calls rn (by omega) w7)
                  have hle := dst_le ⟨rn, by omega⟩
                  have hge := dst_ge ⟨rn, by omega⟩
                  dsimp only at hle hge
                  have hE7 := HE6.out
                  rw [if_neg (by have := HBad6.out; simp [this]), Int.toNat_natCast] at hE7
                  unfold back3 at hE7
                  generalize hdn : dstN rn = dn at *
                  obtain ⟨x1, x2⟩ := dn
                  dsimp only at *
                  have g1 : (x1 : Int) ≤ 32768 := by omega
                  have g2 : (x2 : Int) ≤ 13 := by omega
                  have HX := Aside0.mk (And.intro hle hge)
                  have hq1 := numD_pow (V := V) (N := N) x2 d6
                  have hq2 := numD_out (V := V) (N := N) x2 d6
                  have hq3 := numD_a (V := V) (N := N) x2 d6
                  have hpw : 2 ^ x2 ≤ 2 ^ 13 := Nat.pow_le_pow_right (by decide) (by omega)
                  have HN8 : Aside0 (∀ m, Calls Tryd.prog 19 #[.pointer (some ⟨g, 0, none⟩), .int .i64 x2] (w7.drewN m) fun e w' => e = .returned (.int .i64 (numD V N x2 d6).1) ∧ Cdl W1 w w' g AL cL N lim vo (Value.slice A5 d1.out.length cA5) (numD V N x2 d6).2 lo hi va vb (docR A false).1 (docR B true).1) := ⟨fun m => by
                    have hcm := HC7.out.turn (HC7.out.doc.drewN m) ((Frm.refl g g w7 _).drewN m)
                    exact (number8_calls _ hcm.doc HB.out x2 (by omega)).mono fun e w' ⟨h1, h2, h3⟩ => ⟨h1, hcm.turn h2 h3⟩⟩
                  generalize hT : numD V N x2 d6 = T at *
                  obtain ⟨t, d7⟩ := T
                  dsimp only at *
                  have g3 : (t : Int) ≤ 8191 := by omega
                  obtain ⟨far, hfar⟩ : ∃ far, far = x1 + t := ⟨_, rfl⟩
                  rw [← hfar] at hE7
                  have hfar2 : (x1 : Int) + (t : Int) = (far : Int) := by omega
                  have gf : (far : Int) ≤ 40959 := by omega
                  have gf1 : (1 : Int) ≤ (far : Int) := by omega
                  have HE7 := Aside0.mk hE7
                  have HT7 := Aside0.mk (And.intro hq2 hq3)
                  clear hr29 hle hge hdn hq1 hq2 hq3 hpw hT hfar hE7 HE6
                  go_upto_region 16 with (first
                    | (go_at_call 38; with_reducible refine HD7.out.mono ?_; rintro e w8 ⟨rfl, m8, rfl⟩)
                    | (go_at_call 19; with_reducible refine (HN8.out _).mono ?_; rintro e w9 ⟨rfl, hc9⟩; have HC9 := Aside0.mk hc9; clear hc9))
                  clear hfar2 HD7 HN8 HC7 HC6 c5
                  have ho7 : d7.out = d1.out := HT7.out.1.trans (HR6.out.1.trans (HR5.out.1.trans (HQ4.out.1.trans HWo.out.1)))
                  have ha7 : d1.a ≤ d7.a := by
                    have a1 := HT7.out.2
                    have a2 := HR6.out.2.1
                    have a3 := HR5.out.2
                    have a4 := HQ4.out.2
                    have a5 := HWo.out.2.1
                    omega
                  obtain ⟨_, _, k2, k3, _, _, hfz⟩ := HC9.out.doc.cells
                  have HW9 := Aside0.mk (wrong8_calls w9 HC9.out.doc (decide (d1.out.length < far)) 2)
                  have hE8 := HE7.out
                  unfold back4 at hE8
                  rw [ho7, show decide ((d1.out.length : Int) < (far : Int)) = decide (d1.out.length < far) from decide_eq_decide.2 (by omega)] at hE8
                  have hw1 := wrongD_out (decide (d1.out.length < far)) 2 d7
                  have hw2 := wrongD_a (decide (d1.out.length < far)) 2 d7
                  have hw3 : (wrongD (decide (d1.out.length < far)) 2 d7).bad = 0 → (far : Int) ≤ (d1.out.length : Int) := fun hb => by
                    have := of_decide_eq_false (wrongD_ok (by decide) hb).1
                    omega
                  generalize hd8 : wrongD (decide (d1.out.length < far)) 2 d7 = d8 at *
                  have HE8 := Aside0.mk hE8
                  have HO8 := Aside0.mk (And.intro (hw1.trans ho7) (And.intro (show d1.a ≤ d8.a by omega) hw3))
                  clear hd8 hE8 hw1 hw2 hw3 ho7 ha7 hfz HE7 HT7 HR6 HR5 HQ4
                  go_wp2_with fail
                  with_reducible refine HW9.out.mono ?_
                  rintro e w10 ⟨rfl, hd10, hf10⟩
                  have HC10 := Aside0.mk (HC9.out.turn hd10 hf10)
                  clear hd10 hf10 HW9 k2 k3 HC9
                  obtain ⟨_, _, k2, k3, _, _, hfz⟩ := HC10.out.doc.cells
                  clear hfz
                  go_upto_region 17 with fail
                  have kw : IntKind.i64.wrap ((d1.out.length : Int) + (n : Int)) = (d1.out.length : Int) + (n : Int) := IntWalk.i64_in _ (by omega)
                  go_still_tail 13, (by kernel_rfl)
                  change wpList _ _ _ _ _ w10.drew
                  clear kw k2 k3
                  have HW10 := Aside0.mk (wrong8_calls w10.drew HC10.out.doc.drew (decide (lim < (d1.out.length : Int) + (n : Int))) 3)
                  have hE9 := HE8.out
                  unfold back5 at hE9
                  rw [HO8.out.1] at hE9
                  have hw1 := wrongD_out (decide (lim < (d1.out.length : Int) + (n : Int))) 3 d8
                  have hw2 := wrongD_a (decide (lim < (d1.out.length : Int) + (n : Int))) 3 d8
                  have hw3 : (wrongD (decide (lim < (d1.out.length : Int) + (n : Int))) 3 d8).bad = 0 → (d1.out.length : Int) + (n : Int) ≤ lim ∧ (far : Int) ≤ (d1.out.length : Int) := fun hb => by
                    have h1 := wrongD_ok (by decide) hb
                    have := of_decide_eq_false h1.1
                    exact ⟨by omega, HO8.out.2.2 h1.2⟩
                  generalize hd9 : wrongD (decide (lim < (d1.out.length : Int) + (n : Int))) 3 d8 = d9 at *
                  have HE9 := Aside0.mk hE9
                  have HO9 := Aside0.mk (And.intro (hw1.trans HO8.out.1) (And.intro (show d1.a ≤ d9.a by have := HO8.out.2.1; omega) hw3))
                  clear hd9 hE9 hw1 hw2 hw3 HE8
                  go_wp2_with fail
                  with_reducible refine HW10.out.mono ?_
                  rintro e w11 ⟨rfl, hd11, hf11⟩
                  have HC11 := Aside0.mk (HC10.out.turn hd11 ((Frm.refl g g w10 _).drew.trans hf11))
                  clear hd11 hf11 HW10 HC10
                  go_wp2_with fail
                  go_loopg [11] n (fun kq v11 wr => ∃ (i : Nat) (d' : DS) (vo' : Value), v11 = .int .i64 i ∧ Aside0 (kq + i = n) ∧ Aside0 (Cdl W1 w wr g AL cL N lim vo vo' d' lo hi va vb (docR A false).1 (docR B true).1) ∧ Aside0 (cpD far (n - i) d' = cpD far n d9) ∧ Aside0 (d'.bad = d9.bad ∧ d'.a = d9.a ∧ (d9.bad = 0 → d'.out.length = d1.out.length + i) ∧ (d9.bad ≠ 0 → d'.out = d1.out)))
                  case atStart => exact ⟨0, d9, _, rfl, ⟨by omega⟩, HC11, ⟨rfl⟩, ⟨rfl, rfl, fun _ => by rw [HO9.out.1]; rfl, fun _ => HO9.out.1⟩⟩
                  case round =>
                    obtain ⟨i, dd, vo', rfl, HQi, HCi, HL, HS9⟩ := hrel
                    have HFin : Aside0 (cpD far n d9 = dd → Aside0 ((dd.out.length : Int) ≤ lim + 1 ∧ (dd.bad = 0 → (dd.out.length : Int) ≤ lim)) ∧ Aside0 (codedD V N lim A B k dd = codedD V N lim A B (N + 2) d) ∧ Aside0 (dd.bad = 0 → N + 2 ≤ k + dd.a)) := ⟨fun hfin => by
                      have hlen : i ≤ n := by have := HQi.out; omega
                      have hE := HE9.out
                      rw [hfin] at hE
                      refine ⟨⟨?_, fun hb => ?_⟩, ⟨hE⟩, ⟨fun hb => ?_⟩⟩
                      · by_cases hb : d9.bad = 0
                        · have h1 := HS9.out.2.2.1 hb
                          have h2 := (HO9.out.2.2 hb).1
                          omega
                        · rw [HS9.out.2.2.2 hb]; have := HOl.out.2; omega
                      · have hb9 : d9.bad = 0 := HS9.out.1 ▸ hb
                        have h1 := HS9.out.2.2.1 hb9
                        have h2 := (HO9.out.2.2 hb9).1
                        omega
                      · have h1 := HInv.out HBad.out
                        have h2 := HAdv.out.2.2 HBad1.out
                        have h3 := HK.out
                        have h4 := HO9.out.2.1
                        have h5 := HS9.out.2.1
                        have h6 : (stD d').a = d'.a := rfl
                        omega⟩
                    obtain ⟨_, _, _, _, _, c5, hfz⟩ := HCi.out.doc.cells
                    clear hfz
                    have bi : (i : Int) ≤ (n : Int) := by have := HQi.out; omega
                    by_cases hin : i < n
                    · have hin' : (i : Int) < (n : Int) := by omega
                      by_cases hb : dd.bad = 0
                      · have HBd := Aside0.mk hb
                        have hb9 : d9.bad = 0 := HS9.out.1 ▸ hb
                        have HB9 := Aside0.mk hb9
                        rw [hb] at c5
                        have hL := HS9.out.2.2.1 hb9
                        have hfl := (HO9.out.2.2 hb9)
                        obtain ⟨gr, cr, hv, _, hlt⟩ := HCi.out.doc.row.form (by omega)
                        subst hv
                        obtain ⟨p, hp⟩ : ∃ p, p = dd.out.length - far := ⟨_, rfl⟩
                        have hpl : p < dd.out.length := by omega
                        have hcell : wr.cell? ⟨gr, p, none⟩ = some (.int .u8 (dd.out.getD p 0)) := by
                          have := HCi.out.doc.row.cells (g := gr) rfl p (.int .u8 (dd.out.getD p 0)) (by simp [nums, hpl])
                          rwa [add_plain] at this
                        obtain ⟨_, _, k2, _, _, _, hfz⟩ := HCi.out.doc.cells
                        have HX := Aside0.mk (show cpD far (n - i) dd = cpD far (n - (i + 1)) (putD (dd.out.getD p 0) dd) by
                          rw [show n - i = n - (i + 1) + 1 by omega, cpD, if_pos hb, hp])
                        have kp : IntKind.i64.wrap ((dd.out.length : Int) - (far : Int)) = (p : Int) := by rw [IntKind.wrap_i64]; omega
                        have hp0 : (0 : Int) ≤ (p : Int) := by omega
                        have hpL : (p : Int) < (dd.out.length : Int) := by omega
                        have HLn := Aside0.mk (And.intro hL (And.intro hfl (show dd.out.length ≤ 1000000 by omega)))
                        generalize dd.out.getD p 0 = x at *
                        clear hb hb9 hL hfl hlt hp hpl hfz hin
                        go_upto_region 21 with fail
                        go_still_tail 14, (by kernel_rfl)
                        change wpList _ _ _ _ _ wr.drew
                        clear kp k2 hcell hp0 hpL c5
                        have HP := Aside0.mk (put8_calls wr.drew HCi.out.doc.drew x HLn.out.2.2)
                        go_wp2_with fail
                        with_reducible refine HP.out.mono ?_
                        rintro e w12 ⟨rfl, vo4, hd4, hf4⟩
                        have HC4 := Aside0.mk (HCi.out.turn hd4 ((Frm.refl g g wr _).drew.trans hf4))
                        clear hd4 hf4 HP
                        go_wp2_with fail
                        go_roundg (n - (i + 1))
                        case measure => have := HQi.out; omega
                        case rel =>
                          refine ⟨i + 1, putD x dd, vo4, by go_num, ⟨by have := HQi.out; omega⟩, HC4, ⟨by rw [← HX.out]; exact HL.out⟩, ⟨HS9.out.1, HS9.out.2.1, fun hb => ?_, fun hb => absurd HB9.out hb⟩⟩
                          show (dd.out ++ [x]).length = _
                          rw [List.length_append, List.length_singleton, HLn.out.1]
                          omega
                      · have hb1 : (dd.bad == 0) = false := beq_eq_false_iff_ne.2 hb
                        have HBd := Aside0.mk hb
                        obtain ⟨z1, z2, z3⟩ := HFin.out (by rw [← HL.out]; exact cpD_bad _ _ _ hb)
                        clear hb
                        go_wp2_with fail
                        go_roundg k
                        case measure => have := HQ.out; have := HK.out; omega
                        case rel => exact ⟨k, dd, vo', ⟨rfl⟩, HCi, z1, z2, z3⟩
                    · have hin' : ¬ (i : Int) < (n : Int) := by omega
                      obtain ⟨z1, z2, z3⟩ := HFin.out (by rw [← HL.out, show n - i = 0 by omega]; rfl)
                      go_wp2_with fail
                      go_roundg k
                      case measure => have := HQ.out; have := HK.out; omega
                      case rel => exact ⟨k, dd, vo', ⟨rfl⟩, HCi, z1, z2, z3⟩
                · have hb1 : (d6.bad != 0) = true := bne_iff_ne.2 hb6
                  have HBad6 := Aside0.mk hb6
                  clear hb6
                  go_wp2_with fail
                  refine bodyPost_ret (results_none rfl _ _ _) rfl ⟨rfl, _, ?_, HC7.out.frm⟩
                  have h1 := HE6.out
                  rw [if_pos HBad6.out, codedD_bad _ _ _ _ _ _ _ HBad6.out] at h1
                  rw [← h1]
                  exact HC7.out.doc
              · have hb1 : (d3.bad != 0) = true := bne_iff_ne.2 hb3
                have HBad3 := Aside0.mk hb3
                clear hb3
                go_wp2_with fail
                refine bodyPost_ret (results_none rfl _ _ _) rfl ⟨rfl, _, ?_, HC3.out.frm⟩
                have h1 := HE2.out
                unfold backD at h1
                rw [HD3.out, if_pos HBad3.out, codedD_bad _ _ _ _ _ _ _ HBad3.out] at h1
                rw [← h1]
                exact HC3.out.doc
        · have hb1 : (d1.bad != 0) = true := bne_iff_ne.2 hb
          have HBad1 := Aside0.mk hb
          clear hb
          go_wp2_with fail
          refine bodyPost_ret (results_none rfl _ _ _) rfl ⟨rfl, vo', ?_, HC2.out.frm⟩
          have h1 := HE1.out
          rw [if_pos (.inl HBad1.out)] at h1
          rw [← h1]
          exact HC2.out.doc
      · have hb1 : (d'.bad == 0) = false := beq_eq_false_iff_ne.2 hb
        have HBad := Aside0.mk hb
        clear hb
        go_wp2_with fail
        refine bodyPost_end (results_none rfl _ _ _) rfl ⟨rfl, vo', ?_, HC.out.frm⟩
        rw [← HE.out]
        cases fu with
        | zero => exact HC.out.doc
        | succ k => rw [codedD, if_pos HBad.out]; exact HC.out.doc
  · obtain ⟨_, _, _, _, _, c5, hfz⟩ := h.cells
    have hb1 : (d.bad == 0) = false := beq_eq_false_iff_ne.2 hb0
    have HBad := Aside0.mk hb0
    have HD := Aside0.mk h
    clear hB hN hlim ho h hA hb0 hfz
    go_enter Tryd.func22, Tryd.ntmps22
    go_wp2_with fail
    go_loopg [] 1 (fun kq wr => Aside0 (wr = w))
    case atStart => exact ⟨rfl⟩
    case round =>
      have hw := hrel.out
      subst hw
      go_wp2_with fail
      refine bodyPost_end (results_none rfl _ _ _) rfl ⟨rfl, vo, ?_, Frm.refl _ _ _ _⟩
      rw [codedD, if_pos HBad.out]
      exact HD.out
end
end Go.Proofs.YtdphifihneccoaaDoor.My

/- The document's machine answers as inflating, plainly: no program in sight. -/
namespace Go.Proofs.YtdphifihneccoaaDoor.My
open Go.RowKit Go.Proofs.YtdphifihneccoaaDoor.Inf Go.Proofs.YtdphifihneccoaaDoor.Huf Go.Proofs.YtdphifihneccoaaDoorW.PrintWords
set_option maxRecDepth 100000
set_option linter.unusedVariables false
set_option linter.unusedSimpArgs false

def dsOf (s : St) : DS := ⟨s.a, s.out, (s.st : Int), 0⟩
/-- The document's state says what the result says; of an error its number alone. -/
def Sim {α : Type} (r : Res α) (y : α) (d : DS) : Prop :=
  match r with
  | .ok x s => y = x ∧ d = dsOf s
  | .er c => d.bad = c ∧ c ≠ 0
theorem Sim.er_ {α : Type} {y : α} {d : DS} {c : Int} (h : d.bad = c) (hc : c ≠ 0) : Sim (.er c) y d := ⟨h, hc⟩
theorem sim_bind {α β : Type} {r : Res α} {y : α} {d : DS} (h : Sim r y d) {f : α → St → Res β} {z : β} {d2 : DS} (hk : ∀ x s, r = .ok x s → y = x → d = dsOf s → Sim (f x s) z d2) (hb : d.bad ≠ 0 → d2.bad = d.bad) : Sim (r.bind f) z d2 := by
  cases r with
  | ok x s => exact hk x s rfl h.1 h.2
  | er c => exact ⟨(hb (by rw [h.1]; exact h.2)).trans h.1, h.2⟩
section
variable {V lb : Nat} {lim : Int}
theorem numD_keep {N n : Nat} {d : DS} (h : d.bad ≠ 0) : numD V N n d = (0, d) := by unfold numD; rw [if_pos h]
theorem wrongD_keep {is : Bool} {c : Int} {d : DS} (h : d.bad ≠ 0) : wrongD is c d = d := by unfold wrongD; rw [if_neg (fun k => h k.1)]
theorem wrongD_hit {is : Bool} {c : Int} {d : DS} (h : d.bad = 0) (hi : is = true) : (wrongD is c d).bad = c := by unfold wrongD; rw [if_pos ⟨h, hi⟩]
theorem wrongD_no {is : Bool} {c : Int} {d : DS} (hi : is = false) : wrongD is c d = d := by unfold wrongD; rw [if_neg (fun k => by rw [hi] at k; exact absurd k.2 (by decide))]
theorem sim_number (n : Nat) (s : St) : Sim (Inf.number V lb n s) (numD V (8 * lb) n (dsOf s)).1 (numD V (8 * lb) n (dsOf s)).2 := by
  unfold Inf.number numD
  rw [if_neg (show ¬ (dsOf s).bad ≠ 0 from fun h => h rfl)]
  by_cases h : s.a + n ≤ 8 * lb
  · rw [if_pos h, if_neg (show ¬ 8 * lb < (dsOf s).a + n from by show ¬ 8 * lb < s.a + n; omega)]
    exact ⟨rfl, rfl⟩
  · rw [if_neg h, if_pos (show 8 * lb < (dsOf s).a + n from by show 8 * lb < s.a + n; omega)]
    exact ⟨rfl, by decide⟩
theorem stD_of (s : St) (h : s.st ≤ 1000000000) : stD (dsOf s) = dsOf ⟨s.a, s.out, s.st + 1⟩ := by
  unfold stD dsOf
  dsimp only
  rw [show wrap64 ((s.st : Int) + 1) = ((s.st + 1 : Nat) : Int) by unfold wrap64; omega]
theorem stD_bad (d : DS) : (stD d).bad = d.bad := rfl
/-- No code is longer than the window. -/
theorem takeR_min {L : List Int} (hok : okL L = true) (V a left : Nat) : TakeR L V a (min left 15) = TakeR L V a left := by
  have hle : ∀ s n, Has L s n → n ≤ 15 := fun s n h => by
    have h1 := h.1
    have hm : L[s] ∈ L := List.getElem_mem h1
    have h2 := of_decide_eq_true (List.all_eq_true.1 hok _ hm)
    have h3 := h.2.2
    rw [List.getD_eq_getElem?_getD, List.getElem?_eq_getElem h1, Option.getD_some] at h3
    omega
  have hF : ∀ s n, Fits L V a (min left 15) s n ↔ Fits L V a left s n := fun s n => by
    constructor
    · rintro ⟨h1, h2, h3⟩; exact ⟨h1, by omega, h3⟩
    · rintro ⟨h1, h2, h3⟩; have := hle s n h1; exact ⟨h1, by omega, h3⟩
  have hC : ∀ s n, Cuts L V a (min left 15) s n ↔ Cuts L V a left s n := fun s n => by
    constructor
    · rintro ⟨h1, h2, h3⟩
      have := hle s n h1
      have e : min left 15 = left := by omega
      rw [e] at h2 h3
      exact ⟨h1, h2, h3⟩
    · rintro ⟨h1, h2, h3⟩
      have := hle s n h1
      have e : min left 15 = left := by omega
      refine ⟨h1, ?_, ?_⟩ <;> rw [e] <;> assumption
  funext x n e
  apply propext
  constructor
  · intro h
    cases h with
    | sign s n h => exact .sign s n ((hF _ _).1 h)
    | ends h s n h1 => exact .ends (fun s n k => h s n ((hF _ _).2 k)) s n ((hC _ _).1 h1)
    | form h h1 => exact .form (fun s n k => h s n ((hF _ _).2 k)) (fun s n k => h1 s n ((hC _ _).2 k))
  · intro h
    cases h with
    | sign s n h => exact .sign s n ((hF _ _).2 h)
    | ends h s n h1 => exact .ends (fun s n k => h s n ((hF _ _).1 k)) s n ((hC _ _).2 h1)
    | form h h1 => exact .form (fun s n k => h s n ((hF _ _).1 k)) (fun s n k => h1 s n ((hC _ _).1 k))
theorem sim_far (L : List Int) (lone : Bool) (hn : newR L lone = none) (s : St) : Sim (Inf.far V lb L s) (signD V (8 * lb) L (dsOf s)).1 (signD V (8 * lb) L (dsOf s)).2 := by
  obtain ⟨_, hok, _⟩ := newR_ok hn
  have he : tk V L s.a (min (8 * lb - s.a) 15) = tk V L s.a (8 * lb - s.a) := by unfold tk; rw [takeR_min hok]
  obtain ⟨y, n, e, ht⟩ := take_ex V L s.a (8 * lb - s.a)
  have hk := tk_of V ht
  unfold Inf.far signD
  rw [if_neg (show ¬ (dsOf s).bad ≠ 0 from fun h => h rfl)]
  show Sim (match tk V L s.a (8 * lb - s.a) with | (x, n, none) => Res.ok x ⟨s.a + n, s.out, s.st⟩ | (_, _, some c) => Res.er c) (tk V L s.a (min (8 * lb - s.a) 15)).1 { dsOf s with a := s.a + (tk V L s.a (min (8 * lb - s.a) 15)).2.1, bad := numE (tk V L s.a (min (8 * lb - s.a) 15)).2.2 }
  rw [he, hk]
  cases ht with
  | sign t m k => exact ⟨rfl, rfl⟩
  | ends => exact ⟨rfl, by decide⟩
  | form => exact ⟨rfl, by decide⟩
theorem sim_sign (L : List Int) (lone : Bool) (hn : newR L lone = none) (s : St) (hs : s.st ≤ 1000000000) : Sim (Inf.sign V lb L s) (signD V (8 * lb) L (stD (dsOf s))).1 (signD V (8 * lb) L (stD (dsOf s))).2 := by
  rw [stD_of s hs]
  exact sim_far L lone hn _
theorem sim_okCode (L : List Int) (lone : Bool) (s : St) : Sim (Inf.okCode L lone s) () (wrongD ((docR L lone).2 != 0) 2 (dsOf s)) := by
  unfold Inf.okCode docR
  cases h : newR L lone with
  | none =>
    rw [if_pos rfl]
    dsimp only
    rw [wrongD_no (by rfl)]
    exact ⟨rfl, rfl⟩
  | some c =>
    rw [if_neg (by simp)]
    dsimp only
    exact ⟨wrongD_hit rfl (by simpa using newR_ne h), by decide⟩
/-! ### the block of kind 0 -/
theorem leB_cons (V n : Nat) : leB V (n + 1) = ((V % 256 : Nat) : Int) :: leB (V / 256) n := by
  unfold leB
  rw [List.range_succ_eq_map, List.map_cons, List.map_map, Nat.mul_zero, Nat.pow_zero, Nat.div_one]
  congr 1
  apply List.map_congr_left
  intro i _
  show ((V / 2 ^ (8 * (i + 1)) % 256 : Nat) : Int) = _
  rw [Nat.div_div_eq_div_mul, show (256 : Nat) = 2 ^ 8 from rfl, ← Nat.pow_add, show 8 + 8 * i = 8 * (i + 1) by omega]
theorem lpS_keep (N : Nat) : ∀ (k : Nat) (d : DS), d.bad ≠ 0 → lpS V N k d = d
  | 0, d, h => rfl
  | k + 1, d, h => by rw [lpS, if_neg h]
theorem lpS_ok : ∀ (n : Nat) (s : St), s.a + 8 * n ≤ 8 * lb → s.st + n ≤ 1000000000 → lpS V (8 * lb) n (dsOf s) = dsOf ⟨s.a + 8 * n, s.out ++ leB (V / 2 ^ s.a) n, s.st + n⟩
  | 0, s, _, _ => by
    rw [lpS, leB_zero, List.append_nil]
    rfl
  | n + 1, s, h, hs => by
    rw [lpS, if_pos (show (dsOf s).bad = 0 from rfl)]
    have e : byteD V (8 * lb) (dsOf s) = dsOf ⟨s.a + 8, s.out ++ [((V / 2 ^ s.a % 256 : Nat) : Int)], s.st + 1⟩ := by
      unfold byteD numD
      rw [if_neg (show ¬ (dsOf s).bad ≠ 0 from fun h => h rfl), if_neg (show ¬ 8 * lb < (dsOf s).a + 8 from by show ¬ 8 * lb < s.a + 8; omega)]
      show stD (dsOf ⟨s.a + 8, s.out ++ [(((V / 2 ^ s.a % 2 ^ 8 : Nat) : Int) % 256)], s.st⟩) = _
      rw [stD_of _ (by show s.st ≤ _; omega), show (((V / 2 ^ s.a % 2 ^ 8 : Nat) : Int) % 256) = ((V / 2 ^ s.a % 256 : Nat) : Int) by
        have : V / 2 ^ s.a % 2 ^ 8 < 256 := Nat.mod_lt _ (by decide)
        rw [show (2 : Nat) ^ 8 = 256 from rfl] at *
        omega]
    rw [e, lpS_ok n _ (by show s.a + 8 + 8 * n ≤ _; omega) (by show s.st + 1 + n ≤ _; omega)]
    show dsOf ⟨s.a + 8 + 8 * n, (s.out ++ [_]) ++ leB (V / 2 ^ (s.a + 8)) n, s.st + 1 + n⟩ = _
    rw [leB_cons, List.append_assoc, List.singleton_append, Nat.div_div_eq_div_mul, show 2 ^ s.a * 256 = 2 ^ (s.a + 8) by rw [Nat.pow_add], show s.a + 8 + 8 * n = s.a + 8 * (n + 1) by omega, show s.st + 1 + n = s.st + (n + 1) by omega]
theorem stored2_keep {N n t : Nat} {d : DS} (h : d.bad ≠ 0) : stored2 N lim n t d = d := by
  unfold stored2
  dsimp only
  rw [wrongD_keep h, wrongD_keep h, wrongD_keep h]
theorem sim_stored (s : St) (ha : s.a ≤ 8 * lb) (hs : s.st ≤ 1000000) : Sim (Inf.stored V lb lim s) () (storedD V (8 * lb) lim (dsOf s)) := by
  unfold Inf.stored storedD stored1
  dsimp only
  have h0 : ({ dsOf s with a := al8 (dsOf s).a } : DS) = dsOf ⟨s.a + (8 - s.a % 8) % 8, s.out, s.st⟩ := rfl
  rw [h0]
  refine sim_bind (sim_number 16 _) ?_ ?_
  · intro n s1 hr1 hy1 hd1
    rw [hy1, hd1]
    obtain ⟨a1, a2, a3, a4, a5⟩ := number_ok hr1
    refine sim_bind (sim_number 16 s1) ?_ ?_
    · intro t s2 hr2 hy2 hd2
      rw [hy2, hd2]
      obtain ⟨b1, b2, b3, b4, b5⟩ := number_ok hr2
      dsimp only at a3
      by_cases h1 : n + t ≠ 65535
      · rw [if_pos h1]
        refine Sim.er_ ?_ (by decide)
        have hb : (wrongD ((n : Int) + (t : Int) != 65535) 2 (dsOf s2)).bad = 2 := wrongD_hit rfl (by simp; omega)
        unfold stored2
        dsimp only
        generalize wrongD ((n : Int) + (t : Int) != 65535) 2 (dsOf s2) = d at hb ⊢
        have hd : d.bad ≠ 0 := by rw [hb]; decide
        rw [wrongD_keep hd, wrongD_keep hd, lpS_keep _ _ _ hd, hb]
      · rw [if_neg h1]
        have hw1 : wrongD ((n : Int) + (t : Int) != 65535) 2 (dsOf s2) = dsOf s2 := wrongD_no (by simp; omega)
        unfold stored2
        dsimp only
        rw [hw1]
        unfold Inf.room
        by_cases h2 : (n : Int) > lim - (s2.out.length : Int)
        · rw [if_pos h2]
          have hb : (wrongD (decide (lim < ((dsOf s2).out.length : Int) + (n : Int))) 3 (dsOf s2)).bad = 3 := wrongD_hit rfl (decide_eq_true (by show lim < (s2.out.length : Int) + n; omega))
          refine Sim.er_ ?_ (by decide)
          rw [wrongD_keep (by rw [hb]; decide), lpS_keep _ _ _ (by rw [hb]; decide), hb]
        · rw [if_neg h2]
          have hw2 : wrongD (decide (lim < ((dsOf s2).out.length : Int) + (n : Int))) 3 (dsOf s2) = dsOf s2 := wrongD_no (decide_eq_false (by show ¬ lim < (s2.out.length : Int) + n; omega))
          rw [hw2]
          simp only [bind_ok]
          by_cases h3 : n ≤ (8 * lb - s2.a) / 8
          · rw [if_pos h3]
            have hw3 : wrongD (decide (((8 * lb : Nat) : Int) < ((dsOf s2).a : Int) + 8 * (n : Int))) 10 (dsOf s2) = dsOf s2 := wrongD_no (decide_eq_false (by show ¬ _ < (s2.a : Int) + 8 * n; omega))
            rw [hw3, lpS_ok n s2 (by omega) (by have : n < 65536 := a4; omega)]
            exact ⟨rfl, rfl⟩
          · rw [if_neg h3]
            have hb : (wrongD (decide (((8 * lb : Nat) : Int) < ((dsOf s2).a : Int) + 8 * (n : Int))) 10 (dsOf s2)).bad = 10 := wrongD_hit rfl (decide_eq_true (by show _ < (s2.a : Int) + 8 * n; omega))
            exact Sim.er_ (by rw [lpS_keep _ _ _ (by rw [hb]; decide), hb]) (by decide)
    · intro hb
      rw [stored2_keep hb, lpS_keep _ _ _ hb]
  · intro hb
    rw [numD_keep hb]
    rw [stored2_keep hb, lpS_keep _ _ _ hb]
/-! ### the lengths that are told -/
theorem hlD_keep (N : Nat) (ps : List Nat) (L : List Int) (d : DS) (h : d.bad ≠ 0) : hlD V N ps L d = (L, d) := by
  cases ps with
  | nil => rfl
  | cons p ps => rw [hlD, if_neg h]
theorem sim_hlp : ∀ (ps : List Nat) (L : List Int) (s : St), s.st + ps.length ≤ 1000000000 → Sim (hlp V lb ps L s) (hlD V (8 * lb) ps L (dsOf s)).1 (hlD V (8 * lb) ps L (dsOf s)).2
  | [], L, s, _ => ⟨rfl, rfl⟩
  | p :: ps, L, s, hs => by
    rw [List.length_cons] at hs
    rw [hlp, hlD, if_pos (show (dsOf s).bad = 0 from rfl), stD_of s (by omega)]
    have hn := sim_number (V := V) (lb := lb) 3 ⟨s.a, s.out, s.st + 1⟩
    generalize numD V (8 * lb) 3 (dsOf ⟨s.a, s.out, s.st + 1⟩) = q at *
    refine sim_bind hn ?_ ?_
    · intro x s1 hr hy hd
      rw [hy, hd]
      obtain ⟨_, _, a3, _, _⟩ := number_ok hr
      exact sim_hlp ps _ s1 (by rw [a3]; show s.st + 1 + _ ≤ _; omega)
    · intro hb
      rw [hlD_keep _ _ _ _ hb]
theorem rep1_keep {N : Nat} {x : Int} {l : List Int} {d : DS} (h : d.bad ≠ 0) : (rep1 V N x l d).2.2 = d := by
  unfold rep1
  split
  · dsimp only
    rw [wrongD_keep h, numD_keep h]
  · rfl
theorem repx_keep {N w : Nat} {x k b : Int} {r : Int × Int × DS} (h : r.2.2.bad ≠ 0) : (repx V N x k b w r).2.2 = r.2.2 := by
  unfold repx
  split
  · dsimp only
    rw [numD_keep h]
  · rfl
theorem repD_keep {N : Nat} {x : Int} {l : List Int} {d : DS} (h : d.bad ≠ 0) : (repD V N x l d).2.2 = d := by
  unfold repD
  have h1 := rep1_keep (V := V) (N := N) (x := x) (l := l) h
  have h2 := repx_keep (V := V) (N := N) (w := 3) (x := x) (k := 17) (b := 3) (r := rep1 V N x l d) (by rw [h1]; exact h)
  rw [repx_keep (by rw [h2, h1]; exact h), h2, h1]
theorem lnD_keep {N : Nat} {H : List Int} {many k : Nat} {l : List Int} {d : DS} (h : d.bad ≠ 0) : lnD V N H many k l d = (l, d) := by
  cases k with
  | zero => rfl
  | succ k => rw [lnD, if_neg (fun e => h e.1)]
theorem sim_rep (x : Int) (l : List Int) (s : St) (h0 : 0 ≤ x) (h1 : x < 19) : Sim (Inf.rep V lb x l s) ((repD V (8 * lb) x l (dsOf s)).2.1, (repD V (8 * lb) x l (dsOf s)).1.toNat) (repD V (8 * lb) x l (dsOf s)).2.2 ∧ 0 ≤ (repD V (8 * lb) x l (dsOf s)).1 := by
  unfold Inf.rep
  by_cases a : x < 16
  · rw [if_pos a]
    have e : repD V (8 * lb) x l (dsOf s) = (1, x, dsOf s) := by
      unfold repD rep1 repx
      rw [if_neg (by omega), if_neg (by omega), if_neg (by omega)]
    rw [e]
    exact ⟨⟨rfl, rfl⟩, show (0 : Int) ≤ 1 by decide⟩
  · rw [if_neg a]
    by_cases b : x = 16
    · rw [if_pos b]
      have e : repD V (8 * lb) x l (dsOf s) = (3 + ((numD V (8 * lb) 2 (wrongD ((l.length : Int) == 0) 2 (dsOf s))).1 : Int), l.getD (l.length - 1) 0, (numD V (8 * lb) 2 (wrongD ((l.length : Int) == 0) 2 (dsOf s))).2) := by
        unfold repD rep1 repx
        rw [if_pos b, if_neg (by omega), if_neg (by omega)]
      rw [e]
      refine ⟨?_, by dsimp only; omega⟩
      dsimp only
      by_cases hl : l = []
      · rw [if_pos hl]
        have hb : (wrongD ((l.length : Int) == 0) 2 (dsOf s)).bad = 2 := wrongD_hit rfl (by rw [hl]; rfl)
        exact ⟨by rw [numD_keep (by rw [hb]; decide)]; exact hb, by decide⟩
      · rw [if_neg hl]
        rw [wrongD_no (by have : l.length ≠ 0 := fun e => hl (List.eq_nil_of_length_eq_zero e); simp; omega)]
        refine sim_bind (sim_number 2 s) ?_ (fun _ => rfl)
        intro n s1 hr hy hd
        rw [hy, hd]
        exact ⟨by rw [show (3 + (n : Int)).toNat = 3 + n by omega], rfl⟩
    · rw [if_neg b]
      by_cases c : x = 17
      · rw [if_pos c]
        have e : repD V (8 * lb) x l (dsOf s) = (3 + ((numD V (8 * lb) 3 (dsOf s)).1 : Int), 0, (numD V (8 * lb) 3 (dsOf s)).2) := by
          unfold repD rep1 repx
          rw [if_neg b, if_pos c, if_neg (by omega)]
        rw [e]
        refine ⟨?_, by dsimp only; omega⟩
        dsimp only
        refine sim_bind (sim_number 3 s) ?_ (fun _ => rfl)
        intro n s1 hr hy hd
        rw [hy, hd]
        exact ⟨by rw [show (3 + (n : Int)).toNat = 3 + n by omega], rfl⟩
      · rw [if_neg c]
        have e : repD V (8 * lb) x l (dsOf s) = (11 + ((numD V (8 * lb) 7 (dsOf s)).1 : Int), 0, (numD V (8 * lb) 7 (dsOf s)).2) := by
          unfold repD rep1 repx
          rw [if_neg b, if_neg c, if_pos (by omega)]
        rw [e]
        refine ⟨?_, by dsimp only; omega⟩
        dsimp only
        refine sim_bind (sim_number 7 s) ?_ (fun _ => rfl)
        intro n s1 hr hy hd
        rw [hy, hd]
        exact ⟨by rw [show (11 + (n : Int)).toNat = 11 + n by omega], rfl⟩
theorem rep_pos {x : Int} {l : List Int} {s s1 : St} {vt : Int × Nat} (h : Inf.rep V lb x l s = .ok vt s1) : 1 ≤ vt.2 ∧ s1.st = s.st := by
  unfold Inf.rep at h
  split at h
  · injection h with h1 h2; subst h1 h2; exact ⟨Nat.le_refl _, rfl⟩
  split at h
  · split at h
    · cases h
    · obtain ⟨n, s2, hr, h⟩ := bind_inv h
      injection h with h1 h2; subst h1 h2
      exact ⟨by show 1 ≤ 3 + n; omega, (number_ok hr).2.2.1⟩
  split at h
  · obtain ⟨n, s2, hr, h⟩ := bind_inv h
    injection h with h1 h2; subst h1 h2
    exact ⟨by show 1 ≤ 3 + n; omega, (number_ok hr).2.2.1⟩
  · obtain ⟨n, s2, hr, h⟩ := bind_inv h
    injection h with h1 h2; subst h1 h2
    exact ⟨by show 1 ≤ 11 + n; omega, (number_ok hr).2.2.1⟩
theorem sim_lens {C : List Int} (hC : newR C false = none) (hCl : C.length = 19) (many : Nat) : ∀ (k : Nat) (l : List Int) (s : St), many ≤ k + l.length → s.st + k ≤ 1000000000 → Sim (lens V lb C many k l s) (lnD V (8 * lb) C many (k + 1) l (dsOf s)).1 (lnD V (8 * lb) C many (k + 1) l (dsOf s)).2
  | 0, l, s, hm, hs => by
    rw [lens, if_neg (by omega), lnD, if_neg (fun e => by have := e.2; omega)]
    exact ⟨rfl, rfl⟩
  | k + 1, l, s, hm, hs => by
    rw [lens, lnD]
    by_cases hl : l.length < many
    · rw [if_pos hl, if_pos ⟨rfl, hl⟩]
      have hsg := sim_sign (V := V) (lb := lb) C false hC s (by omega)
      dsimp only
      generalize signD V (8 * lb) C (stD (dsOf s)) = p at *
      refine sim_bind hsg ?_ ?_
      · intro x s1 hr hy hd
        obtain ⟨x0, x1, _, hst, _, _⟩ := sign_ok hr
        rw [hy, hd]
        obtain ⟨hrp, hnn⟩ := sim_rep (V := V) (lb := lb) x l s1 x0 (by omega)
        generalize repD V (8 * lb) x l (dsOf s1) = q at *
        obtain ⟨q1, q2, q3⟩ := q
        dsimp only at *
        refine sim_bind hrp ?_ ?_
        · intro vt s2 hr2 hy2 hd2
          obtain ⟨hp1, hst2⟩ := rep_pos hr2
          obtain ⟨v, t⟩ := vt
          injection hy2 with e1 e2
          subst e1
          dsimp only at *
          rw [hd2]
          by_cases hlt : many - l.length < t
          · rw [if_pos hlt]
            have hb : (wrongD (decide ((many : Int) < (l.length : Int) + q1)) 2 (dsOf s2)).bad = 2 := wrongD_hit rfl (decide_eq_true (by omega))
            refine Sim.er_ ?_ (by decide)
            rw [lnD_keep (by rw [hb]; decide), hb]
          · rw [if_neg hlt]
            rw [wrongD_no (decide_eq_false (by omega)), if_pos (show (dsOf s2).bad = 0 from rfl), e2]
            exact sim_lens hC hCl many k _ s2 (by rw [List.length_append, List.length_replicate]; omega) (by omega)
        · intro hb
          rw [wrongD_keep hb, if_neg hb, lnD_keep hb]
      · intro hb
        have h1 := repD_keep (V := V) (N := 8 * lb) (x := p.1) (l := l) hb
        rw [h1, wrongD_keep hb, if_neg hb, lnD_keep hb]
    · rw [if_neg hl, if_neg (fun e => hl e.2)]
      exact ⟨rfl, rfl⟩
theorem told1_keep {N : Nat} {d : DS} (h : d.bad ≠ 0) : told1 V N d = (0, 0, 0, d) := by
  unfold told1
  dsimp only
  rw [numD_keep h]
  dsimp only
  rw [numD_keep h]
  dsimp only
  rw [numD_keep h, wrongD_keep h]
/-- What stands behind the counts. -/
noncomputable def told2 (V N : Nat) (t : Nat × Nat × Nat × DS) : List Int × List Int × DS :=
  let h := hlD V N (order.take (4 + t.2.2.1)) (List.replicate 19 0) t.2.2.2
  if h.2.bad ≠ 0 then ([], [], h.2) else
  let mm := 257 + t.1 + (1 + t.2.1)
  let r := lnD V N h.1 mm (mm + 1) [] (wrongD ((docR h.1 false).2 != 0) 2 h.2)
  if r.2.bad ≠ 0 then ([], [], r.2) else
  let la := r.1.take (257 + t.1)
  let lb := r.1.drop (257 + t.1)
  (la, lb, wrongD (r.1.getD 256 0 == 0) 2 (wrongD ((docR lb true).2 != 0) 2 (wrongD ((docR la false).2 != 0) 2 r.2)))
theorem toldD_two (N : Nat) (d : DS) : toldD V N d = told2 V N (told1 V N d) := rfl
theorem told2_keep {N a b c : Nat} {d : DS} (h : d.bad ≠ 0) : told2 V N (a, b, c, d) = ([], [], d) := by
  unfold told2
  dsimp only
  rw [hlD_keep _ _ _ _ h]
  dsimp only
  rw [if_pos h]
theorem hlp_len : ∀ (ps : List Nat) (L : List Int) (s : St) (L' : List Int) (s' : St), hlp V lb ps L s = .ok L' s' → L'.length = L.length ∧ s'.st = s.st + ps.length
  | [], L, s, L', s', h => by
    rw [hlp] at h
    injection h with h1 h2
    subst h1 h2
    exact ⟨rfl, rfl⟩
  | p :: ps, L, s, L', s', h => by
    rw [hlp] at h
    obtain ⟨x, s1, hr, h⟩ := bind_inv h
    obtain ⟨_, _, a3, _, _⟩ := number_ok hr
    obtain ⟨h1, h2⟩ := hlp_len ps _ _ _ _ h
    rw [List.length_set] at h1
    exact ⟨h1, by rw [h2, a3, List.length_cons]; show s.st + 1 + _ = _; omega⟩
theorem sim_told (s : St) (ha : s.a ≤ 8 * lb) (hs : s.st ≤ 1000000) : Sim (Inf.told V lb s) ((toldD V (8 * lb) (dsOf s)).1, (toldD V (8 * lb) (dsOf s)).2.1) (toldD V (8 * lb) (dsOf s)).2.2 := by
  rw [toldD_two]
  unfold Inf.told told1
  dsimp only
  refine sim_bind (sim_number 5 s) ?_ ?_
  · intro a s1 hr1 hy1 hd1
    rw [hy1, hd1]
    obtain ⟨_, _, z1, _, _⟩ := number_ok hr1
    refine sim_bind (sim_number 5 s1) ?_ ?_
    · intro b s2 hr2 hy2 hd2
      rw [hy2, hd2]
      obtain ⟨_, _, z2, _, _⟩ := number_ok hr2
      refine sim_bind (sim_number 4 s2) ?_ ?_
      · intro c s3 hr3 hy3 hd3
        rw [hy3, hd3]
        obtain ⟨_, _, z3, _, _⟩ := number_ok hr3
        by_cases hc : 286 < 257 + a ∨ 30 < 1 + b
        · rw [if_pos hc]
          have hb : (wrongD (decide (286 < 257 + (a : Int)) || decide (30 < 1 + (b : Int))) 2 (dsOf s3)).bad = 2 := wrongD_hit rfl (by
            rcases hc with h | h
            · rw [decide_eq_true (show 286 < 257 + (a : Int) by omega)]; rfl
            · rw [decide_eq_true (show 30 < 1 + (b : Int) by omega), Bool.or_true])
          refine Sim.er_ ?_ (by decide)
          rw [told2_keep (by rw [hb]; decide), hb]
        · rw [if_neg hc]
          rw [wrongD_no (by rw [decide_eq_false (show ¬ 286 < 257 + (a : Int) by omega), decide_eq_false (show ¬ 30 < 1 + (b : Int) by omega)]; rfl)]
          unfold told2 Inf.lengths Inf.helper
          dsimp only
          have hh := sim_hlp (V := V) (lb := lb) (order.take (4 + c)) (List.replicate 19 0) s3 (by
            have : (order.take (4 + c)).length ≤ 19 := by rw [List.length_take]; exact Nat.min_le_right _ _
            omega)
          cases hr4 : hlp V lb (order.take (4 + c)) (List.replicate 19 0) s3 with
          | er e =>
            rw [hr4] at hh
            obtain ⟨h1, h2⟩ := hh
            generalize hlD V (8 * lb) (order.take (4 + c)) (List.replicate 19 0) (dsOf s3) = q at *
            rw [if_pos (by rw [h1]; exact h2)]
            exact ⟨h1, h2⟩
          | ok C s4 =>
            rw [hr4] at hh
            obtain ⟨h1, h2⟩ := hh
            obtain ⟨hl4, hst4⟩ := hlp_len _ _ _ _ _ hr4
            rw [List.length_replicate] at hl4
            generalize hlD V (8 * lb) (order.take (4 + c)) (List.replicate 19 0) (dsOf s3) = q at *
            obtain ⟨q1, q2⟩ := q
            dsimp only at h1 h2 ⊢
            subst h1 h2
            rw [if_neg (show ¬ (dsOf s4).bad ≠ 0 from fun h => h rfl)]
            simp only [bind_ok]
            have hk := sim_okCode q1 false s4
            cases hr5 : Inf.okCode q1 false s4 with
            | er e =>
              rw [hr5] at hk
              obtain ⟨k1, k2⟩ := hk
              generalize wrongD ((docR q1 false).2 != 0) 2 (dsOf s4) = d5 at *
              have hb5 : d5.bad ≠ 0 := by rw [k1]; exact k2
              rw [lnD_keep hb5, if_pos hb5]
              exact ⟨k1, k2⟩
            | ok u s5 =>
              obtain ⟨rfl, hC⟩ := okCode_inv hr5
              rw [hr5] at hk
              obtain ⟨_, k2⟩ := hk
              rw [k2]
              simp only [bind_ok]
              have hord : (order.take (4 + c)).length ≤ 19 := by rw [List.length_take]; exact Nat.min_le_right _ _
              have hL := sim_lens (V := V) (lb := lb) hC hl4 (257 + a + (1 + b)) (257 + a + (1 + b)) [] s5 (Nat.le_refl _) (by
                have : a < 2 ^ 5 := (number_ok hr1).2.2.2.1
                have : b < 2 ^ 5 := (number_ok hr2).2.2.2.1
                omega)
              generalize lnD V (8 * lb) q1 (257 + a + (1 + b)) (257 + a + (1 + b) + 1) [] (dsOf s5) = r at *
              obtain ⟨r1, r2⟩ := r
              dsimp only at hL ⊢
              cases hr6 : lens V lb q1 (257 + a + (1 + b)) (257 + a + (1 + b)) [] s5 with
              | er e =>
                rw [hr6] at hL
                obtain ⟨h1, h2⟩ := hL
                rw [if_pos (by rw [h1]; exact h2)]
                exact ⟨h1, h2⟩
              | ok l s6 =>
                rw [hr6] at hL
                obtain ⟨h1, h2⟩ := hL
                subst h1 h2
                rw [if_neg (show ¬ (dsOf s6).bad ≠ 0 from fun h => h rfl)]
                simp only [bind_ok]
                refine sim_bind (sim_okCode _ false s6) ?_ (fun hb => by rw [wrongD_keep hb, wrongD_keep hb])
                intro u1 s7 hr7 _ hd7
                rw [hd7]
                refine sim_bind (sim_okCode _ true s7) ?_ (fun hb => by rw [wrongD_keep hb])
                intro u2 s8 hr8 _ hd8
                rw [hd8]
                by_cases h0 : r1.getD 256 0 = 0
                · rw [if_pos h0]
                  exact ⟨wrongD_hit rfl (beq_iff_eq.2 h0), by decide⟩
                · rw [if_neg h0, wrongD_no (beq_eq_false_iff_ne.2 h0)]
                  exact ⟨rfl, rfl⟩
      · intro hb
        rw [wrongD_keep hb, told2_keep hb]
    · intro hb
      rw [numD_keep hb]
      dsimp only
      rw [wrongD_keep hb, told2_keep hb]
  · intro hb
    rw [numD_keep hb]
    dsimp only
    rw [numD_keep hb]
    dsimp only
    rw [wrongD_keep hb, told2_keep hb]
/-! ### signs -/
theorem cpD_cpy (far : Nat) : ∀ (k : Nat) (s : St), cpD far k (dsOf s) = dsOf ⟨s.a, cpy far k s.out, s.st⟩
  | 0, s => rfl
  | k + 1, s => by
    rw [cpD, if_pos (show (dsOf s).bad = 0 from rfl)]
    exact cpD_cpy far k ⟨s.a, s.out ++ [s.out.getD (s.out.length - far) 0], s.st⟩
theorem back5_keep {n far : Nat} {d : DS} (h : d.bad ≠ 0) : back5 lim n far d = d := by unfold back5; rw [wrongD_keep h, cpD_bad _ _ _ h]
theorem back4_keep {n far : Nat} {d : DS} (h : d.bad ≠ 0) : back4 lim n far d = d := by unfold back4; rw [wrongD_keep h, back5_keep h]
theorem back3_keep {N n s : Nat} {d : DS} (h : d.bad ≠ 0) : back3 V N lim n s d = d := by unfold back3; rw [numD_keep h, back4_keep h]
theorem back2_keep {N n : Nat} {r : Int × DS} (h : r.2.bad ≠ 0) : back2 V N lim n r = r.2 := by
  unfold back2
  rw [wrongD_keep h, if_pos h]
theorem back1_keep {N s : Nat} {B : List Int} {d : DS} (h : d.bad ≠ 0) : back1 V N lim B s d = d := by
  unfold back1
  rw [numD_keep h, signD_bad _ _ _ _ h, back2_keep h]
theorem sim_back4 (n far : Nat) (s : St) : Sim (Inf.again lim n far s) () (back4 lim n far (dsOf s)) := by
  unfold Inf.again back4
  by_cases h : s.out.length < far
  · rw [if_pos h]
    have hb : (wrongD (decide (((dsOf s).out.length : Int) < (far : Int))) 2 (dsOf s)).bad = 2 := wrongD_hit rfl (decide_eq_true (by show (s.out.length : Int) < far; omega))
    exact Sim.er_ (by rw [back5_keep (by rw [hb]; decide), hb]) (by decide)
  · rw [if_neg h, wrongD_no (decide_eq_false (by show ¬ (s.out.length : Int) < far; omega))]
    unfold Inf.room back5
    by_cases h2 : (n : Int) > lim - (s.out.length : Int)
    · rw [if_pos h2]
      have hb : (wrongD (decide (lim < ((dsOf s).out.length : Int) + (n : Int))) 3 (dsOf s)).bad = 3 := wrongD_hit rfl (decide_eq_true (by show lim < (s.out.length : Int) + n; omega))
      exact Sim.er_ (by rw [cpD_bad _ _ _ (by rw [hb]; decide), hb]) (by decide)
    · rw [if_neg h2, wrongD_no (decide_eq_false (by show ¬ lim < (s.out.length : Int) + n; omega)), cpD_cpy]
      exact ⟨rfl, rfl⟩
theorem numD_zero (s : St) (ha : s.a ≤ 8 * lb) : numD V (8 * lb) 0 (dsOf s) = (0, dsOf s) := by
  unfold numD
  rw [if_neg (show ¬ (dsOf s).bad ≠ 0 from fun h => h rfl), if_neg (show ¬ 8 * lb < (dsOf s).a + 0 from by show ¬ 8 * lb < s.a + 0; omega), Nat.pow_zero, Nat.mod_one]
  rfl
theorem res_assoc {α β γ : Type} (r : Res α) (f : α → St → Res β) (g : β → St → Res γ) : (r.bind f).bind g = r.bind fun x s => (f x s).bind g := by cases r <;> rfl
theorem sim_distance (y : Int) (h0 : 0 ≤ y) (s : St) (ha : s.a ≤ 8 * lb) (n : Nat) : Sim ((Inf.distance V lb y s).bind fun d s => Inf.again lim n d s) () (if (wrongD (decide (29 < y)) 2 (dsOf s)).bad ≠ 0 then wrongD (decide (29 < y)) 2 (dsOf s) else back3 V (8 * lb) lim n y.toNat (wrongD (decide (29 < y)) 2 (dsOf s))) := by
  unfold Inf.distance
  by_cases h : 30 ≤ y
  · rw [if_pos h]
    have hb : (wrongD (decide (29 < y)) 2 (dsOf s)).bad = 2 := wrongD_hit rfl (decide_eq_true (by omega))
    rw [if_pos (by rw [hb]; decide)]
    exact Sim.er_ hb (by decide)
  · rw [if_neg h, wrongD_no (decide_eq_false (by omega)), if_neg (show ¬ (dsOf s).bad ≠ 0 from fun h => h rfl)]
    unfold back3
    by_cases h4 : y < 4
    · rw [if_pos h4]
      simp only [bind_ok]
      have hd : dstN y.toNat = (1 + y.toNat, 0) := by unfold dstN; rw [if_pos (by omega)]
      rw [hd]
      dsimp only
      rw [numD_zero s ha]
      exact sim_back4 n (1 + y.toNat) s
    · rw [if_neg h4, res_assoc]
      have hd : dstN y.toNat = (1 + (2 + y.toNat % 2) * 2 ^ (y.toNat / 2 - 1), y.toNat / 2 - 1) := by unfold dstN; rw [if_neg (by omega)]
      rw [hd]
      dsimp only
      refine sim_bind (sim_number _ s) ?_ ?_
      · intro m s1 hr hy hd1
        rw [hy, hd1]
        simp only [bind_ok]
        exact sim_back4 n _ s1
      · intro hb
        rw [back4_keep hb]
theorem sim_back2 (B : List Int) (hB : newR B true = none) (n : Nat) (s : St) (ha : s.a ≤ 8 * lb) : Sim ((Inf.far V lb B s).bind fun y s => (Inf.distance V lb y s).bind fun d s => Inf.again lim n d s) () (back2 V (8 * lb) lim n (signD V (8 * lb) B (dsOf s))) := by
  refine sim_bind (sim_far B true hB s) ?_ ?_
  · intro y s1 hr hy hd
    obtain ⟨y0, y1, _, _, h5, h6⟩ := far_ok hr
    unfold back2
    rw [hy, hd]
    exact sim_distance y y0 s1 (by omega) n
  · intro hb
    rw [back2_keep hb]
theorem sim_length (B : List Int) (hB : newR B true = none) (x : Int) (h0 : 257 ≤ x) (s : St) (ha : s.a ≤ 8 * lb) : Sim ((Inf.length V lb x s).bind fun n s => (Inf.far V lb B s).bind fun y s => (Inf.distance V lb y s).bind fun d s => Inf.again lim n d s) () (backD V (8 * lb) lim B x (dsOf s)) := by
  unfold Inf.length backD
  by_cases h : 286 ≤ x
  · rw [if_pos h]
    have hb : (wrongD (decide (285 < x)) 2 (dsOf s)).bad = 2 := wrongD_hit rfl (decide_eq_true (by omega))
    rw [if_pos (by rw [hb]; decide)]
    exact Sim.er_ hb (by decide)
  · rw [if_neg h, wrongD_no (decide_eq_false (by omega)), if_neg (show ¬ (dsOf s).bad ≠ 0 from fun h => h rfl)]
    unfold back1
    by_cases h5 : x = 285
    · rw [if_pos h5]
      simp only [bind_ok]
      have hl : lenN x.toNat = (258, 0) := by unfold lenN; rw [if_pos (by omega)]
      rw [hl]
      dsimp only
      rw [numD_zero s ha]
      exact sim_back2 B hB 258 s ha
    · rw [if_neg h5]
      have e : x.toNat - 257 = (x - 257).toNat := by omega
      by_cases h8 : 8 ≤ x - 257
      · rw [if_pos h8, res_assoc]
        have hl : lenN x.toNat = (3 + (4 + (x - 257).toNat % 4) * 2 ^ ((x - 257).toNat / 4 - 1), (x - 257).toNat / 4 - 1) := by unfold lenN; rw [if_neg (by omega), e, if_pos (by omega)]
        rw [hl]
        dsimp only
        refine sim_bind (sim_number _ s) ?_ ?_
        · intro m s1 hr hy hd1
          obtain ⟨a1, _, _, _, a5⟩ := number_ok hr
          rw [hy, hd1]
          simp only [bind_ok]
          exact sim_back2 B hB _ s1 (by omega)
        · intro hb
          rw [signD_bad _ _ _ _ hb, back2_keep hb]
      · rw [if_neg h8]
        simp only [bind_ok]
        have hl : lenN x.toNat = (3 + (x - 257).toNat, 0) := by unfold lenN; rw [if_neg (by omega), e, if_neg (by omega)]
        rw [hl]
        dsimp only
        rw [numD_zero s ha]
        exact sim_back2 B hB _ s ha
theorem res_again {α : Type} (r : Res α) (f : St → Res Unit) (g : α → St → Res Unit) : (r.bind fun x s => (g x s).bind fun _ s => f s) = (r.bind g).bind fun _ s => f s := by cases r <;> rfl
theorem coded_round (A B : List Int) (k : Nat) (s : St) (x : Int) (h1 : ¬ x = 256) (h2 : ¬ x < 256) : ((Inf.length V lb x s).bind fun n s => (Inf.far V lb B s).bind fun y s => (Inf.distance V lb y s).bind fun d s => (Inf.again lim n d s).bind fun _ s => Inf.coded V lb lim A B k s) = ((Inf.length V lb x s).bind fun n s => (Inf.far V lb B s).bind fun y s => (Inf.distance V lb y s).bind fun d s => Inf.again lim n d s).bind fun _ s => Inf.coded V lb lim A B k s := by
  cases Inf.length V lb x s with
  | er c => rfl
  | ok n s1 =>
    simp only [bind_ok]
    cases Inf.far V lb B s1 with
    | er c => rfl
    | ok y s2 =>
      simp only [bind_ok]
      cases Inf.distance V lb y s2 with
      | er c => rfl
      | ok d s3 => rfl
theorem len_gd {B : List Int} {x : Int} {s s' : St} {u : Unit} (h : ((Inf.length V lb x s).bind fun n s => (Inf.far V lb B s).bind fun y s => (Inf.distance V lb y s).bind fun d s => Inf.again lim n d s) = .ok u s') : s.a ≤ s'.a ∧ s'.st = s.st ∧ (s.a ≤ 8 * lb → s'.a ≤ 8 * lb) := by
  obtain ⟨n, s1, h1, h⟩ := bind_inv h
  obtain ⟨y, s2, h2, h⟩ := bind_inv h
  obtain ⟨d, s3, h3, h⟩ := bind_inv h
  obtain ⟨_, _, b1, b2, b3, b4⟩ := far_ok h2
  have e1 : s.a ≤ s1.a ∧ s1.st = s.st ∧ (s.a ≤ 8 * lb → s1.a ≤ 8 * lb) := by
    unfold Inf.length at h1
    split at h1
    · cases h1
    split at h1
    · injection h1 with _ h1; subst h1; exact ⟨Nat.le_refl _, rfl, id⟩
    split at h1
    · obtain ⟨m, s4, h4, h1⟩ := bind_inv h1
      injection h1 with _ h1; subst h1
      obtain ⟨c1, c2, c3, c4, c5⟩ := number_ok h4
      exact ⟨by omega, c3, fun _ => by omega⟩
    · injection h1 with _ h1; subst h1; exact ⟨Nat.le_refl _, rfl, id⟩
  have e3 : s2.a ≤ s3.a ∧ s3.st = s2.st ∧ (s2.a ≤ 8 * lb → s3.a ≤ 8 * lb) := by
    unfold Inf.distance at h3
    split at h3
    · cases h3
    split at h3
    · injection h3 with _ h3; subst h3; exact ⟨Nat.le_refl _, rfl, id⟩
    · obtain ⟨m, s4, h4, h3⟩ := bind_inv h3
      injection h3 with _ h3; subst h3
      obtain ⟨c1, c2, c3, c4, c5⟩ := number_ok h4
      exact ⟨by omega, c3, fun _ => by omega⟩
  have e4 : s'.a = s3.a ∧ s'.st = s3.st := by
    unfold Inf.again at h
    split at h
    · cases h
    · obtain ⟨u2, s5, h5, h⟩ := bind_inv h
      obtain ⟨hs5, _⟩ := room_ok h5
      injection h with _ h
      rw [← h, hs5]
      exact ⟨rfl, rfl⟩
  refine ⟨by omega, by omega, fun k => ?_⟩
  have := e1.2.2 k
  omega
theorem sim_coded (A B : List Int) (hA : newR A false = none) (hB : newR B true = none) : ∀ (k k2 : Nat) (s : St), 8 * lb + 1 ≤ k + s.a → k < k2 → s.a ≤ 8 * lb → s.st + k ≤ 1000000000 → Sim (Inf.coded V lb lim A B k s) () (codedD V (8 * lb) lim A B k2 (dsOf s))
  | 0, k2, s, h1, h2, h3, h4 => absurd h1 (by omega)
  | k + 1, 0, s, h1, h2, h3, h4 => absurd h2 (by omega)
  | k + 1, k2 + 1, s, h1, h2, h3, h4 => by
    rw [Inf.coded, codedD, if_neg (show ¬ (dsOf s).bad ≠ 0 from fun h => h rfl)]
    have hsg := sim_sign (V := V) (lb := lb) A false hA s (by omega)
    dsimp only
    generalize signD V (8 * lb) A (stD (dsOf s)) = p at *
    refine sim_bind hsg ?_ ?_
    · intro x s1 hr hy hd
      obtain ⟨x0, x1, ho, hst, ha1, ha2⟩ := sign_ok hr
      rw [hy, hd]
      by_cases h256 : x = 256
      · rw [if_pos h256, if_pos (.inr h256)]
        exact ⟨rfl, rfl⟩
      · rw [if_neg h256, if_neg (show ¬ ((dsOf s1).bad ≠ 0 ∨ x = 256) from fun e => e.elim (fun h => h rfl) h256)]
        by_cases hlt : x < 256
        · rw [if_pos hlt, if_pos hlt, show x % 256 = x by omega]
          unfold Inf.room
          by_cases hr2 : ((1 : Nat) : Int) > lim - (s1.out.length : Int)
          · rw [if_pos hr2]
            have hb : (wrongD (decide (lim < ((dsOf s1).out.length : Int) + 1)) 3 (dsOf s1)).bad = 3 := wrongD_hit rfl (decide_eq_true (by show lim < (s1.out.length : Int) + 1; omega))
            refine Sim.er_ ?_ (by decide)
            rw [codedD_bad _ _ _ _ _ _ _ (show (putD x _).bad ≠ 0 from by show (wrongD _ 3 _).bad ≠ 0; rw [hb]; decide)]
            exact hb
          · rw [if_neg hr2, wrongD_no (decide_eq_false (by show ¬ lim < (s1.out.length : Int) + 1; omega))]
            simp only [bind_ok]
            exact sim_coded A B hA hB k k2 ⟨s1.a, s1.out ++ [x], s1.st⟩ (by show _ ≤ k + s1.a; omega) (by omega) (by show s1.a ≤ _; omega) (by show s1.st + k ≤ _; omega)
        · rw [if_neg hlt, if_neg hlt, coded_round A B k s1 x h256 hlt]
          refine sim_bind (sim_length B hB x (by omega) s1 (by omega)) ?_ (fun hb => by rw [codedD_bad _ _ _ _ _ _ _ hb])
          intro u s2 hr3 _ hd3
          obtain ⟨g1, g2, g3⟩ := len_gd hr3
          rw [hd3]
          exact sim_coded A B hA hB k k2 s2 (by omega) (by omega) (g3 (by omega)) (by omega)
    · intro hb
      rw [if_pos (.inl hb)]
/-! ### a block -/
/-- What stands behind the last bit and the kind. -/
noncomputable def kindD (V N : Nat) (lim : Int) (kind : Nat) (d : DS) : DS :=
  if kind = 0 then (if d.bad = 0 then storedD V N lim d else d)
  else if kind = 1 then codedD V N lim letters fixB (N + 2) d
  else if kind = 2 then codedD V N lim (toldD V N d).1 (toldD V N d).2.1 (N + 2) (toldD V N d).2.2
  else wrongD true 2 d
theorem sim_kind (kind : Nat) (s : St) (ha : s.a ≤ 8 * lb) (hs : s.st ≤ s.a) (hlb : lb ≤ 10000) : Sim (if kind = 0 then Inf.stored V lb lim s else if kind = 1 then Inf.codes V lb lim letters fixB s else if kind = 2 then (Inf.told V lb s).bind fun ab s => Inf.codes V lb lim ab.1 ab.2 s else .er 2) () (kindD V (8 * lb) lim kind (dsOf s)) := by
  unfold kindD
  by_cases h0 : kind = 0
  · rw [if_pos h0, if_pos h0, if_pos (show (dsOf s).bad = 0 from rfl)]
    exact sim_stored s ha (by omega)
  rw [if_neg h0, if_neg h0]
  by_cases h1 : kind = 1
  · rw [if_pos h1, if_pos h1]
    exact sim_coded letters fixB letters_ok fixB_ok _ _ s (by omega) (by omega) ha (by omega)
  rw [if_neg h1, if_neg h1]
  by_cases h2 : kind = 2
  · rw [if_pos h2, if_pos h2]
    refine sim_bind (sim_told s ha (by omega)) ?_ (fun hb => by rw [codedD_bad _ _ _ _ _ _ _ hb])
    intro ab s1 hr hy hd
    obtain ⟨g, n1, n2⟩ := told_gd (lim := lim) hr
    have hst := g.st hs
    have hto := g.top ha
    have e1 : (toldD V (8 * lb) (dsOf s)).1 = ab.1 := by rw [← hy]
    have e2 : (toldD V (8 * lb) (dsOf s)).2.1 = ab.2 := by rw [← hy]
    rw [e1, e2, hd]
    exact sim_coded ab.1 ab.2 n1 n2 _ _ s1 (by omega) (by omega) hto (by omega)
  · rw [if_neg h2, if_neg h2]
    exact ⟨wrongD_hit rfl rfl, by decide⟩
theorem kindD_keep {N kind : Nat} {d : DS} (h : d.bad ≠ 0) : (kindD V N lim kind d).bad = d.bad := by
  unfold kindD
  by_cases h0 : kind = 0
  · rw [if_pos h0, if_neg h]
  rw [if_neg h0]
  by_cases h1 : kind = 1
  · rw [if_pos h1, codedD_bad _ _ _ _ _ _ _ h]
  rw [if_neg h1]
  by_cases h2 : kind = 2
  · rw [if_pos h2, toldD_two, told1_keep h, told2_keep h]
    dsimp only
    rw [codedD_bad _ _ _ _ _ _ _ h]
  · rw [if_neg h2, wrongD_keep h]
/-- A block. -/
noncomputable def blockD (V N : Nat) (lim : Int) (d : DS) : DS := kindD V N lim (numD V N 2 (numD V N 1 (stD d)).2).1 (numD V N 2 (numD V N 1 (stD d)).2).2
theorem sim_block (s : St) (ha : s.a ≤ 8 * lb) (hs : s.st ≤ s.a) (hlb : lb ≤ 10000) : Sim (Inf.block V lb lim s) (decide ((numD V (8 * lb) 1 (stD (dsOf s))).1 = 1)) (blockD V (8 * lb) lim (dsOf s)) := by
  unfold Inf.block blockD
  rw [stD_of s (by omega)]
  refine sim_bind (sim_number 1 _) ?_ ?_
  · intro last s1 hr1 hy1 hd1
    obtain ⟨a1, _, a3, _, a5⟩ := number_ok hr1
    dsimp only at a1 a3 a5
    rw [hy1, hd1]
    refine sim_bind (sim_number 2 s1) ?_ ?_
    · intro kind s2 hr2 hy2 hd2
      obtain ⟨b1, _, b3, _, b5⟩ := number_ok hr2
      rw [hy2, hd2]
      refine sim_bind (sim_kind kind s2 (by omega) (by omega) hlb) ?_ (fun _ => rfl)
      intro u s3 _ _ hd3
      exact ⟨rfl, hd3⟩
    · intro hb
      rw [kindD_keep hb]
  · intro hb
    rw [numD_keep hb]
    dsimp only
    rw [kindD_keep hb]
end
end Go.Proofs.YtdphifihneccoaaDoor.My

/- The document's Inflate: the walk. -/
namespace Go.Proofs.YtdphifihneccoaaDoor.My
open Go.RowKit Go.Proofs.YtdphifihneccoaaDoor.Inf Go.Proofs.YtdphifihneccoaaDoor.Huf Go.Proofs.YtdphifihneccoaaDoor.PInflateTells Go.Proofs.YtdphifihneccoaaDoorW.PrintWords Go.Proofs.YtdphifihneccoaaDoorW.PrintLast Go.Proofs.YtdphifihneccoaaDoorW.PrintMore
set_option maxRecDepth 100000
set_option linter.unusedVariables false
set_option linter.unusedSimpArgs false
/-- What the document's Inflate answers. -/
def DInf (V n : Nat) (lim : Int) (W : World) (e : Ending) (w' : World) : Prop :=
  Below W.heap.size W w' ∧ ((∃ c, c ≠ 0 ∧ infl V n lim = .er c ∧ e = .returned (.tuple #[.slice none 0 0, .int .i64 0, .int .i64 0, .int .i64 c])) ∨
  (∃ s A c, infl V n lim = .ok () s ∧ e = .returned (.tuple #[.slice A s.out.length c, .int .i64 ((s.a + 7) / 8 : Nat), .int .i64 s.st, .int .i64 0]) ∧ (Kd.int .u8).C w' A s.out.length s.out ∧ s.out.length ≤ c))
/-- The loop's state: a good one, or an error. -/
def Runs (V lb : Nat) (lim : Int) (kq : Nat) (d : DS) : Prop :=
  (∃ (s : St) (k : Nat), d = dsOf s ∧ kq = k + 1 ∧ blocks V lb lim k s = infl V lb lim ∧ s.a ≤ 8 * lb ∧ s.st ≤ s.a ∧ (s.out.length : Int) ≤ lim ∧ 8 * lb + 1 ≤ k + s.a) ∨ (kq = 0 ∧ d.bad ≠ 0 ∧ infl V lb lim = .er d.bad)
theorem dinf_out (V n : Nat) (lim : Int) (h : lim < 0 ∨ 1048576 < lim) (A : Option Addr) (c : Nat) (w : World) : Calls Tryd.prog 9 #[.slice A n c, .int .i64 lim] w (DInf V n lim w) := by
  have hI : infl V n lim = .er 1 := by unfold infl; rw [if_pos h]
  have HI := Aside0.mk hI
  rcases h with h | h
  · clear hI
    go_enter Tryd.func9, Tryd.ntmps9
    go_wp2_with fail
    refine bodyPost_ret (results_list (rs := [.tmp 4, .tmp 5, .tmp 6, .tmp 7]) rfl (by simp) (.tmp (.tmp (.tmp (.tmp .nil))))) rfl ?_
    exact ⟨Below.refl _ _, .inl ⟨1, by decide, HI.out, rfl⟩⟩
  · have h0 : ¬ lim < 0 := by omega
    clear hI
    go_enter Tryd.func9, Tryd.ntmps9
    go_wp2_with fail
    refine bodyPost_ret (results_list (rs := [.tmp 4, .tmp 5, .tmp 6, .tmp 7]) rfl (by simp) (.tmp (.tmp (.tmp (.tmp .nil))))) rfl ?_
    exact ⟨Below.refl _ _, .inl ⟨1, by decide, HI.out, rfl⟩⟩
theorem docR_ok {L : List Int} {lone : Bool} (h : ((docR L lone).2 != 0) = false) : newR L lone = none := by
  unfold docR at h
  cases hn : newR L lone with
  | none => rfl
  | some c =>
    rw [hn] at h
    have : c = 0 := by simpa using h
    exact absurd this (newR_ne hn)
theorem told_ok {V N : Nat} {d : DS} (h : (toldD V N d).2.2.bad = 0) : newR (toldD V N d).1 false = none ∧ newR (toldD V N d).2.1 true = none := by
  rw [toldD_two] at h ⊢
  unfold told2 at h ⊢
  dsimp only at h ⊢
  generalize hlD V N (order.take (4 + (told1 V N d).2.2.1)) (List.replicate 19 0) (told1 V N d).2.2.2 = q at *
  by_cases h1 : q.2.bad ≠ 0
  · rw [if_pos h1] at h
    exact absurd h h1
  · rw [if_neg h1] at h ⊢
    generalize lnD V N q.1 (257 + (told1 V N d).1 + (1 + (told1 V N d).2.1)) (257 + (told1 V N d).1 + (1 + (told1 V N d).2.1) + 1) [] (wrongD ((docR q.1 false).2 != 0) 2 q.2) = r at *
    by_cases h2 : r.2.bad ≠ 0
    · rw [if_pos h2] at h
      exact absurd h h2
    · rw [if_neg h2] at h ⊢
      dsimp only at h ⊢
      have w1 := wrongD_ok (by decide) h
      have w2 := wrongD_ok (by decide) w1.2
      have w3 := wrongD_ok (by decide) w2.2
      exact ⟨docR_ok w3.1, docR_ok w2.1⟩
theorem fix_docR : (docR letters false).2 = 0 ∧ (docR fixB true).2 = 0 := by
  unfold docR
  rw [letters_ok, fixB_ok]
  exact ⟨rfl, rfl⟩
theorem fix_len : letters.length = 288 ∧ dists.length = 30 ∧ fixB.length = 32 := by decide +kernel
set_option maxHeartbeats 2000000 in
theorem dinf_in (V n : Nat) (lim : Int) (h0 : 0 ≤ lim) (h1 : lim ≤ 100000) (hn : n ≤ 200) (hV : V < 2 ^ (8 * n)) (A : Option Addr) (c : Nat) (w : World) (hx : (Kd.int .u8).C w A n (leB V n)) (hc : n ≤ c) : Calls Tryd.prog 9 #[.slice A n c, .int .i64 lim] w (DInf V n lim w) := by
  have hI : infl V n lim = blocks V n lim (8 * n + 1) ⟨0, [], 0⟩ := by unfold infl Inf.inflate; rw [if_neg (by omega)]
  have HI := Aside0.mk hI
  have hof := crossdockref06_Of.calls (10 * n + 1) A c (leB V n) _ w (by rw [leB_len]; exact hx) (by rw [leB_len]; exact hc) (of_f V n (by omega))
  rw [leB_len] at hof
  have HOf := Aside0.mk hof
  have HN := Aside0.mk hn
  have l0 : ¬ lim < 0 := by omega
  have l1 : lim ≤ 1048576 := by omega
  have HL := Aside0.mk (And.intro h0 h1)
  clear hI hof hn hV hx hc h0 h1
  go_enter Tryd.func9, Tryd.ntmps9
  go_upto_region 4 with (with_reducible refine HOf.out.mono ?_; rintro e w1 ⟨v0, rfl, hR, hb1⟩; obtain ⟨AL, cL, hv0, hcL, hCL⟩ := Kd.R_reads hR; obtain ⟨inner, hown⟩ := Kd.R_own hR; rw [btL_len] at hv0 hcL hCL hown; subst hv0; have HB1 := Aside0.mk hb1; have HCL := Aside0.mk (And.intro hcL hCL); have HOw := Aside0.mk (own_cap hown); clear hR hb1 hcL hCL hown)
  have hdoc : Doc w1 (w1.alloc (.cells #[.slice AL ((8 * n : Nat)) cL, .int .i64 0, .slice none 0 0, .int .i64 lim, .int .i64 0, .int .i64 0] 51)) w1.heap.size AL cL (8 * n) lim (.slice none 0 0) (dsOf ⟨0, [], 0⟩) :=
    ⟨below_alloc (Below.refl _ _) _, alloc_self _ _, own_nil _ _ _ _, Nat.le_refl _, Nat.zero_le _⟩
  have HDoc := Aside0.mk hdoc
  have HBt : Aside0 (Bts w1 AL cL V (8 * n)) := ⟨HCL.out.2, HCL.out.1, HOw.out, by have := HN.out; omega⟩
  have hrun : Runs V n lim (8 * n + 2) (dsOf ⟨0, [], 0⟩) := .inl ⟨⟨0, [], 0⟩, 8 * n + 1, rfl, rfl, HI.out.symm, Nat.zero_le _, Nat.le_refl _, HL.out.1, Nat.le_refl _⟩
  have HRun := Aside0.mk hrun
  have HBel : Aside0 (∀ (wr : World) (vo : Value) (d : DS), Doc w1 wr w1.heap.size AL cL (8 * n) lim vo d → Below w.heap.size w wr) := ⟨fun wr vo d h => HB1.out.trans (h.bel.mono HB1.out.size)⟩
  clear hdoc hrun
  generalize w1.alloc (.cells #[.slice AL ((8 * n : Nat)) cL, .int .i64 0, .slice none 0 0, .int .i64 lim, .int .i64 0, .int .i64 0] 51) = w2 at *
  obtain ⟨g, hg⟩ : ∃ g, g = w1.heap.size := ⟨_, rfl⟩
  rw [← hg] at HDoc HBel ⊢
  obtain ⟨N, hN⟩ : ∃ N, N = 8 * n := ⟨_, rfl⟩
  have HNn := Aside0.mk (And.intro hN HN.out)
  rw [← hN] at HDoc HBt HBel ⊢
  clear hg HCL HOw HB1 HI HOf l0 l1
  have HRun : Aside0 (Runs V n lim (N + 2) (dsOf ⟨0, [], 0⟩)) := ⟨by rw [hN]; exact HRun.out⟩
  clear hN
  go_wp2_with fail
  go_loopg [] (N + 2) (fun kq wr => ∃ (d : DS) (vo : Value), Aside0 (Doc w1 wr g AL cL N lim vo d) ∧ Aside0 (Runs V n lim kq d))
  case atStart => exact ⟨_, _, HDoc, HRun⟩
  case round =>
    obtain ⟨d, vo, HD, HR⟩ := hrel
    clear HDoc HRun
    obtain ⟨_, c1, c2, _, c4, c5, hfz⟩ := HD.out.cells
    have f4 := hfz 4
    clear hfz
    rcases HR.out with ⟨s, k, rfl, hkq, hbl, ha, hst, hou, hfu⟩ | ⟨hkq, hbad, herr⟩
    · have HG := Aside0.mk (And.intro hkq (And.intro hbl (And.intro ha (And.intro hst (And.intro hou hfu)))))
      clear hkq hbl ha hst hou hfu HR
      have c5' : wr.cell? ⟨g, 5, none⟩ = some (.int .i64 0) := c5
      have c4' : wr.cell? ⟨g, 4, none⟩ = some (.int .i64 (s.st : Int)) := c4
      clear c5 c4 c1 c2
      have hds := HD.out.setSt (wrap64 ((s.st : Int) + 1))
      have HN1 := Aside0.mk (number8_calls _ hds HBt.out 1 (by decide))
      have hD1 : ({ dsOf s with st := wrap64 ((s.st : Int) + 1) } : DS) = stD (dsOf s) := rfl
      rw [hD1] at HN1
      have hsim := sim_block (V := V) (lb := n) (lim := lim) s (by have := HG.out; omega) HG.out.2.2.2.1 (by have := HN.out; omega)
      unfold blockD at hsim
      rw [← HNn.out.1] at hsim
      have hl2 := numD_pow (V := V) (N := N) 1 (stD (dsOf s))
      have hlo := numD_out (V := V) (N := N) 1 (stD (dsOf s))
      clear hds hD1
      generalize numD V N 1 (stD (dsOf s)) = p at *
      obtain ⟨last, d2⟩ := p
      dsimp only at *
      have bl : (last : Int) ≤ 1 := by omega
      have HSim := Aside0.mk hsim
      have HLo := Aside0.mk hlo
      clear hsim hl2 hlo
      go_upto_region 7 with (go_at_call 19; refine HN1.out.mono ?_; rintro e w3 ⟨rfl, hd3, hf3⟩; have HD3 := Aside0.mk hd3; clear hd3 hf3)
      have HN2 := Aside0.mk (number8_calls _ HD3.out HBt.out 2 (by decide))
      have hsim := HSim.out
      have hk4 := numD_pow (V := V) (N := N) 2 d2
      have hko := numD_out (V := V) (N := N) 2 d2
      have hkb : (numD V N 2 d2).2.bad ≠ 0 → (numD V N 2 d2).1 = 0 := by
        unfold numD
        split
        · exact fun _ => rfl
        · split
          · exact fun _ => rfl
          · intro h; rename_i h1 _; exact absurd (by simpa using h1) h
      clear c4' c5' f4 HN1 HSim
      generalize numD V N 2 d2 = q at *
      obtain ⟨kind, d3⟩ := q
      dsimp only at *
      have bk : (kind : Int) ≤ 3 := by omega
      have HSim := Aside0.mk hsim
      have HK := Aside0.mk (And.intro (hko.trans HLo.out) hkb)
      clear hsim hk4 hko hkb HLo
      go_upto_block 2 with (go_at_call 19; refine HN2.out.mono ?_; rintro e w4 ⟨rfl, hd4, hf4⟩; have HD4 := Aside0.mk hd4; clear hd4 hf4)
      clear HN2 HD3
      go_cut [] (fun wx => ∃ vx, Aside0 (Doc w1 wx g AL cL N lim vx (kindD V N lim kind d3)))
      case first =>
        have holen : d3.out.length ≤ 100000 := by
          have h1 : d3.out = (dsOf s).out := HK.out.1
          rw [h1]
          show s.out.length ≤ 100000
          have := HG.out; have := HL.out; omega
        have holim : (d3.out.length : Int) ≤ lim := by
          have h1 : d3.out = (dsOf s).out := HK.out.1
          rw [h1]
          exact HG.out.2.2.2.2.1
        have HOl := Aside0.mk (And.intro holen holim)
        obtain ⟨_, _, _, _, _, c5, hfz⟩ := HD4.out.cells
        clear hfz holen holim
        by_cases k0 : kind = 0
        · subst k0
          have HE : Aside0 (kindD V N lim 0 d3 = if d3.bad = 0 then storedD V N lim d3 else d3) := ⟨rfl⟩
          by_cases hb : d3.bad = 0
          · have HS := Aside0.mk (stored8_calls w4 HD4.out HBt.out (by have := HNn.out.1; omega) HOl.out.1 (by have := HL.out; omega))
            rw [if_pos hb] at HE
            rw [hb] at c5
            clear hb
            go_wp2_with (go_at_call 20; (with_reducible refine HS.out.mono ?_); rintro e w5 ⟨rfl, vo5, hd5, hf5⟩; have HD5 := Aside0.mk hd5; clear hd5 hf5)
            go_meet
            case rel => exact ⟨vo5, ⟨by rw [HE.out]; exact HD5.out⟩⟩
          · have hb1 : (d3.bad == 0) = false := beq_eq_false_iff_ne.2 hb
            rw [if_neg hb] at HE
            clear hb
            go_wp2_with fail
            go_meet
            case rel => exact ⟨vo, ⟨by rw [HE.out]; exact HD4.out⟩⟩
        · have hb : d3.bad = 0 := by
            by_cases h : d3.bad = 0
            · exact h
            · exact absurd (HK.out.2 h) k0
          rw [hb] at c5
          have HBad := Aside0.mk hb
          clear hb
          by_cases k1 : kind = 1
          · subst k1
            have HE : Aside0 (kindD V N lim 1 d3 = codedD V N lim letters fixB (N + 2) d3) := ⟨rfl⟩
            clear k0
            have HF := Aside0.mk (fun w => crossdockref07_Fixed.calls (0 + 4 * 288 + 1) letters dists w doc_fixed)
            go_upto_region 14 with (go_at_call 21; (with_reducible refine (HF.out _).mono ?_); rintro e w5 ⟨va, vb, rfl, hra, hrb, hb5⟩)
            obtain ⟨A1, c1, hva, hc1, hC1⟩ := Kd.R_reads hra
            rw [fix_len.1] at hva hc1 hC1
            subst hva
            have hd5 := HD4.out.below hb5
            have HA' := codes8_calls w5 hd5 A1 c1 letters false (by rw [fix_len.1]; exact hC1) (by rw [fix_len.1]; exact hc1)
            rw [fix_len.1, fix_docR.1, wrongD_no (by rfl)] at HA'
            have HA := Aside0.mk HA'
            have hown : w5.ownsRow w4.heap.size 3 1 vb dists.length (nums .i64 dists) := Kd.own_of_R hrb
            have hvb1 : ∀ k, vb.ownBlock = some k → w4.heap.size ≤ k ∧ k < w5.heap.size := fun k e => ⟨own_base hown k e, own_lt hown k e⟩
            have hg4 : g < w4.heap.size := blk_lt HD4.out.blk
            have hv4 : ∀ k, vo.ownBlock = some k → k < w4.heap.size := fun k e => own_lt HD4.out.row k e
            have H4 := Aside0.mk (And.intro hown (And.intro hvb1 (And.intro hg4 (And.intro hv4 hb5.size))))
            have HD5 := Aside0.mk hd5
            clear hra hrb hb5 hc1 hC1 hd5 HA' hown hvb1 hg4 hv4 HF
            go_wp2_with fail
            refine HA.out.mono ?_
            rintro e w6 ⟨vp, rfl, hrp, hd6, hf6⟩
            have hown6 : w6.ownsRow w4.heap.size 3 1 vb dists.length (nums .i64 dists) := own_move H4.out.1 (fun k e => by
              have h1 := H4.out.2.1 k e
              refine hf6.keep k h1.2 (by have := H4.out.2.2.1; omega) (by have := H4.out.2.2.1; omega) (fun e2 => ?_)
              have := H4.out.2.2.2.1 k e2.symm
              omega)
            obtain ⟨A2, c2, hvb, _, _⟩ := own_slice' hown6
            rw [fix_len.2.1] at hvb
            subst hvb
            have HO6 := Aside0.mk (And.intro hown6 (And.intro hf6.size hd6))
            have HP6 := Aside0.mk hrp
            clear hrp hd6 hf6 hown6 HA
            have HRd : Aside0 (ReadsInt (w6.alloc (.cells #[.int .i64 5, .int .i64 5] 3)) .i64 (some ⟨w6.heap.size, 0, none⟩) 2 [5, 5] ∧ Below w4.heap.size w6 (w6.alloc (.cells #[.int .i64 5, .int .i64 5] 3)) ∧ w4.heap.size ≤ (w6.alloc (.cells #[.int .i64 5, .int .i64 5] 3)).heap.size) :=
              ⟨reads_of_C (C_block (w6.alloc (.cells #[.int .i64 5, .int .i64 5] 3)) w6.heap.size .i64 [5, 5] 3 (0, 0) (alloc_self _ _) (by simp)), (below_alloc (Below.refl w6.heap.size w6) _).mono (by have := HO6.out.2.1; have := H4.out.2.2.2.2; omega), by have := HO6.out.2.1; have := H4.out.2.2.2.2; simp; omega⟩
            go_wp2_with ((with_reducible refine gate_dst (N := 65) rfl ?_); refine print_append_row (w0 := w6) w4.heap.size rfl (.tmp 63) (.tmp 64) 54 3 .i64 8 rfl Tryd.underlying54 info_i64 (by decide) (.slice A2 30 c2) dists [5, 5] (some ⟨w6.heap.size, 0, none⟩) 2 2 rfl rfl (HO6.out.1.alloc _) HRd.out.1 HRd.out.2.1 HRd.out.2.2 (by decide) ?_)
            intro v7 w7 ho7 hb7 hg7 hk7
            have ho7' : w7.ownsRow w4.heap.size 3 1 v7 fixB.length (nums .i64 fixB) := ho7
            have hg7' : w6.grownBy w7 (Value.slice A2 30 c2).ownBlock := ⟨hg7.os, hg7.tape, hg7.output, Nat.le_trans (by simp) hg7.size, fun k hk hne => (hg7.block k (by simp; omega) hne).trans (Below.heap_alloc w6 _ k hk)⟩
            obtain ⟨A3, c3, hv7, hc3, hC3⟩ := own_slice' ho7'
            have hbk : ∀ k, (Value.slice A2 30 c2).ownBlock = some k → w4.heap.size ≤ k ∧ k < w5.heap.size := fun k e => H4.out.2.1 k e
            have hw14 : w1.heap.size ≤ w4.heap.size := HD4.out.bel.size
            have hd7 : Doc w1 w7 g AL cL N lim vo d3 := HO6.out.2.2.grown hg7' (fun k e => by have := hbk k e; omega) (fun e => by have := hbk g e.symm; have := H4.out.2.2.1; omega) (by
              cases ho : vo.ownBlock with
              | none => exact .inl rfl
              | some k => exact .inr (fun e => by have := hbk k e.symm; have := H4.out.2.2.2.1 k ho; omega))
            have hp7 := Kd.R_grown HP6.out hg7' (fun k hk e => by have := hbk k e.symm; omega)
            rw [fix_len.2.2] at hv7 hc3 hC3
            subst hv7
            have HB' := codes8_calls w7 hd7 A3 c3 fixB true (by rw [fix_len.2.2]; exact hC3) (by rw [fix_len.2.2]; exact hc3)
            rw [fix_len.2.2, fix_docR.2, wrongD_no (by rfl)] at HB'
            have HB2 := Aside0.mk HB'
            have HP7 := Aside0.mk hp7
            have H7 := Aside0.mk (And.intro hd7 hg7'.size)
            clear ho7 hb7 hg7 hk7 ho7' hg7' hc3 hC3 hbk hw14 hd7 hp7 HB' HRd
            go_wp2_with fail
            refine HB2.out.mono ?_
            rintro e w8 ⟨vq, rfl, hrq, hd8, hf8⟩
            have hz : w5.heap.size ≤ w7.heap.size := Nat.le_trans HO6.out.2.1 H7.out.2
            have hp8 := cs_frm HP7.out hf8 (.inl (by have := H4.out.2.2.1; have := H4.out.2.2.2.2; omega)) (fun k e => .inl (by have := H4.out.2.2.2.1 k e; have := H4.out.2.2.2.2; omega))
            have hcd := coded8_calls (lo := w5.heap.size) (hi := w8.heap.size) w8 letters fixB HBt.out (fun _ => ⟨letters_ok, fixB_ok⟩) HL.out ⟨by have := HOl.out.2; omega, fun _ => HOl.out.2⟩ hd8 (fun _ => ⟨hd8, Frm.refl _ _ _ _, Kd.R_mono hp8 (fun k hk => (⟨hk.1, Nat.lt_of_lt_of_le hk.2 (Nat.le_trans H7.out.2 hf8.size)⟩ : w5.heap.size ≤ k ∧ k < w8.heap.size)), Kd.R_mono (Kd.R_lower hrq hz) (fun k hk => (⟨Nat.le_trans hz hk.1, hk.2⟩ : w5.heap.size ≤ k ∧ k < w8.heap.size)), fun k e => .inl (by have := H4.out.2.2.2.1 k e; have := H4.out.2.2.2.2; omega), Nat.le_refl _, by have := H4.out.2.2.1; have := H4.out.2.2.2.2; omega⟩)
            have HCd := Aside0.mk hcd
            clear hrq hd8 hf8 hz hp8 hcd HB2
            go_wp2_with fail
            refine HCd.out.mono ?_
            rintro e w9 ⟨rfl, vo9, hd9, hf9⟩
            have HD9 := Aside0.mk hd9
            clear hd9 hf9
            go_wp2_with fail
            go_meet
            case rel => exact ⟨vo9, ⟨by rw [HE.out]; exact HD9.out⟩⟩
          · by_cases k2 : kind = 2
            · subst k2
              have HE : Aside0 (kindD V N lim 2 d3 = codedD V N lim (toldD V N d3).1 (toldD V N d3).2.1 (N + 2) (toldD V N d3).2.2) := ⟨rfl⟩
              have HT := Aside0.mk (told8_calls w4 HD4.out HBt.out HOl.out.1)
              clear k0 k1
              go_wp2_with (go_at_call 24; (with_reducible refine HT.out.mono ?_); rintro e w5 ⟨p, q, vo5, rfl, hd5, hf5, ho5, hpq⟩)
              have hcd : Calls Tryd.prog 22 #[.pointer (some ⟨g, 0, none⟩), p, q] w5 fun e w' => e = .returned (.tuple #[]) ∧ ∃ vo', Doc w1 w' g AL cL N lim vo' (codedD V N lim (toldD V N d3).1 (toldD V N d3).2.1 (N + 2) (toldD V N d3).2.2) ∧ Frm g g w5 vo5 w' vo' := by
                have hb5 : ((toldD V N d3).2.2.out.length : Int) ≤ lim := by rw [ho5]; exact HOl.out.2
                by_cases hb : (toldD V N d3).2.2.bad = 0
                · obtain ⟨lo, hi, h1, h2, h3, h4, h5⟩ := hpq hb
                  exact coded8_calls (lo := lo) (hi := hi) w5 _ _ HBt.out (fun _ => told_ok hb) HL.out ⟨by omega, fun _ => hb5⟩ hd5 (fun _ => ⟨hd5, Frm.refl _ _ _ _, h4, h5, h3, h2, by have := blk_lt HD4.out.blk; omega⟩)
                · exact coded8_calls (lo := 0) (hi := 0) w5 _ _ HBt.out (fun h => absurd h hb) HL.out ⟨by omega, fun _ => hb5⟩ hd5 (fun h => absurd h hb)
              have HCd := Aside0.mk hcd
              clear hcd hd5 hf5 ho5 hpq HT
              go_wp2_with (go_at_call 22; (with_reducible refine HCd.out.mono ?_); rintro e w6 ⟨rfl, vo6, hd6, hf6⟩; have HD6 := Aside0.mk hd6; clear hd6 hf6)
              go_meet
              case rel => exact ⟨vo6, ⟨by rw [HE.out]; exact HD6.out⟩⟩
            · have k3 : kind = 3 := by omega
              subst k3
              have HE : Aside0 (kindD V N lim 3 d3 = wrongD true 2 d3) := ⟨rfl⟩
              have HW := Aside0.mk (wrong8_calls w4 HD4.out true 2)
              clear k0 k1 k2
              go_wp2_with (go_at_call 25; (with_reducible refine HW.out.mono ?_); rintro e w5 ⟨rfl, hd5, hf5⟩; have HD5 := Aside0.mk hd5; clear hd5 hf5)
              go_meet
              case rel => exact ⟨vo, ⟨by rw [HE.out]; exact HD5.out⟩⟩
      case rest =>
        obtain ⟨vx, HX⟩ := hcut
        have hsim := HSim.out
        have hdc := HX.out
        obtain ⟨k', hk'⟩ : ∃ k', k = k' + 1 := ⟨k - 1, by have := HG.out; omega⟩
        have hbl := HG.out.2.1
        rw [hk', Inf.blocks] at hbl
        clear HSim HD4 HK
        cases hblk : Inf.block V n lim s with
        | er ce =>
          rw [hblk] at hsim hbl
          have hbb : ((kindD V N lim kind d3).bad == 0) = false := beq_eq_false_iff_ne.2 (by rw [hsim.1]; exact hsim.2)
          obtain ⟨_, _, _, _, _, c5, hfz⟩ := hdc.cells
          have HR2 : Aside0 (Runs V n lim 0 (kindD V N lim kind d3)) := ⟨.inr ⟨rfl, by rw [hsim.1]; exact hsim.2, by rw [hsim.1]; exact hbl.symm⟩⟩
          clear hsim hbl hblk hfz hdc hk'
          generalize kindD V N lim kind d3 = d4 at *
          go_wp2_with fail
          go_roundg 0
          case measure => have := HG.out.1; omega
          case rel => exact ⟨d4, vx, HX, HR2⟩
        | ok lst s' =>
          rw [hblk] at hsim hbl
          obtain ⟨hlst, hd4⟩ := hsim
          rw [hd4] at hdc
          have HX2 := Aside0.mk hdc
          obtain ⟨_, c1, c2, _, c4, c5, hfz⟩ := hdc.cells
          have c1 : wc.cell? ⟨g, 1, none⟩ = some (.int .i64 (s'.a : Int)) := c1
          have c4 : wc.cell? ⟨g, 4, none⟩ = some (.int .i64 (s'.st : Int)) := c4
          have c5 : wc.cell? ⟨g, 5, none⟩ = some (.int .i64 0) := c5
          obtain ⟨gd, hlt⟩ := block_gd hblk
          have h1 := gd.top (by have := HG.out; omega)
          have h2 := gd.st (by have := HG.out; omega)
          have h3 := gd.out (by have := HG.out; omega)
          clear hfz hdc hd4 hblk HX
          cases lst with
          | true =>
            have hl1 : last = 1 := of_decide_eq_true hlst
            subst hl1
            rw [bind_ok, if_pos rfl] at hbl
            have HIn : Aside0 (infl V n lim = .ok () s') := ⟨hbl.symm⟩
            have ba : (s'.a : Int) ≤ 1600 := by have := HNn.out; omega
            clear hbl hlst hk' gd hlt h1 h2 h3 HG
            go_upto_region 19 with fail
            have kw : IntKind.i64.wrap ((s'.a : Int) + 7) = (s'.a : Int) + 7 := IntWalk.i64_in _ (by omega)
            have HBl := Aside0.mk (HBel.out _ _ _ HX2.out)
            obtain ⟨A5, c5', hvx, hle, hC5⟩ := own_slice' HX2.out.row
            have HC5 := Aside0.mk (And.intro hle hC5)
            subst hvx
            clear hle hC5
            go_quiet (fail)
            go_wp2_with fail
            refine bodyPost_ret (results_list (rs := [.tmp 4, .tmp 5, .tmp 6, .tmp 7]) rfl (by simp) (.tmp (.tmp (.tmp (.tmp .nil))))) rfl ?_
            refine ⟨pw_below_drewN HBl.out _, .inr ⟨s', A5, c5', HIn.out, ?_, Kd.C_drewN HC5.out.2 _, HC5.out.1⟩⟩
            have e : wrap64 ((wrap64 ((s'.a : Int) + 7)).tdiv 8) = (((s'.a + 7) / 8 : Nat) : Int) := by
              rw [show wrap64 ((s'.a : Int) + 7) = (s'.a : Int) + 7 by unfold wrap64; omega, Int.tdiv_eq_ediv_of_nonneg (by omega)]
              unfold wrap64
              omega
            show Ending.returned (.tuple #[.slice A5 s'.out.length c5', .int .i64 (wrap64 ((wrap64 ((s'.a : Int) + 7)).tdiv 8)), .int .i64 (s'.st : Int), .int .i64 0]) = _
            rw [e]
          | false =>
            have hl1 : ((last : Int) == 1) = false := beq_eq_false_iff_ne.2 (by have := of_decide_eq_false hlst; omega)
            rw [bind_ok, if_neg (by decide)] at hbl
            have HR2 : Aside0 (Runs V n lim (k' + 1) (dsOf s')) := ⟨.inl ⟨s', k', rfl, rfl, hbl, h1, h2, h3, by have := HG.out; omega⟩⟩
            have HK' := Aside0.mk hk'
            clear hbl hlst hk' gd hlt h1 h2 h3
            go_wp2_with fail
            go_roundg (k' + 1)
            case measure => have := HG.out.1; have := HK'.out; omega
            case rel => exact ⟨dsOf s', vx, HX2, HR2⟩
    · have hbb : (d.bad == 0) = false := beq_eq_false_iff_ne.2 hbad
      have HErr := Aside0.mk herr
      have HBd := Aside0.mk hbad
      have HBl := Aside0.mk (HBel.out _ _ _ HD.out)
      clear hkq hbad herr HR
      go_wp2_with fail
      go_quiet (fail)
      go_wp2_with fail
      refine bodyPost_ret (results_list (rs := [.tmp 4, .tmp 5, .tmp 6, .tmp 7]) rfl (by simp) (.tmp (.tmp (.tmp (.tmp .nil))))) rfl ?_
      exact ⟨pw_below_drewN HBl.out _, .inl ⟨d.bad, HBd.out, HErr.out, rfl⟩⟩
end Go.Proofs.YtdphifihneccoaaDoor.My

/- The walk of crossdocknum.Bytes, beside that of Num. -/
namespace Go.Proofs.YtdphifihneccoaaDoor.My
open Go.RowKit Go.Proofs.YtdphifihneccoaaDoorW.PrintWords Go.Proofs.YtdphifihneccoaaDoorW.PrintLast Go.Proofs.YtdphifihneccoaaDoorW.PrintMore
set_option maxRecDepth 100000

def Byts (l : List Int) : Prop := ∀ x ∈ l, 0 ≤ x ∧ x < 256
/-- The text of byte values. -/
def byts (l : List Int) : List UInt8 := l.map fun n => UInt8.ofNat n.toNat
theorem str_toList (l : List Int) : (strOfNums l).toList = byts l := by rw [ByteArray.toList_eq]; rfl
theorem byts_inj {a b : List Int} (ha : Byts a) (hb : Byts b) (h1 : byts a = byts b) : a = b := by
  have hi : ∀ (x y : Int), 0 ≤ x ∧ x < 256 → 0 ≤ y ∧ y < 256 → UInt8.ofNat x.toNat = UInt8.ofNat y.toNat → x = y := by
    intro x y hx hy he
    have := congrArg UInt8.toNat he
    simp only [UInt8.toNat_ofNat'] at this
    omega
  unfold byts at h1
  induction a generalizing b with
  | nil => cases b with
    | nil => rfl
    | cons y b => simp at h1
  | cons x a ih =>
    cases b with
    | nil => simp at h1
    | cons y b =>
      simp only [List.map_cons, List.cons.injEq] at h1
      rw [hi x y (ha x (by simp)) (hb y (by simp)) h1.1, ih (fun z hz => ha z (by simp [hz])) (fun z hz => hb z (by simp [hz])) h1.2]
theorem bytes_calls (A B : Option Addr) (n m c d : Nat) (xs ys : List Int) (w : World) (hx : (Kd.int .u8).C w A n xs) (hy : (Kd.int .u8).C w B m ys) :
    Calls Tryd.prog 11 #[.slice A n c, .slice B m d] w fun r w' => r = .returned (.bool (byts xs == byts ys)) ∧ w = w' := by
  have k1 := Kd.C_string (P := Tryd.prog) (src := 22) (dst := 9) (c := c) Tryd.underlying22 Tryd.underlying5 Tryd.underlying9 hx
  have k2 := Kd.C_string (P := Tryd.prog) (src := 22) (dst := 9) (c := d) Tryd.underlying22 Tryd.underlying5 Tryd.underlying9 hy
  rw [← str_toList, ← str_toList]
  generalize strOfNums xs = s at k1 ⊢
  generalize strOfNums ys = t at k2 ⊢
  clear hx hy
  go_enter Tryd.func11, Tryd.ntmps11
  go_wp2
  go_ret
  exact ⟨rfl, rfl⟩
/-- The same bytes: yes. -/
theorem bytes_yes (A B : Option Addr) (n m c d : Nat) (xs : List Int) (w : World) (hx : (Kd.int .u8).C w A n xs) (hy : (Kd.int .u8).C w B m xs) :
    Calls Tryd.prog 11 #[.slice A n c, .slice B m d] w fun r w' => r = .returned (.bool true) ∧ w = w' :=
  (bytes_calls A B n m c d xs xs w hx hy).mono fun _ _ ⟨h1, h2⟩ => ⟨by rw [h1]; simp, h2⟩
end Go.Proofs.YtdphifihneccoaaDoor.My

/- InflateTells: what any bytes are the packed ones of, of any limit. -/
namespace Go.Proofs.YtdphifihneccoaaDoor.My
open Go.RowKit Go.Proofs.YtdphifihneccoaaDoor.Inf Go.Proofs.YtdphifihneccoaaDoor.Huf Go.Proofs.YtdphifihneccoaaDoorW.PrintWords Go.Proofs.YtdphifihneccoaaDoorW.PrintLast Go.Proofs.YtdphifihneccoaaDoorW.PrintMore
set_option maxRecDepth 100000
set_option linter.unusedVariables false
set_option linter.unusedSimpArgs false
theorem dinf_all (V n : Nat) (lim : Int) (hl : lim ≤ 3000 ∨ 1048576 < lim) (hn : n ≤ 200) (hV : V < 2 ^ (8 * n)) (A : Option Addr) (c : Nat) (w : World) (hx : (Kd.int .u8).C w A n (leB V n)) (hc : n ≤ c) : Calls Tryd.prog 9 #[.slice A n c, .int .i64 lim] w (DInf V n lim w) := by
  by_cases h : lim < 0 ∨ 1048576 < lim
  · exact dinf_out V n lim h A c w
  · exact dinf_in V n lim (by omega) (by omega) hn hV A c w hx hc
set_option maxHeartbeats 2000000 in
theorem tells_in (A : Option Addr) (n c : Nat) (l : List Int) (lim lim0 : Int) (W w1 : World) (hb0 : Below W.heap.size W w1) (ho : Ord W) (hC : (Kd.int .u8).C W A n l) (hl : l.length = n) (hby : ∀ x ∈ l, 0 ≤ x ∧ x < 256) (hc : n ≤ c) (hn : n ≤ 200) (hcut : (3000 < lim0 ∧ lim0 ≤ 1048576 → lim = 3000) ∧ (¬ (3000 < lim0 ∧ lim0 ≤ 1048576) → lim = lim0)) (HAl : Aside0 (Calls Tryd.prog 7 #[] W fun e w' => e = .returned (.bool true) ∧ Below W.heap.size W w')) :
    Calls Tryd.prog 3 #[.slice A n c, .int .i64 lim0] W fun e w' => e = .returned (.bool true) ∧ Below W.heap.size W w' := by
  have HC := Aside0.mk hC
  have HL := Aside0.mk (And.intro hl (And.intro hc hn))
  have HBy := Aside0.mk hby
  have HO := Aside0.mk ho
  have hnb : ¬ (200 : Int) < (n : Int) := by omega
  have hlim : lim ≤ 3000 ∨ 1048576 < lim := by
    by_cases h : 3000 < lim0 ∧ lim0 ≤ 1048576
    · rw [hcut.1 h]; exact .inl (by decide)
    · rw [hcut.2 h]; omega
  have HLim := Aside0.mk hlim
  have HCut := Aside0.mk hcut
  clear hC hl hby ho hc hn hlim hcut hb0
  go_enter Tryd.func3, Tryd.ntmps3
  go_upto_region 5 with (go_at_call 7; refine HAl.out.mono ?_; rintro e w2 ⟨rfl, hb⟩; have HB2 := Aside0.mk hb; clear hb)
  go_cut [22] (fun v22 wx => v22 = .bool (decide (3000 < lim0 ∧ lim0 ≤ 1048576)) ∧ wx = w2)
  case first =>
    by_cases h1 : 3000 < lim0
    · by_cases h2 : lim0 ≤ 1048576
      · go_wp2_with fail
        go_meet
        case rel => exact ⟨by rw [decide_eq_true (by omega)], rfl⟩
      · go_wp2_with fail
        go_meet
        case rel => exact ⟨by rw [decide_eq_false (by omega)], rfl⟩
    · go_wp2_with fail
      go_meet
      case rel => exact ⟨by rw [decide_eq_false (by omega)], rfl⟩
  case rest =>
  obtain ⟨rfl, rfl⟩ := hcut
  obtain ⟨bq, hbq⟩ : ∃ b, b = decide (3000 < lim0 ∧ lim0 ≤ 1048576) := ⟨_, rfl⟩
  rw [← hbq]
  have HBq := Aside0.mk hbq
  clear hbq
  go_upto_if 22 with fail
  go_cut [1] (fun v1 wy => v1 = .int .i64 lim ∧ wy = wc)
  case first =>
    cases bq with
    | true =>
      have e : lim = 3000 := HCut.out.1 (of_decide_eq_true HBq.out.symm)
      subst e
      go_wp2_with fail
      go_meet
      case rel => exact ⟨rfl, rfl⟩
    | false =>
      have e : lim = lim0 := HCut.out.2 (of_decide_eq_false HBq.out.symm)
      subst e
      go_wp2_with fail
      go_meet
      case rel => exact ⟨rfl, rfl⟩
  case rest =>
  obtain ⟨rfl, rfl⟩ := hcut
  have hr1 := reads_of_C (Kd.C_alloc (Kd.C_below HC.out HB2.out) (.cells #[] 5))
  go_wp2_with ((with_reducible refine gate_dst (N := 25) rfl ?_); refine print_append_row (w0 := W) W.heap.size rfl (.tmp 23) (.tmp 24) 22 5 .u8 1 rfl Tryd.underlying22 info_u8 (by decide) _ [] l A n c rfl rfl (own_lit wc W.heap.size 5 .u8 [] HB2.out.size (by decide)) hr1 (below_alloc HB2.out _) (by have := HB2.out.size; simp; omega) (by have := HL.out; simp; omega) ?_)
  intro v3 w3 ho3 hb3 _ _
  rw [HL.out.1] at ho3
  obtain ⟨A5, c5, rfl, hc5, hC5⟩ := own_slice' ho3
  have hnil := own_cap ho3
  have hV1 := leB_ofB l HBy.out
  have hV2 := ofB_lt l HBy.out
  rw [HL.out.1] at hV1 hV2
  have HI := Aside0.mk (inflate_bytes w3 A5 n c5 l lim hC5 (fun z hz => by have := HBy.out z hz; simp [Lit.wf, IntKind.min, IntKind.max, IntKind.bits, IntKind.signed]; omega) HL.out.1 (by have := HL.out; omega) hnil (HO.out.below hb3))
  have HDI : Aside0 (∀ w', Below W.heap.size W w' → Calls Tryd.prog 9 #[.slice A n c, .int .i64 lim] w' (DInf (ofB l) n lim w')) := ⟨fun w' hb => dinf_all (ofB l) n lim HLim.out HL.out.2.2 hV2 A c w' (by rw [hV1]; exact Kd.C_below HC.out hb) HL.out.2.1⟩
  have HO3 := Aside0.mk (And.intro hc5 hC5)
  have HB3 := Aside0.mk hb3
  clear hr1 ho3 hb3 hc5 hC5 hnil hV1 hV2
  go_wp2_with fail
  refine HI.out.mono ?_
  rintro e w4 ⟨hb4, ⟨ce, hr, rfl⟩ | ⟨s, A6, c6, hr, rfl, hC6, _, hc6⟩⟩
  · have HB4 := Aside0.mk (HB3.out.trans (hb4.mono HB3.out.size))
    have HB34 := Aside0.mk hb4
    have HR := Aside0.mk hr
    have hb5 := below_alloc (Below.refl w4.heap.size w4) (.cells #[.slice none 0 0, .int .i64 0, .int .i64 0] 25)
    have hx5 := alloc_self w4 (.cells #[.slice none 0 0, .int .i64 0, .int .i64 0] 25)
    have HB5 := Aside0.mk hb5
    have HX5 := Aside0.mk hx5
    clear hb4 hr hb5 hx5 HI
    unfold errV
    go_upto_region 9 with fail
    generalize w4.alloc (.cells #[.slice none 0 0, .int .i64 0, .int .i64 0] 25) = w5 at *
    have HB05 := Aside0.mk (HB4.out.trans (HB5.out.mono HB4.out.size))
    go_wp2_with fail
    refine (HDI.out w5 HB05.out).mono ?_
    rintro e w6 ⟨hb6, ⟨ce2, hne, hr2, rfl⟩ | ⟨s2, A7, c7, hr2, rfl, _, _⟩⟩
    · rw [HR.out] at hr2
      injection hr2 with hr2
      subst hr2
      have HB6 := Aside0.mk (HB05.out.trans (hb6.mono HB05.out.size))
      have hx6 := blk_below HX5.out hb6
      have p0 := blk_cell hx6 0
      have p1 := blk_cell hx6 1
      have p2 := blk_cell hx6 2
      have HNu := Aside0.mk (fun w => num_calls (some ce) w (fun c h => by cases h; exact hne))
      unfold errV numE at HNu
      have HBy2 := Aside0.mk (bytes_yes A5 A n n c5 c l w6 (Kd.C_below (Kd.C_below (Kd.C_below HO3.out.2 HB34.out) HB5.out) hb6) (Kd.C_below HC.out HB6.out))
      have hne1 : (ce != 0) = true := bne_iff_ne.2 hne
      clear hb6 hx6 hne
      go_wp2_with (first
        | (go_at_call 10; (with_reducible refine (HNu.out _).mono ?_); rintro e w' ⟨rfl, rfl⟩)
        | (go_at_call 11; (with_reducible refine HBy2.out.mono ?_); rintro e w' ⟨rfl, rfl⟩))
      go_ret
      exact ⟨rfl, HB6.out⟩
    · rw [HR.out] at hr2
      cases hr2
  · have HB4 := Aside0.mk (HB3.out.trans (hb4.mono HB3.out.size))
    have HB34 := Aside0.mk hb4
    have HR := Aside0.mk hr
    have HC6 := Aside0.mk (And.intro hC6 hc6)
    have hb5 := below_alloc (Below.refl w4.heap.size w4) (.cells #[.slice A6 s.out.length c6, .int .i64 ((s.a + 7) / 8 : Nat), .int .i64 s.st] 25)
    have hx5 := alloc_self w4 (.cells #[.slice A6 s.out.length c6, .int .i64 ((s.a + 7) / 8 : Nat), .int .i64 s.st] 25)
    have HB5 := Aside0.mk hb5
    have HX5 := Aside0.mk hx5
    clear hb4 hr hC6 hc6 hb5 hx5 HI
    generalize hU : (s.a + 7) / 8 = U at *
    go_upto_region 9 with fail
    generalize w4.alloc (.cells #[.slice A6 s.out.length c6, .int .i64 (U : Nat), .int .i64 s.st] 25) = w5 at *
    have HB05 := Aside0.mk (HB4.out.trans (HB5.out.mono HB4.out.size))
    have HU := Aside0.mk hU
    clear hU
    go_wp2_with fail
    refine (HDI.out w5 HB05.out).mono ?_
    rintro e w6 ⟨hb6, ⟨ce2, hne, hr2, rfl⟩ | ⟨s2, A7, c7, hr2, rfl, hC7, hc7⟩⟩
    · rw [HR.out] at hr2
      cases hr2
    · rw [HR.out] at hr2
      injection hr2 with _ hr2
      subst hr2
      rw [HU.out]
      have HB6 := Aside0.mk (HB05.out.trans (hb6.mono HB05.out.size))
      have hx6 := blk_below HX5.out hb6
      have p0 := blk_cell hx6 0
      have p1 := blk_cell hx6 1
      have p2 := blk_cell hx6 2
      have HNu : Aside0 (∀ w, Calls Tryd.prog 10 #[.nilIface] w fun r w' => r = .returned (.int .i64 0) ∧ w = w') := ⟨fun w => num_calls none w (fun c h => by cases h)⟩
      have HBy2 := Aside0.mk (bytes_yes A5 A n n c5 c l w6 (Kd.C_below (Kd.C_below (Kd.C_below HO3.out.2 HB34.out) HB5.out) hb6) (Kd.C_below HC.out HB6.out))
      have HBy3 := Aside0.mk (bytes_yes A6 A7 s.out.length s.out.length c6 c7 s.out w6 (Kd.C_below (Kd.C_below HC6.out.1 HB5.out) hb6) hC7)
      clear hb6 hx6 hC7 hc7
      generalize s.out.length = M at *
      go_wp2_with (first
        | (go_at_call 10; (with_reducible refine (HNu.out _).mono ?_); rintro e w' ⟨rfl, rfl⟩)
        | (go_at_call 11; (with_reducible refine HBy2.out.mono ?_); rintro e w' ⟨rfl, rfl⟩)
        | (go_at_call 11; (with_reducible refine HBy3.out.mono ?_); rintro e w' ⟨rfl, rfl⟩))
      go_ret
      exact ⟨rfl, HB6.out⟩
theorem tells_walk (A : Option Addr) (n c : Nat) (zs : List Int) (lim : Int) (W : World) (hz : IsRow .u8 W A n c zs) (_ : n * 1 ≤ 140737488351232) (wl : (Lit.int .i64 lim).wf = true) (hL : laidMetH Tryd.prog Rows.inflateTellsRow.laid W) :
    Calls Tryd.prog 3 #[.slice A n c, .int .i64 lim] W fun e w' => e = .returned (.bool true) ∧ Below W.heap.size W w' := by
  have ho := ord_of_laid hL
  have HAl := Aside0.mk (alive_calls W ho)
  obtain ⟨l, hl, hlc, hC, hwf⟩ := row_C hz
  by_cases h200 : 200 < n
  · have h1 : (200 : Int) < (n : Int) := by omega
    clear hz hL ho hC hwf hl
    go_enter Tryd.func3, Tryd.ntmps3
    go_wp2_with (go_at_call 7; refine HAl.out.mono ?_; rintro e w1 ⟨rfl, hb⟩; replace hb := Aside0.mk hb)
    go_ret
    exact ⟨rfl, hb.out⟩
  · by_cases h : 3000 < lim ∧ lim ≤ 1048576
    · exact tells_in A n c l 3000 lim W W (Below.refl _ _) ho (hl ▸ hC) hl (fun x hx => wf_u8 (hwf x hx)) hlc (by omega) ⟨fun _ => rfl, fun k => absurd h k⟩ HAl
    · exact tells_in A n c l lim lim W W (Below.refl _ _) ho (hl ▸ hC) hl (fun x hx => wf_u8 (hwf x hx)) hlc (by omega) ⟨fun k => absurd k h, fun _ => rfl⟩ HAl
end Go.Proofs.YtdphifihneccoaaDoor.My
