/- What sort of a huff.Code does, plainly, and blocks of numbers. -/
import Derived.Test.YtlgpmpnobcdogaaMyNumber
import Derived.BigRegion
namespace Go.Proofs.Ytlgpmpnobcdogaa.My
open Go.RowKit Go.Proofs.Ytlgpmpnobcdogaa.Huf Go.Proofs.YtlgpmpnobcdogaaW.PrintWords Go.Proofs.YtlgpmpnobcdogaaW.PrintLast Go.Proofs.YtlgpmpnobcdogaaW.PrintMore
set_option linter.unusedVariables false
set_option linter.unusedSimpArgs false

/-- A block of numbers. -/
def IRow (w : World) (b : Nat) (t : TypeId) (xs : List Int) : Prop := w.heap[b]? = some (.cells (nums .i64 xs).toArray t (0, 0))
theorem IRow.cell {w : World} {b : Nat} {t : TypeId} {xs : List Int} (h : IRow w b t xs) (i : Nat) (hi : i < xs.length) : w.cell? ⟨b, i, none⟩ = some (.int .i64 (xs.getD i 0)) := by
  rw [blk_cell h]
  simp only [List.getElem?_toArray]
  exact nums_at xs i hi
theorem IRow.fz {w : World} {b : Nat} {t : TypeId} {xs : List Int} (h : IRow w b t xs) (i : Nat) : w.frozen? ⟨b, i, none⟩ = false := blk_frozen h i
theorem IRow.set {w : World} {b : Nat} {t : TypeId} {xs : List Int} (h : IRow w b t xs) (i : Nat) (x : Int) : IRow (w.setCell ⟨b, i, none⟩ (.int .i64 x)) b t (xs.set i x) := by
  unfold IRow at h ⊢
  rw [blk_set h]
  simp [nums, List.map_set]
theorem IRow.far {w : World} {b : Nat} {t : TypeId} {xs : List Int} (h : IRow w b t xs) {p : Addr} (hp : b ≠ p.block) (u : Value) : IRow (w.setCell p u) b t xs := blk_far h hp u
theorem IRow.drewN {w : World} {b : Nat} {t : TypeId} {xs : List Int} (h : IRow w b t xs) (n : Nat) : IRow (w.drewN n) b t xs := h
theorem IRow.below {w w1 : World} {b : Nat} {t : TypeId} {xs : List Int} (h : IRow w b t xs) (hb : Below w.heap.size w w1) : IRow w1 b t xs := blk_below h hb
theorem IRow.lt {w : World} {b : Nat} {t : TypeId} {xs : List Int} (h : IRow w b t xs) : b < w.heap.size := blk_lt h
theorem IRow.reads {w : World} {b : Nat} {t : TypeId} {xs : List Int} (h : IRow w b t xs) (hm : xs.length ≤ 9223372036854775807) : (Kd.int .i64).C w (some ⟨b, 0, none⟩) xs.length xs := C_block w b .i64 xs t (0, 0) h hm
theorem IRow.made (w : World) (t : TypeId) (m : Nat) : IRow (w.alloc (.cells (madeCells #[.int .i64 0] m) t)) w.heap.size t (List.replicate m 0) := by
  rw [made_nums]
  exact alloc_self _ _
theorem info_i64 : (Try.prog.info? 3).map (fun i => (i.zero, i.size, i.bytes)) = some (some (.int .i64 0), 1, 8) := by kernel_rfl
theorem make_ints (n : Nat) (hn : n ≤ 16777216) (W : World) : (Instr.makeSlice 22 (.int .i64 n) (.int .i64 n)).run Try.prog W = .ok (.slice (some ⟨W.heap.size, 0, none⟩) n n) (W.alloc (.cells (madeCells #[.int .i64 0] n) 3)) := by
  obtain ⟨i0, hi, hz⟩ := Option.map_eq_some_iff.1 info_i64
  simp only [Prod.mk.injEq] at hz
  have h := run_makeSlice W (P := Try.prog) 22 3 i0 (.int .i64 0) Try.underlying22 hi hz.1 .i64 .i64 n n (by omega) (by omega) (by rw [hz.2.1]; omega) (by rw [hz.2.2]; omega) (by omega)
  rw [hz.2.1] at h
  simpa [Value.cells] using h
theorem list17 (xs : List Int) (h : xs.length = 17) : nums .i64 xs = [0, 1, 2, 3, 4, 5, 6, 7, 8, 9, 10, 11, 12, 13, 14, 15, 16].map fun i => .int .i64 (xs.getD i 0) := by
  apply List.ext_getElem
  · simp [nums, h]
  · intro i a b
    have hi : i < 17 := by simpa using b
    have : i = 0 ∨ i = 1 ∨ i = 2 ∨ i = 3 ∨ i = 4 ∨ i = 5 ∨ i = 6 ∨ i = 7 ∨ i = 8 ∨ i = 9 ∨ i = 10 ∨ i = 11 ∨ i = 12 ∨ i = 13 ∨ i = 14 ∨ i = 15 ∨ i = 16 := by omega
    rcases this with e | e | e | e | e | e | e | e | e | e | e | e | e | e | e | e | e <;> subst e <;> simp [nums, List.getD_eq_getElem?_getD, h]
/-- Where the next sign of each length goes, behind so many signs. -/
def atL (L : List Int) (i : Nat) : List Int := tab fun k => if k < 16 then ((beg L k + c0 (L.take i) k : Nat) : Int) else 0
def nmL (L : List Int) (i : Nat) : List Int := (List.range L.length).map fun s => if s < i then (code L s : Int) else 0
theorem nmL_len (L : List Int) (i : Nat) : (nmL L i).length = L.length := by simp [nmL]
theorem atL_zero (L : List Int) : upto (beg L) 16 = atL L 0 := tab_eq fun k hk => by
  split
  · simp [c0, cn]
  · rfl
theorem atL_get (L : List Int) (i m : Nat) (h0 : m ≠ 0) (h : m ≤ 15) : (atL L i).getD m 0 = ((beg L m + cn (L.take i) m : Nat) : Int) := by
  unfold atL
  rw [tab_get _ m (by omega), if_pos (by omega)]
  simp [c0, h0]
theorem atL_skip (L : List Int) (i : Nat) (h : L[i]? = some 0) : atL L (i + 1) = atL L i := tab_eq fun k hk => by
  unfold c0
  by_cases e : k = 0
  · simp [e]
  · rw [if_neg e, if_neg e, cn_take L i k _ h, if_neg (show ¬ ((0 : Int) = (k : Int)) by omega)]; rfl
theorem atL_set (L : List Int) (i m : Nat) (h0 : m ≠ 0) (h : m ≤ 15) (hx : L[i]? = some (m : Int)) (y : Int) (hy : y = ((beg L m + cn (L.take i) m : Nat) : Int) + 1) : (atL L i).set m y = atL L (i + 1) := by
  unfold atL
  refine tab_set _ _ m y (by omega) ?_ ?_
  · rw [if_pos (by omega), hy]
    unfold c0
    rw [if_neg h0, cn_take L i m _ hx, if_pos rfl]
    omega
  · intro k hk _
    split
    · unfold c0
      by_cases e : k = 0
      · simp [e]
      · rw [if_neg e, if_neg e, cn_take L i k _ hx, if_neg (by omega)]; rfl
    · rfl
theorem nmL_zero (L : List Int) : List.replicate L.length (0 : Int) = nmL L 0 := by
  apply List.ext_getElem
  · simp [nmL]
  · intro i a b; simp [nmL]
theorem nmL_set (L : List Int) (i : Nat) (h : i < L.length) (y : Int) (hy : y = (code L i : Int)) : (nmL L i).set i y = nmL L (i + 1) := by
  apply List.ext_getElem
  · simp [nmL]
  · intro j a b
    rw [List.getElem_set]
    simp only [nmL, List.getElem_map, List.getElem_range]
    split
    · next e => subst e; rw [if_pos (by omega), hy]
    · next e =>
      by_cases hj : j < i
      · rw [if_pos hj, if_pos (by omega)]
      · rw [if_neg hj, if_neg (by omega)]
theorem nmL_skip (L : List Int) (i : Nat) (h : L[i]? = some 0) : nmL L (i + 1) = nmL L i := by
  have hl := (List.getElem?_eq_some_iff.1 h).1
  rw [← nmL_set L i hl (code L i : Int) rfl]
  have hc : (code L i : Int) = 0 := by
    unfold code
    rw [List.getD_eq_getElem?_getD, h]
    simp
  rw [hc]
  apply List.ext_getElem
  · simp [nmL]
  · intro j a b
    rw [List.getElem_set]
    split
    · next e => subst e; simp [nmL]
    · rfl
theorem nmL_all (L : List Int) : nmL L L.length = (List.range L.length).map fun s => (code L s : Int) := by
  unfold nmL
  apply List.map_congr_left
  intro s hs
  rw [if_pos (List.mem_range.1 hs)]
theorem over_all (L : List Int) : ∀ k n, anyOver L k n = false → ∀ j, n ≤ j → j < n + k → over L j = false
  | 0, n, _, j, h1, h2 => by omega
  | k + 1, n, h, j, h1, h2 => by
    rw [anyOver, Bool.or_eq_false_iff] at h
    rcases Nat.eq_or_lt_of_le h1 with e | e
    · subst e; exact h.1
    · exact over_all L k (n + 1) h.2 j e (by omega)
/-- All signs before this one stand at their places. -/
def Stood (L : List Int) (i : Nat) (S : List Int) : Prop := S.length = beg L 16 ∧ ∀ s, s < i → L.getD s 0 ≠ 0 → S.getD (pos L s) 0 = (s : Int)
theorem stood_skip (L : List Int) (i : Nat) (S : List Int) (h : Stood L i S) (hx : L.getD i 0 = 0) : Stood L (i + 1) S := ⟨h.1, fun s hs h0 => by
  rcases Nat.lt_or_ge s i with e | e
  · exact h.2 s e h0
  · obtain rfl : s = i := by omega
    exact absurd hx h0⟩
theorem pos_eq (L : List Int) (i m : Nat) (hx : L.getD i 0 = (m : Int)) : pos L i = beg L m + cn (L.take i) m := by
  unfold pos
  rw [hx]
  simp
theorem pos_in (L : List Int) (i m : Nat) (hi : i < L.length) (h0 : m ≠ 0) (h : m ≤ 15) (hx : L.getD i 0 = (m : Int)) : beg L m + cn (L.take i) m < beg L 16 := by
  have h1 := pos_lt L i hi m hx h0
  have h2 : beg L (m + 1) = beg L m + cn L m := by rw [beg]; simp [c0, h0]
  obtain ⟨d, e⟩ : ∃ d, 16 = (m + 1) + d := ⟨15 - m, by omega⟩
  have h3 := beg_mono L (m + 1) d
  rw [← e] at h3
  omega
theorem stood_set (L : List Int) (i m : Nat) (S : List Int) (h : Stood L i S) (hok : okL L = true) (hi : i < L.length) (h0 : m ≠ 0) (hm : m ≤ 15) (hx : L.getD i 0 = (m : Int)) :
    Stood L (i + 1) (S.set (beg L m + cn (L.take i) m) (i : Int)) := by
  refine ⟨by rw [List.length_set]; exact h.1, fun s hs hs0 => ?_⟩
  have hp := pos_in L i m hi h0 hm hx
  rcases Nat.lt_or_ge s i with e | e
  · have hs1 : s < L.length := by omega
    have hmem : L.getD s 0 ∈ L := by rw [List.getD_eq_getElem?_getD, List.getElem?_eq_getElem hs1]; exact List.getElem_mem _
    have hb : 0 ≤ L.getD s 0 ∧ L.getD s 0 ≤ 15 := by
      have := List.all_eq_true.1 hok _ hmem
      simpa using this
    obtain ⟨n', hn'⟩ := Int.eq_ofNat_of_zero_le hb.1
    have hne := pos_inj L s i e hi n' m hn' hx (by intro e2; rw [e2] at hn'; exact hs0 hn') h0
    rw [← pos_eq L s n' hn'] at hne
    rw [List.getD_eq_getElem?_getD, List.getElem?_set_ne (by omega), ← List.getD_eq_getElem?_getD]
    exact h.2 s e hs0
  · obtain rfl : s = i := by omega
    rw [pos_eq L s m hx, List.getD_eq_getElem?_getD, List.getElem?_set_self (by rw [h.1]; exact hp)]
    rfl
end Go.Proofs.Ytlgpmpnobcdogaa.My
