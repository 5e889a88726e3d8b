/- The walks of octal.PutText and octal.Text. -/
import Derived.Test.YtoonagjhfbmniaaMyBytes
import Derived.Test.YtoonagjhfbmniaaMyShelf
import Derived.Lib.BufferWrite
import Derived.Lib.SliceRun
import Derived.Lib.IndexLaws
namespace Go.Proofs.Ytoonagjhfbmniaa.My
open Go.RowKit Go.Proofs.YtoonagjhfbmniaaW.PrintWords Go.Proofs.YtoonagjhfbmniaaW.PrintLast Go.Proofs.YtoonagjhfbmniaaW.PrintMore
set_option linter.unusedVariables false
set_option linter.unusedSimpArgs false

/-- A text's bytes. -/
def bs (s : ByteArray) : List Int := s.data.toList.map fun b => (b.toNat : Int)
theorem bs_len (s : ByteArray) : (bs s).length = s.size := by unfold bs; rw [List.length_map, Array.length_toList]; rfl
theorem bs_cells (s : ByteArray) : Lib.byteCells s.data.toList = nums .u8 (bs s) := by unfold bs nums Lib.byteCells; rw [List.map_map]; rfl
/-- A block of bytes that the call made: none of its places is marked. -/
structure Row0 (w : World) (g : Nat) (l : List Int) : Prop where mk :: (out : w.heap[g]? = some (.cells (nums .u8 l).toArray 5 (0, 0)))
theorem Row0.row {w : World} {g : Nat} {l : List Int} (h : Row0 w g l) : Row w g l := Row.of h.out
theorem setRow_grown (w : World) (g : Nat) (cs : Array Value) : w.grownBy (w.setRow g cs) (some g) :=
  ⟨rfl, rfl, rfl, by simp, fun k _ hk => setRow_other w g k cs (fun e => hk (by rw [e]))⟩
theorem info_u8' : (Try.prog.info? 5).map (·.size) = some 1 := by
  obtain ⟨i0, hi, hz⟩ := Option.map_eq_some_iff.1 info_u8
  simp only [Prod.mk.injEq] at hz
  rw [hi]
  simp [hz.2.1]
theorem slice_from (g n k : Nat) (hk : k ≤ n) (W : World) : (Instr.slice 23 (.slice (some ⟨g, 0, none⟩) n n) (some (.int .i64 k)) none none).run Try.prog W = .ok (.slice (if n = k then some ⟨g, 0, none⟩ else some ⟨g, k, none⟩) (n - k) (n - k)) W := by
  obtain ⟨i0, hi, hz⟩ := Option.map_eq_some_iff.1 info_u8
  simp only [Prod.mk.injEq] at hz
  have hel : Try.prog.elem 23 = 5 := by simp [Program.elem, Try.underlying23]
  have hu : Try.prog.underlying 23 = some (.slice (Try.prog.elem 23)) := by rw [hel]; exact Try.underlying23
  rw [run_slice_l W 23 (some ⟨g, 0, none⟩) n n hu .i64 k (by omega) (by omega), hel]
  simp [sizeOf, typeInfo, hi, hz.2.1, sliced, Result.andThen, add_plain]
theorem setCells_row (w : World) (g : Nat) (fr : Nat × Nat) (e : TypeId) : ∀ (vs : List Value) (o : Nat) (cs : List Value), w.heap[g]? = some (.cells cs.toArray e fr) → o + vs.length ≤ cs.length → (w.setCells g o vs).heap[g]? = some (.cells (cs.take o ++ vs ++ cs.drop (o + vs.length)).toArray e fr) ∧ w.grownBy (w.setCells g o vs) (some g) := by
  intro vs
  induction vs generalizing w with
  | nil =>
    intro o cs h ho
    refine ⟨?_, World.grownBy.refl w _⟩
    show w.heap[g]? = _
    rw [h]
    simp
  | cons v vs ih =>
    intro o cs h ho
    have hset : (w.setCell ⟨g, o, none⟩ v).heap[g]? = some (.cells (cs.set o v).toArray e fr) := by
      rw [setCell_eq_setRow w g o _ _ fr _ h, setRow_heap w g _ _ _ fr h]
      simp
    obtain ⟨h1, h2⟩ := ih (w.setCell ⟨g, o, none⟩ v) (o + 1) (cs.set o v) hset (by simp at *; omega)
    refine ⟨?_, grown_trans (grown_set w g o v) h2⟩
    show ((w.setCell ⟨g, o, none⟩ v).setCells g (o + 1) vs).heap[g]? = _
    rw [h1]
    congr 3
    simp only [List.length_cons] at *
    have e1 : (cs.set o v).take (o + 1) = cs.take o ++ [v] := by
      rw [List.take_set, List.take_add_one]
      have hlt : o < cs.length := by omega
      rw [List.getElem?_eq_getElem hlt]
      simp only [Option.toList_some]
      rw [List.set_append_right _ _ (by simp; omega)]
      simp [Nat.min_eq_left (Nat.le_of_lt hlt)]
    have e2 : (cs.set o v).drop (o + 1 + vs.length) = cs.drop (o + (vs.length + 1)) := by
      rw [List.drop_set_of_lt (by omega)]
      congr 1
      omega
    rw [e1, e2]
    simp
theorem zero_u8 (w : World) : (zeroValue 5).run Try.prog w = .ok (.int .u8 0) w := by
  obtain ⟨i0, hi, hz⟩ := Option.map_eq_some_iff.1 info_u8
  simp only [Prod.mk.injEq] at hz
  simp [zeroValue, typeInfo, hi, hz.1]
/-- What PutText answers. -/
def ptE (n : Nat) (s : ByteArray) : Option Int := if n < s.size then some 3 else if 0 ≤ Lib.indexByte s.data.toList 0 then some 2 else none
theorem putText_bad (w : World) (A : Option Addr) (n c : Nat) (s : ByteArray) (e : Int) (hn : n ≤ 1000000) (hs : s.size ≤ 1000000) (hE : ptE n s = some e) :
    Calls Try.prog 12 #[.slice A n c, .string s] w fun r w' => r = .returned (errV (some e)) ∧ w' = w := by
  have HI : Aside0 (∀ w : World, Calls Try.prog 17 #[.string s, .int .u8 0] w fun e w' => e = .returned (.int .i64 (Lib.indexByte s.data.toList 0)) ∧ w' = w) := ⟨fun w => Try.strings_IndexByte s 0 w⟩
  unfold ptE at hE
  by_cases h1 : n < s.size
  · rw [if_pos h1] at hE
    cases hE
    have b1 : (n : Int) < (s.size : Int) := by omega
    clear h1
    go_enter Try.func12, Try.ntmps12
    go_wp2_with fail
    go_ret
    exact ⟨rfl, rfl⟩
  · rw [if_neg h1] at hE
    by_cases h2 : 0 ≤ Lib.indexByte s.data.toList 0
    · rw [if_pos h2] at hE
      cases hE
      have b1 : (s.size : Int) ≤ (n : Int) := by omega
      generalize Lib.indexByte s.data.toList 0 = q at *
      clear h1
      go_enter Try.func12, Try.ntmps12
      go_wp2_with (go_at_call 17; refine (HI.out _).mono ?_; rintro e w' ⟨rfl, rfl⟩)
      go_ret
      exact ⟨rfl, rfl⟩
    · rw [if_neg h2] at hE; cases hE
set_option maxHeartbeats 1000000 in
theorem putText_calls (w : World) (g n : Nat) (s : ByteArray) (l : List Int) (hn : n ≤ 1000000) (hl : l.length = n) (hr : Row0 w g l) (hE : ptE n s = none) :
    Calls Try.prog 12 #[.slice (some ⟨g, 0, none⟩) n n, .string s] w fun r w' => r = .returned (errV none) ∧ Row0 w' g (bs s ++ List.replicate (n - s.size) 0) ∧ w.grownBy w' (some g) := by
  have HI : Aside0 (∀ w : World, Calls Try.prog 17 #[.string s, .int .u8 0] w fun e w' => e = .returned (.int .i64 (Lib.indexByte s.data.toList 0)) ∧ w' = w) := ⟨fun w => Try.strings_IndexByte s 0 w⟩
  unfold ptE at hE
  by_cases h1 : n < s.size
  · rw [if_pos h1] at hE; cases hE
  · rw [if_neg h1] at hE
    by_cases h2 : 0 ≤ Lib.indexByte s.data.toList 0
    · rw [if_pos h2] at hE; cases hE
    · have hlen : (nums .u8 l).toArray.size = n := by rw [List.size_toArray, nums_length, hl]
      have hcp := fun ty => Lib.run_copy_row_string (P := Try.prog) w 23 9 ty 5 g 0 n n s (nums .u8 l).toArray 5 Try.underlying23 info_u8' hr.out (by omega) (by rw [hlen]; omega)
      have hrow1 : (w.setRow g ((nums .u8 l).toArray.toList.take 0 ++ Lib.byteCells s.data.toList ++ (nums .u8 l).toArray.toList.drop (0 + s.size)).toArray).heap[g]? = some (.cells (nums .u8 (bs s ++ l.drop s.size)).toArray 5 (0, 0)) := by
        rw [setRow_heap w g _ _ 5 (0, 0) hr.out, bs_cells]
        simp [nums, List.map_drop]
      have hg1 := setRow_grown w g ((nums .u8 l).toArray.toList.take 0 ++ Lib.byteCells s.data.toList ++ (nums .u8 l).toArray.toList.drop (0 + s.size)).toArray
      generalize w.setRow g ((nums .u8 l).toArray.toList.take 0 ++ Lib.byteCells s.data.toList ++ (nums .u8 l).toArray.toList.drop (0 + s.size)).toArray = w1 at *
      have hsl := slice_from g n s.size (by omega)
      have b1 : (s.size : Int) ≤ (n : Int) := by omega
      have b2 : Lib.indexByte s.data.toList 0 < 0 := by omega
      generalize Lib.indexByte s.data.toList 0 = q at *
      have hgo : goInt s.size = .int .i64 s.size := rfl
      rw [hgo] at hcp
      have hcl : ∃ w2, (∀ ty, (Builtin.clear_ #[23] ty #[.slice (if n = s.size then some ⟨g, 0, none⟩ else some ⟨g, s.size, none⟩) (n - s.size) (n - s.size)]).run Try.prog w1 = .ok (.tuple #[]) w2) ∧ Row0 w2 g (bs s ++ List.replicate (n - s.size) 0) ∧ w.grownBy w2 (some g) := by
        by_cases hk : n = s.size
        · refine ⟨w1, fun ty => ?_, ⟨?_⟩, hg1⟩
          · rw [if_pos hk, hk, Nat.sub_self]
            simp [Builtin.clear_, run_underlying Try.underlying23, zero_u8]
          · rw [hrow1, ← hk, Nat.sub_self, List.drop_eq_nil_of_le (by omega)]
            rfl
        · have hcell : ∀ j, j < n - s.size → (w1.cell? ⟨g, s.size + j, none⟩).isSome = true := by
            intro j hj
            rw [blk_cell hrow1]
            have : s.size + j < (nums .u8 (bs s ++ l.drop s.size)).toArray.size := by rw [List.size_toArray, nums_length, List.length_append, bs_len, List.length_drop]; omega
            rw [Array.getElem?_eq_getElem this]
            rfl
          have hrun := fun ty => Lib.run_clear_slice (P := Try.prog) w1 23 5 ty (.int .u8 0) Try.underlying23 zero_u8 rfl rfl g s.size (n - s.size) (n - s.size) (by omega) hcell (fun j _ => blk_frozen hrow1 _)
          have hst := setCells_row w1 g (0, 0) 5 (List.replicate (n - s.size) (.int .u8 0)) s.size (nums .u8 (bs s ++ l.drop s.size)) hrow1 (by rw [List.length_replicate, nums_length, List.length_append, bs_len, List.length_drop]; omega)
          refine ⟨_, fun ty => ?_, ⟨?_⟩, grown_trans hg1 hst.2⟩
          · rw [if_neg hk]; exact hrun ty
          · rw [hst.1]
            congr 2
            have e1 : (nums .u8 (bs s ++ l.drop s.size)).take s.size = nums .u8 (bs s) := by
              unfold nums
              rw [List.map_append, List.take_append_of_le_length (by rw [List.length_map, bs_len]; omega), List.take_of_length_le (by rw [List.length_map, bs_len]; omega)]
            rw [e1, List.drop_eq_nil_of_le (by rw [nums_length, List.length_append, bs_len, List.length_drop, List.length_replicate]; omega)]
            simp [nums]
      obtain ⟨w2, hcl, hr2, hg2⟩ := hcl
      have HR2 := Aside0.mk hr2
      have HG2 := Aside0.mk hg2
      generalize (if n = s.size then some (⟨g, 0, none⟩ : Addr) else some ⟨g, s.size, none⟩) = A3 at *
      clear hr hrow1 hg1 hl hlen hgo h1 h2 hE hr2 hg2 hn
      go_enter Try.func12, Try.ntmps12
      go_wp2_with (go_at_call 17; refine (HI.out _).mono ?_; rintro e w' ⟨rfl, rfl⟩)
      go_ret
      exact ⟨rfl, HR2.out, HG2.out⟩
end Go.Proofs.Ytoonagjhfbmniaa.My
