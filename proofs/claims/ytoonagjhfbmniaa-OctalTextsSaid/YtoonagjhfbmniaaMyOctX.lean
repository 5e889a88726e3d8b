/- The walks of octal.Text and of the document's PutText. -/
import Derived.Test.YtoonagjhfbmniaaMyOctT
namespace Go.Proofs.Ytoonagjhfbmniaa.My
open Go.RowKit Go.Proofs.YtoonagjhfbmniaaW.PrintWords Go.Proofs.YtoonagjhfbmniaaW.PrintLast Go.Proofs.YtoonagjhfbmniaaW.PrintMore
set_option linter.unusedVariables false
set_option linter.unusedSimpArgs false

theorem bytesOf_bs (s : ByteArray) : Lib.bytesOf (bs s) = s.data.toList := by
  unfold Lib.bytesOf bs
  rw [List.map_map]
  conv => rhs; rw [← List.map_id s.data.toList]
  apply List.map_congr_left
  intro b _
  simp
theorem str_bs (s : ByteArray) : strOfNums (bs s) = s := by
  have h := bytesOf_bs s
  unfold Lib.bytesOf at h
  unfold strOfNums
  rw [h]
theorem bytesOf_app (a b : List Int) : Lib.bytesOf (a ++ b) = Lib.bytesOf a ++ Lib.bytesOf b := by simp [Lib.bytesOf]
theorem bytesOf_zeros (m : Nat) : Lib.bytesOf (List.replicate m 0) = List.replicate m 0 := by simp [Lib.bytesOf]
theorem index_zeros (m : Nat) : ∀ L : List UInt8, Lib.indexByte L 0 < 0 → Lib.indexByte (L ++ List.replicate m 0) 0 = if m = 0 then -1 else (L.length : Int)
  | [], _ => by
    cases m with
    | zero => rfl
    | succ m => simp [List.replicate_succ, Lib.indexByte]
  | b :: L, h => by
    unfold Lib.indexByte at h
    by_cases hb : b == 0
    · rw [if_pos hb] at h; omega
    · rw [if_neg hb] at h
      have hL : Lib.indexByte L 0 < 0 := by
        by_cases h2 : Lib.indexByte L 0 == -1
        · have := eq_of_beq h2; omega
        · rw [if_neg h2] at h; omega
      have ih := index_zeros m L hL
      simp only [List.cons_append, Lib.indexByte, if_neg hb, ih]
      by_cases hm : m = 0
      · simp [hm]
      · rw [if_neg hm, if_neg hm, if_neg (by simp <;> omega)]
        simp
theorem text_calls (w : World) (g n : Nat) (s : ByteArray) (hn : n ≤ 1000000) (hs : s.size ≤ n) (hz : Lib.indexByte s.data.toList 0 < 0) (hr : Row0 w g (bs s ++ List.replicate (n - s.size) 0)) :
    Calls Try.prog 13 #[.slice (some ⟨g, 0, none⟩) n n] w fun r w' => r = .returned (.string s) ∧ Below w.heap.size w w' := by
  have hlen : (bs s ++ List.replicate (n - s.size) 0).length = n := by rw [List.length_append, bs_len, List.length_replicate]; omega
  obtain ⟨w1, hw1⟩ : ∃ w1, w1 = w.alloc (.cells #[.int .u8 0] 5) := ⟨_, rfl⟩
  have hb1 : Below w.heap.size w w1 := by rw [hw1]; exact below_alloc (Below.refl _ _) _
  have hr1 : Row w1 g (bs s ++ List.replicate (n - s.size) 0) := hr.row.below hb1
  have hc2 : w1.cell? ⟨w.heap.size, 0, none⟩ = some (.int .u8 0) := by
    rw [hw1]
    exact (blk_cell (alloc_self w (.cells #[.int .u8 0] 5)) 0).trans rfl
  have hidx := Try.bytes_Index_one g 0 n n w.heap.size 0 1 (bs s ++ List.replicate (n - s.size) 0) 0 w1 hlen (fun i hi => by rw [Nat.zero_add]; exact hr1.cell i (by rw [hlen]; exact hi)) hc2
  have hix := index_zeros (n - s.size) s.data.toList hz
  rw [bytesOf_app, bytesOf_bs, bytesOf_zeros] at hidx
  rw [show ((0 : Int).toNat.toUInt8) = 0 from rfl, hix] at hidx
  have hsz : s.data.toList.length = s.size := by rw [Array.length_toList]; rfl
  rw [hsz] at hidx
  have hcut := Try.bytes_Cut_of (some ⟨g, 0, none⟩) (some ⟨w.heap.size, 0, none⟩) n n 1 1 (if n - s.size = 0 then -1 else (s.size : Int)) w1 (Nat.le_refl _) (by split <;> omega) (by split <;> omega) (by omega) (hidx.mono fun e w' h => ⟨h.1, 0, by rw [h.2, World.drewN_zero]⟩)
  have hcv : ∃ v2 b, Lib.cutV (some ⟨g, 0, none⟩) n n 1 (if n - s.size = 0 then -1 else (s.size : Int)) = .tuple #[.slice (some ⟨g, 0, none⟩) s.size n, v2, .bool b] := by
    unfold Lib.cutV
    by_cases h0 : n - s.size = 0
    · rw [if_pos h0, if_neg (by omega), show s.size = n by omega]
      exact ⟨_, _, rfl⟩
    · rw [if_neg h0, if_pos (by omega), Int.toNat_natCast]
      exact ⟨_, _, rfl⟩
  obtain ⟨v2, b2, hcv⟩ := hcv
  rw [hcv] at hcut
  have hC : (Kd.int .u8).C w1 (some ⟨g, 0, none⟩) s.size (bs s) := by
    have := hr1.C 0 s.size (by rw [hlen]; omega) (by omega)
    rw [List.drop_zero, List.take_append_of_le_length (by rw [bs_len]; omega), List.take_of_length_le (by rw [bs_len]; omega)] at this
    exact this
  have hconv : Aside0 (∀ k, (convert 23 9 (.slice (some ⟨g, 0, none⟩) s.size n)).run Try.prog (w1.drewN k) = .ok (.string s) (w1.drewN k)) := ⟨fun k => by
    have := Kd.C_string (P := Try.prog) (src := 23) (dst := 9) (c := n) Try.underlying23 Try.underlying5 Try.underlying9 (Kd.C_drewN hC k)
    rwa [str_bs] at this⟩
  have HC := Aside0.mk hcut
  have HB := Aside0.mk hb1
  rw [hw1] at HC HB hconv
  clear hr1 hc2 hidx hix hsz hcut hcv hC hb1 hr hlen hw1 hz
  go_enter Try.func13, Try.ntmps13
  go_wp2_with (go_at_call 18; refine HC.out.mono ?_; rintro e w' ⟨rfl, k, rfl⟩; have hcc := hconv.out k)
  go_ret
  exact ⟨rfl, pw_below_drewN HB.out _⟩
/-- What the document answers. -/
theorem ptE_zero (n : Nat) (s : ByteArray) (h : ¬ n < s.size) : (ptE n s = some 2 ∧ ∃ j : Nat, j < s.size ∧ s.data.toList[j]? = some 0 ∧ ∀ k : Nat, k < j → s.data.toList[k]? ≠ some 0) ∨ (ptE n s = none ∧ Lib.indexByte s.data.toList 0 < 0 ∧ ∀ k : Nat, s.data.toList[k]? ≠ some 0) := by
  have hge := Lib.indexByte_ge s.data.toList 0
  unfold ptE
  rw [if_neg h]
  by_cases h2 : 0 ≤ Lib.indexByte s.data.toList 0
  · obtain ⟨o, ho⟩ := Int.eq_ofNat_of_zero_le h2
    obtain ⟨h3, h4⟩ := Lib.indexByte_some ho
    refine .inl ⟨by rw [if_pos h2], o, ?_, h3, h4⟩
    have := (List.getElem?_eq_some_iff.1 h3).1
    rw [Array.length_toList] at this
    exact this
  · refine .inr ⟨by rw [if_neg h2], by omega, Lib.indexByte_none (by omega)⟩
theorem byte_get (s : ByteArray) (i : Nat) (h : i < s.size) : s.data.toList[i]? = some s[i] := by
  rw [List.getElem?_eq_getElem (by rw [Array.length_toList]; exact h)]
  rfl
set_option maxHeartbeats 1000000 in
theorem refText_long (w : World) (n : Nat) (s : ByteArray) (hs : s.size ≤ 1000000) (h : n < s.size) :
    Calls Try.prog 11 #[.int .i64 n, .string s] w fun r w' => r = .returned (.tuple #[.slice none 0 0, .int .i64 3]) ∧ w' = w := by
  have b1 : (n : Int) < (s.size : Int) := by omega
  have b2 : (s.size : Int) ≤ 1000000 := by omega
  clear h
  go_enter Try.func11, Try.ntmps11
  go_wp2_with fail
  go_ret2
  exact ⟨rfl, rfl⟩
set_option maxHeartbeats 1000000 in
theorem refText_form (w : World) (n j : Nat) (s : ByteArray) (hn : n ≤ 1000000) (h : s.size ≤ n) (hj : j < s.size) (hz : s.data.toList[j]? = some 0) (ha : ∀ k : Nat, k < j → s.data.toList[k]? ≠ some 0) :
    Calls Try.prog 11 #[.int .i64 n, .string s] w fun r w' => r = .returned (.tuple #[.slice none 0 0, .int .i64 2]) ∧ w' = w := by
  have b1 : (s.size : Int) ≤ (n : Int) := by omega
  have b2 : (n : Int) ≤ 1000000 := by omega
  have HJ := Aside0.mk hj
  have HZ := Aside0.mk hz
  have HAl := Aside0.mk ha
  clear h hj hz ha hn
  go_enter Try.func11, Try.ntmps11
  go_wp2_with fail
  go_loopg [6] s.size (fun kq v6 wr => ∃ i : Nat, v6 = .int .i64 i ∧ i ≤ j ∧ Aside0 (kq = s.size - i) ∧ wr = w)
  case atStart => exact ⟨0, rfl, Nat.zero_le _, ⟨by omega⟩, rfl⟩
  case round =>
    obtain ⟨i, rfl, hi, HK, rfl⟩ := hrel
    have hlt : i < s.size := by have := HJ.out; omega
    have b3 : (i : Int) ≤ 1000000 := by omega
    have hb := byte_get s i hlt
    by_cases e : i = j
    · subst e
      rw [HZ.out] at hb
      have hb0 : s[i] = 0 := (Option.some.inj hb).symm
      have e1 : (((s[i] : UInt8).toNat : Int) == 0) = true := by rw [hb0]; rfl
      clear hb hb0 hi
      go_wp2_with fail
      go_ret2
      exact ⟨rfl, rfl⟩
    · have hb0 : s[i] ≠ 0 := fun h => HAl.out i (by omega) (by rw [hb, h])
      have e1 : (((s[i] : UInt8).toNat : Int) == 0) = false := beq_eq_false_iff_ne.2 (fun h => hb0 (UInt8.toNat_inj.1 (by simpa using h)))
      have HI := Aside0.mk (show i + 1 ≤ j ∧ i < s.size by omega)
      clear hb hb0 hi e
      go_wp2_with fail
      go_roundg (gk - 1)
      case measure => have := HK.out; have := HI.out; omega
      case rel => exact ⟨i + 1, by go_num, HI.out.1, ⟨by have := HK.out; omega⟩, rfl⟩
set_option maxHeartbeats 1000000 in
theorem refText_calls (w : World) (n : Nat) (s : ByteArray) (hn : n ≤ 1000000) (h : s.size ≤ n) (ha : ∀ k : Nat, s.data.toList[k]? ≠ some 0) :
    Calls Try.prog 11 #[.int .i64 n, .string s] w fun r w' => r = .returned (.tuple #[.slice (some ⟨w.heap.size, 0, none⟩) n n, .int .i64 0]) ∧ Row0 w' w.heap.size (bs s ++ List.replicate (n - s.size) 0) ∧ Below w.heap.size w w' := by
  have b1 : (s.size : Int) ≤ (n : Int) := by omega
  have b2 : (n : Int) ≤ 1000000 := by omega
  have HAl := Aside0.mk ha
  have HS := Aside0.mk h
  have hmk : ∀ W : World, (Instr.makeSlice 23 (.int .i64 n) (.int .i64 n)).run Try.prog W = .ok (.slice (some ⟨W.heap.size, 0, none⟩) n n) (W.alloc (.cells (madeCells #[.int .u8 0] n) 5)) := fun W => make_bytes n (by omega) W
  have hnew : (w.alloc (.cells (nums .u8 (List.replicate n 0)).toArray 5)).heap[w.heap.size]? = some (.cells (nums .u8 (List.replicate n 0)).toArray 5 (0, 0)) := alloc_self _ _
  have hsz : (nums .u8 (List.replicate n 0)).toArray.size = n := by rw [List.size_toArray, nums_length, List.length_replicate]
  have hcp := fun ty => Lib.run_copy_row_string (P := Try.prog) (w.alloc (.cells (nums .u8 (List.replicate n 0)).toArray 5)) 23 9 ty 5 w.heap.size 0 n n s _ 5 Try.underlying23 info_u8' hnew h (by rw [hsz]; omega)
  have hrow1 : ((w.alloc (.cells (nums .u8 (List.replicate n 0)).toArray 5)).setRow w.heap.size ((nums .u8 (List.replicate n 0)).toArray.toList.take 0 ++ Lib.byteCells s.data.toList ++ (nums .u8 (List.replicate n 0)).toArray.toList.drop (0 + s.size)).toArray).heap[w.heap.size]? = some (.cells (nums .u8 (bs s ++ List.replicate (n - s.size) 0)).toArray 5 (0, 0)) := by
    rw [setRow_heap _ _ _ _ 5 (0, 0) hnew, bs_cells]
    simp [nums]
  have hg1 := setRow_grown (w.alloc (.cells (nums .u8 (List.replicate n 0)).toArray 5)) w.heap.size ((nums .u8 (List.replicate n 0)).toArray.toList.take 0 ++ Lib.byteCells s.data.toList ++ (nums .u8 (List.replicate n 0)).toArray.toList.drop (0 + s.size)).toArray
  have hbel := below_grown (below_alloc (Below.refl w.heap.size w) (.cells (nums .u8 (List.replicate n 0)).toArray 5)) hg1 (by simp) (Nat.le_refl _)
  generalize (w.alloc (.cells (nums .u8 (List.replicate n 0)).toArray 5)).setRow w.heap.size ((nums .u8 (List.replicate n 0)).toArray.toList.take 0 ++ Lib.byteCells s.data.toList ++ (nums .u8 (List.replicate n 0)).toArray.toList.drop (0 + s.size)).toArray = w1 at *
  have hgo : goInt s.size = .int .i64 s.size := rfl
  rw [hgo] at hcp
  rw [← made_nums] at hcp
  have HR1 : Aside0 (Row0 w1 w.heap.size (bs s ++ List.replicate (n - s.size) 0)) := ⟨⟨hrow1⟩⟩
  have HB1 := Aside0.mk hbel
  clear h ha hn hnew hsz hrow1 hg1 hgo hbel
  go_enter Try.func11, Try.ntmps11
  go_wp2_with fail
  go_loopg [6] s.size (fun kq v6 wr => ∃ i : Nat, v6 = .int .i64 i ∧ i ≤ s.size ∧ Aside0 (kq = s.size - i) ∧ wr = w)
  case atStart => exact ⟨0, rfl, Nat.zero_le _, ⟨by omega⟩, rfl⟩
  case round =>
    obtain ⟨i, rfl, hi, HK, rfl⟩ := hrel
    have b3 : (i : Int) ≤ 1000000 := by omega
    by_cases hlt : i < s.size
    · have hb := byte_get s i hlt
      have hb0 : s[i] ≠ 0 := fun h => HAl.out i (by rw [hb, h])
      have e1 : (((s[i] : UInt8).toNat : Int) == 0) = false := beq_eq_false_iff_ne.2 (fun h => hb0 (UInt8.toNat_inj.1 (by simpa using h)))
      have HI := Aside0.mk (show i + 1 ≤ s.size ∧ i < s.size by omega)
      clear hb hb0 hi
      go_wp2_with fail
      go_roundg (gk - 1)
      case measure => have := HK.out; have := HI.out; omega
      case rel => exact ⟨i + 1, by go_num, HI.out.1, ⟨by have := HK.out; omega⟩, rfl⟩
    · have hge : (s.size : Int) ≤ (i : Int) := by omega
      clear hi
      go_wp2_with fail
      go_ret2
      exact ⟨rfl, HR1.out, HB1.out⟩
end Go.Proofs.Ytoonagjhfbmniaa.My
