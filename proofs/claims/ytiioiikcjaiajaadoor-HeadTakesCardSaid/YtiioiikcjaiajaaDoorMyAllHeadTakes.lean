/- MyHeadE, MyAgg12, MyNumE, MyLaidH, MyHeadF, MyGlH2, MyTk7, MyTk8: laid into one text by merge.py. -/
import Derived.Test.YtiioiikcjaiajaaDoorMyAllDoc
import Derived.Lib.SmallJoins
import Derived.Test.YtiioiikcjaiajaaDoorMyAllH
import Derived.Test.YtiioiikcjaiajaaDoorProg
import Derived.WalkKit
import GoSem.PinnedTables
import Derived.Test.YtiioiikcjaiajaaDoorMyAllDtk

/- The document's block is the program's: plainly, field by field. -/
set_option maxRecDepth 100000
namespace Go.Proofs.YtiioiikcjaiajaaDoor.My
open Go.Proofs.YtiioiikcjaiajaaDoor.Hd Go.Proofs.YtiioiikcjaiajaaDoor.Oct Go.Proofs.YtiioiikcjaiajaaDoorW.PrintWords
set_option linter.unusedVariables false
set_option linter.unusedSimpArgs false

/-- Blocks that agree field by field are alike. -/
theorem eq_flds {l m : List Int} : ∀ (sizes : List Nat) (o : Nat), l.length = m.length → o + sizes.sum = l.length → (∀ k, k < sizes.length → fld l (o + (sizes.take k).sum) (sizes.getD k 0) = fld m (o + (sizes.take k).sum) (sizes.getD k 0)) → l.drop o = m.drop o
  | [], o, hlm, ho, _ => by
    simp only [List.sum_nil, Nat.add_zero] at ho
    rw [List.drop_eq_nil_of_le (by omega), List.drop_eq_nil_of_le (by omega)]
  | n :: r, o, hlm, ho, h => by
    have h0 := h 0 (by simp)
    simp only [List.take_zero, List.sum_nil, Nat.add_zero, List.getD_cons_zero] at h0
    have hr := eq_flds r (o + n) hlm (by rw [List.sum_cons] at ho; omega) (fun k hk => by
      have := h (k + 1) (by simpa using hk)
      simp only [List.take_succ_cons, List.sum_cons, List.getD_cons_succ] at this
      rw [Nat.add_assoc]
      exact this)
    have e1 : l.drop o = fld l o n ++ l.drop (o + n) := by
      unfold fld
      rw [← List.drop_drop, List.take_append_drop]
    have e2 : m.drop o = fld m o n ++ m.drop (o + n) := by
      unfold fld
      rw [← List.drop_drop, List.take_append_drop]
    rw [e1, e2, h0, hr]
theorem fld_txt {l : List Int} {o n : Nat} {b : List Int} (hb : b.length ≤ n) (h : o + n ≤ l.length) (hz : fld l o n = List.replicate n 0) : fld (patch l o b) o n = b ++ List.replicate (n - b.length) 0 := by
  apply List.ext_getElem?
  intro i
  rw [fld_get, patch_get (by omega)]
  have hzi : ∀ j, j < n → l[o + j]? = some 0 := fun j hj => by
    have := congrArg (·[j]?) hz
    simp only [fld_get, if_pos hj] at this
    rw [this, List.getElem?_replicate, if_pos hj]
  by_cases h1 : i < b.length
  · rw [if_pos (by omega), if_pos (by omega), List.getElem?_append_left h1, Nat.add_sub_cancel_left]
  · by_cases h2 : i < n
    · rw [if_pos h2, if_neg (by omega), hzi i h2, List.getElem?_append_right (by omega), List.getElem?_replicate, if_pos (by omega)]
    · rw [if_neg h2, List.getElem?_append_right (by omega), List.getElem?_replicate, if_neg (by omega)]
theorem fld_in {l : List Int} {o p n : Nat} {b : List Int} (h : o + b.length ≤ l.length) (h1 : o ≤ p) (h2 : p + n ≤ o + b.length) : fld (patch l o b) p n = (b.drop (p - o)).take n := by
  apply List.ext_getElem?
  intro i
  rw [fld_get, List.getElem?_take]
  by_cases hi : i < n
  · rw [if_pos hi, if_pos hi, patch_get h, if_pos (by omega), List.getElem?_drop]
    congr 1
    omega
  · rw [if_neg hi, if_neg hi]
theorem fld_nought (o n : Nat) (h : o + n ≤ 512) : fld nought o n = List.replicate n 0 := by
  unfold fld nought
  rw [List.drop_replicate, List.take_replicate]
  congr 1
  omega
def cutSizes : List Nat := [100, 8, 8, 8, 12, 12, 8, 1, 100, 6, 1, 1, 32, 32, 8, 8, 155, 12]
/-- The two bodies, in words of lists alone. -/
theorem bodies (r li us gr a n0 n1 n2 n3 n4 n5 n6 : List Int) (ki : Int) (hr : r.length ≤ 100) (hli : li.length ≤ 100) (hus : us.length ≤ 32) (hgr : gr.length ≤ 32) (ha : a.length ≤ 155)
    (h0 : n0.length = 8) (h1 : n1.length = 8) (h2 : n2.length = 8) (h3 : n3.length = 12) (h4 : n4.length = 12) (h5 : n5.length = 8) (h6 : n6.length = 8) :
    patch (patch (patch (patch (patch (patch (patch (patch (patch (patch (patch (patch (patch (patch (patch (patch nought 0 (r ++ List.replicate (100 - r.length) 0)) 157 (li ++ List.replicate (100 - li.length) 0)) 257 [117, 115, 116, 97, 114, 0]) 265 (us ++ List.replicate (32 - us.length) 0)) 297 (gr ++ List.replicate (32 - gr.length) 0)) 345 (a ++ List.replicate (155 - a.length) 0)) 100 n0) 108 n1) 116 n2) 124 n3) 136 n4) 329 n5) 337 n6) 156 [ki]) 263 [48]) 264 [48] =
    patch (patch (patch (patch (patch (patch (patch (patch (patch (patch (patch (patch (patch (patch nought 0 r) 157 li) 257 [117, 115, 116, 97, 114, 0, 48, 48]) 265 us) 297 gr) 345 a) 156 [ki]) 100 n0) 108 n1) 116 n2) 124 n3) 136 n4) 329 n5) 337 n6 := by
  have hlit : ([117, 115, 116, 97, 114, 0, 48, 48] : List Int).length = 8 := rfl
  have hlit6 : ([117, 115, 116, 97, 114, 0] : List Int).length = 6 := rfl
  have hk1 : ([ki] : List Int).length = 1 := rfl
  have h48 : ([48] : List Int).length = 1 := rfl
  have hn : nought.length = 512 := by unfold nought; rw [List.length_replicate]
  have hrz : (r ++ List.replicate (100 - r.length) 0).length = 100 := by rw [List.length_append, List.length_replicate]; omega
  have hlz : (li ++ List.replicate (100 - li.length) 0).length = 100 := by rw [List.length_append, List.length_replicate]; omega
  have huz : (us ++ List.replicate (32 - us.length) 0).length = 32 := by rw [List.length_append, List.length_replicate]; omega
  have hgz : (gr ++ List.replicate (32 - gr.length) 0).length = 32 := by rw [List.length_append, List.length_replicate]; omega
  have haz : (a ++ List.replicate (155 - a.length) 0).length = 155 := by rw [List.length_append, List.length_replicate]; omega
  generalize hR : r ++ List.replicate (100 - r.length) 0 = rz at *
  generalize hL : li ++ List.replicate (100 - li.length) 0 = lz at *
  generalize hU : us ++ List.replicate (32 - us.length) 0 = uz at *
  generalize hG : gr ++ List.replicate (32 - gr.length) 0 = gz at *
  generalize hA : a ++ List.replicate (155 - a.length) 0 = az at *
  generalize hl8 : ([117, 115, 116, 97, 114, 0, 48, 48] : List Int) = lit8 at *
  generalize hl6 : ([117, 115, 116, 97, 114, 0] : List Int) = lit6 at *
  have step : ∀ {l : List Int} {o : Nat} {b : List Int}, l.length = 512 → o + b.length ≤ 512 → (patch l o b).length = 512 := fun {l o b} hl hb => by rw [patch_length (by omega), hl]
  obtain ⟨p1, ep1, lp1⟩ : ∃ x, x = patch nought 0 rz ∧ x.length = 512 := ⟨_, rfl, step hn (by omega)⟩
  rw [← ep1]
  obtain ⟨p2, ep2, lp2⟩ : ∃ x, x = patch p1 157 lz ∧ x.length = 512 := ⟨_, rfl, step lp1 (by omega)⟩
  rw [← ep2]
  obtain ⟨p3, ep3, lp3⟩ : ∃ x, x = patch p2 257 lit6 ∧ x.length = 512 := ⟨_, rfl, step lp2 (by omega)⟩
  rw [← ep3]
  obtain ⟨p4, ep4, lp4⟩ : ∃ x, x = patch p3 265 uz ∧ x.length = 512 := ⟨_, rfl, step lp3 (by omega)⟩
  rw [← ep4]
  obtain ⟨p5, ep5, lp5⟩ : ∃ x, x = patch p4 297 gz ∧ x.length = 512 := ⟨_, rfl, step lp4 (by omega)⟩
  rw [← ep5]
  obtain ⟨p6, ep6, lp6⟩ : ∃ x, x = patch p5 345 az ∧ x.length = 512 := ⟨_, rfl, step lp5 (by omega)⟩
  rw [← ep6]
  obtain ⟨p7, ep7, lp7⟩ : ∃ x, x = patch p6 100 n0 ∧ x.length = 512 := ⟨_, rfl, step lp6 (by omega)⟩
  rw [← ep7]
  obtain ⟨p8, ep8, lp8⟩ : ∃ x, x = patch p7 108 n1 ∧ x.length = 512 := ⟨_, rfl, step lp7 (by omega)⟩
  rw [← ep8]
  obtain ⟨p9, ep9, lp9⟩ : ∃ x, x = patch p8 116 n2 ∧ x.length = 512 := ⟨_, rfl, step lp8 (by omega)⟩
  rw [← ep9]
  obtain ⟨p10, ep10, lp10⟩ : ∃ x, x = patch p9 124 n3 ∧ x.length = 512 := ⟨_, rfl, step lp9 (by omega)⟩
  rw [← ep10]
  obtain ⟨p11, ep11, lp11⟩ : ∃ x, x = patch p10 136 n4 ∧ x.length = 512 := ⟨_, rfl, step lp10 (by omega)⟩
  rw [← ep11]
  obtain ⟨p12, ep12, lp12⟩ : ∃ x, x = patch p11 329 n5 ∧ x.length = 512 := ⟨_, rfl, step lp11 (by omega)⟩
  rw [← ep12]
  obtain ⟨p13, ep13, lp13⟩ : ∃ x, x = patch p12 337 n6 ∧ x.length = 512 := ⟨_, rfl, step lp12 (by omega)⟩
  rw [← ep13]
  obtain ⟨p14, ep14, lp14⟩ : ∃ x, x = patch p13 156 [ki] ∧ x.length = 512 := ⟨_, rfl, step lp13 (by omega)⟩
  rw [← ep14]
  obtain ⟨p15, ep15, lp15⟩ : ∃ x, x = patch p14 263 [48] ∧ x.length = 512 := ⟨_, rfl, step lp14 (by omega)⟩
  rw [← ep15]
  obtain ⟨p16, ep16, lp16⟩ : ∃ x, x = patch p15 264 [48] ∧ x.length = 512 := ⟨_, rfl, step lp15 (by omega)⟩
  rw [← ep16]
  obtain ⟨q1, eq1, lq1⟩ : ∃ x, x = patch nought 0 r ∧ x.length = 512 := ⟨_, rfl, step hn (by omega)⟩
  rw [← eq1]
  obtain ⟨q2, eq2, lq2⟩ : ∃ x, x = patch q1 157 li ∧ x.length = 512 := ⟨_, rfl, step lq1 (by omega)⟩
  rw [← eq2]
  obtain ⟨q3, eq3, lq3⟩ : ∃ x, x = patch q2 257 lit8 ∧ x.length = 512 := ⟨_, rfl, step lq2 (by omega)⟩
  rw [← eq3]
  obtain ⟨q4, eq4, lq4⟩ : ∃ x, x = patch q3 265 us ∧ x.length = 512 := ⟨_, rfl, step lq3 (by omega)⟩
  rw [← eq4]
  obtain ⟨q5, eq5, lq5⟩ : ∃ x, x = patch q4 297 gr ∧ x.length = 512 := ⟨_, rfl, step lq4 (by omega)⟩
  rw [← eq5]
  obtain ⟨q6, eq6, lq6⟩ : ∃ x, x = patch q5 345 a ∧ x.length = 512 := ⟨_, rfl, step lq5 (by omega)⟩
  rw [← eq6]
  obtain ⟨q7, eq7, lq7⟩ : ∃ x, x = patch q6 156 [ki] ∧ x.length = 512 := ⟨_, rfl, step lq6 (by omega)⟩
  rw [← eq7]
  obtain ⟨q8, eq8, lq8⟩ : ∃ x, x = patch q7 100 n0 ∧ x.length = 512 := ⟨_, rfl, step lq7 (by omega)⟩
  rw [← eq8]
  obtain ⟨q9, eq9, lq9⟩ : ∃ x, x = patch q8 108 n1 ∧ x.length = 512 := ⟨_, rfl, step lq8 (by omega)⟩
  rw [← eq9]
  obtain ⟨q10, eq10, lq10⟩ : ∃ x, x = patch q9 116 n2 ∧ x.length = 512 := ⟨_, rfl, step lq9 (by omega)⟩
  rw [← eq10]
  obtain ⟨q11, eq11, lq11⟩ : ∃ x, x = patch q10 124 n3 ∧ x.length = 512 := ⟨_, rfl, step lq10 (by omega)⟩
  rw [← eq11]
  obtain ⟨q12, eq12, lq12⟩ : ∃ x, x = patch q11 136 n4 ∧ x.length = 512 := ⟨_, rfl, step lq11 (by omega)⟩
  rw [← eq12]
  obtain ⟨q13, eq13, lq13⟩ : ∃ x, x = patch q12 329 n5 ∧ x.length = 512 := ⟨_, rfl, step lq12 (by omega)⟩
  rw [← eq13]
  obtain ⟨q14, eq14, lq14⟩ : ∃ x, x = patch q13 337 n6 ∧ x.length = 512 := ⟨_, rfl, step lq13 (by omega)⟩
  rw [← eq14]
  have F0 : fld p16 0 100 = fld q14 0 100 := by
    have A : fld p16 0 100 = rz := by rw [ep16, fld_other (by omega) (by omega), ep15, fld_other (by omega) (by omega), ep14, fld_other (by omega) (by omega), ep13, fld_other (by omega) (by omega), ep12, fld_other (by omega) (by omega), ep11, fld_other (by omega) (by omega), ep10, fld_other (by omega) (by omega), ep9, fld_other (by omega) (by omega), ep8, fld_other (by omega) (by omega), ep7, fld_other (by omega) (by omega), ep6, fld_other (by omega) (by omega), ep5, fld_other (by omega) (by omega), ep4, fld_other (by omega) (by omega), ep3, fld_other (by omega) (by omega), ep2, fld_other (by omega) (by omega), ep1, fld_same hrz (by omega)]
    have B : fld q14 0 100 = rz := by rw [eq14, fld_other (by omega) (by omega), eq13, fld_other (by omega) (by omega), eq12, fld_other (by omega) (by omega), eq11, fld_other (by omega) (by omega), eq10, fld_other (by omega) (by omega), eq9, fld_other (by omega) (by omega), eq8, fld_other (by omega) (by omega), eq7, fld_other (by omega) (by omega), eq6, fld_other (by omega) (by omega), eq5, fld_other (by omega) (by omega), eq4, fld_other (by omega) (by omega), eq3, fld_other (by omega) (by omega), eq2, fld_other (by omega) (by omega), eq1, fld_txt (n := 100) (by omega) (by omega) (by rw [fld_nought 0 100 (by omega)]), hR]
    rw [A, B]
  have F1 : fld p16 100 8 = fld q14 100 8 := by
    have A : fld p16 100 8 = n0 := by rw [ep16, fld_other (by omega) (by omega), ep15, fld_other (by omega) (by omega), ep14, fld_other (by omega) (by omega), ep13, fld_other (by omega) (by omega), ep12, fld_other (by omega) (by omega), ep11, fld_other (by omega) (by omega), ep10, fld_other (by omega) (by omega), ep9, fld_other (by omega) (by omega), ep8, fld_other (by omega) (by omega), ep7, fld_same h0 (by omega)]
    have B : fld q14 100 8 = n0 := by rw [eq14, fld_other (by omega) (by omega), eq13, fld_other (by omega) (by omega), eq12, fld_other (by omega) (by omega), eq11, fld_other (by omega) (by omega), eq10, fld_other (by omega) (by omega), eq9, fld_other (by omega) (by omega), eq8, fld_same h0 (by omega)]
    rw [A, B]
  have F2 : fld p16 108 8 = fld q14 108 8 := by
    have A : fld p16 108 8 = n1 := by rw [ep16, fld_other (by omega) (by omega), ep15, fld_other (by omega) (by omega), ep14, fld_other (by omega) (by omega), ep13, fld_other (by omega) (by omega), ep12, fld_other (by omega) (by omega), ep11, fld_other (by omega) (by omega), ep10, fld_other (by omega) (by omega), ep9, fld_other (by omega) (by omega), ep8, fld_same h1 (by omega)]
    have B : fld q14 108 8 = n1 := by rw [eq14, fld_other (by omega) (by omega), eq13, fld_other (by omega) (by omega), eq12, fld_other (by omega) (by omega), eq11, fld_other (by omega) (by omega), eq10, fld_other (by omega) (by omega), eq9, fld_same h1 (by omega)]
    rw [A, B]
  have F3 : fld p16 116 8 = fld q14 116 8 := by
    have A : fld p16 116 8 = n2 := by rw [ep16, fld_other (by omega) (by omega), ep15, fld_other (by omega) (by omega), ep14, fld_other (by omega) (by omega), ep13, fld_other (by omega) (by omega), ep12, fld_other (by omega) (by omega), ep11, fld_other (by omega) (by omega), ep10, fld_other (by omega) (by omega), ep9, fld_same h2 (by omega)]
    have B : fld q14 116 8 = n2 := by rw [eq14, fld_other (by omega) (by omega), eq13, fld_other (by omega) (by omega), eq12, fld_other (by omega) (by omega), eq11, fld_other (by omega) (by omega), eq10, fld_same h2 (by omega)]
    rw [A, B]
  have F4 : fld p16 124 12 = fld q14 124 12 := by
    have A : fld p16 124 12 = n3 := by rw [ep16, fld_other (by omega) (by omega), ep15, fld_other (by omega) (by omega), ep14, fld_other (by omega) (by omega), ep13, fld_other (by omega) (by omega), ep12, fld_other (by omega) (by omega), ep11, fld_other (by omega) (by omega), ep10, fld_same h3 (by omega)]
    have B : fld q14 124 12 = n3 := by rw [eq14, fld_other (by omega) (by omega), eq13, fld_other (by omega) (by omega), eq12, fld_other (by omega) (by omega), eq11, fld_same h3 (by omega)]
    rw [A, B]
  have F5 : fld p16 136 12 = fld q14 136 12 := by
    have A : fld p16 136 12 = n4 := by rw [ep16, fld_other (by omega) (by omega), ep15, fld_other (by omega) (by omega), ep14, fld_other (by omega) (by omega), ep13, fld_other (by omega) (by omega), ep12, fld_other (by omega) (by omega), ep11, fld_same h4 (by omega)]
    have B : fld q14 136 12 = n4 := by rw [eq14, fld_other (by omega) (by omega), eq13, fld_other (by omega) (by omega), eq12, fld_same h4 (by omega)]
    rw [A, B]
  have F6 : fld p16 148 8 = fld q14 148 8 := by
    have A : fld p16 148 8 = List.replicate 8 0 := by rw [ep16, fld_other (by omega) (by omega), ep15, fld_other (by omega) (by omega), ep14, fld_other (by omega) (by omega), ep13, fld_other (by omega) (by omega), ep12, fld_other (by omega) (by omega), ep11, fld_other (by omega) (by omega), ep10, fld_other (by omega) (by omega), ep9, fld_other (by omega) (by omega), ep8, fld_other (by omega) (by omega), ep7, fld_other (by omega) (by omega), ep6, fld_other (by omega) (by omega), ep5, fld_other (by omega) (by omega), ep4, fld_other (by omega) (by omega), ep3, fld_other (by omega) (by omega), ep2, fld_other (by omega) (by omega), ep1, fld_other (by omega) (by omega), fld_nought 148 8 (by omega)]
    have B : fld q14 148 8 = List.replicate 8 0 := by rw [eq14, fld_other (by omega) (by omega), eq13, fld_other (by omega) (by omega), eq12, fld_other (by omega) (by omega), eq11, fld_other (by omega) (by omega), eq10, fld_other (by omega) (by omega), eq9, fld_other (by omega) (by omega), eq8, fld_other (by omega) (by omega), eq7, fld_other (by omega) (by omega), eq6, fld_other (by omega) (by omega), eq5, fld_other (by omega) (by omega), eq4, fld_other (by omega) (by omega), eq3, fld_other (by omega) (by omega), eq2, fld_other (by omega) (by omega), eq1, fld_other (by omega) (by omega), fld_nought 148 8 (by omega)]
    rw [A, B]
  have F7 : fld p16 156 1 = fld q14 156 1 := by
    have A : fld p16 156 1 = [ki] := by rw [ep16, fld_other (by omega) (by omega), ep15, fld_other (by omega) (by omega), ep14, fld_same hk1 (by omega)]
    have B : fld q14 156 1 = [ki] := by rw [eq14, fld_other (by omega) (by omega), eq13, fld_other (by omega) (by omega), eq12, fld_other (by omega) (by omega), eq11, fld_other (by omega) (by omega), eq10, fld_other (by omega) (by omega), eq9, fld_other (by omega) (by omega), eq8, fld_other (by omega) (by omega), eq7, fld_same hk1 (by omega)]
    rw [A, B]
  have F8 : fld p16 157 100 = fld q14 157 100 := by
    have A : fld p16 157 100 = lz := by rw [ep16, fld_other (by omega) (by omega), ep15, fld_other (by omega) (by omega), ep14, fld_other (by omega) (by omega), ep13, fld_other (by omega) (by omega), ep12, fld_other (by omega) (by omega), ep11, fld_other (by omega) (by omega), ep10, fld_other (by omega) (by omega), ep9, fld_other (by omega) (by omega), ep8, fld_other (by omega) (by omega), ep7, fld_other (by omega) (by omega), ep6, fld_other (by omega) (by omega), ep5, fld_other (by omega) (by omega), ep4, fld_other (by omega) (by omega), ep3, fld_other (by omega) (by omega), ep2, fld_same hlz (by omega)]
    have B : fld q14 157 100 = lz := by rw [eq14, fld_other (by omega) (by omega), eq13, fld_other (by omega) (by omega), eq12, fld_other (by omega) (by omega), eq11, fld_other (by omega) (by omega), eq10, fld_other (by omega) (by omega), eq9, fld_other (by omega) (by omega), eq8, fld_other (by omega) (by omega), eq7, fld_other (by omega) (by omega), eq6, fld_other (by omega) (by omega), eq5, fld_other (by omega) (by omega), eq4, fld_other (by omega) (by omega), eq3, fld_other (by omega) (by omega), eq2, fld_txt (n := 100) (by omega) (by omega) (by rw [eq1, fld_other (by omega) (by omega), fld_nought 157 100 (by omega)]), hL]
    rw [A, B]
  have F9 : fld p16 257 6 = fld q14 257 6 := by
    have A : fld p16 257 6 = lit6 := by rw [ep16, fld_other (by omega) (by omega), ep15, fld_other (by omega) (by omega), ep14, fld_other (by omega) (by omega), ep13, fld_other (by omega) (by omega), ep12, fld_other (by omega) (by omega), ep11, fld_other (by omega) (by omega), ep10, fld_other (by omega) (by omega), ep9, fld_other (by omega) (by omega), ep8, fld_other (by omega) (by omega), ep7, fld_other (by omega) (by omega), ep6, fld_other (by omega) (by omega), ep5, fld_other (by omega) (by omega), ep4, fld_other (by omega) (by omega), ep3, fld_same hlit6 (by omega)]
    have B : fld q14 257 6 = (lit8.drop (257 - 257)).take 6 := by rw [eq14, fld_other (by omega) (by omega), eq13, fld_other (by omega) (by omega), eq12, fld_other (by omega) (by omega), eq11, fld_other (by omega) (by omega), eq10, fld_other (by omega) (by omega), eq9, fld_other (by omega) (by omega), eq8, fld_other (by omega) (by omega), eq7, fld_other (by omega) (by omega), eq6, fld_other (by omega) (by omega), eq5, fld_other (by omega) (by omega), eq4, fld_other (by omega) (by omega), eq3, fld_in (by omega) (by omega) (by omega)]
    rw [A, B]; subst hl6 hl8; rfl
  have F10 : fld p16 263 1 = fld q14 263 1 := by
    have A : fld p16 263 1 = [48] := by rw [ep16, fld_other (by omega) (by omega), ep15, fld_same h48 (by omega)]
    have B : fld q14 263 1 = (lit8.drop (263 - 257)).take 1 := by rw [eq14, fld_other (by omega) (by omega), eq13, fld_other (by omega) (by omega), eq12, fld_other (by omega) (by omega), eq11, fld_other (by omega) (by omega), eq10, fld_other (by omega) (by omega), eq9, fld_other (by omega) (by omega), eq8, fld_other (by omega) (by omega), eq7, fld_other (by omega) (by omega), eq6, fld_other (by omega) (by omega), eq5, fld_other (by omega) (by omega), eq4, fld_other (by omega) (by omega), eq3, fld_in (by omega) (by omega) (by omega)]
    rw [A, B]; subst hl6 hl8; rfl
  have F11 : fld p16 264 1 = fld q14 264 1 := by
    have A : fld p16 264 1 = [48] := by rw [ep16, fld_same h48 (by omega)]
    have B : fld q14 264 1 = (lit8.drop (264 - 257)).take 1 := by rw [eq14, fld_other (by omega) (by omega), eq13, fld_other (by omega) (by omega), eq12, fld_other (by omega) (by omega), eq11, fld_other (by omega) (by omega), eq10, fld_other (by omega) (by omega), eq9, fld_other (by omega) (by omega), eq8, fld_other (by omega) (by omega), eq7, fld_other (by omega) (by omega), eq6, fld_other (by omega) (by omega), eq5, fld_other (by omega) (by omega), eq4, fld_other (by omega) (by omega), eq3, fld_in (by omega) (by omega) (by omega)]
    rw [A, B]; subst hl6 hl8; rfl
  have F12 : fld p16 265 32 = fld q14 265 32 := by
    have A : fld p16 265 32 = uz := by rw [ep16, fld_other (by omega) (by omega), ep15, fld_other (by omega) (by omega), ep14, fld_other (by omega) (by omega), ep13, fld_other (by omega) (by omega), ep12, fld_other (by omega) (by omega), ep11, fld_other (by omega) (by omega), ep10, fld_other (by omega) (by omega), ep9, fld_other (by omega) (by omega), ep8, fld_other (by omega) (by omega), ep7, fld_other (by omega) (by omega), ep6, fld_other (by omega) (by omega), ep5, fld_other (by omega) (by omega), ep4, fld_same huz (by omega)]
    have B : fld q14 265 32 = uz := by rw [eq14, fld_other (by omega) (by omega), eq13, fld_other (by omega) (by omega), eq12, fld_other (by omega) (by omega), eq11, fld_other (by omega) (by omega), eq10, fld_other (by omega) (by omega), eq9, fld_other (by omega) (by omega), eq8, fld_other (by omega) (by omega), eq7, fld_other (by omega) (by omega), eq6, fld_other (by omega) (by omega), eq5, fld_other (by omega) (by omega), eq4, fld_txt (n := 32) (by omega) (by omega) (by rw [eq3, fld_other (by omega) (by omega), eq2, fld_other (by omega) (by omega), eq1, fld_other (by omega) (by omega), fld_nought 265 32 (by omega)]), hU]
    rw [A, B]
  have F13 : fld p16 297 32 = fld q14 297 32 := by
    have A : fld p16 297 32 = gz := by rw [ep16, fld_other (by omega) (by omega), ep15, fld_other (by omega) (by omega), ep14, fld_other (by omega) (by omega), ep13, fld_other (by omega) (by omega), ep12, fld_other (by omega) (by omega), ep11, fld_other (by omega) (by omega), ep10, fld_other (by omega) (by omega), ep9, fld_other (by omega) (by omega), ep8, fld_other (by omega) (by omega), ep7, fld_other (by omega) (by omega), ep6, fld_other (by omega) (by omega), ep5, fld_same hgz (by omega)]
    have B : fld q14 297 32 = gz := by rw [eq14, fld_other (by omega) (by omega), eq13, fld_other (by omega) (by omega), eq12, fld_other (by omega) (by omega), eq11, fld_other (by omega) (by omega), eq10, fld_other (by omega) (by omega), eq9, fld_other (by omega) (by omega), eq8, fld_other (by omega) (by omega), eq7, fld_other (by omega) (by omega), eq6, fld_other (by omega) (by omega), eq5, fld_txt (n := 32) (by omega) (by omega) (by rw [eq4, fld_other (by omega) (by omega), eq3, fld_other (by omega) (by omega), eq2, fld_other (by omega) (by omega), eq1, fld_other (by omega) (by omega), fld_nought 297 32 (by omega)]), hG]
    rw [A, B]
  have F14 : fld p16 329 8 = fld q14 329 8 := by
    have A : fld p16 329 8 = n5 := by rw [ep16, fld_other (by omega) (by omega), ep15, fld_other (by omega) (by omega), ep14, fld_other (by omega) (by omega), ep13, fld_other (by omega) (by omega), ep12, fld_same h5 (by omega)]
    have B : fld q14 329 8 = n5 := by rw [eq14, fld_other (by omega) (by omega), eq13, fld_same h5 (by omega)]
    rw [A, B]
  have F15 : fld p16 337 8 = fld q14 337 8 := by
    have A : fld p16 337 8 = n6 := by rw [ep16, fld_other (by omega) (by omega), ep15, fld_other (by omega) (by omega), ep14, fld_other (by omega) (by omega), ep13, fld_same h6 (by omega)]
    have B : fld q14 337 8 = n6 := by rw [eq14, fld_same h6 (by omega)]
    rw [A, B]
  have F16 : fld p16 345 155 = fld q14 345 155 := by
    have A : fld p16 345 155 = az := by rw [ep16, fld_other (by omega) (by omega), ep15, fld_other (by omega) (by omega), ep14, fld_other (by omega) (by omega), ep13, fld_other (by omega) (by omega), ep12, fld_other (by omega) (by omega), ep11, fld_other (by omega) (by omega), ep10, fld_other (by omega) (by omega), ep9, fld_other (by omega) (by omega), ep8, fld_other (by omega) (by omega), ep7, fld_other (by omega) (by omega), ep6, fld_same haz (by omega)]
    have B : fld q14 345 155 = az := by rw [eq14, fld_other (by omega) (by omega), eq13, fld_other (by omega) (by omega), eq12, fld_other (by omega) (by omega), eq11, fld_other (by omega) (by omega), eq10, fld_other (by omega) (by omega), eq9, fld_other (by omega) (by omega), eq8, fld_other (by omega) (by omega), eq7, fld_other (by omega) (by omega), eq6, fld_txt (n := 155) (by omega) (by omega) (by rw [eq5, fld_other (by omega) (by omega), eq4, fld_other (by omega) (by omega), eq3, fld_other (by omega) (by omega), eq2, fld_other (by omega) (by omega), eq1, fld_other (by omega) (by omega), fld_nought 345 155 (by omega)]), hA]
    rw [A, B]
  have F17 : fld p16 500 12 = fld q14 500 12 := by
    have A : fld p16 500 12 = List.replicate 12 0 := by rw [ep16, fld_other (by omega) (by omega), ep15, fld_other (by omega) (by omega), ep14, fld_other (by omega) (by omega), ep13, fld_other (by omega) (by omega), ep12, fld_other (by omega) (by omega), ep11, fld_other (by omega) (by omega), ep10, fld_other (by omega) (by omega), ep9, fld_other (by omega) (by omega), ep8, fld_other (by omega) (by omega), ep7, fld_other (by omega) (by omega), ep6, fld_other (by omega) (by omega), ep5, fld_other (by omega) (by omega), ep4, fld_other (by omega) (by omega), ep3, fld_other (by omega) (by omega), ep2, fld_other (by omega) (by omega), ep1, fld_other (by omega) (by omega), fld_nought 500 12 (by omega)]
    have B : fld q14 500 12 = List.replicate 12 0 := by rw [eq14, fld_other (by omega) (by omega), eq13, fld_other (by omega) (by omega), eq12, fld_other (by omega) (by omega), eq11, fld_other (by omega) (by omega), eq10, fld_other (by omega) (by omega), eq9, fld_other (by omega) (by omega), eq8, fld_other (by omega) (by omega), eq7, fld_other (by omega) (by omega), eq6, fld_other (by omega) (by omega), eq5, fld_other (by omega) (by omega), eq4, fld_other (by omega) (by omega), eq3, fld_other (by omega) (by omega), eq2, fld_other (by omega) (by omega), eq1, fld_other (by omega) (by omega), fld_nought 500 12 (by omega)]
    rw [A, B]
  have hd := eq_flds (l := p16) (m := q14) cutSizes 0 (by rw [lp16, lq14]) (by rw [lp16]; rfl) (fun k hk => by
    match k, hk with
    | 0, _ => exact F0
    | 1, _ => exact F1
    | 2, _ => exact F2
    | 3, _ => exact F3
    | 4, _ => exact F4
    | 5, _ => exact F5
    | 6, _ => exact F6
    | 7, _ => exact F7
    | 8, _ => exact F8
    | 9, _ => exact F9
    | 10, _ => exact F10
    | 11, _ => exact F11
    | 12, _ => exact F12
    | 13, _ => exact F13
    | 14, _ => exact F14
    | 15, _ => exact F15
    | 16, _ => exact F16
    | 17, _ => exact F17
    | k + 18, hk => exact absurd hk (by simp [cutSizes]))
  rwa [List.drop_zero, List.drop_zero] at hd
end Go.Proofs.YtiioiikcjaiajaaDoor.My

/- A struct of 12 one-cell fields by value, opened (printed by agg.py). -/
namespace Go.Proofs.YtiioiikcjaiajaaDoor.My
open Go.ChangeShapes Go.WideShapes Go.RowKit Go.Deep Go.WideElems Go.Maps Go.Joins
set_option linter.unusedVariables false
set_option linter.unusedSimpArgs false
set_option maxHeartbeats 4000000
variable {H : Type} {enc : TypeId × Value → H} {P : Program} {w : World} {base : Nat} {spare : Nat → Bool} {held : Bool}
theorem array12 {α : Type} {cs : Array α} (h : cs.size = 12) : ∃ c0 c1 c2 c3 c4 c5 c6 c7 c8 c9 c10 c11, cs = #[c0, c1, c2, c3, c4, c5, c6, c7, c8, c9, c10, c11] := by
  obtain ⟨l⟩ := cs
  match l, h with
  | [c0, c1, c2, c3, c4, c5, c6, c7, c8, c9, c10, c11], _ => exact ⟨c0, c1, c2, c3, c4, c5, c6, c7, c8, c9, c10, c11, rfl⟩
theorem list12 {α : Type} {l : List α} (h : l.length = 12) : ∃ c0 c1 c2 c3 c4 c5 c6 c7 c8 c9 c10 c11, l = [c0, c1, c2, c3, c4, c5, c6, c7, c8, c9, c10, c11] := by
  match l, h with
  | [c0, c1, c2, c3, c4, c5, c6, c7, c8, c9, c10, c11], _ => exact ⟨c0, c1, c2, c3, c4, c5, c6, c7, c8, c9, c10, c11, rfl⟩
theorem open_agg12 {r : Reach} {b0 : Nat} {t : TypeId} {f0 f1 f2 f3 f4 f5 f6 f7 f8 f9 f10 f11 : Field} {v : Value} {d : DataW H} {p : List MemPlace} (hs : P.underlying t = some (.struct #[f0, f1, f2, f3, f4, f5, f6, f7, f8, f9, f10, f11])) (hone : oneCellFields P #[f0, f1, f2, f3, f4, f5, f6, f7, f8, f9, f10, f11] = true) (hC : P.cellsOf t = 12)
    (hv : Value.okWide P w r b0 t v) (h : DataW.Trod enc P w base spare held t v d p) :
    ∃ (v0 v1 v2 v3 v4 v5 v6 v7 v8 v9 v10 v11 : Value) (y0 y1 y2 y3 y4 y5 y6 y7 y8 y9 y10 y11 : DataW H × List MemPlace) (n : Nat), v = .agg #[v0, v1, v2, v3, v4, v5, v6, v7, v8, v9, v10, v11] ∧ d = .agg [y0.1, y1.1, y2.1, y3.1, y4.1, y5.1, y6.1, y7.1, y8.1, y9.1, y10.1, y11.1] ∧ p = y0.2 ++ (y1.2 ++ (y2.2 ++ (y3.2 ++ (y4.2 ++ (y5.2 ++ (y6.2 ++ (y7.2 ++ (y8.2 ++ (y9.2 ++ (y10.2 ++ y11.2)))))))))) ∧
      DataW.trod enc P w base spare held n f0.type [v0] = some y0 ∧ DataW.trod enc P w base spare held n f1.type [v1] = some y1 ∧ DataW.trod enc P w base spare held n f2.type [v2] = some y2 ∧ DataW.trod enc P w base spare held n f3.type [v3] = some y3 ∧ DataW.trod enc P w base spare held n f4.type [v4] = some y4 ∧ DataW.trod enc P w base spare held n f5.type [v5] = some y5 ∧ DataW.trod enc P w base spare held n f6.type [v6] = some y6 ∧ DataW.trod enc P w base spare held n f7.type [v7] = some y7 ∧ DataW.trod enc P w base spare held n f8.type [v8] = some y8 ∧ DataW.trod enc P w base spare held n f9.type [v9] = some y9 ∧ DataW.trod enc P w base spare held n f10.type [v10] = some y10 ∧ DataW.trod enc P w base spare held n f11.type [v11] = some y11 := by
  obtain ⟨cs, rfl, hsz⟩ := okWide_struct hs hv
  obtain ⟨c0, c1, c2, c3, c4, c5, c6, c7, c8, c9, c10, c11, rfl⟩ := array12 (hsz.trans hC)
  obtain ⟨fuel, hf⟩ := h
  obtain ⟨xs, n, _, hx, _, hlen, hfs⟩ := DataW.trod_struct hs hf
  obtain ⟨y0, y1, y2, y3, y4, y5, y6, y7, y8, y9, y10, y11, rfl⟩ := list12 hlen
  simp only [Prod.mk.injEq] at hx
  obtain ⟨o0, k0⟩ := hone_of hone 0 f0 rfl
  have h0 := hfs 0 f0 rfl
  obtain ⟨o1, k1⟩ := hone_of hone 1 f1 rfl
  have h1 := hfs 1 f1 rfl
  obtain ⟨o2, k2⟩ := hone_of hone 2 f2 rfl
  have h2 := hfs 2 f2 rfl
  obtain ⟨o3, k3⟩ := hone_of hone 3 f3 rfl
  have h3 := hfs 3 f3 rfl
  obtain ⟨o4, k4⟩ := hone_of hone 4 f4 rfl
  have h4 := hfs 4 f4 rfl
  obtain ⟨o5, k5⟩ := hone_of hone 5 f5 rfl
  have h5 := hfs 5 f5 rfl
  obtain ⟨o6, k6⟩ := hone_of hone 6 f6 rfl
  have h6 := hfs 6 f6 rfl
  obtain ⟨o7, k7⟩ := hone_of hone 7 f7 rfl
  have h7 := hfs 7 f7 rfl
  obtain ⟨o8, k8⟩ := hone_of hone 8 f8 rfl
  have h8 := hfs 8 f8 rfl
  obtain ⟨o9, k9⟩ := hone_of hone 9 f9 rfl
  have h9 := hfs 9 f9 rfl
  obtain ⟨o10, k10⟩ := hone_of hone 10 f10 rfl
  have h10 := hfs 10 f10 rfl
  obtain ⟨o11, k11⟩ := hone_of hone 11 f11 rfl
  have h11 := hfs 11 f11 rfl
  exact ⟨c0, c1, c2, c3, c4, c5, c6, c7, c8, c9, c10, c11, y0, y1, y2, y3, y4, y5, y6, y7, y8, y9, y10, y11, n, rfl, by simpa using hx.1, by simpa using hx.2, by simpa [Value.cells, o0, k0] using h0, by simpa [Value.cells, o1, k1] using h1, by simpa [Value.cells, o2, k2] using h2, by simpa [Value.cells, o3, k3] using h3, by simpa [Value.cells, o4, k4] using h4, by simpa [Value.cells, o5, k5] using h5, by simpa [Value.cells, o6, k6] using h6, by simpa [Value.cells, o7, k7] using h7, by simpa [Value.cells, o8, k8] using h8, by simpa [Value.cells, o9, k9] using h9, by simpa [Value.cells, o10, k10] using h10, by simpa [Value.cells, o11, k11] using h11⟩
end Go.Proofs.YtiioiikcjaiajaaDoor.My

/- The walk of crossdocknum's Num. -/
set_option maxRecDepth 100000
namespace Go.Proofs.YtiioiikcjaiajaaDoor.My
open Go.RowKit Go.Proofs.YtiioiikcjaiajaaDoorW.PrintWords Go.Proofs.YtiioiikcjaiajaaDoorW.PrintLast Go.Proofs.YtiioiikcjaiajaaDoorW.PrintMore

def numE : Option Int → Int
  | none => 0
  | some c => c
theorem num_calls (e : Option Int) (w : World) (h : ∀ c, e = some c → c ≠ 0) : Calls Tryd.prog 11 #[errV e] w fun r w' => r = .returned (.int .i64 (numE e)) ∧ w = w' := by
  cases e with
  | none =>
    show Calls Tryd.prog 11 #[.nilIface] w _
    go_enter Tryd.func11, Tryd.ntmps11
    go_wp2
    go_ret
    exact ⟨rfl, rfl⟩
  | some c =>
    have h1 : (c == 0) = false := beq_eq_false_iff_ne.2 (h c rfl)
    have h2 : (c != 0) = true := bne_iff_ne.2 (h c rfl)
    have hta : ∀ (v : Value) (W : World), (Instr.typeAssert (.iface 42 v) 28 42 true).run Tryd.prog W = .ok (.tuple #[v, .bool true]) W := fun v W => by rfl
    clear h
    show Calls Tryd.prog 11 #[.iface 42 (.int .i64 c)] w _
    have u1 := Tryd.underlying28
    have u2 := Tryd.underlying42
    go_enter Tryd.func11, Tryd.ntmps11
    go_wp2
    go_ret
    exact ⟨rfl, rfl⟩
end Go.Proofs.YtiioiikcjaiajaaDoor.My

/- A world in which package head's fields and utf8's two tables hold what they are set to. -/
namespace Go.Proofs.YtiioiikcjaiajaaDoor.My
open Go.RowKit
noncomputable def laidWorld (os : Os) : World :=
  let w0 := World.holding Tryd.prog os ⟨#[], #[], []⟩
  let put (h : Array Obj) (g : Nat) (cs : Array Value) : Array Obj := h.modify g fun
    | .cells _ t frozen => .cells cs t frozen
    | o => o
  let two (h : Array Obj) (g : Nat) (a b : Int) : Array Obj := put h g #[.int .i64 a, .int .i64 b]
  let h1 := two (two (two (two (two (two (two w0.heap 0 0 100) 1 157 100) 2 257 6) 3 265 32) 4 297 32) 5 345 155) 6 148 8
  let h2 := two (two (two (two (two (two (two h1 7 100 8) 8 108 8) 9 116 8) 10 124 12) 11 136 12) 12 329 8) 13 337 8
  let h3 := put h2 15 (Go.Pinned.utf8FirstZ.map fun (z : Nat) => Value.int .u8 (z : Int)).toArray
  let h4 := put h3 16 ((([128, 191, 160, 191, 128, 159, 144, 191, 128, 143] ++ List.replicate 22 0) : List Int).map fun (z : Int) => Value.int .u8 z).toArray
  { w0 with heap := h4 }
end Go.Proofs.YtiioiikcjaiajaaDoor.My

/- HeadPuts: any head's bytes, and which names fit. The example, and the law's walk. -/
set_option maxRecDepth 100000
namespace Go.Proofs.YtiioiikcjaiajaaDoor.My
open Go.RowKit Go.Proofs.YtiioiikcjaiajaaDoor.Hd Go.Proofs.YtiioiikcjaiajaaDoor.Oct Go.Proofs.YtiioiikcjaiajaaDoor.PHeadPuts Go.Proofs.YtiioiikcjaiajaaDoor.MyDocA Go.Proofs.YtiioiikcjaiajaaDoor.MyDocFits Go.Proofs.YtiioiikcjaiajaaDoorW.PrintWords Go.Proofs.YtiioiikcjaiajaaDoorW.PrintLast Go.Proofs.YtiioiikcjaiajaaDoorW.PrintMore
set_option linter.unusedVariables false
set_option linter.unusedSimpArgs false

theorem txt_eq (s : ByteArray) (n : Nat) : txt s n = bs s ++ List.replicate (n - (bs s).length) 0 := by unfold txt; rw [bs_len]
theorem body_doc (h : Hd) (hS : Small h) (hE : headE h = none) : body h = putN h 7 (docT h) := by
  obtain ⟨_, hc, h1, h2, h3, _⟩ := headE_none hE
  obtain ⟨c1, c2⟩ := cut_sizes hc
  have hl : (putN h 7 (putT h 6 nought)).length = 512 := putN_len h _ (putT_len h (fun i => (text_ok h hS hE i).1) nought (by unfold nought; rw [List.length_replicate]) 6) 7
  have hl6 : (patch (patch (patch (patch (patch (patch nought 0 (bs (rest h.nm))) 157 (bs h.li)) 257 [117, 115, 116, 97, 114, 0, 48, 48]) 265 (bs h.us)) 297 (bs h.gr)) 345 (bs (aheadOf h.nm))).length = 512 := by
    have k1 := bs_len (rest h.nm)
    have k2 := bs_len h.li
    have k3 := bs_len h.us
    have k4 := bs_len h.gr
    have k5 := bs_len (aheadOf h.nm)
    have e0 : nought.length = 512 := by unfold nought; rw [List.length_replicate]
    have e1 : (patch nought 0 (bs (rest h.nm))).length = 512 := by rw [patch_length (by omega), e0]
    have e2 : (patch (patch nought 0 (bs (rest h.nm))) 157 (bs h.li)).length = 512 := by rw [patch_length (by omega), e1]
    have e3 : (patch (patch (patch nought 0 (bs (rest h.nm))) 157 (bs h.li)) 257 [117, 115, 116, 97, 114, 0, 48, 48]).length = 512 := by rw [patch_length (by rw [e2]; decide), e2]
    have e4 : (patch (patch (patch (patch nought 0 (bs (rest h.nm))) 157 (bs h.li)) 257 [117, 115, 116, 97, 114, 0, 48, 48]) 265 (bs h.us)).length = 512 := by rw [patch_length (by omega), e3]
    have e5 : (patch (patch (patch (patch (patch nought 0 (bs (rest h.nm))) 157 (bs h.li)) 257 [117, 115, 116, 97, 114, 0, 48, 48]) 265 (bs h.us)) 297 (bs h.gr)).length = 512 := by rw [patch_length (by omega), e4]
    rw [patch_length (by omega), e5]
  have hb := bodies (bs (rest h.nm)) (bs h.li) (bs h.us) (bs h.gr) (bs (aheadOf h.nm)) (putB 8 h.mo) (putB 8 h.ui) (putB 8 h.gi) (putB 12 h.si) (putB 12 h.ti) (putB 8 h.ma) (putB 8 h.mi) h.ki
    (by rw [bs_len]; omega) (by rw [bs_len]; omega) (by rw [bs_len]; omega) (by rw [bs_len]; omega) (by rw [bs_len]; omega)
    (putB_length 8 _ (by decide)) (putB_length 8 _ (by decide)) (putB_length 8 _ (by decide)) (putB_length 12 _ (by decide)) (putB_length 12 _ (by decide)) (putB_length 8 _ (by decide)) (putB_length 8 _ (by decide))
  rw [← txt_eq, ← txt_eq, ← txt_eq, ← txt_eq, ← txt_eq] at hb
  unfold body docT
  rw [set_patch (i := 264) 48 (by rw [List.length_set, List.length_set, hl]; decide), set_patch (i := 263) 48 (by rw [List.length_set, hl]; decide), set_patch (i := 156) h.ki (by rw [hl]; decide), set_patch (i := 156) h.ki (by rw [hl6]; decide)]
  have hu : txt ustar 6 = [117, 115, 116, 97, 114, 0] := by decide +kernel
  rw [← hu] at hb
  exact hb
theorem doc_head (h : Hd) (hS : Small h) (hE : headE h = none) : docB h = headB h := by
  have hl := body_len h hS hE
  have hp := putB_length 7 (sumH (body h)) (by decide)
  unfold docB headB
  rw [← body_doc h hS hE]
  apply List.ext_getElem?
  intro i
  have hl2 : (patch (body h) 148 (putB 7 (sumH (body h)))).length = 512 := by rw [patch_length (by rw [hp, hl]; decide), hl]
  rw [List.getElem?_set, hl2, patch_get (l := body h) (by rw [hp, hl]; decide), patch_get (l := (body h).set 155 32) (by rw [hp, List.length_set, hl]; decide), List.getElem?_set, hl, hp]
  by_cases e : 155 = i
  · subst e
    simp
  · rw [if_neg e, if_neg e]

def rep (c : UInt8) (n : Nat) : ByteArray := ⟨Array.replicate n c⟩
theorem rep_succ (c : UInt8) (n : Nat) : rep c n ++ ⟨#[c]⟩ = rep c (n + 1) := by
  unfold rep
  rw [Array.replicate_succ]
  apply ByteArray.ext
  simp
/-- The chapter's example. -/
def exH : Hd := { zero with nm := (rep 97 60 ++ ⟨#[47]⟩) ++ rep 98 60 }
theorem ex_ok : headE exH = none := by decide +kernel
theorem ex_small : Small exH := ⟨by decide +kernel, by decide, by decide, by decide, fun i => by
  have : exH.num i = 0 := by
    match i with
    | 0 => rfl
    | 1 => rfl
    | 2 => rfl
    | 3 => rfl
    | 4 => rfl
    | 5 => rfl
    | i + 6 => rfl
  rw [this]
  decide, by decide⟩
theorem ex_bytes : fld (headB exH) 0 60 = List.replicate 60 98 ∧ (headB exH).getD 60 0 = 0 ∧ fld (headB exH) 345 60 = List.replicate 60 97 ∧ (headB exH).length = 512 := by decide +kernel
theorem cut_at (g a b : Nat) (h1 : a ≤ b) (h2 : b ≤ 512) (h3 : a < 512) (W : World) : (Instr.slice 26 (.slice (some ⟨g, 0, none⟩) 512 512) (some (.int .i64 a)) (some (.int .i64 b)) none).run Tryd.prog W = .ok (.slice (some ⟨g, a, none⟩) (b - a) (512 - a)) W := by
  obtain ⟨i0, hi, hz⟩ := Option.map_eq_some_iff.1 info_u8
  simp only [Prod.mk.injEq] at hz
  have hel : Tryd.prog.elem 26 = 5 := by simp [Program.elem, Tryd.underlying26]
  have hu : Tryd.prog.underlying 26 = some (.slice (Tryd.prog.elem 26)) := by rw [hel]; exact Tryd.underlying26
  rw [run_slice_lh W 26 (some ⟨g, 0, none⟩) 512 512 hu .i64 .i64 a b (by omega) (by omega) (by omega), hel]
  have e : ¬ (512 = a) := by omega
  simp [sizeOf, typeInfo, hi, hz.2.1, sliced, Result.andThen, add_at, e]
theorem cut_to (g b : Nat) (h2 : b ≤ 512) (W : World) : (Instr.slice 26 (.slice (some ⟨g, 0, none⟩) 512 512) none (some (.int .i64 b)) none).run Tryd.prog W = .ok (.slice (some ⟨g, 0, none⟩) b 512) W := by
  obtain ⟨i0, hi, hz⟩ := Option.map_eq_some_iff.1 info_u8
  simp only [Prod.mk.injEq] at hz
  obtain ⟨b1, _, _⟩ := print_take_of (P := Tryd.prog) (Value.int .u8) 0 26 5 .i64 Tryd.underlying26 hi hz.2.1 (some ⟨g, 0, none⟩) 512 (List.replicate 512 (0 : Int)) b (by omega) (by rw [List.length_replicate]; omega) (by rw [List.length_replicate]; omega)
  have := b1 W
  rw [List.length_replicate, List.length_take, List.length_replicate, show min ((b : Int).toNat) 512 = b by rw [Int.toNat_natCast]; omega] at this
  exact this
theorem str_rep (c : UInt8) (n : Nat) : strOfNums (List.replicate n (c.toNat : Int)) = rep c n := by
  unfold strOfNums rep
  rw [List.map_replicate]
  simp
theorem alive_calls (w : World) (hg : Gl w) : Calls Tryd.prog 7 #[] w fun e w' => e = .returned (.bool true) ∧ Below w.heap.size w w' := by
  have HP : Aside0 (Calls Tryd.prog 9 #[.agg (hv exH)] w fun e w' => ∃ gB, e = .returned (.tuple #[.slice (some ⟨gB, 0, none⟩) 512 512, .nilIface]) ∧ Row w' gB (headB exH) ∧ w.heap.size ≤ gB ∧ Below w.heap.size w w') := ⟨putH_yes exH ex_small w hg ex_ok⟩
  have hv0 : hv exH = #[.string ((rep 97 60 ++ ⟨#[47]⟩) ++ rep 98 60), .int .i64 0, .int .i64 0, .int .i64 0, .int .i64 0, .int .i64 0, .int .u8 0, .string ⟨#[]⟩, .string ⟨#[]⟩, .string ⟨#[]⟩, .int .i64 0, .int .i64 0] := rfl
  rw [hv0] at HP
  have HRep : Aside0 (∀ n, rep 97 n ++ ⟨#[97]⟩ = rep 97 (n + 1) ∧ rep 98 n ++ ⟨#[98]⟩ = rep 98 (n + 1)) := ⟨fun n => ⟨rep_succ 97 n, rep_succ 98 n⟩⟩
  have HZ : Aside0 (rep 97 0 = ⟨#[]⟩ ∧ rep 98 0 = ⟨#[]⟩) := ⟨by decide +kernel⟩
  have HSz : Aside0 (∀ c n, (rep c n).size = n) := ⟨fun c n => by show (Array.replicate n c).size = n; simp⟩
  clear hv0 hg
  go_enter Tryd.func7, Tryd.ntmps7
  go_wp2_with fail
  go_loopg [1, 2, 5] 60 (fun kq v1 v2 v5 wr => ∃ i : Nat, i ≤ 60 ∧ v5 = .int .i64 i ∧ v1 = .string (rep 97 i) ∧ v2 = .string (rep 98 i) ∧ Aside0 (kq = 60 - i) ∧ wr = w)
  case atStart => exact ⟨0, by omega, rfl, by rw [HZ.out.1], by rw [HZ.out.2], ⟨rfl⟩, rfl⟩
  case round =>
    obtain ⟨i, hi, rfl, rfl, rfl, HK, rfl⟩ := hrel
    by_cases hlt : i < 60
    · have hlt' : (i : Int) < 60 := by omega
      have z1 : ((rep 97 i).size : Int) ≤ 60 := by rw [HSz.out]; omega
      have z2 : ((rep 98 i).size : Int) ≤ 60 := by rw [HSz.out]; omega
      go_wp2_with fail
      go_roundg (60 - (i + 1))
      case measure => have := HK.out; omega
      case rel => exact ⟨i + 1, by omega, by go_num, by rw [(HRep.out i).1], by rw [(HRep.out i).2], ⟨rfl⟩, rfl⟩
    · have hlt' : ¬ (i : Int) < 60 := by omega
      obtain rfl : i = 60 := by omega
      have z1 : ((rep 97 60).size : Int) ≤ 60 := by rw [HSz.out]; omega
      have z2 : ((rep 98 60).size : Int) ≤ 60 := by rw [HSz.out]; omega
      go_upto_region 7 with (go_at_call 9; refine HP.out.mono ?_; rintro e w2 ⟨gB, rfl, hr, _, hb⟩; have HR := Aside0.mk (And.intro hr hb); clear hr hb)
      obtain ⟨x1, x2, x3, x4⟩ := ex_bytes
      have hC1 := HR.out.1.C 0 60 (by rw [x4]; decide) (by decide)
      have hC2 := HR.out.1.C 345 60 (by rw [x4]; decide) (by decide)
      rw [show ((headB exH).drop 0).take 60 = _ from x1] at hC1
      rw [show ((headB exH).drop 345).take 60 = _ from x3] at hC2
      have k1 := Kd.C_string (P := Tryd.prog) (src := 26) (dst := 9) (c := 512) Tryd.underlying26 Tryd.underlying5 Tryd.underlying9 hC1
      have k2 := Kd.C_string (P := Tryd.prog) (src := 26) (dst := 9) (c := 167) Tryd.underlying26 Tryd.underlying5 Tryd.underlying9 hC2
      rw [show strOfNums (List.replicate 60 98) = rep 98 60 from str_rep 98 60] at k1
      rw [show strOfNums (List.replicate 60 97) = rep 97 60 from str_rep 97 60] at k2
      have k3 := HR.out.1.cell 60 (by rw [x4]; decide)
      rw [x2] at k3
      have s1 := cut_to gB 60 (by decide)
      have s2 := cut_at gB 345 405 (by decide) (by decide) (by decide)
      clear hC1 hC2 x1 x2 x3 x4
      go_wp2_with fail
      go_ret
      exact ⟨rfl, HR.out.2⟩
theorem mono_k {α : Type} {f : Nat → Option α} (hm : ∀ k, LeO (f k) (f (k + 1))) {k : Nat} {r : α} (h : f k = some r) : ∀ m, f (k + m) = some r
  | 0 => h
  | m + 1 => hm _ _ (mono_k hm h m)
theorem dfits_calls (s : ByteArray) (hs : s.size ≤ 100000) (w : World) : Calls Tryd.prog 14 #[.string s] w fun e w' => e = .returned (.bool (cutOk s && noN s)) ∧ Drawn0 w w' := by
  obtain ⟨k, a, r, h1, h2⟩ := cut_f s hs
  have hn := nought_f s hs
  refine crossdockref19_Fits.calls (k + (s.size + 1)) s _ w ?_
  unfold crossdockref19_Fits.f
  rw [mono_k (f := fun k => crossdockref19_Cut.f k s) (fun k => crossdockref19_Cut.mono s k) h1 (s.size + 1), Option.bind_some]
  rw [show k + (s.size + 1) = (s.size + 1) + k by omega, mono_k (f := fun k => crossdockref19_nought.f k s) (fun k => crossdockref19_nought.mono s k) hn k]
  cases cutOk s with
  | true => simp
  | false => simp
def longH (h : Hd) : Bool := decide ((h.nm.size : Int) > 600) || decide ((h.li.size : Int) > 600) || decide ((h.us.size : Int) > 600) || decide ((h.gr.size : Int) > 600)
theorem long_calls (h : Hd) (w : World) : Calls Tryd.prog 8 #[.agg (hv h)] w fun e w' => e = .returned (.bool (longH h)) ∧ Below w.heap.size w w' := by
  refine crossdocklaw19_Long.calls h.nm h.mo h.ui h.gi h.si h.ti h.ki h.li h.us h.gr h.ma h.mi _ w ?_
  unfold crossdocklaw19_Long.f longH
  by_cases h1 : (h.nm.size : Int) > 600
  · rw [if_pos h1, decide_eq_true h1]; rfl
  · rw [if_neg h1, decide_eq_false h1]
    by_cases h2 : (h.li.size : Int) > 600
    · rw [if_pos h2, decide_eq_true h2]; rfl
    · rw [if_neg h2, decide_eq_false h2]
      by_cases h3 : (h.us.size : Int) > 600
      · rw [if_pos h3, decide_eq_true h3]; rfl
      · rw [if_neg h3, decide_eq_false h3]; rfl
/-- A head of numbers and texts as they come in. -/
structure WF (h : Hd) : Prop where
  num : ∀ i, -9223372036854775808 ≤ h.num i ∧ h.num i ≤ 9223372036854775807
  ki : 0 ≤ h.ki ∧ h.ki < 256
theorem small_of {h : Hd} (hw : WF h) (hl : longH h = false) : Small h := by
  unfold longH at hl
  simp only [Bool.or_eq_false_iff, decide_eq_false_iff_not] at hl
  exact ⟨by omega, by omega, by omega, by omega, hw.num, hw.ki⟩
theorem dput_calls19 (h : Hd) (hS : Small h) (w : World) : Calls Tryd.prog 10 #[.agg (hv h)] w (DPut w h) := by
  cases h1 : noN h.nm && noN h.li && noN h.us && noN h.gr with
  | false => exact dput_nought h hS w h1
  | true =>
    cases h2 : !cutOk h.nm || decide (100 < h.li.size) || decide (32 < h.us.size) || decide (32 < h.gr.size) with
    | true => exact dput_long h hS w h1 h2
    | false => exact dput_rest h hS w h1 h2
theorem bytes_same (A B : Option Addr) (n m c d : Nat) (xs : List Int) (hn : xs.length = n) (hm : n = m) (hc : n ≤ c) (hd : n ≤ d) (w : World) (hx : (Kd.int .u8).C w A n xs) (hy : (Kd.int .u8).C w B n xs) :
    Calls Tryd.prog 12 #[.slice A n c, .slice B m d] w fun e w' => e = .returned (.bool true) ∧ Drawn0 w w' := by
  subst hn
  subst hm
  exact crossdocknum_Bytes.calls A c xs B d xs true w hx hc hy hd (by unfold crossdocknum_Bytes.f; simp)
theorem num_drawn (e : Option Int) (w : World) (h : ∀ c, e = some c → c ≠ 0) : Calls Tryd.prog 11 #[errV e] w fun r w' => r = .returned (.int .i64 (numE e)) ∧ Drawn0 w w' :=
  (num_calls e w h).mono fun _ _ k => ⟨k.1, k.2 ▸ Drawn0.refl _⟩
theorem head_len (h : Hd) (hS : Small h) (hE : headE h = none) : (headB h).length = 512 := by
  have hl := body_len h hS hE
  have hp := putB_length 7 (sumH (body h)) (by decide)
  unfold headB
  rw [patch_length (by rw [hp, List.length_set, hl]; decide), List.length_set, hl]
theorem headE_pos {h : Hd} {c : Int} (hE : headE h = some c) : c ≠ 0 := by
  unfold headE at hE
  split at hE
  · cases hE; decide
  · split at hE
    · cases hE; decide
    · split at hE
      · cases hE
      · cases hE; decide
theorem quiet_d {f : FuncId} {args : Array Value} {w : World} {n : Nat} {v : Value} (h : Calls Tryd.prog f args (w.drewN n) fun e w' => e = .returned v ∧ Drawn0 (w.drewN n) w') :
    Calls Tryd.prog f args (w.drewN n) fun e w' => e = .returned v ∧ ∃ m, w' = w.drewN m :=
  Calls.quiet_of (h.mono fun _ _ k => ⟨k.1, k.2.out⟩)
theorem Box.all {w : World} {g : Nat} {h : Hd} (k : Box w g h) : w.cell? ⟨g, 0, none⟩ = some (.string h.nm) ∧ w.cell? ⟨g, 1, none⟩ = some (.int .i64 h.mo) ∧ w.cell? ⟨g, 2, none⟩ = some (.int .i64 h.ui) ∧ w.cell? ⟨g, 3, none⟩ = some (.int .i64 h.gi) ∧ w.cell? ⟨g, 4, none⟩ = some (.int .i64 h.si) ∧ w.cell? ⟨g, 5, none⟩ = some (.int .i64 h.ti) ∧ w.cell? ⟨g, 6, none⟩ = some (.int .u8 h.ki) ∧ w.cell? ⟨g, 7, none⟩ = some (.string h.li) ∧ w.cell? ⟨g, 8, none⟩ = some (.string h.us) ∧ w.cell? ⟨g, 9, none⟩ = some (.string h.gr) ∧ w.cell? ⟨g, 10, none⟩ = some (.int .i64 h.ma) ∧ w.cell? ⟨g, 11, none⟩ = some (.int .i64 h.mi) := by
  have e := blk_cell k.out
  exact ⟨(e 0).trans rfl, (e 1).trans rfl, (e 2).trans rfl, (e 3).trans rfl, (e 4).trans rfl, (e 5).trans rfl, (e 6).trans rfl, (e 7).trans rfl, (e 8).trans rfl, (e 9).trans rfl, (e 10).trans rfl, (e 11).trans rfl⟩
theorem puts_long (h : Hd) (w : World) (hg : Gl w) (hl : longH h = true) : Calls Tryd.prog 3 #[.agg (hv h)] w fun e w' => e = .returned (.bool true) ∧ Below w.heap.size w w' := by
  obtain ⟨W, hW⟩ : ∃ W, W = w.alloc (.cells (hv h) 23) := ⟨_, rfl⟩
  have hBW : Below w.heap.size w W := by rw [hW]; exact below_alloc (Below.refl _ _) _
  have hbox : Box W w.heap.size h := by rw [hW]; exact ⟨alloc_self _ _⟩
  have HA := Aside0.mk (alive_calls W (hg.next hBW))
  have HL : Aside0 (∀ w, Calls Tryd.prog 8 #[.agg (hv h)] w fun e w' => e = .returned (.bool true) ∧ Below w.heap.size w w') := ⟨fun w => hl ▸ long_calls h w⟩
  have HW := Aside0.mk hW
  have HB := Aside0.mk (And.intro hBW hbox)
  clear hBW hbox hW hg hl
  unfold hv at HW HL
  unfold hv
  go_enter Tryd.func3, Tryd.ntmps3
  go_upto_region 1 with fail
  rw [← HW.out]
  go_upto_region 3 with (go_at_call 7; refine HA.out.mono ?_; rintro e w1 ⟨rfl, hb1⟩; have HB1 := Aside0.mk hb1; clear hb1)
  have hbb : Below w.heap.size w w1 := HB.out.1.trans (HB1.out.mono HB.out.1.size)
  have HBB := Aside0.mk hbb
  obtain ⟨c0, c1, c2, c3, c4, c5, c6, c7, c8, c9, c10, c11⟩ := (HB.out.2.below HB1.out).all
  clear hbb
  go_wp2_with (go_at_call 8; refine (HL.out _).mono ?_; rintro e w2 ⟨rfl, hb2⟩; have HB2 := Aside0.mk hb2; clear hb2)
  go_ret
  exact ⟨rfl, HBB.out.trans (HB2.out.mono HBB.out.size)⟩
set_option maxHeartbeats 1000000 in
theorem puts_short (h : Hd) (hw : WF h) (w : World) (hg : Gl w) (hl : longH h = false) : Calls Tryd.prog 3 #[.agg (hv h)] w fun e w' => e = .returned (.bool true) ∧ Below w.heap.size w w' := by
  have hS := small_of hw hl
  obtain ⟨W, hW⟩ : ∃ W, W = w.alloc (.cells (hv h) 23) := ⟨_, rfl⟩
  have hBW : Below w.heap.size w W := by rw [hW]; exact below_alloc (Below.refl _ _) _
  have hbox : Box W w.heap.size h := by rw [hW]; exact ⟨alloc_self _ _⟩
  have HA := Aside0.mk (alive_calls W (hg.next hBW))
  have HL : Aside0 (∀ w, Calls Tryd.prog 8 #[.agg (hv h)] w fun e w' => e = .returned (.bool false) ∧ Below w.heap.size w w') := ⟨fun w => hl ▸ long_calls h w⟩
  have HW := Aside0.mk hW
  have HB := Aside0.mk (And.intro hBW (And.intro hbox (hg.next hBW)))
  have HP : Aside0 (∀ w, Gl w → Calls Tryd.prog 9 #[.agg (hv h)] w fun e w' => ∃ A n, e = .returned (.tuple #[.slice A n n, errV (headE h)]) ∧ (headE h = none → n = 512 ∧ (Kd.int .u8).C w' A 512 (headB h)) ∧ (headE h ≠ none → A = none ∧ n = 0) ∧ Below w.heap.size w w') := ⟨fun w hg => by
    cases hE : headE h with
    | some c =>
      refine (putH_no h hS w hg c hE).mono ?_
      rintro e w' ⟨rfl, hb⟩
      exact ⟨none, 0, rfl, (fun h => by cases h), (fun _ => ⟨rfl, rfl⟩), hb⟩
    | none =>
      refine (putH_yes h hS w hg hE).mono ?_
      rintro e w' ⟨gB, rfl, hr, _, hb⟩
      have hl := hr.whole (by rw [(head_len h hS hE)]; decide)
      rw [head_len h hS hE] at hl
      exact ⟨_, 512, rfl, (fun _ => ⟨rfl, hl⟩), (fun h => absurd rfl h), hb⟩⟩
  have HD : Aside0 (∀ w, Calls Tryd.prog 10 #[.agg (hv h)] w fun e w' => ∃ A n, e = .returned (.tuple #[.slice A n n, .int .i64 (numE (headE h))]) ∧ (headE h = none → n = 512 ∧ (Kd.int .u8).C w' A 512 (headB h)) ∧ (headE h ≠ none → A = none ∧ n = 0) ∧ Below w.heap.size w w') := ⟨fun w => by
    refine (dput_calls19 h hS w).mono ?_
    rintro e w' ⟨h1, hb⟩
    cases hE : headE h with
    | some c =>
      rw [hE] at h1
      exact ⟨none, 0, h1, (fun h => by cases h), (fun _ => ⟨rfl, rfl⟩), hb⟩
    | none =>
      rw [hE] at h1
      obtain ⟨gB, he, hr⟩ := h1
      rw [doc_head h hS hE] at hr
      have hl := hr.whole (by rw [(head_len h hS hE)]; decide)
      rw [head_len h hS hE] at hl
      exact ⟨_, 512, he, (fun _ => ⟨rfl, hl⟩), (fun h => absurd rfl h), hb⟩⟩
  have HN : Aside0 (∀ w, Calls Tryd.prog 11 #[errV (headE h)] w fun r w' => r = .returned (.int .i64 (numE (headE h))) ∧ Drawn0 w w') := ⟨fun w => num_drawn _ w (fun c hc => headE_pos hc)⟩
  have HF0 : Aside0 (∀ w, Gl w → Calls Tryd.prog 13 #[.string h.nm] w fun e w' => e = .returned (.bool (cutOk h.nm && noN h.nm)) ∧ Drawn0 w w') := ⟨fun w hg => fits_drawn h.nm w hg (by have := hS.nm; omega)⟩
  have HF1 : Aside0 (∀ w, Gl w → Calls Tryd.prog 13 #[.string h.li] w fun e w' => e = .returned (.bool (cutOk h.li && noN h.li)) ∧ Drawn0 w w') := ⟨fun w hg => fits_drawn h.li w hg (by have := hS.li; omega)⟩
  have HG0 : Aside0 (∀ w, Calls Tryd.prog 14 #[.string h.nm] w fun e w' => e = .returned (.bool (cutOk h.nm && noN h.nm)) ∧ Drawn0 w w') := ⟨fun w => dfits_calls h.nm (by have := hS.nm; omega) w⟩
  have HG1 : Aside0 (∀ w, Calls Tryd.prog 14 #[.string h.li] w fun e w' => e = .returned (.bool (cutOk h.li && noN h.li)) ∧ Drawn0 w w') := ⟨fun w => dfits_calls h.li (by have := hS.li; omega) w⟩
  have HHl := Aside0.mk (show headE h = none → (headB h).length = 512 from fun e => head_len h hS e)
  generalize headE h = E at *
  generalize (cutOk h.nm && noN h.nm) = f0 at *
  generalize (cutOk h.li && noN h.li) = f1 at *
  clear hBW hbox hW hg hl hw hS
  unfold hv at HW HL HP HD
  unfold hv
  go_enter Tryd.func3, Tryd.ntmps3
  go_upto_region 1 with fail
  rw [← HW.out]
  go_upto_region 3 with (go_at_call 7; refine HA.out.mono ?_; rintro e w1 ⟨rfl, hb1⟩; have HB1 := Aside0.mk hb1; clear hb1)
  have HBB : Aside0 (Below w.heap.size w w1 ∧ Box w1 w.heap.size h ∧ Gl w1) := ⟨HB.out.1.trans (HB1.out.mono HB.out.1.size), HB.out.2.1.below HB1.out, HB.out.2.2.next HB1.out⟩
  obtain ⟨c0, c1, c2, c3, c4, c5, c6, c7, c8, c9, c10, c11⟩ := HBB.out.2.1.all
  clear HB HB1 HA
  go_upto_region 5 with (go_at_call 8; refine (HL.out _).mono ?_; rintro e w2 ⟨rfl, hb2⟩; have HB2 := Aside0.mk hb2; clear hb2)
  clear c0 c1 c2 c3 c4 c5 c6 c7 c8 c9 c10 c11
  have HBC : Aside0 (Below w.heap.size w w2 ∧ Box w2 w.heap.size h ∧ Gl w2) := ⟨HBB.out.1.trans (HB2.out.mono HBB.out.1.size), HBB.out.2.1.below HB2.out, HBB.out.2.2.next HB2.out⟩
  obtain ⟨c0, c1, c2, c3, c4, c5, c6, c7, c8, c9, c10, c11⟩ := HBC.out.2.1.all
  clear HBB HB2
  go_upto_region 6 with (go_at_call 9; refine (HP.out _ HBC.out.2.2).mono ?_; rintro e w3 ⟨A, n, rfl, hy, hz, hb3⟩; have HB3 := Aside0.mk (And.intro hy (And.intro hz hb3)); clear hb3 hy hz)
  clear c0 c1 c2 c3 c4 c5 c6 c7 c8 c9 c10 c11
  have HBD : Aside0 (Below w.heap.size w w3 ∧ Box w3 w.heap.size h ∧ Gl w3) := ⟨HBC.out.1.trans (HB3.out.2.2.mono HBC.out.1.size), HBC.out.2.1.below HB3.out.2.2, HBC.out.2.2.next HB3.out.2.2⟩
  obtain ⟨c0, c1, c2, c3, c4, c5, c6, c7, c8, c9, c10, c11⟩ := HBD.out.2.1.all
  clear HBC
  go_upto_region 7 with (go_at_call 10; refine (HD.out _).mono ?_; rintro e w4 ⟨A4, n4, rfl, hy, hz, hb4⟩; have HB4 := Aside0.mk (And.intro hy (And.intro hz hb4)); clear hb4 hy hz)
  clear c0 c1 c2 c3 c4 c5 c6 c7 c8 c9 c10 c11
  have HBE : Aside0 (Below w.heap.size w w4 ∧ Box w4 w.heap.size h ∧ Gl w4) := ⟨HBD.out.1.trans (HB4.out.2.2.mono HBD.out.1.size), HBD.out.2.1.below HB4.out.2.2, HBD.out.2.2.next HB4.out.2.2⟩
  obtain ⟨c0, c1, c2, c3, c4, c5, c6, c7, c8, c9, c10, c11⟩ := HBE.out.2.1.all
  have HBy : Aside0 (∀ m, Calls Tryd.prog 12 #[.slice A n n, .slice A4 n4 n4] (w4.drewN m) fun e w' => e = .returned (.bool true) ∧ Drawn0 (w4.drewN m) w') := ⟨fun m => by
    by_cases hE : E = none
    · obtain ⟨rfl, k1⟩ := HB3.out.1 hE
      obtain ⟨rfl, k2⟩ := HB4.out.1 hE
      exact bytes_same A A4 512 512 512 512 (headB h) (HHl.out hE) rfl (by decide) (by decide) _ (Kd.C_drewN (Kd.C_below k1 HB4.out.2.2) m) (Kd.C_drewN k2 m)
    · obtain ⟨rfl, rfl⟩ := HB3.out.2.1 hE
      obtain ⟨rfl, rfl⟩ := HB4.out.2.1 hE
      exact bytes_same none none 0 0 0 0 [] rfl rfl (by decide) (by decide) _ (Kd.C_nil _ _) (Kd.C_nil _ _)⟩
  clear HB3 HB4 HBD HP HD HL
  go_quiet ((first
    | (go_at_call 11; with_reducible exact quiet_d (HN.out _))
    | (go_at_call 12; with_reducible exact quiet_d (HBy.out _))
    | (go_at_call 13; with_reducible exact quiet_d (HF0.out _ (HBE.out.2.2.next ⟨rfl, rfl, rfl, Nat.le_refl _, fun _ _ => rfl⟩)))
    | (go_at_call 13; with_reducible exact quiet_d (HF1.out _ (HBE.out.2.2.next ⟨rfl, rfl, rfl, Nat.le_refl _, fun _ _ => rfl⟩)))
    | (go_at_call 14; with_reducible exact quiet_d (HG0.out _))
    | (go_at_call 14; with_reducible exact quiet_d (HG1.out _))))
  go_wp2_with fail
  go_ret
  exact ⟨rfl, HBE.out.1.trans ⟨rfl, rfl, rfl, Nat.le_refl _, fun _ _ => rfl⟩⟩
theorem wf_of {nm li us gr : ByteArray} {mo ui gi si ti ki ma mi : Int} (h1 : (Lit.int .i64 mo).wf = true) (h2 : (Lit.int .i64 ui).wf = true) (h3 : (Lit.int .i64 gi).wf = true) (h4 : (Lit.int .i64 si).wf = true) (h5 : (Lit.int .i64 ti).wf = true) (h6 : (Lit.int .u8 ki).wf = true) (h10 : (Lit.int .i64 ma).wf = true) (h11 : (Lit.int .i64 mi).wf = true) : WF ⟨nm, mo, ui, gi, si, ti, ki, li, us, gr, ma, mi⟩ := by
  refine ⟨fun i => ?_, wf_u8 h6⟩
  match i with
  | 0 => exact wf_i64 h1
  | 1 => exact wf_i64 h2
  | 2 => exact wf_i64 h3
  | 3 => exact wf_i64 h4
  | 4 => exact wf_i64 h5
  | 5 => exact wf_i64 h10
  | i + 6 => exact wf_i64 h11
theorem puts_walk (nm : ByteArray) (mo ui gi si ti ki : Int) (li us gr : ByteArray) (ma mi : Int) (W : World) (z0 : nm.size ≤ maxLen) (h1 : (Lit.int .i64 mo).wf = true) (h2 : (Lit.int .i64 ui).wf = true) (h3 : (Lit.int .i64 gi).wf = true) (h4 : (Lit.int .i64 si).wf = true) (h5 : (Lit.int .i64 ti).wf = true) (h6 : (Lit.int .u8 ki).wf = true) (z7 : li.size ≤ maxLen) (z8 : us.size ≤ maxLen) (z9 : gr.size ≤ maxLen) (h10 : (Lit.int .i64 ma).wf = true) (h11 : (Lit.int .i64 mi).wf = true)
    (hL : laidMetH Tryd.prog Rows.headPutsRow.laid W) :
    Calls Tryd.prog 3 #[.agg #[.string nm, .int .i64 mo, .int .i64 ui, .int .i64 gi, .int .i64 si, .int .i64 ti, .int .u8 ki, .string li, .string us, .string gr, .int .i64 ma, .int .i64 mi]] W fun e w' => e = .returned (.bool true) ∧ Below W.heap.size W w' := by
  have hg := gl_of hL
  cases hl : longH ⟨nm, mo, ui, gi, si, ti, ki, li, us, gr, ma, mi⟩ with
  | true => exact puts_long ⟨nm, mo, ui, gi, si, ti, ki, li, us, gr, ma, mi⟩ W hg hl
  | false => exact puts_short ⟨nm, mo, ui, gi, si, ti, ki, li, us, gr, ma, mi⟩ (wf_of h1 h2 h3 h4 h5 h6 h10 h11) W hg hl
end Go.Proofs.YtiioiikcjaiajaaDoor.My

/- The fields of package head, out of the longer list of what is laid. -/
namespace Go.Proofs.YtiioiikcjaiajaaDoor.My
open Go.RowKit Go.Lib Go.Shelf
set_option linter.unusedVariables false
set_option linter.unusedSimpArgs false

theorem gl_of16 {W : World} (hL : laidMetH Tryd.prog [("unicode/utf8.acceptRanges", Rows.laid_unicode_utf8_acceptRanges), ("crossdock/head.name", Rows.laid_crossdock_head_name), ("crossdock/head.mode", Rows.laid_crossdock_head_mode), ("crossdock/head.uid", Rows.laid_crossdock_head_uid), ("crossdock/head.gid", Rows.laid_crossdock_head_gid), ("crossdock/head.long", Rows.laid_crossdock_head_long), ("crossdock/head.time", Rows.laid_crossdock_head_time), ("crossdock/head.sum", Rows.laid_crossdock_head_sum), ("crossdock/head.link", Rows.laid_crossdock_head_link), ("crossdock/head.mark", Rows.laid_crossdock_head_mark), ("crossdock/head.user", Rows.laid_crossdock_head_user), ("crossdock/head.group", Rows.laid_crossdock_head_group), ("crossdock/head.major", Rows.laid_crossdock_head_major), ("crossdock/head.minor", Rows.laid_crossdock_head_minor), ("crossdock/head.front", Rows.laid_crossdock_head_front), ("unicode/utf8.first", Rows.laid_unicode_utf8_first)] W) : Gl W := by
  have f0 := field_reads (g := 0) (a := 0) (b := 100) (by kernel_rfl) (by kernel_rfl) (Lib.laidMet.reads hL (.tail _ (.head _)))
  have f1 := field_reads (g := 1) (a := 157) (b := 100) (by kernel_rfl) (by kernel_rfl) (Lib.laidMet.reads hL (.tail _ (.tail _ (.tail _ (.tail _ (.tail _ (.tail _ (.tail _ (.tail _ (.head _))))))))))
  have f2 := field_reads (g := 2) (a := 257) (b := 6) (by kernel_rfl) (by kernel_rfl) (Lib.laidMet.reads hL (.tail _ (.tail _ (.tail _ (.tail _ (.tail _ (.tail _ (.tail _ (.tail _ (.tail _ (.head _)))))))))))
  have f3 := field_reads (g := 3) (a := 265) (b := 32) (by kernel_rfl) (by kernel_rfl) (Lib.laidMet.reads hL (.tail _ (.tail _ (.tail _ (.tail _ (.tail _ (.tail _ (.tail _ (.tail _ (.tail _ (.tail _ (.head _))))))))))))
  have f4 := field_reads (g := 4) (a := 297) (b := 32) (by kernel_rfl) (by kernel_rfl) (Lib.laidMet.reads hL (.tail _ (.tail _ (.tail _ (.tail _ (.tail _ (.tail _ (.tail _ (.tail _ (.tail _ (.tail _ (.tail _ (.head _)))))))))))))
  have f5 := field_reads (g := 5) (a := 345) (b := 155) (by kernel_rfl) (by kernel_rfl) (Lib.laidMet.reads hL (.tail _ (.tail _ (.tail _ (.tail _ (.tail _ (.tail _ (.tail _ (.tail _ (.tail _ (.tail _ (.tail _ (.tail _ (.tail _ (.tail _ (.head _))))))))))))))))
  have f6 := field_reads (g := 6) (a := 148) (b := 8) (by kernel_rfl) (by kernel_rfl) (Lib.laidMet.reads hL (.tail _ (.tail _ (.tail _ (.tail _ (.tail _ (.tail _ (.tail _ (.head _)))))))))
  have f7 := field_reads (g := 7) (a := 100) (b := 8) (by kernel_rfl) (by kernel_rfl) (Lib.laidMet.reads hL (.tail _ (.tail _ (.head _))))
  have f8 := field_reads (g := 8) (a := 108) (b := 8) (by kernel_rfl) (by kernel_rfl) (Lib.laidMet.reads hL (.tail _ (.tail _ (.tail _ (.head _)))))
  have f9 := field_reads (g := 9) (a := 116) (b := 8) (by kernel_rfl) (by kernel_rfl) (Lib.laidMet.reads hL (.tail _ (.tail _ (.tail _ (.tail _ (.head _))))))
  have f10 := field_reads (g := 10) (a := 124) (b := 12) (by kernel_rfl) (by kernel_rfl) (Lib.laidMet.reads hL (.tail _ (.tail _ (.tail _ (.tail _ (.tail _ (.head _)))))))
  have f11 := field_reads (g := 11) (a := 136) (b := 12) (by kernel_rfl) (by kernel_rfl) (Lib.laidMet.reads hL (.tail _ (.tail _ (.tail _ (.tail _ (.tail _ (.tail _ (.head _))))))))
  have f12 := field_reads (g := 12) (a := 329) (b := 8) (by kernel_rfl) (by kernel_rfl) (Lib.laidMet.reads hL (.tail _ (.tail _ (.tail _ (.tail _ (.tail _ (.tail _ (.tail _ (.tail _ (.tail _ (.tail _ (.tail _ (.tail _ (.head _))))))))))))))
  have f13 := field_reads (g := 13) (a := 337) (b := 8) (by kernel_rfl) (by kernel_rfl) (Lib.laidMet.reads hL (.tail _ (.tail _ (.tail _ (.tail _ (.tail _ (.tail _ (.tail _ (.tail _ (.tail _ (.tail _ (.tail _ (.tail _ (.tail _ (.head _)))))))))))))))
  refine ⟨fun g hg => ?_, fun g hg => ?_, ?_⟩
  · match g, hg with
    | 0, _ => exact f0.1
    | 1, _ => exact f1.1
    | 2, _ => exact f2.1
    | 3, _ => exact f3.1
    | 4, _ => exact f4.1
    | 5, _ => exact f5.1
    | 6, _ => exact f6.1
    | 7, _ => exact f7.1
    | 8, _ => exact f8.1
    | 9, _ => exact f9.1
    | 10, _ => exact f10.1
    | 11, _ => exact f11.1
    | 12, _ => exact f12.1
    | 13, _ => exact f13.1
    | g + 14, hg => omega
  · match g, hg with
    | 0, _ => exact f0.2
    | 1, _ => exact f1.2
    | 2, _ => exact f2.2
    | 3, _ => exact f3.2
    | 4, _ => exact f4.2
    | 5, _ => exact f5.2
    | 6, _ => exact f6.2
    | 7, _ => exact f7.2
    | 8, _ => exact f8.2
    | 9, _ => exact f9.2
    | 10, _ => exact f10.2
    | 11, _ => exact f11.2
    | 12, _ => exact f12.2
    | 13, _ => exact f13.2
    | g + 14, hg => omega
  · have := f13.1
    rcases Nat.lt_or_ge 13 W.heap.size with h | h
    · omega
    · rw [World.cell?, Array.getElem?_eq_none h] at this
      cases this
end Go.Proofs.YtiioiikcjaiajaaDoor.My

/- HeadTakes: head.None, head.Sum of few bytes, and the plain facts of the law. -/
set_option maxRecDepth 100000
namespace Go.Proofs.YtiioiikcjaiajaaDoor.My
open Go.RowKit Go.Proofs.YtiioiikcjaiajaaDoor.Hd Go.Proofs.YtiioiikcjaiajaaDoor.Oct Go.Proofs.YtiioiikcjaiajaaDoor.PHeadPuts Go.Proofs.YtiioiikcjaiajaaDoorW.PrintWords Go.Proofs.YtiioiikcjaiajaaDoorW.PrintLast Go.Proofs.YtiioiikcjaiajaaDoorW.PrintMore
set_option linter.unusedVariables false
set_option linter.unusedSimpArgs false

theorem takeNs_code (xs : List Int) (n : Nat) : ∀ (k : Nat) (h : Hd) (e : Int) (z : Hd), takeNs xs n k h = (some e, z) → e = 1 ∨ e = 2
  | 0, h, e, z, hh => by cases hh
  | k + 1, h, e, z, hh => by
    rw [takeNs_step] at hh
    generalize ht : takeA (fld xs (nAt (n - (k + 1))) (nSz (n - (k + 1)))) = t at hh
    obtain ⟨a, b⟩ := t
    cases a with
    | none => exact takeNs_code xs n k _ e z hh
    | some c =>
      cases hh
      exact takeA_err ht
theorem takeH_code (xs : List Int) (c : Int) (h : (takeH xs).1 = some c) : c ≠ 0 := by
  unfold takeH at h
  split at h
  · cases h; decide
  split at h
  · cases h; decide
  split at h
  · generalize ht : takeNs xs 7 7 _ = t at h
    obtain ⟨a, b⟩ := t
    cases a with
    | none => cases h
    | some e => cases h; rcases takeNs_code _ _ _ _ _ _ ht with r | r <;> rw [r] <;> decide
  split at h
  · generalize ht : takeNs xs 5 5 _ = t at h
    obtain ⟨a, b⟩ := t
    cases a with
    | none => cases h
    | some e => cases h; rcases takeNs_code _ _ _ _ _ _ ht with r | r <;> rw [r] <;> decide
  · cases h; decide
theorem numE_doc (e : Option Int) : numE e = docE e := by cases e <;> rfl
def isz (b : Int) : Bool := decide (b = 0)
theorem fin_isz : ∀ b : Fin 256, ([0] : List UInt8).contains (UInt8.ofNat b.val) = decide (b.val = 0) := by decide +kernel
theorem set_isz (x : Int) (h0 : 0 ≤ x) (h1 : x < 256) : ([0] : List UInt8).contains (UInt8.ofNat x.toNat) = isz x := by
  obtain ⟨n, rfl⟩ := Int.eq_ofNat_of_zero_le h0
  have := fin_isz ⟨n, by omega⟩
  rw [Int.toNat_natCast, this]
  unfold isz
  simp
theorem none_short (A : Option Addr) (n c : Nat) (hn : n < 512) (w : World) : Calls Tryd.prog 19 #[.slice A n c] w fun e w' => e = .returned (.bool false) ∧ w = w' := by
  have h1 : (n : Int) < 512 := by omega
  clear hn
  go_enter Tryd.func19, Tryd.ntmps19
  go_wp2_with fail
  go_ret
  exact ⟨rfl, rfl⟩
theorem none_long (w : World) (g o0 c : Nat) (xs : List Int) (h : Inp w g o0 c xs) : Calls Tryd.prog 19 #[.slice (some ⟨g, o0, none⟩) xs.length c] w fun e w' => e = .returned (.bool ((xs.take 512).all isz)) ∧ Below w.heap.size w w' := by
  have hl := h.len
  have h1 : (512 : Int) ≤ (xs.length : Int) := by omega
  have h2 : (512 : Int) ≤ (c : Int) := by omega
  have hsl : ∀ W, (Instr.slice 26 (.slice (some ⟨g, o0, none⟩) xs.length c) none (some (.int .i64 512)) none).run Tryd.prog W = .ok (.slice (some ⟨g, o0, none⟩) 512 c) W := slice_to g o0 xs.length c 512 (by omega) hl.2.2.2
  have hT := trim_calls ⟨#[0]⟩ isz (by decide) (small_set _ (by decide)) set_isz w _ 512 c _ (h.fld 0 512 (by omega))
  have he : fld xs 0 512 = xs.take 512 := by unfold fld; rw [List.drop_zero]
  rw [he] at hT
  have HT := Aside0.mk hT
  clear hT he hl h
  generalize (xs.take 512).all isz = b at *
  generalize xs.length = n at *
  cases b with
  | true =>
    have HT2 : Aside0 (Calls Tryd.prog 40 #[.slice (some ⟨g, o0, none⟩) 512 c, .string ⟨#[0]⟩] w fun e w' => (∃ A' c', e = .returned (.slice A' 0 c')) ∧ Below w.heap.size w w') := ⟨HT.out.mono fun e w' ⟨⟨A', n', c', he, hn'⟩, hb⟩ => by
      have h0 : decide ((0 : Int) < n') = false := hn'
      have hz : n' = 0 := by have := of_decide_eq_false h0; omega
      subst hz
      exact ⟨⟨A', c', he⟩, hb⟩⟩
    clear HT
    go_enter Tryd.func19, Tryd.ntmps19
    go_wp2_with (go_at_call 40; refine HT2.out.mono ?_; rintro e w' ⟨⟨A', c', rfl⟩, hb⟩; have HB := Aside0.mk hb; clear hb)
    go_ret
    exact ⟨rfl, HB.out⟩
  | false =>
    have HT2 : Aside0 (Calls Tryd.prog 40 #[.slice (some ⟨g, o0, none⟩) 512 c, .string ⟨#[0]⟩] w fun e w' => (∃ A' n' c', e = .returned (.slice A' n' c') ∧ ((n' : Int) == 0) = false) ∧ Below w.heap.size w w') := ⟨HT.out.mono fun e w' ⟨⟨A', n', c', he, hn'⟩, hb⟩ => by
      have h0 : decide ((0 : Int) < n') = true := hn'
      have := of_decide_eq_true h0
      exact ⟨⟨A', n', c', he, beq_eq_false_iff_ne.2 (by omega)⟩, hb⟩⟩
    clear HT
    go_enter Tryd.func19, Tryd.ntmps19
    go_wp2_with (go_at_call 40; refine HT2.out.mono ?_; rintro e w' ⟨⟨A', n', c', rfl, hz⟩, hb⟩; have HB := Aside0.mk hb; clear hb)
    go_ret
    exact ⟨rfl, HB.out⟩
theorem is_ten (w : World) : Calls Tryd.prog 16 #[errV (some 10), .int .i64 10] w fun e w' => e = .returned (.bool true) ∧ w = w' := by
  have HN := Aside0.mk (fun w => num_calls (some 10) w (fun c h => by cases h; decide))
  unfold errV at HN ⊢
  go_enter Tryd.func16, Tryd.ntmps16
  go_wp2_with (go_at_call 11; refine (HN.out _).mono ?_; rintro e w' ⟨rfl, rfl⟩)
  go_ret
  exact ⟨rfl, rfl⟩
theorem neq_doc (h : Hd) (W : World) : (Go.binOp .neq 33 (.agg (hv h)) (.agg (hv h))).run Tryd.prog W = .ok (.bool false) W := by
  simp [hv, go_sem]
theorem inp_row {w : World} {base n : Nat} {v : Value} {xs : List Int} (ho : w.ownsRow base 5 1 v n (nums .u8 xs)) (hn : 512 ≤ n) (hm : n ≤ 1000000) (hb : ∀ x ∈ xs, 0 ≤ x ∧ x < 256) :
    ∃ g c, v = .slice (some ⟨g, 0, none⟩) n c ∧ xs.length = n ∧ Inp w g 0 c xs := by
  have hl : xs.length = n := by
    have := ho.1
    rw [nums_length] at this
    omega
  rcases ho.2 with ⟨h1, h2⟩ | ⟨g, cap, cur, h1, _, hh, h3, h4, h5, h6⟩
  · omega
  · refine ⟨g, cap, h1, hl, fun j hj => ?_, hb, by unfold maxLen at h4; omega⟩
    rw [Nat.zero_add, World.cell?, hh]
    have h7 : (nums .u8 xs)[j]? = some (.int .u8 (xs.getD j 0)) := by simp [nums, hj]
    rw [← h6] at h7
    rw [List.getElem?_take] at h7
    split at h7
    · simpa using h7
    · cases h7
theorem inp_C {w : World} {A : Option Addr} {n c : Nat} {xs : List Int} (hC : (Kd.int .u8).C w A n xs) (hl : xs.length = n) (hn : 512 ≤ n) (hm : n ≤ 1000000) (hc : n ≤ c) (hx : c ≤ 9223372036854775807) (hb : ∀ x ∈ xs, 0 ≤ x ∧ x < 256) :
    ∃ g o0, A = some ⟨g, o0, none⟩ ∧ Inp w g o0 c xs := by
  obtain ⟨⟨g, o0, sp⟩, rfl, h0⟩ := Kd.at_int hC 0 (by omega) (by omega)
  have hsp : sp = none := by
    rw [Int.toNat_zero, show (⟨g, o0, sp⟩ : Addr).add 0 = ⟨g, o0, sp⟩ from rfl] at h0
    cases sp with
    | none => rfl
    | some s =>
      unfold World.cell? at h0
      simp only [Option.isSome_some, if_true] at h0
      split at h0 <;> cases h0
  subst hsp
  refine ⟨g, o0, rfl, fun j hj => ?_, hb, by omega⟩
  obtain ⟨ad, e, hj2⟩ := Kd.at_int hC (j : Int) (by omega) (by omega)
  cases e
  rw [Int.toNat_natCast, add_at] at hj2
  rw [hj2]
  simp [rd]
end Go.Proofs.YtiioiikcjaiajaaDoor.My

/- HeadTakes: the law. -/
set_option maxRecDepth 100000
namespace Go.Proofs.YtiioiikcjaiajaaDoor.My
open Go.RowKit Go.Proofs.YtiioiikcjaiajaaDoor.Hd Go.Proofs.YtiioiikcjaiajaaDoor.Oct Go.Proofs.YtiioiikcjaiajaaDoor.PHeadPuts Go.Proofs.YtiioiikcjaiajaaDoorW.PrintWords Go.Proofs.YtiioiikcjaiajaaDoorW.PrintLast Go.Proofs.YtiioiikcjaiajaaDoorW.PrintMore
set_option linter.unusedVariables false
set_option linter.unusedSimpArgs false

theorem takes_out (w : World) (hg : Gl w) (A : Option Addr) (n c : Nat) (hn : 1200 < n) (hn9 : n ≤ 9223372036854775807) : Calls Tryd.prog 6 #[.slice A n c] w fun e w' => e = .returned (.bool true) ∧ Below w.heap.size w w' := by
  have h1 : (1200 : Int) < (n : Int) := by omega
  have HA := Aside0.mk (alive_calls w hg)
  clear hn hg
  go_enter Tryd.func6, Tryd.ntmps6
  go_wp2_with (go_at_call 7; refine HA.out.mono ?_; rintro e w1 ⟨rfl, hb1⟩; have HB1 := Aside0.mk hb1; clear hb1)
  go_ret
  exact ⟨rfl, HB1.out⟩
theorem takes_few (w : World) (hg : Gl w) (A : Option Addr) (n c : Nat) (xs : List Int) (hC : (Kd.int .u8).C w A n xs) (hl : xs.length = n) (hc : n ≤ c) (hn : n < 512) : Calls Tryd.prog 6 #[.slice A n c] w fun e w' => e = .returned (.bool true) ∧ Below w.heap.size w w' := by
  have h1 : (n : Int) < 512 := by omega
  have HA := Aside0.mk (alive_calls w hg)
  have HC := Aside0.mk hC
  have HL := Aside0.mk (And.intro hl (And.intro hc hn))
  have HT : Aside0 (∀ (w : World) (A : Option Addr) (c : Nat), Calls Tryd.prog 15 #[.slice A n c] w fun e w' => e = .returned (.tuple #[.agg (hv zero), .iface 42 (.int .i64 10)]) ∧ Below w.heap.size w w') := ⟨fun w A c => take_short w A n c hn⟩
  have HD : Aside0 (∀ (w : World) (A : Option Addr) (c : Nat), Calls Tryd.prog 17 #[.slice A n c] w fun e w' => e = .returned (.tuple #[.agg (hv zero), .int .i64 10]) ∧ Below w.heap.size w w') := ⟨fun w A c => dtake_short w A n c hn⟩
  have HS : Aside0 (∀ (w : World) (A : Option Addr) (c : Nat), Calls Tryd.prog 18 #[.slice A n c] w fun e w' => e = .returned (.tuple #[.int .i64 0, .iface 42 (.int .i64 10)]) ∧ w = w') := ⟨fun w A c => sum_short w A n c hn⟩
  have HNo : Aside0 (∀ (w : World) (A : Option Addr) (c : Nat), Calls Tryd.prog 19 #[.slice A n c] w fun e w' => e = .returned (.bool false) ∧ w = w') := ⟨fun w A c => none_short A n c hn w⟩
  have HNu : Aside0 (∀ w : World, Calls Tryd.prog 11 #[.iface 42 (.int .i64 10)] w fun r w' => r = .returned (.int .i64 10) ∧ w = w') := ⟨fun w => num_calls (some 10) w (fun c h => by cases h; decide)⟩
  have HIs : Aside0 (∀ w : World, Calls Tryd.prog 16 #[.iface 42 (.int .i64 10), .int .i64 10] w fun r w' => r = .returned (.bool true) ∧ w = w') := ⟨is_ten⟩
  have hq := neq_doc zero
  unfold hv zero at HT HD hq
  clear hC hl hc hn hg
  go_enter Tryd.func6, Tryd.ntmps6
  go_upto_region 5 with (go_at_call 7; refine HA.out.mono ?_; rintro e w1 ⟨rfl, hb1⟩; have HB1 := Aside0.mk hb1; clear hb1)
  have hr1 := reads_of_C (Kd.C_alloc (Kd.C_below HC.out HB1.out) (.cells #[] 5))
  go_wp2_with ((with_reducible refine gate_dst (N := 19) rfl ?_); refine print_append_row (w0 := w) w.heap.size rfl (.tmp 17) (.tmp 18) 26 5 .u8 1 rfl Tryd.underlying26 info_u8 (by decide) _ [] xs A n c rfl rfl (own_lit w1 w.heap.size 5 .u8 [] HB1.out.size (by decide)) hr1 (below_alloc HB1.out _) (by have := HB1.out.size; simp; omega) (by have := HL.out; simp; omega) ?_)
  intro v1 w2 ho hb2 _ _
  rw [HL.out.1] at ho
  obtain ⟨A5, c5, rfl, hc5, hC5⟩ := own_slice' ho
  have HO := Aside0.mk (And.intro hc5 hC5)
  have HB2 := Aside0.mk hb2
  clear ho hb2 hr1 hc5 hC5
  go_upto_region 7 with (go_at_call 15; (with_reducible refine (HT.out _ _ _).mono ?_); rintro e w3 ⟨rfl, hb3⟩; have HB3 := Aside0.mk hb3; clear hb3)
  have hb4 : Below w2.heap.size w2 (w3.alloc (.cells (hv zero) 23)) := below_alloc HB3.out _
  have hx4 : Box (w3.alloc (.cells (hv zero) 23)) w3.heap.size zero := ⟨alloc_self _ _⟩
  have HB4 := Aside0.mk hb4
  have HX4 := Aside0.mk hx4
  clear hb4 hx4 HA
  unfold hv zero at HB4 HX4
  generalize w3.alloc (.cells #[.string ⟨#[]⟩, .int .i64 0, .int .i64 0, .int .i64 0, .int .i64 0, .int .i64 0, .int .u8 0, .string ⟨#[]⟩, .string ⟨#[]⟩, .string ⟨#[]⟩, .int .i64 0, .int .i64 0] 23) = w4 at *
  generalize w3.heap.size = g3 at *
  go_upto_region 8 with (go_at_call 17; (with_reducible refine (HD.out _ _ _).mono ?_); rintro e w5 ⟨rfl, hb5⟩; have HB5 := Aside0.mk hb5; clear hb5)
  have hb6 : Below w4.heap.size w4 (w5.alloc (.cells (hv zero) 33)) := below_alloc HB5.out _
  have hx6 : DBox (w5.alloc (.cells (hv zero) 33)) w5.heap.size zero := ⟨alloc_self _ _⟩
  have HB6 := Aside0.mk hb6
  have HX6 := Aside0.mk hx6
  clear hb6 hx6
  unfold hv zero at HB6 HX6
  generalize w5.alloc (.cells #[.string ⟨#[]⟩, .int .i64 0, .int .i64 0, .int .i64 0, .int .i64 0, .int .i64 0, .int .u8 0, .string ⟨#[]⟩, .string ⟨#[]⟩, .string ⟨#[]⟩, .int .i64 0, .int .i64 0] 33) = w6 at *
  generalize w5.heap.size = g5 at *
  have HE : Aside0 (Below w.heap.size w w6) := ⟨(HB2.out.trans (HB4.out.mono HB2.out.size)).trans (HB6.out.mono (Nat.le_trans HB2.out.size HB4.out.size))⟩
  have HBy := Aside0.mk (bytes_same A5 A n n c5 c xs HL.out.1 rfl HO.out.1 HL.out.2.1 w6 (Kd.C_below (Kd.C_below (by have := HO.out.2; exact this) HB4.out) HB6.out) (Kd.C_below HC.out HE.out))
  have hx4 := (show Box w4 g3 zero from HX4.out).below HB6.out
  obtain ⟨c0, c1, c2, c3, c4, c5', c6, c7, c8, c9, c10, c11⟩ := hx4.all'
  obtain ⟨d0, d1, d2, d3, d4, d5, d6, d7, d8, d9, d10, d11⟩ := (show DBox w6 g5 zero from HX6.out).all'
  clear hx4
  unfold zero at c0 c1 c2 c3 c4 c5' c6 c7 c8 c9 c10 c11 d0 d1 d2 d3 d4 d5 d6 d7 d8 d9 d10 d11
  go_wp2_with (first
    | (go_at_call 18; (with_reducible refine (HS.out _ _ _).mono ?_); rintro e w' ⟨rfl, rfl⟩)
    | (go_at_call 11; (with_reducible refine (HNu.out _).mono ?_); rintro e w' ⟨rfl, rfl⟩)
    | (go_at_call 12; (with_reducible refine HBy.out.mono ?_); rintro e w' ⟨rfl, ⟨k, rfl⟩⟩)
    | (go_at_call 16; (with_reducible refine (HIs.out _).mono ?_); rintro e w' ⟨rfl, rfl⟩)
    | (go_at_call 19; (with_reducible refine (HNo.out _ _ _).mono ?_); rintro e w' ⟨rfl, rfl⟩))
  go_ret
  exact ⟨rfl, pw_below_drewN HE.out _⟩
/-- The first bytes are noughts. -/
def nzTo (xs : List Int) (i : Nat) : Bool := (xs.take i).all isz
theorem nzTo_succ (xs : List Int) (i : Nat) (h : i < xs.length) : nzTo xs (i + 1) = (nzTo xs i && isz (xs.getD i 0)) := by
  unfold nzTo
  rw [List.take_add_one, List.getElem?_eq_getElem h, Option.toList_some, List.all_append, List.getD_eq_getElem?_getD, List.getElem?_eq_getElem h]
  simp
set_option maxHeartbeats 4000000 in
theorem takes_main (w : World) (hg : Gl w) (g o0 c : Nat) (xs : List Int) (hI : Inp w g o0 c xs) (hn : xs.length ≤ 1200) : Calls Tryd.prog 6 #[.slice (some ⟨g, o0, none⟩) xs.length c] w fun e w' => e = .returned (.bool true) ∧ Below w.heap.size w w' := by
  have hlen := hI.len
  obtain ⟨n, hne⟩ : ∃ n, n = xs.length := ⟨_, rfl⟩
  rw [← hne]
  have h1 : (512 : Int) ≤ (n : Int) := by omega
  have h2 : (n : Int) ≤ 1200 := by omega
  have HA := Aside0.mk (alive_calls w hg)
  have HG := Aside0.mk hg
  have HI := Aside0.mk hI
  have HL := Aside0.mk (And.intro hne.symm hlen)
  obtain ⟨t, ht⟩ : ∃ t, t = takeH xs := ⟨_, rfl⟩
  have HT : Aside0 (∀ (w : World) (g o0 c : Nat), Gl w → Inp w g o0 c xs → Calls Tryd.prog 15 #[.slice (some ⟨g, o0, none⟩) n c] w fun e w' => e = .returned (.tuple #[.agg (hv t.2), errV t.1]) ∧ Below w.heap.size w w') := ⟨fun w g o0 c hg h => by rw [hne, ht]; exact take_all w hg g o0 c xs h.lt (fun _ => h)⟩
  have HD : Aside0 (∀ (w : World) (g o0 c : Nat), Inp w g o0 c xs → Calls Tryd.prog 17 #[.slice (some ⟨g, o0, none⟩) n c] w fun e w' => e = .returned (.tuple #[.agg (hv t.2), .int .i64 (docE t.1)]) ∧ Below w.heap.size w w') := ⟨fun w g o0 c h => by rw [hne, ht]; exact dtake_all w g o0 c xs h⟩
  have HS : Aside0 (∀ (w : World) (g o0 c : Nat), Gl w → Inp w g o0 c xs → Calls Tryd.prog 18 #[.slice (some ⟨g, o0, none⟩) n c] w fun e w' => e = .returned (.tuple #[.int .i64 (sumH xs), .nilIface]) ∧ w = w') := ⟨fun w g o0 c hg h => by rw [hne]; exact sum_calls w hg _ _ _ xs h.all h.len.1⟩
  have HDS : Aside0 (∀ (w : World) (g o0 c : Nat), Inp w g o0 c xs → Calls Tryd.prog 20 #[.slice (some ⟨g, o0, none⟩) n c] w fun e w' => e = .returned (.int .i64 (sumH xs)) ∧ Drawn0 w w') := ⟨fun w g o0 c h => by rw [hne]; exact dsum19_calls w g o0 c xs h⟩
  have HNo : Aside0 (∀ (w : World) (g o0 c : Nat), Inp w g o0 c xs → Calls Tryd.prog 19 #[.slice (some ⟨g, o0, none⟩) n c] w fun e w' => e = .returned (.bool (nzTo xs 512)) ∧ Below w.heap.size w w') := ⟨fun w g o0 c h => by rw [hne]; exact none_long w g o0 c xs h⟩
  have HNu : Aside0 (∀ w : World, Calls Tryd.prog 11 #[errV t.1] w fun r w' => r = .returned (.int .i64 (docE t.1)) ∧ w = w') := ⟨fun w => by rw [← numE_doc]; exact num_calls t.1 w (fun c h => takeH_code xs c (ht ▸ h))⟩
  have hC : (Kd.int .u8).C w (some ⟨g, o0, none⟩) n xs := by rw [hne]; exact C_of_readsInt hI.all.rd
  have HC := Aside0.mk hC
  have hq := neq_doc t.2
  generalize docE t.1 = dc at *
  obtain ⟨code, hcode⟩ : ∃ code, code = errV t.1 := ⟨_, rfl⟩
  rw [← hcode] at HT HNu
  obtain ⟨h, hh⟩ : ∃ h, h = t.2 := ⟨_, rfl⟩
  rw [← hh] at HT HD hq
  clear hcode hh ht hC hg hI hlen hne hn
  unfold hv at HT HD hq
  go_enter Tryd.func6, Tryd.ntmps6
  go_upto_region 5 with (go_at_call 7; refine HA.out.mono ?_; rintro e w1 ⟨rfl, hb1⟩; have HB1 := Aside0.mk hb1; clear hb1)
  have hr1 := reads_of_C (Kd.C_alloc (Kd.C_below HC.out HB1.out) (.cells #[] 5))
  go_wp2_with ((with_reducible refine gate_dst (N := 19) rfl ?_); refine print_append_row (w0 := w) w.heap.size rfl (.tmp 17) (.tmp 18) 26 5 .u8 1 rfl Tryd.underlying26 info_u8 (by decide) _ [] xs (some ⟨g, o0, none⟩) n c rfl rfl (own_lit w1 w.heap.size 5 .u8 [] HB1.out.size (by decide)) hr1 (below_alloc HB1.out _) (by have := HB1.out.size; simp; omega) (by have := HL.out; simp; omega) ?_)
  intro v1 w2 ho hb2 _ _
  rw [HL.out.1] at ho
  obtain ⟨ga, c5, rfl, _, hI5⟩ := inp_row ho (by omega) (by omega) HI.out.byte
  have HO := Aside0.mk hI5
  have HB2 := Aside0.mk hb2
  have HG2 : Aside0 (Gl w2) := ⟨HG.out.next HB2.out⟩
  clear ho hb2 hr1 hI5
  go_upto_region 7 with (go_at_call 15; (with_reducible refine (HT.out _ _ _ _ HG2.out HO.out).mono ?_); rintro e w3 ⟨rfl, hb3⟩; have HB3 := Aside0.mk hb3; clear hb3)
  have hb4 : Below w2.heap.size w2 (w3.alloc (.cells (hv h) 23)) := below_alloc HB3.out _
  have hx4 : Box (w3.alloc (.cells (hv h) 23)) w3.heap.size h := ⟨alloc_self _ _⟩
  have HB4 := Aside0.mk hb4
  have HX4 := Aside0.mk hx4
  clear hb4 hx4 HA
  unfold hv at HB4 HX4
  generalize w3.alloc (.cells #[.string h.nm, .int .i64 h.mo, .int .i64 h.ui, .int .i64 h.gi, .int .i64 h.si, .int .i64 h.ti, .int .u8 h.ki, .string h.li, .string h.us, .string h.gr, .int .i64 h.ma, .int .i64 h.mi] 23) = w4 at *
  generalize w3.heap.size = g3 at *
  have HI4 : Aside0 (Inp w4 g o0 c xs) := ⟨(HI.out.below HB2.out).below HB4.out⟩
  go_upto_region 8 with (go_at_call 17; (with_reducible refine (HD.out _ _ _ _ HI4.out).mono ?_); rintro e w5 ⟨rfl, hb5⟩; have HB5 := Aside0.mk hb5; clear hb5)
  have hb6 : Below w4.heap.size w4 (w5.alloc (.cells (hv h) 33)) := below_alloc HB5.out _
  have hx6 : DBox (w5.alloc (.cells (hv h) 33)) w5.heap.size h := ⟨alloc_self _ _⟩
  have HB6 := Aside0.mk hb6
  have HX6 := Aside0.mk hx6
  clear hb6 hx6
  unfold hv at HB6 HX6
  generalize w5.alloc (.cells #[.string h.nm, .int .i64 h.mo, .int .i64 h.ui, .int .i64 h.gi, .int .i64 h.si, .int .i64 h.ti, .int .u8 h.ki, .string h.li, .string h.us, .string h.gr, .int .i64 h.ma, .int .i64 h.mi] 33) = w6 at *
  generalize w5.heap.size = g5 at *
  have HE : Aside0 (Below w.heap.size w w6) := ⟨(HB2.out.trans (HB4.out.mono HB2.out.size)).trans (HB6.out.mono (Nat.le_trans HB2.out.size HB4.out.size))⟩
  have HI6 : Aside0 (Inp w6 g o0 c xs ∧ Inp w6 ga 0 c5 xs ∧ Gl w6) := ⟨HI4.out.below HB6.out, (HO.out.below HB4.out).below HB6.out, HG.out.next HE.out⟩
  have HBy : Aside0 (Calls Tryd.prog 12 #[.slice (some ⟨ga, 0, none⟩) n c5, .slice (some ⟨g, o0, none⟩) n c] w6 fun e w' => e = .returned (.bool true) ∧ Drawn0 w6 w') := ⟨by
    refine bytes_same _ _ n n c5 c xs HL.out.1 rfl (by have := HI6.out.2.1.len; have := HL.out; omega) (by have := HL.out; omega) w6 ?_ ?_
    · have := HL.out.1; rw [← this]; exact C_of_readsInt HI6.out.2.1.all.rd
    · have := HL.out.1; rw [← this]; exact C_of_readsInt HI6.out.1.all.rd⟩
  have HSu := Aside0.mk (HS.out w6 ga 0 c5 HI6.out.2.2 HI6.out.2.1)
  have hx4 := (show Box w4 g3 h from HX4.out).below HB6.out
  obtain ⟨c0, c1, c2, c3, c4, c5', c6, c7, c8, c9, c10, c11⟩ := hx4.all'
  obtain ⟨d0, d1, d2, d3, d4, d5, d6, d7, d8, d9, d10, d11⟩ := (show DBox w6 g5 h from HX6.out).all'
  clear hx4
  go_upto_region 11 with (first
    | (go_at_call 18; (with_reducible refine HSu.out.mono ?_); rintro e w' ⟨rfl, rfl⟩)
    | (go_at_call 11; (with_reducible refine (HNu.out _).mono ?_); rintro e w' ⟨rfl, rfl⟩)
    | (go_at_call 12; (with_reducible refine HBy.out.mono ?_); rintro e w' ⟨rfl, ⟨k, rfl⟩⟩))
  clear c0 c1 c2 c3 c4 c5' c6 c7 c8 c9 c10 c11 d0 d1 d2 d3 d4 d5 d6 d7 d8 d9 d10 d11 hq HSu HBy HNu HT HD HX4 HX6
  have HE7 : Aside0 (Below w.heap.size w (w6.drewN k) ∧ Inp (w6.drewN k) g o0 c xs ∧ Inp (w6.drewN k) ga 0 c5 xs) := ⟨pw_below_drewN HE.out k, HI6.out.1.below (pw_below_drewN (Below.refl _ _) k), HI6.out.2.1.below (pw_below_drewN (Below.refl _ _) k)⟩
  generalize w6.drewN k = w7 at *
  clear HE HI6 HB6 HB5 HI4 HB4 HO HB2 HG2 HB3
  go_wp2_with fail
  go_loopg [10, 11] 512 (fun kq v10 v11 wr => ∃ i : Nat, i ≤ 512 ∧ v11 = .int .i64 i ∧ v10 = .bool (nzTo xs i) ∧ Aside0 (kq = 512 - i) ∧ wr = w7)
  case atStart => exact ⟨0, by omega, rfl, rfl, ⟨rfl⟩, rfl⟩
  case round =>
    obtain ⟨i, hi, rfl, rfl, HK, rfl⟩ := hrel
    by_cases hlt : i < 512
    · have hlt' : (i : Int) < 512 := by omega
      have hci := HE7.out.2.1.cell i (by have := HL.out; omega)
      have HS1 := Aside0.mk (nzTo_succ xs i (by have := HL.out; omega))
      have h0i : (0 : Int) ≤ (i : Int) := by omega
      have hin : (i : Int) < (n : Int) := by omega
      generalize xs.getD i 0 = x at *
      cases hb : nzTo xs i with
      | true =>
        rw [hb, Bool.true_and] at HS1
        have HS2 : Aside0 (nzTo xs (i + 1) = (x == 0)) := ⟨by rw [HS1.out]; unfold isz; cases hx : (x == 0) with
          | true => exact decide_eq_true (eq_of_beq hx)
          | false => exact decide_eq_false (by simpa using hx)⟩
        clear hb hlt hi HS1
        go_wp2_with fail
        go_roundg (512 - (i + 1))
        case measure => have := HK.out; omega
        case rel => exact ⟨i + 1, by omega, by go_num, by rw [HS2.out], ⟨rfl⟩, rfl⟩
      | false =>
        rw [hb, Bool.false_and] at HS1
        clear hb hlt hi
        go_wp2_with fail
        go_roundg (512 - (i + 1))
        case measure => have := HK.out; omega
        case rel => exact ⟨i + 1, by omega, by go_num, by rw [HS1.out], ⟨rfl⟩, rfl⟩
    · have hlt' : ¬ (i : Int) < 512 := by omega
      obtain rfl : i = 512 := by omega
      have HD7 := Aside0.mk (HDS.out wr g o0 c HE7.out.2.1)
      have HN7 : Aside0 (∀ m, Calls Tryd.prog 19 #[.slice (some ⟨ga, 0, none⟩) n c5] (wr.drewN m) fun e w' => e = .returned (.bool (nzTo xs 512)) ∧ Below w.heap.size w w') := ⟨fun m => (HNo.out _ ga 0 c5 (HE7.out.2.2.below (pw_below_drewN (Below.refl _ _) m))).mono fun _ _ k => ⟨k.1, (pw_below_drewN HE7.out.1 m).trans (k.2.mono (pw_below_drewN HE7.out.1 m).size)⟩⟩
      clear hlt hi HDS HNo HE7
      generalize nzTo xs 512 = b at *
      have hbb : (b == b) = true := by simp
      go_wp2_with (first
        | (go_at_call 20; (with_reducible refine HD7.out.mono ?_); rintro e w' ⟨rfl, ⟨m, rfl⟩⟩)
        | (go_at_call 19; (with_reducible refine (HN7.out _).mono ?_); rintro e w' ⟨rfl, hb9⟩; have HB9 := Aside0.mk hb9; clear hb9))
      go_ret
      exact ⟨rfl, HB9.out⟩
theorem takes_walk (A : Option Addr) (m c : Nat) (zs : List Int) (W : World) (hr : IsRow .u8 W A m c zs) (hsz : m * 1 ≤ 140737488351232)
    (hL : laidMetH Tryd.prog Rows.headTakesRow.laid W) :
    Calls Tryd.prog 6 #[.slice A m c] W fun e w' => e = .returned (.bool true) ∧ Below W.heap.size W w' := by
  have hg := gl_of16 hL
  have hcm : c ≤ 9223372036854775807 := by
    rcases hr with ⟨_, _, hc0, _⟩ | ⟨x, _, h1, h2, _⟩
    · omega
    · unfold maxLen at h2; omega
  obtain ⟨l, hl, hc, hC, hwf⟩ := row_C hr
  have hby : ∀ x ∈ l, 0 ≤ x ∧ x < 256 := fun x hx => wf_u8 (hwf x hx)
  by_cases hm : 1200 < m
  · exact takes_out W hg A m c hm (by omega)
  by_cases hs : m < 512
  · exact takes_few W hg A m c l (hl ▸ hC) hl hc hs
  · obtain ⟨g, o0, rfl, hI⟩ := inp_C (hl ▸ hC) hl (by omega) (by omega) hc hcm hby
    have := takes_main W hg g o0 c l hI (by omega)
    rwa [hl] at this
end Go.Proofs.YtiioiikcjaiajaaDoor.My
