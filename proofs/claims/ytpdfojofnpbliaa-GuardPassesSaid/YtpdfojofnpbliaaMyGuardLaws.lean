/- The laws of guard, walked. -/
import Derived.Test.YtpdfojofnpbliaaMyThrows
import Derived.Test.YtpdfojofnpbliaaPWordx1
import Derived.Test.YtpdfojofnpbliaaPErrorx1
import Derived.RegionTactic
import Derived.Deep.RegionHeld3
namespace Go.Proofs.Ytpdfojofnpbliaa.My
open Go.RowKit Go.Proofs.YtpdfojofnpbliaaW.PrintWords Go.Proofs.YtpdfojofnpbliaaW.PrintLast Go.Proofs.YtpdfojofnpbliaaW.PrintMore

theorem cf_of {P : Program} {F : FuncId} {cap : Array Value} (h : ∀ W : World, (callFunc F cap).run P W = .ok (.enter F cap) W) : ∀ W : World, (callFunc F cap).run P W = .ok (.enter F cap) W := h

theorem alive2_throws (W : World) : Calls Try.prog 28 #[] W (Throws 2 ⟨#[97]⟩ W) := by
  go_enter Try.func28, Try.ntmps28
  go_wp2_with (go_at_call 29; refine (throw_throws _ _ _).mono ?_; rintro e w2 ⟨w3, hb, rfl, rfl⟩)
  exact post_panic rfl ⟨w3, hb, rfl, rfl⟩
theorem alive1_throws (W : World) : Calls Try.prog 27 #[] W (Throws 2 (joinW ⟨#[98]⟩ ⟨#[97]⟩) W) := by
  go_enter Try.func27, Try.ntmps27
  go_wp2_with fail
  refine (in_throws ⟨#[98]⟩ 28 #[] 2 ⟨#[97]⟩ _ (by decide) (by decide) (fun _ => rfl) (alive2_throws _)).mono ?_
  rintro e w2 ⟨w3, hb, rfl, rfl⟩
  go_wp2
  exact post_panic rfl ⟨w3, hb, rfl, rfl⟩
theorem alive_calls (w : World) : Calls Try.prog 7 #[] w fun e w' => e = .returned (.bool true) ∧ Below w.heap.size w w' := by
  have hj : joinW ⟨#[98]⟩ ⟨#[97]⟩ = ⟨#[98, 46, 97]⟩ := by decide +kernel
  go_enter Try.func7, Try.ntmps7
  go_wp2_with fail
  refine (try_throws 27 #[] 2 _ _ (fun _ => rfl) (alive1_throws _)).mono ?_
  rintro e w1 ⟨g, rfl, hF, hb, _⟩
  rw [hj] at hF
  have HF := Aside0.mk hF
  have HB := Aside0.mk hb
  clear hF hb hj
  go_wp2_with (first
    | (go_at_call 23; refine (where_flt g _ _ _ HF.out).mono ?_; rintro e w2 ⟨rfl, rfl⟩)
    | (go_at_call 22; refine (code_flt g _ _ _ HF.out).mono ?_; rintro e w2 ⟨rfl, rfl⟩))
  go_ret
  exact ⟨rfl, HB.out⟩

/-- A code's word. -/
def wordOf (c : Int) : ByteArray := (PError.api_Errno_Error.f c).getD ⟨#[]⟩
theorem ite_some {α : Type} {c : Prop} [Decidable c] {a b : Option α} (ha : ∃ r, a = some r) (hb : ∃ r, b = some r) : ∃ r, (if c then a else b) = some r := by
  split
  · exact ha
  · exact hb
theorem err_word (c : Int) : PError.api_Errno_Error.f c = some (wordOf c) := by
  obtain ⟨r, hr⟩ : ∃ r, PError.api_Errno_Error.f c = some r := by
    unfold PError.api_Errno_Error.f
    repeat' (first | exact ⟨_, rfl⟩ | apply ite_some)
  unfold wordOf
  rw [hr]
  rfl
theorem ref_word (c : Int) : PWord.crossdockref01_Word.f c = some (wordOf c) := by
  by_cases h : 1 ≤ c ∧ c ≤ 16
  · have : c = 1 ∨ c = 2 ∨ c = 3 ∨ c = 4 ∨ c = 5 ∨ c = 6 ∨ c = 7 ∨ c = 8 ∨ c = 9 ∨ c = 10 ∨ c = 11 ∨ c = 12 ∨ c = 13 ∨ c = 14 ∨ c = 15 ∨ c = 16 := by omega
    rcases this with rfl | rfl | rfl | rfl | rfl | rfl | rfl | rfl | rfl | rfl | rfl | rfl | rfl | rfl | rfl | rfl <;> rfl
  · have h1 : wordOf c = ⟨#[117, 110, 107, 110, 111, 119, 110]⟩ := by
      unfold wordOf PError.api_Errno_Error.f
      repeat (rw [if_neg (by omega)])
      rfl
    rw [h1]
    unfold PWord.crossdockref01_Word.f
    rw [Option.bind_some]
    by_cases h0 : c < 1
    · rw [if_pos h0]; rfl
    · rw [if_neg h0, if_pos (by simp; omega)]; rfl
theorem word_size (c : Int) : (wordOf c).size ≤ 100 := by
  by_cases h : 1 ≤ c ∧ c ≤ 16
  · have : c = 1 ∨ c = 2 ∨ c = 3 ∨ c = 4 ∨ c = 5 ∨ c = 6 ∨ c = 7 ∨ c = 8 ∨ c = 9 ∨ c = 10 ∨ c = 11 ∨ c = 12 ∨ c = 13 ∨ c = 14 ∨ c = 15 ∨ c = 16 := by omega
    rcases this with rfl | rfl | rfl | rfl | rfl | rfl | rfl | rfl | rfl | rfl | rfl | rfl | rfl | rfl | rfl | rfl <;> decide
  · have h1 : wordOf c = ⟨#[117, 110, 107, 110, 111, 119, 110]⟩ := by
      unfold wordOf PError.api_Errno_Error.f
      repeat (rw [if_neg (by omega)])
      rfl
    rw [h1]
    decide
/-- A fault's text. -/
def textOf (c : Int) (s : ByteArray) : ByteArray := if s.toList = [] then wordOf c else (wordOf c ++ ⟨#[58, 32]⟩) ++ s
theorem errw_calls (c : Int) (w : World) : Calls Try.prog 34 #[.int .i64 c] w fun e w' => e = .returned (.string (wordOf c)) ∧ ∃ n, w' = w.drewN n :=
  (PError.api_Errno_Error.calls c _ w (err_word c)).mono fun _ _ ⟨h1, ⟨n, h2⟩⟩ => ⟨h1, n, h2⟩
theorem text_nil (w : World) : Calls Try.prog 25 #[.pointer none] w fun e w' => e = .returned (.string ⟨#[]⟩) ∧ w = w' := by
  go_enter Try.func25, Try.ntmps25
  go_wp2
  go_ret
  exact ⟨rfl, rfl⟩
theorem text_flt (g : Nat) (c : Int) (s : ByteArray) (w : World) (h : Flt w g c s) (hs : s.size ≤ 1000000) :
    Calls Try.prog 25 #[.pointer (some ⟨g, 0, none⟩)] w fun e w' => e = .returned (.string (textOf c s)) ∧ ∃ n, w' = w.drewN n := by
  have c0 : w.cell? ⟨g, 0, none⟩ = some (.int .i64 c) := by rw [blk_cell h.out]; rfl
  have c1 : w.cell? ⟨g, 1, none⟩ = some (.string s) := by rw [blk_cell h.out]; rfl
  clear h
  have hz := word_size c
  by_cases he : s.toList = []
  · have HT : Aside0 (textOf c s = wordOf c) := ⟨by rw [textOf, if_pos he]⟩
    go_enter Try.func25, Try.ntmps25
    go_wp2_with (go_at_call 34; refine (errw_calls _ _).mono ?_; rintro e w2 ⟨rfl, ⟨n, rfl⟩⟩)
    go_ret
    rw [HT.out]
    exact ⟨rfl, n, rfl⟩
  · have HT : Aside0 (textOf c s = (wordOf c ++ ⟨#[58, 32]⟩) ++ s) := ⟨by rw [textOf, if_neg he]⟩
    have he2 : s.toList.isEmpty = false := by rw [List.isEmpty_eq_false_iff]; exact he
    clear he
    have hsz : (wordOf c ++ (⟨#[58, 32]⟩ : ByteArray)).size = (wordOf c).size + 2 := by rw [ByteArray.size_append]; rfl
    go_enter Try.func25, Try.ntmps25
    go_wp2_with fail
    go_quiet ((go_at_call 34; exact Calls.quiet_of (errw_calls _ _)))
    go_wp2
    go_ret
    rw [HT.out]
    exact ⟨rfl, _, rfl⟩
theorem refw_calls (c : Int) (w : World) : Calls Try.prog 35 #[.int .i64 c] w fun e w' => e = .returned (.string (wordOf c)) ∧ Below w.heap.size w w' :=
  PWord.crossdockref01_Word.calls c _ w (ref_word c)
theorem held_start (w : World) (c : Int) (s : ByteArray) (b : Bool) : (w.alloc (.cells #[.int .i64 c, .string s, .bool b] 39)).drew.cell? ⟨w.heap.size, 0, none⟩ = some (.int .i64 c) ∧
    (w.alloc (.cells #[.int .i64 c, .string s, .bool b] 39)).drew.cell? ⟨w.heap.size, 1, none⟩ = some (.string s) ∧ Below w.heap.size w (w.alloc (.cells #[.int .i64 c, .string s, .bool b] 39)).drew := by
  have h := alloc_self w (.cells #[.int .i64 c, .string s, .bool b] 39)
  have h0 := blk_cell h 0
  have h1 := blk_cell h 1
  exact ⟨h0, h1, (below_alloc (Below.refl _ _) _).drew⟩
theorem held_keep {w : World} {x0 x1 : Value} {W w2 : World} (h : W.cell? ⟨w.heap.size, 0, none⟩ = some x0 ∧ W.cell? ⟨w.heap.size, 1, none⟩ = some x1 ∧ Below w.heap.size w W) (hb : Below W.heap.size W w2) :
    w2.cell? ⟨w.heap.size, 0, none⟩ = some x0 ∧ w2.cell? ⟨w.heap.size, 1, none⟩ = some x1 ∧ Below w.heap.size w w2 :=
  ⟨pw_cell_below hb h.1, pw_cell_below hb h.2.1, below_then h.2.2 h.2.2.size hb⟩
theorem reft_calls (c : Int) (s : ByteArray) (b : Bool) (w : World) (hs : s.size ≤ 1000000) :
    Calls Try.prog 26 #[.agg #[.int .i64 c, .string s, .bool b]] w fun e w' => e = .returned (.string (textOf c s)) ∧ Below w.heap.size w w' := by
  have hz := word_size c
  by_cases he : s.toList = []
  · have HT : Aside0 (textOf c s = wordOf c) := ⟨by rw [textOf, if_pos he]⟩
    go_enter Try.func26, Try.ntmps26
    go_wp2_with (go_at_call 35; refine (refw_calls _ _).mono ?_; rintro e w2 ⟨rfl, hb⟩; have HB := Aside0.mk hb; clear hb)
    go_ret
    rw [HT.out]
    exact ⟨rfl, below_from HB.out⟩
  · have HT : Aside0 (textOf c s = (wordOf c ++ ⟨#[58, 32]⟩) ++ s) := ⟨by rw [textOf, if_neg he]⟩
    have he2 : s.toList.isEmpty = false := by rw [List.isEmpty_eq_false_iff]; exact he
    clear he
    have hsz : (wordOf c ++ (⟨#[58, 32]⟩ : ByteArray)).size = (wordOf c).size + 2 := by rw [ByteArray.size_append]; rfl
    go_enter Try.func26, Try.ntmps26
    have hq1 : ¬ 9223372036854775807 < (wordOf c).size + 2 := by omega
    have hq2 : ¬ 9223372036854775807 < (wordOf c ++ (⟨#[58, 32]⟩ : ByteArray)).size + s.size := by rw [hsz]; omega
    have hq3 : ¬ 9223372036854775807 < (wordOf c).size + 2 + s.size := by omega
    have HSZ := Aside0.mk hsz
    clear hsz
    go_wp2_with fail
    go_region_held3 (fun w' => w'.cell? ⟨w.heap.size, 0, none⟩ = some (.int .i64 c) ∧ w'.cell? ⟨w.heap.size, 1, none⟩ = some (.string s) ∧ Below w.heap.size w w') (first | exact held_start w c s b | assumption | exact held_keep (by assumption) (by assumption) | exact held_keep ⟨by assumption, by assumption, by assumption⟩ (by assumption))
      (first | (go_at_call 35; refine (refw_calls c _).mono ?_; rintro e w2 ⟨rfl, hb⟩))
    go_wp2
    go_ret
    rw [HT.out]
    have hS : w2.cell? ⟨w.heap.size, 0, none⟩ = some (.int .i64 c) ∧ w2.cell? ⟨w.heap.size, 1, none⟩ = some (.string s) ∧ Below w.heap.size w w2 := by assumption
    exact ⟨rfl, hS.2.2⟩

theorem try_nil (w : World) : Calls Try.prog 12 #[.nilFunc] w fun e w' => e = .returned .nilIface ∧ Below w.heap.size w w' := by
  have hmf : ∀ (fn : Fn) (first cap : Array Value) (w : World), (Instr.makeFunc fn first cap).run Try.prog w = .ok (.func fn first cap) w := fun _ _ _ _ => rfl
  have hnf : ∀ (W : World), (Go.binOp .eql 1 Value.nilFunc Value.nilFunc).run Try.prog W = .ok (.bool true) W := fun _ => rfl
  go_enter_defers Try.func12, Try.ntmps12
  go_wp2
  simp [bodyPostD, Leaves, results, Try.results12, go_sem]
  exact below_alloc (Below.refl _ _) _
set_option maxHeartbeats 1000000 in
theorem tells_calls (c : Int) (s : ByteArray) (w : World) (hs : s.size ≤ 100) :
    Calls Try.prog 6 #[.int .i64 c, .string s] w fun e w' => e = .returned (.bool true) ∧ Below w.heap.size w w' := by
  go_enter Try.func6, Try.ntmps6
  go_wp2_with (first
    | (go_at_call 7; refine (alive_calls _).mono ?_; rintro e w1 ⟨rfl, hb⟩; have HB := Aside0.mk hb; clear hb))
  have hF : Flt (w1.alloc (.cells #[.int .i64 c, .string s] 54)) w1.heap.size c s := ⟨alloc_self _ _⟩
  have hB : Below w.heap.size w (w1.alloc (.cells #[.int .i64 c, .string s] 54)) := below_alloc HB.out _
  refine (text_flt w1.heap.size c s _ hF (by omega)).mono ?_
  rintro e w2 ⟨rfl, ⟨n, rfl⟩⟩
  have HF := Aside0.mk (hF.drewN n)
  have HB1 := Aside0.mk (pw_below_drewN hB n)
  clear hF hB HB
  go_wp2_with fail
  refine (reft_calls c s false _ (by omega)).mono ?_
  rintro e w2 ⟨rfl, hb⟩
  have HF2 := Aside0.mk (HF.out.below hb)
  have HB2 := Aside0.mk (below_then HB1.out HB1.out.size hb)
  clear hb HF HB1
  go_wp2_with fail
  refine (text_nil _).mono ?_
  rintro e w' ⟨rfl, rfl⟩
  go_wp2_with fail
  refine (code_flt w1.heap.size c s _ HF2.out).mono ?_
  rintro e w' ⟨rfl, rfl⟩
  go_wp2_with fail
  refine (where_flt w1.heap.size c s _ HF2.out).mono ?_
  rintro e w' ⟨rfl, rfl⟩
  go_wp2_with fail
  refine (code_err c _).mono ?_
  rintro e w' ⟨rfl, rfl⟩
  go_wp2_with fail
  refine (where_err c _).mono ?_
  rintro e w' ⟨rfl, rfl⟩
  go_wp2_with fail
  refine (code_nil _).mono ?_
  rintro e w' ⟨rfl, rfl⟩
  go_wp2_with fail
  refine (where_nil _).mono ?_
  rintro e w' ⟨rfl, rfl⟩
  go_wp2_with fail
  refine (code_fltN _).mono ?_
  rintro e w' ⟨rfl, rfl⟩
  go_wp2_with fail
  refine (where_fltN _).mono ?_
  rintro e w' ⟨rfl, rfl⟩
  go_wp2_with fail
  refine (try_nil _).mono ?_
  rintro e w5 ⟨rfl, hb⟩
  have HB5 := Aside0.mk (below_then HB2.out HB2.out.size hb)
  clear hb
  go_wp2
  go_ret
  exact ⟨rfl, HB5.out⟩
theorem tells_walk (c : Int) (s : ByteArray) (W : World) (_w0 : (Lit.int .i64 c).wf = true) (_w1 : s.size ≤ 140737488351232) :
    Calls Try.prog 6 #[.int .i64 c, .string s] W fun e w' => e = .returned (.bool true) ∧ Below W.heap.size W w' := by
  by_cases h : s.size ≤ 100
  · exact tells_calls c s W h
  · go_enter Try.func6, Try.ntmps6
    go_wp2_with (first
      | (go_at_call 7; refine (alive_calls _).mono ?_; rintro e w1 ⟨rfl, hb⟩; have HB := Aside0.mk hb; clear hb))
    go_ret
    exact ⟨rfl, HB.out⟩
end Go.Proofs.Ytpdfojofnpbliaa.My
