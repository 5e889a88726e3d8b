/- The walks of guard.In and guard.Pass. -/
import Derived.Test.YtpdfojofnpbliaaMyTry
namespace Go.Proofs.Ytpdfojofnpbliaa.My
open Go.RowKit Go.Proofs.YtpdfojofnpbliaaW.PrintWords Go.Proofs.YtpdfojofnpbliaaW.PrintLast Go.Proofs.YtpdfojofnpbliaaW.PrintMore

theorem Flt.set {w : World} {g k : Nat} {c : Int} {s : ByteArray} {x : Value} (h : Flt w g c s) (hk : w.heap[k]? = some (.cells #[x] 26 (0, 0))) (v : Value) : Flt (w.setCell ⟨k, 0, none⟩ v) g c s := by
  refine ⟨?_⟩
  have hne : g ≠ k := by
    rintro rfl
    rw [h.out] at hk
    simp at hk
  rw [Below.heap_setCell w ⟨k, 0, none⟩ v g hne]
  exact h.out
/-- A place ahead of a place. -/
def joinW (a b : ByteArray) : ByteArray := if b.toList.isEmpty then a else a ++ (⟨#[46]⟩ ++ b)
theorem in_fun (wh : ByteArray) (F : FuncId) (cap : Array Value) (w : World) (D : World → Prop) (X : Int → ByteArray → World → Prop)
    (hwh : wh.size ≤ 1000000000000) (hXs : ∀ c s w1, X c s w1 → s.size ≤ 1000000000000)
    (hcf : ∀ W : World, (callFunc F cap).run Try.prog W = .ok (.enter F cap) W)
    (hR : Calls Try.prog F cap (w.alloc (.cells #[.nilIface] 26)) (Ends w.heap.size D (fun g w1 => ∃ c s, Flt w1 g c s ∧ X c s w1 ∧ w1.heap[w.heap.size]? = some (.cells #[.nilIface] 26 (0, 0))))) :
    Calls Try.prog 10 #[.string wh, .func (.func F) #[] cap] w fun e w' =>
      (e = .returned (.tuple #[]) ∧ ∃ w1, D w1 ∧ w' = w1.setCell ⟨w.heap.size, 0, none⟩ .nilIface) ∨
      (∃ c s g w1, X c s w1 ∧ Flt w1 g c s ∧ e = .panicked [{ v := fltV w1.heap.size, recovered := false }] ∧ w' = (w1.setCell ⟨w.heap.size, 0, none⟩ (fltV g)).alloc (.cells #[.int .i64 c, .string (joinW wh s)] 54)) := by
  have HT := Aside0.mk (try_fun F cap w _ _ hcf hR)
  clear hR hcf
  go_enter Try.func10, Try.ntmps10
  go_wp2_with fail
  refine HT.out.mono ?_
  rintro e w' (⟨rfl, w1, hD, rfl⟩ | ⟨g, rfl, w1, ⟨c, s, hF, hX, hk⟩, rfl⟩)
  · have HD := Aside0.mk hD
    clear hD
    go_wp2
    refine bodyPost_ret (results_none rfl _ _ _) rfl (.inl ⟨rfl, w1, HD.out, rfl⟩)
  · have hF1 := hF.set hk (fltV g)
    have H1 := Aside0.mk hF1
    have HX := Aside0.mk (And.intro hX hF)
    have hsz := hXs _ _ _ hX
    clear hF1 hX hF hk
    by_cases hs : s.toList.isEmpty = true
    · go_wp2_with (first
        | (go_at_call 23; refine (where_flt g c s _ H1.out).mono ?_; rintro e w2 ⟨rfl, rfl⟩)
        | (go_at_call 22; refine (code_flt g c s _ H1.out).mono ?_; rintro e w2 ⟨rfl, rfl⟩)
        | (go_at_call 29; refine (throw_calls _ _ _).mono ?_; rintro e w2 ⟨rfl, rfl⟩))
      refine post_panic rfl (.inr ⟨c, s, g, w1, HX.out.1, HX.out.2, rfl, ?_⟩)
      rw [joinW, if_pos hs]
    · have hs' : s.toList.isEmpty = false := by simpa using hs
      have HJ : Aside0 (joinW wh s = wh ++ (⟨#[46]⟩ ++ s)) := ⟨by rw [joinW, if_neg hs]⟩
      clear hs
      go_wp2_with (first
        | (go_at_call 23; refine (where_flt g c s _ H1.out).mono ?_; rintro e w2 ⟨rfl, rfl⟩)
        | (go_at_call 22; refine (code_flt g c s _ H1.out).mono ?_; rintro e w2 ⟨rfl, rfl⟩)
        | (go_at_call 29; refine (throw_calls _ _ _).mono ?_; rintro e w2 ⟨rfl, rfl⟩))
      refine post_panic rfl (.inr ⟨c, s, g, w1, HX.out.1, HX.out.2, rfl, ?_⟩)
      rw [HJ.out]

theorem pass_nil (w : World) : Calls Try.prog 21 #[.nilIface] w fun e w' => e = .returned (.tuple #[]) ∧ w = w' := by
  go_enter Try.func21, Try.ntmps21
  go_wp2
  go_end0
  exact ⟨rfl, rfl⟩
theorem pass_flt (g : Nat) (c : Int) (s : ByteArray) (w : World) (h : Flt w g c s) : Calls Try.prog 21 #[fltV g] w fun e w' =>
    e = .panicked [{ v := fltV w.heap.size, recovered := false }] ∧ w' = w.alloc (.cells #[.int .i64 c, .string s] 54) := by
  have H1 := Aside0.mk h
  clear h
  go_enter Try.func21, Try.ntmps21
  go_wp2_with (first
    | (go_at_call 23; refine (where_flt g c s _ H1.out).mono ?_; rintro e w2 ⟨rfl, rfl⟩)
    | (go_at_call 22; refine (code_flt g c s _ H1.out).mono ?_; rintro e w2 ⟨rfl, rfl⟩)
    | (go_at_call 29; refine (throw_calls _ _ _).mono ?_; rintro e w2 ⟨rfl, rfl⟩))
  exact post_panic rfl ⟨rfl, rfl⟩
theorem pass_err (c : Int) (w : World) : Calls Try.prog 21 #[numV c] w fun e w' =>
    e = .panicked [{ v := fltV w.heap.size, recovered := false }] ∧ w' = w.alloc (.cells #[.int .i64 c, .string ⟨#[]⟩] 54) := by
  go_enter Try.func21, Try.ntmps21
  go_wp2_with (first
    | (go_at_call 23; refine (where_err c _).mono ?_; rintro e w2 ⟨rfl, rfl⟩)
    | (go_at_call 22; refine (code_err c _).mono ?_; rintro e w2 ⟨rfl, rfl⟩)
    | (go_at_call 29; refine (throw_calls _ _ _).mono ?_; rintro e w2 ⟨rfl, rfl⟩))
  exact post_panic rfl ⟨rfl, rfl⟩
end Go.Proofs.Ytpdfojofnpbliaa.My
