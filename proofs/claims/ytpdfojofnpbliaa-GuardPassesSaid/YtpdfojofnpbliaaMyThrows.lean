/- Try and In over functions that leave what was there alone: short rules. -/
import Derived.Test.YtpdfojofnpbliaaMyIn
namespace Go.Proofs.Ytpdfojofnpbliaa.My
open Go.RowKit Go.Proofs.YtpdfojofnpbliaaW.PrintWords Go.Proofs.YtpdfojofnpbliaaW.PrintLast Go.Proofs.YtpdfojofnpbliaaW.PrintMore

/-- A fault is thrown; nothing that was there has turned. -/
def Throws (c : Int) (s : ByteArray) (W : World) (e : Ending) (w' : World) : Prop :=
  ∃ w2, Below W.heap.size W w2 ∧ e = .panicked [{ v := fltV w2.heap.size, recovered := false }] ∧ w' = w2.alloc (.cells #[.int .i64 c, .string s] 54)
/-- It ends; nothing that was there has turned. -/
def Quiet (W : World) (e : Ending) (w' : World) : Prop := (∃ v, e = .returned v) ∧ Below W.heap.size W w'

theorem throw_throws (c : Int) (s : ByteArray) (W : World) : Calls Try.prog 29 #[.int .i64 c, .string s] W (Throws c s W) :=
  (throw_calls c s W).mono fun _ _ ⟨h1, h2⟩ => ⟨W, Below.refl _ _, h1, h2⟩
theorem below_from {W w1 : World} {o : Obj} (h : Below (W.alloc o).heap.size (W.alloc o) w1) : Below W.heap.size W w1 :=
  below_then (below_alloc (Below.refl _ _) o) (by simp) h
theorem kept_new {W w1 : World} {o : Obj} (h : Below (W.alloc o).heap.size (W.alloc o) w1) : w1.heap[W.heap.size]? = some o := by
  rw [h.block W.heap.size (by simp)]
  exact alloc_self W o
theorem ends_throws {c : Int} {s : ByteArray} {W : World} {e : Ending} {w' : World} (h : Throws c s (W.alloc (.cells #[.nilIface] 26)) e w') :
    Ends W.heap.size (fun _ => False) (fun g w1 => ∃ c' s', Flt w1 g c' s' ∧ (c' = c ∧ s' = s ∧ Below W.heap.size W w1 ∧ w1.heap[W.heap.size]? = some (.cells #[.nilIface] 26 (0, 0))) ∧ w1.heap[W.heap.size]? = some (.cells #[.nilIface] 26 (0, 0))) e w' := by
  obtain ⟨w2, hb, rfl, rfl⟩ := h
  have h2 := below_alloc hb (.cells #[.int .i64 c, .string s] 54)
  have hk := kept_new h2
  exact ⟨hk, .inr ⟨_, rfl, c, s, ⟨alloc_self _ _⟩, ⟨rfl, rfl, below_from h2, hk⟩, hk⟩⟩
theorem ends_throws' {c : Int} {s : ByteArray} {W : World} {e : Ending} {w' : World} (h : Throws c s (W.alloc (.cells #[.nilIface] 26)) e w') :
    Ends W.heap.size (fun _ => False) (fun g w1 => Flt w1 g c s ∧ Below W.heap.size W w1 ∧ w1.heap[W.heap.size]? = some (.cells #[.nilIface] 26 (0, 0)) ∧ W.heap.size < g) e w' := by
  obtain ⟨w2, hb, rfl, rfl⟩ := h
  have h2 := below_alloc hb (.cells #[.int .i64 c, .string s] 54)
  have hk := kept_new h2
  exact ⟨hk, .inr ⟨_, rfl, ⟨alloc_self _ _⟩, below_from h2, hk, by have := hb.size; simp at this; omega⟩⟩
theorem try_throws (F : FuncId) (cap : Array Value) (c : Int) (s : ByteArray) (W : World) (hcf : ∀ W : World, (callFunc F cap).run Try.prog W = .ok (.enter F cap) W)
    (h : Calls Try.prog F cap (W.alloc (.cells #[.nilIface] 26)) (Throws c s (W.alloc (.cells #[.nilIface] 26)))) :
    Calls Try.prog 12 #[.func (.func F) #[] cap] W fun e w' => ∃ g, e = .returned (fltV g) ∧ Flt w' g c s ∧ Below W.heap.size W w' ∧ W.heap.size < g := by
  refine (try_fun F cap W _ _ hcf (h.mono fun _ _ h => ends_throws' h)).mono ?_
  rintro e w' (⟨_, w1, hD, _⟩ | ⟨g, rfl, w1, ⟨hF, hb, hk, hg⟩, rfl⟩)
  · exact hD.elim
  · exact ⟨g, rfl, hF.set hk _, hb.setCell (Nat.le_refl _) _, hg⟩
theorem in_throws (wh : ByteArray) (F : FuncId) (cap : Array Value) (c : Int) (s : ByteArray) (W : World) (hwh : wh.size ≤ 1000000000000) (hs : s.size ≤ 1000000000000)
    (hcf : ∀ W : World, (callFunc F cap).run Try.prog W = .ok (.enter F cap) W)
    (h : Calls Try.prog F cap (W.alloc (.cells #[.nilIface] 26)) (Throws c s (W.alloc (.cells #[.nilIface] 26)))) :
    Calls Try.prog 10 #[.string wh, .func (.func F) #[] cap] W (Throws c (joinW wh s) W) := by
  refine (in_fun wh F cap W _ (fun c' s' w1 => c' = c ∧ s' = s ∧ Below W.heap.size W w1 ∧ w1.heap[W.heap.size]? = some (.cells #[.nilIface] 26 (0, 0))) hwh (fun c' s' w1 h => h.2.1 ▸ hs) hcf (h.mono fun _ _ h => ends_throws h)).mono ?_
  rintro e w' (⟨_, w1, hD, _⟩ | ⟨c', s', g, w1, ⟨rfl, rfl, hb, hk⟩, hF, rfl, rfl⟩)
  · exact hD.elim
  · exact ⟨w1.setCell ⟨W.heap.size, 0, none⟩ (fltV g), hb.setCell (Nat.le_refl _) _, by simp, rfl⟩
theorem ends_quiet {W : World} {e : Ending} {w' : World} (T : Nat → World → Prop) (h : Quiet (W.alloc (.cells #[.nilIface] 26)) e w') :
    Ends W.heap.size (fun w1 => Below W.heap.size W w1) T e w' := by
  obtain ⟨⟨v, rfl⟩, hb⟩ := h
  exact ⟨kept_new hb, .inl ⟨v, rfl, below_from hb⟩⟩
theorem try_quiet (F : FuncId) (cap : Array Value) (W : World) (hcf : ∀ W : World, (callFunc F cap).run Try.prog W = .ok (.enter F cap) W)
    (h : Calls Try.prog F cap (W.alloc (.cells #[.nilIface] 26)) (Quiet (W.alloc (.cells #[.nilIface] 26)))) :
    Calls Try.prog 12 #[.func (.func F) #[] cap] W fun e w' => e = .returned .nilIface ∧ Below W.heap.size W w' := by
  refine (try_fun F cap W _ (fun _ _ => False) hcf (h.mono fun _ _ h => ends_quiet _ h)).mono ?_
  rintro e w' (⟨rfl, w1, hD, rfl⟩ | ⟨g, rfl, w1, hF, rfl⟩)
  · exact ⟨rfl, hD.setCell (Nat.le_refl _) _⟩
  · exact hF.elim
end Go.Proofs.Ytpdfojofnpbliaa.My
