/- The walks of utf.Valid, path.right, strings.Split by a slash, path.Less. -/
import Derived.Test.YtiddhdhojhggeaaDoorMyBad
import Derived.Test.YtiddhdhojhggeaaDoorMyPathC
import Derived.Test.YtiddhdhojhggeaaDoorMyNumE
namespace Go.Proofs.YtiddhdhojhggeaaDoor.My
open Go.RowKit Go.Lib Go.Proofs.YtiddhdhojhggeaaDoorW.PrintWords Go.Proofs.YtiddhdhojhggeaaDoor.MyDocCmp
set_option linter.unusedVariables false
set_option linter.unusedSimpArgs false

structure Ok (w0 w : World) : Prop where
  gl : Gl w
  bel : Below w0.heap.size w0 w
theorem Ok.start {w : World} (h : Gl w) : Ok w w := ⟨h, Below.refl _ _⟩
theorem Ok.next {w0 w w1 : World} (h : Ok w0 w) (hb : Below w.heap.size w w1) : Ok w0 w1 := ⟨h.gl.next hb, h.bel.trans (hb.mono h.bel.size)⟩
theorem Ok.drawn {w0 w w1 : World} (h : Ok w0 w) (hd : Drawn0 w w1) : Ok w0 w1 := h.next hd.below

def rightP (s : ByteArray) : Bool := decide (badU s < 0) && decide (indexByte s.data.toList 0 < 0)

theorem valid_ok (s : ByteArray) (w0 w : World) (h : Ok w0 w) (hs : s.size ≤ 1000000) :
    Calls Tryd.prog 36 #[.string s] w fun e w' => e = .returned (.bool (decide (badU s < 0))) ∧ Ok w0 w' := by
  go_enter Tryd.func36, Tryd.ntmps36
  go_wp2_with (go_at_call 49; refine (bad_calls s _ h.gl hs).mono ?_; rintro e w' ⟨rfl, hb⟩; have h2 := h.next hb; clear hb)
  go_ret
  exact ⟨rfl, h2⟩
theorem right_ok (s : ByteArray) (w0 w : World) (h : Ok w0 w) (hs : s.size ≤ 1000000) :
    Calls Tryd.prog 27 #[.string s] w fun e w' => e = .returned (.bool (rightP s)) ∧ Ok w0 w' := by
  cases hv : decide (badU s < 0) with
  | true =>
    have HV : Aside0 (∀ w, Ok w0 w → Calls Tryd.prog 36 #[.string s] w fun e w' => e = .returned (.bool true) ∧ Ok w0 w') := ⟨fun w h => hv ▸ valid_ok s w0 w h hs⟩
    have HR : Aside0 (rightP s = decide (indexByte s.data.toList 0 < 0)) := ⟨by simp only [rightP, hv, Bool.true_and]⟩
    clear hv
    go_enter Tryd.func27, Tryd.ntmps27
    go_wp2_with (first
      | (go_at_call 36; refine (HV.out _ h).mono ?_; rintro e w' ⟨rfl, h2⟩)
      | (go_at_call 37; refine (Tryd.strings_IndexByte s 0 _).mono ?_; rintro e w' ⟨rfl, rfl⟩))
    go_ret
    exact ⟨by rw [HR.out]; rfl, h2⟩
  | false =>
    have HV : Aside0 (∀ w, Ok w0 w → Calls Tryd.prog 36 #[.string s] w fun e w' => e = .returned (.bool false) ∧ Ok w0 w') := ⟨fun w h => hv ▸ valid_ok s w0 w h hs⟩
    have HR : Aside0 (rightP s = false) := ⟨by simp only [rightP, hv, Bool.false_and]⟩
    clear hv
    go_enter Tryd.func27, Tryd.ntmps27
    go_wp2_with (first
      | (go_at_call 36; refine (HV.out _ h).mono ?_; rintro e w' ⟨rfl, h2⟩)
      | (go_at_call 37; refine (Tryd.strings_IndexByte s 0 _).mono ?_; rintro e w' ⟨rfl, rfl⟩))
    go_ret
    exact ⟨by rw [HR.out]; rfl, h2⟩

/-! ### strings.Split by a slash -/
theorem C_strs (w : World) (g : Nat) (l : List ByteArray) (e : TypeId) (fr : Nat × Nat) (h : w.heap[g]? = some (.cells (l.map Value.string).toArray e fr)) (hm : l.length ≤ 9223372036854775807) :
    Kd.string.C w (some ⟨g, 0, none⟩) l.length l := by
  refine Kd.C_of_reads (d := ByteArray.empty) ⟨rfl, hm, fun _ => ⟨_, rfl, fun j hj => ?_⟩⟩
  rw [add_plain, World.cell?]
  simp [h, hj, List.getD_eq_getElem?_getD]
theorem splitB_lists (s : ByteArray) : lists (splitB ⟨#[47]⟩ 0 (countB s ⟨#[47]⟩) s) = parts s.data.toList := by
  rw [lists, splitB_data]
  exact split_parts _
theorem parts_len (l : List UInt8) : (parts l).length ≤ l.length + 1 := by
  rw [count_parts]
  have : ∀ (n : Nat) (l : List UInt8), l.length ≤ n → count l [47] ≤ l.length := by
    intro n
    induction n with
    | zero =>
      intro l hl
      have : l = [] := List.eq_nil_of_length_eq_zero (by omega)
      subst this
      rw [count_miss (show index [] [47] = -1 by simp [index])]
      omega
    | succ n ih =>
      intro l hl
      rcases index_ind l with ⟨e, hn⟩ | ⟨i, e, hi, hn, hs⟩
      · rw [count_miss e]; omega
      · rw [count_hit (by simp) e, show ([47] : List UInt8).length = 1 from rfl]
        have := ih (l.drop (i + 1)) (by rw [List.length_drop]; omega)
        rw [List.length_drop] at this
        omega
  have := this _ l (Nat.le_refl _)
  omega
theorem split_ok (s : ByteArray) (w0 w : World) (h : Ok w0 w) (hs : s.size ≤ 1000000) :
    Calls Tryd.prog 25 #[.string s, .string ⟨#[47]⟩] w fun e w' => ∃ l : List ByteArray, e = .returned (.slice (some ⟨w.heap.size, 0, none⟩) l.length l.length) ∧ lists l = parts s.data.toList ∧
      l.length ≤ 1000001 ∧ w'.heap[w.heap.size]? = some (.cells (l.map Value.string).toArray 9 (0, 0)) ∧ Below w.heap.size w w' ∧ Ok w0 w' := by
  obtain ⟨m, hm⟩ := h.gl.mx
  refine (Tryd.strings_Split s ⟨#[47]⟩ m w (by omega) hm (by decide)).mono ?_
  rintro e w' ⟨rfl, rfl⟩
  have hl := splitB_lists s
  have hb : Below w.heap.size w (w.alloc (.cells ((splitB ⟨#[47]⟩ 0 (countB s ⟨#[47]⟩) s).map Value.string).toArray 9)) := below_alloc (Below.refl _ _) _
  have hlen : (splitB ⟨#[47]⟩ 0 (countB s ⟨#[47]⟩) s).length = countB s ⟨#[47]⟩ + 1 := by
    have := congrArg List.length hl
    rw [count_parts] at this
    simpa using this
  have hle := parts_len s.data.toList
  rw [count_parts, data_length] at hle
  have hc : countB s ⟨#[47]⟩ = count s.data.toList [47] := rfl
  exact ⟨_, by rw [hlen], hl, by rw [hlen]; omega, alloc_self _ _, hb, h.next hb⟩

theorem less_ok (a b : ByteArray) (w0 w : World) (h : Ok w0 w) (ha : a.size ≤ 1000000) (hb : b.size ≤ 1000000) :
    Calls Tryd.prog 8 #[.string a, .string b] w fun e w' => e = .returned (.bool (lessP a.data.toList b.data.toList)) ∧ Ok w0 w' := by
  go_enter Tryd.func8, Tryd.ntmps8
  go_wp2_with fail
  refine (split_ok a w0 _ h ha).mono ?_
  rintro e w1 ⟨l1, rfl, hl1, hn1, hc1, hb1, h1⟩
  have C1 := C_strs w1 _ l1 _ _ hc1 (by omega)
  have HL1 := Aside0.mk (And.intro hl1 (And.intro C1 h1))
  clear hl1 hc1 hb1 h C1
  go_wp2_with fail
  refine (split_ok b w0 _ h1 hb).mono ?_
  rintro e w2 ⟨l2, rfl, hl2, hn2, hc2, hb2, h2⟩
  have C2 := C_strs w2 _ l2 _ _ hc2 (by omega)
  have C3 := Kd.C_below HL1.out.2.1 hb2
  have hlt : (cmpP (lists l1) (lists l2) < 0) ↔ lessP a.data.toList b.data.toList = true := by rw [cmpP_lt, HL1.out.1, hl2]; rfl
  have hd : decide (cmpP (lists l1) (lists l2) < 0) = lessP a.data.toList b.data.toList := by
    cases k : lessP a.data.toList b.data.toList with
    | true => exact decide_eq_true (hlt.2 k)
    | false => exact decide_eq_false (fun q => by rw [hlt.1 q] at k; cases k)
  have HX := Aside0.mk (And.intro C2 (And.intro C3 (And.intro h2 hd)))
  clear hl2 hc2 hb2 C2 C3 hlt hd h1 h2
  go_wp2_with fail
  refine (slices_Compare_string_string.calls _ _ _ l1 _ _ l2 _ _ HX.out.2.1 (Nat.le_refl _) HX.out.1 (Nat.le_refl _) (compare_f l1 l2 (by omega) (by omega))).mono ?_
  rintro e w3 ⟨rfl, hd3⟩
  have h3 := HX.out.2.2.1.drawn hd3
  clear hd3
  go_wp2_with fail
  go_ret
  exact ⟨by rw [← HX.out.2.2.2]; rfl, h3⟩
end Go.Proofs.YtiddhdhojhggeaaDoor.My
