/- cmp.Compare of two strings, in the print's words: its own text falls at '>'. -/
import Derived.Test.YtiddhdhojhggeaaDoorMyDocNan
import Derived.WalkLawsBesides
namespace Go.Proofs.YtiddhdhojhggeaaDoor.MyCmpS
open Go.Proofs.YtiddhdhojhggeaaDoor.PPathParts Go.Proofs.YtiddhdhojhggeaaDoor.MyDocNan
open Go.RowKit Go.Proofs.YtiddhdhojhggeaaDoorW.PrintWords Go.Proofs.YtiddhdhojhggeaaDoorW.PrintLast Go.Proofs.YtiddhdhojhggeaaDoorW.PrintMore
set_option linter.unusedVariables false
set_option linter.unusedSimpArgs false

theorem bl_irrefl : ∀ l : List UInt8, Op.bytesLess l l = false
  | [] => rfl
  | a :: l => by simp [Op.bytesLess, bl_irrefl l]
theorem bl_tri : ∀ a b : List UInt8, Op.bytesLess a b = false → Op.bytesLess b a = false → a = b
  | [], [] => fun _ _ => rfl
  | [], b :: l => fun h _ => by simp [Op.bytesLess] at h
  | a :: l, [] => fun _ h => by simp [Op.bytesLess] at h
  | a :: x, b :: y => fun h k => by
    simp only [Op.bytesLess, Bool.or_eq_false_iff, decide_eq_false_iff_not, Bool.and_eq_false_iff] at h k
    have e : a = b := by
      rcases h with ⟨h1, _⟩
      rcases k with ⟨k1, _⟩
      have := UInt8.le_antisymm (UInt8.not_lt.1 k1) (UInt8.not_lt.1 h1)
      exact this
    subst e
    have h2 : Op.bytesLess x y = false := by simpa using h.2
    have k2 : Op.bytesLess y x = false := by simpa using k.2
    rw [bl_tri x y h2 k2]

def cmp_Compare_string.f (a0 : ByteArray) (a1 : ByteArray) : Option (Int) := (cmp_isNaN_string.f a0).bind fun t101 => ((cmp_isNaN_string.f a1).bind fun t102 => (if t101 = true then (if t102 = true then (some 0) else (some (-1))) else (if t102 = true then (some 1) else (if (Op.bytesLess a0.toList a1.toList) = true then (some (-1)) else (if (Op.bytesLess a1.toList a0.toList) = true then (some 1) else (some 0))))))

def cmpV (a b : List UInt8) : Int := if Op.bytesLess a b = true then -1 else if Op.bytesLess b a = true then 1 else 0
theorem cmp_f (a b : ByteArray) : cmp_Compare_string.f a b = some (cmpV a.toList b.toList) := by
  have h1 : cmp_isNaN_string.f a = some false := by simp [cmp_isNaN_string.f]
  have h2 : cmp_isNaN_string.f b = some false := by simp [cmp_isNaN_string.f]
  simp only [cmp_Compare_string.f, h1, h2, Option.bind_some, Bool.false_eq_true, if_false]
  unfold cmpV
  split
  · rfl
  · split <;> rfl

theorem cmp_Compare_string.calls (a0 : ByteArray) (a1 : ByteArray) (r : Int) (w : World) (h : cmp_Compare_string.f a0 a1 = some r) :
    Calls Tryd.prog 33 #[.string a0, .string a1] w fun e w' => e = .returned (.int .i64 r) ∧ Drawn0 w w' := by
  have HN : Aside0 (∀ (a : ByteArray) (w : World), Calls Tryd.prog 45 #[.string a] w fun e w' => e = .returned (.bool false) ∧ ∃ n, w' = w.drewN n) :=
    ⟨fun a w => (cmp_isNaN_string.calls a false w (by simp [cmp_isNaN_string.f])).mono fun e w' ⟨h1, h2⟩ => ⟨h1, h2.out⟩⟩
  rw [cmp_f] at h
  obtain rfl := Option.some.inj h
  clear h
  have hz : 0 = 0 := rfl
  cases h1 : Op.bytesLess a0.toList a1.toList with
  | true =>
    have hv : cmpV a0.toList a1.toList = -1 := by simp [cmpV, h1]
    rw [hv]
    clear hv hz
    go_enter Tryd.func33, Tryd.ntmps33
    go_wp2_with (go_at_call 45; refine (HN.out _ _).mono ?_; rintro e w' ⟨rfl, n, rfl⟩)
    go_ret
    exact ⟨rfl, ⟨⟨_, rfl⟩⟩⟩
  | false =>
    cases h2 : Op.bytesLess a1.toList a0.toList with
    | true =>
      have hv : cmpV a0.toList a1.toList = 1 := by simp [cmpV, h1, h2]
      rw [hv]
      have h3 : (!a0.toList == a1.toList) = true := by
        rw [Bool.not_eq_true']
        rw [beq_eq_false_iff_ne]
        intro e
        rw [e, bl_irrefl] at h1
        rw [e, bl_irrefl] at h2
        cases h2
      have h4 : (a0.toList == a1.toList) = false := by simpa using h3
      clear hv hz
      go_enter Tryd.func33, Tryd.ntmps33
      go_wp2_with (go_at_call 45; refine (HN.out _ _).mono ?_; rintro e w' ⟨rfl, n, rfl⟩)
      go_ret
      exact ⟨rfl, ⟨⟨_, rfl⟩⟩⟩
    | false =>
      have hv : cmpV a0.toList a1.toList = 0 := by simp [cmpV, h1, h2]
      rw [hv]
      have h4 : (a0.toList == a1.toList) = true := beq_iff_eq.2 (bl_tri _ _ h1 h2)
      have h3 : (!a0.toList == a1.toList) = false := by rw [h4]; rfl
      clear hv hz
      go_enter Tryd.func33, Tryd.ntmps33
      go_wp2_with (go_at_call 45; refine (HN.out _ _).mono ?_; rintro e w' ⟨rfl, n, rfl⟩)
      go_ret
      exact ⟨rfl, ⟨⟨_, rfl⟩⟩⟩
end Go.Proofs.YtiddhdhojhggeaaDoor.MyCmpS
