/- The contracts of bytes.TrimLeft and bytes.Trim at what octal.Take asks of them. -/
import Derived.Test.YtoonagjhfbmniaaDoorMyBytes
import Derived.Test.YtoonagjhfbmniaaDoorMyTrim
import Derived.Test.YtoonagjhfbmniaaDoorMyTakeP
namespace Go.Proofs.YtoonagjhfbmniaaDoor.My
open Go.RowKit Go.Proofs.YtoonagjhfbmniaaDoor.Oct Go.Proofs.YtoonagjhfbmniaaDoorW.PrintWords Go.Proofs.YtoonagjhfbmniaaDoorW.PrintLast Go.Proofs.YtoonagjhfbmniaaDoorW.PrintMore
set_option linter.unusedVariables false
set_option linter.unusedSimpArgs false

/-- A slice of bytes, read: where it may lie, how long, its bytes. -/
structure Fld (w : World) (A : Option Addr) (n c : Nat) (xs : List Int) : Prop where
  rd : ReadsOf (Value.int .u8) (0 : Int) w A n xs
  byte : ∀ x ∈ xs, 0 ≤ x ∧ x < 256
  cap : n ≤ c ∧ c ≤ 9223372036854775807
theorem Fld.below {w w1 : World} {A : Option Addr} {n c : Nat} {xs : List Int} (h : Fld w A n c xs) (hb : Below w.heap.size w w1) : Fld w1 A n c xs := ⟨h.rd.below hb, h.byte, h.cap⟩
theorem Fld.inn {w : World} {A : Option Addr} {n c : Nat} {xs : List Int} (h : Fld w A n c xs) : Lib.BytesIn w A n xs := by
  intro hn
  obtain ⟨ad, rfl, hc⟩ := h.rd.2.2 hn
  exact Lib.BytesIn.of_cells hc hn
theorem Fld.none (w : World) : Fld w none 0 0 [] := ⟨⟨rfl, by omega, fun h => absurd h (Nat.lt_irrefl 0)⟩, (fun x h => by cases h), by omega⟩
theorem bytes_dw (cs : List UInt8) (p : Int → Bool) : ∀ xs : List Int, (∀ x ∈ xs, cs.contains (UInt8.ofNat x.toNat) = p x) → Lib.trimLeftS (Lib.bytesOf xs) cs = Lib.bytesOf (xs.dropWhile p) := by
  intro xs
  induction xs with
  | nil => intro _; rfl
  | cons x xs ih =>
    intro h
    have hx := h x List.mem_cons_self
    have ih := ih (fun y hy => h y (List.mem_cons_of_mem _ hy))
    unfold Lib.trimLeftS at ih ⊢
    show ((UInt8.ofNat x.toNat) :: Lib.bytesOf xs).dropWhile _ = _
    cases hp : p x with
    | true =>
      rw [List.dropWhile_cons_of_pos (by rw [hx]; exact hp), List.dropWhile_cons_of_pos hp]
      exact ih
    | false =>
      rw [List.dropWhile_cons_of_neg (by rw [hx, hp]; simp), List.dropWhile_cons_of_neg (by rw [hp]; simp)]
      rfl
theorem dw_nil {α : Type} (p : α → Bool) : ∀ l : List α, l.dropWhile p = [] ↔ l.all p = true := by
  intro l
  induction l with
  | nil => simp
  | cons x l ih =>
    cases hp : p x with
    | true => rw [List.dropWhile_cons_of_pos hp, ih]; simp [hp]
    | false => rw [List.dropWhile_cons_of_neg (by simp [hp])]; simp [hp]
theorem trim_none (l cs : List UInt8) : Lib.trimS l cs = [] ↔ l.all (cs.contains ·) = true := by
  unfold Lib.trimS Lib.trimLeftS
  rw [dw_nil]
  unfold Lib.trimRightS
  rw [List.all_reverse]
  constructor
  · intro h
    have hh : (l.reverse.dropWhile (cs.contains ·)) = [] := by
      cases e : l.reverse.dropWhile (cs.contains ·) with
      | nil => rfl
      | cons b r =>
        have h1 := List.head_dropWhile_not (cs.contains ·) (l := l.reverse) (by rw [e]; simp)
        rw [e] at h
        simp only [e, List.head_cons] at h1
        simp only [List.all_cons, Bool.and_eq_true] at h
        rw [h.1] at h1
        cases h1
    rw [dw_nil, List.all_reverse] at hh
    exact hh
  · intro h
    have hh : (l.reverse.dropWhile (cs.contains ·)) = [] := by rw [dw_nil, List.all_reverse]; exact h
    rw [hh]; rfl
/-- What a piece of it is. -/
theorem left_piece {w : World} {A : Option Addr} {n c : Nat} {xs : List Int} (h : Fld w A n c xs) (j : Nat) (hj : j ≤ n) : ∃ A' c', Lib.leftV A n c j = .slice A' (n - j) c' ∧ Fld w A' (n - j) c' (xs.drop j) := by
  have hl := h.rd.1
  unfold Lib.leftV
  by_cases e : j = n
  · subst e
    rw [if_pos rfl, Nat.sub_self, List.drop_eq_nil_of_le (by omega)]
    exact ⟨_, _, rfl, Fld.none w⟩
  · rw [if_neg e]
    refine ⟨_, _, rfl, ⟨?_, fun x hx => h.byte x (List.mem_of_mem_drop hx), by have := h.cap; omega⟩⟩
    exact h.rd.drop_ j hj h.cap.1

theorem trimLeft_calls (cs : ByteArray) (p : Int → Bool) (hs : cs.size < 4294967281) (ha : ∀ (j : Nat) b, cs.data.toList[j]? = some b → b.toNat < 128) (hp : ∀ x : Int, 0 ≤ x → x < 256 → cs.data.toList.contains (UInt8.ofNat x.toNat) = p x)
    (w : World) (A : Option Addr) (n c : Nat) (xs : List Int) (h : Fld w A n c xs) :
    Calls Tryd.prog 10 #[.slice A n c, .string cs] w fun e w' => (∃ A' c', e = .returned (.slice A' (xs.dropWhile p).length c') ∧ Fld w' A' (xs.dropWhile p).length c' (xs.dropWhile p)) ∧ Below w.heap.size w w' := by
  refine (Any.bytes_TrimLeft_laid Tryd.laysTrimLeft (by kernel_rfl) A n c xs cs w h.rd.1 h.cap.1 h.cap.2 h.inn h.byte hs ha).mono ?_
  rintro e w1 ⟨rfl, hb⟩
  refine ⟨?_, hb⟩
  rw [bytes_dw _ p xs (fun x hx => hp x (h.byte x hx).1 (h.byte x hx).2), Lib.bytesOf_length]
  have hsuf : xs.dropWhile p <:+ xs := List.dropWhile_suffix p
  have hle := hsuf.length_le
  have hl := h.rd.1
  obtain ⟨A', c', e1, e2⟩ := left_piece h (n - (xs.dropWhile p).length) (by omega)
  have ed : xs.drop (n - (xs.dropWhile p).length) = xs.dropWhile p := by
    rw [List.suffix_iff_eq_drop.1 hsuf, ← hl]
    simp only [List.length_drop]
    congr 1
    omega
  rw [ed, show n - (n - (xs.dropWhile p).length) = (xs.dropWhile p).length from by omega] at e2
  rw [show n - (n - (xs.dropWhile p).length) = (xs.dropWhile p).length from by omega] at e1
  exact ⟨A', c', by rw [e1], e2.below hb⟩
theorem trim_calls (cs : ByteArray) (p : Int → Bool) (hs : cs.size < 4294967281) (ha : ∀ (j : Nat) b, cs.data.toList[j]? = some b → b.toNat < 128) (hp : ∀ x : Int, 0 ≤ x → x < 256 → cs.data.toList.contains (UInt8.ofNat x.toNat) = p x)
    (w : World) (A : Option Addr) (n c : Nat) (xs : List Int) (h : Fld w A n c xs) :
    Calls Tryd.prog 11 #[.slice A n c, .string cs] w fun e w' => (∃ A' n' c', e = .returned (.slice A' n' c') ∧ decide ((0 : Int) < n') = !xs.all p) ∧ Below w.heap.size w w' := by
  refine (Any.bytes_Trim_laid Tryd.laysTrim (by kernel_rfl) A n c xs cs w h.rd.1 h.cap.1 h.cap.2 h.inn h.byte hs ha).mono ?_
  rintro e w1 ⟨rfl, hb⟩
  refine ⟨?_, hb⟩
  have ht := trim_none (Lib.bytesOf xs) cs.data.toList
  have hall : (Lib.bytesOf xs).all (cs.data.toList.contains ·) = xs.all p := by
    unfold Lib.bytesOf
    rw [List.all_map]
    clear ht hb
    have hb := h.byte
    clear h
    induction xs with
    | nil => rfl
    | cons x xs ih =>
      have hx := hb x List.mem_cons_self
      simp only [List.all_cons, Function.comp_apply]
      rw [hp x hx.1 hx.2]
      congr 1
      exact ih (fun y hy => hb y (List.mem_cons_of_mem _ hy))
  rw [hall] at ht
  have hle : (Lib.trimS (Lib.bytesOf xs) cs.data.toList).length ≤ (Lib.trimRightS (Lib.bytesOf xs) cs.data.toList).length := (List.dropWhile_suffix _).length_le
  generalize (Lib.trimRightS (Lib.bytesOf xs) cs.data.toList).length = k at *
  generalize hr : Lib.trimS (Lib.bytesOf xs) cs.data.toList = r at *
  have hd : decide ((0 : Int) < (r.length : Int)) = !xs.all p := by
    cases r with
    | nil => rw [ht.1 rfl]; rfl
    | cons a r =>
      have : xs.all p = false := by
        cases hh : xs.all p with
        | false => rfl
        | true => exact absurd (ht.2 hh) (by simp)
      rw [this]
      exact decide_eq_true (by simp)
  unfold Lib.leftV
  by_cases e : k - r.length = k
  · rw [if_pos e]
    refine ⟨_, _, _, rfl, ?_⟩
    rw [← hd]
    have : r.length = 0 := by omega
    rw [this]
  · rw [if_neg e]
    refine ⟨_, _, _, rfl, ?_⟩
    rw [← hd, show k - (k - r.length) = r.length from by omega]
end Go.Proofs.YtoonagjhfbmniaaDoor.My
