/- Numbers in fields of bytes, plainly: figures from the last one on, which numbers fit, what a field holds then. No program in sight. -/
import Derived.Laws.BitsLemmas
import Derived.Laws.Wrap64
namespace Go.Proofs.YtoonagjhfbmniaaDoor.Oct

def ds (g h : Int → Int) : Nat → Int → List Int
  | 0, _ => []
  | j + 1, x => ds g h j (h x) ++ [g x]
def it (h : Int → Int) : Nat → Int → Int
  | 0, x => x
  | j + 1, x => it h j (h x)
theorem ds_length (g h : Int → Int) (j : Nat) : ∀ x, (ds g h j x).length = j := by
  induction j with
  | zero => intro x; rfl
  | succ j ih => intro x; simp [ds, ih]
theorem set_drop (l : List Int) (j : Nat) (v : Int) (h : j < l.length) : (l.set j v).drop j = v :: l.drop (j + 1) := by
  rw [List.drop_eq_getElem_cons (by simpa using h), List.getElem_set_self, List.drop_set_of_lt (by omega)]
theorem set_take (l : List Int) (j off : Nat) (v : Int) (h : off ≤ j) : (l.set j v).take off = l.take off := by
  apply List.ext_getElem?
  intro i
  rw [List.getElem?_take, List.getElem?_take]
  by_cases hi : i < off
  · rw [if_pos hi, if_pos hi, List.getElem?_set_ne (by omega)]
  · rw [if_neg hi, if_neg hi]
/-- A block in which the places off .. off + j are written from the last one on. -/
def fill (g h : Int → Int) (off j : Nat) (x : Int) (l : List Int) : List Int := l.take off ++ ds g h j x ++ l.drop (off + j)
theorem fill_zero (g h : Int → Int) (off : Nat) (x : Int) (l : List Int) : fill g h off 0 x l = l := by simp [fill, ds]
theorem fill_step (g h : Int → Int) (off j : Nat) (x : Int) (l : List Int) (hl : off + j < l.length) : fill g h off (j + 1) x l = fill g h off j (h x) (l.set (off + j) (g x)) := by
  unfold fill
  rw [set_take l _ off _ (by omega), set_drop l _ _ hl]
  simp [ds]
  rfl
theorem fill_length (g h : Int → Int) (off j : Nat) (x : Int) (l : List Int) (hl : off + j ≤ l.length) : (fill g h off j x l).length = l.length := by
  simp [fill, ds_length]
  omega
theorem it_div (b : Int) (hb : 0 < b) (j : Nat) : ∀ x, it (· / b) j x = x / b ^ j := by
  induction j with
  | zero => intro x; simp [it]
  | succ j ih => intro x; rw [it, ih, Int.ediv_ediv_of_nonneg (by omega), Int.pow_succ, Int.mul_comm]
theorem it_succ (h : Int → Int) (j : Nat) : ∀ x, it h (j + 1) x = h (it h j x) := by
  induction j with
  | zero => intro x; rfl
  | succ j ih => intro x; rw [it, ih]; rfl
theorem ds_head (g h : Int → Int) (j : Nat) : ∀ x, ∃ l, ds g h (j + 1) x = g (it h j x) :: l := by
  induction j with
  | zero => intro x; exact ⟨[], rfl⟩
  | succ j ih =>
    intro x
    obtain ⟨l, hl⟩ := ih (h x)
    exact ⟨l ++ [g x], by rw [ds, hl]; rfl⟩
def g8 (x : Int) : Int := 48 + x % 8
def g256 (x : Int) : Int := x % 256
theorem and7 (x : Int) (h0 : 0 ≤ x) (h1 : x ≤ 9223372036854775807) : Go.bits .and .i64 x 7 = x % 8 :=
  bits_mask .i64 63 (by decide) (fun n h0 h1 => by rw [IntKind.wrap_i64]; omega) 3 (by decide) x h0 (by omega)

/-- Does a number fit by figures? -/
def nar (n x : Int) : Bool := decide (0 < n ∧ 0 ≤ x ∧ (21 < n ∨ x / 2 ^ (3 * (n - 1)).toNat = 0))
/-- Does it fit at all? -/
def fit (n x : Int) : Bool := if nar n x || decide (9 ≤ n) then decide (0 < n) else if n < 2 then false else decide (x / 2 ^ (8 * n - 2).toNat = 0 ∨ x / 2 ^ (8 * n - 2).toNat = -1)
/-- The field of so many bytes. -/
def putB (n : Nat) (x : Int) : List Int :=
  if nar n x then ds g8 (· / 8) (n - 1) x ++ [0]
  else (ds g256 (· / 256) n x).set 0 (Go.bits .or .u8 ((ds g256 (· / 256) n x).getD 0 0) 128)
theorem putB_length (n : Nat) (x : Int) (h : 0 < n) : (putB n x).length = n := by
  unfold putB
  split
  · simp [ds_length]; omega
  · simp [ds_length]
/-- A block with a field in it. -/
def putAt (l : List Int) (off n : Nat) (x : Int) : List Int := l.take off ++ putB n x ++ l.drop (off + n)
end Go.Proofs.YtoonagjhfbmniaaDoor.Oct
