/- A text's tokens, as a plain function; what the finder's chains hold. No program in sight but for the hash's own sum. -/
import Derived.Test.YtiaiopdiooobiaaMyBase
namespace Go.Proofs.Ytiaiopdiooobiaa.My
open Go.RowKit Go.Proofs.YtiaiopdiooobiaaW.PrintWords
set_option linter.unusedVariables false
set_option linter.unusedSimpArgs false

/-- How many bytes are alike from two places on. -/
def alkL (t : List Int) (p a : Nat) : Nat → Nat → Nat
  | 0, n => n
  | f + 1, n => if a + n < t.length ∧ t.getD (p + n) 0 = t.getD (a + n) 0 then alkL t p a f (n + 1) else n
def alk (t : List Int) (p a : Nat) : Nat := alkL t p a 258 0
theorem alkL_ge (t : List Int) (p a : Nat) : ∀ f n, n ≤ alkL t p a f n
  | 0, n => Nat.le_refl _
  | f + 1, n => by
    unfold alkL
    split
    · exact Nat.le_trans (Nat.le_succ n) (alkL_ge t p a f (n + 1))
    · exact Nat.le_refl _
theorem alkL_le (t : List Int) (p a : Nat) : ∀ f n, alkL t p a f n ≤ n + f
  | 0, n => Nat.le_refl _
  | f + 1, n => by
    unfold alkL
    split
    · have := alkL_le t p a f (n + 1); omega
    · omega
theorem alkL_all (t : List Int) (p a : Nat) : ∀ f n i, n ≤ i → i < alkL t p a f n → a + i < t.length ∧ t.getD (p + i) 0 = t.getD (a + i) 0
  | 0, n, i, h1, h2 => by simp only [alkL] at h2; omega
  | f + 1, n, i, h1, h2 => by
    unfold alkL at h2
    split at h2
    · rename_i h
      by_cases e : i = n
      · subst e; exact h
      · exact alkL_all t p a f (n + 1) i (by omega) h2
    · omega
theorem alk_le (t : List Int) (p a : Nat) : alk t p a ≤ 258 := by have := alkL_le t p a 258 0; unfold alk; omega
theorem alk_all (t : List Int) (p a i : Nat) (h : i < alk t p a) : a + i < t.length ∧ t.getD (p + i) 0 = t.getD (a + i) 0 := alkL_all t p a 258 0 i (Nat.zero_le _) h

/-- The hash of three bytes, as the program reckons it. -/
def hv (x y z : Int) : Int := bits .or .u32 (bits .or .u32 (x % 4294967296) (y % 4294967296 * 256 % 4294967296)) (z % 4294967296 * 65536 % 4294967296) * 2654435761 % 4294967296 / 1048576
theorem hv_lt (x y z : Int) : 0 ≤ hv x y z ∧ hv x y z < 4096 := by
  unfold hv
  generalize bits .or .u32 (bits .or .u32 (x % 4294967296) (y % 4294967296 * 256 % 4294967296)) (z % 4294967296 * 65536 % 4294967296) * 2654435761 = q
  omega
def hsh (t : List Int) (p : Nat) : Int := hv (t.getD p 0) (t.getD (p + 1) 0) (t.getD (p + 2) 0)

/-- The best match so far, the places from p - 1 down looked at. -/
def scan (t : List Int) (a : Nat) : Nat → Nat → Nat → Nat → Nat × Nat
  | 0, _, bl, bd => (bl, bd)
  | p + 1, lk, bl, bd =>
    if a - p ≤ 32768 ∧ lk < 64 then
      (if alk t p a < 3 then scan t a p lk bl bd else if bl < alk t p a then scan t a p (lk + 1) (alk t p a) (a - p) else scan t a p (lk + 1) bl bd)
    else (bl, bd)
theorem scan_stop (t : List Int) (a : Nat) : ∀ p lk bl bd, ¬ (a - p ≤ 32768 ∧ lk < 64) → scan t a p lk bl bd = (bl, bd)
  | 0, _, _, _, _ => rfl
  | p + 1, lk, bl, bd, h => by
    unfold scan
    rw [if_neg (by omega)]
/-- The last place ahead of x of a hash, 1 more; 0: none. -/
def prv (t : List Int) (h : Int) : Nat → Nat
  | 0 => 0
  | x + 1 => if x + 3 ≤ t.length ∧ hsh t x = h then x + 1 else prv t h x
theorem prv_le (t : List Int) (h : Int) : ∀ x, prv t h x ≤ x
  | 0 => Nat.le_refl _
  | x + 1 => by
    unfold prv
    split
    · exact Nat.le_refl _
    · exact Nat.le_trans (prv_le t h x) (Nat.le_succ x)
theorem prv_spec (t : List Int) (h : Int) : ∀ x, prv t h x = 0 ∨ ∃ y, prv t h x = y + 1 ∧ y < x ∧ y + 3 ≤ t.length ∧ hsh t y = h
  | 0 => .inl rfl
  | x + 1 => by
    unfold prv
    split
    · rename_i hc
      exact .inr ⟨x, rfl, Nat.lt_succ_self x, hc.1, hc.2⟩
    · rcases prv_spec t h x with h0 | ⟨y, h1, h2, h3⟩
      · exact .inl h0
      · exact .inr ⟨y, h1, Nat.lt_succ_of_lt h2, h3⟩
theorem alk_hash (t : List Int) (p a : Nat) (hp : p < a) (h : 3 ≤ alk t p a) : p + 3 ≤ t.length ∧ hsh t p = hsh t a := by
  have h0 := alk_all t p a 0 (by omega)
  have h1 := alk_all t p a 1 (by omega)
  have h2 := alk_all t p a 2 (by omega)
  refine ⟨by omega, ?_⟩
  unfold hsh
  rw [show t.getD p 0 = t.getD a 0 from h0.2, h1.2, h2.2]
theorem scan_skip (t : List Int) (a : Nat) : ∀ x lk bl bd, x ≤ a → scan t a x lk bl bd = scan t a (prv t (hsh t a) x) lk bl bd
  | 0, _, _, _, _ => rfl
  | x + 1, lk, bl, bd, hx => by
    unfold prv
    split
    · rfl
    · rename_i hc
      rw [← scan_skip t a x lk bl bd (by omega)]
      by_cases hb : a - x ≤ 32768 ∧ lk < 64
      · have h3 : alk t x a < 3 := by
          by_cases h : alk t x a < 3
          · exact h
          · exact absurd (alk_hash t x a (by omega) (by omega)) hc
        conv => lhs; unfold scan
        rw [if_pos hb, if_pos h3]
      · rw [scan_stop t a x lk bl bd hb]
        unfold scan
        rw [if_neg hb]
theorem alk_short (t : List Int) (p a : Nat) (h : t.length < a + 3) : alk t p a < 3 := by
  by_cases h3 : alk t p a < 3
  · exact h3
  · have := alk_all t p a 2 (by omega); omega
theorem scan_short (t : List Int) (a : Nat) (h : t.length < a + 3) : ∀ x lk bl bd, scan t a x lk bl bd = (bl, bd)
  | 0, _, _, _ => rfl
  | x + 1, lk, bl, bd => by
    unfold scan
    split
    · rw [if_pos (alk_short t x a h)]; exact scan_short t a h x lk bl bd
    · rfl
/-- What a match is: none, or of 3 to 258 bytes. -/
theorem scan_le (t : List Int) (a : Nat) : ∀ x lk bl bd, x ≤ a → (bl ≤ 258 ∧ bd ≤ 32768) → (scan t a x lk bl bd).1 ≤ 258 ∧ (scan t a x lk bl bd).2 ≤ 32768
  | 0, _, _, _, _, h => h
  | x + 1, lk, bl, bd, hx, h => by
    unfold scan
    split
    · rename_i hb
      split
      · exact scan_le t a x lk bl bd (by omega) h
      · split
        · exact scan_le t a x (lk + 1) _ _ (by omega) ⟨alk_le t x a, hb.1⟩
        · exact scan_le t a x (lk + 1) bl bd (by omega) h
    · exact h
theorem scan_fits (t : List Int) (a : Nat) : ∀ x lk bl bd, a + bl ≤ t.length → a + (scan t a x lk bl bd).1 ≤ t.length
  | 0, _, _, _, h => h
  | x + 1, lk, bl, bd, h => by
    unfold scan
    split
    · split
      · exact scan_fits t a x lk bl bd h
      · split
        · rename_i h3 _
          have := (alk_all t x a (alk t x a - 1) (by omega)).1
          exact scan_fits t a x (lk + 1) _ _ (by omega)
        · exact scan_fits t a x (lk + 1) bl bd h
    · exact h
/-- A token: its byte, its length, its distance. -/
structure Tk where
  b : Int
  l : Nat
  d : Nat
def tok (t : List Int) (a : Nat) : Tk := if (scan t a a 0 0 0).1 = 0 then ⟨t.getD a 0, 0, (scan t a a 0 0 0).2⟩ else ⟨0, (scan t a a 0 0 0).1, (scan t a a 0 0 0).2⟩
theorem tok_l (t : List Int) (a : Nat) : (tok t a).l = (scan t a a 0 0 0).1 := by
  unfold tok
  split
  · rename_i h; exact h.symm
  · rfl
def toksF (t : List Int) : Nat → Nat → List Tk
  | 0, _ => []
  | f + 1, a => if a < t.length then tok t a :: toksF t f (a + max (tok t a).l 1) else []
def toks (t : List Int) : List Tk := toksF t t.length 0
theorem tok_fits (t : List Int) (a : Nat) (h : a < t.length) : a + max (tok t a).l 1 ≤ t.length := by
  rw [tok_l]
  have := scan_fits t a a 0 0 0 (by omega)
  omega
theorem tok_le (t : List Int) (a : Nat) : (tok t a).l ≤ 258 := by
  rw [tok_l]
  exact (scan_le t a a 0 0 0 (Nat.le_refl _) ⟨by omega, by omega⟩).1
/-- With rounds enough the rest is the same. -/
theorem toksF_more (t : List Int) : ∀ f g a, t.length ≤ a + f → t.length ≤ a + g → toksF t f a = toksF t g a
  | 0, 0, _, _, _ => rfl
  | 0, g + 1, a, h1, _ => by unfold toksF; rw [if_neg (by omega)]
  | f + 1, 0, a, _, h2 => by unfold toksF; rw [if_neg (by omega)]
  | f + 1, g + 1, a, h1, h2 => by
    unfold toksF
    split
    · rw [toksF_more t f g _ (by omega) (by omega)]
    · rfl
def rest (t : List Int) (a : Nat) : List Tk := toksF t (t.length - a) a
theorem rest_step (t : List Int) (a : Nat) (h : a < t.length) : rest t a = tok t a :: rest t (a + max (tok t a).l 1) := by
  unfold rest
  rw [show t.length - a = (t.length - a - 1) + 1 by omega, toksF, if_pos h]
  congr 1
  exact toksF_more t _ _ _ (by omega) (by omega)
theorem rest_end (t : List Int) (a : Nat) (h : t.length ≤ a) : rest t a = [] := by
  unfold rest
  rw [show t.length - a = 0 by omega]
  rfl
end Go.Proofs.Ytiaiopdiooobiaa.My
