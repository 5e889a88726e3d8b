/- The document's answer (crossdockref04.Add, as print.sh wrote it down) is the plain sum. -/
import Derived.Test.YtihhkjhpicelgaaDoorPCrcTellsx1
import Derived.Test.YtihhkjhpicelgaaDoorMyPure
namespace Go.Proofs.YtihhkjhpicelgaaDoor.My
open Go.RowKit Go.Proofs.YtihhkjhpicelgaaDoor.Plain Go.Proofs.YtihhkjhpicelgaaDoor.PCrcTells Go.Proofs.YtihhkjhpicelgaaDoorW.PrintWords

theorem ref_l1 (x1 : List Int) (x6 : Int) (k d : Nat) (hd : d ≤ 8) : ∀ r : Nat, r < 2 ^ 32 →
    crossdockref04_Add.l1 (k + d + 1) x1 r x6 (8 - d) = crossdockref04_Add.l0 k x1 (stps d r : Nat) (wrap64 (x6 + 1)) := by
  induction d with
  | zero =>
    intro r h
    simp only [crossdockref04_Add.l1, stps]
    rw [if_neg (by omega)]
  | succ d ih =>
    intro r h
    rw [show k + (d + 1) + 1 = (k + d + 1) + 1 from rfl]
    rw [crossdockref04_Add.l1, stps]
    rw [if_pos (by omega), show wrap64 (8 - ((d + 1 : Nat) : Int) + 1) = 8 - (d : Int) from by unfold wrap64; omega]
    have h1 : Int.tmod (r : Int) 2 = ((r % 2 : Nat) : Int) := by rw [Int.tmod_eq_emod_of_nonneg (by omega)]; omega
    have h2 : Int.tdiv (r : Int) 2 % 4294967296 = ((r / 2 : Nat) : Int) := by rw [Int.tdiv_eq_ediv_of_nonneg (by omega)]; omega
    rw [h1, h2]
    by_cases hr : r % 2 = 1
    · rw [if_pos (by omega), show (3988292384 : Int) = ((P32 : Nat) : Int) from rfl, xor_nat _ _ (by omega) P32_lt, ih (by omega) _ (Nat.xor_lt_two_pow (by omega) P32_lt)]
      unfold stp; rw [if_pos hr]
    · rw [if_neg (by omega), ih (by omega) _ (by omega)]
      unfold stp; rw [if_neg hr]

theorem rd_ints (l : List Nat) (i : Nat) (h : i < l.length) : rd (ints l) (i : Int) = ((l[i] : Nat) : Int) := by simp [rd, ints, h]
theorem ints_length (l : List Nat) : (ints l).length = l.length := by simp [ints]

theorem ref_l0 (l : List Nat) (hl : Bytes l) (hm : l.length ≤ 140737488351232) (d : Nat) : ∀ (r i : Nat), r < 2 ^ 32 → i + d = l.length →
    crossdockref04_Add.l0 (10 * d + 1) (ints l) r i = some ((foldN r (l.drop i) ^^^ M32 : Nat) : Int) := by
  induction d with
  | zero =>
    intro r i h hi
    simp only [crossdockref04_Add.l0]
    rw [if_neg (by rw [ints_length]; omega), show (4294967295 : Int) = ((M32 : Nat) : Int) from rfl, xor_nat _ _ h M32_lt, List.drop_eq_nil_of_le (by omega)]
    rfl
  | succ d ih =>
    intro r i h hi
    have hlt : i < l.length := by omega
    have hx : l[i] < 256 := hl _ (List.getElem_mem _)
    rw [show 10 * (d + 1) + 1 = ((10 * d + 1) + 8 + 1) + 1 from by omega]
    rw [crossdockref04_Add.l0]
    rw [if_pos (by rw [ints_length]; omega), if_pos (by omega), rd_ints l i hlt, show ((l[i] : Nat) : Int) % 4294967296 = ((l[i] : Nat) : Int) from by omega,
      xor_nat _ _ h (by omega)]
    have := ref_l1 (ints l) i (10 * d + 1) 8 (by omega) (r ^^^ l[i]) (Nat.xor_lt_two_pow h (by omega))
    rw [show (8 : Int) - ((8 : Nat) : Int) = 0 from rfl] at this
    rw [this, show wrap64 ((i : Int) + 1) = ((i + 1 : Nat) : Int) from by unfold wrap64; omega, List.drop_eq_getElem_cons hlt]
    exact ih (bytN r l[i]) (i + 1) (bytN_lt _ _ h hx) (by omega)

theorem ref_add (s : Nat) (l : List Nat) (h : s < 2 ^ 32) (hl : Bytes l) (hm : l.length ≤ 140737488351232) :
    ∃ k, crossdockref04_Add.f k s (ints l) = some ((addN s l : Nat) : Int) := by
  refine ⟨10 * l.length + 1, ?_⟩
  unfold crossdockref04_Add.f
  rw [show (4294967295 : Int) = ((M32 : Nat) : Int) from rfl, xor_nat _ _ h M32_lt]
  have := ref_l0 l hl hm l.length (s ^^^ M32) 0 (Nat.xor_lt_two_pow h M32_lt) (by omega)
  rw [show ((0 : Nat) : Int) = 0 from rfl] at this
  rw [this]
  unfold addN
  rw [List.drop_zero, Nat.xor_comm _ M32, Nat.xor_comm s M32]
theorem ref_of (l : List Nat) (hl : Bytes l) (hm : l.length ≤ 140737488351232) : ∃ k, crossdockref04_Of.f k (ints l) = some ((addN 0 l : Nat) : Int) := by
  obtain ⟨k, hk⟩ := ref_add 0 l (by decide) hl hm
  refine ⟨k, ?_⟩
  unfold crossdockref04_Of.f
  rw [show (0 : Int) = ((0 : Nat) : Int) from rfl, hk]
  rfl
end Go.Proofs.YtihhkjhpicelgaaDoor.My
