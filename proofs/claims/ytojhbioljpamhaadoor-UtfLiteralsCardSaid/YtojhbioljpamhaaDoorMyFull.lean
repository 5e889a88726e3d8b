/- The walk of utf8.FullRuneInString (printed by full.py). -/
import Derived.Test.YtojhbioljpamhaaDoorMyGl
import Derived.Test.YtojhbioljpamhaaDoorMyUtfP
import Derived.Test.YtojhbioljpamhaaDoorMyBytes
import Derived.WalkSmall
import Derived.RegionTactic
namespace Go.Proofs.YtojhbioljpamhaaDoor.My
open Go.RowKit Go.Lib Go.Proofs.YtojhbioljpamhaaDoorW.PrintWords
set_option maxRecDepth 100000
set_option maxHeartbeats 4000000
set_option linter.unusedVariables false
set_option linter.unusedSimpArgs false

/-- What FullRuneInString answers: x is what the table has, n the text's length. -/
def fullX (x n b1 b2 : Nat) : Bool := if x % 8 ≤ n then true else if 1 < n ∧ (b1 < accLo (x / 16) ∨ accHi (x / 16) < b1) then true else decide (2 < n ∧ (b2 < 128 ∨ 191 < b2))

theorem full_2 (s : ByteArray) (w : World) (hg : Gl w) (h : 0 < s.size) (x0 x1 x2 : UInt8) (hs0 : s[0]'h = x0) (hs1 : (k : 1 < s.size) → s[1]'k = x1) (hs2 : (k : 2 < s.size) → s[2]'k = x2) (hX : firstT x0.toNat = 2) : Calls Tryd.prog 49 #[.string s] w fun e w' => e = .returned (.bool (fullX 2 s.size x1.toNat x2.toNat)) ∧ Below w.heap.size w w' := by
  have l0 := x0.toNat_lt; have l1 := x1.toNat_lt; have l2 := x2.toNat_lt
  have hT := hg.tabs
  have hc0 := hT.1 x0.toNat (by omega)
  have hz0 : (0 : Int) < (s.size : Int) := by omega
  have hz1 : ((s.size : Int) == 0) = false := beq_eq_false_iff_ne.2 (by omega)
  rw [hX] at hc0
  have ha0 := (hT.2 0 (by omega)).1
  have ha1 := (hT.2 0 (by omega)).2
  simp only [accLo, accHi, Nat.reduceMul, Nat.reduceAdd, Nat.reduceEqDiff, if_true, if_false, Nat.reduceMod, Nat.reduceDiv] at ha0 ha1
  clear hT hX hg
  by_cases hn : 2 ≤ s.size
  · rw [fullX, if_pos (by omega)]
    have hz2 : (2 : Int) ≤ (s.size : Int) := by omega
    clear hs1 hs2
    go_enter Tryd.func49, Tryd.ntmps49
    go_wp2
    go_ret
    exact ⟨rfl, Below.refl _ _⟩
  have hnz : (s.size : Int) < 2 := by omega
  have hk : s.size = 1 := by omega
  · skip
    have hf : fullX 2 s.size x1.toNat x2.toNat = fullX 2 1 x1.toNat x2.toNat := by rw [hk]
    have hh : (s.size : Int) < 2 := by omega
    rw [hf]
    clear hf
    have g1 : decide ((1 : Int) < (s.size : Int)) = false := decide_eq_false (by omega)
    have g2 : decide ((2 : Int) < (s.size : Int)) = false := decide_eq_false (by omega)
    have hv : fullX 2 1 x1.toNat x2.toNat = false := by simp [fullX, accLo, accHi]; try omega
    clear hs1 hs2
    rw [hv]
    clear hv hk hn hnz
    go_enter Tryd.func49, Tryd.ntmps49
    go_wp2
    go_region
    all_goals go_wp2
    all_goals (go_ret; exact ⟨rfl, by first | exact (Below.refl _ _).alloc (Nat.le_refl _) _ | exact (Below.drew ((Below.refl _ _).alloc (Nat.le_refl _) _))⟩)
theorem full_19 (s : ByteArray) (w : World) (hg : Gl w) (h : 0 < s.size) (x0 x1 x2 : UInt8) (hs0 : s[0]'h = x0) (hs1 : (k : 1 < s.size) → s[1]'k = x1) (hs2 : (k : 2 < s.size) → s[2]'k = x2) (hX : firstT x0.toNat = 19) : Calls Tryd.prog 49 #[.string s] w fun e w' => e = .returned (.bool (fullX 19 s.size x1.toNat x2.toNat)) ∧ Below w.heap.size w w' := by
  have l0 := x0.toNat_lt; have l1 := x1.toNat_lt; have l2 := x2.toNat_lt
  have hT := hg.tabs
  have hc0 := hT.1 x0.toNat (by omega)
  have hz0 : (0 : Int) < (s.size : Int) := by omega
  have hz1 : ((s.size : Int) == 0) = false := beq_eq_false_iff_ne.2 (by omega)
  rw [hX] at hc0
  have ha0 := (hT.2 1 (by omega)).1
  have ha1 := (hT.2 1 (by omega)).2
  simp only [accLo, accHi, Nat.reduceMul, Nat.reduceAdd, Nat.reduceEqDiff, if_true, if_false, Nat.reduceMod, Nat.reduceDiv] at ha0 ha1
  clear hT hX hg
  by_cases hn : 3 ≤ s.size
  · rw [fullX, if_pos (by omega)]
    have hz2 : (3 : Int) ≤ (s.size : Int) := by omega
    clear hs1 hs2
    go_enter Tryd.func49, Tryd.ntmps49
    go_wp2
    go_ret
    exact ⟨rfl, Below.refl _ _⟩
  have hnz : (s.size : Int) < 3 := by omega
  by_cases hk : s.size = 1
  · skip
    have hf : fullX 19 s.size x1.toNat x2.toNat = fullX 19 1 x1.toNat x2.toNat := by rw [hk]
    have hh : (s.size : Int) < 3 := by omega
    rw [hf]
    clear hf
    have g1 : decide ((1 : Int) < (s.size : Int)) = false := decide_eq_false (by omega)
    have g2 : decide ((2 : Int) < (s.size : Int)) = false := decide_eq_false (by omega)
    have hv : fullX 19 1 x1.toNat x2.toNat = false := by simp [fullX, accLo, accHi]; try omega
    clear hs1 hs2
    rw [hv]
    clear hv hk hn hnz
    go_enter Tryd.func49, Tryd.ntmps49
    go_wp2
    go_region
    all_goals go_wp2
    all_goals (go_ret; exact ⟨rfl, by first | exact (Below.refl _ _).alloc (Nat.le_refl _) _ | exact (Below.drew ((Below.refl _ _).alloc (Nat.le_refl _) _))⟩)
  have hk : s.size = 2 := by omega
  · skip
    have hf : fullX 19 s.size x1.toNat x2.toNat = fullX 19 2 x1.toNat x2.toNat := by rw [hk]
    have hh : (s.size : Int) < 3 := by omega
    rw [hf]
    clear hf
    have g1 : decide ((1 : Int) < (s.size : Int)) = true := decide_eq_true (by omega)
    have g5 : (1 : Int) < (s.size : Int) := by omega
    have g2 : decide ((2 : Int) < (s.size : Int)) = false := decide_eq_false (by omega)
    have g3 : 1 < s.size := by omega
    have hs1 := hs1 g3
    clear hs2
    by_cases b1 : (x1.toNat : Int) < 160
    · have hv : fullX 19 2 x1.toNat x2.toNat = true := by simp [fullX, accLo, accHi]; try omega
      rw [hv]
      clear hv hk hn hnz
      go_enter Tryd.func49, Tryd.ntmps49
      go_wp2
      go_region
      all_goals go_wp2
      all_goals (go_ret; exact ⟨rfl, by first | exact (Below.refl _ _).alloc (Nat.le_refl _) _ | exact (Below.drew ((Below.refl _ _).alloc (Nat.le_refl _) _))⟩)
    have d1 : decide ((x1.toNat : Int) < 160) = false := decide_eq_false (by omega)
    by_cases b2 : (191 : Int) < (x1.toNat : Int)
    · have hv : fullX 19 2 x1.toNat x2.toNat = true := by simp [fullX, accLo, accHi]; try omega
      rw [hv]
      clear hv hk hn hnz
      go_enter Tryd.func49, Tryd.ntmps49
      go_wp2
      go_region
      all_goals go_wp2
      all_goals (go_ret; exact ⟨rfl, by first | exact (Below.refl _ _).alloc (Nat.le_refl _) _ | exact (Below.drew ((Below.refl _ _).alloc (Nat.le_refl _) _))⟩)
    have d2 : decide ((191 : Int) < (x1.toNat : Int)) = false := decide_eq_false (by omega)
    have hv : fullX 19 2 x1.toNat x2.toNat = false := by simp [fullX, accLo, accHi]; try omega
    rw [hv]
    clear hv hk hn hnz
    go_enter Tryd.func49, Tryd.ntmps49
    go_wp2
    go_region
    all_goals go_wp2
    all_goals (go_ret; exact ⟨rfl, by first | exact (Below.refl _ _).alloc (Nat.le_refl _) _ | exact (Below.drew ((Below.refl _ _).alloc (Nat.le_refl _) _))⟩)
theorem full_3 (s : ByteArray) (w : World) (hg : Gl w) (h : 0 < s.size) (x0 x1 x2 : UInt8) (hs0 : s[0]'h = x0) (hs1 : (k : 1 < s.size) → s[1]'k = x1) (hs2 : (k : 2 < s.size) → s[2]'k = x2) (hX : firstT x0.toNat = 3) : Calls Tryd.prog 49 #[.string s] w fun e w' => e = .returned (.bool (fullX 3 s.size x1.toNat x2.toNat)) ∧ Below w.heap.size w w' := by
  have l0 := x0.toNat_lt; have l1 := x1.toNat_lt; have l2 := x2.toNat_lt
  have hT := hg.tabs
  have hc0 := hT.1 x0.toNat (by omega)
  have hz0 : (0 : Int) < (s.size : Int) := by omega
  have hz1 : ((s.size : Int) == 0) = false := beq_eq_false_iff_ne.2 (by omega)
  rw [hX] at hc0
  have ha0 := (hT.2 0 (by omega)).1
  have ha1 := (hT.2 0 (by omega)).2
  simp only [accLo, accHi, Nat.reduceMul, Nat.reduceAdd, Nat.reduceEqDiff, if_true, if_false, Nat.reduceMod, Nat.reduceDiv] at ha0 ha1
  clear hT hX hg
  by_cases hn : 3 ≤ s.size
  · rw [fullX, if_pos (by omega)]
    have hz2 : (3 : Int) ≤ (s.size : Int) := by omega
    clear hs1 hs2
    go_enter Tryd.func49, Tryd.ntmps49
    go_wp2
    go_ret
    exact ⟨rfl, Below.refl _ _⟩
  have hnz : (s.size : Int) < 3 := by omega
  by_cases hk : s.size = 1
  · skip
    have hf : fullX 3 s.size x1.toNat x2.toNat = fullX 3 1 x1.toNat x2.toNat := by rw [hk]
    have hh : (s.size : Int) < 3 := by omega
    rw [hf]
    clear hf
    have g1 : decide ((1 : Int) < (s.size : Int)) = false := decide_eq_false (by omega)
    have g2 : decide ((2 : Int) < (s.size : Int)) = false := decide_eq_false (by omega)
    have hv : fullX 3 1 x1.toNat x2.toNat = false := by simp [fullX, accLo, accHi]; try omega
    clear hs1 hs2
    rw [hv]
    clear hv hk hn hnz
    go_enter Tryd.func49, Tryd.ntmps49
    go_wp2
    go_region
    all_goals go_wp2
    all_goals (go_ret; exact ⟨rfl, by first | exact (Below.refl _ _).alloc (Nat.le_refl _) _ | exact (Below.drew ((Below.refl _ _).alloc (Nat.le_refl _) _))⟩)
  have hk : s.size = 2 := by omega
  · skip
    have hf : fullX 3 s.size x1.toNat x2.toNat = fullX 3 2 x1.toNat x2.toNat := by rw [hk]
    have hh : (s.size : Int) < 3 := by omega
    rw [hf]
    clear hf
    have g1 : decide ((1 : Int) < (s.size : Int)) = true := decide_eq_true (by omega)
    have g5 : (1 : Int) < (s.size : Int) := by omega
    have g2 : decide ((2 : Int) < (s.size : Int)) = false := decide_eq_false (by omega)
    have g3 : 1 < s.size := by omega
    have hs1 := hs1 g3
    clear hs2
    by_cases b1 : (x1.toNat : Int) < 128
    · have hv : fullX 3 2 x1.toNat x2.toNat = true := by simp [fullX, accLo, accHi]; try omega
      rw [hv]
      clear hv hk hn hnz
      go_enter Tryd.func49, Tryd.ntmps49
      go_wp2
      go_region
      all_goals go_wp2
      all_goals (go_ret; exact ⟨rfl, by first | exact (Below.refl _ _).alloc (Nat.le_refl _) _ | exact (Below.drew ((Below.refl _ _).alloc (Nat.le_refl _) _))⟩)
    have d1 : decide ((x1.toNat : Int) < 128) = false := decide_eq_false (by omega)
    by_cases b2 : (191 : Int) < (x1.toNat : Int)
    · have hv : fullX 3 2 x1.toNat x2.toNat = true := by simp [fullX, accLo, accHi]; try omega
      rw [hv]
      clear hv hk hn hnz
      go_enter Tryd.func49, Tryd.ntmps49
      go_wp2
      go_region
      all_goals go_wp2
      all_goals (go_ret; exact ⟨rfl, by first | exact (Below.refl _ _).alloc (Nat.le_refl _) _ | exact (Below.drew ((Below.refl _ _).alloc (Nat.le_refl _) _))⟩)
    have d2 : decide ((191 : Int) < (x1.toNat : Int)) = false := decide_eq_false (by omega)
    have hv : fullX 3 2 x1.toNat x2.toNat = false := by simp [fullX, accLo, accHi]; try omega
    rw [hv]
    clear hv hk hn hnz
    go_enter Tryd.func49, Tryd.ntmps49
    go_wp2
    go_region
    all_goals go_wp2
    all_goals (go_ret; exact ⟨rfl, by first | exact (Below.refl _ _).alloc (Nat.le_refl _) _ | exact (Below.drew ((Below.refl _ _).alloc (Nat.le_refl _) _))⟩)
theorem full_35 (s : ByteArray) (w : World) (hg : Gl w) (h : 0 < s.size) (x0 x1 x2 : UInt8) (hs0 : s[0]'h = x0) (hs1 : (k : 1 < s.size) → s[1]'k = x1) (hs2 : (k : 2 < s.size) → s[2]'k = x2) (hX : firstT x0.toNat = 35) : Calls Tryd.prog 49 #[.string s] w fun e w' => e = .returned (.bool (fullX 35 s.size x1.toNat x2.toNat)) ∧ Below w.heap.size w w' := by
  have l0 := x0.toNat_lt; have l1 := x1.toNat_lt; have l2 := x2.toNat_lt
  have hT := hg.tabs
  have hc0 := hT.1 x0.toNat (by omega)
  have hz0 : (0 : Int) < (s.size : Int) := by omega
  have hz1 : ((s.size : Int) == 0) = false := beq_eq_false_iff_ne.2 (by omega)
  rw [hX] at hc0
  have ha0 := (hT.2 2 (by omega)).1
  have ha1 := (hT.2 2 (by omega)).2
  simp only [accLo, accHi, Nat.reduceMul, Nat.reduceAdd, Nat.reduceEqDiff, if_true, if_false, Nat.reduceMod, Nat.reduceDiv] at ha0 ha1
  clear hT hX hg
  by_cases hn : 3 ≤ s.size
  · rw [fullX, if_pos (by omega)]
    have hz2 : (3 : Int) ≤ (s.size : Int) := by omega
    clear hs1 hs2
    go_enter Tryd.func49, Tryd.ntmps49
    go_wp2
    go_ret
    exact ⟨rfl, Below.refl _ _⟩
  have hnz : (s.size : Int) < 3 := by omega
  by_cases hk : s.size = 1
  · skip
    have hf : fullX 35 s.size x1.toNat x2.toNat = fullX 35 1 x1.toNat x2.toNat := by rw [hk]
    have hh : (s.size : Int) < 3 := by omega
    rw [hf]
    clear hf
    have g1 : decide ((1 : Int) < (s.size : Int)) = false := decide_eq_false (by omega)
    have g2 : decide ((2 : Int) < (s.size : Int)) = false := decide_eq_false (by omega)
    have hv : fullX 35 1 x1.toNat x2.toNat = false := by simp [fullX, accLo, accHi]; try omega
    clear hs1 hs2
    rw [hv]
    clear hv hk hn hnz
    go_enter Tryd.func49, Tryd.ntmps49
    go_wp2
    go_region
    all_goals go_wp2
    all_goals (go_ret; exact ⟨rfl, by first | exact (Below.refl _ _).alloc (Nat.le_refl _) _ | exact (Below.drew ((Below.refl _ _).alloc (Nat.le_refl _) _))⟩)
  have hk : s.size = 2 := by omega
  · skip
    have hf : fullX 35 s.size x1.toNat x2.toNat = fullX 35 2 x1.toNat x2.toNat := by rw [hk]
    have hh : (s.size : Int) < 3 := by omega
    rw [hf]
    clear hf
    have g1 : decide ((1 : Int) < (s.size : Int)) = true := decide_eq_true (by omega)
    have g5 : (1 : Int) < (s.size : Int) := by omega
    have g2 : decide ((2 : Int) < (s.size : Int)) = false := decide_eq_false (by omega)
    have g3 : 1 < s.size := by omega
    have hs1 := hs1 g3
    clear hs2
    by_cases b1 : (x1.toNat : Int) < 128
    · have hv : fullX 35 2 x1.toNat x2.toNat = true := by simp [fullX, accLo, accHi]; try omega
      rw [hv]
      clear hv hk hn hnz
      go_enter Tryd.func49, Tryd.ntmps49
      go_wp2
      go_region
      all_goals go_wp2
      all_goals (go_ret; exact ⟨rfl, by first | exact (Below.refl _ _).alloc (Nat.le_refl _) _ | exact (Below.drew ((Below.refl _ _).alloc (Nat.le_refl _) _))⟩)
    have d1 : decide ((x1.toNat : Int) < 128) = false := decide_eq_false (by omega)
    by_cases b2 : (159 : Int) < (x1.toNat : Int)
    · have hv : fullX 35 2 x1.toNat x2.toNat = true := by simp [fullX, accLo, accHi]; try omega
      rw [hv]
      clear hv hk hn hnz
      go_enter Tryd.func49, Tryd.ntmps49
      go_wp2
      go_region
      all_goals go_wp2
      all_goals (go_ret; exact ⟨rfl, by first | exact (Below.refl _ _).alloc (Nat.le_refl _) _ | exact (Below.drew ((Below.refl _ _).alloc (Nat.le_refl _) _))⟩)
    have d2 : decide ((159 : Int) < (x1.toNat : Int)) = false := decide_eq_false (by omega)
    have hv : fullX 35 2 x1.toNat x2.toNat = false := by simp [fullX, accLo, accHi]; try omega
    rw [hv]
    clear hv hk hn hnz
    go_enter Tryd.func49, Tryd.ntmps49
    go_wp2
    go_region
    all_goals go_wp2
    all_goals (go_ret; exact ⟨rfl, by first | exact (Below.refl _ _).alloc (Nat.le_refl _) _ | exact (Below.drew ((Below.refl _ _).alloc (Nat.le_refl _) _))⟩)
theorem full_52 (s : ByteArray) (w : World) (hg : Gl w) (h : 0 < s.size) (x0 x1 x2 : UInt8) (hs0 : s[0]'h = x0) (hs1 : (k : 1 < s.size) → s[1]'k = x1) (hs2 : (k : 2 < s.size) → s[2]'k = x2) (hX : firstT x0.toNat = 52) : Calls Tryd.prog 49 #[.string s] w fun e w' => e = .returned (.bool (fullX 52 s.size x1.toNat x2.toNat)) ∧ Below w.heap.size w w' := by
  have l0 := x0.toNat_lt; have l1 := x1.toNat_lt; have l2 := x2.toNat_lt
  have hT := hg.tabs
  have hc0 := hT.1 x0.toNat (by omega)
  have hz0 : (0 : Int) < (s.size : Int) := by omega
  have hz1 : ((s.size : Int) == 0) = false := beq_eq_false_iff_ne.2 (by omega)
  rw [hX] at hc0
  have ha0 := (hT.2 3 (by omega)).1
  have ha1 := (hT.2 3 (by omega)).2
  simp only [accLo, accHi, Nat.reduceMul, Nat.reduceAdd, Nat.reduceEqDiff, if_true, if_false, Nat.reduceMod, Nat.reduceDiv] at ha0 ha1
  clear hT hX hg
  by_cases hn : 4 ≤ s.size
  · rw [fullX, if_pos (by omega)]
    have hz2 : (4 : Int) ≤ (s.size : Int) := by omega
    clear hs1 hs2
    go_enter Tryd.func49, Tryd.ntmps49
    go_wp2
    go_ret
    exact ⟨rfl, Below.refl _ _⟩
  have hnz : (s.size : Int) < 4 := by omega
  by_cases hk : s.size = 1
  · skip
    have hf : fullX 52 s.size x1.toNat x2.toNat = fullX 52 1 x1.toNat x2.toNat := by rw [hk]
    have hh : (s.size : Int) < 4 := by omega
    rw [hf]
    clear hf
    have g1 : decide ((1 : Int) < (s.size : Int)) = false := decide_eq_false (by omega)
    have g2 : decide ((2 : Int) < (s.size : Int)) = false := decide_eq_false (by omega)
    have hv : fullX 52 1 x1.toNat x2.toNat = false := by simp [fullX, accLo, accHi]; try omega
    clear hs1 hs2
    rw [hv]
    clear hv hk hn hnz
    go_enter Tryd.func49, Tryd.ntmps49
    go_wp2
    go_region
    all_goals go_wp2
    all_goals (go_ret; exact ⟨rfl, by first | exact (Below.refl _ _).alloc (Nat.le_refl _) _ | exact (Below.drew ((Below.refl _ _).alloc (Nat.le_refl _) _))⟩)
  by_cases hk : s.size = 2
  · skip
    have hf : fullX 52 s.size x1.toNat x2.toNat = fullX 52 2 x1.toNat x2.toNat := by rw [hk]
    have hh : (s.size : Int) < 4 := by omega
    rw [hf]
    clear hf
    have g1 : decide ((1 : Int) < (s.size : Int)) = true := decide_eq_true (by omega)
    have g5 : (1 : Int) < (s.size : Int) := by omega
    have g2 : decide ((2 : Int) < (s.size : Int)) = false := decide_eq_false (by omega)
    have g3 : 1 < s.size := by omega
    have hs1 := hs1 g3
    clear hs2
    by_cases b1 : (x1.toNat : Int) < 144
    · have hv : fullX 52 2 x1.toNat x2.toNat = true := by simp [fullX, accLo, accHi]; try omega
      rw [hv]
      clear hv hk hn hnz
      go_enter Tryd.func49, Tryd.ntmps49
      go_wp2
      go_region
      all_goals go_wp2
      all_goals (go_ret; exact ⟨rfl, by first | exact (Below.refl _ _).alloc (Nat.le_refl _) _ | exact (Below.drew ((Below.refl _ _).alloc (Nat.le_refl _) _))⟩)
    have d1 : decide ((x1.toNat : Int) < 144) = false := decide_eq_false (by omega)
    by_cases b2 : (191 : Int) < (x1.toNat : Int)
    · have hv : fullX 52 2 x1.toNat x2.toNat = true := by simp [fullX, accLo, accHi]; try omega
      rw [hv]
      clear hv hk hn hnz
      go_enter Tryd.func49, Tryd.ntmps49
      go_wp2
      go_region
      all_goals go_wp2
      all_goals (go_ret; exact ⟨rfl, by first | exact (Below.refl _ _).alloc (Nat.le_refl _) _ | exact (Below.drew ((Below.refl _ _).alloc (Nat.le_refl _) _))⟩)
    have d2 : decide ((191 : Int) < (x1.toNat : Int)) = false := decide_eq_false (by omega)
    have hv : fullX 52 2 x1.toNat x2.toNat = false := by simp [fullX, accLo, accHi]; try omega
    rw [hv]
    clear hv hk hn hnz
    go_enter Tryd.func49, Tryd.ntmps49
    go_wp2
    go_region
    all_goals go_wp2
    all_goals (go_ret; exact ⟨rfl, by first | exact (Below.refl _ _).alloc (Nat.le_refl _) _ | exact (Below.drew ((Below.refl _ _).alloc (Nat.le_refl _) _))⟩)
  have hk : s.size = 3 := by omega
  · skip
    have hf : fullX 52 s.size x1.toNat x2.toNat = fullX 52 3 x1.toNat x2.toNat := by rw [hk]
    have hh : (s.size : Int) < 4 := by omega
    rw [hf]
    clear hf
    have g1 : decide ((1 : Int) < (s.size : Int)) = true := decide_eq_true (by omega)
    have g5 : (1 : Int) < (s.size : Int) := by omega
    have g2 : decide ((2 : Int) < (s.size : Int)) = true := decide_eq_true (by omega)
    have g6 : (2 : Int) < (s.size : Int) := by omega
    have g3 : 1 < s.size := by omega
    have hs1 := hs1 g3
    have g4 : 2 < s.size := by omega
    have hs2 := hs2 g4
    by_cases b1 : (x1.toNat : Int) < 144
    · have hv : fullX 52 3 x1.toNat x2.toNat = true := by simp [fullX, accLo, accHi]; try omega
      rw [hv]
      clear hv hk hn hnz
      go_enter Tryd.func49, Tryd.ntmps49
      go_wp2
      go_region
      all_goals go_wp2
      all_goals (go_ret; exact ⟨rfl, by first | exact (Below.refl _ _).alloc (Nat.le_refl _) _ | exact (Below.drew ((Below.refl _ _).alloc (Nat.le_refl _) _))⟩)
    have d1 : decide ((x1.toNat : Int) < 144) = false := decide_eq_false (by omega)
    by_cases b2 : (191 : Int) < (x1.toNat : Int)
    · have hv : fullX 52 3 x1.toNat x2.toNat = true := by simp [fullX, accLo, accHi]; try omega
      rw [hv]
      clear hv hk hn hnz
      go_enter Tryd.func49, Tryd.ntmps49
      go_wp2
      go_region
      all_goals go_wp2
      all_goals (go_ret; exact ⟨rfl, by first | exact (Below.refl _ _).alloc (Nat.le_refl _) _ | exact (Below.drew ((Below.refl _ _).alloc (Nat.le_refl _) _))⟩)
    have d2 : decide ((191 : Int) < (x1.toNat : Int)) = false := decide_eq_false (by omega)
    by_cases b3 : (x2.toNat : Int) < 128
    · have hv : fullX 52 3 x1.toNat x2.toNat = true := by simp [fullX, accLo, accHi]; try omega
      rw [hv]
      clear hv hk hn hnz
      go_enter Tryd.func49, Tryd.ntmps49
      go_wp2
      go_region
      all_goals go_wp2
      all_goals (go_ret; exact ⟨rfl, by first | exact (Below.refl _ _).alloc (Nat.le_refl _) _ | exact (Below.drew ((Below.refl _ _).alloc (Nat.le_refl _) _))⟩)
    have d3 : decide ((x2.toNat : Int) < 128) = false := decide_eq_false (by omega)
    by_cases b4 : (191 : Int) < (x2.toNat : Int)
    · have hv : fullX 52 3 x1.toNat x2.toNat = true := by simp [fullX, accLo, accHi]; try omega
      rw [hv]
      clear hv hk hn hnz
      go_enter Tryd.func49, Tryd.ntmps49
      go_wp2
      go_region
      all_goals go_wp2
      all_goals (go_ret; exact ⟨rfl, by first | exact (Below.refl _ _).alloc (Nat.le_refl _) _ | exact (Below.drew ((Below.refl _ _).alloc (Nat.le_refl _) _))⟩)
    have d4 : decide ((191 : Int) < (x2.toNat : Int)) = false := decide_eq_false (by omega)
    have hv : fullX 52 3 x1.toNat x2.toNat = false := by simp [fullX, accLo, accHi]; try omega
    rw [hv]
    clear hv hk hn hnz
    go_enter Tryd.func49, Tryd.ntmps49
    go_wp2
    go_region
    all_goals go_wp2
    all_goals (go_ret; exact ⟨rfl, by first | exact (Below.refl _ _).alloc (Nat.le_refl _) _ | exact (Below.drew ((Below.refl _ _).alloc (Nat.le_refl _) _))⟩)
theorem full_4 (s : ByteArray) (w : World) (hg : Gl w) (h : 0 < s.size) (x0 x1 x2 : UInt8) (hs0 : s[0]'h = x0) (hs1 : (k : 1 < s.size) → s[1]'k = x1) (hs2 : (k : 2 < s.size) → s[2]'k = x2) (hX : firstT x0.toNat = 4) : Calls Tryd.prog 49 #[.string s] w fun e w' => e = .returned (.bool (fullX 4 s.size x1.toNat x2.toNat)) ∧ Below w.heap.size w w' := by
  have l0 := x0.toNat_lt; have l1 := x1.toNat_lt; have l2 := x2.toNat_lt
  have hT := hg.tabs
  have hc0 := hT.1 x0.toNat (by omega)
  have hz0 : (0 : Int) < (s.size : Int) := by omega
  have hz1 : ((s.size : Int) == 0) = false := beq_eq_false_iff_ne.2 (by omega)
  rw [hX] at hc0
  have ha0 := (hT.2 0 (by omega)).1
  have ha1 := (hT.2 0 (by omega)).2
  simp only [accLo, accHi, Nat.reduceMul, Nat.reduceAdd, Nat.reduceEqDiff, if_true, if_false, Nat.reduceMod, Nat.reduceDiv] at ha0 ha1
  clear hT hX hg
  by_cases hn : 4 ≤ s.size
  · rw [fullX, if_pos (by omega)]
    have hz2 : (4 : Int) ≤ (s.size : Int) := by omega
    clear hs1 hs2
    go_enter Tryd.func49, Tryd.ntmps49
    go_wp2
    go_ret
    exact ⟨rfl, Below.refl _ _⟩
  have hnz : (s.size : Int) < 4 := by omega
  by_cases hk : s.size = 1
  · skip
    have hf : fullX 4 s.size x1.toNat x2.toNat = fullX 4 1 x1.toNat x2.toNat := by rw [hk]
    have hh : (s.size : Int) < 4 := by omega
    rw [hf]
    clear hf
    have g1 : decide ((1 : Int) < (s.size : Int)) = false := decide_eq_false (by omega)
    have g2 : decide ((2 : Int) < (s.size : Int)) = false := decide_eq_false (by omega)
    have hv : fullX 4 1 x1.toNat x2.toNat = false := by simp [fullX, accLo, accHi]; try omega
    clear hs1 hs2
    rw [hv]
    clear hv hk hn hnz
    go_enter Tryd.func49, Tryd.ntmps49
    go_wp2
    go_region
    all_goals go_wp2
    all_goals (go_ret; exact ⟨rfl, by first | exact (Below.refl _ _).alloc (Nat.le_refl _) _ | exact (Below.drew ((Below.refl _ _).alloc (Nat.le_refl _) _))⟩)
  by_cases hk : s.size = 2
  · skip
    have hf : fullX 4 s.size x1.toNat x2.toNat = fullX 4 2 x1.toNat x2.toNat := by rw [hk]
    have hh : (s.size : Int) < 4 := by omega
    rw [hf]
    clear hf
    have g1 : decide ((1 : Int) < (s.size : Int)) = true := decide_eq_true (by omega)
    have g5 : (1 : Int) < (s.size : Int) := by omega
    have g2 : decide ((2 : Int) < (s.size : Int)) = false := decide_eq_false (by omega)
    have g3 : 1 < s.size := by omega
    have hs1 := hs1 g3
    clear hs2
    by_cases b1 : (x1.toNat : Int) < 128
    · have hv : fullX 4 2 x1.toNat x2.toNat = true := by simp [fullX, accLo, accHi]; try omega
      rw [hv]
      clear hv hk hn hnz
      go_enter Tryd.func49, Tryd.ntmps49
      go_wp2
      go_region
      all_goals go_wp2
      all_goals (go_ret; exact ⟨rfl, by first | exact (Below.refl _ _).alloc (Nat.le_refl _) _ | exact (Below.drew ((Below.refl _ _).alloc (Nat.le_refl _) _))⟩)
    have d1 : decide ((x1.toNat : Int) < 128) = false := decide_eq_false (by omega)
    by_cases b2 : (191 : Int) < (x1.toNat : Int)
    · have hv : fullX 4 2 x1.toNat x2.toNat = true := by simp [fullX, accLo, accHi]; try omega
      rw [hv]
      clear hv hk hn hnz
      go_enter Tryd.func49, Tryd.ntmps49
      go_wp2
      go_region
      all_goals go_wp2
      all_goals (go_ret; exact ⟨rfl, by first | exact (Below.refl _ _).alloc (Nat.le_refl _) _ | exact (Below.drew ((Below.refl _ _).alloc (Nat.le_refl _) _))⟩)
    have d2 : decide ((191 : Int) < (x1.toNat : Int)) = false := decide_eq_false (by omega)
    have hv : fullX 4 2 x1.toNat x2.toNat = false := by simp [fullX, accLo, accHi]; try omega
    rw [hv]
    clear hv hk hn hnz
    go_enter Tryd.func49, Tryd.ntmps49
    go_wp2
    go_region
    all_goals go_wp2
    all_goals (go_ret; exact ⟨rfl, by first | exact (Below.refl _ _).alloc (Nat.le_refl _) _ | exact (Below.drew ((Below.refl _ _).alloc (Nat.le_refl _) _))⟩)
  have hk : s.size = 3 := by omega
  · skip
    have hf : fullX 4 s.size x1.toNat x2.toNat = fullX 4 3 x1.toNat x2.toNat := by rw [hk]
    have hh : (s.size : Int) < 4 := by omega
    rw [hf]
    clear hf
    have g1 : decide ((1 : Int) < (s.size : Int)) = true := decide_eq_true (by omega)
    have g5 : (1 : Int) < (s.size : Int) := by omega
    have g2 : decide ((2 : Int) < (s.size : Int)) = true := decide_eq_true (by omega)
    have g6 : (2 : Int) < (s.size : Int) := by omega
    have g3 : 1 < s.size := by omega
    have hs1 := hs1 g3
    have g4 : 2 < s.size := by omega
    have hs2 := hs2 g4
    by_cases b1 : (x1.toNat : Int) < 128
    · have hv : fullX 4 3 x1.toNat x2.toNat = true := by simp [fullX, accLo, accHi]; try omega
      rw [hv]
      clear hv hk hn hnz
      go_enter Tryd.func49, Tryd.ntmps49
      go_wp2
      go_region
      all_goals go_wp2
      all_goals (go_ret; exact ⟨rfl, by first | exact (Below.refl _ _).alloc (Nat.le_refl _) _ | exact (Below.drew ((Below.refl _ _).alloc (Nat.le_refl _) _))⟩)
    have d1 : decide ((x1.toNat : Int) < 128) = false := decide_eq_false (by omega)
    by_cases b2 : (191 : Int) < (x1.toNat : Int)
    · have hv : fullX 4 3 x1.toNat x2.toNat = true := by simp [fullX, accLo, accHi]; try omega
      rw [hv]
      clear hv hk hn hnz
      go_enter Tryd.func49, Tryd.ntmps49
      go_wp2
      go_region
      all_goals go_wp2
      all_goals (go_ret; exact ⟨rfl, by first | exact (Below.refl _ _).alloc (Nat.le_refl _) _ | exact (Below.drew ((Below.refl _ _).alloc (Nat.le_refl _) _))⟩)
    have d2 : decide ((191 : Int) < (x1.toNat : Int)) = false := decide_eq_false (by omega)
    by_cases b3 : (x2.toNat : Int) < 128
    · have hv : fullX 4 3 x1.toNat x2.toNat = true := by simp [fullX, accLo, accHi]; try omega
      rw [hv]
      clear hv hk hn hnz
      go_enter Tryd.func49, Tryd.ntmps49
      go_wp2
      go_region
      all_goals go_wp2
      all_goals (go_ret; exact ⟨rfl, by first | exact (Below.refl _ _).alloc (Nat.le_refl _) _ | exact (Below.drew ((Below.refl _ _).alloc (Nat.le_refl _) _))⟩)
    have d3 : decide ((x2.toNat : Int) < 128) = false := decide_eq_false (by omega)
    by_cases b4 : (191 : Int) < (x2.toNat : Int)
    · have hv : fullX 4 3 x1.toNat x2.toNat = true := by simp [fullX, accLo, accHi]; try omega
      rw [hv]
      clear hv hk hn hnz
      go_enter Tryd.func49, Tryd.ntmps49
      go_wp2
      go_region
      all_goals go_wp2
      all_goals (go_ret; exact ⟨rfl, by first | exact (Below.refl _ _).alloc (Nat.le_refl _) _ | exact (Below.drew ((Below.refl _ _).alloc (Nat.le_refl _) _))⟩)
    have d4 : decide ((191 : Int) < (x2.toNat : Int)) = false := decide_eq_false (by omega)
    have hv : fullX 4 3 x1.toNat x2.toNat = false := by simp [fullX, accLo, accHi]; try omega
    rw [hv]
    clear hv hk hn hnz
    go_enter Tryd.func49, Tryd.ntmps49
    go_wp2
    go_region
    all_goals go_wp2
    all_goals (go_ret; exact ⟨rfl, by first | exact (Below.refl _ _).alloc (Nat.le_refl _) _ | exact (Below.drew ((Below.refl _ _).alloc (Nat.le_refl _) _))⟩)
theorem full_68 (s : ByteArray) (w : World) (hg : Gl w) (h : 0 < s.size) (x0 x1 x2 : UInt8) (hs0 : s[0]'h = x0) (hs1 : (k : 1 < s.size) → s[1]'k = x1) (hs2 : (k : 2 < s.size) → s[2]'k = x2) (hX : firstT x0.toNat = 68) : Calls Tryd.prog 49 #[.string s] w fun e w' => e = .returned (.bool (fullX 68 s.size x1.toNat x2.toNat)) ∧ Below w.heap.size w w' := by
  have l0 := x0.toNat_lt; have l1 := x1.toNat_lt; have l2 := x2.toNat_lt
  have hT := hg.tabs
  have hc0 := hT.1 x0.toNat (by omega)
  have hz0 : (0 : Int) < (s.size : Int) := by omega
  have hz1 : ((s.size : Int) == 0) = false := beq_eq_false_iff_ne.2 (by omega)
  rw [hX] at hc0
  have ha0 := (hT.2 4 (by omega)).1
  have ha1 := (hT.2 4 (by omega)).2
  simp only [accLo, accHi, Nat.reduceMul, Nat.reduceAdd, Nat.reduceEqDiff, if_true, if_false, Nat.reduceMod, Nat.reduceDiv] at ha0 ha1
  clear hT hX hg
  by_cases hn : 4 ≤ s.size
  · rw [fullX, if_pos (by omega)]
    have hz2 : (4 : Int) ≤ (s.size : Int) := by omega
    clear hs1 hs2
    go_enter Tryd.func49, Tryd.ntmps49
    go_wp2
    go_ret
    exact ⟨rfl, Below.refl _ _⟩
  have hnz : (s.size : Int) < 4 := by omega
  by_cases hk : s.size = 1
  · skip
    have hf : fullX 68 s.size x1.toNat x2.toNat = fullX 68 1 x1.toNat x2.toNat := by rw [hk]
    have hh : (s.size : Int) < 4 := by omega
    rw [hf]
    clear hf
    have g1 : decide ((1 : Int) < (s.size : Int)) = false := decide_eq_false (by omega)
    have g2 : decide ((2 : Int) < (s.size : Int)) = false := decide_eq_false (by omega)
    have hv : fullX 68 1 x1.toNat x2.toNat = false := by simp [fullX, accLo, accHi]; try omega
    clear hs1 hs2
    rw [hv]
    clear hv hk hn hnz
    go_enter Tryd.func49, Tryd.ntmps49
    go_wp2
    go_region
    all_goals go_wp2
    all_goals (go_ret; exact ⟨rfl, by first | exact (Below.refl _ _).alloc (Nat.le_refl _) _ | exact (Below.drew ((Below.refl _ _).alloc (Nat.le_refl _) _))⟩)
  by_cases hk : s.size = 2
  · skip
    have hf : fullX 68 s.size x1.toNat x2.toNat = fullX 68 2 x1.toNat x2.toNat := by rw [hk]
    have hh : (s.size : Int) < 4 := by omega
    rw [hf]
    clear hf
    have g1 : decide ((1 : Int) < (s.size : Int)) = true := decide_eq_true (by omega)
    have g5 : (1 : Int) < (s.size : Int) := by omega
    have g2 : decide ((2 : Int) < (s.size : Int)) = false := decide_eq_false (by omega)
    have g3 : 1 < s.size := by omega
    have hs1 := hs1 g3
    clear hs2
    by_cases b1 : (x1.toNat : Int) < 128
    · have hv : fullX 68 2 x1.toNat x2.toNat = true := by simp [fullX, accLo, accHi]; try omega
      rw [hv]
      clear hv hk hn hnz
      go_enter Tryd.func49, Tryd.ntmps49
      go_wp2
      go_region
      all_goals go_wp2
      all_goals (go_ret; exact ⟨rfl, by first | exact (Below.refl _ _).alloc (Nat.le_refl _) _ | exact (Below.drew ((Below.refl _ _).alloc (Nat.le_refl _) _))⟩)
    have d1 : decide ((x1.toNat : Int) < 128) = false := decide_eq_false (by omega)
    by_cases b2 : (143 : Int) < (x1.toNat : Int)
    · have hv : fullX 68 2 x1.toNat x2.toNat = true := by simp [fullX, accLo, accHi]; try omega
      rw [hv]
      clear hv hk hn hnz
      go_enter Tryd.func49, Tryd.ntmps49
      go_wp2
      go_region
      all_goals go_wp2
      all_goals (go_ret; exact ⟨rfl, by first | exact (Below.refl _ _).alloc (Nat.le_refl _) _ | exact (Below.drew ((Below.refl _ _).alloc (Nat.le_refl _) _))⟩)
    have d2 : decide ((143 : Int) < (x1.toNat : Int)) = false := decide_eq_false (by omega)
    have hv : fullX 68 2 x1.toNat x2.toNat = false := by simp [fullX, accLo, accHi]; try omega
    rw [hv]
    clear hv hk hn hnz
    go_enter Tryd.func49, Tryd.ntmps49
    go_wp2
    go_region
    all_goals go_wp2
    all_goals (go_ret; exact ⟨rfl, by first | exact (Below.refl _ _).alloc (Nat.le_refl _) _ | exact (Below.drew ((Below.refl _ _).alloc (Nat.le_refl _) _))⟩)
  have hk : s.size = 3 := by omega
  · skip
    have hf : fullX 68 s.size x1.toNat x2.toNat = fullX 68 3 x1.toNat x2.toNat := by rw [hk]
    have hh : (s.size : Int) < 4 := by omega
    rw [hf]
    clear hf
    have g1 : decide ((1 : Int) < (s.size : Int)) = true := decide_eq_true (by omega)
    have g5 : (1 : Int) < (s.size : Int) := by omega
    have g2 : decide ((2 : Int) < (s.size : Int)) = true := decide_eq_true (by omega)
    have g6 : (2 : Int) < (s.size : Int) := by omega
    have g3 : 1 < s.size := by omega
    have hs1 := hs1 g3
    have g4 : 2 < s.size := by omega
    have hs2 := hs2 g4
    by_cases b1 : (x1.toNat : Int) < 128
    · have hv : fullX 68 3 x1.toNat x2.toNat = true := by simp [fullX, accLo, accHi]; try omega
      rw [hv]
      clear hv hk hn hnz
      go_enter Tryd.func49, Tryd.ntmps49
      go_wp2
      go_region
      all_goals go_wp2
      all_goals (go_ret; exact ⟨rfl, by first | exact (Below.refl _ _).alloc (Nat.le_refl _) _ | exact (Below.drew ((Below.refl _ _).alloc (Nat.le_refl _) _))⟩)
    have d1 : decide ((x1.toNat : Int) < 128) = false := decide_eq_false (by omega)
    by_cases b2 : (143 : Int) < (x1.toNat : Int)
    · have hv : fullX 68 3 x1.toNat x2.toNat = true := by simp [fullX, accLo, accHi]; try omega
      rw [hv]
      clear hv hk hn hnz
      go_enter Tryd.func49, Tryd.ntmps49
      go_wp2
      go_region
      all_goals go_wp2
      all_goals (go_ret; exact ⟨rfl, by first | exact (Below.refl _ _).alloc (Nat.le_refl _) _ | exact (Below.drew ((Below.refl _ _).alloc (Nat.le_refl _) _))⟩)
    have d2 : decide ((143 : Int) < (x1.toNat : Int)) = false := decide_eq_false (by omega)
    by_cases b3 : (x2.toNat : Int) < 128
    · have hv : fullX 68 3 x1.toNat x2.toNat = true := by simp [fullX, accLo, accHi]; try omega
      rw [hv]
      clear hv hk hn hnz
      go_enter Tryd.func49, Tryd.ntmps49
      go_wp2
      go_region
      all_goals go_wp2
      all_goals (go_ret; exact ⟨rfl, by first | exact (Below.refl _ _).alloc (Nat.le_refl _) _ | exact (Below.drew ((Below.refl _ _).alloc (Nat.le_refl _) _))⟩)
    have d3 : decide ((x2.toNat : Int) < 128) = false := decide_eq_false (by omega)
    by_cases b4 : (191 : Int) < (x2.toNat : Int)
    · have hv : fullX 68 3 x1.toNat x2.toNat = true := by simp [fullX, accLo, accHi]; try omega
      rw [hv]
      clear hv hk hn hnz
      go_enter Tryd.func49, Tryd.ntmps49
      go_wp2
      go_region
      all_goals go_wp2
      all_goals (go_ret; exact ⟨rfl, by first | exact (Below.refl _ _).alloc (Nat.le_refl _) _ | exact (Below.drew ((Below.refl _ _).alloc (Nat.le_refl _) _))⟩)
    have d4 : decide ((191 : Int) < (x2.toNat : Int)) = false := decide_eq_false (by omega)
    have hv : fullX 68 3 x1.toNat x2.toNat = false := by simp [fullX, accLo, accHi]; try omega
    rw [hv]
    clear hv hk hn hnz
    go_enter Tryd.func49, Tryd.ntmps49
    go_wp2
    go_region
    all_goals go_wp2
    all_goals (go_ret; exact ⟨rfl, by first | exact (Below.refl _ _).alloc (Nat.le_refl _) _ | exact (Below.drew ((Below.refl _ _).alloc (Nat.le_refl _) _))⟩)
theorem full_240 (s : ByteArray) (w : World) (hg : Gl w) (h : 0 < s.size) (x0 x1 x2 : UInt8) (hs0 : s[0]'h = x0) (hs1 : (k : 1 < s.size) → s[1]'k = x1) (hs2 : (k : 2 < s.size) → s[2]'k = x2) (hX : firstT x0.toNat = 240) : Calls Tryd.prog 49 #[.string s] w fun e w' => e = .returned (.bool (fullX 240 s.size x1.toNat x2.toNat)) ∧ Below w.heap.size w w' := by
  have l0 := x0.toNat_lt; have l1 := x1.toNat_lt; have l2 := x2.toNat_lt
  have hT := hg.tabs
  have hc0 := hT.1 x0.toNat (by omega)
  have hz0 : (0 : Int) < (s.size : Int) := by omega
  have hz1 : ((s.size : Int) == 0) = false := beq_eq_false_iff_ne.2 (by omega)
  rw [hX] at hc0
  rw [fullX, if_pos (by omega)]
  clear hT hX hs1 hs2 hg
  go_enter Tryd.func49, Tryd.ntmps49
  go_wp2
  go_ret
  exact ⟨rfl, Below.refl _ _⟩
theorem full_241 (s : ByteArray) (w : World) (hg : Gl w) (h : 0 < s.size) (x0 x1 x2 : UInt8) (hs0 : s[0]'h = x0) (hs1 : (k : 1 < s.size) → s[1]'k = x1) (hs2 : (k : 2 < s.size) → s[2]'k = x2) (hX : firstT x0.toNat = 241) : Calls Tryd.prog 49 #[.string s] w fun e w' => e = .returned (.bool (fullX 241 s.size x1.toNat x2.toNat)) ∧ Below w.heap.size w w' := by
  have l0 := x0.toNat_lt; have l1 := x1.toNat_lt; have l2 := x2.toNat_lt
  have hT := hg.tabs
  have hc0 := hT.1 x0.toNat (by omega)
  have hz0 : (0 : Int) < (s.size : Int) := by omega
  have hz1 : ((s.size : Int) == 0) = false := beq_eq_false_iff_ne.2 (by omega)
  rw [hX] at hc0
  rw [fullX, if_pos (by omega)]
  clear hT hX hs1 hs2 hg
  go_enter Tryd.func49, Tryd.ntmps49
  go_wp2
  go_ret
  exact ⟨rfl, Below.refl _ _⟩
theorem full_calls (s : ByteArray) (w : World) (hg : Gl w) (h : 0 < s.size) :
    Calls Tryd.prog 49 #[.string s] w fun e w' => e = .returned (.bool (fullX (firstT (s.get! 0).toNat) s.size (s.get! 1).toNat (s.get! 2).toNat)) ∧ Below w.heap.size w w' := by
  have hs0 : s[0]'h = s.get! 0 := (Utf8W.get!_of_lt s 0 h).symm
  have hs1 : (k : 1 < s.size) → s[1]'k = s.get! 1 := fun k => (Utf8W.get!_of_lt s 1 k).symm
  have hs2 : (k : 2 < s.size) → s[2]'k = s.get! 2 := fun k => (Utf8W.get!_of_lt s 2 k).symm
  rcases Lib.firstT_cases (s.get! 0).toNat with hX | hX | hX | hX | hX | hX | hX | hX | hX
  · rw [hX]; exact full_240 s w hg h _ _ _ hs0 hs1 hs2 hX
  · rw [hX]; exact full_241 s w hg h _ _ _ hs0 hs1 hs2 hX
  · rw [hX]; exact full_2 s w hg h _ _ _ hs0 hs1 hs2 hX
  · rw [hX]; exact full_19 s w hg h _ _ _ hs0 hs1 hs2 hX
  · rw [hX]; exact full_3 s w hg h _ _ _ hs0 hs1 hs2 hX
  · rw [hX]; exact full_35 s w hg h _ _ _ hs0 hs1 hs2 hX
  · rw [hX]; exact full_52 s w hg h _ _ _ hs0 hs1 hs2 hX
  · rw [hX]; exact full_4 s w hg h _ _ _ hs0 hs1 hs2 hX
  · rw [hX]; exact full_68 s w hg h _ _ _ hs0 hs1 hs2 hX
end Go.Proofs.YtojhbioljpamhaaDoor.My
