/- The document's Codes answers what New does. -/
import Derived.Test.YtlgpmpnobcdogaaMyDocC
namespace Go.Proofs.Ytlgpmpnobcdogaa.My
open Go.RowKit Go.Proofs.Ytlgpmpnobcdogaa.Huf Go.Proofs.Ytlgpmpnobcdogaa.PHuffCodes Go.Proofs.Ytlgpmpnobcdogaa.MyDocCodes Go.Proofs.YtlgpmpnobcdogaaW.PrintWords Go.Proofs.YtlgpmpnobcdogaaW.PrintLast Go.Proofs.YtlgpmpnobcdogaaW.PrintMore
set_option linter.unusedVariables false
set_option linter.unusedSimpArgs false

def rowOf (L : List Int) (u : Nat) : ByteArray := rowF (code L u) (L.getD u 0).toNat ⟨#[]⟩
/-- All codes as rows of bits. -/
def wantL (L : List Int) : List ByteArray := (List.range L.length).map (rowOf L)
/-- Those that are laid so far: all of lengths below n, and of length n those ahead of t. -/
def outL (L : List Int) (n t : Nat) : List ByteArray := (List.range L.length).map fun u => if L.getD u 0 ≠ 0 ∧ (L.getD u 0 < (n : Int) ∨ L.getD u 0 = (n : Int) ∧ u < t) then rowOf L u else ⟨#[]⟩
theorem outL_len (L : List Int) (n t : Nat) : (outL L n t).length = L.length := by simp [outL]
theorem map_range_congr {α : Type} (n : Nat) (f g : Nat → α) (h : ∀ u, u < n → f u = g u) : (List.range n).map f = (List.range n).map g := by
  apply List.map_congr_left
  intro u hu
  exact h u (List.mem_range.1 hu)
theorem outL_skip (L : List Int) (n s : Nat) (h : L.getD s 0 ≠ (n : Int)) : outL L n (s + 1) = outL L n s := map_range_congr _ _ _ fun u hu => by
  have : (L.getD u 0 ≠ 0 ∧ (L.getD u 0 < (n : Int) ∨ L.getD u 0 = (n : Int) ∧ u < s + 1)) ↔ (L.getD u 0 ≠ 0 ∧ (L.getD u 0 < (n : Int) ∨ L.getD u 0 = (n : Int) ∧ u < s)) := by
    by_cases e : u = s
    · subst e
      exact ⟨fun ⟨a, b⟩ => ⟨a, b.elim .inl fun c => absurd c.1 h⟩, fun ⟨a, b⟩ => ⟨a, b.elim .inl fun c => absurd c.1 h⟩⟩
    · exact ⟨fun ⟨a, b⟩ => ⟨a, b.elim .inl fun c => .inr ⟨c.1, by omega⟩⟩, fun ⟨a, b⟩ => ⟨a, b.elim .inl fun c => .inr ⟨c.1, by omega⟩⟩⟩
  simp only [this]
theorem outL_set (L : List Int) (n s : Nat) (hn : n ≠ 0) (h : L.getD s 0 = (n : Int)) : (outL L n s).set s (rowOf L s) = outL L n (s + 1) := by
  apply List.ext_getElem
  · simp [outL]
  · intro u a b
    rw [List.getElem_set]
    simp only [outL, List.getElem_map, List.getElem_range]
    split
    · next e =>
      subst e
      rw [if_pos ⟨by rw [h]; omega, .inr ⟨h, by omega⟩⟩]
    · next e =>
      have : (L.getD u 0 ≠ 0 ∧ (L.getD u 0 < (n : Int) ∨ L.getD u 0 = (n : Int) ∧ u < s + 1)) ↔ (L.getD u 0 ≠ 0 ∧ (L.getD u 0 < (n : Int) ∨ L.getD u 0 = (n : Int) ∧ u < s)) :=
        ⟨fun ⟨a, b⟩ => ⟨a, b.elim .inl fun c => .inr ⟨c.1, by omega⟩⟩, fun ⟨a, b⟩ => ⟨a, b.elim .inl fun c => .inr ⟨c.1, by omega⟩⟩⟩
      simp only [this]
theorem outL_next (L : List Int) (n : Nat) : outL L n L.length = outL L (n + 1) 0 := map_range_congr _ _ _ fun u hu => by
  have : (L.getD u 0 ≠ 0 ∧ (L.getD u 0 < (n : Int) ∨ L.getD u 0 = (n : Int) ∧ u < L.length)) ↔ (L.getD u 0 ≠ 0 ∧ (L.getD u 0 < ((n + 1 : Nat) : Int) ∨ L.getD u 0 = ((n + 1 : Nat) : Int) ∧ u < 0)) :=
    ⟨fun ⟨a, b⟩ => ⟨a, b.elim (fun c => .inl (by omega)) fun c => .inl (by omega)⟩, fun ⟨a, b⟩ => ⟨a, b.elim (fun c => by by_cases e : L.getD u 0 = (n : Int); exact .inr ⟨e, hu⟩; exact .inl (by omega)) fun c => by omega⟩⟩
  simp only [this]
theorem getD_ok (L : List Int) (hok : okL L = true) (u : Nat) (hu : u < L.length) : 0 ≤ L.getD u 0 ∧ L.getD u 0 ≤ 15 := by
  have hmem : L.getD u 0 ∈ L := by rw [List.getD_eq_getElem?_getD, List.getElem?_eq_getElem hu]; exact List.getElem_mem _
  have := List.all_eq_true.1 hok _ hmem
  simpa using this
theorem outL_all (L : List Int) (hok : okL L = true) : outL L 16 0 = wantL L := map_range_congr _ _ _ fun u hu => by
  have h := getD_ok L hok u hu
  by_cases e : L.getD u 0 = 0
  · rw [if_neg (fun c => c.1 e)]
    unfold rowOf
    rw [e]
    rfl
  · rw [if_pos ⟨e, .inl (by omega)⟩]
theorem outL_none (L : List Int) (hok : okL L = true) : List.replicate L.length (⟨#[]⟩ : ByteArray) = outL L 1 0 := by
  apply List.ext_getElem
  · simp [outL]
  · intro u a b
    have hu : u < L.length := by simpa using a
    have h := getD_ok L hok u hu
    simp only [outL, List.getElem_replicate, List.getElem_map, List.getElem_range]
    rw [if_neg (fun c => by rcases c.2 with d | d <;> omega)]
theorem shl_one (n : Nat) (h : n ≤ 40) : shl .i64 1 (IntKind.u64.wrap (n : Int)) = ((2 ^ n : Nat) : Int) := by
  rw [un (n : Int) (by omega) (by omega)]
  have h1 : 2 ^ n ≤ 2 ^ 40 := Nat.pow_le_pow_right (by decide) h
  show IntKind.i64.wrap (1 * 2 ^ min (n : Int).toNat 64) = _
  rw [Nat.min_eq_left (by omega), Int.toNat_natCast, Int.one_mul, show ((2 : Int) ^ n) = ((2 ^ n : Nat) : Int) by push_cast; rfl, IntKind.wrap_i64]
  generalize 2 ^ n = q at *
  omega
def onesF (L : List Int) (n s : Nat) : Nat := if n = 1 then cn (L.take s) 1 else cn L 1
theorem step_mul (a b q : Nat) : (a + (b + 1)) * q = (a + b) * q + q := by rw [← Nat.add_assoc]; exact Nat.succ_mul _ _
theorem wr2 (a b n : Nat) (h15 : n ≤ 15) (hle : a + b ≤ 2 ^ n) : wrap64 ((((a + b) * 2 ^ (15 - n) : Nat) : Int) + ((2 ^ (15 - n) : Nat) : Int)) = (((a + (b + 1)) * 2 ^ (15 - n) : Nat) : Int) := by
  have hu : 2 ^ n * 2 ^ (15 - n) = 2 ^ 15 := by rw [← Nat.pow_add]; congr 1; omega
  have hu2 : (a + b) * 2 ^ (15 - n) ≤ 2 ^ 15 := by rw [← hu]; exact Nat.mul_le_mul_right _ hle
  have hu3 : 2 ^ (15 - n) ≤ 2 ^ 15 := Nat.pow_le_pow_right (by decide) (by omega)
  rw [step_mul]
  clear hu hle
  generalize (a + b) * 2 ^ (15 - n) = q1 at *
  generalize 2 ^ (15 - n) = q2 at *
  have h1 : q1 ≤ 32768 := hu2
  have h2 : q2 ≤ 32768 := hu3
  clear hu2 hu3
  rw [wn _ (by omega) (by omega)]
  omega
theorem wr1 (x : Nat) (h : x ≤ 1000000) : wrap64 ((x : Int) + 1) = ((x + 1 : Nat) : Int) := by rw [wn _ (by omega) (by omega)]; omega
theorem beg_le2 (L : List Int) (hl : L.length ≤ 320) (n s : Nat) (h15 : n ≤ 15) : beg L n + cn (L.take s) n ≤ 1000000 := by
  have h4 := beg_le L n
  have h5 := cn_take_le L s n
  have h6 := cn_le L n
  have h7 : n * L.length ≤ 15 * 320 := Nat.mul_le_mul h15 hl
  omega
theorem ones_le (L : List Int) (hl : L.length ≤ 320) (n s : Nat) : onesF L n s ≤ 1000000 := by
  unfold onesF
  split
  · have := cn_take_le L s 1; have := cn_le L 1; omega
  · have := cn_le L 1; omega
theorem pow15 (n x : Nat) (h15 : n ≤ 15) (h : x ≤ 2 ^ n) : x ≤ 1000000 := by
  have h1 : 2 ^ n ≤ 2 ^ 15 := Nat.pow_le_pow_right (by decide) h15
  exact Nat.le_trans h (Nat.le_trans h1 (by decide))
theorem l2_run (L : List Int) (lone : Bool) (hl : L.length ≤ 320) (n : Nat) (h1 : 1 ≤ n) (h15 : n ≤ 15) (k : Nat) (hk : 17 ≤ k) : ∀ d s, s + d = L.length → fst L n + cn (L.take s) n ≤ 2 ^ n →
    crossdockref07_Codes.l2 (k + 1 + d) L lone (outL L n s) ((fst L n + cn (L.take s) n : Nat) : Int) (((fst L n + cn (L.take s) n) * 2 ^ (15 - n) : Nat) : Int) ((beg L n + cn (L.take s) n : Nat) : Int) ((onesF L n s : Nat) : Int) (n : Int) (s : Int) =
      if over L n then some ([], 14) else crossdockref07_Codes.l1 k L lone (outL L n L.length) ((fst L n + cn L n : Nat) : Int) (((fst L n + cn L n) * 2 ^ (15 - n) : Nat) : Int) ((beg L n + cn L n : Nat) : Int) ((onesF L n L.length : Nat) : Int) ((n + 1 : Nat) : Int)
  | 0, s, hs, hle => by
    have : s = L.length := by omega
    subst this
    rw [List.take_length] at hle ⊢
    rw [Nat.add_zero, show k + 1 = Nat.succ k from rfl]
    simp only [crossdockref07_Codes.l2]
    rw [if_neg (by omega), wn _ (by omega) (by omega), if_neg (show ¬ over L n = true by unfold over; simpa using hle)]
    rfl
  | d + 1, s, hs, hle => by
    have hlt : s < L.length := by omega
    have hx := getD_some L s hlt
    have ih := l2_run L lone hl n h1 h15 k hk d (s + 1) (by omega)
    rw [show k + 1 + (d + 1) = Nat.succ (k + 1 + d) from rfl]
    simp only [crossdockref07_Codes.l2]
    rw [if_pos (by omega), if_pos (by omega), show rd L (s : Int) = L.getD s 0 from by unfold rd; rw [Int.toNat_natCast]]
    rw [cn_take L s n _ hx] at ih
    have hs1 : wrap64 ((s : Int) + 1) = ((s + 1 : Nat) : Int) := by rw [wn _ (by omega) (by omega)]; omega
    by_cases e : L.getD s 0 = (n : Int)
    · rw [if_pos e, if_pos (by rw [un _ (by omega) (by omega)]; omega), shl_one n (by omega)]
      rw [if_pos e] at ih
      have hcl := cn_take_le L (s + 1) n
      rw [cn_take L s n _ hx, if_pos e] at hcl
      by_cases hov : fst L n + cn (L.take s) n = 2 ^ n
      · rw [if_pos (by omega), if_pos (show over L n = true by unfold over; exact decide_eq_true (by omega))]
      · rw [if_neg (by omega), show k + 1 + d = (k + d - n) + n + 1 by omega, rowD _ n _ (by omega), Option.bind_some, if_pos (by rw [outL_len]; omega), Option.bind_some]
        have hcode : rowF (fst L n + cn (L.take s) n) n ⟨#[]⟩ = rowOf L s := by
          unfold rowOf code
          rw [e]
          simp only [Int.toNat_natCast]
          rw [if_neg (by omega)]
        rw [hcode, Int.toNat_natCast, outL_set L n s (by omega) e]
        have h15n : wrap64 (15 - (n : Int)) = ((15 - n : Nat) : Int) := by rw [wn _ (by omega) (by omega)]; omega
        rw [h15n, if_pos (by rw [un _ (by omega) (by omega)]; omega), shl_one (15 - n) (by omega)]
        have w1 : wrap64 (((fst L n + cn (L.take s) n : Nat) : Int) + 1) = ((fst L n + (cn (L.take s) n + 1) : Nat) : Int) := wr1 _ (pow15 n _ h15 hle)
        have w2 := wr2 (fst L n) (cn (L.take s) n) n h15 hle
        have w3 : wrap64 (((beg L n + cn (L.take s) n : Nat) : Int) + 1) = ((beg L n + (cn (L.take s) n + 1) : Nat) : Int) := wr1 _ (beg_le2 L hl n s h15)
        have w4 : wrap64 (((onesF L n s : Nat) : Int) + 1) = ((onesF L n s + 1 : Nat) : Int) := wr1 _ (ones_le L hl n s)
        have hle1 : fst L n + (cn (L.take s) n + 1) ≤ 2 ^ n := Nat.succ_le_of_lt (Nat.lt_of_le_of_ne hle hov)
        have hkk : k + d - n + n + 1 = k + 1 + d := by clear w1 w2 w3 w4 ih hle hov hle1; omega
        have hn1i : n = 1 → ((n : Int) = 1) := fun e => by rw [e]; rfl
        have hn1j : n ≠ 1 → ¬ ((n : Int) = 1) := fun e e2 => e (by clear w1 w2 w3 w4 ih hle hov hle1; omega)
        replace ih := ih hle1
        rw [hkk, w1, w2, w3, w4, hs1]
        by_cases hn1 : n = 1
        · rw [if_pos (hn1i hn1), ← ih]
          have : onesF L n (s + 1) = onesF L n s + 1 := by
            unfold onesF
            subst hn1
            rw [if_pos rfl, if_pos rfl, cn_take L s 1 _ hx, if_pos e]
          rw [this]
        · rw [if_neg (hn1j hn1), ← ih]
          have : onesF L n (s + 1) = onesF L n s := by unfold onesF; rw [if_neg hn1, if_neg hn1]
          rw [this]
    · rw [if_neg e, hs1]
      rw [if_neg e, Nat.add_zero, outL_skip L n s e] at ih
      rw [← ih hle]
      have : onesF L n (s + 1) = onesF L n s := by
        unfold onesF
        split
        · next hn1 => subst hn1; rw [cn_take L s 1 _ hx, if_neg e]; rfl
        · rfl
      rw [this]
/-- How many codes there are up to a length, of that length. -/
def pre (L : List Int) (n : Nat) : Nat := fst L (n - 1) + c0 L (n - 1)
def doneR (L : List Int) (lone : Bool) (b : Bool) : List ByteArray × Int :=
  if b = true then ([], 14) else if fst L 15 + cn L 15 = 32768 then (wantL L, 0) else if lone = true ∧ aloneL L = true then (wantL L, 0) else ([], 2)
theorem pre_succ (L : List Int) (n : Nat) (h1 : 1 ≤ n) : pre L (n + 1) = fst L n + cn L n := by
  unfold pre
  rw [Nat.add_sub_cancel]
  unfold c0
  rw [if_neg (by omega)]
theorem fst_pre (L : List Int) (n : Nat) (h1 : 1 ≤ n) : fst L n = pre L n * 2 := by
  obtain ⟨m, rfl⟩ : ∃ m, n = m + 1 := ⟨n - 1, by omega⟩
  rw [fst]
  unfold pre
  rw [Nat.add_sub_cancel, Nat.mul_comm]
theorem used_pre (L : List Int) (n : Nat) (h1 : 1 ≤ n) (h15 : n ≤ 15) : pre L n * 2 ^ (16 - n) = fst L n * 2 ^ (15 - n) := by
  rw [fst_pre L n h1, Nat.mul_assoc, show 16 - n = (15 - n) + 1 by omega, Nat.pow_succ, Nat.mul_comm 2 (2 ^ (15 - n))]
theorem beg_succ (L : List Int) (n : Nat) (h1 : 1 ≤ n) : beg L (n + 1) = beg L n + cn L n := by rw [beg]; unfold c0; rw [if_neg (by omega)]
theorem aloneL_iff (L : List Int) : aloneL L = true ↔ (beg L 16 = 0 ∨ beg L 16 = 1 ∧ cn L 1 = 1) := by
  unfold aloneL c0
  simp
theorem l1_run (L : List Int) (lone : Bool) (hok : okL L = true) (hl : L.length ≤ 320) (k : Nat) (hk : 17 ≤ k) : ∀ j n, n + j = 16 → 1 ≤ n → (∀ i, 1 ≤ i → i < n → over L i = false) →
    crossdockref07_Codes.l1 (k + (L.length + 2) * j + 1) L lone (outL L n 0) ((pre L n : Nat) : Int) ((pre L n * 2 ^ (16 - n) : Nat) : Int) ((beg L n : Nat) : Int) ((if n = 1 then 0 else cn L 1 : Nat) : Int) (n : Int) = some (doneR L lone (anyOver L j n))
  | 0, n, hn, h1, ho => by
    have : n = 16 := by omega
    subst this
    simp only [crossdockref07_Codes.l1]
    rw [if_neg (by omega), pre_succ L 15 (by omega), outL_all L hok]
    have e0 : (fst L 15 + cn L 15) * 2 ^ (16 - 16) = fst L 15 + cn L 15 := Nat.mul_one _
    rw [e0, show anyOver L 0 16 = false from rfl]
    unfold doneR
    rw [if_neg (show ¬ (false = true) by decide)]
    have ha := aloneL_iff L
    have e1 : (if 16 = 1 then 0 else cn L 1) = cn L 1 := if_neg (by decide)
    rw [e1]
    by_cases c : fst L 15 + cn L 15 = 32768
    · rw [if_pos (by omega), if_pos c]
    · rw [if_neg (by omega), if_neg c]
      cases lone with
      | false => rw [if_neg (by decide), if_neg (fun h => absurd h.1 (by decide))]
      | true =>
        rw [if_pos rfl]
        by_cases b0 : beg L 16 = 0
        · rw [if_pos (by omega), if_pos ⟨rfl, ha.2 (.inl b0)⟩]
        · rw [if_neg (by omega)]
          by_cases b1 : beg L 16 = 1
          · rw [if_pos (by omega)]
            by_cases b2 : cn L 1 = 1
            · rw [if_pos (by omega), if_pos ⟨rfl, ha.2 (.inr ⟨b1, b2⟩)⟩]
            · rw [if_neg (by omega), if_neg (fun h => (ha.1 h.2).elim b0 (fun h => b2 h.2))]
          · rw [if_neg (by omega), if_neg (fun h => (ha.1 h.2).elim b0 (fun h => b1 h.1))]
  | j + 1, n, hn, h1, ho => by
    have h15 : n ≤ 15 := by omega
    have hf := fst_le L n ho
    have hfuel : k + (L.length + 2) * (j + 1) + 1 = Nat.succ ((k + (L.length + 2) * j + 1) + 1 + L.length) := by rw [Nat.mul_succ]; omega
    rw [hfuel]
    simp only [crossdockref07_Codes.l1]
    rw [if_pos (by omega)]
    have hp := fst_pre L n h1
    have hpl := pow15 n _ h15 hf
    have w0 : wrap64 (((pre L n : Nat) : Int) * 2) = ((fst L n : Nat) : Int) := by rw [wn _ (by omega) (by omega)]; omega
    rw [w0, used_pre L n h1 h15]
    have h2 := l2_run L lone hl n h1 h15 (k + (L.length + 2) * j + 1) (by omega) L.length 0 (by omega) (by simpa [cn] using hf)
    have e0 : cn (L.take 0) n = 0 := by simp [cn]
    have e1 : onesF L n 0 = if n = 1 then 0 else cn L 1 := by unfold onesF; simp [cn]
    rw [e0, Nat.add_zero, Nat.add_zero, e1] at h2
    refine h2.trans ?_
    rw [anyOver]
    by_cases hov : over L n = true
    · rw [if_pos hov, hov, Bool.true_or]
      unfold doneR
      rw [if_pos rfl]
    · have hov' : over L n = false := by simpa using hov
      rw [if_neg hov, hov', Bool.false_or]
      have ih := l1_run L lone hok hl k hk j (n + 1) (by omega) (by omega) (fun i hi1 hi2 => by
        by_cases e : i = n
        · rw [e]; exact hov'
        · exact ho i hi1 (by omega))
      rw [pre_succ L n h1, beg_succ L n h1, show 16 - (n + 1) = 15 - n by omega, if_neg (by omega), ← outL_next L n] at ih
      have e2 : onesF L n L.length = cn L 1 := by
        unfold onesF
        split
        · rw [List.take_length]
        · rfl
      rw [e2]
      exact ih
theorem l0_run (L : List Int) (lone : Bool) (hl : L.length ≤ 320) (k : Nat) : ∀ d s, s + d = L.length → (∀ u, u < s → 0 ≤ L.getD u 0 ∧ L.getD u 0 ≤ 15) →
    crossdockref07_Codes.l0 (k + d + 1) L lone L (L.length : Int) (s : Int) = if okL L = true then crossdockref07_Codes.l1 k L lone (List.replicate L.length ⟨#[]⟩) 0 0 0 0 1 else some ([], 1)
  | 0, s, hs, ho => by
    simp only [crossdockref07_Codes.l0]
    have hok : okL L = true := all_true L (fun i x hx => by
      have hi := (List.getElem?_eq_some_iff.1 hx).1
      have := ho i (by omega)
      rw [List.getD_eq_getElem?_getD, hx] at this
      exact this)
    rw [if_neg (by omega), if_pos (by omega), if_pos (by omega), if_pos hok, Int.toNat_natCast]
  | d + 1, s, hs, ho => by
    rw [show k + (d + 1) + 1 = (k + d + 1) + 1 by omega]
    simp only [crossdockref07_Codes.l0]
    rw [if_pos (by omega), if_pos (by omega), if_pos (by omega), show rd L (s : Int) = L.getD s 0 from by unfold rd; rw [Int.toNat_natCast]]
    have hx := getD_some L s (by omega)
    have hbad := all_take L s _ hx
    by_cases c1 : L.getD s 0 < 0
    · rw [if_pos c1, if_neg (by rw [hbad (by omega)]; decide)]
    · rw [if_neg c1]
      by_cases c2 : L.getD s 0 > 15
      · rw [if_pos c2, if_neg (by rw [hbad (by omega)]; decide)]
      · rw [if_neg c2, wr1 s (by omega)]
        exact l0_run L lone hl k d (s + 1) (by omega) (fun u hu => by
          by_cases e : u = s
          · subst e; omega
          · exact ho u (by omega))
/-- The document's answer. -/
def docR (L : List Int) (lone : Bool) : List ByteArray × Int := match newR L lone with | none => (wantL L, 0) | some c => ([], c)
theorem doc_codes (L : List Int) (lone : Bool) : ∃ k, crossdockref07_Codes.f k L lone = some (docR L lone) := by
  refine ⟨(17 + (L.length + 2) * 15 + 1) + L.length + 1, ?_⟩
  unfold crossdockref07_Codes.f docR newR
  by_cases h320 : 320 < L.length
  · rw [if_pos (by omega), if_pos h320]
  · rw [if_neg (by omega), if_neg h320]
    have h0 := l0_run L lone (by omega) (17 + (L.length + 2) * 15 + 1) L.length 0 (by omega) (fun u hu => by omega)
    refine h0.trans ?_
    by_cases hok : okL L = true
    · rw [if_pos hok, if_neg (by rw [hok]; decide)]
      have h1 := l1_run L lone hok (by omega) 17 (Nat.le_refl _) 15 1 (by omega) (by omega) (fun i h1 h2 => by omega)
      rw [← outL_none L hok] at h1
      have hp : pre L 1 = 0 := by unfold pre; simp [fst, c0]
      have hb : beg L 1 = 0 := by simp [beg, c0]
      rw [hp, hb, if_pos rfl, Nat.zero_mul] at h1
      refine h1.trans ?_
      unfold doneR numR
      by_cases hov : anyOver L 15 1 = true
      · rw [if_pos hov, if_pos hov, if_pos (by decide)]
      · rw [if_neg hov, if_neg hov]
        have hov' : anyOver L 15 1 = false := by simpa using hov
        have h15 := over_all L 15 1 hov' 15 (by omega) (by omega)
        have h16 : fst L 15 + cn L 15 ≤ 32768 := by
          unfold over at h15
          have h17 := of_decide_eq_false h15
          rw [show 2 ^ 15 = 32768 from rfl] at h17
          omega
        rw [if_neg (show ¬ (32768 - ((fst L 15 + cn L 15 : Nat) : Int) < 0) by omega)]
        by_cases c : fst L 15 + cn L 15 = 32768
        · rw [if_pos c, if_neg (show ¬ (0 < 32768 - ((fst L 15 + cn L 15 : Nat) : Int) ∧ ¬ (lone = true ∧ aloneL L = true)) by omega)]
        · rw [if_neg c]
          by_cases c2 : lone = true ∧ aloneL L = true
          · rw [if_pos c2, if_neg (fun h => h.2 c2)]
          · rw [if_neg c2, if_pos ⟨by omega, c2⟩]
    · rw [if_neg hok, if_pos (by simpa using hok)]
end Go.Proofs.Ytlgpmpnobcdogaa.My
