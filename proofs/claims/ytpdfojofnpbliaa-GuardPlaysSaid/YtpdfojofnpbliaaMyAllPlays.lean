/- MyPlayP, MyPlayD, MyPlayW, MyPlayR, MyPlayQ, MyPlayX, MyPlayL, MyPlayM: laid into one text by merge.py. -/
import Derived.Test.YtpdfojofnpbliaaPGuardPlaysx2
import Derived.Test.YtpdfojofnpbliaaMyAllG
import Derived.RegionTactic
import Derived.Deep.RegionLaw
import Derived.Deep.Strs
import Derived.Test.YtpdfojofnpbliaaWFoot
import Derived.Lib.SmallJoins
import Derived.ChangeOld

/- What a script plays, plainly, and the document's answer. -/
namespace Go.Proofs.Ytpdfojofnpbliaa.My
open Go.RowKit Go.Proofs.Ytpdfojofnpbliaa.PGuardPlays Go.Proofs.YtpdfojofnpbliaaW.PrintWords Go.Proofs.YtpdfojofnpbliaaW.PrintLast Go.Proofs.YtpdfojofnpbliaaW.PrintMore
set_option linter.unusedVariables false
set_option linter.unusedSimpArgs false

def kd (ops : List S33) (i : Nat) : Int := (ops.getD i z33).f0
/-- The place behind the end of what is open. -/
def skipN (ops : List S33) : Nat → Nat → Nat → Nat
  | 0, i, _ => i
  | k + 1, i, o => if ops.length ≤ i ∨ o = 0 then i else if kd ops i = 4 ∨ kd ops i = 5 then skipN ops k (i + 1) (o + 1) else if kd ops i = 6 then skipN ops k (i + 1) (o - 1) else skipN ops k (i + 1) o
def skp (ops : List S33) (i : Nat) : Nat := skipN ops ops.length i 1
theorem skipN_ge (ops : List S33) : ∀ k i o, i ≤ skipN ops k i o
  | 0, i, o => Nat.le_refl _
  | k + 1, i, o => by
    rw [skipN]
    have h1 := skipN_ge ops k (i + 1) (o + 1)
    have h2 := skipN_ge ops k (i + 1) (o - 1)
    have h3 := skipN_ge ops k (i + 1) o
    split
    · omega
    · split
      · omega
      · split <;> omega
theorem skipN_le (ops : List S33) : ∀ k i o, i ≤ ops.length → skipN ops k i o ≤ ops.length
  | 0, i, o, h => h
  | k + 1, i, o, h => by
    rw [skipN]
    split
    · exact h
    · next hc =>
      have : i + 1 ≤ ops.length := by omega
      split
      · exact skipN_le ops k _ _ this
      · split
        · exact skipN_le ops k _ _ this
        · exact skipN_le ops k _ _ this
/-- Fuel enough is fuel enough. -/
theorem skipN_fuel (ops : List S33) : ∀ k m i o, ops.length ≤ i + k → ops.length ≤ i + m → skipN ops k i o = skipN ops m i o
  | 0, 0, i, o, _, _ => rfl
  | 0, m + 1, i, o, h, _ => by rw [skipN, skipN, if_pos (.inl (by omega))]
  | k + 1, 0, i, o, _, h => by rw [skipN, skipN, if_pos (.inl (by omega))]
  | k + 1, m + 1, i, o, h1, h2 => by
    rw [skipN, skipN, skipN_fuel ops k m (i + 1) (o + 1) (by omega) (by omega), skipN_fuel ops k m (i + 1) (o - 1) (by omega) (by omega), skipN_fuel ops k m (i + 1) o (by omega) (by omega)]
theorem skp_eq (ops : List S33) (k i : Nat) (h : ops.length ≤ i + k) : skipN ops k i 1 = skp ops i := skipN_fuel ops k ops.length i 1 h (by omega)
/-- So many ends, then so many more. -/
theorem skipN_add (ops : List S33) : ∀ k i a b, ops.length ≤ i + k → skipN ops k i (a + b) = skipN ops ops.length (skipN ops k i a) b
  | 0, i, a, b, h => by
    rw [skipN, skipN]
    cases hn : ops.length with
    | zero => rfl
    | succ n => rw [skipN, if_pos (.inl (by omega))]
  | k + 1, i, a, b, h => by
    by_cases ha : a = 0
    · subst ha
      have e : skipN ops (k + 1) i 0 = i := by rw [skipN, if_pos (.inr rfl)]
      rw [e, Nat.zero_add]
      exact skipN_fuel ops (k + 1) ops.length i b h (by omega)
    · rw [skipN, skipN]
      by_cases hl : ops.length ≤ i
      · rw [if_pos (.inl hl), if_pos (.inl hl)]
        cases hn : ops.length with
        | zero => rfl
        | succ n => rw [skipN, if_pos (.inl (by omega))]
      · rw [if_neg (show ¬ (ops.length ≤ i ∨ a + b = 0) by omega), if_neg (show ¬ (ops.length ≤ i ∨ a = 0) by omega)]
        by_cases q1 : kd ops i = 4 ∨ kd ops i = 5
        · rw [if_pos q1, if_pos q1, show a + b + 1 = (a + 1) + b by omega]
          exact skipN_add ops k (i + 1) (a + 1) b (by omega)
        · rw [if_neg q1, if_neg q1]
          by_cases q2 : kd ops i = 6
          · rw [if_pos q2, if_pos q2, show a + b - 1 = (a - 1) + b by omega]
            exact skipN_add ops k (i + 1) (a - 1) b (by omega)
          · rw [if_neg q2, if_neg q2]
            exact skipN_add ops k (i + 1) a b (by omega)
def joinP (a b : ByteArray) : ByteArray := if b.toList = [] then a else (a ++ (⟨#[46]⟩ : ByteArray)) ++ b
def flt : Option (Int × ByteArray) → S39
  | none => z39
  | some (c, s) => ⟨c, s, true⟩
/-- What is noted from a place on, and what goes out. -/
def play (ops : List S33) : Nat → Nat → List S44 × Option (Int × ByteArray)
  | 0, _ => ([], none)
  | k + 1, i =>
    if ops.length ≤ i then ([], none)
    else if kd ops i = 0 then (⟨false, (ops.getD i z33).f2, z39⟩ :: (play ops k (i + 1)).1, (play ops k (i + 1)).2)
    else if kd ops i = 2 then play ops k (i + 1)
    else if kd ops i = 1 ∨ kd ops i = 3 then ([], some ((ops.getD i z33).f1, (ops.getD i z33).f2))
    else if kd ops i = 6 then ([], none)
    else if kd ops i = 4 then ((play ops k (i + 1)).1 ++ (⟨true, ⟨#[]⟩, flt (play ops k (i + 1)).2⟩ :: (play ops k (skp ops (i + 1))).1), (play ops k (skp ops (i + 1))).2)
    else match (play ops k (i + 1)).2 with
      | none => ((play ops k (i + 1)).1 ++ (play ops k (skp ops (i + 1))).1, (play ops k (skp ops (i + 1))).2)
      | some (c, s) => ((play ops k (i + 1)).1, some (c, joinP (ops.getD i z33).f2 s))
theorem play_fuel (ops : List S33) : ∀ k m i, ops.length < i + k → ops.length < i + m → play ops k i = play ops m i
  | 0, m, i, h, _ => by
    cases m with
    | zero => rfl
    | succ m => rw [play, play, if_pos (by omega)]
  | k + 1, 0, i, _, h => by rw [play, play, if_pos (by omega)]
  | k + 1, m + 1, i, h1, h2 => by
    have g := skipN_ge ops ops.length (i + 1) 1
    rw [play, play, play_fuel ops k m (i + 1) (by omega) (by omega), play_fuel ops k m (skp ops (i + 1)) (by unfold skp; omega) (by unfold skp; omega)]
def ply (ops : List S33) (i : Nat) : List S44 × Option (Int × ByteArray) := play ops (ops.length + 1) i
theorem ply_step (ops : List S33) (i : Nat) : ply ops i =
    if ops.length ≤ i then ([], none)
    else if kd ops i = 0 then (⟨false, (ops.getD i z33).f2, z39⟩ :: (ply ops (i + 1)).1, (ply ops (i + 1)).2)
    else if kd ops i = 2 then ply ops (i + 1)
    else if kd ops i = 1 ∨ kd ops i = 3 then ([], some ((ops.getD i z33).f1, (ops.getD i z33).f2))
    else if kd ops i = 6 then ([], none)
    else if kd ops i = 4 then ((ply ops (i + 1)).1 ++ (⟨true, ⟨#[]⟩, flt (ply ops (i + 1)).2⟩ :: (ply ops (skp ops (i + 1))).1), (ply ops (skp ops (i + 1))).2)
    else match (ply ops (i + 1)).2 with
      | none => ((ply ops (i + 1)).1 ++ (ply ops (skp ops (i + 1))).1, (ply ops (skp ops (i + 1))).2)
      | some (c, s) => ((ply ops (i + 1)).1, some (c, joinP (ops.getD i z33).f2 s)) := by
  have g := skipN_ge ops ops.length (i + 1) 1
  unfold ply
  rw [play]
  rw [play_fuel ops ops.length (ops.length + 1) (i + 1) (by omega) (by omega), play_fuel ops ops.length (ops.length + 1) (skp ops (i + 1)) (by unfold skp; omega) (by unfold skp; omega)]
end Go.Proofs.Ytpdfojofnpbliaa.My

/- The document's Run is what is played. -/
namespace Go.Proofs.Ytpdfojofnpbliaa.My
open Go.RowKit Go.Proofs.Ytpdfojofnpbliaa.PGuardPlays Go.Proofs.YtpdfojofnpbliaaW.PrintWords Go.Proofs.YtpdfojofnpbliaaW.PrintLast Go.Proofs.YtpdfojofnpbliaaW.PrintMore
set_option linter.unusedVariables false
set_option linter.unusedSimpArgs false

/-- From some fuel on, this. -/
def Ev {α : Type} (f : Nat → Option α) (r : α) : Prop := ∃ k0, ∀ k, k0 ≤ k → f k = some r
theorem Ev.step {α : Type} {f g : Nat → Option α} {r : α} (h : Ev g r) (e : ∀ k, f (k + 1) = g k) : Ev f r := by
  obtain ⟨k0, h⟩ := h
  refine ⟨k0 + 1, fun k hk => ?_⟩
  obtain ⟨m, rfl⟩ : ∃ m, k = m + 1 := ⟨k - 1, by omega⟩
  rw [e]
  exact h m (by omega)
theorem Ev.now {α : Type} {f : Nat → Option α} {r : α} (e : ∀ k, f (k + 1) = some r) : Ev f r := by
  refine ⟨1, fun k hk => ?_⟩
  obtain ⟨m, rfl⟩ : ∃ m, k = m + 1 := ⟨k - 1, by omega⟩
  exact e m
theorem Ev.bind {α β : Type} {f : Nat → Option α} {a : α} {g : Nat → α → Option β} {r : β} (h : Ev f a) (hg : Ev (fun k => g k a) r) : Ev (fun k => (f k).bind (g k)) r := by
  obtain ⟨k0, h⟩ := h
  obtain ⟨k1, hg⟩ := hg
  exact ⟨max k0 k1, fun k hk => by
    show (f k).bind (g k) = some r
    rw [h k (by omega), Option.bind_some]
    exact hg k (by omega)⟩
theorem Ev.const {α : Type} (r : α) : Ev (fun _ => some r) r := ⟨0, fun _ _ => rfl⟩
theorem w1 (i : Nat) (h : i ≤ 1000000) : wrap64 ((i : Int) + 1) = ((i + 1 : Nat) : Int) := by unfold wrap64; omega
theorem rd_kd (ops : List S33) (i : Nat) : (rd_T33 ops (i : Int)).f0 = kd ops i := by unfold rd_T33 kd; rw [Int.toNat_natCast]
theorem rd_at (ops : List S33) (i : Nat) : rd_T33 ops (i : Int) = ops.getD i z33 := by unfold rd_T33; rw [Int.toNat_natCast]
theorem skip_ev (ops : List S33) (hl : ops.length ≤ 1000) : ∀ d i o, i + d = ops.length → o ≤ i + 1 → Ev (fun k => crossdockref01_skip.l0 k ops (i : Int) (o : Int)) ((skipN ops d i o : Nat) : Int)
  | 0, i, o, h, ho => by
    refine Ev.step (g := fun k => crossdockref01_skip.j1 k ops (i : Int) (o : Int) false) (Ev.now fun k => ?_) (fun k => ?_)
    · simp only [crossdockref01_skip.j1]
      rw [if_neg (by decide)]
      rfl
    · simp only [crossdockref01_skip.l0]
      rw [if_neg (by omega)]
  | d + 1, i, o, h, ho => by
    have hlt : (i : Int) < (ops.length : Int) := by omega
    by_cases h0 : o = 0
    · subst h0
      refine Ev.step (g := fun k => crossdockref01_skip.j1 k ops (i : Int) ((0 : Nat) : Int) false) (Ev.now fun k => ?_) (fun k => ?_)
      · simp only [crossdockref01_skip.j1]
        rw [if_neg (by decide), skipN, if_pos (.inr rfl)]
      · simp only [crossdockref01_skip.l0]
        rw [if_pos hlt]
        rfl
    · have e1 : wrap64 ((o : Int) + 1) = ((o + 1 : Nat) : Int) := w1 o (by omega)
      have e2 : wrap64 ((o : Int) - 1) = ((o - 1 : Nat) : Int) := by unfold wrap64; omega
      have e3 := w1 i (by omega)
      have hn : skipN ops (d + 1) i o = if kd ops i = 4 ∨ kd ops i = 5 then skipN ops d (i + 1) (o + 1) else if kd ops i = 6 then skipN ops d (i + 1) (o - 1) else skipN ops d (i + 1) o := by
        rw [skipN, if_neg (by omega)]
      rw [hn]
      refine Ev.step (g := fun k => crossdockref01_skip.j1 k ops (i : Int) (o : Int) true) ?_ (fun k => by
        simp only [crossdockref01_skip.l0]
        rw [if_pos hlt, show decide ((o : Int) > 0) = true from decide_eq_true (by omega)])
      by_cases q1 : kd ops i = 4 ∨ kd ops i = 5
      · rw [if_pos q1]
        refine Ev.step (g := fun k => crossdockref01_skip.j2 k ops (i : Int) (o : Int) true) ?_ (fun k => by
          simp only [crossdockref01_skip.j1, rd_kd]
          rw [if_pos trivial, if_pos (by omega), if_pos hlt]
          by_cases q : kd ops i = 4
          · rw [if_pos q]
          · rw [if_neg q, show (kd ops i == 5) = true by simpa using q1.resolve_left q])
        refine Ev.step (skip_ev ops hl d (i + 1) (o + 1) (by omega) (by omega)) (fun k => by
          simp only [crossdockref01_skip.j2, rd_kd]
          rw [if_pos trivial, if_pos (by omega), if_pos hlt, if_neg (by omega), e3, e1])
      · rw [if_neg q1]
        have q5 : (kd ops i == 5) = false := by simp; omega
        refine Ev.step (g := fun k => crossdockref01_skip.j2 k ops (i : Int) (o : Int) false) ?_ (fun k => by
          simp only [crossdockref01_skip.j1, rd_kd]
          rw [if_pos trivial, if_pos (by omega), if_pos hlt, if_neg (by omega), q5])
        by_cases q6 : kd ops i = 6
        · rw [if_pos q6]
          refine Ev.step (skip_ev ops hl d (i + 1) (o - 1) (by omega) (by omega)) (fun k => by
            simp only [crossdockref01_skip.j2, rd_kd]
            rw [if_neg (by decide), if_pos (by omega), if_pos hlt, if_pos q6, e3, e2])
        · rw [if_neg q6]
          refine Ev.step (skip_ev ops hl d (i + 1) o (by omega) (by omega)) (fun k => by
            simp only [crossdockref01_skip.j2, rd_kd]
            rw [if_neg (by decide), if_pos (by omega), if_pos hlt, if_neg q6, e3])
theorem skip_evf (ops : List S33) (hl : ops.length ≤ 1000) (i : Nat) (hi : i ≤ ops.length) : Ev (fun k => crossdockref01_skip.f k ops (i : Int)) ((skp ops i : Nat) : Int) := by
  have h := skip_ev ops hl (ops.length - i) i 1 (by omega) (by omega)
  rw [skp_eq ops (ops.length - i) i (by omega)] at h
  exact h
theorem skp_end (ops : List S33) (i : Nat) (h : ops.length ≤ i) : skp ops i = i := by
  unfold skp
  cases hn : ops.length with
  | zero => rfl
  | succ n => rw [skipN, if_pos (.inl (by omega))]
theorem skp_step (ops : List S33) (i : Nat) (h : i < ops.length) : skp ops i = if kd ops i = 4 ∨ kd ops i = 5 then skp ops (skp ops (i + 1)) else if kd ops i = 6 then i + 1 else skp ops (i + 1) := by
  obtain ⟨n, hn⟩ : ∃ n, ops.length = n + 1 := ⟨ops.length - 1, by omega⟩
  unfold skp
  rw [skipN_fuel ops ops.length (n + 1) i 1 (by omega) (by omega), skipN, if_neg (by omega)]
  by_cases q1 : kd ops i = 4 ∨ kd ops i = 5
  · rw [if_pos q1, if_pos q1, show 1 + 1 = 1 + 1 from rfl, skipN_add ops n (i + 1) 1 1 (by omega)]
    rw [skipN_fuel ops n ops.length (i + 1) 1 (by omega) (by omega)]
  · rw [if_neg q1, if_neg q1]
    by_cases q2 : kd ops i = 6
    · rw [if_pos q2, if_pos q2]
      cases n with
      | zero => rfl
      | succ n => rw [skipN, if_pos (.inr rfl)]
    · rw [if_neg q2, if_neg q2]
      exact skipN_fuel ops n ops.length (i + 1) 1 (by omega) (by omega)
theorem skp_ge (ops : List S33) (i : Nat) : i ≤ skp ops i := skipN_ge ops _ i 1
theorem skp_le (ops : List S33) (i : Nat) (h : i ≤ ops.length) : skp ops i ≤ ops.length := skipN_le ops _ i 1 h
theorem ply_end (ops : List S33) (i : Nat) (h : ops.length ≤ i) : ply ops i = ([], none) := by rw [ply_step, if_pos h]
theorem joinP_size (a b : ByteArray) : (joinP a b).size ≤ a.size + 1 + b.size := by
  unfold joinP
  split
  · omega
  · rw [ByteArray.size_append, ByteArray.size_append]
    show a.size + 1 + b.size ≤ _
    omega
/-- Not more notes than ops, and no long text. -/
theorem ply_bound (ops : List S33) (hk : ∀ i, i < ops.length → 0 ≤ kd ops i ∧ kd ops i ≤ 6) (ht : ∀ i, i < ops.length → (ops.getD i z33).f2.size ≤ 100) : ∀ d i, i ≤ ops.length → ops.length ≤ i + d → (ply ops i).1.length + i ≤ skp ops i ∧ ∀ c s, (ply ops i).2 = some (c, s) → s.size ≤ 101 * d
  | 0, i, hi, h => by
    rw [ply_end ops i (by omega), skp_end ops i (by omega)]
    exact ⟨by simp, fun c s h => by cases h⟩
  | d + 1, i, hi, h => by
    by_cases hl : ops.length ≤ i
    · rw [ply_end ops i hl, skp_end ops i hl]
      exact ⟨by simp, fun c s h => by cases h⟩
    · have h1 := ply_bound ops hk ht d (i + 1) (by omega) (by omega)
      have hge := skp_ge ops (i + 1)
      have hti := ht i (by omega)
      have hle := skp_le ops (i + 1) (by omega)
      have h2 := ply_bound ops hk ht d (skp ops (i + 1)) hle (by omega)
      have hge2 := skp_ge ops (skp ops (i + 1))
      have hs := skp_step ops i (by omega)
      rw [ply_step, if_neg hl]
      by_cases q0 : kd ops i = 0
      · rw [if_neg (by omega), if_neg (by omega)] at hs
        rw [if_pos q0, hs]
        exact ⟨by simp only [List.length_cons]; omega, fun c s e => by have := h1.2 c s e; omega⟩
      · rw [if_neg q0]
        by_cases q2 : kd ops i = 2
        · rw [if_neg (by omega), if_neg (by omega)] at hs
          rw [if_pos q2, hs]
          exact ⟨by omega, fun c s e => by have := h1.2 c s e; omega⟩
        · rw [if_neg q2]
          by_cases q1 : kd ops i = 1 ∨ kd ops i = 3
          · rw [if_neg (by omega), if_neg (by omega)] at hs
            rw [if_pos q1, hs]
            exact ⟨by simp only [List.length_nil]; omega, fun c s e => by cases e; omega⟩
          · rw [if_neg q1]
            by_cases q6 : kd ops i = 6
            · rw [if_neg (by omega), if_pos q6] at hs
              rw [if_pos q6, hs]
              exact ⟨by simp only [List.length_nil]; omega, fun c s e => by cases e⟩
            · rw [if_neg q6]
              by_cases q4 : kd ops i = 4
              · rw [if_pos (.inl q4)] at hs
                rw [if_pos q4, hs]
                exact ⟨by simp only [List.length_append, List.length_cons]; omega, fun c s e => by have := h2.2 c s e; omega⟩
              · rw [if_neg q4]
                have hs' : skp ops (i + 1) ≤ skp ops i := by
                  rw [hs]
                  split
                  · exact hge2
                  · exact Nat.le_refl _
                cases hf : (ply ops (i + 1)).2 with
                | none =>
                  refine ⟨?_, fun c s e => by have := h2.2 c s e; omega⟩
                  simp only [List.length_append]
                  by_cases q5 : kd ops i = 5
                  · rw [if_pos (.inr q5)] at hs
                    rw [hs]
                    omega
                  · have := hk i (by omega)
                    omega
                | some x =>
                  obtain ⟨c', s'⟩ := x
                  refine ⟨by show (ply ops (i + 1)).1.length + i ≤ _; omega, fun c s e => ?_⟩
                  cases e
                  have := joinP_size (ops.getD i z33).f2 s'
                  have := h1.2 c' s' hf
                  omega
def resP : Option (Int × ByteArray) → Int × ByteArray × Bool
  | none => (0, ⟨#[]⟩, false)
  | some (c, s) => (c, s, true)
theorem run_ev (ops : List S33) (hl : ops.length ≤ 1000) (hk : ∀ i, i < ops.length → 0 ≤ kd ops i ∧ kd ops i ≤ 6) (ht : ∀ i, i < ops.length → (ops.getD i z33).f2.size ≤ 100) :
    ∀ d i (N : List S44), i ≤ ops.length → ops.length ≤ i + d → N.length ≤ 100000 + i → Ev (fun k => crossdockref01_Run.l0 k ops (i : Int) N) (N ++ (ply ops i).1, ((skp ops i : Nat) : Int), resP (ply ops i).2) := by
  intro d
  induction d with
  | zero =>
    intro i N hi h hN
    rw [ply_end ops i (by omega), skp_end ops i (by omega)]
    refine Ev.now fun k => ?_
    simp only [crossdockref01_Run.l0]
    rw [if_neg (by omega), List.append_nil]
    rfl
  | succ d ih =>
    intro i N hi h hN
    by_cases hli : ops.length ≤ i
    · rw [ply_end ops i hli, skp_end ops i hli]
      refine Ev.now fun k => ?_
      simp only [crossdockref01_Run.l0]
      rw [if_neg (by omega), List.append_nil]
      rfl
    · have hlt : (i : Int) < (ops.length : Int) := by omega
      have hki := hk i (by omega)
      have hti := ht i (by omega)
      have e3 := w1 i (by omega)
      have hs := skp_step ops i (by omega)
      have hsk := skip_evf ops hl (i + 1) (by omega)
      rw [ply_step, if_neg hli]
      by_cases q0 : kd ops i = 0
      · rw [if_neg (by omega), if_neg (by omega)] at hs
        rw [if_pos q0, hs]
        have h2 := ih (i + 1) (N ++ [(⟨false, (ops.getD i z33).f2, z39⟩ : S44)]) (by omega) (by omega) (by rw [List.length_append, List.length_singleton]; omega)
        rw [List.append_assoc] at h2
        refine Ev.step (g := fun k => crossdockref01_Run.j1 k ops ((i + 1 : Nat) : Int) N (kd ops i) (kd ops i == 0) (kd ops i) (rd_T33 ops (i : Int)).f1 (rd_T33 ops (i : Int)).f2) ?_ (fun k => by
          simp only [crossdockref01_Run.l0, rd_kd]
          rw [if_pos hlt, if_pos (by omega), if_pos q0, e3])
        refine Ev.step h2 (fun k => by
          simp only [crossdockref01_Run.j1]
          rw [if_pos (by simpa using q0), if_pos q0, if_pos (by omega), rd_at]
          rfl)
      · rw [if_neg q0]
        have hj1 : ∀ k, crossdockref01_Run.l0 (k + 1) ops (i : Int) N = crossdockref01_Run.j1 k ops ((i + 1 : Nat) : Int) N (kd ops i) (kd ops i == 2) (kd ops i) (ops.getD i z33).f1 (ops.getD i z33).f2 := fun k => by
          simp only [crossdockref01_Run.l0, rd_at]
          rw [if_pos hlt, if_pos (by omega), if_neg (show ¬ (ops.getD i z33).f0 = 0 from q0), e3]
          rfl
        by_cases q2 : kd ops i = 2
        · rw [if_neg (by omega), if_neg (by omega)] at hs
          rw [if_pos q2, hs]
          refine Ev.step (Ev.step (ih (i + 1) N (by omega) (by omega) (by omega)) (fun k => ?_)) hj1
          simp only [crossdockref01_Run.j1]
          rw [if_pos (by simpa using q2), if_neg q0]
        · rw [if_neg q2]
          have q2' : (kd ops i == 2) = false := by simpa using q2
          have hj2 : ∀ k, crossdockref01_Run.j1 (k + 1) ops ((i + 1 : Nat) : Int) N (kd ops i) (kd ops i == 2) (kd ops i) (ops.getD i z33).f1 (ops.getD i z33).f2 = crossdockref01_Run.j2 k ops ((i + 1 : Nat) : Int) N (kd ops i) (decide (kd ops i = 1 ∨ kd ops i = 3)) (kd ops i) (ops.getD i z33).f1 (ops.getD i z33).f2 := fun k => by
            simp only [crossdockref01_Run.j1]
            rw [if_neg (by rw [q2']; decide)]
            by_cases q : kd ops i = 1
            · rw [if_pos q, show (kd ops i == 1) = decide (kd ops i = 1 ∨ kd ops i = 3) by simp [q]]
            · rw [if_neg q, show (kd ops i == 3) = decide (kd ops i = 1 ∨ kd ops i = 3) by simp [q, BEq.beq]]
          by_cases q1 : kd ops i = 1 ∨ kd ops i = 3
          · rw [if_neg (by omega), if_neg (by omega)] at hs
            rw [if_pos q1, hs, List.append_nil]
            refine Ev.step (Ev.step (g := fun k => crossdockref01_Run.j2 k ops ((i + 1 : Nat) : Int) N (kd ops i) (decide (kd ops i = 1 ∨ kd ops i = 3)) (kd ops i) (ops.getD i z33).f1 (ops.getD i z33).f2) ?_ hj2) hj1
            refine Ev.step (g := fun k => (crossdockref01_skip.f k ops ((i + 1 : Nat) : Int)).bind fun t124 => some (N, t124, (ops.getD i z33).f1, (ops.getD i z33).f2, true)) (Ev.bind hsk (Ev.const _)) (fun k => ?_)
            simp only [crossdockref01_Run.j2]
            rw [if_pos (by simpa using q1)]
          · rw [if_neg q1]
            have q1' : ¬ (decide (kd ops i = 1 ∨ kd ops i = 3) = true) := by simpa using q1
            by_cases q6 : kd ops i = 6
            · rw [if_neg (by omega), if_pos q6] at hs
              rw [if_pos q6, hs, List.append_nil]
              refine Ev.step (Ev.step (g := fun k => crossdockref01_Run.j2 k ops ((i + 1 : Nat) : Int) N (kd ops i) (decide (kd ops i = 1 ∨ kd ops i = 3)) (kd ops i) (ops.getD i z33).f1 (ops.getD i z33).f2) (Ev.now fun k => ?_) hj2) hj1
              simp only [crossdockref01_Run.j2]
              rw [if_neg q1', if_pos q6]
              rfl
            · rw [if_neg q6]
              rw [if_pos (by omega)] at hs
              have hsk2 := skip_evf ops hl (skp ops (i + 1)) (skp_le ops (i + 1) (by omega))
              have hge := skp_ge ops (i + 1)
              have hle := skp_le ops (i + 1) (by omega)
              have hb := ply_bound ops hk ht (ops.length - (i + 1)) (i + 1) (by omega) (by omega)
              have hrun : Ev (fun k => crossdockref01_Run.f k ops ((i + 1 : Nat) : Int)) ((ply ops (i + 1)).1, ((skp ops (i + 1) : Nat) : Int), resP (ply ops (i + 1)).2) := by
                have h3 := ih (i + 1) [] (by omega) (by omega) (by simp)
                rw [List.nil_append] at h3
                exact Ev.step h3 (fun k => by simp only [crossdockref01_Run.f])
              refine Ev.step (Ev.step (g := fun k => crossdockref01_Run.j2 k ops ((i + 1 : Nat) : Int) N (kd ops i) (decide (kd ops i = 1 ∨ kd ops i = 3)) (kd ops i) (ops.getD i z33).f1 (ops.getD i z33).f2) ?_ hj2) hj1
              have hlen : (ply ops (i + 1)).1.length ≤ ops.length := by omega
              have hb1 : N.length + (ply ops (i + 1)).1.length < 2513169434916 := by omega
              by_cases q4 : kd ops i = 4
              · rw [if_pos q4, hs]
                have h4 := ih (skp ops (i + 1)) ((N ++ (ply ops (i + 1)).1) ++ [(⟨true, ⟨#[]⟩, flt (ply ops (i + 1)).2⟩ : S44)]) hle (by omega) (by rw [List.length_append, List.length_append, List.length_singleton]; omega)
                have e4 : N ++ ((ply ops (i + 1)).1 ++ (⟨true, ⟨#[]⟩, flt (ply ops (i + 1)).2⟩ :: (ply ops (skp ops (i + 1))).1)) = (N ++ (ply ops (i + 1)).1 ++ [(⟨true, ⟨#[]⟩, flt (ply ops (i + 1)).2⟩ : S44)]) ++ (ply ops (skp ops (i + 1))).1 := by simp
                show Ev _ (N ++ ((ply ops (i + 1)).1 ++ (⟨true, ⟨#[]⟩, flt (ply ops (i + 1)).2⟩ :: (ply ops (skp ops (i + 1))).1)), _, _)
                rw [e4]
                obtain ⟨k0, hr⟩ := hrun
                obtain ⟨k1, h4⟩ := h4
                refine ⟨max k0 k1 + 1, fun k hk' => ?_⟩
                obtain ⟨m, rfl⟩ : ∃ m, k = m + 1 := ⟨k - 1, by omega⟩
                have hr' : crossdockref01_Run.f m ops ((i + 1 : Nat) : Int) = some ((ply ops (i + 1)).1, ((skp ops (i + 1) : Nat) : Int), resP (ply ops (i + 1)).2) := hr m (by omega)
                have h4' := h4 m (by omega)
                have ef : (⟨(resP (ply ops (i + 1)).2).1, (resP (ply ops (i + 1)).2).2.1, (resP (ply ops (i + 1)).2).2.2⟩ : S39) = flt (ply ops (i + 1)).2 := by
                  cases (ply ops (i + 1)).2 with
                  | none => rfl
                  | some x => rfl
                show crossdockref01_Run.j2 (m + 1) _ _ _ _ _ _ _ _ = _
                simp only [crossdockref01_Run.j2]
                rw [if_neg q1', if_neg q6, hr', Option.bind_some]
                dsimp only
                rw [if_pos (by omega), Option.bind_some, if_pos q4, if_pos (by rw [List.length_append]; omega), ef]
                exact h4'
              · rw [if_neg q4, hs]
                obtain ⟨k0, hr⟩ := hrun
                cases hf : (ply ops (i + 1)).2 with
                | none =>
                  have h4 := ih (skp ops (i + 1)) (N ++ (ply ops (i + 1)).1) hle (by omega) (by rw [List.length_append]; omega)
                  obtain ⟨k1, h4⟩ := h4
                  refine ⟨max k0 k1 + 1, fun k hk' => ?_⟩
                  obtain ⟨m, rfl⟩ : ∃ m, k = m + 1 := ⟨k - 1, by omega⟩
                  have hr' : crossdockref01_Run.f m ops ((i + 1 : Nat) : Int) = some ((ply ops (i + 1)).1, ((skp ops (i + 1) : Nat) : Int), resP (ply ops (i + 1)).2) := hr m (by omega)
                  have h4' := h4 m (by omega)
                  rw [hf] at hr'
                  show crossdockref01_Run.j2 (m + 1) _ _ _ _ _ _ _ _ = _
                  simp only [crossdockref01_Run.j2]
                  rw [if_neg q1', if_neg q6, hr', Option.bind_some]
                  simp only [resP, Option.bind_some, if_pos hb1, if_neg q4, Bool.false_eq_true, if_false]
                  rw [← List.append_assoc]
                  exact h4'
                | some x =>
                  obtain ⟨c', s'⟩ := x
                  have hsz := hb.2 c' s' hf
                  obtain ⟨k1, h2⟩ := hsk2
                  refine ⟨max k0 k1 + 1, fun k hk' => ?_⟩
                  obtain ⟨m, rfl⟩ : ∃ m, k = m + 1 := ⟨k - 1, by omega⟩
                  have hr' : crossdockref01_Run.f m ops ((i + 1 : Nat) : Int) = some ((ply ops (i + 1)).1, ((skp ops (i + 1) : Nat) : Int), resP (ply ops (i + 1)).2) := hr m (by omega)
                  have h2' : crossdockref01_skip.f m ops ((skp ops (i + 1) : Nat) : Int) = some ((skp ops (skp ops (i + 1)) : Nat) : Int) := h2 m (by omega)
                  rw [hf] at hr'
                  show crossdockref01_Run.j2 (m + 1) _ _ _ _ _ _ _ _ = _
                  simp only [crossdockref01_Run.j2]
                  rw [if_neg q1', if_neg q6, hr', Option.bind_some]
                  have hz1 : (ops.getD i z33).f2.size + 1 ≤ 9223372036854775807 := by omega
                  have hz2 : ((ops.getD i z33).f2 ++ (⟨#[46]⟩ : ByteArray)).size + s'.size ≤ 9223372036854775807 := by
                    rw [ByteArray.size_append]
                    show (ops.getD i z33).f2.size + 1 + s'.size ≤ _
                    omega
                  simp only [resP, Option.bind_some, if_pos hb1, if_neg q4, if_true, h2', if_pos hz1, if_pos hz2]
                  unfold joinP
                  by_cases hjs : s'.toList = []
                  · rw [if_pos hjs, if_pos hjs]
                  · rw [if_neg hjs, if_neg hjs]
end Go.Proofs.Ytpdfojofnpbliaa.My

/- The walks of the player's fault and end. -/
namespace Go.Proofs.Ytpdfojofnpbliaa.My
open Go.RowKit Go.Proofs.Ytpdfojofnpbliaa.PGuardPlays Go.Proofs.YtpdfojofnpbliaaW.PrintWords Go.Proofs.YtpdfojofnpbliaaW.PrintLast Go.Proofs.YtpdfojofnpbliaaW.PrintMore
set_option linter.unusedVariables false
set_option linter.unusedSimpArgs false

theorem size39 : (Try.prog.info? 39).map (·.size) = some 3 := by kernel_rfl
theorem fault_nil (w : World) : Calls Try.prog 18 #[.nilIface] w fun e w' => e = .returned (.agg #[.int .i64 0, .string ⟨#[]⟩, .bool false]) ∧ Below w.heap.size w w' := by
  go_enter Try.func18, Try.ntmps18
  go_wp2_with fail
  refine bodyPost_ret (results_cell_row rfl _ _ w.heap.size 39 #[.int .i64 0, .string ⟨#[]⟩, .bool false] (0, 0) _ rfl (alloc_self w _) Try.underlying39 rfl size39) rfl ?_
  exact ⟨rfl, below_alloc (Below.refl _ _) _⟩
theorem fault_flt (w : World) (g : Nat) (c : Int) (s : ByteArray) (h : Flt w g c s) : Calls Try.prog 18 #[fltV g] w fun e w' => e = .returned (.agg #[.int .i64 c, .string s, .bool true]) ∧ Below w.heap.size w w' := by
  have H1 := Aside0.mk (h.below (below_alloc (Below.refl _ _) (.cells #[.int .i64 0, .string ⟨#[]⟩, .bool false] 39)))
  clear h
  go_enter Try.func18, Try.ntmps18
  go_wp2_with (first
    | (go_at_call 23; refine (where_flt g c s _ H1.out).mono ?_; rintro e w2 ⟨rfl, rfl⟩)
    | (go_at_call 22; refine (code_flt g c s _ H1.out).mono ?_; rintro e w2 ⟨rfl, rfl⟩))
  refine bodyPost_ret (results_cell_row rfl _ _ w.heap.size 39 #[.int .i64 c, .string s, .bool true] (0, 0) _ rfl (alloc_self w _) Try.underlying39 rfl size39) rfl ?_
  exact ⟨rfl, below_alloc (Below.refl _ _) _⟩
/-- A player at its block. -/
structure Plr (w : World) (gp : Nat) (A : Option Addr) (n c : Nat) (at_ : Int) (v : Value) : Prop where mk :: (out : w.heap[gp]? = some (.cells #[.slice A n c, .int .i64 at_, v] 37 (0, 0)))
theorem Plr.cells {w : World} {gp : Nat} {A : Option Addr} {n c : Nat} {at_ : Int} {v : Value} (h : Plr w gp A n c at_ v) : w.cell? ⟨gp, 0, none⟩ = some (.slice A n c) ∧ w.cell? ⟨gp, 1, none⟩ = some (.int .i64 at_) ∧ w.cell? ⟨gp, 2, none⟩ = some v ∧ w.frozen? ⟨gp, 1, none⟩ = false ∧ w.frozen? ⟨gp, 2, none⟩ = false := by
  refine ⟨?_, ?_, ?_, blk_frozen h.out 1, blk_frozen h.out 2⟩ <;> (rw [blk_cell h.out]; rfl)
theorem Plr.set1 {w : World} {gp : Nat} {A : Option Addr} {n c : Nat} {at_ : Int} {v : Value} (h : Plr w gp A n c at_ v) (x : Int) : Plr (w.setCell ⟨gp, 1, none⟩ (.int .i64 x)) gp A n c x v := ⟨by have := blk_set h.out 1 (.int .i64 x); simpa using this⟩
theorem Plr.set2 {w : World} {gp : Nat} {A : Option Addr} {n c : Nat} {at_ : Int} {v : Value} (h : Plr w gp A n c at_ v) (x : Value) : Plr (w.setCell ⟨gp, 2, none⟩ x) gp A n c at_ x := ⟨by have := blk_set h.out 2 x; simpa using this⟩
theorem Plr.drewN {w : World} {gp : Nat} {A : Option Addr} {n c : Nat} {at_ : Int} {v : Value} (h : Plr w gp A n c at_ v) (m : Nat) : Plr (w.drewN m) gp A n c at_ v := ⟨h.out⟩
theorem Plr.drew {w : World} {gp : Nat} {A : Option Addr} {n c : Nat} {at_ : Int} {v : Value} (h : Plr w gp A n c at_ v) : Plr w.drew gp A n c at_ v := ⟨h.out⟩
theorem cell_blk {w w1 : World} {a : Addr} (h : w1.heap[a.block]? = w.heap[a.block]?) : w1.cell? a = w.cell? a := by unfold World.cell?; rw [h]
theorem add_blk (a : Addr) (i : Nat) : (a.add i).block = a.block := by unfold Addr.add; split <;> rfl
/-- The ops' cells, in blocks ahead of all that the player turns. -/
def Ops (w : World) (B : Nat) (A : Option Addr) (n : Nat) (ops : List S33) : Prop := ∀ i, i < n → ∃ ad, A = some ad ∧ ad.block < B ∧ w.cell? (ad.add (i * 3)) = some (.int .i64 (kd ops i)) ∧ w.cell? ⟨(ad.add (i * 3)).block, (ad.add (i * 3)).off + 1, none⟩ = some (.int .i64 (ops.getD i z33).f1) ∧ w.cell? ⟨(ad.add (i * 3)).block, (ad.add (i * 3)).off + 2, none⟩ = some (.string (ops.getD i z33).f2)
theorem Ops.of {w : World} {A : Option Addr} {n : Nat} {ops : List S33} (h : Kd.C k33 w A n ops) : Ops w w.heap.size A n ops := by
  intro i hi
  obtain ⟨ad, e, h1, h2, h3⟩ := at_T33 h (i : Int) (by omega) (by omega)
  rw [Int.toNat_natCast] at h1 h2 h3
  rw [rd_at] at h1 h2 h3
  refine ⟨ad, e, ?_, h1, h2, h3⟩
  unfold World.cell? at h1
  rw [add_blk] at h1
  cases hh : w.heap[ad.block]? with
  | none => rw [hh] at h1; cases h1
  | some o => exact blk_lt hh
theorem Ops.keep {w w1 : World} {B : Nat} {A : Option Addr} {n : Nat} {ops : List S33} (h : Ops w B A n ops) (hk : ∀ k, k < B → w1.heap[k]? = w.heap[k]?) : Ops w1 B A n ops := by
  intro i hi
  obtain ⟨ad, e, h0, h1, h2, h3⟩ := h i hi
  have hb : (ad.add (i * 3)).block < B := by rw [add_blk]; exact h0
  exact ⟨ad, e, h0, (cell_blk (hk _ hb)).trans h1, (cell_blk (w1 := w1) (w := w) (a := ⟨(ad.add (i * 3)).block, (ad.add (i * 3)).off + 1, none⟩) (hk _ hb)).trans h2, (cell_blk (w1 := w1) (w := w) (a := ⟨(ad.add (i * 3)).block, (ad.add (i * 3)).off + 2, none⟩) (hk _ hb)).trans h3⟩
theorem Ops.grown {w w1 : World} {B : Nat} {A : Option Addr} {n : Nat} {ops : List S33} {gp : Nat} (h : Ops w B A n ops) (hg : w.grownBy w1 (some gp)) (hB : B ≤ gp) (hB2 : B ≤ w.heap.size) : Ops w1 B A n ops :=
  h.keep (fun k hk => hg.block k (by omega) (by intro e; injection e with e; omega))
set_option maxHeartbeats 4000000 in
set_option maxRecDepth 100000 in
/-- Nothing went out. -/
theorem end_no (w : World) (v : Value) (b : Int) : Calls Try.prog 32 #[v, .int .i64 b, .bool false] w fun e w' => e = .returned (.tuple #[]) ∧ w' = w := by
  go_enter Try.func32, Try.ntmps32
  go_wp2_with fail
  refine bodyPost_ret (results_none rfl _ _ _) rfl ?_
  exact ⟨rfl, rfl⟩
set_option maxHeartbeats 4000000 in
set_option maxRecDepth 100000 in
/-- A fault went out: on to the end of what began there. -/
theorem end_yes (w : World) (B gp : Nat) (A : Option Addr) (n c : Nat) (at_ : Int) (v : Value) (ops : List S33) (h : Plr w gp A n c at_ v) (hC : Ops w B A n ops) (hl : ops.length = n) (hn : n ≤ 1000) (hB : B ≤ gp) (b : Nat) (hb : b ≤ n) :
    Calls Try.prog 32 #[.pointer (some ⟨gp, 0, none⟩), .int .i64 b, .bool true] w fun e w' => e = .returned (.tuple #[]) ∧ Plr w' gp A n c ((skp ops b : Nat) : Int) v ∧ w.grownBy w' (some gp) := by
  obtain ⟨d0, d1, d2, f1, f2⟩ := h.cells
  have HP0 := Aside0.mk (h.set1 (b : Int))
  have HG0 := Aside0.mk (grown_set w gp 1 (.int .i64 b))
  have HC := Aside0.mk hC
  have HL := Aside0.mk hl
  have HB := Aside0.mk (show B ≤ gp ∧ B ≤ w.heap.size from ⟨hB, by have := blk_lt h.out; omega⟩)
  have hni : (n : Int) ≤ 1000 := by omega
  clear h hC hl hB d2 f2
  go_enter Try.func32, Try.ntmps32
  go_wp2_with fail
  go_loopg [6] n (fun kq v6 wr => ∃ (i o : Nat), v6 = .int .i64 o ∧ i ≤ n ∧ o ≤ i + 1 ∧ b ≤ i ∧ Aside0 (kq + i = n + b) ∧ Aside0 (Plr wr gp A n c (i : Int) v) ∧ Aside0 (w.grownBy wr (some gp)) ∧ Aside0 (skipN ops (n - i) i o = skp ops b))
  case atStart => exact ⟨b, 1, rfl, hb, by omega, Nat.le_refl _, ⟨rfl⟩, HP0, HG0, ⟨skp_eq ops (n - b) b (by rw [HL.out]; omega)⟩⟩
  case round =>
    obtain ⟨i, o, rfl, hi, ho, hbi, HK, HP, HG, HS⟩ := hrel
    have HCg := Aside0.mk (HC.out.grown HG.out HB.out.1 HB.out.2)
    obtain ⟨r0, r1, r2, rf1, rf2⟩ := HP.out.cells
    by_cases hin : i < n
    · obtain ⟨ad, eA, _, rk, _, _⟩ := HCg.out i hin
      subst eA
      have hgd1 : (n : Int) > (i : Int) := by omega
      have HStep := Aside0.mk (show skipN ops (n - i) i o = if o = 0 then i else if kd ops i = 4 ∨ kd ops i = 5 then skipN ops (n - (i + 1)) (i + 1) (o + 1) else if kd ops i = 6 then skipN ops (n - (i + 1)) (i + 1) (o - 1) else skipN ops (n - (i + 1)) (i + 1) o by
        rw [show n - i = (n - (i + 1)) + 1 by omega, skipN]
        by_cases h0 : o = 0
        · rw [if_pos (.inr h0), if_pos h0]
        · rw [if_neg (by rw [HL.out]; omega), if_neg h0])
      have HI1 := Aside0.mk (show (i : Int) + 1 ≤ 9223372036854775807 by omega)
      have HO1 := Aside0.mk (show (o : Int) + 1 ≤ 9223372036854775807 by omega)
      have HNext : Aside0 (∀ (nq : Nat), Plr ((wr.drewN nq).setCell ⟨gp, 1, none⟩ (.int .i64 ((i : Int) + 1))) gp (some ad) n c ((i + 1 : Nat) : Int) v ∧ w.grownBy ((wr.drewN nq).setCell ⟨gp, 1, none⟩ (.int .i64 ((i : Int) + 1))) (some gp)) := ⟨fun nq => ⟨by
        have := ((HP.out).drewN nq).set1 ((i + 1 : Nat) : Int)
        rwa [Int.natCast_succ] at this, grown_trans (grown_drewN HG.out nq) (grown_set (wr.drewN nq) gp 1 _)⟩⟩
      generalize kd ops i = kk at *
      by_cases hz : o = 0
      · have hz' : ¬ (0 : Int) < (o : Int) := by omega
        have HE := Aside0.mk (show i = skp ops b by rw [← HS.out, HStep.out, if_pos hz])
        clear hz HStep HS
        go_upto_region 3 with fail
        go_quiet (fail)
        go_wp2_with fail
        refine bodyPost_end (results_none rfl _ _ _) rfl ?_
        have e := HE.out
        subst e
        exact ⟨rfl, HP.out.drewN _, grown_drewN HG.out _⟩
      · have hz' : (0 : Int) < (o : Int) := by omega
        rw [if_neg hz] at HStep
        clear hz
        go_upto_region 3 with fail
        go_quiet (fail)
        go_wp2_with fail
        go_quiet (fail)
        by_cases h4 : kk = 4
        · subst h4
          rw [if_pos (.inl rfl)] at HStep
          go_wp2_with fail
          have HO2 := HO1.out
          have HI2 := HI1.out
          (try simp only [Int.toNat_natCast])
          go_roundg (gk - 1)
          case measure => have := HK.out; omega
          case rel => exact ⟨i + 1, o + 1, rfl, by omega, by omega, by omega, ⟨by have := HK.out; omega⟩, ⟨(HNext.out _).1⟩, ⟨(HNext.out _).2⟩, ⟨by rw [← HS.out]; exact HStep.out.symm⟩⟩
        · by_cases h5 : kk = 5
          · subst h5
            rw [if_pos (.inr rfl)] at HStep
            go_wp2_with fail
            have HO2 := HO1.out
            have HI2 := HI1.out
            (try simp only [Int.toNat_natCast])
            go_roundg (gk - 1)
            case measure => have := HK.out; omega
            case rel => exact ⟨i + 1, o + 1, rfl, by omega, by omega, by omega, ⟨by have := HK.out; omega⟩, ⟨(HNext.out _).1⟩, ⟨(HNext.out _).2⟩, ⟨by rw [← HS.out]; exact HStep.out.symm⟩⟩
          · rw [if_neg (by omega)] at HStep
            by_cases h6 : kk = 6
            · subst h6
              rw [if_pos rfl] at HStep
              go_wp2_with fail
              have HO2 := HO1.out
              have HI2 := HI1.out
              (try simp only [Int.toNat_natCast])
              go_roundg (gk - 1)
              case measure => have := HK.out; omega
              case rel => exact ⟨i + 1, o - 1, (show Value.int .i64 ((o : Int) - 1) = .int .i64 ((o - 1 : Nat) : Int) by rw [show (o : Int) - 1 = ((o - 1 : Nat) : Int) by omega]), by omega, by omega, by omega, ⟨by have := HK.out; omega⟩, ⟨(HNext.out _).1⟩, ⟨(HNext.out _).2⟩, ⟨by rw [← HS.out]; exact HStep.out.symm⟩⟩
            · rw [if_neg h6] at HStep
              go_wp2_with fail
              have HO2 := HO1.out
              have HI2 := HI1.out
              (try simp only [Int.toNat_natCast])
              go_roundg (gk - 1)
              case measure => have := HK.out; omega
              case rel => exact ⟨i + 1, o, rfl, by omega, by omega, by omega, ⟨by have := HK.out; omega⟩, ⟨(HNext.out _).1⟩, ⟨(HNext.out _).2⟩, ⟨by rw [← HS.out]; exact HStep.out.symm⟩⟩
    · have HE := Aside0.mk (show i = skp ops b by
        have := HS.out
        rw [show n - i = 0 by omega, skipN] at this
        exact this)
      have hin' : ¬ (i : Int) < (n : Int) := by omega
      clear hin HS
      go_upto_region 3 with fail
      go_quiet (fail)
      go_wp2_with fail
      refine bodyPost_end (results_none rfl _ _ _) rfl ?_
      have e := HE.out
      subst e
      exact ⟨rfl, HP.out.drewN _, grown_drewN HG.out _⟩
end Go.Proofs.Ytpdfojofnpbliaa.My

/- The player's state: its block, its notes, its script. -/
namespace Go.Proofs.Ytpdfojofnpbliaa.My
open Go.RowKit Go.Proofs.Ytpdfojofnpbliaa.PGuardPlays Go.Proofs.YtpdfojofnpbliaaW.PrintWords Go.Proofs.YtpdfojofnpbliaaW.PrintLast Go.Proofs.YtpdfojofnpbliaaW.PrintMore
set_option linter.unusedVariables false
set_option linter.unusedSimpArgs false

def noteV (x : S44) : List Value := [.bool x.f0, .string x.f1, .int .i64 x.f2.f0, .string x.f2.f1, .bool x.f2.f2]
def notesV : List S44 → List Value
  | [] => []
  | x :: r => noteV x ++ notesV r
theorem notesV_app : ∀ (a b : List S44), notesV (a ++ b) = notesV a ++ notesV b
  | [], b => rfl
  | x :: r, b => by rw [List.cons_append, notesV, notesV, notesV_app r b, List.append_assoc]
structure Ps (w : World) (B gp : Nat) (A : Option Addr) (n c : Nat) (ops : List S33) (i : Int) (v : Value) (N : List S44) : Prop where
  plr : Plr w gp A n c i v
  row : w.ownsRow B 44 5 v N.length (notesV N)
  scr : Ops w B A n ops
  le : B ≤ gp
variable {w w1 w2 : World} {B gp : Nat} {A : Option Addr} {n c : Nat} {ops : List S33} {i : Int} {v v1 v2 : Value} {N : List S44}
theorem Ps.lt (h : Ps w B gp A n c ops i v N) : gp < w.heap.size := blk_lt h.plr.out
theorem Ps.ne (h : Ps w B gp A n c ops i v N) : some gp ≠ v.ownBlock := own_ne h.row h.plr.out (by decide)
theorem Ps.below (h : Ps w B gp A n c ops i v N) (hb : Below w.heap.size w w1) : Ps w1 B gp A n c ops i v N :=
  ⟨⟨blk_below h.plr.out hb⟩, pw_own_below h.row hb, h.scr.keep (fun k hk => hb.block k (by have := h.lt; have := h.le; omega)), h.le⟩
theorem Ps.drewN (h : Ps w B gp A n c ops i v N) (m : Nat) : Ps (w.drewN m) B gp A n c ops i v N := h.below (⟨rfl, rfl, rfl, Nat.le_refl _, fun _ _ => rfl⟩)
theorem Ps.at (h : Ps w B gp A n c ops i v N) (j : Int) : Ps (w.setCell ⟨gp, 1, none⟩ (.int .i64 j)) B gp A n c ops j v N :=
  ⟨h.plr.set1 j, own_setCell h.row h.ne _, h.scr.grown (grown_set w gp 1 _) h.le (by have := h.lt; have := h.le; omega), h.le⟩
/-- Another block is turned. -/
theorem Ps.set (h : Ps w B gp A n c ops i v N) {k : Nat} {t : TypeId} {cs : Array Value} (hk : w.heap[k]? = some (.cells cs t (0, 0))) (hB : B ≤ k) (h1 : 37 ≠ t) (h2 : 44 ≠ t) (o : Nat) (u : Value) : Ps (w.setCell ⟨k, o, none⟩ u) B gp A n c ops i v N :=
  ⟨⟨blk_far h.plr.out (blk_ne h.plr.out hk h1) u⟩, own_setCell h.row (own_ne h.row hk h2) u, h.scr.keep (fun q hq => Below.heap_setCell w ⟨k, o, none⟩ u q (by show q ≠ k; omega)), h.le⟩
theorem Ps.end_ (h : Ps w B gp A n c ops i v N) (hg : w.grownBy w1 (some gp)) {j : Int} (hp : Plr w1 gp A n c j v) : Ps w1 B gp A n c ops j v N :=
  ⟨hp, own_other h.row hg (.inr (Ne.symm h.ne)), h.scr.grown hg h.le (by have := h.lt; have := h.le; omega), h.le⟩
/-- One more note. -/
theorem Ps.note (h : Ps w B gp A n c ops i v N) (x : S44) (hr : w1.ownsRow B 44 5 v1 (N.length + 1) (notesV N ++ noteV x)) (hg : w.grownBy w1 v.ownBlock) : Ps (w1.setCell ⟨gp, 2, none⟩ v1) B gp A n c ops i v1 (N ++ [x]) := by
  have hp : Plr w1 gp A n c i v := ⟨blk_grown h.plr.out hg h.ne⟩
  refine ⟨hp.set2 v1, ?_, ?_, h.le⟩
  · rw [notesV_app, List.length_append]
    show World.ownsRow _ _ _ _ _ _ (notesV N ++ (noteV x ++ []))
    rw [List.append_nil]
    exact own_setCell hr (own_ne hr hp.out (by decide)) v1
  · refine h.scr.keep (fun k hk => ?_)
    rw [Below.heap_setCell w1 ⟨gp, 2, none⟩ v1 k (by show k ≠ gp; have := h.le; omega)]
    refine hg.block k (by have := h.lt; have := h.le; omega) ?_
    intro e
    rcases h.row.2 with ⟨rfl, _⟩ | ⟨g, cap, cur, rfl, hb, _⟩
    · simp [Value.ownBlock] at e
    · simp [Value.ownBlock] at e; omega
/-- What was turned: the player's block, its notes, and what is new. -/
structure Fr (w : World) (gp : Nat) (v : Value) (w' : World) (v' : Value) : Prop where
  keep : KeepBut w w' gp v.ownBlock
  row : v'.ownBlock = v.ownBlock ∨ ∃ b, v'.ownBlock = some b ∧ w.heap.size ≤ b
  same : w'.os = w.os ∧ w'.tape = w.tape ∧ w'.output = w.output
theorem Fr.refl (w : World) (gp : Nat) (v : Value) : Fr w gp v w v := ⟨KeepBut.refl _ _ _, .inl rfl, rfl, rfl, rfl⟩
theorem Fr.trans (h : Fr w gp v w1 v1) (k : Fr w1 gp v1 w2 v2) : Fr w gp v w2 v2 := by
  refine ⟨h.keep.trans k.keep h.row, ?_, k.same.1.trans h.same.1, k.same.2.1.trans h.same.2.1, k.same.2.2.trans h.same.2.2⟩
  rcases k.row with e | ⟨b, e, hb⟩
  · rw [e]; exact h.row
  · exact .inr ⟨b, e, Nat.le_trans h.keep.1 hb⟩
theorem Fr.below (h : Fr w gp v w1 v1) (hb : Below w1.heap.size w1 w2) : Fr w gp v w2 v1 := h.trans ⟨KeepBut.of_below hb gp _, .inl rfl, hb.os, hb.tape, hb.output⟩
theorem Fr.drewN (h : Fr w gp v w1 v1) (m : Nat) : Fr w gp v (w1.drewN m) v1 := h.below ⟨rfl, rfl, rfl, Nat.le_refl _, fun _ _ => rfl⟩
theorem Fr.set (h : Fr w gp v w1 v1) (o : Nat) (u : Value) : Fr w gp v (w1.setCell ⟨gp, o, none⟩ u) v1 := h.trans ⟨(KeepBut.refl w1 gp _).set_ o u, .inl rfl, (grown_set w1 gp o u).os, (grown_set w1 gp o u).tape, (grown_set w1 gp o u).output⟩
/-- A new block is turned. -/
theorem Fr.setNew (h : Fr w gp v w1 v1) (k o : Nat) (u : Value) (hk : w.heap.size ≤ k) : Fr w gp v (w1.setCell ⟨k, o, none⟩ u) v1 :=
  ⟨h.keep.trans (KeepBut.of_grown (grown_set w1 k o u) gp) (.inr ⟨k, rfl, hk⟩), h.row, (grown_set w1 k o u).os.trans h.same.1, (grown_set w1 k o u).tape.trans h.same.2.1, (grown_set w1 k o u).output.trans h.same.2.2⟩
theorem Fr.end_ (h : Fr w gp v w1 v1) (hg : w1.grownBy w2 (some gp)) : Fr w gp v w2 v1 := by
  refine h.trans ⟨⟨hg.size, fun k hk h1 _ => hg.block k hk (by intro e; injection e with e; exact h1 e)⟩, .inl rfl, hg.os, hg.tape, hg.output⟩
theorem Fr.note (h : Fr w gp v w1 v1) (hg : w1.grownBy w2 v1.ownBlock) (hv : v2.ownBlock = v1.ownBlock ∨ ∃ b, v2.ownBlock = some b ∧ w1.heap.size ≤ b) (u : Value) : Fr w gp v (w2.setCell ⟨gp, 2, none⟩ u) v2 :=
  h.trans ⟨(KeepBut.of_grown hg gp).set_ 2 u, hv, (grown_set w2 gp 2 u).os.trans hg.os, (grown_set w2 gp 2 u).tape.trans hg.tape, (grown_set w2 gp 2 u).output.trans hg.output⟩
/-- The player's block and its notes are new: what was ahead of them is as it was. -/
theorem Fr.under (h : Fr w gp v w1 v1) {W : World} (hb : Below W.heap.size W w) (h1 : W.heap.size ≤ gp) (h2 : ∀ k, v.ownBlock = some k → W.heap.size ≤ k) : Below W.heap.size W w1 :=
  ⟨h.same.1.trans hb.os, h.same.2.1.trans hb.tape, h.same.2.2.trans hb.output, Nat.le_trans hb.size h.keep.1, fun k hk => (h.keep.2 k (Nat.lt_of_lt_of_le hk hb.size) (by omega) (by intro e; have := h2 k e.symm; omega)).trans (hb.block k hk)⟩
/-- A block that is another's lives on. -/
theorem Fr.blk (h : Fr w gp v w1 v1) {k : Nat} {o : Obj} (hk : w.heap[k]? = some o) (h1 : k ≠ gp) (h2 : some k ≠ v.ownBlock) : w1.heap[k]? = some o := h.keep.blk hk h1 h2
theorem joinWP (a b : ByteArray) : joinW a b = joinP a b := by
  unfold joinW joinP
  by_cases hb : b.toList = []
  · rw [if_pos (by rw [hb]; rfl), if_pos hb]
  · rw [if_neg (by simpa using hb), if_neg hb, ByteArray.append_assoc]
/-- What playing from a place leaves. -/
def Played (w : World) (B gp : Nat) (A : Option Addr) (n c : Nat) (ops : List S33) (i : Nat) (v : Value) (N : List S44) (e : Ending) (w' : World) : Prop :=
  ∃ (j : Int) (v' : Value), Ps w' B gp A n c ops j v' (N ++ (ply ops i).1) ∧ Fr w gp v w' v' ∧ ((e = .returned (.tuple #[]) ∧ (ply ops i).2 = none ∧ j = ((skp ops i : Nat) : Int)) ∨ ∃ g s0 s1, e = .panicked [{ v := fltV g, recovered := false }] ∧ (ply ops i).2 = some (s0, s1) ∧ Flt w' g s0 s1)
end Go.Proofs.Ytpdfojofnpbliaa.My

/- Try and In of the player. -/
namespace Go.Proofs.Ytpdfojofnpbliaa.My
open Go.RowKit Go.Proofs.Ytpdfojofnpbliaa.PGuardPlays Go.Proofs.YtpdfojofnpbliaaW.PrintWords Go.Proofs.YtpdfojofnpbliaaW.PrintLast Go.Proofs.YtpdfojofnpbliaaW.PrintMore
set_option linter.unusedVariables false
set_option linter.unusedSimpArgs false

variable {w w1 w2 : World} {B gp : Nat} {A : Option Addr} {n c : Nat} {ops : List S33} {i : Nat} {j : Int} {v v1 v2 : Value} {N : List S44}
abbrev errB : Obj := .cells #[.nilIface] 26
/-- What playing within a Try leaves. -/
def PD (w : World) (B gp : Nat) (A : Option Addr) (n c : Nat) (ops : List S33) (i : Nat) (v : Value) (N : List S44) (w1 : World) : Prop :=
  ∃ v1, Ps w1 B gp A n c ops ((skp ops i : Nat) : Int) v1 (N ++ (ply ops i).1) ∧ Fr w gp v w1 v1 ∧ (ply ops i).2 = none ∧ w1.heap[w.heap.size]? = some (.cells #[.nilIface] 26 (0, 0))
def PX (w : World) (B gp : Nat) (A : Option Addr) (n c : Nat) (ops : List S33) (i : Nat) (v : Value) (N : List S44) (s0 : Int) (s1 : ByteArray) (w1 : World) : Prop :=
  ∃ (j : Int) (v1 : Value), Ps w1 B gp A n c ops j v1 (N ++ (ply ops i).1) ∧ Fr w gp v w1 v1 ∧ (ply ops i).2 = some (s0, s1) ∧ w1.heap[w.heap.size]? = some (.cells #[.nilIface] 26 (0, 0))
theorem fr_alloc (h : Ps w B gp A n c ops j v N) : Fr w gp v (w.alloc errB) v := (Fr.refl w gp v).below (below_alloc (Below.refl _ _) _)
theorem ps_alloc (h : Ps w B gp A n c ops j v N) : Ps (w.alloc errB) B gp A n c ops j v N := h.below (below_alloc (Below.refl _ _) _)
theorem played_ends (h : Ps w B gp A n c ops j v N) {e : Ending} (hp : Played (w.alloc errB) B gp A n c ops i v N e w1) :
    Ends w.heap.size (PD w B gp A n c ops i v N) (fun g w1 => ∃ s0 s1, Flt w1 g s0 s1 ∧ PX w B gp A n c ops i v N s0 s1 w1 ∧ w1.heap[w.heap.size]? = some (.cells #[.nilIface] 26 (0, 0))) e w1 := by
  obtain ⟨j', v', hPs, hFr, hc⟩ := hp
  have hk : w1.heap[w.heap.size]? = some (.cells #[.nilIface] 26 (0, 0)) := hFr.blk (alloc_self w _) (by have := h.lt; omega) (own_ne (ps_alloc h).row (alloc_self w _) (by decide))
  refine ⟨hk, ?_⟩
  rcases hc with ⟨rfl, hn, rfl⟩ | ⟨g, s0, s1, rfl, hs, hf⟩
  · exact .inl ⟨_, rfl, v', hPs, (fr_alloc h).trans hFr, hn, hk⟩
  · exact .inr ⟨g, rfl, s0, s1, hf, ⟨j', v', hPs, (fr_alloc h).trans hFr, hs, hk⟩, hk⟩
theorem run_cf (gp : Nat) (W : World) : (callFunc 16 #[.pointer (some ⟨gp, 0, none⟩)]).run Try.prog W = .ok (.enter 16 #[.pointer (some ⟨gp, 0, none⟩)]) W := rfl
theorem try_run (h : Ps w B gp A n c ops j v N) (hr : Calls Try.prog 16 #[.pointer (some ⟨gp, 0, none⟩)] (w.alloc errB) (Played (w.alloc errB) B gp A n c ops i v N)) :
    Calls Try.prog 12 #[.func (.func 16) #[.pointer (some ⟨gp, 0, none⟩)] #[]] w fun e w2 =>
      ∃ (j' : Int) (v' : Value), Ps w2 B gp A n c ops j' v' (N ++ (ply ops i).1) ∧ Fr w gp v w2 v' ∧ ((e = .returned .nilIface ∧ (ply ops i).2 = none ∧ j' = ((skp ops i : Nat) : Int)) ∨ ∃ g s0 s1, e = .returned (fltV g) ∧ (ply ops i).2 = some (s0, s1) ∧ Flt w2 g s0 s1) := by
  have hB : B ≤ w.heap.size := by have := h.lt; have := h.le; omega
  refine (try_meth _ _ w _ _ (run_cf gp) (hr.mono fun e w1 hp => played_ends h hp)).mono ?_
  rintro e w2 (⟨rfl, w1, ⟨v', hPs, hFr, hn, hk⟩, rfl⟩ | ⟨g, rfl, w1, ⟨s0, s1, hf, ⟨j', v', hPs, hFr, hs, hk⟩, _⟩, rfl⟩)
  · exact ⟨_, v', hPs.set hk hB (by decide) (by decide) 0 .nilIface, hFr.setNew _ 0 .nilIface (Nat.le_refl _), .inl ⟨rfl, hn, rfl⟩⟩
  · exact ⟨j', v', hPs.set hk hB (by decide) (by decide) 0 (fltV g), hFr.setNew _ 0 (fltV g) (Nat.le_refl _), .inr ⟨g, s0, s1, rfl, hs, hf.set hk _⟩⟩
theorem in_run (wh : ByteArray) (hwh : wh.size ≤ 1000000000000) (hx : ∀ s0 s1, (ply ops i).2 = some (s0, s1) → s1.size ≤ 1000000000000) (h : Ps w B gp A n c ops j v N) (hr : Calls Try.prog 16 #[.pointer (some ⟨gp, 0, none⟩)] (w.alloc errB) (Played (w.alloc errB) B gp A n c ops i v N)) :
    Calls Try.prog 10 #[.string wh, .func (.func 16) #[.pointer (some ⟨gp, 0, none⟩)] #[]] w fun e w2 =>
      ∃ (j' : Int) (v' : Value), Ps w2 B gp A n c ops j' v' (N ++ (ply ops i).1) ∧ Fr w gp v w2 v' ∧ ((e = .returned (.tuple #[]) ∧ (ply ops i).2 = none ∧ j' = ((skp ops i : Nat) : Int)) ∨ ∃ g s0 s1, e = .panicked [{ v := fltV g, recovered := false }] ∧ (ply ops i).2 = some (s0, s1) ∧ Flt w2 g s0 (joinP wh s1)) := by
  have hB : B ≤ w.heap.size := by have := h.lt; have := h.le; omega
  refine (in_meth wh _ _ w _ (PX w B gp A n c ops i v N) hwh (fun s0 s1 w1 hX => by obtain ⟨_, _, _, _, hs, _⟩ := hX; exact hx s0 s1 hs) (run_cf gp) (hr.mono fun e w1 hp => played_ends h hp)).mono ?_
  rintro e w2 (⟨rfl, w1, ⟨v', hPs, hFr, hn, hk⟩, rfl⟩ | ⟨s0, s1, g, w1, ⟨j', v', hPs, hFr, hs, hk⟩, hf, rfl, rfl⟩)
  · exact ⟨_, v', hPs.set hk hB (by decide) (by decide) 0 .nilIface, hFr.setNew _ 0 .nilIface (Nat.le_refl _), .inl ⟨rfl, hn, rfl⟩⟩
  · have hP2 := hPs.set hk hB (by decide) (by decide) 0 (fltV g)
    have hF2 := hFr.setNew _ 0 (fltV g) (Nat.le_refl _)
    have hz : (w1.setCell ⟨w.heap.size, 0, none⟩ (fltV g)).heap.size = w1.heap.size := by simp [World.setCell]
    refine ⟨j', v', hP2.below (below_alloc (Below.refl _ _) _), hF2.below (below_alloc (Below.refl _ _) _), .inr ⟨w1.heap.size, s0, s1, rfl, hs, ⟨?_⟩⟩⟩
    rw [← joinWP, ← hz]
    exact alloc_self _ _
/-- What holds where the loop begins anew. -/
structure RunI (w : World) (B gp : Nat) (A : Option Addr) (n c : Nat) (ops : List S33) (i : Nat) (v : Value) (N : List S44) (wr : World) (i' : Nat) (v' : Value) (N' : List S44) : Prop where
  ps : Ps wr B gp A n c ops (i' : Int) v' N'
  fr : Fr w gp v wr v'
  ge : i ≤ i'
  le : i' ≤ n
  len : N'.length + (n - i') ≤ 1000
  e1 : N' ++ (ply ops i').1 = N ++ (ply ops i).1
  e2 : (ply ops i').2 = (ply ops i).2
  e3 : skp ops i' = skp ops i
theorem RunI.go {wr : World} {i' : Nat} {v' : Value} {N' : List S44} (h : RunI w B gp A n c ops i v N wr i' v' N') {i2 : Nat} {N2 : List S44} (ps : Ps w2 B gp A n c ops (i2 : Int) v2 N2) (fr : Fr w gp v w2 v2) (ge : i' ≤ i2) (le : i2 ≤ n) (len : N2.length + (n - i2) ≤ N'.length + (n - i')) (e1 : N2 ++ (ply ops i2).1 = N' ++ (ply ops i').1) (e2 : (ply ops i2).2 = (ply ops i').2) (e3 : skp ops i2 = skp ops i') : RunI w B gp A n c ops i v N w2 i2 v2 N2 :=
  ⟨ps, fr, Nat.le_trans h.ge ge, le, Nat.le_trans len h.len, e1.trans h.e1, e2.trans h.e2, e3.trans h.e3⟩
theorem RunI.ret {wr : World} {i' : Nat} {v' : Value} {N' : List S44} (h : RunI w B gp A n c ops i v N wr i' v' N') {j : Int} {N2 : List S44} (ps : Ps w2 B gp A n c ops j v2 N2) (fr : Fr w gp v w2 v2) (e1 : N2 = N' ++ (ply ops i').1) (e2 : (ply ops i').2 = none) (e3 : j = ((skp ops i' : Nat) : Int)) : Played w B gp A n c ops i v N (.returned (.tuple #[])) w2 :=
  ⟨j, v2, by rw [← h.e1, ← e1]; exact ps, fr, .inl ⟨rfl, h.e2 ▸ e2, by rw [e3, h.e3]⟩⟩
theorem RunI.out {wr : World} {i' : Nat} {v' : Value} {N' : List S44} (h : RunI w B gp A n c ops i v N wr i' v' N') {j : Int} {N2 : List S44} (ps : Ps w2 B gp A n c ops j v2 N2) (fr : Fr w gp v w2 v2) (e1 : N2 = N' ++ (ply ops i').1) {g : Nat} {s0 : Int} {s1 : ByteArray} (e2 : (ply ops i').2 = some (s0, s1)) (hf : Flt w2 g s0 s1) : Played w B gp A n c ops i v N (.panicked [{ v := fltV g, recovered := false }]) w2 :=
  ⟨j, v2, by rw [← h.e1, ← e1]; exact ps, fr, .inr ⟨g, s0, s1, rfl, h.e2 ▸ e2, hf⟩⟩
theorem ply_note (hi : i < ops.length) (hk : kd ops i = 0) : ply ops i = (⟨false, (ops.getD i z33).f2, z39⟩ :: (ply ops (i + 1)).1, (ply ops (i + 1)).2) ∧ skp ops i = skp ops (i + 1) := by
  rw [ply_step, if_neg (by omega), if_pos hk, skp_step ops i hi, if_neg (by omega), if_neg (by omega)]
  exact ⟨rfl, rfl⟩
theorem ply_pass (hi : i < ops.length) (hk : kd ops i = 2) : ply ops i = ply ops (i + 1) ∧ skp ops i = skp ops (i + 1) := by
  rw [ply_step, if_neg (by omega), if_neg (by omega), if_pos hk, skp_step ops i hi, if_neg (by omega), if_neg (by omega)]
  exact ⟨rfl, rfl⟩
theorem ply_thrown (hi : i < ops.length) (hk : kd ops i = 1 ∨ kd ops i = 3) : ply ops i = ([], some ((ops.getD i z33).f1, (ops.getD i z33).f2)) := by
  rw [ply_step, if_neg (by omega), if_neg (by omega), if_neg (by omega), if_pos hk]
theorem ply_ret (hi : i < ops.length) (hk : kd ops i = 6) : ply ops i = ([], none) ∧ skp ops i = i + 1 := by
  rw [ply_step, if_neg (by omega), if_neg (by omega), if_neg (by omega), if_neg (by omega), if_pos hk, skp_step ops i hi, if_neg (by omega), if_pos hk]
  exact ⟨rfl, rfl⟩
theorem ply_try (hi : i < ops.length) (hk : kd ops i = 4) : ply ops i = ((ply ops (i + 1)).1 ++ (⟨true, ⟨#[]⟩, flt (ply ops (i + 1)).2⟩ :: (ply ops (skp ops (i + 1))).1), (ply ops (skp ops (i + 1))).2) ∧ skp ops i = skp ops (skp ops (i + 1)) := by
  rw [ply_step, if_neg (by omega), if_neg (by omega), if_neg (by omega), if_neg (by omega), if_neg (by omega), if_pos hk, skp_step ops i hi, if_pos (.inl hk)]
  exact ⟨rfl, rfl⟩
theorem ply_in (hi : i < ops.length) (hk : kd ops i = 5) : skp ops i = skp ops (skp ops (i + 1)) ∧ ((ply ops (i + 1)).2 = none → ply ops i = ((ply ops (i + 1)).1 ++ (ply ops (skp ops (i + 1))).1, (ply ops (skp ops (i + 1))).2)) ∧ ∀ s0 s1, (ply ops (i + 1)).2 = some (s0, s1) → ply ops i = ((ply ops (i + 1)).1, some (s0, joinP (ops.getD i z33).f2 s1)) := by
  rw [ply_step ops i, if_neg (by omega), if_neg (by omega), if_neg (by omega), if_neg (by omega), if_neg (by omega), if_neg (by omega), skp_step ops i hi, if_pos (.inr hk)]
  refine ⟨rfl, fun h => ?_, fun s0 s1 h => ?_⟩ <;> rw [h]
end Go.Proofs.Ytpdfojofnpbliaa.My

/- The walk of the player. -/
namespace Go.Proofs.Ytpdfojofnpbliaa.My
open Go.RowKit Go.Proofs.Ytpdfojofnpbliaa.PGuardPlays Go.Proofs.YtpdfojofnpbliaaW.PrintWords Go.Proofs.YtpdfojofnpbliaaW.PrintLast Go.Proofs.YtpdfojofnpbliaaW.PrintMore
set_option linter.unusedVariables false
set_option linter.unusedSimpArgs false

set_option maxHeartbeats 8000000 in
set_option maxRecDepth 100000 in
theorem run_calls (B gp : Nat) (A : Option Addr) (n c : Nat) (ops : List S33) (hl : ops.length = n) (hn : n ≤ 1000) (hk : ∀ i, i < n → 0 ≤ kd ops i ∧ kd ops i ≤ 6) (ht : ∀ i, i < n → (ops.getD i z33).f2.size ≤ 100) :
    ∀ d i, i ≤ n → d = n - i → ∀ (w : World) (v : Value) (N : List S44), Ps w B gp A n c ops (i : Int) v N → N.length + (n - i) ≤ 1000 → Calls Try.prog 16 #[.pointer (some ⟨gp, 0, none⟩)] w (Played w B gp A n c ops i v N) := by
  intro d
  induction d using Nat.strongRecOn with
  | _ d ih =>
  intro i hi hd w v N hP hlen
  have IH := Aside0.mk ih
  have HI : Aside0 (RunI w B gp A n c ops i v N w i v N) := ⟨⟨hP, Fr.refl _ _ _, Nat.le_refl _, hi, hlen, rfl, rfl, rfl⟩⟩
  have HL := Aside0.mk (And.intro hl hn)
  have HK := Aside0.mk hk
  have HT := Aside0.mk ht
  have HD := Aside0.mk (And.intro hi hd)
  clear ih hP hlen hl hn hk ht hi hd
  go_enter Try.func16, Try.ntmps16
  go_wp2_with fail
  go_loopg [] n (fun kq wr => ∃ (i' : Nat) (v' : Value) (N' : List S44), Aside0 (kq + i' = n + i) ∧ Aside0 (RunI w B gp A n c ops i v N wr i' v' N'))
  case atStart => exact ⟨i, v, N, ⟨rfl⟩, HI⟩
  case round =>
    obtain ⟨i', v', N', HQ, HR⟩ := hrel
    obtain ⟨r0, r1, r2, rf1, rf2⟩ := HR.out.ps.plr.cells
    by_cases hin : i' < n
    · obtain ⟨ad, eA, _, k0, k1, k2⟩ := HR.out.ps.scr i' hin
      subst eA
      have hgd1 : (n : Int) > (i' : Int) := by omega
      have hb1 : (i' : Int) ≤ 1000 := by have := HL.out.2; omega
      generalize hkk : kd ops i' = kk at *
      generalize hcc : (ops.getD i' z33).f1 = cc at *
      generalize htt : (ops.getD i' z33).f2 = tt at *
      have HE := Aside0.mk (And.intro hkk (And.intro hcc htt))
      clear hkk hcc htt
      go_upto_region 0 with fail
      go_quiet (fail)
      go_wp2_with fail
      have HPA := (HR.out.ps.drewN (nq + 1)).below (below_alloc (Below.refl _ (wr.drewN (nq + 1))) (Obj.cells #[.int .i64 0, .int .i64 0, .string ⟨#[]⟩] 33))
      obtain ⟨ra0, ra1, ra2, raf1, raf2⟩ := HPA.plr.cells
      obtain ⟨_, eA, _, ka0, ka1, ka2⟩ := HPA.scr i' hin
      cases eA
      rw [HE.out.1] at ka0
      rw [HE.out.2.1] at ka1
      rw [HE.out.2.2] at ka2
      have hnew := alloc_self (wr.drewN (nq + 1)) (Obj.cells #[.int .i64 0, .int .i64 0, .string ⟨#[]⟩] 33)
      have na0 := blk_cell hnew 0
      have na1 := blk_cell hnew 1
      have na2 := blk_cell hnew 2
      have nf0 := blk_frozen hnew 0
      have nf1 := blk_frozen hnew 1
      have nf2 := blk_frozen hnew 2
      clear HPA hnew
      simp only [show (wr.drewN (nq + 1)).heap.size = wr.heap.size from rfl] at na0 na1 na2 nf0 nf1 nf2
      go_region
      have hBx : B ≤ wr.heap.size := by have := HR.out.ps.le; have := HR.out.ps.lt; omega
      have hbx0 := alloc_self (wr.drewN (nq + 1)) (Obj.cells #[.int .i64 0, .int .i64 0, .string ⟨#[]⟩] 33)
      have hP0 := (HR.out.ps.drewN (nq + 1)).below (below_alloc (Below.refl _ (wr.drewN (nq + 1))) (Obj.cells #[.int .i64 0, .int .i64 0, .string ⟨#[]⟩] 33))
      have hF0 := (HR.out.fr.drewN (nq + 1)).below (below_alloc (Below.refl _ (wr.drewN (nq + 1))) (Obj.cells #[.int .i64 0, .int .i64 0, .string ⟨#[]⟩] 33))
      have hS0 : wr.heap.size < ((wr.drewN (nq + 1)).alloc (Obj.cells #[.int .i64 0, .int .i64 0, .string ⟨#[]⟩] 33)).heap.size := blk_lt hbx0
      have hwx : w.heap.size ≤ wr.heap.size := HR.out.fr.keep.1
      have hP1 := hP0.set hbx0 hBx (by decide) (by decide) 0 (.int .i64 kk)
      have hF1 := hF0.setNew wr.heap.size 0 (.int .i64 kk) hwx
      have hbx1 := blk_set hbx0 0 (.int .i64 kk)
      have hP2 := hP1.set hbx1 hBx (by decide) (by decide) 1 (.int .i64 cc)
      have hF2 := hF1.setNew wr.heap.size 1 (.int .i64 cc) hwx
      have hbx2 := blk_set hbx1 1 (.int .i64 cc)
      have hP3 := hP2.set hbx2 hBx (by decide) (by decide) 2 (.string tt)
      have hF3 := hF2.setNew wr.heap.size 2 (.string tt) hwx
      have hbx3 := blk_set hbx2 2 (.string tt)
      clear r0 r1 r2 rf1 rf2 k0 k1 k2 ra0 ra1 ra2 raf1 raf2 ka0 ka1 ka2 na0 na1 na2 nf0 nf1 nf2 hP0 hF0 hS0 hP1 hF1 hP2 hF2 hbx0 hbx1 hbx2
      simp only [show (wr.drewN (nq + 1)).heap.size = wr.heap.size from rfl] at hP3 hF3 hbx3
      generalize ((((wr.drewN (nq + 1)).alloc (Obj.cells #[.int .i64 0, .int .i64 0, .string ⟨#[]⟩] 33)).setCell ⟨wr.heap.size, 0, none⟩ (.int .i64 kk)).setCell ⟨wr.heap.size, 1, none⟩ (.int .i64 cc)).setCell ⟨wr.heap.size, 2, none⟩ (.string tt) = wc at *
      generalize hkb : wr.heap.size = kb at *
      obtain ⟨r0, r1, r2, rf1, rf2⟩ := hP3.plr.cells
      have hP4 := hP3.at (((i' + 1 : Nat)) : Int)
      have hF4 := hF3.set 1 (.int .i64 ((i' + 1 : Nat) : Int))
      have hbx4 := (Below.heap_setCell wc ⟨gp, 1, none⟩ (.int .i64 ((i' + 1 : Nat) : Int)) kb (Ne.symm (blk_ne hP3.plr.out hbx3 (by decide)))).trans hbx3
      have e1 : ((i' + 1 : Nat) : Int) = (i' : Int) + 1 := by omega
      rw [e1] at hP4 hF4 hbx4
      have HP3 := Aside0.mk hP4
      have HF3 := Aside0.mk hF4
      have HBX := Aside0.mk hbx4
      clear hP3 hF3 hbx3 hP4 hF4 hbx4 e1 hkb hBx hwx
      go_upto_region 3 with fail
      have hP5 := HP3.out
      have hF5 := HF3.out
      have hbx5 : (wc.setCell ⟨gp, 1, none⟩ (.int .i64 ((i' : Int) + 1))).heap[kb]? = some (.cells #[.int .i64 kk, .int .i64 cc, .string tt] 33 (0, 0)) := HBX.out
      generalize wc.setCell ⟨gp, 1, none⟩ (.int .i64 ((i' : Int) + 1)) = wd at *
      clear HP3 HF3 HBX r0 r1 r2 rf1 rf2
      obtain ⟨r0, r1, r2, rf1, rf2⟩ := hP5.plr.cells
      have x0 := blk_cell hbx5 0
      have x1 := blk_cell hbx5 1
      have x2 := blk_cell hbx5 2
      obtain ⟨Av, cv, hv⟩ := own_slice hP5.row
      subst hv
      have HP := Aside0.mk hP5
      have HF := Aside0.mk hF5
      have HBX := Aside0.mk hbx5
      clear hP5 hF5 hbx5 hgd1
      have HRun : Aside0 (Calls Try.prog 16 #[.pointer (some ⟨gp, 0, none⟩)] (wd.alloc errB) (Played (wd.alloc errB) B gp (some ad) n c ops (i' + 1) (.slice Av N'.length cv) N')) := ⟨IH.out (n - (i' + 1)) (by have := HD.out; have := HR.out.ge; omega) (i' + 1) hin rfl _ _ _ (ps_alloc HP.out) (by have := HR.out.len; omega)⟩
      go_upto_region 4 with fail
      by_cases q0 : kk = 0
      · subst q0
        go_wp2_with fail
        have hrow := HP.out.drewN 1
        obtain ⟨_, _, d2, _, _⟩ := (Plr.mk (blk_alloc HP.out.plr.out (.cells #[.bool false, .string tt, .int .i64 0, .string ⟨#[]⟩, .bool false] 44))).cells
        have hB1 : B ≤ wd.drew.heap.size := by have h1 := HP.out.le; have h2 := HP.out.lt; show B ≤ wd.heap.size; omega
        have hq1 : (N'.length + 1) * 56 ≤ 140737488355328 := by have := HR.out.len; omega
        go_region_law (refine step_append_cells (W := wd.drew) (w0 := wd.drew) B rfl (.tmp 40) (.tmp 44) 35 44 _ 5 56 rfl Try.underlying35 info44 rfl (by decide) (by decide) _ _ _ [.bool false, .string tt, .int .i64 0, .string ⟨#[]⟩, .bool false] rfl rfl rfl (by simp [Value.oneCell']) hrow.row (Below.refl _ _) hB1 hq1 ?_; intro v1 w1 HO1 _ HG1 HA1; obtain ⟨A1, c1, rfl⟩ := own_slice HO1; obtain ⟨_, _, p2, _, q2⟩ := (Plr.mk (blk_grown hrow.plr.out HG1 hrow.ne)).cells; have HY := Aside0.mk (hrow.note (⟨false, tt, z39⟩ : S44) HO1 HG1); have HZ := Aside0.mk ((HF.out.drewN 1).note HG1 HA1 (.slice A1 (N'.length + 1) c1)); clear HO1 HG1 HA1)
        all_goals
          go_wp2_with fail
          go_roundg (gk - 1)
          case measure => have := HQ.out; omega
          case rel =>
            obtain ⟨p1, p2⟩ := ply_note (by rw [HL.out.1]; exact hin) HE.out.1
            rw [HE.out.2.2] at p1
            exact ⟨i' + 1, _, _, ⟨by have := HQ.out; omega⟩, ⟨HR.out.go (by simpa using HY.out) HZ.out (by omega) hin (by rw [List.length_append, List.length_singleton]; omega) (by rw [p1]; simp) (by rw [p1]) p2.symm⟩⟩
      · by_cases q1 : kk = 1
        · subst q1
          go_wp2_with (go_at_call 29; refine (throw_calls _ _ _).mono ?_; rintro e w2 ⟨rfl, rfl⟩)
          have p1 := ply_thrown (by rw [HL.out.1]; exact hin) (by rw [HE.out.1]; decide)
          rw [HE.out.2.1, HE.out.2.2] at p1
          exact post_panic rfl (HR.out.out (HP.out.below (below_alloc (Below.refl _ _) _)) (HF.out.below (below_alloc (Below.refl _ _) _)) (by rw [p1]; simp) (by rw [p1]) ⟨alloc_self _ _⟩)
        · by_cases q2 : kk = 2
          · subst q2
            go_wp2_with (go_at_call 31; refine (must_yes _ _ _).mono ?_; rintro e w2 ⟨rfl, rfl⟩)
            go_roundg (gk - 1)
            case measure => have := HQ.out; omega
            case rel =>
              obtain ⟨p1, p2⟩ := ply_pass (by rw [HL.out.1]; exact hin) HE.out.1
              exact ⟨i' + 1, _, _, ⟨by have := HQ.out; omega⟩, ⟨HR.out.go HP.out HF.out (by omega) hin (by omega) (by rw [p1]) (by rw [p1]) p2.symm⟩⟩
          · by_cases q3 : kk = 3
            · subst q3
              go_wp2_with (go_at_call 31; refine (must_no _ _ _).mono ?_; rintro e w2 ⟨rfl, rfl⟩)
              have p1 := ply_thrown (by rw [HL.out.1]; exact hin) (by rw [HE.out.1]; decide)
              rw [HE.out.2.1, HE.out.2.2] at p1
              exact post_panic rfl (HR.out.out (HP.out.below (below_alloc (Below.refl _ _) _)) (HF.out.below (below_alloc (Below.refl _ _) _)) (by rw [p1]; simp) (by rw [p1]) ⟨alloc_self _ _⟩)
            · by_cases q4 : kk = 4
              · subst q4
                go_wp2_with fail
                obtain ⟨p3, p4⟩ := ply_try (by rw [HL.out.1]; exact hin) HE.out.1
                have hb := (ply_bound ops (fun i h => HK.out i (by rw [← HL.out.1]; exact h)) (fun i h => HT.out i (by rw [← HL.out.1]; exact h)) ops.length (i' + 1) (by rw [HL.out.1]; omega) (by omega)).1
                have hs := skp_le ops (i' + 1) (by rw [HL.out.1]; omega)
                rw [HL.out.1] at hs
                have HLe := Aside0.mk (And.intro hs hb)
                have HPl := Aside0.mk (And.intro p3 p4)
                clear p3 p4 hs hb
                refine (try_run HP.out HRun.out).mono ?_
                rintro e w2 ⟨j', v2, hPs, hFr, hc⟩
                have HF2 := Aside0.mk (HF.out.trans hFr)
                have HP2 := Aside0.mk hPs
                clear hPs hFr
                rcases hc with ⟨rfl, hn, rfl⟩ | ⟨g, s0, s1, rfl, hs2, hf⟩
                · have HN2 := Aside0.mk hn
                  clear hn
                  go_wp2_with (go_at_call 32; refine (end_no _ _ _).mono ?_; rintro e w3 ⟨rfl, rfl⟩)
                  have hP3 := HP2.out
                  have hF3 := HF2.out
                  obtain ⟨M, HM⟩ : ∃ M, Aside0 (M = N' ++ (ply ops (i' + 1)).1) := ⟨_, ⟨rfl⟩⟩
                  rw [← HM.out] at hP3
                  have HP3 := Aside0.mk hP3
                  have HF3 := Aside0.mk hF3
                  have hq1 : (M.length + 1) * 56 ≤ 140737488355328 := by have h1 := HR.out.len; have h2 := HLe.out; rw [HM.out, List.length_append]; omega
                  obtain ⟨_, _, d3, _, _⟩ := hP3.plr.cells
                  obtain ⟨A3, c3, hv3⟩ := own_slice hP3.row; subst hv3
                  have HB3 := Aside0.mk hq1
                  clear hP3 hF3 hq1 r0 r1 r2 rf1 rf2
                  go_region_law (first
                    | (refine step_append_cells (W := w5) (w0 := w5) B rfl (.tmp 84) (.tmp 88) 35 44 _ 5 56 rfl Try.underlying35 info44 rfl (by decide) (by decide) _ _ _ [.bool true, .string ⟨#[]⟩, .int .i64 0, .string ⟨#[]⟩, .bool false] rfl rfl rfl (by simp [Value.oneCell']) HP5.out.row (Below.refl _ _) HB5.out HB3.out ?_; intro v1 w1 HO1 _ HG1 HA1; obtain ⟨A1, c1, rfl⟩ := own_slice HO1; obtain ⟨_, _, p2, _, q2⟩ := (Plr.mk (blk_grown HP5.out.plr.out HG1 HP5.out.ne)).cells; have HY := Aside0.mk (HP5.out.note (⟨true, ⟨#[]⟩, z39⟩ : S44) HO1 HG1); have HZ := Aside0.mk (HF5.out.note HG1 HA1 (.slice A1 (M.length + 1) c1)); clear HO1 HG1 HA1)
                    | (go_simp; go_at_call 18; refine (fault_nil _).mono ?_; rintro e w5 ⟨rfl, hb5⟩; have hP5 := (HP3.out.drewN 1).below hb5; have HF5 := Aside0.mk ((HF3.out.drewN 1).below hb5); have HB5 := Aside0.mk (show B ≤ w5.heap.size by have h1 := hP5.le; have h2 := hP5.lt; omega); obtain ⟨_, _, d5, _, _⟩ := hP5.plr.cells; obtain ⟨_, _, d6, _, _⟩ := (Plr.mk (blk_alloc hP5.plr.out (.cells (List.toArray [.bool true, .string ⟨#[]⟩, .int .i64 0, .string ⟨#[]⟩, .bool false]) 44))).cells; have HP5 := Aside0.mk hP5; clear hb5 hP5))
                  all_goals
                    go_wp2_with fail
                    go_roundg (n + i - skp ops (i' + 1))
                    case measure => have := HQ.out; have := skp_ge ops (i' + 1); omega
                    case rel =>
                      obtain ⟨p3, p4⟩ := HPl.out
                      exact ⟨skp ops (i' + 1), _, _, ⟨by have := HLe.out; omega⟩, ⟨HR.out.go HY.out HZ.out (by have := skp_ge ops (i' + 1); omega) HLe.out.1 (by have := HLe.out; rw [List.length_append, List.length_singleton, HM.out, List.length_append]; omega) (by rw [p3, HM.out, HN2.out]; simp [flt]) (by rw [p3]) p4.symm⟩⟩
                · have HN2 := Aside0.mk hs2
                  have HF3' := Aside0.mk hf
                  clear hs2 hf
                  go_wp2_with (go_at_call 32; refine (end_yes _ B gp _ _ _ _ _ ops HP2.out.plr HP2.out.scr HL.out.1 HL.out.2 HP2.out.le (i' + 1) hin).mono ?_; rintro e w3 ⟨rfl, hpl3, hg3⟩; have hP3 := HP2.out.end_ hg3 hpl3; have hF3 := HF2.out.end_ hg3; have HX3 := Aside0.mk (HF3'.out.grown hg3 (by intro e; injection e with e; subst e; have h1 := HF3'.out.out; rw [HP2.out.plr.out] at h1; simp at h1)); clear hg3 hpl3)
                  obtain ⟨M, HM⟩ : ∃ M, Aside0 (M = N' ++ (ply ops (i' + 1)).1) := ⟨_, ⟨rfl⟩⟩
                  rw [← HM.out] at hP3
                  have HP3 := Aside0.mk hP3
                  have HF3 := Aside0.mk hF3
                  have hq1 : (M.length + 1) * 56 ≤ 140737488355328 := by have h1 := HR.out.len; have h2 := HLe.out; rw [HM.out, List.length_append]; omega
                  obtain ⟨_, _, d3, _, _⟩ := hP3.plr.cells
                  obtain ⟨A3, c3, hv3⟩ := own_slice hP3.row; subst hv3
                  have HB3 := Aside0.mk hq1
                  clear hP3 hF3 hq1 r0 r1 r2 rf1 rf2
                  go_region_law (first
                    | (refine step_append_cells (W := w5) (w0 := w5) B rfl (.tmp 84) (.tmp 88) 35 44 _ 5 56 rfl Try.underlying35 info44 rfl (by decide) (by decide) _ _ _ [.bool true, .string ⟨#[]⟩, .int .i64 s0, .string s1, .bool true] rfl rfl rfl (by simp [Value.oneCell']) HP5.out.row (Below.refl _ _) HB5.out HB3.out ?_; intro v1 w1 HO1 _ HG1 HA1; obtain ⟨A1, c1, rfl⟩ := own_slice HO1; obtain ⟨_, _, p2, _, q2⟩ := (Plr.mk (blk_grown HP5.out.plr.out HG1 HP5.out.ne)).cells; have HY := Aside0.mk (HP5.out.note (⟨true, ⟨#[]⟩, ⟨s0, s1, true⟩⟩ : S44) HO1 HG1); have HZ := Aside0.mk (HF5.out.note HG1 HA1 (.slice A1 (M.length + 1) c1)); clear HO1 HG1 HA1)
                    | (go_simp; go_at_call 18; refine (fault_flt _ g s0 s1 (HX3.out.drewN 1)).mono ?_; rintro e w5 ⟨rfl, hb5⟩; have hP5 := (HP3.out.drewN 1).below hb5; have HF5 := Aside0.mk ((HF3.out.drewN 1).below hb5); have HB5 := Aside0.mk (show B ≤ w5.heap.size by have h1 := hP5.le; have h2 := hP5.lt; omega); obtain ⟨_, _, d5, _, _⟩ := hP5.plr.cells; obtain ⟨_, _, d6, _, _⟩ := (Plr.mk (blk_alloc hP5.plr.out (.cells (List.toArray [.bool true, .string ⟨#[]⟩, .int .i64 s0, .string s1, .bool true]) 44))).cells; have HP5 := Aside0.mk hP5; clear hb5 hP5))
                  all_goals
                    go_wp2_with fail
                    go_roundg (n + i - skp ops (i' + 1))
                    case measure => have := HQ.out; have := skp_ge ops (i' + 1); omega
                    case rel =>
                      obtain ⟨p3, p4⟩ := HPl.out
                      exact ⟨skp ops (i' + 1), _, _, ⟨by have := HLe.out; omega⟩, ⟨HR.out.go HY.out HZ.out (by have := skp_ge ops (i' + 1); omega) HLe.out.1 (by have := HLe.out; rw [List.length_append, List.length_singleton, HM.out, List.length_append]; omega) (by rw [p3, HM.out, HN2.out]; simp [flt]) (by rw [p3]) p4.symm⟩⟩
              · by_cases q5 : kk = 5
                · subst q5
                  go_wp2_with fail
                  obtain ⟨p3, p4, p5⟩ := ply_in (by rw [HL.out.1]; exact hin) HE.out.1
                  rw [HE.out.2.2] at p5
                  refine (in_run tt (by have := HT.out i' hin; rw [HE.out.2.2] at this; omega) (fun s0 s1 hs => by
                    have := (ply_bound ops (fun i h => HK.out i (by rw [← HL.out.1]; exact h)) (fun i h => HT.out i (by rw [← HL.out.1]; exact h)) ops.length (i' + 1) (by rw [HL.out.1]; omega) (by omega)).2 s0 s1 hs
                    have := HL.out
                    omega) HP.out HRun.out).mono ?_
                  rintro e w2 ⟨j', v2, hPs, hFr, hc⟩
                  have hb := (ply_bound ops (fun i h => HK.out i (by rw [← HL.out.1]; exact h)) (fun i h => HT.out i (by rw [← HL.out.1]; exact h)) ops.length (i' + 1) (by rw [HL.out.1]; omega) (by omega)).1
                  have hs := skp_le ops (i' + 1) (by rw [HL.out.1]; omega)
                  rw [HL.out.1] at hs
                  rcases hc with ⟨rfl, hn, rfl⟩ | ⟨g, s0, s1, rfl, hs2, hf⟩
                  · have HNew : Aside0 (RunI w B gp (some ad) n c ops i v N w2 (skp ops (i' + 1)) v2 (N' ++ (ply ops (i' + 1)).1)) := ⟨HR.out.go hPs (HF.out.trans hFr) (by have := skp_ge ops (i' + 1); omega) hs (by rw [List.length_append]; omega) (by rw [p4 hn, List.append_assoc]) (by rw [p4 hn]) p3.symm⟩
                    have HLe := Aside0.mk (And.intro hs hb)
                    clear hPs hFr hn p3 p4 p5 hb hs
                    go_wp2_with fail
                    go_roundg (n + i - skp ops (i' + 1))
                    case measure => have := HQ.out; have := skp_ge ops (i' + 1); omega
                    case rel => exact ⟨_, _, _, ⟨by have := HLe.out; omega⟩, HNew⟩
                  · refine post_panic rfl (HR.out.out hPs (HF.out.trans hFr) (by rw [p5 s0 s1 hs2]) (by rw [p5 s0 s1 hs2]) hf)
                · go_wp2_with fail
                  have h6 : kd ops i' = 6 := by have := HK.out i' hin; rw [HE.out.1] at *; omega
                  obtain ⟨p1, p2⟩ := ply_ret (by rw [HL.out.1]; exact hin) h6
                  refine bodyPost_ret (results_none rfl _ _ _) rfl ?_
                  exact HR.out.ret HP.out HF.out (by rw [p1]; simp) (by rw [p1]) (by rw [p2]; omega)
    · have hgd1 : ¬ (i' : Int) < (n : Int) := by omega
      go_upto_region 0 with fail
      go_quiet (fail)
      go_wp2_with fail
      refine bodyPost_end (results_none rfl _ _ _) rfl ?_
      have p1 := ply_end ops i' (by rw [HL.out.1]; omega)
      have p2 := skp_end ops i' (by rw [HL.out.1]; omega)
      exact HR.out.ret (HR.out.ps.drewN _) (HR.out.fr.drewN _) (by rw [p1]; simp) (by rw [p1]) (by rw [p2])
end Go.Proofs.Ytpdfojofnpbliaa.My

/- How a script comes in; the proper script; the document's answer, whole. -/
namespace Go.Proofs.Ytpdfojofnpbliaa.My
open Go.RowKit Go.ChangeShapes Go.WideShapes Go.ChangeAt Go.Proofs.Ytpdfojofnpbliaa.PGuardPlays Go.Proofs.YtpdfojofnpbliaaW.PrintWords Go.Proofs.YtpdfojofnpbliaaW.PrintLast Go.Proofs.YtpdfojofnpbliaaW.PrintMore
set_option linter.unusedVariables false
set_option linter.unusedSimpArgs false

theorem script_of_trod {H : Type} {enc : TypeId × Value → H} {W : World} {base fuel : Nat} {held : Bool} {v : Value} {x : DataW H × List MemPlace}
    (h : DataW.trod enc Try.prog W base (fun _ => true) held fuel 30 [v] = some x) : ∃ A cap l, v = .slice A l.length cap ∧ l.length ≤ cap ∧ Kd.C k33 W A l.length l ∧ True := by
  rcases DataW.trod_slice Try.underlying30 h with ⟨h0, _⟩ | ⟨ad, len, cap, elems, rest, n, _, h0, _, _, hl, hm, hlen, hel, _, _⟩
  · simp only [List.cons.injEq, and_true] at h0
    exact ⟨none, 0, [], h0, Nat.le_refl _, Kd.C_nil _ _, trivial⟩
  · simp only [List.cons.injEq, and_true] at h0
    have hc3 : Program.cellsOf Try.prog 33 = 3 := by kernel_rfl
    have each : ∀ i, i < len → ∃ a : S33, ∀ j u, [Value.int .i64 a.f0, .int .i64 a.f1, .string a.f2][j]? = some u → W.cell? (ad.add (i * 3 + j)) = some u := by
      intro i hi
      obtain ⟨y, hy⟩ : ∃ y, elems[i]? = some y := ⟨_, List.getElem?_eq_getElem (by omega)⟩
      have hb := hel i hi
      rw [hy, Option.bind_eq_some_iff] at hb
      obtain ⟨cs, hcs, ht⟩ := hb
      rw [hc3] at hcs
      obtain ⟨_, hcl, hcc⟩ := World.cells?_some hcs
      obtain ⟨c0, c1, c2, rfl⟩ : ∃ c0 c1 c2, cs = [c0, c1, c2] := by
        match cs, hcl with
        | [c0, c1, c2], _ => exact ⟨c0, c1, c2, rfl⟩
      have q0 := hcc 0 (by decide)
      have q1 := hcc 1 (by decide)
      have q2 := hcc 2 (by decide)
      obtain ⟨y0, y1, y2, m, _, _, t0, t1, t2⟩ := Go.Deep.trod_struct3 Try.underlying33 ht
      have s1 : Program.cellsOf Try.prog 3 = 1 := by kernel_rfl
      have s2 : Program.cellsOf Try.prog 9 = 1 := by kernel_rfl
      simp only [s1, s2, List.drop_zero, List.drop_succ_cons, List.take_succ_cons, List.take_zero] at t0 t1 t2
      obtain ⟨bb, e0, _, _⟩ := DataW.trod_int Try.underlying3 t0
      obtain ⟨ll, e1, _, _⟩ := DataW.trod_int Try.underlying3 t1
      obtain ⟨dd, e2, _, _⟩ := DataW.trod_string Try.underlying9 t2
      simp only [List.cons.injEq, and_true] at e0 e1 e2
      subst e0 e1 e2
      refine ⟨⟨bb, ll, dd⟩, fun j u hu => ?_⟩
      match j, hu with
      | 0, hu => cases hu; simpa [Addr.add_add] using q0
      | 1, hu => cases hu; rw [← Addr.add_add]; exact q1
      | 2, hu => cases hu; rw [← Addr.add_add]; exact q2
    obtain ⟨f, hf⟩ : ∃ f : Nat → S33, ∀ i, i < len → ∀ j u, [Value.int .i64 (f i).f0, .int .i64 (f i).f1, .string (f i).f2][j]? = some u → W.cell? (ad.add (i * 3 + j)) = some u :=
      ⟨fun i => if hi : i < len then (each i hi).choose else z33, fun i hi => by simpa only [dif_pos hi] using (each i hi).choose_spec⟩
    have hll : ((List.range len).map f).length = len := by simp
    refine ⟨some ad, cap, (List.range len).map f, by rw [hll]; exact h0, by rw [hll]; exact hl, ⟨rfl, by rw [hll]; unfold maxLen at hm; omega, fun _ => ⟨ad, rfl, fun i a h => ?_⟩⟩, trivial⟩
    have hi := (List.getElem?_eq_some_iff.1 h).1
    rw [hll] at hi
    rw [List.getElem?_map, List.getElem?_range hi] at h
    simp at h
    subst h
    exact ⟨_, rfl, k33_mk W _, hf i hi⟩
/-- The proper script. -/
def prp (x : S33) : S33 := ⟨wrap64 (Int.tmod (IntKind.u64.wrap x.f0) 7), x.f1, x.f2⟩
theorem prp_kd (x : S33) : 0 ≤ (prp x).f0 ∧ (prp x).f0 ≤ 6 := by
  unfold prp
  dsimp only
  have h : 0 ≤ IntKind.u64.wrap x.f0 := by unfold IntKind.wrap; simp [IntKind.signed, IntKind.bits]; omega
  have h1 := Int.tmod_nonneg 7 h
  have h2 := Int.tmod_lt_of_pos (IntKind.u64.wrap x.f0) (show (0:Int) < 7 by decide)
  generalize Int.tmod (IntKind.u64.wrap x.f0) 7 = y at *
  unfold wrap64
  omega
theorem prop_l0 (l : List S33) (hl : l.length ≤ 1000) : ∀ d i, i + d = l.length → crossdocklaw01_proper.l0 (d + 1) ((l.map prp).take i) l (l.length : Int) (i : Int) = some (l.map prp)
  | 0, i, h => by
    simp only [crossdocklaw01_proper.l0]
    rw [if_neg (by omega), List.take_of_length_le (by rw [List.length_map]; omega)]
  | d + 1, i, h => by
    simp only [crossdocklaw01_proper.l0]
    rw [if_pos (by omega), if_pos (by omega), if_pos (by omega), if_pos (by rw [List.length_take, List.length_map]; omega), w1 i (by omega), rd_at]
    have e : (l.map prp).take i ++ [(⟨wrap64 (Int.tmod (IntKind.u64.wrap (l.getD i z33).f0) 7), (l.getD i z33).f1, (l.getD i z33).f2⟩ : S33)] = (l.map prp).take (i + 1) := by
      rw [List.take_add_one, List.getElem?_map, List.getElem?_eq_getElem (by omega), List.getD_eq_getElem?_getD, List.getElem?_eq_getElem (by omega)]
      rfl
    rw [e]
    exact prop_l0 l hl d (i + 1) (by omega)
theorem prop_f (l : List S33) (hl : l.length ≤ 1000) : crossdocklaw01_proper.f (l.length + 1) l = some (l.map prp) := prop_l0 l hl l.length 0 (by omega)
theorem prop_kd (l : List S33) : ∀ i, i < (l.map prp).length → 0 ≤ kd (l.map prp) i ∧ kd (l.map prp) i ≤ 6 := by
  intro i hi
  rw [List.length_map] at hi
  unfold kd
  rw [List.getD_eq_getElem?_getD, List.getElem?_map, List.getElem?_eq_getElem hi]
  exact prp_kd _
/-- The document's answer for a whole script. -/
theorem doc_run (ops : List S33) (hl : ops.length ≤ 1000) (hk : ∀ i, i < ops.length → 0 ≤ kd ops i ∧ kd ops i ≤ 6) (ht : ∀ i, i < ops.length → (ops.getD i z33).f2.size ≤ 100) :
    ∃ k, crossdockref01_Run.f k ops 0 = some ((ply ops 0).1, ((skp ops 0 : Nat) : Int), resP (ply ops 0).2) := by
  obtain ⟨k, h⟩ := Ev.step (f := fun k => crossdockref01_Run.f k ops 0) (run_ev ops hl hk ht ops.length 0 [] (by omega) (by omega) (by simp)) (fun k => by simp only [crossdockref01_Run.f]; rfl)
  exact ⟨k, by simpa using h k (Nat.le_refl _)⟩
theorem notes_reps (w : World) : ∀ N : List S44, Reps (k44.K w) 5 N (notesV N)
  | [] => Reps.none _ _
  | x :: r => by
    have h := Kd.reps_append (Reps.snoc (Reps.none (k44.K w) 5) (k44_mk w x) rfl) (notes_reps w r)
    simpa [notesV, noteV] using h
theorem notes_C {w : World} {B : Nat} {v : Value} {N : List S44} (h : w.ownsRow B 44 5 v N.length (notesV N)) : ∃ A c, v = .slice A N.length c ∧ Kd.C k44 w A N.length N := own_reads_row h (notes_reps w N) rfl
theorem heap33 : Kd.Heap k33 := Kd.heap_iso _ (Kd.heap_pair (Kd.heap_int .i64) (Kd.heap_pair (Kd.heap_int .i64) Kd.heap_string))
end Go.Proofs.Ytpdfojofnpbliaa.My

/- The law GuardPlays, walked. -/
namespace Go.Proofs.Ytpdfojofnpbliaa.My
open Go.RowKit Go.Proofs.Ytpdfojofnpbliaa.PGuardPlays Go.Proofs.YtpdfojofnpbliaaW.PrintWords Go.Proofs.YtpdfojofnpbliaaW.PrintLast Go.Proofs.YtpdfojofnpbliaaW.PrintMore
set_option linter.unusedVariables false
set_option linter.unusedSimpArgs false
set_option maxHeartbeats 8000000 in
set_option maxRecDepth 100000 in
theorem plays_walk (A : Option Addr) (cap : Nat) (l : List S33) (w : World) (hcap : l.length ≤ cap) (hs : Kd.C k33 w A l.length l) (_ : True) :
    Calls Try.prog 4 #[.slice A l.length cap] w fun e w' => e = .returned (.bool true) ∧ Below w.heap.size w w' := by
  have HS := Aside0.mk hs
  have HC := Aside0.mk hcap
  clear hs hcap
  by_cases h60 : 60 < l.length
  · have h60' : (60 : Int) < (l.length : Int) := by omega
    go_enter Try.func4, Try.ntmps4
    go_wp2_with (go_at_call 7; refine (alive_calls _).mono ?_; rintro e w1 ⟨rfl, hb⟩)
    go_ret
    exact ⟨rfl, hb⟩
  · have h60' : ¬ (60 : Int) < (l.length : Int) := by omega
    have hl : l.length ≤ 1000 := by omega
    have HPr := Aside0.mk (prop_f l hl)
    obtain ⟨ops, HO⟩ : ∃ ops, Aside0 (ops = l.map prp) := ⟨_, ⟨rfl⟩⟩
    have HLen := Aside0.mk (show ops.length = l.length by rw [HO.out, List.length_map])
    rw [← HO.out] at HPr
    have HKd := Aside0.mk (show ∀ i, i < ops.length → 0 ≤ kd ops i ∧ kd ops i ≤ 6 by rw [HO.out]; exact prop_kd l)
    clear hl h60
    go_enter Try.func4, Try.ntmps4
    go_wp2_with (first
      | (go_at_call 7; refine (alive_calls _).mono ?_; rintro e w1 ⟨rfl, hb⟩; have HB1 := Aside0.mk hb; clear hb)
      | (go_at_call 15; refine (crossdocklaw01_proper.calls _ _ _ l ops w1 (Kd.C_below HS.out HB1.out) HC.out HPr.out).mono ?_; rintro e w2 ⟨v0, rfl, hR, hb2⟩; obtain ⟨A3, c3, rfl, hc3, hC3⟩ := Kd.R_reads hR; have HB2 := Aside0.mk (below_then HB1.out HB1.out.size hb2); have HC3 := Aside0.mk hC3; have HCc := Aside0.mk hc3; clear hR hb2 hC3 hc3))
    obtain ⟨n, HN⟩ : ∃ n, Aside0 (n = ops.length) := ⟨_, ⟨rfl⟩⟩
    have HN60 := Aside0.mk (show n ≤ 60 by rw [HN.out, HLen.out]; omega)
    rw [← HN.out] at HC3 HCc ⊢
    go_loopg [21] n (fun kq v21 wr => ∃ (i : Nat), v21 = .int .i64 i ∧ i ≤ n ∧ Aside0 (kq + i = n) ∧ Aside0 (Below w.heap.size w wr) ∧ Aside0 (Below w2.heap.size w2 wr) ∧ Aside0 (∀ j, j < i → (ops.getD j z33).f2.size ≤ 60))
    case atStart => exact ⟨0, rfl, Nat.zero_le _, ⟨rfl⟩, HB2, ⟨Below.refl _ _⟩, ⟨fun j h => by omega⟩⟩
    case round =>
      obtain ⟨i, rfl, hi, HQ, HBr, HBs, HT⟩ := hrel
      by_cases hin : i < n
      · obtain ⟨ad, eA, _, k0, k1, k2⟩ := Ops.of (Kd.C_below HC3.out HBs.out) i hin
        subst eA
        generalize hkk : kd ops i = kk at *
        generalize hcc : (ops.getD i z33).f1 = cc at *
        generalize htt : (ops.getD i z33).f2 = tt at *
        have HE := Aside0.mk htt
        clear hkk hcc htt
        have hi' : (i : Int) < (n : Int) := by omega
        have hb1 : (i : Int) ≤ 1000 := by have := HN60.out; omega
        by_cases q1 : 60 < tt.size
        · have q1' : (60 : Int) < (tt.size : Int) := by omega
          go_wp2_with fail
          go_ret
          exact ⟨rfl, below_alloc HBr.out _⟩
        · have q1' : ¬ (60 : Int) < (tt.size : Int) := by omega
          have HT2 : Aside0 (∀ j, j < i + 1 → (ops.getD j z33).f2.size ≤ 60) := ⟨fun j hj => by
            by_cases hji : j = i
            · subst hji; rw [HE.out]; omega
            · exact HT.out j (by omega)⟩
          by_cases q2 : cc < 0
          · go_wp2_with fail
            go_ret
            exact ⟨rfl, below_alloc HBr.out _⟩
          · by_cases q3 : 30 < cc
            · go_wp2_with fail
              go_ret
              exact ⟨rfl, below_alloc HBr.out _⟩
            · go_wp2_with fail
              go_roundg (n - (i + 1))
              case measure => have := HQ.out; omega
              case rel => exact ⟨i + 1, rfl, hin, ⟨by omega⟩, ⟨below_alloc HBr.out _⟩, ⟨below_alloc HBs.out _⟩, HT2⟩
      · have hi' : ¬ (i : Int) < (n : Int) := by omega
        have HT60 := Aside0.mk (show ∀ j, j < ops.length → (ops.getD j z33).f2.size ≤ 100 from fun j hj => by have := HT.out j (by rw [HN.out] at *; omega); omega)
        have hC4 := Kd.C_below HC3.out HBs.out
        have hP4 : Ps (wr.alloc (.cells #[.slice A3 n c3, .int .i64 0, .slice none 0 0] 37)) wr.heap.size wr.heap.size A3 n c3 ops ((0 : Nat) : Int) (.slice none 0 0) [] := ⟨⟨alloc_self wr _⟩, own_nil _ _ _ _, (Ops.of hC4).keep (fun k hk => Below.heap_alloc wr _ k hk), Nat.le_refl _⟩
        have HTry := Aside0.mk (try_run hP4 (run_calls wr.heap.size wr.heap.size A3 n c3 ops HN.out.symm (by have := HN60.out; omega) (by rw [HN.out]; exact HKd.out) (by rw [HN.out]; exact HT60.out) n 0 (Nat.zero_le _) rfl _ _ _ (ps_alloc hP4) (by have := HN60.out; simp; omega)))
        have HC4 := Aside0.mk hC4
        clear hP4 hC4 hi hin
        go_wp2_with fail
        refine HTry.out.mono ?_
        rintro e w4 ⟨j', v', hPs, hFr, hc⟩
        obtain ⟨ev, rc, rs, rb, he, hfault, hdoc⟩ : ∃ (ev : Value) (rc : Int) (rs : ByteArray) (rb : Bool), e = .returned ev ∧ (∀ W, Below w4.heap.size w4 W → Calls Try.prog 18 #[ev] W fun e w' => e = .returned (.agg #[.int .i64 rc, .string rs, .bool rb]) ∧ Below W.heap.size W w') ∧ resP (ply ops 0).2 = (rc, rs, rb) := by
          rcases hc with ⟨rfl, hn, rfl⟩ | ⟨g, s0, s1, rfl, hs2, hf⟩
          · exact ⟨_, 0, ⟨#[]⟩, false, rfl, fun W _ => fault_nil W, by rw [hn]; rfl⟩
          · exact ⟨_, s0, s1, true, rfl, fun W hb => fault_flt W g s0 s1 (hf.below hb), by rw [hs2]; rfl⟩
        subst he
        have hbl := hFr.under (W := wr) (below_alloc (Below.refl _ _) _) (Nat.le_refl _) (fun k hk => by simp [Value.ownBlock] at hk)
        have hRun : Calls Try.prog 17 #[.slice A3 n c3, .int .i64 0] w4 fun e w' => ∃ v0_ : Value, e = .returned (.tuple #[v0_, .int .i64 ((skp ops 0 : Nat) : Int), .agg #[.int .i64 rc, .string rs, .bool rb]]) ∧ Kd.R k44 44 w' w4.heap.size (fun _ => True) v0_ (ply ops 0).1 ∧ Below w4.heap.size w4 w' := by
          obtain ⟨k, hk⟩ := doc_run ops (by have := HN60.out; rw [HN.out] at this; omega) HKd.out HT60.out
          rw [hdoc] at hk
          have hC5 := Kd.C_below HC4.out hbl
          have hcc := HCc.out
          rw [HN.out] at hC5 hcc ⊢
          exact crossdockref01_Run.calls k A3 c3 ops 0 _ _ _ _ _ w4 hC5 hcc hk
        have HRun := Aside0.mk hRun
        have HBl := Aside0.mk (below_then HBr.out HBr.out.size hbl)
        have HFa := Aside0.mk hfault
        have HPs := Aside0.mk hPs
        clear hc hdoc hbl hRun hfault hPs hFr
        go_upto_region 15 with (go_at_call 17; refine HRun.out.mono ?_; rintro e w5 ⟨v0_, rfl, hR5, hb5⟩; obtain ⟨A8, c8, rfl, _, hC8⟩ := Kd.R_reads hR5; have HC8 := Aside0.mk hC8; have HB5 := Aside0.mk hb5; clear hR5 hb5 hC8)
        have hbx := alloc_self w5 (.cells #[.int .i64 rc, .string rs, .bool rb] 39)
        have hb6 : Below w4.heap.size w4 (w5.alloc (.cells #[.int .i64 rc, .string rs, .bool rb] 39)) := below_alloc HB5.out _
        have hP6 := HPs.out.below hb6
        rw [List.nil_append] at hP6
        have hC6 := Kd.C_alloc HC8.out (.cells #[.int .i64 rc, .string rs, .bool rb] 39)
        generalize w5.alloc (.cells #[.int .i64 rc, .string rs, .bool rb] 39) = w6 at *
        generalize w5.heap.size = kb at *
        clear HTry HRun
        generalize wr.heap.size = gp at *
        have HNN := Aside0.mk (show (ply ops 0).1.length ≤ 1000 by
          have h1 := (ply_bound ops HKd.out HT60.out ops.length 0 (Nat.zero_le _) (by omega)).1
          have h2 := skp_le ops 0 (Nat.zero_le _)
          have h3 := HN60.out
          rw [HN.out] at h3
          omega)
        generalize (ply ops 0).1 = NN at *
        obtain ⟨A7, c7, hv7, hC7⟩ := notes_C hP6.row
        subst hv7
        obtain ⟨_, _, r2, _, _⟩ := hP6.plr.cells
        have x0 := blk_cell hbx 0
        have x1 := blk_cell hbx 1
        have x2 := blk_cell hbx 2
        have HB6 := Aside0.mk hb6
        have HBW := Aside0.mk (below_then HBl.out HBl.out.size hb6)
        have HP6 := Aside0.mk hP6
        have HC6 := Aside0.mk hC6
        have HC7 := Aside0.mk hC7
        have HX6 := Aside0.mk hbx
        clear hb6 hP6 hC6 hbx hC7 HPs HC4
        go_cut [65] from 52 to 65 (fun v65 wx => v65 = .bool false ∧ Aside0 (Below w6.heap.size w6 wx))
        case first =>
          go_region_law (go_simp; go_at_call 18; refine (HFa.out w6.drew (HB6.out.trans ⟨rfl, rfl, rfl, Nat.le_refl _, fun _ _ => rfl⟩)).mono ?_; rintro e w7 ⟨rfl, hb7⟩; have hb7' : Below w6.heap.size w6 w7 := ⟨hb7.os, hb7.tape, hb7.output, hb7.size, hb7.block⟩; obtain ⟨_, _, s2, _, _⟩ := (HP6.out.below hb7').plr.cells; have hbx7 := blk_below HX6.out hb7'; have y0 := blk_cell hbx7 0; have y1 := blk_cell hbx7 1; have y2 := blk_cell hbx7 2; have HB7 := Aside0.mk hb7'; clear hb7 hb7' hbx7)
          all_goals
            go_wp2_with fail
            go_meet
            exact ⟨rfl, HB7⟩
        case rest =>
          obtain ⟨rfl, HBx⟩ := hcut
          go_wp2_with fail
          go_loopg [68] NN.length (fun kq v68 wr => ∃ (i : Nat), v68 = .int .i64 i ∧ i ≤ NN.length ∧ Aside0 (kq + i = NN.length) ∧ Aside0 (Below w6.heap.size w6 wr))
          case atStart => exact ⟨0, rfl, Nat.zero_le _, ⟨rfl⟩, HBx⟩
          case round =>
            obtain ⟨i2, rfl, hi2, HQ2, HB2r⟩ := hrel
            obtain ⟨_, _, s2, _, _⟩ := (HP6.out.below HB2r.out).plr.cells
            by_cases hin2 : i2 < NN.length
            · have hin3 : (i2 : Int) < (NN.length : Int) := by omega
              obtain ⟨a7, e7, p0, p1, p2, p3, p4⟩ := at_T44 (Kd.C_below HC7.out HB2r.out) (i2 : Int) (by omega) (by omega)
              obtain ⟨a8, e8, q0, q1, q2, q3, q4⟩ := at_T44 (Kd.C_below HC6.out HB2r.out) (i2 : Int) (by omega) (by omega)
              subst e7 e8
              rw [Int.toNat_natCast] at p0 p1 p2 p3 p4 q0 q1 q2 q3 q4
              generalize rd_T44 NN (i2 : Int) = xx at *
              have hb2 : (i2 : Int) ≤ 1000 := by have := HNN.out; omega
              go_wp2_with fail
              go_quiet (fail)
              go_wp2_with fail
              go_roundg (NN.length - (i2 + 1))
              case measure => have := HQ2.out; omega
              case rel => exact ⟨i2 + 1, rfl, hin2, ⟨by omega⟩, ⟨HB2r.out.trans ⟨rfl, rfl, rfl, Nat.le_refl _, fun _ _ => rfl⟩⟩⟩
            · have hin3 : ¬ (i2 : Int) < (NN.length : Int) := by omega
              go_wp2_with fail
              go_ret
              exact ⟨rfl, below_then HBW.out HBW.out.size HB2r.out⟩
end Go.Proofs.Ytpdfojofnpbliaa.My
