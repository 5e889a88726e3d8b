/- Paths, plainly: the parts between slashes, their order, what is within what. No program in sight. -/
import Derived.Lib.Split
import Derived.Lib.Join
import GoSem.Op.String
namespace Go.Proofs.YtiddhdhojhggeaaDoor.My
open Go.Lib
set_option linter.unusedVariables false
set_option linter.unusedSimpArgs false

def parts : List UInt8 → List (List UInt8)
  | [] => [[]]
  | c :: r => if c = 47 then [] :: parts r else
    match parts r with
    | [] => [[c]]
    | p :: ps => (c :: p) :: ps
theorem parts_form : ∀ l, ∃ p ps, parts l = p :: ps
  | [] => ⟨[], [], rfl⟩
  | c :: r => by
    unfold parts
    split
    · exact ⟨_, _, rfl⟩
    · split
      · exact ⟨_, _, rfl⟩
      · exact ⟨_, _, rfl⟩
theorem parts_slash (r : List UInt8) : parts (47 :: r) = [] :: parts r := by simp [parts]
theorem parts_other {c : UInt8} (h : c ≠ 47) {r p : List UInt8} {ps : List (List UInt8)} (e : parts r = p :: ps) : parts (c :: r) = (c :: p) :: ps := by simp [parts, h, e]
theorem parts_app : ∀ (a b : List UInt8), parts (a ++ 47 :: b) = parts a ++ parts b
  | [], b => by simp [parts]
  | c :: a, b => by
    by_cases h : c = 47
    · subst h
      rw [List.cons_append, parts_slash, parts_slash, parts_app a b, List.cons_append]
    · obtain ⟨p, ps, e⟩ := parts_form a
      have h2 : parts (a ++ 47 :: b) = p :: (ps ++ parts b) := by rw [parts_app a b, e, List.cons_append]
      rw [List.cons_append, parts_other h h2, parts_other h e, List.cons_append]
theorem parts_plain : ∀ (a : List UInt8), 47 ∉ a → parts a = [a]
  | [], _ => rfl
  | c :: a, h => by
    have h1 : c ≠ 47 := fun e => h (by simp [e])
    rw [parts_other h1 (parts_plain a (fun k => h (by simp [k])))]
theorem parts_free : ∀ (a : List UInt8), ∀ p ∈ parts a, 47 ∉ p
  | [], p, hp => by simp [parts] at hp; simp [hp]
  | c :: a, p, hp => by
    by_cases h : c = 47
    · subst h
      rw [parts_slash] at hp
      rcases List.mem_cons.1 hp with rfl | hp
      · simp
      · exact parts_free a p hp
    · obtain ⟨q, qs, e⟩ := parts_form a
      rw [parts_other h e] at hp
      rcases List.mem_cons.1 hp with rfl | hp
      · have := parts_free a q (by simp [e])
        simp only [List.mem_cons, not_or]
        exact ⟨fun k => h k.symm, this⟩
      · exact parts_free a p (by simp [e, hp])

def glue : List (List UInt8) → List UInt8
  | [] => []
  | [p] => p
  | p :: q :: r => p ++ 47 :: glue (q :: r)
theorem glue_two (p : List UInt8) {r : List (List UInt8)} (h : r ≠ []) : glue (p :: r) = p ++ 47 :: glue r := by
  cases r with
  | nil => exact absurd rfl h
  | cons q r => rfl
theorem join_glue : ∀ ps : List (List UInt8), join ps [47] = glue ps
  | [] => rfl
  | [p] => by simp [join, List.intercalate, glue]
  | p :: q :: r => by
    have := join_glue (q :: r)
    rw [glue, ← this]
    simp [join, List.intercalate]
theorem glue_parts : ∀ l, glue (parts l) = l
  | [] => rfl
  | c :: a => by
    have ih := glue_parts a
    obtain ⟨p, ps, e⟩ := parts_form a
    by_cases h : c = 47
    · subst h
      rw [parts_slash, glue_two _ (by rw [e]; simp), ih]
      rfl
    · rw [parts_other h e]
      rw [e] at ih
      cases ps with
      | nil => simp only [glue] at ih ⊢; rw [ih]
      | cons q qs => simp only [glue] at ih ⊢; rw [List.cons_append, ih]
theorem parts_inj {a b : List UInt8} (h : parts a = parts b) : a = b := by rw [← glue_parts a, h, glue_parts]
theorem parts_glue : ∀ (ps : List (List UInt8)), ps ≠ [] → (∀ p ∈ ps, 47 ∉ p) → parts (glue ps) = ps
  | [], h, _ => absurd rfl h
  | [p], _, h => by simpa [glue] using parts_plain p (h p (by simp))
  | p :: q :: r, _, h => by
    rw [glue, parts_app, parts_plain p (h p (by simp)), parts_glue (q :: r) (by simp) (fun x hx => h x (by simp at hx ⊢; exact .inr hx))]
    rfl
theorem glue_app : ∀ (a b : List (List UInt8)), a ≠ [] → b ≠ [] → glue (a ++ b) = glue a ++ 47 :: glue b
  | [], _, h, _ => absurd rfl h
  | [p], b, _, hb => by simpa [glue] using glue_two p hb
  | p :: q :: r, b, _, hb => by
    have := glue_app (q :: r) b (by simp) hb
    rw [List.cons_append, glue_two p (by simp), this, glue]
    simp

/-! ### the kit's cut is 'parts' -/
theorem index_ind : ∀ (s : List UInt8), (index s [47] = -1 ∧ 47 ∉ s) ∨ ∃ i : Nat, index s [47] = i ∧ i < s.length ∧ 47 ∉ s.take i ∧ s = s.take i ++ 47 :: s.drop (i + 1)
  | [] => .inl ⟨by simp [index], by simp⟩
  | c :: s => by
    by_cases h : c = 47
    · subst h
      exact .inr ⟨0, by simp [index], by simp, by simp, by simp⟩
    · have hp : List.isPrefixOf [47] (c :: s) = false := by simp [List.isPrefixOf]; exact fun e => h e.symm
      rcases index_ind s with ⟨e, hn⟩ | ⟨i, e, hi, hn, hs⟩
      · refine .inl ⟨by simp [index, hp, e], ?_⟩
        simp only [List.mem_cons, not_or]
        exact ⟨fun k => h k.symm, hn⟩
      · refine .inr ⟨i + 1, ?_, by simp; omega, ?_, ?_⟩
        · have h1 : ¬ (index s [47] == -1) = true := fun k => by have := beq_iff_eq.1 k; omega
          rw [index, hp, if_neg (by simp), if_neg h1, e]
          omega
        · rw [List.take_succ_cons]
          simp only [List.mem_cons, not_or]
          exact ⟨fun k => h k.symm, hn⟩
        · rw [List.take_succ_cons, List.drop_succ_cons, List.cons_append, ← hs]
theorem splitK_parts : ∀ (k : Nat) (s : List UInt8), count s [47] ≤ k → splitK [47] 0 k s = parts s
  | 0, s => fun h => by
    rcases index_ind s with ⟨e, hn⟩ | ⟨i, e, hi, hn, hs⟩
    · rw [parts_plain s hn]; rfl
    · rw [count_hit (by simp) e] at h
      omega
  | k + 1, s => fun h => by
    rcases index_ind s with ⟨e, hn⟩ | ⟨i, e, hi, hn, hs⟩
    · rw [parts_plain s hn]
      simp [splitK, e]
    · rw [count_hit (by simp) e] at h
      have h1 : ¬ (index s [47] == -1) = true := fun k => by have := beq_iff_eq.1 k; omega
      have h2 : (index s [47]).toNat = i := by omega
      have ih := splitK_parts k (s.drop (i + 1)) (by simpa using (by omega : count (s.drop (i + [47].length)) [47] ≤ k))
      rw [splitK, if_neg h1, h2]
      rw [show ([47] : List UInt8).length = 1 from rfl, ih]
      have := parts_app (s.take i) (s.drop (i + 1))
      rw [← hs, parts_plain _ hn] at this
      rw [this]
      rfl
theorem split_parts (s : List UInt8) : splitK [47] 0 (count s [47]) s = parts s := splitK_parts _ _ (Nat.le_refl _)
theorem count_parts (s : List UInt8) : (parts s).length = count s [47] + 1 := by
  have key : ∀ (n : Nat) (s : List UInt8), s.length ≤ n → (parts s).length = count s [47] + 1 := by
    intro n
    induction n with
    | zero =>
      intro s hs
      have : s = [] := List.eq_nil_of_length_eq_zero (by omega)
      subst this
      simp [parts, count_miss (show index [] [47] = -1 by simp [index])]
    | succ n ih =>
      intro s hs
      rcases index_ind s with ⟨e, hn⟩ | ⟨i, e, hi, hn, hs'⟩
      · rw [parts_plain s hn, count_miss e]; rfl
      · have h2 := parts_app (s.take i) (s.drop (i + 1))
        rw [← hs', parts_plain _ hn] at h2
        rw [h2, count_hit (by simp) e, show ([47] : List UInt8).length = 1 from rfl]
        have h3 := ih (s.drop (i + 1)) (by rw [List.length_drop]; omega)
        simp only [List.length_append, List.length_cons, List.length_nil, h3]
        omega
  exact key _ s (Nat.le_refl _)

/-! ### the order -/
theorem bl_irrefl' : ∀ l : List UInt8, Op.bytesLess l l = false
  | [] => rfl
  | a :: l => by simp [Op.bytesLess, bl_irrefl' l]
theorem bl_cons (a b : UInt8) (x y : List UInt8) : Op.bytesLess (a :: x) (b :: y) = true ↔ a < b ∨ a = b ∧ Op.bytesLess x y = true := by
  simp [Op.bytesLess]
theorem bl_trans : ∀ a b c : List UInt8, Op.bytesLess a b = true → Op.bytesLess b c = true → Op.bytesLess a c = true
  | _, [], _ => fun h _ => by simp [Op.bytesLess] at h
  | _, b :: y, [] => fun _ h => by simp [Op.bytesLess] at h
  | [], b :: y, c :: z => fun _ _ => rfl
  | a :: x, b :: y, c :: z => fun h k => by
    rw [bl_cons] at h k ⊢
    rcases h with h | ⟨rfl, h⟩
    · rcases k with k | ⟨rfl, k⟩
      · exact .inl (UInt8.lt_trans h k)
      · exact .inl h
    · rcases k with k | ⟨rfl, k⟩
      · exact .inl k
      · exact .inr ⟨rfl, bl_trans x y z h k⟩
theorem bl_total : ∀ a b : List UInt8, a = b ∨ Op.bytesLess a b = true ∨ Op.bytesLess b a = true
  | [], [] => .inl rfl
  | [], b :: l => .inr (.inl rfl)
  | a :: l, [] => .inr (.inr rfl)
  | a :: x, b :: y => by
    rw [bl_cons, bl_cons]
    rcases Nat.lt_trichotomy a.toNat b.toNat with h | h | h
    · exact .inr (.inl (.inl (UInt8.lt_iff_toNat_lt.2 h)))
    · have e : a = b := UInt8.toNat_inj.1 h
      subst e
      rcases bl_total x y with rfl | k | k
      · exact .inl rfl
      · exact .inr (.inl (.inr ⟨rfl, k⟩))
      · exact .inr (.inr (.inr ⟨rfl, k⟩))
    · exact .inr (.inr (.inl (UInt8.lt_iff_toNat_lt.2 h)))
theorem bl_asymm {a b : List UInt8} (h : Op.bytesLess a b = true) : Op.bytesLess b a = false := by
  cases k : Op.bytesLess b a with
  | false => rfl
  | true => have := bl_trans a b a h k; rw [bl_irrefl'] at this; cases this

def ltP : List (List UInt8) → List (List UInt8) → Bool
  | _, [] => false
  | [], _ :: _ => true
  | x :: xs, y :: ys => if x = y then ltP xs ys else Op.bytesLess x y
theorem ltP_irrefl : ∀ l, ltP l l = false
  | [] => rfl
  | x :: xs => by simp [ltP, ltP_irrefl xs]
theorem ltP_cons (x y : List UInt8) (xs ys : List (List UInt8)) : ltP (x :: xs) (y :: ys) = true ↔ x = y ∧ ltP xs ys = true ∨ Op.bytesLess x y = true := by
  rw [show ltP (x :: xs) (y :: ys) = if x = y then ltP xs ys else Op.bytesLess x y from rfl]
  by_cases h : x = y
  · subst h; simp [bl_irrefl']
  · simp [h]
theorem ltP_trans : ∀ a b c, ltP a b = true → ltP b c = true → ltP a c = true
  | _, [], _ => fun h _ => by simp [ltP] at h
  | _, b :: y, [] => fun _ h => by simp [ltP] at h
  | [], b :: y, c :: z => fun _ _ => by simp [ltP]
  | a :: x, b :: y, c :: z => fun h k => by
    rw [ltP_cons] at h k ⊢
    rcases h with ⟨rfl, h⟩ | h
    · rcases k with ⟨rfl, k⟩ | k
      · exact .inl ⟨rfl, ltP_trans x y z h k⟩
      · exact .inr k
    · rcases k with ⟨rfl, k⟩ | k
      · exact .inr h
      · exact .inr (bl_trans _ _ _ h k)
theorem ltP_total : ∀ a b, a = b ∨ ltP a b = true ∨ ltP b a = true
  | [], [] => .inl rfl
  | [], b :: l => .inr (.inl (by simp [ltP]))
  | a :: l, [] => .inr (.inr (by simp [ltP]))
  | a :: x, b :: y => by
    rw [ltP_cons, ltP_cons]
    rcases bl_total a b with rfl | h | h
    · rcases ltP_total x y with rfl | k | k
      · exact .inl rfl
      · exact .inr (.inl (.inl ⟨rfl, k⟩))
      · exact .inr (.inr (.inl ⟨rfl, k⟩))
    · exact .inr (.inl (.inr h))
    · exact .inr (.inr (.inr h))
theorem ltP_asymm {a b : List (List UInt8)} (h : ltP a b = true) : ltP b a = false := by
  cases k : ltP b a with
  | false => rfl
  | true => have := ltP_trans a b a h k; rw [ltP_irrefl] at this; cases this
theorem ltP_prefix : ∀ (a t : List (List UInt8)), t ≠ [] → ltP a (a ++ t) = true
  | [], [], h => absurd rfl h
  | [], _ :: _, _ => by simp [ltP]
  | x :: a, t, h => by rw [List.cons_append, ltP_cons]; exact .inl ⟨rfl, ltP_prefix a t h⟩
theorem ltP_between : ∀ (a c t : List (List UInt8)), ltP a c = true → (∃ u, u ≠ [] ∧ c = a ++ u) ∨ ltP (a ++ t) c = true
  | [], [], t => fun h => by simp [ltP] at h
  | [], y :: c, t => fun _ => .inl ⟨y :: c, by simp, rfl⟩
  | x :: a, [], t => fun h => by simp [ltP] at h
  | x :: a, y :: c, t => fun h => by
    rw [ltP_cons] at h
    rw [List.cons_append, ltP_cons]
    rcases h with ⟨rfl, h⟩ | h
    · rcases ltP_between a c t h with ⟨u, hu, rfl⟩ | k
      · exact .inl ⟨u, hu, rfl⟩
      · exact .inr (.inl ⟨rfl, k⟩)
    · exact .inr (.inr h)

def lessP (a b : List UInt8) : Bool := ltP (parts a) (parts b)
def withinP (s d : List UInt8) : Bool := if d = [] then decide (s ≠ []) else (d ++ [47]).isPrefixOf s
theorem withinP_iff {s d : List UInt8} (h : d ≠ []) : withinP s d = true ↔ ∃ t, s = d ++ 47 :: t := by
  unfold withinP
  rw [if_neg h, List.isPrefixOf_iff_prefix]
  constructor
  · rintro ⟨t, rfl⟩; exact ⟨t, by simp⟩
  · rintro ⟨t, rfl⟩; exact ⟨t, by simp⟩
theorem less_within {a b : List UInt8} (h : a ≠ []) (k : withinP b a = true) : lessP a b = true := by
  obtain ⟨t, rfl⟩ := (withinP_iff h).1 k
  unfold lessP
  rw [parts_app]
  obtain ⟨p, ps, e⟩ := parts_form t
  exact ltP_prefix _ _ (by rw [e]; simp)
theorem less_between {a b c : List UInt8} (h : a ≠ []) (k : withinP b a = true) (l : lessP a c = true) : withinP c a = true ∨ lessP b c = true := by
  obtain ⟨t, rfl⟩ := (withinP_iff h).1 k
  unfold lessP at l ⊢
  rw [parts_app]
  rcases ltP_between _ _ (parts t) l with ⟨u, hu, e⟩ | k2
  · refine .inl ((withinP_iff h).2 ⟨glue u, ?_⟩)
    obtain ⟨p, ps, e1⟩ := parts_form a
    rw [← glue_parts c, e, glue_app _ _ (by rw [e1]; simp) hu, glue_parts]
  · exact .inr k2
end Go.Proofs.YtiddhdhojhggeaaDoor.My
