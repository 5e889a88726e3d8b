/- MyMoreP, MyBounds, MyNumB, MyMore, MyStoredP, MyStored: laid into one text by merge.py. -/
import Derived.Test.YtdphifihneccoaaDoorMyAllI
import Derived.Test.YtdphifihneccoaaDoorMyAllB

/- Inflating, plainly: what stands behind the last block, and a limit that is great enough, change nothing. -/
namespace Go.Proofs.YtdphifihneccoaaDoor.Inf
open Go.Proofs.YtdphifihneccoaaDoor.Huf Go.Proofs.YtdphifihneccoaaDoor.My
set_option linter.unusedVariables false
/-- Nothing is taken back. -/
structure Gw (s s' : St) : Prop where
  a : s.a ≤ s'.a
  o : s.out.length ≤ s'.out.length
theorem Gw.refl (s : St) : Gw s s := ⟨Nat.le_refl _, Nat.le_refl _⟩
theorem Gw.trans {s s1 s2 : St} (h : Gw s s1) (k : Gw s1 s2) : Gw s s2 := ⟨Nat.le_trans h.a k.a, Nat.le_trans h.o k.o⟩
section
variable {V V' lb lb' u : Nat} {lim lim' : Int}
/-- The same bits up to there. -/
structure Al (V V' lb' u : Nat) : Prop where
  eq : V % 2 ^ (8 * u) = V' % 2 ^ (8 * u)
  le : u ≤ lb'
theorem bits_eq (h : V % 2 ^ (8 * u) = V' % 2 ^ (8 * u)) (a n : Nat) (hn : a + n ≤ 8 * u) : V / 2 ^ a % 2 ^ n = V' / 2 ^ a % 2 ^ n := by
  have aux : ∀ U, U / 2 ^ a % 2 ^ n = U % 2 ^ (8 * u) / 2 ^ a % 2 ^ n := fun U => by
    have e : 2 ^ (8 * u) = 2 ^ a * 2 ^ (8 * u - a) := by rw [← Nat.pow_add]; congr 1; omega
    rw [e, Nat.mod_mul_right_div_self]
    exact (Nat.mod_mod_of_dvd _ (Nat.pow_dvd_pow (m := n) 2 (by omega))).symm
  rw [aux V, h, ← aux V']
theorem number_tr (hA : Al V V' lb' u) {n x : Nat} {s s' : St} (h : number V lb n s = .ok x s') (ha : s'.a ≤ 8 * u) : number V' lb' n s = .ok x s' ∧ Gw s s' := by
  obtain ⟨a1, a2, a3, a4, a5⟩ := number_ok h
  unfold number at h ⊢
  rw [if_pos a5] at h
  rw [if_pos (by have := hA.le; omega), ← bits_eq hA.eq s.a n (by omega)]
  exact ⟨h, by omega, by rw [a2]; exact Nat.le_refl _⟩
theorem bv_tr (h : V % 2 ^ (8 * u) = V' % 2 ^ (8 * u)) (i : Nat) (hi : i < 8 * u) : bv V i = bv V' i := by
  have := bits_eq h i 1 (by omega)
  exact this
theorem cd_tr (h : V % 2 ^ (8 * u) = V' % 2 ^ (8 * u)) (a : Nat) : ∀ n, a + n ≤ 8 * u → cd V a n = cd V' a n
  | 0, _ => rfl
  | n + 1, hn => by rw [cd, cd, cd_tr h a n (by omega), bv_tr h (a + n) (by omega)]
theorem far_tr (hA : Al V V' lb' u) {L : List Int} {x : Int} {s s' : St} (h : far V lb L s = .ok x s') (ha : s'.a ≤ 8 * u) : far V' lb' L s = .ok x s' ∧ Gw s s' ∧ s.a < s'.a := by
  obtain ⟨b1, b2, b3, b4, b5, b6⟩ := far_ok h
  obtain ⟨y, n, e, ht⟩ := take_ex V L s.a (8 * lb - s.a)
  unfold far at h ⊢
  rw [tk_of V ht] at h
  cases ht with
  | sign t m k =>
    injection h with h1 h2
    subst h1 h2
    obtain ⟨k1, k2, k3⟩ := k
    dsimp only at ha
    have k' : Fits L V' s.a (8 * lb' - s.a) t n := ⟨k1, by have := hA.le; omega, by rw [k3, cd_tr hA.eq s.a n ha]⟩
    rw [tk_of V' (.sign t n k')]
    exact ⟨rfl, ⟨by show s.a ≤ s.a + n; omega, Nat.le_refl _⟩, b5⟩
  | ends k1 k2 => cases h
  | form k1 k2 => cases h
theorem sign_tr (hA : Al V V' lb' u) {L : List Int} {x : Int} {s s' : St} (h : sign V lb L s = .ok x s') (ha : s'.a ≤ 8 * u) : sign V' lb' L s = .ok x s' ∧ Gw s s' ∧ s.a < s'.a := by
  obtain ⟨k1, k2, k3⟩ := far_tr hA h ha
  exact ⟨k1, ⟨k2.a, k2.o⟩, k3⟩
theorem room_tr {n : Nat} {s s' : St} {v : Unit} (h : room lim n s = .ok v s') (hl : (s.out.length : Int) + n ≤ lim') : room lim' n s = .ok v s' := by
  obtain ⟨rfl, _⟩ := room_ok h
  unfold room
  rw [if_neg (by omega)]
theorem stored_tr (hA : Al V V' lb' u) {s s' : St} {v : Unit} (h : Inf.stored V lb lim s = .ok v s') (ha : s'.a ≤ 8 * u) (hl : (s'.out.length : Int) ≤ lim') : Inf.stored V' lb' lim' s = .ok v s' ∧ Gw s s' := by
  unfold Inf.stored at h
  obtain ⟨n, s1, h1, h⟩ := bind_inv h
  obtain ⟨t, s2, h2, h⟩ := bind_inv h
  split at h
  · cases h
  · rename_i hne
    obtain ⟨w, s3, h3, h9⟩ := bind_inv h
    obtain ⟨rfl, hr⟩ := room_ok h3
    split at h9
    · rename_i hb
      injection h9 with _ h9
      subst h9
      obtain ⟨a1, a2, a3, a4, a5⟩ := number_ok h1
      obtain ⟨b1, b2, b3, b4, b5⟩ := number_ok h2
      dsimp only at a1 a2 a3 a5 ha hl
      rw [List.length_append, leB_len] at hl
      obtain ⟨t1, _⟩ := number_tr hA h1 (by omega)
      obtain ⟨t2, _⟩ := number_tr hA h2 (by omega)
      have e : leB (V / 2 ^ s3.a) n = leB (V' / 2 ^ s3.a) n := leB_congr (bits_eq hA.eq s3.a (8 * n) (by omega))
      refine ⟨?_, by show s.a ≤ s3.a + 8 * n; omega, by show s.out.length ≤ (s3.out ++ leB (V / 2 ^ s3.a) n).length; rw [List.length_append, b2, a2]; omega⟩
      unfold Inf.stored
      rw [t1, bind_ok, t2, bind_ok, if_neg hne, room_tr h3 (by omega), bind_ok, if_pos (by have := hA.le; omega), e]
    · cases h9
theorem hlp_tr (hA : Al V V' lb' u) : ∀ (ps : List Nat) (L : List Int) (s : St) (L' : List Int) (s' : St), hlp V lb ps L s = .ok L' s' → s'.a ≤ 8 * u → hlp V' lb' ps L s = .ok L' s' ∧ Gw s s'
  | [], L, s, L', s', h, ha => by
    rw [hlp] at h ⊢
    injection h with h1 h2
    subst h1 h2
    exact ⟨rfl, Gw.refl _⟩
  | p :: ps, L, s, L', s', h, ha => by
    rw [hlp] at h ⊢
    obtain ⟨x, s1, h1, h2⟩ := bind_inv h
    obtain ⟨t2, g2⟩ := hlp_tr hA ps _ _ _ _ h2 ha
    obtain ⟨t1, g1⟩ := number_tr hA h1 (Nat.le_trans g2.a ha)
    rw [t1, bind_ok]
    exact ⟨t2, Gw.trans ⟨g1.a, g1.o⟩ g2⟩
theorem helper_tr (hA : Al V V' lb' u) {many : Nat} {s s' : St} {L : List Int} (h : helper V lb many s = .ok L s') (ha : s'.a ≤ 8 * u) : helper V' lb' many s = .ok L s' ∧ Gw s s' := by
  unfold helper at h ⊢
  obtain ⟨x, s1, h1, h2⟩ := bind_inv h
  obtain ⟨y, s2, h3, h4⟩ := bind_inv h2
  injection h4 with e1 e2
  subst e1 e2
  obtain ⟨rfl, hn⟩ := okCode_inv h3
  obtain ⟨t1, g1⟩ := hlp_tr hA _ _ _ _ _ h1 ha
  rw [t1, bind_ok, h3, bind_ok]
  exact ⟨rfl, g1⟩
theorem rep_tr (hA : Al V V' lb' u) {x : Int} {l : List Int} {s s' : St} {yt : Int × Nat} (h : Inf.rep V lb x l s = .ok yt s') (ha : s'.a ≤ 8 * u) : Inf.rep V' lb' x l s = .ok yt s' ∧ Gw s s' := by
  obtain ⟨a1, a2, a3, _, _⟩ := rep_ok h
  refine ⟨?_, a3, by rw [a1]; exact Nat.le_refl _⟩
  unfold Inf.rep at h ⊢
  split at h
  · rename_i h0; rw [if_pos h0]; exact h
  · rename_i h0
    rw [if_neg h0]
    split at h
    · rename_i h1
      rw [if_pos h1]
      split at h
      · cases h
      · rename_i h2
        rw [if_neg h2]
        obtain ⟨n, s1, h3, h4⟩ := bind_inv h
        injection h4 with e1 e2
        subst e2
        rw [(number_tr hA h3 ha).1, bind_ok, e1]
    · rename_i h1
      rw [if_neg h1]
      split at h
      · rename_i h2
        rw [if_pos h2]
        obtain ⟨n, s1, h3, h4⟩ := bind_inv h
        injection h4 with e1 e2
        subst e2
        rw [(number_tr hA h3 ha).1, bind_ok, e1]
      · rename_i h2
        rw [if_neg h2]
        obtain ⟨n, s1, h3, h4⟩ := bind_inv h
        injection h4 with e1 e2
        subst e2
        rw [(number_tr hA h3 ha).1, bind_ok, e1]
theorem lens_tr (hA : Al V V' lb' u) {C : List Int} {many : Nat} : ∀ (k : Nat) (l : List Int) (s : St) (l' : List Int) (s' : St), lens V lb C many k l s = .ok l' s' → s'.a ≤ 8 * u → lens V' lb' C many k l s = .ok l' s' ∧ Gw s s'
  | 0, l, s, l', s', h, ha => by
    rw [lens] at h ⊢
    split at h
    · cases h
    · rename_i h0
      rw [if_neg h0]
      refine ⟨h, ?_⟩
      injection h with _ h; subst h; exact Gw.refl _
  | k + 1, l, s, l', s', h, ha => by
    rw [lens] at h ⊢
    split at h
    · rename_i h0
      rw [if_pos h0]
      obtain ⟨x, s1, h1, h2⟩ := bind_inv h
      obtain ⟨vt, s2, h3, h4⟩ := bind_inv h2
      split at h4
      · cases h4
      · rename_i h5
        obtain ⟨t4, g4⟩ := lens_tr hA k _ _ _ _ h4 ha
        obtain ⟨t3, g3⟩ := rep_tr hA h3 (Nat.le_trans g4.a ha)
        obtain ⟨t1, g1, _⟩ := sign_tr hA h1 (Nat.le_trans (g3.trans g4).a ha)
        rw [t1, bind_ok, t3, bind_ok, if_neg h5]
        exact ⟨t4, (g1.trans g3).trans g4⟩
    · rename_i h0
      rw [if_neg h0]
      refine ⟨h, ?_⟩
      injection h with _ h; subst h; exact Gw.refl _
theorem told_tr (hA : Al V V' lb' u) {s s' : St} {ab : List Int × List Int} (h : told V lb s = .ok ab s') (ha : s'.a ≤ 8 * u) : told V' lb' s = .ok ab s' ∧ Gw s s' := by
  unfold told at h ⊢
  obtain ⟨a, s1, h1, h⟩ := bind_inv h
  obtain ⟨b, s2, h2, h⟩ := bind_inv h
  obtain ⟨c, s3, h3, h⟩ := bind_inv h
  split at h
  · cases h
  · rename_i hq
    obtain ⟨l, s4, h4, h⟩ := bind_inv h
    obtain ⟨v, s5, h5, h⟩ := bind_inv h
    obtain ⟨v2, s6, h6, h9⟩ := bind_inv h
    split at h9
    · cases h9
    · rename_i hz
      injection h9 with e h9
      subst e h9
      obtain ⟨rfl, n1⟩ := okCode_inv h5
      obtain ⟨rfl, n2⟩ := okCode_inv h6
      unfold Inf.lengths at h4 ⊢
      obtain ⟨C, s7, h7, h8⟩ := bind_inv h4
      obtain ⟨t8, g8⟩ := lens_tr hA _ _ _ _ _ h8 ha
      obtain ⟨t7, g7⟩ := helper_tr hA h7 (Nat.le_trans g8.a ha)
      obtain ⟨t3, g3⟩ := number_tr hA h3 (Nat.le_trans (g7.trans g8).a ha)
      obtain ⟨t2, g2⟩ := number_tr hA h2 (Nat.le_trans (g3.trans (g7.trans g8)).a ha)
      obtain ⟨t1, g1⟩ := number_tr hA h1 (Nat.le_trans (g2.trans (g3.trans (g7.trans g8))).a ha)
      rw [t1, bind_ok, t2, bind_ok, t3, bind_ok, if_neg hq, t7, bind_ok, t8, bind_ok, h5, bind_ok, h6, bind_ok, if_neg hz]
      exact ⟨rfl, g1.trans (g2.trans (g3.trans (g7.trans g8)))⟩
theorem length_tr (hA : Al V V' lb' u) {x : Int} {n : Nat} {s s' : St} (h : Inf.length V lb x s = .ok n s') (ha : s'.a ≤ 8 * u) : Inf.length V' lb' x s = .ok n s' ∧ Gw s s' := by
  obtain ⟨a1, a2, a3, a4⟩ := length_ok h
  refine ⟨?_, a4, by rw [a2]; exact Nat.le_refl _⟩
  unfold Inf.length at h ⊢
  split at h
  · cases h
  · rename_i h0
    rw [if_neg h0]
    split at h
    · rename_i h1; rw [if_pos h1]; exact h
    · rename_i h1
      rw [if_neg h1]
      split at h
      · rename_i h2
        rw [if_pos h2]
        obtain ⟨n, s1, h3, h4⟩ := bind_inv h
        injection h4 with e1 e2
        subst e2
        rw [(number_tr hA h3 ha).1, bind_ok, e1]
      · rename_i h2; rw [if_neg h2]; exact h
theorem distance_tr (hA : Al V V' lb' u) {x : Int} {n : Nat} {s s' : St} (h : distance V lb x s = .ok n s') (ha : s'.a ≤ 8 * u) : distance V' lb' x s = .ok n s' ∧ Gw s s' := by
  obtain ⟨a1, a2, a3, a4, a5⟩ := distance_ok h
  refine ⟨?_, a5, by rw [a3]; exact Nat.le_refl _⟩
  unfold distance at h ⊢
  split at h
  · cases h
  · rename_i h0
    rw [if_neg h0]
    split at h
    · rename_i h1; rw [if_pos h1]; exact h
    · rename_i h1
      rw [if_neg h1]
      obtain ⟨n, s1, h3, h4⟩ := bind_inv h
      injection h4 with e1 e2
      subst e2
      rw [(number_tr hA h3 ha).1, bind_ok, e1]
theorem again_tr {n d : Nat} {s s' : St} {v : Unit} (h : again lim n d s = .ok v s') (hl : (s'.out.length : Int) ≤ lim') : again lim' n d s = .ok v s' ∧ Gw s s' := by
  obtain ⟨a1, a2, a3, a4, a5⟩ := again_ok h
  have hc := cpy_length d n s.out
  rw [a3, hc] at hl
  refine ⟨?_, by omega, by rw [a3, hc]; omega⟩
  unfold again at h ⊢
  split at h
  · cases h
  · rename_i h0
    rw [if_neg h0]
    obtain ⟨w, s1, h1, h2⟩ := bind_inv h
    obtain ⟨rfl, _⟩ := room_ok h1
    rw [room_tr h1 (by omega), bind_ok]
    exact h2
theorem coded_tr (hA : Al V V' lb' u) {A B : List Int} : ∀ (k : Nat) (s s' : St) (v : Unit), coded V lb lim A B k s = .ok v s' → s'.a ≤ 8 * u → (s'.out.length : Int) ≤ lim' → ∀ k', s'.a - s.a ≤ k' → coded V' lb' lim' A B k' s = .ok v s' ∧ Gw s s' ∧ s.a < s'.a
  | 0, s, s', v, h, ha, hl, k', hk => by cases h
  | k + 1, s, s', v, h, ha, hl, k', hk => by
    rw [coded] at h
    obtain ⟨x, s1, h1, h⟩ := bind_inv h
    split at h
    · rename_i h0
      injection h with _ h
      subst h
      obtain ⟨t1, g1, lt⟩ := sign_tr hA h1 ha
      obtain ⟨k2, rfl⟩ : ∃ k2, k' = k2 + 1 := ⟨k' - 1, by omega⟩
      rw [coded, t1, bind_ok, if_pos h0]
      exact ⟨rfl, g1, lt⟩
    · rename_i h0
      split at h
      · rename_i h2
        obtain ⟨w, s2, h3, h9⟩ := bind_inv h
        obtain ⟨rfl, hr⟩ := room_ok h3
        have hgd := (coded_gd (lim := lim) _ _ _ _ h9).a
        have hlt : s.a < s2.a := (sign_gd (lim := lim) h1).2
        obtain ⟨k2, rfl⟩ : ∃ k2, k' = k2 + 1 := ⟨k' - 1, by dsimp only at hgd; omega⟩
        obtain ⟨t9, g9, lt9⟩ := coded_tr hA k _ _ _ h9 ha hl k2 (by dsimp only at hgd ⊢; omega)
        obtain ⟨t1, g1, lt⟩ := sign_tr hA h1 (Nat.le_trans g9.a ha)
        have ho := g9.o
        rw [List.length_append, List.length_singleton] at ho
        rw [coded, t1, bind_ok, if_neg h0, if_pos h2, room_tr h3 (by omega), bind_ok]
        exact ⟨t9, ⟨Nat.le_trans g1.a g9.a, by have := g1.o; omega⟩, by have := g9.a; dsimp only at this; omega⟩
      · rename_i h2
        obtain ⟨n, s2, h3, h⟩ := bind_inv h
        obtain ⟨y, s3, h4, h⟩ := bind_inv h
        obtain ⟨d, s4, h5, h⟩ := bind_inv h
        obtain ⟨w, s5, h6, h9⟩ := bind_inv h
        have hgd := (coded_gd (lim := lim) _ _ _ _ h9).a
        have hlt : s.a < s1.a := (sign_gd (lim := lim) h1).2
        have q2 := (length_ok h3).2.2.2
        have q3 := (far_ok h4).2.2.2.2.1
        have q4 := (distance_ok h5).2.2.2.2
        have q5 := (again_ok h6).1
        obtain ⟨k2, rfl⟩ : ∃ k2, k' = k2 + 1 := ⟨k' - 1, by omega⟩
        obtain ⟨t9, g9, lt9⟩ := coded_tr hA k _ _ _ h9 ha hl k2 (by omega)
        obtain ⟨t6, g6⟩ := again_tr (lim' := lim') h6 (by have := g9.o; omega)
        obtain ⟨t5, g5⟩ := distance_tr hA h5 (by have := g9.a; omega)
        obtain ⟨t4, g4, _⟩ := far_tr hA h4 (by have := g9.a; omega)
        obtain ⟨t3, g3⟩ := length_tr hA h3 (by have := g9.a; omega)
        obtain ⟨t1, g1, lt⟩ := sign_tr hA h1 (by have := g9.a; omega)
        rw [coded, t1, bind_ok, if_neg h0, if_neg h2, t3, bind_ok, t4, bind_ok, t5, bind_ok, t6, bind_ok]
        exact ⟨t9, g1.trans (g3.trans (g4.trans (g5.trans (g6.trans g9)))), by have := g9.a; omega⟩
theorem codes_tr (hA : Al V V' lb' u) {A B : List Int} {s s' : St} {v : Unit} (h : codes V lb lim A B s = .ok v s') (ha : s'.a ≤ 8 * u) (hl : (s'.out.length : Int) ≤ lim') : codes V' lb' lim' A B s = .ok v s' ∧ Gw s s' := by
  unfold codes at h ⊢
  have := coded_tr (lim' := lim') hA _ _ _ _ h ha hl (8 * lb' + 1 - s.a) (by have := hA.le; omega)
  exact ⟨this.1, this.2.1⟩
theorem block_tr (hA : Al V V' lb' u) {s s' : St} {b : Bool} (h : block V lb lim s = .ok b s') (ha : s'.a ≤ 8 * u) (hl : (s'.out.length : Int) ≤ lim') : block V' lb' lim' s = .ok b s' ∧ Gw s s' := by
  unfold block at h ⊢
  obtain ⟨last, s1, h1, h⟩ := bind_inv h
  obtain ⟨kind, s2, h2, h⟩ := bind_inv h
  obtain ⟨v, s3, h3, h4⟩ := bind_inv h
  injection h4 with e1 e2
  subst e2
  have key : ∃ v', (if kind = 0 then Inf.stored V' lb' lim' s2 else if kind = 1 then codes V' lb' lim' letters fixB s2 else if kind = 2 then (told V' lb' s2).bind fun ab s => codes V' lb' lim' ab.1 ab.2 s else .er 2) = .ok v' s3 ∧ Gw s2 s3 := by
    split at h3
    · rename_i h0
      rw [if_pos h0]
      exact ⟨_, stored_tr hA h3 ha hl⟩
    · rename_i h0
      rw [if_neg h0]
      split at h3
      · rename_i h5
        rw [if_pos h5]
        exact ⟨_, codes_tr hA h3 ha hl⟩
      · rename_i h5
        rw [if_neg h5]
        split at h3
        · rename_i h6
          rw [if_pos h6]
          obtain ⟨ab, s4, h7, h8⟩ := bind_inv h3
          obtain ⟨t8, g8⟩ := codes_tr (lim' := lim') hA h8 ha hl
          obtain ⟨t7, g7⟩ := told_tr hA h7 (Nat.le_trans g8.a ha)
          rw [t7, bind_ok]
          exact ⟨_, t8, g7.trans g8⟩
        · cases h3
  obtain ⟨v', k1, k2⟩ := key
  obtain ⟨t2, g2⟩ := number_tr hA h2 (Nat.le_trans k2.a ha)
  obtain ⟨t1, g1⟩ := number_tr hA h1 (Nat.le_trans (g2.trans k2).a ha)
  rw [t1, bind_ok, t2, bind_ok, k1, bind_ok, e1]
  exact ⟨rfl, ⟨Nat.le_trans g1.a (Nat.le_trans g2.a k2.a), Nat.le_trans g1.o (Nat.le_trans g2.o k2.o)⟩⟩
theorem blocks_tr (hA : Al V V' lb' u) : ∀ (k : Nat) (s s' : St) (v : Unit), blocks V lb lim k s = .ok v s' → s'.a ≤ 8 * u → (s'.out.length : Int) ≤ lim' → ∀ k', s'.a - s.a ≤ k' → blocks V' lb' lim' k' s = .ok v s' ∧ Gw s s'
  | 0, s, s', v, h, ha, hl, k', hk => by cases h
  | k + 1, s, s', v, h, ha, hl, k', hk => by
    rw [blocks] at h
    obtain ⟨last, s1, h1, h2⟩ := bind_inv h
    have hlt := (block_gd h1).2
    split at h2
    · rename_i h0
      injection h2 with _ h2
      subst h2
      obtain ⟨t1, g1⟩ := block_tr (lim' := lim') hA h1 ha hl
      obtain ⟨k2, rfl⟩ : ∃ k2, k' = k2 + 1 := ⟨k' - 1, by omega⟩
      rw [blocks, t1, bind_ok, if_pos h0]
      exact ⟨rfl, g1⟩
    · rename_i h0
      have hlt2 := (blocks_gd _ _ _ _ h2).2
      obtain ⟨k2, rfl⟩ : ∃ k2, k' = k2 + 1 := ⟨k' - 1, by omega⟩
      obtain ⟨t2, g2⟩ := blocks_tr hA k _ _ _ h2 ha hl k2 (by omega)
      obtain ⟨t1, g1⟩ := block_tr (lim' := lim') hA h1 (Nat.le_trans g2.a ha) (by have := g2.o; omega)
      rw [blocks, t1, bind_ok, if_neg h0]
      exact ⟨t2, g1.trans g2⟩
/-- Bytes behind the last block, and another limit. -/
theorem infl_tr {s : St} {v : Unit} (h : infl V lb lim = .ok v s) (hA : Al V V' lb' ((s.a + 7) / 8)) (hl : (s.out.length : Int) ≤ lim') (h0 : 0 ≤ lim') (h1 : lim' ≤ 1048576) : infl V' lb' lim' = .ok v s := by
  unfold infl at h ⊢
  split at h
  · cases h
  · rw [if_neg (by omega)]
    unfold inflate at h ⊢
    exact (blocks_tr hA _ _ _ _ h (by omega) hl _ (by have := hA.le; show s.a - 0 ≤ _; omega)).1
/-- A lesser limit than there are bytes. -/
theorem infl_less {s : St} {v : Unit} (h : infl V lb lim = .ok v s) (hp : 0 < s.out.length) : ∃ c, infl V lb ((s.out.length : Int) - 1) = .er c := by
  cases hr : infl V lb ((s.out.length : Int) - 1) with
  | er c => exact ⟨c, rfl⟩
  | ok w s2 =>
    exfalso
    have h0 : 0 ≤ lim ∧ lim ≤ 1048576 ∧ (s.out.length : Int) ≤ lim := by
      unfold infl at h
      split at h
      · cases h
      · have := (blocks_gd _ _ _ _ h).1.out (by simp; omega)
        omega
    have h2 : (s2.out.length : Int) ≤ (s.out.length : Int) - 1 ∧ (s2.a + 7) / 8 ≤ lb := by
      unfold infl at hr
      split at hr
      · cases hr
      · obtain ⟨g, _⟩ := blocks_gd _ _ _ _ hr
        have := g.out (by simp; omega)
        have := g.top (Nat.zero_le _)
        omega
    have h3 := infl_tr (V' := V) (lb' := lb) (lim' := lim) hr ⟨rfl, h2.2⟩ (by omega) h0.1 h0.2.1
    rw [h] at h3
    injection h3 with _ h3
    subst h3
    omega
end
end Go.Proofs.YtdphifihneccoaaDoor.Inf

/- InflateBounds: no more bytes are put out than the limit tells, and how many steps there are at most. -/
namespace Go.Proofs.YtdphifihneccoaaDoor.My
open Go.RowKit Go.Proofs.YtdphifihneccoaaDoor.Inf Go.Proofs.YtdphifihneccoaaDoor.Huf Go.Proofs.YtdphifihneccoaaDoorW.PrintWords Go.Proofs.YtdphifihneccoaaDoorW.PrintLast Go.Proofs.YtdphifihneccoaaDoorW.PrintMore
set_option maxRecDepth 100000
set_option linter.unusedVariables false
set_option linter.unusedSimpArgs false
theorem infl_facts {V lb : Nat} {lim : Int} {s : St} {u : Unit} (h : infl V lb lim = .ok u s) : (s.out.length : Int) ≤ lim ∧ (s.a + 7) / 8 ≤ lb ∧ 0 < (s.a + 7) / 8 ∧ s.st ≤ 8 * ((s.a + 7) / 8) ∧ 0 ≤ lim ∧ lim ≤ 1048576 := by
  unfold infl at h
  split at h
  · cases h
  · obtain ⟨g, hlt⟩ := blocks_gd _ _ _ _ h
    have h1 := g.st (Nat.le_refl _)
    have h2 := g.out (by simp; omega)
    have h3 := g.top (Nat.zero_le _)
    dsimp only at hlt
    omega
set_option maxHeartbeats 1000000 in
theorem bounds_walk (A : Option Addr) (n c : Nat) (zs : List Int) (lim : Int) (W : World) (hz : IsRow .u8 W A n c zs) (_ : n * 1 ≤ 140737488351232) (wl : (Lit.int .i64 lim).wf = true) (hL : laidMetH Tryd.prog Rows.inflateBoundsRow.laid W) :
    Calls Tryd.prog 4 #[.slice A n c, .int .i64 lim] W fun e w' => e = .returned (.bool true) ∧ Below W.heap.size W w' := by
  have ho := ord_of_laid hL
  have HAl := Aside0.mk (alive_calls W ho)
  obtain ⟨l, hl, hlc, hC, hwf⟩ := row_C hz
  have hnil : A = none → n = 0 ∧ c = 0 := fun e => by
    rcases hz with ⟨_, h2, h3, _⟩ | ⟨x, h2, _⟩
    · exact ⟨h2, h3⟩
    · rw [e] at h2; cases h2
  by_cases h2000 : 2000 < n
  · have h1 : (2000 : Int) < (n : Int) := by omega
    clear hz hL ho hC hwf hnil hl
    go_enter Tryd.func4, Tryd.ntmps4
    go_wp2_with (go_at_call 7; refine HAl.out.mono ?_; rintro e w1 ⟨rfl, hb⟩; replace hb := Aside0.mk hb)
    go_ret
    exact ⟨rfl, hb.out⟩
  have h1 : ¬ (2000 : Int) < (n : Int) := by omega
  have HI := Aside0.mk (fun (w1 : World) (hb : Below W.heap.size W w1) => inflate_bytes w1 A n c l lim (by have := Kd.C_below hC hb; rwa [hl] at this) hwf hl (by omega) hnil (ho.below hb))
  have hn : (n : Int) ≤ 2000 := by omega
  clear hz hL ho hC hwf hnil hl h2000 hlc
  go_enter Tryd.func4, Tryd.ntmps4
  go_wp2_with (go_at_call 7; refine HAl.out.mono ?_; rintro e w1 ⟨rfl, hb⟩; have HB1 := Aside0.mk hb; clear hb)
  refine (HI.out w1 HB1.out).mono ?_
  rintro e w2 ⟨hb, ⟨ce, hr, rfl⟩ | ⟨s, A1, c1, hr, rfl, hC, _, hc⟩⟩
  · have HB2 := Aside0.mk (HB1.out.trans (Below.mono hb HB1.out.size))
    clear hb hr
    unfold errV
    go_wp2_with fail
    go_ret
    exact ⟨rfl, below_alloc HB2.out _⟩
  · have HB2 := Aside0.mk (HB1.out.trans (Below.mono hb HB1.out.size))
    obtain ⟨f1, f2, f3, f4, f5, f6⟩ := infl_facts hr
    generalize (s.a + 7) / 8 = U at *
    generalize s.out.length = L at *
    generalize s.st = T at *
    have g1 : (U : Int) ≤ (n : Int) := by omega
    have g2 : (0 : Int) < (U : Int) := by omega
    have g3 : (T : Int) ≤ 8 * (U : Int) + 1 := by omega
    clear hb hr hC hc
    go_wp2_with fail
    go_ret
    exact ⟨rfl, below_alloc HB2.out _⟩
end Go.Proofs.YtdphifihneccoaaDoor.My

/- The walk of crossdocknum.Bytes, beside that of Num. -/
namespace Go.Proofs.YtdphifihneccoaaDoor.My
open Go.RowKit Go.Proofs.YtdphifihneccoaaDoorW.PrintWords Go.Proofs.YtdphifihneccoaaDoorW.PrintLast Go.Proofs.YtdphifihneccoaaDoorW.PrintMore
set_option maxRecDepth 100000

def Byts (l : List Int) : Prop := ∀ x ∈ l, 0 ≤ x ∧ x < 256
/-- The text of byte values. -/
def byts (l : List Int) : List UInt8 := l.map fun n => UInt8.ofNat n.toNat
theorem str_toList (l : List Int) : (strOfNums l).toList = byts l := by rw [ByteArray.toList_eq]; rfl
theorem byts_inj {a b : List Int} (ha : Byts a) (hb : Byts b) (h1 : byts a = byts b) : a = b := by
  have hi : ∀ (x y : Int), 0 ≤ x ∧ x < 256 → 0 ≤ y ∧ y < 256 → UInt8.ofNat x.toNat = UInt8.ofNat y.toNat → x = y := by
    intro x y hx hy he
    have := congrArg UInt8.toNat he
    simp only [UInt8.toNat_ofNat'] at this
    omega
  unfold byts at h1
  induction a generalizing b with
  | nil => cases b with
    | nil => rfl
    | cons y b => simp at h1
  | cons x a ih =>
    cases b with
    | nil => simp at h1
    | cons y b =>
      simp only [List.map_cons, List.cons.injEq] at h1
      rw [hi x y (ha x (by simp)) (hb y (by simp)) h1.1, ih (fun z hz => ha z (by simp [hz])) (fun z hz => hb z (by simp [hz])) h1.2]
theorem bytes_calls (A B : Option Addr) (n m c d : Nat) (xs ys : List Int) (w : World) (hx : (Kd.int .u8).C w A n xs) (hy : (Kd.int .u8).C w B m ys) :
    Calls Tryd.prog 11 #[.slice A n c, .slice B m d] w fun r w' => r = .returned (.bool (byts xs == byts ys)) ∧ w = w' := by
  have k1 := Kd.C_string (P := Tryd.prog) (src := 22) (dst := 9) (c := c) Tryd.underlying22 Tryd.underlying5 Tryd.underlying9 hx
  have k2 := Kd.C_string (P := Tryd.prog) (src := 22) (dst := 9) (c := d) Tryd.underlying22 Tryd.underlying5 Tryd.underlying9 hy
  rw [← str_toList, ← str_toList]
  generalize strOfNums xs = s at k1 ⊢
  generalize strOfNums ys = t at k2 ⊢
  clear hx hy
  go_enter Tryd.func11, Tryd.ntmps11
  go_wp2
  go_ret
  exact ⟨rfl, rfl⟩
/-- The same bytes: yes. -/
theorem bytes_yes (A B : Option Addr) (n m c d : Nat) (xs : List Int) (w : World) (hx : (Kd.int .u8).C w A n xs) (hy : (Kd.int .u8).C w B m xs) :
    Calls Tryd.prog 11 #[.slice A n c, .slice B m d] w fun r w' => r = .returned (.bool true) ∧ w = w' :=
  (bytes_calls A B n m c d xs xs w hx hy).mono fun _ _ ⟨h1, h2⟩ => ⟨by rw [h1]; simp, h2⟩
end Go.Proofs.YtdphifihneccoaaDoor.My

/- InflateMore: bytes behind the last block change nothing, and a greater limit doesn't, either; a lesser one than bytes there are does. -/
namespace Go.Proofs.YtdphifihneccoaaDoor.Inf
open Go.Proofs.YtdphifihneccoaaDoor.Huf Go.Proofs.YtdphifihneccoaaDoor.My
theorem ofB_app : ∀ (a b : List Int), (∀ z ∈ a, 0 ≤ z ∧ z < 256) → ofB (a ++ b) = ofB a + ofB b * 2 ^ (8 * a.length)
  | [], b, _ => by simp [ofB]
  | z :: t, b, h => by
    rw [List.cons_append, ofB, ofB_app t b (fun y hy => h y (by simp [hy])), ofB, List.length_cons, show 8 * (t.length + 1) = 8 + 8 * t.length by omega, Nat.pow_add, show (2 : Nat) ^ 8 = 256 from rfl, Nat.mul_add, ← Nat.mul_assoc, ← Nat.mul_assoc, Nat.mul_comm 256 (ofB b)]
    omega
theorem ofB_mod (a b : List Int) (h : ∀ z ∈ a, 0 ≤ z ∧ z < 256) : ofB (a ++ b) % 2 ^ (8 * a.length) = ofB a := by
  rw [ofB_app a b h, Nat.add_mul_mod_self_right]
  exact Nat.mod_eq_of_lt (ofB_lt a h)
theorem al_take (l m : List Int) (u lb' : Nat) (h : ∀ z ∈ l, 0 ≤ z ∧ z < 256) (hu : u ≤ l.length) (hl : u ≤ lb') : Al (ofB l) (ofB (l.take u ++ m)) lb' u := by
  have ht : ∀ z ∈ l.take u, 0 ≤ z ∧ z < 256 := fun z hz => h z (List.mem_of_mem_take hz)
  have hlen : (l.take u).length = u := by rw [List.length_take]; omega
  refine ⟨?_, hl⟩
  have h1 := ofB_mod (l.take u) (l.drop u) ht
  have h2 := ofB_mod (l.take u) m ht
  rw [List.take_append_drop] at h1
  rw [hlen] at h1 h2
  rw [h1, h2]
end Go.Proofs.YtdphifihneccoaaDoor.Inf
namespace Go.Proofs.YtdphifihneccoaaDoor.My
open Go.RowKit Go.Proofs.YtdphifihneccoaaDoor.Inf Go.Proofs.YtdphifihneccoaaDoor.Huf Go.Proofs.YtdphifihneccoaaDoorW.PrintWords Go.Proofs.YtdphifihneccoaaDoorW.PrintLast Go.Proofs.YtdphifihneccoaaDoorW.PrintMore
set_option maxRecDepth 100000
set_option linter.unusedVariables false
set_option linter.unusedSimpArgs false
theorem nil_of_row {k : IntKind} {W : World} {A : Option Addr} {n c : Nat} {zs : List Int} (hz : IsRow k W A n c zs) : A = none → n = 0 ∧ c = 0 := fun e => by
  rcases hz with ⟨_, h2, h3, _⟩ | ⟨x, h2, _⟩
  · exact ⟨h2, h3⟩
  · rw [e] at h2; cases h2
theorem slice_to8 (A : Option Addr) (n c a : Nat) (h : a ≤ c) (W : World) : (Instr.slice 22 (.slice A n c) none (some (.int .i64 a)) none).run Tryd.prog W = .ok (.slice A a c) W := by
  obtain ⟨i0, hi, hz⟩ := Option.map_eq_some_iff.1 info_u8
  simp only [Prod.mk.injEq] at hz
  have hel : Tryd.prog.elem 22 = 5 := by simp [Program.elem, Tryd.underlying22]
  have hu : Tryd.prog.underlying 22 = some (.slice (Tryd.prog.elem 22)) := by rw [hel]; exact Tryd.underlying22
  rw [run_slice_h W 22 A n c hu .i64 a (by omega) (by omega), hel]
  simp [sizeOf, typeInfo, hi, hz.2.1, sliced, Result.andThen]
  intro _
  cases A with
  | none => rfl
  | some ad => simp [Addr.add]
set_option maxHeartbeats 4000000 in
theorem more_walk (A : Option Addr) (n c : Nat) (zs : List Int) (A' : Option Addr) (m d : Nat) (ys : List Int) (lim : Int) (W : World) (hz : IsRow .u8 W A n c zs) (_ : n * 1 ≤ 140737488351232) (hy : IsRow .u8 W A' m d ys) (_ : m * 1 ≤ 140737488351232) (wl : (Lit.int .i64 lim).wf = true) (hL : laidMetH Tryd.prog Rows.inflateMoreRow.laid W) :
    Calls Tryd.prog 5 #[.slice A n c, .slice A' m d, .int .i64 lim] W fun e w' => e = .returned (.bool true) ∧ Below W.heap.size W w' := by
  have ho := ord_of_laid hL
  have HAl := Aside0.mk (alive_calls W ho)
  obtain ⟨l, hl, hlc, hC, hwf⟩ := row_C hz
  obtain ⟨l2, hl2, hlc2, hC2, hwf2⟩ := row_C hy
  have hnil := nil_of_row hz
  by_cases h2000 : 2000 < n
  · have h1 : (2000 : Int) < (n : Int) := by omega
    clear hz hL ho hC hwf hnil hl hy hC2 hwf2 hl2 hlc2
    go_enter Tryd.func5, Tryd.ntmps5
    go_wp2_with (go_at_call 7; refine HAl.out.mono ?_; rintro e w1 ⟨rfl, hb⟩; replace hb := Aside0.mk hb)
    go_ret
    exact ⟨rfl, hb.out⟩
  have h1 : (n : Int) ≤ 2000 := by omega
  by_cases h200 : 200 < m
  · have h2 : (200 : Int) < (m : Int) := by omega
    clear hz hL ho hC hwf hnil hl hy hC2 hwf2 hl2 hlc2
    go_enter Tryd.func5, Tryd.ntmps5
    go_wp2_with (go_at_call 7; refine HAl.out.mono ?_; rintro e w1 ⟨rfl, hb⟩; replace hb := Aside0.mk hb)
    go_ret
    exact ⟨rfl, hb.out⟩
  have h2 : (m : Int) ≤ 200 := by omega
  have HI := Aside0.mk (fun (w1 : World) (li : Int) (hb : Below W.heap.size W w1) => inflate_bytes w1 A n c l li (by have := Kd.C_below hC hb; rwa [hl] at this) hwf hl (by omega) hnil (ho.below hb))
  have HI2 := Aside0.mk (fun (w1 : World) (A5 : Option Addr) (n5 c5 : Nat) (q : List Int) (h5 : (Kd.int .u8).C w1 A5 n5 q) (hq : ∀ z ∈ q, (Lit.int .u8 z).wf = true) (hl5 : q.length = n5) (hn5 : n5 ≤ 1000000) (hcap : A5 = none → n5 = 0 ∧ c5 = 0) (hb : Below W.heap.size W w1) => inflate_bytes w1 A5 n5 c5 q lim h5 hq hl5 hn5 hcap (ho.below hb))
  have HC := Aside0.mk (And.intro hC (And.intro hC2 (And.intro hl hl2)))
  have HWf := Aside0.mk (And.intro hwf hwf2)
  have HN := Aside0.mk (show n ≤ 2000 ∧ m ≤ 200 ∧ n ≤ c by omega)
  clear hz hL ho hC hwf hnil hl hy hC2 hwf2 hl2 h2000 h200 hlc hlc2
  go_enter Tryd.func5, Tryd.ntmps5
  go_wp2_with (go_at_call 7; refine HAl.out.mono ?_; rintro e w1 ⟨rfl, hb⟩; have HB1 := Aside0.mk hb; clear hb)
  refine (HI.out w1 lim HB1.out).mono ?_
  rintro e w2 ⟨hb, ⟨ce, hr, rfl⟩ | ⟨s, A1, c1, hr, rfl, hC3, _, hc⟩⟩
  · have HB2 := Aside0.mk (HB1.out.trans (Below.mono hb HB1.out.size))
    clear hb hr
    unfold errV
    go_wp2_with fail
    go_ret
    exact ⟨rfl, below_alloc HB2.out _⟩
  have hb2 := HB1.out.trans (Below.mono hb HB1.out.size)
  obtain ⟨f1, f2, f3, f4, f5, f6⟩ := infl_facts hr
  have HR := Aside0.mk hr
  obtain ⟨U, hU⟩ : ∃ U, U = (s.a + 7) / 8 := ⟨_, rfl⟩
  rw [← hU] at f2 f3 f4 ⊢
  have hrc := alloc_self w2 (.cells #[.slice A1 s.out.length c1, .int .i64 U, .int .i64 s.st] 25)
  have hba := below_alloc (Below.refl w2.heap.size w2) (.cells #[.slice A1 s.out.length c1, .int .i64 U, .int .i64 s.st] 25)
  have hC3' := Kd.C_below hC3 hba
  have hb3 := hb2.trans (Below.mono hba hb2.size)
  have HRc := Aside0.mk hrc
  have HB3 := Aside0.mk hb3
  have HC3 := Aside0.mk hC3'
  have HF := Aside0.mk (show (s.out.length : Int) ≤ lim ∧ U ≤ n ∧ 0 ≤ lim ∧ lim ≤ 1048576 from ⟨f1, f2, f5, f6⟩)
  have HU := Aside0.mk hU
  have p1 := blk_cell hrc 1
  have u1 : (U : Int) ≤ (n : Int) := by omega
  have hsl : ∀ W : World, (Instr.slice 22 (.slice A n c) none (some (.int .i64 U)) none).run Tryd.prog W = .ok (.slice A U c) W := fun W => slice_to8 A n c U (by have := HN.out; omega) W
  obtain ⟨lt, hlt⟩ : ∃ lt, lt = l.take U := ⟨_, rfl⟩
  have HCt : Aside0 (∀ (wx : World) (hb : Below W.heap.size W wx), (Kd.int .u8).C wx A U lt) := Aside0.mk (fun (wx : World) (hb : Below W.heap.size W wx) => hlt ▸ C_take (Kd.C_below HC.out.1 hb) U (by have := HC.out.2.2.1; omega))
  have HLt := Aside0.mk (show lt.length = U by rw [hlt, List.length_take]; have := HC.out.2.2.1; omega)
  have HTk := Aside0.mk hlt
  clear hb hr hC3 hc hb2 hba hC3' hb3 f1 f2 f3 f4 f5 f6 hrc hU hlt
  go_upto_region 8 with (fail)
  have hH : w2.heap.size + 1 = (w2.alloc (.cells #[.slice A1 s.out.length c1, .int .i64 U, .int .i64 s.st] 25)).heap.size := by simp
  generalize hg7 : w2.heap.size = g7 at *
  generalize w2.alloc (.cells #[.slice A1 s.out.length c1, .int .i64 U, .int .i64 s.st] 25) = w3 at *
  have HG7 := Aside0.mk (And.intro hg7 hH)
  clear hg7 hH
  have hbx := below_alloc (Below.refl w3.heap.size w3) (.cells #[] 5)
  have q1 : (w3.alloc (.cells #[] 5)).cell? ⟨g7, 1, none⟩ = some (.int .i64 U) := by
    have := blk_cell (blk_below HRc.out hbx) 1
    exact this
  have HBx := Aside0.mk (HB3.out.trans (Below.mono hbx HB3.out.size))
  clear hbx
  go_wp2_with ((with_reducible refine gate_dst (N := 39) rfl ?_); refine print_append_row (w0 := w3) w3.heap.size rfl (.tmp 34) (.tmp 38) 22 5 .u8 1 rfl Tryd.underlying22 info_u8 (by decide) _ [] lt A U c rfl rfl (own_lit w3 w3.heap.size 5 .u8 [] (Nat.le_refl _) (by decide)) (reads_of_C (HCt.out _ HBx.out)) (below_alloc (Below.refl _ _) _) (by simp) (by simp; have := HF.out; have := HN.out; omega) ?_)
  intro v4 w4 ho4 hb4 _ _
  obtain ⟨A4, c4, rfl⟩ := own_slice ho4
  have HO4 := Aside0.mk ho4
  have HB4 := Aside0.mk hb4
  have hBW4 := HB3.out.trans (Below.mono hb4 HB3.out.size)
  have HBW4 := Aside0.mk hBW4
  have HCm := Aside0.mk (reads_of_C (Kd.C_below HC.out.2.1 hBW4))
  clear ho4 hb4 hBW4 q1
  go_wp2_with ((with_reducible refine gate_dst (N := 41) rfl ?_); refine print_append_row (w0 := w3) w3.heap.size rfl (.tmp 39) (.tmp 40) 22 5 .u8 1 rfl Tryd.underlying22 info_u8 (by decide) _ lt l2 A' m d rfl rfl HO4.out (by have := HCm.out; rwa [HC.out.2.2.2] at this) HB4.out HB4.out.size (by have := HLt.out; have := HF.out; have := HN.out; omega) ?_)
  intro v5 w5 ho5 hb5 _ _
  obtain ⟨A5, c5, rfl, hc5, hC5⟩ := own_slice' (by rw [← List.length_append] at ho5; exact ho5)
  have hcap5 := own_cap ho5
  have HB5 := Aside0.mk (HB3.out.trans (Below.mono hb5 HB3.out.size))
  have HRc5 := Aside0.mk (blk_below HRc.out hb5)
  have HCA5 := Aside0.mk (Kd.C_below HC3.out hb5)
  have hrng : ∀ z ∈ l, 0 ≤ z ∧ z < 256 := fun z h => wf_u8 (HWf.out.1 z h)
  have hwfa : ∀ z ∈ lt ++ l2, (Lit.int .u8 z).wf = true := fun z h => by
    rcases List.mem_append.1 h with h | h
    · rw [HTk.out] at h; exact HWf.out.1 z (List.mem_of_mem_take h)
    · exact HWf.out.2 z h
  have hal : Al (ofB l) (ofB (lt ++ l2)) (lt ++ l2).length ((s.a + 7) / 8) := by
    rw [← HU.out]
    have := al_take l l2 U (lt ++ l2).length hrng (by have := HC.out.2.2.1; have := HF.out; omega) (by rw [List.length_append, HLt.out]; omega)
    rwa [← HTk.out] at this
  have hsame := infl_tr HR.out hal HF.out.1 HF.out.2.2.1 HF.out.2.2.2
  have HI5 := Aside0.mk (HI2.out w5 A5 (lt ++ l2).length c5 (lt ++ l2) hC5 hwfa rfl (by rw [List.length_append, HLt.out, HC.out.2.2.2]; have := HF.out; have := HN.out; omega) (fun e => hcap5 e) HB5.out)
  rw [List.length_append] at HI5 hsame
  have HSame := Aside0.mk hsame
  clear ho5 hb5 hc5 hC5 hcap5 hrng hwfa hal hsame
  go_wp2_with fail
  refine HI5.out.mono ?_
  rintro e w6 ⟨hb6, ⟨ce, hr6, rfl⟩ | ⟨s6, A6, c6, hr6, rfl, hC6, _, _⟩⟩
  · rw [HSame.out] at hr6; cases hr6
  rw [HSame.out] at hr6
  injection hr6 with _ hr6
  subst hr6
  rw [← HU.out]
  have HB6 := Aside0.mk (HB5.out.trans (Below.mono hb6 HB5.out.size))
  have hrc6 := blk_below HRc5.out hb6
  have hba6 := below_alloc (Below.refl w6.heap.size w6) (.cells #[.slice A6 s.out.length c6, .int .i64 U, .int .i64 s.st] 25)
  have hrs6 := alloc_self w6 (.cells #[.slice A6 s.out.length c6, .int .i64 U, .int .i64 s.st] 25)
  have HC6 := Aside0.mk (Kd.C_below hC6 hba6)
  have HCA7 := Aside0.mk (Kd.C_below (Kd.C_below HCA5.out hb6) hba6)
  have HR6 := Aside0.mk (And.intro (blk_below hrc6 hba6) hrs6)
  have HB7 := Aside0.mk (HB6.out.trans (Below.mono hba6 HB6.out.size))
  clear hb6 hC6 hrc6 hba6 hrs6
  go_upto_region 9 with (fail)
  generalize hg9 : w6.heap.size = g9 at *
  generalize w6.alloc (.cells #[.slice A6 s.out.length c6, .int .i64 U, .int .i64 s.st] 25) = w7 at *
  have HG9 := Aside0.mk hg9
  clear hg9
  have p0 := blk_cell HR6.out.1 0
  have hs7 := infl_tr HR.out (V' := ofB l) (lb' := n) (lim' := (s.out.length : Int)) ⟨rfl, by rw [← HU.out]; exact HF.out.2.1⟩ (Int.le_refl _) (by omega) (by have := HF.out; omega)
  have HS7 := Aside0.mk hs7
  have HI7 := Aside0.mk (HI.out w7 (s.out.length : Int) HB7.out)
  clear hs7
  go_wp2_with fail
  refine HI7.out.mono ?_
  rintro e w8 ⟨hb8, ⟨ce, hr8, rfl⟩ | ⟨s8, A8, c8, hr8, rfl, hC8, _, _⟩⟩
  · rw [HS7.out] at hr8; cases hr8
  rw [HS7.out] at hr8
  injection hr8 with _ hr8
  subst hr8
  rw [← HU.out]
  have HB8 := Aside0.mk (HB7.out.trans (Below.mono hb8 HB7.out.size))
  have hba8 := below_alloc (Below.refl w8.heap.size w8) (.cells #[.slice A8 s.out.length c8, .int .i64 U, .int .i64 s.st] 25)
  have hrs8 := alloc_self w8 (.cells #[.slice A8 s.out.length c8, .int .i64 U, .int .i64 s.st] 25)
  have HR8 := Aside0.mk (And.intro (blk_below (blk_below HR6.out.1 hb8) hba8) (And.intro (blk_below (blk_below HR6.out.2 hb8) hba8) hrs8))
  have hC1 := Kd.C_below (Kd.C_below HCA7.out hb8) hba8
  have hC6' := Kd.C_below (Kd.C_below HC6.out hb8) hba8
  have hC8' := Kd.C_below hC8 hba8
  have HBy6 := Aside0.mk (bytes_yes A6 A1 s.out.length s.out.length c6 c1 s.out _ hC6' hC1)
  have HBy8 := Aside0.mk (bytes_yes A8 A1 s.out.length s.out.length c8 c1 s.out _ hC8' hC1)
  have HB9 := Aside0.mk (HB8.out.trans (Below.mono hba8 HB8.out.size))
  clear hb8 hC8 hba8 hrs8 hC1 hC6' hC8' p0
  go_upto_region 10 with (fail)
  generalize hg11 : w8.heap.size = g11 at *
  generalize w8.alloc (.cells #[.slice A8 s.out.length c8, .int .i64 U, .int .i64 s.st] 25) = w9 at *
  have HG11 := Aside0.mk hg11
  clear hg11
  have p0 := blk_cell HR8.out.1 0
  have p1 := blk_cell HR8.out.1 1
  have p2 := blk_cell HR8.out.1 2
  have r0 := blk_cell HR8.out.2.1 0
  have r1 := blk_cell HR8.out.2.1 1
  have r2 := blk_cell HR8.out.2.1 2
  have t0 := blk_cell HR8.out.2.2 0
  have t1 := blk_cell HR8.out.2.2 1
  have t2 := blk_cell HR8.out.2.2 2
  have l1 : (s.out.length : Int) ≤ 1048576 := by have := HF.out; omega
  by_cases hz0 : s.out.length = 0
  · have z1 : ((s.out.length : Int) == 0) = true := beq_iff_eq.2 (by omega)
    have z2 : (s.out.length : Int) = 0 := by omega
    clear hz0
    have HZ2 := Aside0.mk z2
    clear z2
    go_wp2_with (first
      | (go_at_call 11; (with_reducible refine HBy6.out.mono ?_); rintro e w' ⟨rfl, rfl⟩)
      | (go_at_call 11; (with_reducible refine HBy8.out.mono ?_); rintro e w' ⟨rfl, rfl⟩))
    go_ret
    exact ⟨rfl, HB9.out⟩
  · have z1 : ((s.out.length : Int) == 0) = false := beq_eq_false_iff_ne.2 (by omega)
    have z2 : (1 : Int) ≤ (s.out.length : Int) := by omega
    obtain ⟨ce, hce⟩ := infl_less HR.out (by omega)
    have HCe := Aside0.mk hce
    have HI9 := Aside0.mk (HI.out w9 ((s.out.length : Int) - 1) HB9.out)
    clear hz0 hce
    go_wp2_with (first
      | (go_at_call 11; (with_reducible refine HBy6.out.mono ?_); rintro e w' ⟨rfl, rfl⟩)
      | (go_at_call 11; (with_reducible refine HBy8.out.mono ?_); rintro e w' ⟨rfl, rfl⟩))
    refine HI9.out.mono ?_
    rintro e w10 ⟨hb10, ⟨ce2, hr10, rfl⟩ | ⟨s10, A10, c10, hr10, rfl, _⟩⟩
    · have HB10 := Aside0.mk (HB9.out.trans (Below.mono hb10 HB9.out.size))
      clear hb10 hr10
      unfold errV
      go_wp2_with fail
      go_ret
      exact ⟨rfl, below_alloc HB10.out _⟩
    · rw [HCe.out] at hr10; cases hr10
end Go.Proofs.YtdphifihneccoaaDoor.My

/- Inflating, plainly: two blocks of kind 0. -/
namespace Go.Proofs.YtdphifihneccoaaDoor.Inf
open Go.Proofs.YtdphifihneccoaaDoor.Huf Go.Proofs.YtdphifihneccoaaDoor.My
set_option linter.unusedVariables false
/-- The number from a byte on. -/
theorem ofB_drop (b : List Int) (h : ∀ z ∈ b, 0 ≤ z ∧ z < 256) (p : Nat) (hp : p ≤ b.length) : ofB b / 2 ^ (8 * p) = ofB (b.drop p) := by
  have ht : ∀ z ∈ b.take p, 0 ≤ z ∧ z < 256 := fun z hz => h z (List.mem_of_mem_take hz)
  have hl : (b.take p).length = p := by rw [List.length_take]; omega
  have e := ofB_app (b.take p) (b.drop p) ht
  rw [List.take_append_drop, hl] at e
  have hlt := ofB_lt (b.take p) ht
  rw [hl] at hlt
  rw [e, Nat.add_mul_div_right _ _ (Nat.two_pow_pos _), Nat.div_eq_of_lt hlt, Nat.zero_add]
theorem div_more (V a n : Nat) : V / 2 ^ (a + n) = V / 2 ^ a / 2 ^ n := by rw [Nat.pow_add, Nat.div_div_eq_div_mul]
/-- The head of a block of kind 0, of so many bytes. -/
def hd0 (i n : Nat) : List Int := [(i : Int), ((n % 256 : Nat) : Int), ((n / 256 : Nat) : Int), ((255 - n % 256 : Nat) : Int), ((255 - n / 256 : Nat) : Int)]
theorem hd0_bytes (i n : Nat) (hi : i < 256) (hn : n < 65536) : ∀ z ∈ hd0 i n, 0 ≤ z ∧ z < 256 := by
  intro z hz
  simp only [hd0, List.mem_cons, List.not_mem_nil, or_false] at hz
  omega
theorem block_stored (b : List Int) (hb : ∀ z ∈ b, 0 ≤ z ∧ z < 256) (lim : Int) (p i : Nat) (part rest : List Int) (hi : i < 2) (hn : part.length < 65536) (hp : p ≤ b.length) (hd : b.drop p = hd0 i part.length ++ (part ++ rest)) (out : List Int) (st : Nat) :
    block (ofB b) b.length lim ⟨8 * p, out, st⟩ = if (part.length : Int) > lim - (out.length : Int) then .er 3 else .ok (decide (i = 1)) ⟨8 * (p + 5 + part.length), out ++ part, st + 1 + part.length⟩ := by
  have hlen : b.length = p + (5 + (part.length + rest.length)) := by
    have h1 := congrArg List.length hd
    rw [List.length_drop] at h1
    simp only [hd0, List.length_append, List.length_cons, List.length_nil] at h1
    omega
  have hbr : ∀ z ∈ part ++ rest, 0 ≤ z ∧ z < 256 := fun z hz => hb z (List.mem_of_mem_drop (i := p) (by rw [hd]; exact List.mem_append_right _ hz))
  obtain ⟨n, hnn⟩ : ∃ n, n = part.length := ⟨_, rfl⟩
  obtain ⟨R, hR⟩ : ∃ R, R = ofB (part ++ rest) := ⟨_, rfl⟩
  have h0 : ofB b / 2 ^ (8 * p) = i + 256 * (n % 256 + 256 * (n / 256 + 256 * (255 - n % 256 + 256 * (255 - n / 256 + 256 * R)))) := by
    rw [ofB_drop b hb p hp, hd, hR, hnn]
    simp only [hd0, List.cons_append, List.nil_append, ofB, Int.toNat_natCast]
  have n1 : number (ofB b) b.length 1 ⟨8 * p, out, st + 1⟩ = .ok i ⟨8 * p + 1, out, st + 1⟩ := by
    unfold number
    rw [if_pos (by show 8 * p + 1 ≤ _; omega)]
    show Res.ok (ofB b / 2 ^ (8 * p) % 2 ^ 1) _ = _
    rw [h0]
    congr 1
    omega
  have n2 : number (ofB b) b.length 2 ⟨8 * p + 1, out, st + 1⟩ = .ok 0 ⟨8 * p + 3, out, st + 1⟩ := by
    unfold number
    rw [if_pos (by show 8 * p + 1 + 2 ≤ _; omega)]
    show Res.ok (ofB b / 2 ^ (8 * p + 1) % 2 ^ 2) _ = _
    rw [div_more, h0]
    congr 1
    omega
  have n3 : number (ofB b) b.length 16 ⟨8 * p + 8, out, st + 1⟩ = .ok n ⟨8 * p + 24, out, st + 1⟩ := by
    unfold number
    rw [if_pos (by show 8 * p + 8 + 16 ≤ _; omega)]
    show Res.ok (ofB b / 2 ^ (8 * p + 8) % 2 ^ 16) _ = _
    rw [div_more, h0]
    congr 1
    omega
  have n4 : number (ofB b) b.length 16 ⟨8 * p + 24, out, st + 1⟩ = .ok (65535 - n) ⟨8 * p + 40, out, st + 1⟩ := by
    unfold number
    rw [if_pos (by show 8 * p + 24 + 16 ≤ _; omega)]
    show Res.ok (ofB b / 2 ^ (8 * p + 24) % 2 ^ 16) _ = _
    have e0 : ofB b / 2 ^ (8 * p) / 2 ^ 24 = 255 - n % 256 + 256 * (255 - n / 256 + 256 * R) := by
      rw [h0]
      generalize 255 - n % 256 + 256 * (255 - n / 256 + 256 * R) = Y
      omega
    rw [div_more, e0]
    congr 1
    clear e0 h0
    omega
  have hal : 8 * p + 3 + (8 - (8 * p + 3) % 8) % 8 = 8 * p + 8 := by omega
  have hs : Inf.stored (ofB b) b.length lim ⟨8 * p + 3, out, st + 1⟩ = if (n : Int) > lim - (out.length : Int) then .er 3 else .ok () ⟨8 * (p + 5 + n), out ++ part, st + 1 + n⟩ := by
    unfold Inf.stored
    dsimp only
    rw [hal, n3, bind_ok, n4, bind_ok, if_neg (by omega)]
    unfold room
    dsimp only
    split
    · rfl
    · rw [bind_ok]
      dsimp only
      rw [if_pos (by omega)]
      congr 1
      have e1 : ofB b / 2 ^ (8 * p + 40) = R := by
        have e0 : ofB b / 2 ^ (8 * p) / 2 ^ 24 = 255 - n % 256 + 256 * (255 - n / 256 + 256 * R) := by
          rw [h0]
          generalize 255 - n % 256 + 256 * (255 - n / 256 + 256 * R) = Y
          omega
        rw [show 8 * p + 40 = 8 * p + 24 + 16 by omega, div_more, div_more, e0]
        clear e0 h0
        omega
      rw [e1, hR]
      have e2 : leB (ofB (part ++ rest)) n = part := by
        have hpb : ∀ z ∈ part, 0 ≤ z ∧ z < 256 := fun z hz => hbr z (List.mem_append_left _ hz)
        rw [hnn, leB_congr (V' := ofB part) (by rw [ofB_mod part rest hpb, Nat.mod_eq_of_lt (ofB_lt part hpb)]), leB_ofB part hpb]
      rw [e2]
      congr 1
      omega
  unfold block
  dsimp only
  rw [n1, bind_ok, n2, bind_ok, if_pos rfl, hs, ← hnn]
  split
  · rfl
  · rfl
/-- Two blocks of kind 0. -/
theorem infl_stored (p1 p2 : List Int) (h1 : ∀ z ∈ p1, 0 ≤ z ∧ z < 256) (h2 : ∀ z ∈ p2, 0 ≤ z ∧ z < 256) (hl : p1.length + p2.length ≤ 500) (lim : Int) :
    infl (ofB (hd0 0 p1.length ++ p1 ++ (hd0 1 p2.length ++ p2))) (hd0 0 p1.length ++ p1 ++ (hd0 1 p2.length ++ p2)).length lim =
      if lim < 0 ∨ 1048576 < lim then .er 1 else if (p1.length : Int) > lim then .er 3 else if (p2.length : Int) > lim - (p1.length : Int) then .er 3 else .ok () ⟨8 * (p1.length + p2.length + 10), p1 ++ p2, p1.length + p2.length + 2⟩ := by
  obtain ⟨b, hb⟩ : ∃ b, b = hd0 0 p1.length ++ p1 ++ (hd0 1 p2.length ++ p2) := ⟨_, rfl⟩
  have hbb : ∀ z ∈ b, 0 ≤ z ∧ z < 256 := by
    intro z hz
    rw [hb] at hz
    simp only [List.mem_append] at hz
    rcases hz with (hz | hz) | hz | hz
    · exact hd0_bytes 0 _ (by omega) (by omega) z hz
    · exact h1 z hz
    · exact hd0_bytes 1 _ (by omega) (by omega) z hz
    · exact h2 z hz
  have hlen : b.length = p1.length + p2.length + 10 := by
    rw [hb]
    simp only [hd0, List.length_append, List.length_cons, List.length_nil]
    omega
  rw [← hb]
  unfold infl
  split
  · rfl
  · unfold inflate
    obtain ⟨k, hk⟩ : ∃ k, 8 * b.length + 1 = k + 2 := ⟨8 * b.length - 1, by omega⟩
    rw [hk, blocks]
    have e1 := block_stored b hbb lim 0 0 p1 (hd0 1 p2.length ++ p2) (by omega) (by omega) (by omega) (by rw [List.drop_zero, hb, List.append_assoc]) [] 0
    rw [Nat.mul_zero] at e1
    rw [e1]
    by_cases q1 : (p1.length : Int) > lim
    · rw [if_pos (by simpa using q1), if_pos q1]
      rfl
    · rw [if_neg (by simpa using q1), if_neg q1, bind_ok, if_neg (by decide), blocks]
      have e2 := block_stored b hbb lim (5 + p1.length) 1 p2 [] (by omega) (by omega) (by omega) (by
        rw [hb, List.append_nil, List.drop_append_of_le_length (by simp [hd0]; omega), List.drop_eq_nil_of_le (by simp [hd0]; omega), List.nil_append]) p1 (0 + 1 + p1.length)
      rw [List.nil_append, show 8 * (0 + 5 + p1.length) = 8 * (5 + p1.length) by omega, e2]
      by_cases q2 : (p2.length : Int) > lim - (p1.length : Int)
      · rw [if_pos q2, if_pos q2]
        rfl
      · rw [if_neg q2, if_neg q2, bind_ok, if_pos (by decide)]
        congr 2 <;> omega
end Go.Proofs.YtdphifihneccoaaDoor.Inf

/- InflateStored: the blocks of kind 0, of any bytes, cut anywhere. -/
namespace Go.Proofs.YtdphifihneccoaaDoor.My
open Go.RowKit Go.Proofs.YtdphifihneccoaaDoor.Inf Go.Proofs.YtdphifihneccoaaDoor.Huf Go.Proofs.YtdphifihneccoaaDoorW.PrintWords Go.Proofs.YtdphifihneccoaaDoorW.PrintLast Go.Proofs.YtdphifihneccoaaDoorW.PrintMore
set_option maxRecDepth 100000
set_option linter.unusedVariables false
set_option linter.unusedSimpArgs false
theorem u8_wf {n : Int} (h : 0 ≤ n ∧ n < 256) : (Lit.int .u8 n).wf = true := by
  simp [Lit.wf, IntKind.min, IntKind.max, IntKind.bits, IntKind.signed]
  omega
def bldS (p1 p2 : List Int) : Nat → List Int
  | 0 => []
  | 1 => hd0 0 p1.length ++ p1
  | _ => hd0 0 p1.length ++ p1 ++ (hd0 1 p2.length ++ p2)
def prtS (p1 p2 : List Int) (i : Nat) : List Int := if i = 0 then p1 else p2
theorem bldS_succ (p1 p2 : List Int) (i : Nat) (h : i < 2) : bldS p1 p2 (i + 1) = (bldS p1 p2 i ++ hd0 i (prtS p1 p2 i).length) ++ prtS p1 p2 i := by
  have : i = 0 ∨ i = 1 := by omega
  rcases this with rfl | rfl
  · simp [bldS, prtS]
  · simp [bldS, prtS]
theorem bldS_len (p1 p2 : List Int) (i : Nat) (h : i < 2) : (bldS p1 p2 i).length ≤ p1.length + 5 := by
  have : i = 0 ∨ i = 1 := by omega
  rcases this with rfl | rfl <;> simp [bldS, hd0] <;> omega
set_option maxHeartbeats 4000000 in
theorem stored_walk (A : Option Addr) (n c : Nat) (zs : List Int) (cut : Int) (lim : Int) (W : World) (hz : IsRow .u8 W A n c zs) (_ : n * 1 ≤ 140737488351232) (wc : (Lit.int .i64 cut).wf = true) (wl : (Lit.int .i64 lim).wf = true) (hL : laidMetH Tryd.prog Rows.inflateStoredRow.laid W) :
    Calls Tryd.prog 6 #[.slice A n c, .int .i64 cut, .int .i64 lim] W fun e w' => e = .returned (.bool true) ∧ Below W.heap.size W w' := by
  have ho := ord_of_laid hL
  have HAl := Aside0.mk (alive_calls W ho)
  obtain ⟨l, hl, hlc, hC, hwf⟩ := row_C hz
  have hnil := nil_of_row hz
  by_cases h500 : 500 < n
  · have h1 : (500 : Int) < (n : Int) := by omega
    clear hz hL ho hC hwf hnil hl
    go_enter Tryd.func6, Tryd.ntmps6
    go_wp2_with (go_at_call 7; refine HAl.out.mono ?_; rintro e w1 ⟨rfl, hb⟩; replace hb := Aside0.mk hb)
    go_ret
    exact ⟨rfl, hb.out⟩
  have h1 : (n : Int) ≤ 500 := by omega
  have HI2 := Aside0.mk (fun (w1 : World) (A5 : Option Addr) (n5 c5 : Nat) (q : List Int) (h5 : (Kd.int .u8).C w1 A5 n5 q) (hq : ∀ z ∈ q, (Lit.int .u8 z).wf = true) (hl5 : q.length = n5) (hn5 : n5 ≤ 1000000) (hcap : A5 = none → n5 = 0 ∧ c5 = 0) (hb : Below W.heap.size W w1) => inflate_bytes w1 A5 n5 c5 q lim h5 hq hl5 hn5 hcap (ho.below hb))
  have HC := Aside0.mk (And.intro hC hl)
  have HWf := Aside0.mk hwf
  have HN := Aside0.mk (And.intro (show n ≤ 500 ∧ n ≤ c by omega) hnil)
  clear hz hL ho hC hwf hnil hl h500 hlc
  go_enter Tryd.func6, Tryd.ntmps6
  go_upto_region 5 with (go_at_call 7; refine HAl.out.mono ?_; rintro e w1 ⟨rfl, hb⟩; have HB1 := Aside0.mk hb; clear hb)
  go_upto_region 6 with fail
  obtain ⟨K, hK, hKn⟩ : ∃ K : Nat, wrap64 ((IntKind.u64.wrap cut).tmod ((n : Int) + 1)) = (K : Int) ∧ K ≤ n := by
    have h0 : 0 ≤ IntKind.u64.wrap cut := by rw [IntKind.wrap_u64]; omega
    have h2 := Int.emod_lt_of_pos (IntKind.u64.wrap cut) (show (0 : Int) < (n : Int) + 1 by omega)
    have h3 := Int.emod_nonneg (IntKind.u64.wrap cut) (show (n : Int) + 1 ≠ 0 by omega)
    rw [Int.tmod_eq_emod_of_nonneg h0]
    refine ⟨(IntKind.u64.wrap cut % ((n : Int) + 1)).toNat, ?_, by omega⟩
    unfold wrap64
    omega
  rw [hK]
  clear hK
  obtain ⟨i0, hi0, hz0⟩ := Option.map_eq_some_iff.1 info_u8
  simp only [Prod.mk.injEq] at hz0
  obtain ⟨A2, hcut, hC2, hnil2⟩ := cut_from (P := Tryd.prog) (k := .u8) 22 5 Tryd.underlying22 hi0 hz0.2.1 A n c l K hKn HC.out.2 HN.out.1.2 HN.out.2
  have hcut' : ∀ W : World, (Instr.slice 22 (.slice A n c) (some (.int .i64 K)) none none).run Tryd.prog W = .ok (.slice A2 (n - K) (c - K)) W := fun W => hcut .i64 W
  have hsl : ∀ W : World, (Instr.slice 22 (.slice A n c) none (some (.int .i64 K)) none).run Tryd.prog W = .ok (.slice A K c) W := fun W => slice_to8 A n c K (by have := HN.out.1; omega) W
  have hCn : (Kd.int .u8).C W A n l := by have := HC.out.1; rwa [HC.out.2] at this
  have HP1 := Aside0.mk (fun (wx : World) (hb : Below W.heap.size W wx) => C_take (Kd.C_below hCn hb) K hKn)
  have HP2 := Aside0.mk (fun (wx : World) (hb : Below W.heap.size W wx) => hC2 wx (Kd.C_below hCn hb))
  have HLn := Aside0.mk (show (l.take K).length = K ∧ (l.drop K).length = n - K ∧ K ≤ n ∧ l.take K ++ l.drop K = l from ⟨by rw [List.length_take, HC.out.2]; omega, by rw [List.length_drop, HC.out.2], hKn, List.take_append_drop _ _⟩)
  have hwf1 : ∀ z ∈ l.take K, (Lit.int .u8 z).wf = true := fun z h => HWf.out z (List.mem_of_mem_take h)
  have hwf2 : ∀ z ∈ l.drop K, (Lit.int .u8 z).wf = true := fun z h => HWf.out z (List.mem_of_mem_drop h)
  generalize l.take K = p1 at *
  generalize l.drop K = p2 at *
  have HW1 := Aside0.mk (And.intro hwf1 hwf2)
  have kn : (K : Int) ≤ (n : Int) := by omega
  clear hcut hC2 hnil2 hCn hwf1 hwf2 hi0 hz0 hKn
  go_upto_region 7 with fail
  go_region
  go_upto_block 0 with fail
  have hg2 : ((w1.alloc (.cells #[] 5)).alloc (.cells #[.slice A K c, .slice A2 (n - K) (c - K)] 22)).drew.heap[w1.heap.size + 1]? = some (.cells #[.slice A K c, .slice A2 (n - K) (c - K)] 22 (0, 0)) := by
    have := alloc_self (w1.alloc (.cells #[] 5)) (.cells #[.slice A K c, .slice A2 (n - K) (c - K)] 22)
    rwa [show (w1.alloc (.cells #[] 5)).heap.size = w1.heap.size + 1 by simp] at this
  have hbw : Below w1.heap.size w1 ((w1.alloc (.cells #[] 5)).alloc (.cells #[.slice A K c, .slice A2 (n - K) (c - K)] 22)).drew := (below_alloc (below_alloc (Below.refl _ _) _) _).drew
  have hown : ((w1.alloc (.cells #[] 5)).alloc (.cells #[.slice A K c, .slice A2 (n - K) (c - K)] 22)).drew.ownsRow w1.heap.size 5 1 (.slice (some ⟨w1.heap.size, 0, none⟩) 0 0) 0 (nums .u8 []) :=
    pw_own_below ((own_lit w1 w1.heap.size 5 .u8 [] (Nat.le_refl _) (by decide)).alloc _) (below_drew (Below.refl _ _))
  have HG2 := Aside0.mk hg2
  have HBw := Aside0.mk hbw
  have HOw := Aside0.mk hown
  clear hg2 hbw hown hcut' hsl
  generalize ((w1.alloc (.cells #[] 5)).alloc (.cells #[.slice A K c, .slice A2 (n - K) (c - K)] 22)).drew = wL at *
  generalize hgb : w1.heap.size + 1 = gb at *
  have HGb := Aside0.mk hgb
  clear hgb
  go_wp2_with fail
  go_loopg [8, 36] 2 (fun kq v8 v36 wr => ∃ (i : Nat) (A8 : Option Addr) (c8 : Nat) (m : List Int), v36 = .int .i64 i ∧ v8 = .slice A8 m.length c8 ∧ i ≤ 2 ∧ Aside0 (kq + i = 2) ∧ Aside0 (m = bldS p1 p2 i) ∧ Aside0 (wr.ownsRow w1.heap.size 5 1 (.slice A8 m.length c8) m.length (nums .u8 m)) ∧ Aside0 (Below w1.heap.size w1 wr) ∧
    Aside0 (wr.heap[gb]? = some (.cells #[.slice A K c, .slice A2 (n - K) (c - K)] 22 (0, 0))))
  case atStart => exact ⟨0, _, 0, [], rfl, rfl, by omega, ⟨rfl⟩, ⟨rfl⟩, HOw, HBw, HG2⟩
  case round =>
    obtain ⟨i, A8, c8, m, rfl, rfl, hi, HQ, HM, HO, HB, HGr⟩ := hrel
    by_cases hin : i < 2
    · have hin' : (i : Int) < 2 := by omega
      have HBs := Aside0.mk (bldS_succ p1 p2 i hin)
      have hml : m.length ≤ p1.length + 5 := by rw [HM.out]; exact bldS_len p1 p2 i hin
      have hBWr := HB1.out.trans (Below.mono HB.out HB1.out.size)
      obtain ⟨Ap, np, cp, hc, hCp, hpl, hpn⟩ : ∃ (Ap : Option Addr) (np cp : Nat), wr.cell? ⟨gb, i, none⟩ = some (.slice Ap np cp) ∧ (∀ wx, Below W.heap.size W wx → (Kd.int .u8).C wx Ap np (prtS p1 p2 i)) ∧ (prtS p1 p2 i).length = np ∧ np ≤ 500 := by
        have : i = 0 ∨ i = 1 := by omega
        rcases this with rfl | rfl
        · exact ⟨A, K, c, blk_cell HGr.out 0, HP1.out, HLn.out.1, by have := HLn.out.2.2.1; have := HN.out.1.1; omega⟩
        · exact ⟨A2, n - K, c - K, blk_cell HGr.out 1, HP2.out, HLn.out.2.1, by have := HN.out.1.1; omega⟩
      have HCp := Aside0.mk hCp
      have HPl := Aside0.mk hpl
      have HML := Aside0.mk (show m.length ≤ 1000 by have := HLn.out.1; have := HLn.out.2.2.1; have := HN.out.1.1; omega)
      have HI := Aside0.mk (And.intro hi hin)
      generalize prtS p1 p2 i = P at *
      have b1 : (np : Int) ≤ 500 := by omega
      clear hCp hpl hml hi hin hBWr hpn
      obtain ⟨L5, hL5⟩ : ∃ L5 : List Int, L5 = [(i : Int), (np : Int) % 256, (np : Int) / 256, 255 - (np : Int) % 256, 255 - (np : Int) / 256] := ⟨_, rfl⟩
      have he5 : L5 = hd0 i np := by
        rw [hL5, hd0]
        refine congr (congrArg _ rfl) (congr (congrArg _ ?_) (congr (congrArg _ ?_) (congr (congrArg _ ?_) (congrArg (· :: []) ?_)))) <;> omega
      have HE5 := Aside0.mk he5
      have HR5 : Aside0 (ReadsInt (wr.alloc (.cells #[.int .u8 (i : Int), .int .u8 ((np : Int) % 256), .int .u8 ((np : Int) / 256), .int .u8 (255 - (np : Int) % 256), .int .u8 (255 - (np : Int) / 256)] 5)) .u8 (some ⟨wr.heap.size, 0, none⟩) 5 L5) := ⟨by
        have := reads_of_C (C_block (wr.alloc (.cells (nums .u8 [(i : Int), (np : Int) % 256, (np : Int) / 256, 255 - (np : Int) % 256, 255 - (np : Int) / 256]).toArray 5)) wr.heap.size .u8 [(i : Int), (np : Int) % 256, (np : Int) / 256, 255 - (np : Int) % 256, 255 - (np : Int) / 256] 5 (0, 0) (alloc_self _ _) (by simp))
        rw [hL5]
        exact this⟩
      have HBa := Aside0.mk (HB.out.trans (Below.mono (below_alloc (Below.refl wr.heap.size wr) (.cells #[.int .u8 (i : Int), .int .u8 ((np : Int) % 256), .int .u8 ((np : Int) / 256), .int .u8 (255 - (np : Int) % 256), .int .u8 (255 - (np : Int) / 256)] 5)) HB.out.size))
      have HS1 := Aside0.mk (show w1.heap.size ≤ (wr.alloc (.cells #[.int .u8 (i : Int), .int .u8 ((np : Int) % 256), .int .u8 ((np : Int) / 256), .int .u8 (255 - (np : Int) % 256), .int .u8 (255 - (np : Int) / 256)] 5)).heap.size by have := HB.out.size; simp; omega)
      clear hL5 he5
      go_wp2_with ((with_reducible refine gate_dst (N := 61) rfl ?_); refine print_append_row (w0 := w1) w1.heap.size rfl (.tmp 43) (.tmp 60) 22 5 .u8 1 rfl Tryd.underlying22 info_u8 (by decide) (.slice A8 m.length c8) m L5 (some ⟨wr.heap.size, 0, none⟩) 5 5 rfl rfl (HO.out.alloc _) HR5.out HBa.out HS1.out (by have := HML.out; omega) ?_)
      intro v3 w3 ho3 hb3 hg3 _
      obtain ⟨A3, c3, rfl⟩ := own_slice ho3
      have hne : some gb ≠ (Value.slice A8 m.length c8).ownBlock := own_ne HO.out HGr.out (by decide)
      have hg3b := blk_grown (blk_alloc HGr.out _) hg3 hne
      have HG3 := Aside0.mk hg3b
      have HO3 := Aside0.mk ho3
      have HB3 := Aside0.mk hb3
      have HC3 := Aside0.mk (reads_of_C (HCp.out w3 (HB1.out.trans (Below.mono hb3 HB1.out.size))))
      clear ho3 hb3 hg3 hne hg3b hc
      go_wp2_with ((with_reducible refine gate_dst (N := 64) rfl ?_); refine print_append_row (w0 := w1) w1.heap.size rfl (.tmp 62) (.tmp 63) 22 5 .u8 1 rfl Tryd.underlying22 info_u8 (by decide) _ (m ++ L5) P Ap np cp rfl rfl (by rw [List.length_append]; exact HO3.out) HC3.out HB3.out HB3.out.size (by rw [List.length_append, HE5.out]; have := HML.out; simp [hd0]; omega) ?_)
      intro v4 w4 ho4 hb4 hg4 _
      obtain ⟨M4, hM4⟩ : ∃ M4, M4 = (m ++ L5) ++ P := ⟨_, rfl⟩
      have hl4 : m.length + (L5.length + P.length) = M4.length := by rw [hM4]; simp [Nat.add_assoc]
      rw [hl4, ← List.append_assoc, ← hM4] at ho4
      clear hl4
      obtain ⟨A4, c4, rfl⟩ := own_slice ho4
      have hne : some gb ≠ (Value.slice A3 (m.length + L5.length) c3).ownBlock := own_ne HO3.out HG3.out (by decide)
      have HG4 := Aside0.mk (blk_grown HG3.out hg4 hne)
      have HO4 := Aside0.mk ho4
      have HM4 : Aside0 (M4 = bldS p1 p2 (i + 1)) := ⟨by rw [hM4, HBs.out, HPl.out, HE5.out, HM.out]⟩
      have HB4 := Aside0.mk hb4
      clear ho4 hb4 hg4 hne hM4
      go_wp2_with fail
      go_roundg (2 - (i + 1))
      case measure => have := HI.out; have := HQ.out; omega
      case rel => exact ⟨i + 1, A4, c4, M4, rfl, rfl, by have := HI.out; omega, ⟨by have := HI.out; omega⟩, HM4, HO4, HB4, HG4⟩
    · have hi2 : i = 2 := by omega
      subst hi2
      have hM : m = hd0 0 p1.length ++ p1 ++ (hd0 1 p2.length ++ p2) := HM.out
      have hlen : m.length = n + 10 := by
        rw [hM]
        simp only [hd0, List.length_append, List.length_cons, List.length_nil]
        have := HLn.out
        omega
      have HMM := Aside0.mk (And.intro hM hlen)
      have HBWr := Aside0.mk (HB1.out.trans (Below.mono HB.out HB1.out.size))
      clear hM hlen
      obtain ⟨A8', c8', heq, hc8, hC8⟩ := own_slice' HO.out
      injection heq with ha hn8 hcc
      subst ha hcc
      have hcap8 := own_cap HO.out
      have hrm : ∀ z ∈ m, 0 ≤ z ∧ z < 256 := by
        rw [HMM.out.1]
        intro z hz
        simp only [List.mem_append] at hz
        rcases hz with (hz | hz) | hz | hz
        · exact hd0_bytes 0 _ (by omega) (by have := HLn.out; have := HN.out; omega) z hz
        · exact wf_u8 (HW1.out.1 z hz)
        · exact hd0_bytes 1 _ (by omega) (by have := HLn.out; have := HN.out; omega) z hz
        · exact wf_u8 (HW1.out.2 z hz)
      have HI3 := Aside0.mk (HI2.out wr A8 m.length c8 m hC8 (fun z hz => u8_wf (hrm z hz)) rfl (by have := HMM.out.2; have := HN.out; omega) hcap8 HBWr.out)
      have his := infl_stored p1 p2 (fun z hz => wf_u8 (HW1.out.1 z hz)) (fun z hz => wf_u8 (HW1.out.2 z hz)) (by have := HLn.out; have := HN.out; omega) lim
      rw [← HMM.out.1] at his
      have HIs := Aside0.mk his
      have HCt := Aside0.mk (HC.out.1)
      clear hc8 hC8 hcap8 hrm his hn8
      by_cases q1 : lim < (n : Int)
      · go_wp2_with fail
        refine HI3.out.mono ?_
        rintro e w2 ⟨hb, ⟨ce, hr, rfl⟩ | ⟨s, A9, c9, hr, rfl, _⟩⟩
        · have HB2 := Aside0.mk (HBWr.out.trans (Below.mono hb HBWr.out.size))
          clear hb hr
          unfold errV
          go_wp2_with fail
          go_ret
          exact ⟨rfl, below_alloc HB2.out _⟩
        · exfalso
          rw [HIs.out] at hr
          have := HLn.out
          split at hr
          · cases hr
          · split at hr
            · cases hr
            · split at hr
              · cases hr
              · omega
      · by_cases q2 : 1048576 < lim
        · have q1' : (n : Int) ≤ lim := by omega
          clear q1
          go_wp2_with fail
          refine HI3.out.mono ?_
          rintro e w2 ⟨hb, ⟨ce, hr, rfl⟩ | ⟨s, A9, c9, hr, rfl, _⟩⟩
          · have HB2 := Aside0.mk (HBWr.out.trans (Below.mono hb HBWr.out.size))
            clear hb hr
            unfold errV
            go_wp2_with fail
            go_ret
            exact ⟨rfl, below_alloc HB2.out _⟩
          · exfalso
            rw [HIs.out, if_pos (.inr q2)] at hr
            cases hr
        · have q1' : (n : Int) ≤ lim := by omega
          have q2' : lim ≤ 1048576 := by omega
          clear q1 q2
          have hok : infl (ofB m) m.length lim = .ok () ⟨8 * (p1.length + p2.length + 10), p1 ++ p2, p1.length + p2.length + 2⟩ := by
            rw [HIs.out]
            have := HLn.out
            rw [if_neg (by omega), if_neg (by omega), if_neg (by omega)]
          have hl12 : p1 ++ p2 = l ∧ p1.length + p2.length = n := ⟨HLn.out.2.2.2, by have := HLn.out; omega⟩
          rw [hl12.1, hl12.2] at hok
          have HOk := Aside0.mk hok
          clear hok hl12
          go_wp2_with fail
          refine HI3.out.mono ?_
          rintro e w2 ⟨hb, ⟨ce, hr, rfl⟩ | ⟨s, A9, c9, hr, rfl, hC9, _⟩⟩
          · rw [HOk.out] at hr; cases hr
          · rw [HOk.out] at hr
            injection hr with _ hr
            subst hr
            have hb2 := HBWr.out.trans (Below.mono hb HBWr.out.size)
            dsimp only at hC9 ⊢
            have e1 : (8 * (n + 10) + 7) / 8 = m.length := by have := HMM.out.2; omega
            rw [e1, show ((n + 2 : Nat) : Int) = (n : Int) + 2 by omega]
            rw [HC.out.2] at hC9 ⊢
            have hba := below_alloc (Below.refl w2.heap.size w2) (.cells #[.slice A9 n c9, .int .i64 m.length, .int .i64 ((n : Int) + 2)] 25)
            have hb3 := hb2.trans (Below.mono hba hb2.size)
            have HBy := Aside0.mk (bytes_yes A9 A n n c9 c l _ (Kd.C_below hC9 hba) (by have := Kd.C_below HC.out.1 hb3; rwa [HC.out.2] at this))
            have hrc := alloc_self w2 (.cells #[.slice A9 n c9, .int .i64 m.length, .int .i64 ((n : Int) + 2)] 25)
            have HRc := Aside0.mk hrc
            have HB3 := Aside0.mk hb3
            have p0 := blk_cell hrc 0
            have p1' := blk_cell hrc 1
            have p2' := blk_cell hrc 2
            clear hb hb2 hba hb3 hrc hC9 e1
            go_wp2_with (go_at_call 11; (with_reducible refine HBy.out.mono ?_); rintro e w' ⟨rfl, rfl⟩)
            go_ret
            exact ⟨rfl, HB3.out⟩
end Go.Proofs.YtdphifihneccoaaDoor.My
