/- The walk of bits.Reader.Bytes. -/
import Derived.Test.YtjlophlheoikgaaMyNewR
import Derived.Test.YtjlophlheoikgaaMyCut
import Derived.Test.YtjlophlheoikgaaMyWtext
namespace Go.Proofs.Ytjlophlheoikgaa.My
open Go.RowKit Go.Proofs.YtjlophlheoikgaaW.PrintWords Go.Proofs.YtjlophlheoikgaaW.PrintLast Go.Proofs.YtjlophlheoikgaaW.PrintMore

theorem leB_mid (V L p k : Nat) (h : p + k ≤ L) : ((leB V L).take (p + k)).drop p = leB (V / 2 ^ (8 * p)) k := by
  apply List.ext_getElem
  · simp; omega
  · intro i h1 h2
    have hi : i < k := by simpa using h2
    simp only [List.getElem_drop, List.getElem_take, leB, List.getElem_map, List.getElem_range]
    rw [Nat.div_div_eq_div_mul, ← Nat.pow_add, Nat.mul_add]

theorem Gone.of_below {w w1 : World} (g : Nat) (hb : Below w.heap.size w w1) : Gone w w1 g := ⟨hb.os, hb.tape, hb.output, hb.size, fun i hi _ _ => hb.block i hi⟩
theorem Rdr.below {w w1 : World} {B g : Nat} {v : Value} {V L a : Nat} (k : Rdr w B g v V L a) (hb : Below w.heap.size w w1) : Rdr w1 B g v V L a := ⟨blk_below k.blk hb, pw_own_below k.row hb, k.lt, k.le, k.bg⟩
/-- What Bytes answers. -/
def byteE (n : Int) (a l : Nat) : Option Int := if n < 0 then some 1 else if a % 8 ≠ 0 then some 2 else if (n : Int) > ((l / 8 : Nat) : Int) then some 10 else none
theorem rbytes_bad (w : World) (B g : Nat) (v : Value) (V L a : Nat) (n c : Int) (hr : Rdr w B g v V L a) (hL : L ≤ 100000000000000) (hE : byteE n a (8 * L - a) = some c) :
    Calls Try.prog 29 #[.pointer (some ⟨g, 0, none⟩), .int .i64 n] w fun e w' => e = .returned (.tuple #[.slice none 0 0, errV (some c)]) ∧ ∃ m, w' = w.drewN m := by
  have HLf : Aside0 (Calls Try.prog 30 #[.pointer (some ⟨g, 0, none⟩)] w fun e w' => e = .returned (.int .i64 (8 * L - a : Nat)) ∧ ∃ m, w' = w.drewN m) := ⟨left_calls w B g v V L a hr hL⟩
  obtain ⟨c0, c1, f1⟩ := hr.cells
  have hle := hr.le
  clear hr
  unfold byteE at hE
  by_cases h1 : n < 0
  · rw [if_pos h1] at hE
    cases hE
    clear HLf hle
    go_enter Try.func29, Try.ntmps29
    go_wp2_with fail
    go_ret2
    exact ⟨rfl, 0, (World.drewN_zero _).symm⟩
  · rw [if_neg h1] at hE
    by_cases h2 : a % 8 = 0
    · rw [if_neg (by omega)] at hE
      by_cases h3 : n > (((8 * L - a) / 8 : Nat) : Int)
      · rw [if_pos h3] at hE
        cases hE
        have b1 : (((a : Int).tmod 8) != 0) = false := by rw [Int.tmod_eq_emod_of_nonneg (by omega)]; simp; omega
        have b2 : (((a : Int) % 8) != 0) = false := by simp; omega
        have b3 : ((8 * L - a : Nat) : Int) / 8 < n := by omega
        have b4 : ((8 * L - a : Nat) : Int) ≤ 800000000000000 := by omega
        have b5 : (a : Int) ≤ 800000000000000 := by omega
        generalize 8 * L - a = l at *
        clear h2 h3 hle
        go_enter Try.func29, Try.ntmps29
        go_wp2_with (go_at_call 30; refine HLf.out.mono ?_; rintro e w' ⟨rfl, m1, rfl⟩)
        go_ret2
        exact ⟨rfl, _, rfl⟩
      · rw [if_neg h3] at hE
        cases hE
    · rw [if_pos h2] at hE
      cases hE
      have b1 : (((a : Int).tmod 8) != 0) = true := by rw [Int.tmod_eq_emod_of_nonneg (by omega)]; simp; omega
      have b2 : (((a : Int) % 8) != 0) = true := by simp; omega
      have b5 : (a : Int) ≤ 800000000000000 := by omega
      clear h2 HLf hle
      go_enter Try.func29, Try.ntmps29
      go_wp2_with fail
      go_ret2
      first
        | exact ⟨rfl, 0, (World.drewN_zero _).symm⟩
        | exact ⟨rfl, _, rfl⟩
theorem rbytes_calls (w : World) (B g : Nat) (v : Value) (V L a : Nat) (n : Nat) (hr : Rdr w B g v V L a) (hL : L ≤ 100000000000000) (hE : byteE n a (8 * L - a) = none) :
    Calls Try.prog 29 #[.pointer (some ⟨g, 0, none⟩), .int .i64 n] w fun e w' => ∃ v', e = .returned (.tuple #[v', errV none]) ∧ w'.ownsRow w.heap.size 5 1 v' n (nums .u8 (leB (V / 2 ^ a) n)) ∧ Rdr w' B g v V L (a + 8 * n) ∧ Gone w w' g := by
  have HLf : Aside0 (Calls Try.prog 30 #[.pointer (some ⟨g, 0, none⟩)] w fun e w' => e = .returned (.int .i64 (8 * L - a : Nat)) ∧ ∃ m, w' = w.drewN m) := ⟨left_calls w B g v V L a hr hL⟩
  obtain ⟨c0, c1, f1⟩ := hr.cells
  have hle := hr.le
  unfold byteE at hE
  rw [if_neg (by omega)] at hE
  by_cases h2 : a % 8 = 0
  · rw [if_neg (by omega)] at hE
    by_cases h3 : (n : Int) > (((8 * L - a) / 8 : Nat) : Int)
    · rw [if_pos h3] at hE
      cases hE
    · obtain ⟨A, c, rfl⟩ := own_slice hr.row
      obtain ⟨A', c', e', hcc, hC⟩ := own_slice' hr.row
      cases e'
      obtain ⟨p, hp⟩ : ∃ p, p = a / 8 := ⟨_, rfl⟩
      have hpk : p + n ≤ L := by omega
      obtain ⟨i0, hi0, hz⟩ := Option.map_eq_some_iff.1 info_u8
      simp only [Prod.mk.injEq] at hz
      obtain ⟨A1, hcut, hC1, hnil⟩ := cut_mid (P := Try.prog) (k := .u8) 26 5 Try.underlying26 hi0 hz.2.1 A L c (leB V L) p (p + n) (by omega) hpk (leB_len _ _) hcc (own_cap hr.row)
      have hcut' : ∀ W : World, (Instr.slice 26 (.slice A L c) (some (.int .i64 p)) (some (.int .i64 ((p : Int) + (n : Int)))) none).run Try.prog W = .ok (.slice A1 (p + n - p) (c - p)) W := fun W => by
        have := hcut .i64 .i64 W
        rwa [Int.natCast_add] at this
      have e1 : p + n - p = n := by omega
      rw [e1] at hcut' hC1 hnil
      rw [leB_mid V L p n hpk, show 8 * p = a by omega] at hC1
      have HCl : Aside0 (∀ w1, (Kd.int .u8).C w1 A L (leB V L) → Calls Try.prog 35 #[.slice A1 n (c - p)] w1 fun e w' => ∃ v', e = .returned v' ∧ w'.ownsRow w1.heap.size 5 1 v' n (nums .u8 (leB (V / 2 ^ a) n)) ∧ Below w1.heap.size w1 w') := by
        refine ⟨fun w1 h => (clone_calls A1 n (c - p) _ w1 (hC1 w1 h) (by omega) (leB_len _ _) hnil).mono ?_⟩
        rintro e w' ⟨v', rfl, ho, hb⟩
        rw [leB_len] at ho
        exact ⟨v', rfl, ho, hb⟩
      have b1 : (((a : Int).tmod 8) != 0) = false := by rw [Int.tmod_eq_emod_of_nonneg (by omega)]; simp; omega
      have b2 : (((a : Int) % 8) != 0) = false := by simp; omega
      have b3 : (n : Int) ≤ ((8 * L - a : Nat) : Int) / 8 := by omega
      have b4 : ((8 * L - a : Nat) : Int) ≤ 800000000000000 := by omega
      have b5 : (a : Int) ≤ 800000000000000 := by omega
      have b6 : (a : Int) / 8 = (p : Int) := by omega
      have b7 : (p : Int) ≤ 100000000000000 := by omega
      have b8 : (n : Int) ≤ 100000000000000 := by omega
      have HR := Aside0.mk (fun m => ((hr.drewN m).set (a + 8 * n) (by omega)))
      have HG := Aside0.mk ((Gone.refl w g))
      have HCC := Aside0.mk hC
      have hne := hr.ne
      have HNE := Aside0.mk (show ∀ ad, A = some ad → 0 < L → ad.block ≠ g from fun ad h _ e => hne (by subst h; subst e; rfl))
      have ep : ((a + 8 * n : Nat) : Int) = (a : Int) + 8 * (n : Int) := by omega
      rw [ep] at HR
      generalize 8 * L - a = l at *
      clear hcut hC1 hnil hr hC hle hE h2 h3 hp hpk e1 ep hne hi0 hz hcc
      go_enter Try.func29, Try.ntmps29
      go_wp2_with (go_at_call 30; refine HLf.out.mono ?_; rintro e w' ⟨rfl, m1, rfl⟩)
      go_wp2_with (go_at_call 35; refine (HCl.out _ (C_of_readsInt (own_reads' (HR.out m1).row))).mono ?_; rintro e w2 ⟨v2, rfl, ho2, hb2⟩; replace ho2 := Aside0.mk ho2; replace hb2 := Aside0.mk hb2)
      go_ret2
      exact ⟨v2, rfl, own_weaken ho2.out (by simp), (HR.out m1).below hb2.out, ((HG.out.drewN m1).set 1 _).trans (Gone.of_below g hb2.out)⟩
  · rw [if_pos h2] at hE
    cases hE
end Go.Proofs.Ytjlophlheoikgaa.My
