/- The walk of bits.Reader.Peek, and the readers' small ones. -/
import Derived.Test.YtjlophlheoikgaaMyWput
import Derived.Test.YtjlophlheoikgaaMyClone
namespace Go.Proofs.Ytjlophlheoikgaa.My
open Go.RowKit Go.Proofs.YtjlophlheoikgaaW.PrintWords Go.Proofs.YtjlophlheoikgaaW.PrintLast Go.Proofs.YtjlophlheoikgaaW.PrintMore

/-- A reader of L bytes, the number V, that is at a bit. -/
structure Rdr (w : World) (B g : Nat) (v : Value) (V L at_ : Nat) : Prop where
  blk : w.heap[g]? = some (.cells #[v, .int .i64 at_] 71 (0, 0))
  row : w.ownsRow B 5 1 v L (nums .u8 (leB V L))
  lt : V < 2 ^ (8 * L)
  le : at_ ≤ 8 * L
  bg : B ≤ g
theorem Rdr.cells {w : World} {B g : Nat} {v : Value} {V L a : Nat} (k : Rdr w B g v V L a) : w.cell? ⟨g, 0, none⟩ = some v ∧ w.cell? ⟨g, 1, none⟩ = some (.int .i64 a) ∧ w.frozen? ⟨g, 1, none⟩ = false := by
  refine ⟨?_, ?_, ?_⟩ <;> first | (rw [blk_cell k.blk]; rfl) | exact blk_frozen k.blk _
theorem Rdr.drewN {w : World} {B g : Nat} {v : Value} {V L a : Nat} (k : Rdr w B g v V L a) (n : Nat) : Rdr (w.drewN n) B g v V L a := ⟨k.blk, pw_own_below k.row (pw_below_drewN (Below.refl _ _) n), k.lt, k.le, k.bg⟩
theorem Rdr.drew {w : World} {B g : Nat} {v : Value} {V L a : Nat} (k : Rdr w B g v V L a) : Rdr w.drew B g v V L a := ⟨k.blk, pw_own_below k.row (below_drew (Below.refl _ _)), k.lt, k.le, k.bg⟩
theorem Rdr.ne {w : World} {B g : Nat} {v : Value} {V L a : Nat} (k : Rdr w B g v V L a) : some g ≠ v.ownBlock := own_ne k.row k.blk (by decide)
theorem Rdr.set {w : World} {B g : Nat} {v : Value} {V L a : Nat} (k : Rdr w B g v V L a) (a' : Nat) (h : a' ≤ 8 * L) : Rdr (w.setCell ⟨g, 1, none⟩ (.int .i64 a')) B g v V L a' :=
  ⟨by have := blk_set k.blk 1 (.int .i64 a'); simpa using this, own_setCell k.row k.ne _, k.lt, h, k.bg⟩

theorem left_calls (w : World) (B g : Nat) (v : Value) (V L a : Nat) (hr : Rdr w B g v V L a) (hL : L ≤ 100000000000000) :
    Calls Try.prog 30 #[.pointer (some ⟨g, 0, none⟩)] w fun e w' => e = .returned (.int .i64 (8 * L - a : Nat)) ∧ ∃ m, w' = w.drewN m := by
  obtain ⟨c0, c1, f1⟩ := hr.cells
  obtain ⟨A, c, rfl⟩ := own_slice hr.row
  have hle := hr.le
  have e : ((8 * L - a : Nat) : Int) = 8 * (L : Int) - (a : Int) := by omega
  rw [e]
  have h1 : (a : Int) ≤ 8 * (L : Int) := by omega
  have h2 : (L : Int) ≤ 100000000000000 := by omega
  clear e hr
  go_enter Try.func30, Try.ntmps30
  go_wp2_with fail
  first | go_region | skip
  first | go_wp2_with fail | skip
  go_ret
  first
    | exact ⟨rfl, 0, (World.drewN_zero _).symm⟩
    | exact ⟨rfl, 1, rfl⟩
    | exact ⟨rfl, _, rfl⟩

set_option maxRecDepth 100000 in
theorem peek_calls (w : World) (B g : Nat) (v : Value) (V L a : Nat) (n : Nat) (hn : n ≤ 32) (hr : Rdr w B g v V L a) (hL : L ≤ 100000000000000) :
    Calls Try.prog 22 #[.pointer (some ⟨g, 0, none⟩), .int .i64 n] w fun e w' => e = .returned (.tuple #[.int .u32 (V / 2 ^ a % 2 ^ (min n (8 * L - a)) : Nat), .int .i64 (min n (8 * L - a) : Nat)]) ∧ ∃ m, w' = w.drewN m := by
  have HF : Aside0 (∀ w : World, Calls Try.prog 36 #[.int .i64 n] w fun e w' => e = .returned (.bool true) ∧ w = w') := ⟨fun w => (show inW n = true from decide_eq_true ⟨by omega, by omega⟩) ▸ fitsw_calls n w⟩
  have HLf : Aside0 (Calls Try.prog 30 #[.pointer (some ⟨g, 0, none⟩)] w fun e w' => e = .returned (.int .i64 (8 * L - a : Nat)) ∧ ∃ m, w' = w.drewN m) := ⟨left_calls w B g v V L a hr hL⟩
  obtain ⟨c0, c1, f1⟩ := hr.cells
  obtain ⟨A, c, rfl⟩ := own_slice hr.row
  obtain ⟨A', c', e', hcc, hC⟩ := own_slice' hr.row
  cases e'
  have hle := hr.le
  have HC := Aside0.mk hC
  obtain ⟨k, hk⟩ : ∃ k, k = min n (8 * L - a) := ⟨_, rfl⟩
  have hmin : min (n : Int) ((8 * L - a : Nat) : Int) = (k : Int) := by omega
  have hk32 : (k : Int) ≤ 32 := by omega
  rw [← hk]
  have HK := Aside0.mk (show a + k ≤ 8 * L by omega)
  obtain ⟨p, hp⟩ : ∃ p, p = a / 8 := ⟨_, rfl⟩
  obtain ⟨r, hr8⟩ : ∃ r, r = a % 8 := ⟨_, rfl⟩
  obtain ⟨q, hq⟩ : ∃ q, q = min (p + 5) L := ⟨_, rfl⟩
  have hd : (a : Int) / 8 = (p : Int) := by omega
  have hm : (a : Int).tmod 8 = (r : Int) := by rw [Int.tmod_eq_emod_of_nonneg (by omega)]; omega
  have hmin2 : min ((p : Int) + 5) (L : Int) = (q : Int) := by omega
  have hpq := Aside0.mk (show p ≤ q ∧ q ≤ L ∧ q ≤ p + 5 ∧ a = 8 * p + r ∧ r < 8 ∧ r + k ≤ 8 * (q - p) by omega)
  have hqL : (q : Int) ≤ 100000000000000 := by omega
  have hpL : (p : Int) ≤ 100000000000000 := by omega
  have h1 : (a : Int) ≤ 8 * (L : Int) := by omega
  have h2 : (L : Int) ≤ 100000000000000 := by omega
  generalize hlf : 8 * L - a = lf at *
  clear hr hC hk hle hlf hp hr8 hq
  obtain ⟨res, hres⟩ : ∃ res, res = V / 2 ^ a % 2 ^ k := ⟨_, rfl⟩
  have HE : Aside0 (res < 4294967296) := ⟨hres ▸ Nat.lt_of_lt_of_le (Nat.mod_lt _ (Nat.two_pow_pos _)) (Nat.pow_le_pow_right (n := 2) (by decide) (show k ≤ 32 by omega))⟩
  rw [← hres]
  have HRES := Aside0.mk hres
  clear hres
  go_enter Try.func22, Try.ntmps22
  go_wp2_with (first
    | (go_at_call 36; refine (HF.out _).mono ?_; rintro e w' ⟨rfl, rfl⟩)
    | (go_at_call 30; refine HLf.out.mono ?_; rintro e w' ⟨rfl, m1, rfl⟩))
  go_loopg [8, 9] (q - p) (fun kq v8 v9 wr => ∃ (i h : Nat), v8 = .int .u64 h ∧ v9 = .int .i64 ((i : Int) - 1) ∧ i ≤ q ∧ p ≤ i ∧ Aside0 (kq = i - p ∧ h = V / 2 ^ (8 * i) % 2 ^ (8 * (q - i))) ∧ Aside0 (∃ m, wr = w.drewN m))
  case atStart => exact ⟨q, 0, rfl, rfl, Nat.le_refl _, hpq.out.1, ⟨rfl, by simp [Nat.mod_one]⟩, ⟨_, rfl⟩⟩
  case round =>
    obtain ⟨i, h, rfl, rfl, hi, hpi, HI, HWr⟩ := hrel
    obtain ⟨m, rfl⟩ := HWr.out
    by_cases hgt : p < i
    · obtain ⟨j, rfl⟩ : ∃ j, i = j + 1 := ⟨i - 1, by omega⟩
      obtain ⟨ad, rfl, hcell⟩ := Kd.at_int HC.out (j : Int) (by omega) (by have := hpq.out; omega)
      rw [Int.toNat_natCast] at hcell
      have hx : rd (leB V L) (j : Int) = ((V / 2 ^ (8 * j) % 256 : Nat) : Int) := by unfold rd; rw [Int.toNat_natCast]; exact leB_getD _ _ _ (by have := hpq.out; omega)
      rw [hx] at hcell
      have hst := peek_step V j (q - (j + 1))
      rw [show q - (j + 1) + 1 = q - j by omega, ← HI.out.2] at hst
      have hx256 : V / 2 ^ (8 * j) % 256 < 256 := Nat.mod_lt _ (by decide)
      have hh32 : h < 2 ^ 32 := by
        rw [HI.out.2]
        exact Nat.lt_of_lt_of_le (Nat.mod_lt _ (Nat.two_pow_pos _)) (Nat.pow_le_pow_right (by decide) (by have := hpq.out; omega))
      generalize V / 2 ^ (8 * j) % 256 = x at *
      have hor := peek_or h x hh32 hx256
      have e1 : ((j + 1 : Nat) : Int) - 1 = (j : Int) := by omega
      have b1 : (p : Int) ≤ (j : Int) := by omega
      have b2 : (j : Int) < (L : Int) := by have := hpq.out; omega
      have b3 : (h : Int) < 4294967296 := by omega
      have b4 : (x : Int) < 256 := by omega
      have HS := Aside0.mk hst
      have HJ := Aside0.mk (show j ≤ q ∧ p ≤ j by omega)
      rw [e1]
      clear hx hst hh32 hx256 e1 hgt hpi hi
      go_wp2
      go_roundg (gk - 1)
      case measure => have := HI.out.1; omega
      case rel => exact ⟨j, h * 256 + x, by simp, rfl, HJ.out.1, HJ.out.2, ⟨by have := HI.out.1; omega, HS.out.symm⟩, HWr⟩
    · have ei : i = p := by omega
      subst ei
      have hh := HI.out.2
      have hend := peek_end V a i r k q hpq.out.2.2.2.1 hpq.out.2.2.2.2.2
      rw [← hh] at hend
      have hlt : h < 2 ^ 64 := by
        rw [hh]
        exact Nat.lt_of_lt_of_le (Nat.mod_lt _ (Nat.two_pow_pos _)) (Nat.pow_le_pow_right (by decide) (by have := hpq.out; omega))
      have hmask := peek_mask h r k hlt (by omega)
      rw [hend] at hmask
      rw [← HRES.out] at hmask
      have b1 : ((i : Int) - 1) < (i : Int) := by omega
      have br : (r : Int) < 8 := by have := hpq.out; omega
      clear hh hend hlt hgt hi hpi HI
      go_wp2_with fail
      go_region
      go_wp2_with fail
      go_ret2
      refine ⟨?_, _, rfl⟩
      show Ending.returned (.tuple #[.int .u32 (bits .and .u64 ((h : Int) / 2 ^ r) (IntKind.u64.wrap (IntKind.u64.wrap (2 ^ k) - 1)) % 4294967296), .int .i64 (k : Int)]) = _
      rw [mask_wrap k (by omega), hmask, show (res : Int) % 4294967296 = res by have := HE.out; omega]
end Go.Proofs.Ytjlophlheoikgaa.My
