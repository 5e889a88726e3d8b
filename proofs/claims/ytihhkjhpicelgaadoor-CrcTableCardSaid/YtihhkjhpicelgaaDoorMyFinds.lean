import Derived.Test.YtihhkjhpicelgaaDoorMyTells
namespace Go.Proofs.YtihhkjhpicelgaaDoor.My
open Go.RowKit Go.Proofs.YtihhkjhpicelgaaDoor.Plain Go.Proofs.YtihhkjhpicelgaaDoorW.PrintWords

def chg (t i : Nat) : Bool := decide (t % 2 ^ i ≠ 0)
theorem bit_test (t i : Nat) (ht : t < 2 ^ 32) : bits .and .u32 ((t : Int) / 2 ^ i) 1 = if t.testBit i then 1 else 0 := by
  have h1 : (t : Int) / 2 ^ i = ((t / 2 ^ i : Nat) : Int) := by simp
  have h2 : t / 2 ^ i < 2 ^ 32 := Nat.lt_of_le_of_lt (Nat.div_le_self _ _) ht
  rw [h1, show (1 : Int) = ((1 : Nat) : Int) from rfl, and_nat _ 1 h2 (by decide), Nat.and_one_is_mod, Nat.testBit_eq_decide_div_mod_eq]
  by_cases h : t / 2 ^ i % 2 = 1
  · simp [h]
  · simp [h]; omega

theorem xor8 (a b : Nat) (ha : a < 256) (hb : b < 256) : bits .xor .u8 a b = ((a ^^^ b : Nat) : Int) := by
  have hl : a ^^^ b < 2 ^ 8 := Nat.xor_lt_two_pow (by omega) (by omega)
  show IntKind.u8.wrap ((BitVec.ofInt 8 (a : Int) ^^^ BitVec.ofInt 8 (b : Int)).toNat : Int) = _
  rw [BitVec.ofInt_natCast, BitVec.ofInt_natCast, BitVec.toNat_xor, BitVec.toNat_ofNat, BitVec.toNat_ofNat, Nat.mod_eq_of_lt (by omega), Nat.mod_eq_of_lt (by omega), IntKind.wrap_u8]
  omega
theorem pow8 (k : Nat) (h : k < 8) : (2 : Int) ^ k % 256 = ((2 ^ k : Nat) : Int) ∧ 2 ^ k < 256 := by
  have : 2 ^ k < 2 ^ 8 := Nat.pow_lt_pow_right (by decide) h
  refine ⟨?_, this⟩
  rw [show (2 : Int) ^ k = ((2 ^ k : Nat) : Int) from by simp]
  generalize 2 ^ k = q at this ⊢
  omega
theorem getD_bytes (x : List Nat) (j : Nat) (hx : Bytes x) : x.getD j 0 < 256 := by
  rw [List.getD_eq_getElem?_getD]
  cases h : x[j]? with
  | none => simp
  | some y => exact hx y (List.mem_of_getElem? h)
theorem rd_getD (x : List Nat) (j : Nat) : rd (ints x) (j : Int) = ((x.getD j 0 : Nat) : Int) := by
  simp only [rd, ints, Int.toNat_natCast, List.getD_eq_getElem?_getD, List.getElem?_map]
  cases x[j]? <;> simp
theorem low_bit (t i : Nat) (h : t.testBit i = true) : t % 2 ^ (i + 1) = t % 2 ^ i ^^^ 2 ^ i ∧ t % 2 ^ (i + 1) ≠ 0 := by
  have h1 := low_snoc t i
  rw [if_pos h] at h1
  refine ⟨h1, fun h0 => ?_⟩
  have h2 : (t % 2 ^ (i + 1)).testBit i = true := by rw [Nat.testBit_mod_two_pow]; simp [h]
  rw [h0] at h2
  simp at h2
theorem set_bytes (x : List Nat) (j v : Nat) (hx : Bytes x) (hv : v < 256) : Bytes (x.set j v) := fun y hy => (List.mem_or_eq_of_mem_set hy).elim (hx y) (fun e => e ▸ hv)
theorem ints_set (x : List Nat) (j v : Nat) : (ints x).set j (v : Int) = ints (x.set j v) := by simp [ints, List.map_set]
theorem rem_of (x : Int) (n : Nat) (h0 : 0 < n) (h : n ≤ 2000) : ∃ f : Nat, wrap64 ((IntKind.u64.wrap x).tmod (8 * (n : Int))) = (f : Int) ∧ f < 8 * n := by
  have h1 : 0 ≤ IntKind.u64.wrap x := by simp only [IntKind.wrap, IntKind.bits, IntKind.signed]; simp; omega
  generalize IntKind.u64.wrap x = u at h1
  rw [Int.tmod_eq_emod_of_nonneg h1]
  have h2 := Int.emod_nonneg u (show 8 * (n : Int) ≠ 0 by omega)
  have h3 := Int.emod_lt_of_pos u (show 0 < 8 * (n : Int) by omega)
  generalize u % (8 * (n : Int)) = r at h2 h3
  exact ⟨r.toNat, by unfold wrap64; omega, by omega⟩

set_option maxHeartbeats 1000000 in
theorem finds_main (A1 : Option Addr) (c1 : Nat) (b : List Nat) (at_ : Int) (t : Nat) (w : World) (ht : TabW w) (hb : Bytes b)
    (hr1 : Kd.C (Kd.int .u8) w A1 (ints b).length (ints b)) (hc1 : (ints b).length ≤ c1) (h2000 : (ints b).length ≤ 2000) (h0 : 0 < (ints b).length) (ht0 : 0 < t) (ht32 : t < 4294967296) :
    Calls Tryd.prog 5 #[.slice A1 (ints b).length c1, .int .i64 at_, .int .u32 t] w fun e w' => e = .returned (.bool true) ∧ Below w.heap.size w w' := by
  have HT := Aside0.mk ht
  have HR := Aside0.mk hr1
  have HC := Aside0.mk hc1
  clear ht hr1 hc1
  have g1 : (((ints b).length : Int) == 0) = false := by rw [beq_eq_false_iff_ne]; omega
  have g2 : ((t : Int) == 0) = false := by rw [beq_eq_false_iff_ne]; omega
  go_enter Tryd.func5, Tryd.ntmps5
  go_wp2_with (first
    | (go_at_call 7; refine (alive_calls _ HT.out).mono ?_; rintro e w1 ⟨rfl, hb⟩; have HB := Aside0.mk hb; have HT1 := Aside0.mk (HT.out.below hb); have HR1 := Aside0.mk (Kd.C_below HR.out hb); clear hb)
    | ((with_reducible refine gate_dst (N := 27) rfl ?_); refine print_append_row (w0 := w1) w1.heap.size rfl (.tmp 25) (.tmp 26) 23 5 .u8 1 rfl Tryd.underlying23 info5 (by decide) _ [] (ints b) A1 _ c1 rfl rfl (own_lit w1 w1.heap.size 5 .u8 [] (Nat.le_refl _) (by decide)) (reads_of_C (Kd.C_alloc HR1.out _)) (below_alloc (Below.refl _ _) _) (by simp) (by simp; omega) ?_; intro v1 w2 ho hb hg hn; clear hg hn; rw [List.nil_append] at ho; have HB2 := Aside0.mk hb; have HO := Aside0.mk ho; clear hb ho))
  obtain ⟨f, hf⟩ : ∃ f : Nat, wrap64 ((IntKind.u64.wrap at_).tmod (8 * ((ints b).length : Int))) = (f : Int) ∧ f < 8 * (ints b).length := rem_of _ _ h0 h2000
  rw [hf.1]
  have HF := Aside0.mk hf.2
  clear hf
  obtain ⟨g, cap, rfl, hgb, hgl⟩ := HO.out.form (by omega)
  have HL := Aside0.mk (show (ints b).length = b.length from by simp [ints])
  go_loopg [9, 10] 32 (fun kq v9 v10 wr => ∃ (i : Nat) (x : List Nat), v9 = .bool (chg t i) ∧ v10 = .int .i64 i ∧ i ≤ 32 ∧ Aside0 (f + i ≤ 8 * (ints b).length) ∧ Aside0 (kq = 32 - i) ∧ Aside0 (x.length = b.length ∧ Bytes x ∧ num x = num b ^^^ 2 ^ f * (t % 2 ^ i)) ∧ Aside0 (wr.ownsRow w1.heap.size 5 1 (.slice (some ⟨g, 0, none⟩) (ints b).length cap) (ints b).length (nums .u8 (ints x))) ∧ Aside0 (Below w1.heap.size w1 wr))
  case atStart => exact ⟨0, b, by simp [chg, Nat.mod_one], rfl, by omega, ⟨by have := HF.out; omega⟩, ⟨rfl⟩, ⟨rfl, hb, by simp [Nat.mod_one]⟩, HO, HB2⟩
  case round =>
    obtain ⟨i, x, rfl, rfl, hi, HI, HK, HX, HOx, HBx⟩ := hrel
    by_cases hlt : i < 32 ∧ f + i < 8 * (ints b).length
    · obtain ⟨hlt, hlf⟩ := hlt
      have hcf := own_at HOx.out (((f + i) / 8 : Nat) : Int) (by omega) (by omega)
      rw [Int.toNat_natCast] at hcf
      obtain ⟨hc, hfz⟩ := hcf
      by_cases hbit : t.testBit i = true
      · have hb1 : (bits .and .u32 ((t : Int) / 2 ^ i) 1 == 1) = true := by rw [bit_test t i ht32, hbit]; rfl
        have hrd : rd (ints x) (((f + i) / 8 : Nat) : Int) = ((x.getD ((f + i) / 8) 0 : Nat) : Int) ∧ x.getD ((f + i) / 8) 0 < 256 := ⟨rd_getD _ _, getD_bytes _ _ HX.out.2.1⟩
        rw [hrd.1] at hc
        generalize hy : x.getD ((f + i) / 8) 0 = y at hc hrd
        have HY := Aside0.mk hy
        have hy256 := hrd.2
        clear hrd hy
        go_wp2
        go_roundg (gk - 1)
        case measure => have := HK.out; omega
        case rel =>
          have hp := pow8 ((f + i) % 8) (by omega)
          have hl := low_bit t i hbit
          have hset := num_set x ((f + i) / 8) ((f + i) % 8) (by rw [HX.out.1, ← HL.out]; omega)
          rw [HY.out, show 8 * ((f + i) / 8) + (f + i) % 8 = f + i from by omega] at hset
          have hst := own_store HOx.out (((f + i) / 8 : Nat) : Int) ((y ^^^ 2 ^ ((f + i) % 8) : Nat) : Int)
          rw [Int.toNat_natCast, ints_set] at hst
          refine ⟨i + 1, x.set ((f + i) / 8) (y ^^^ 2 ^ ((f + i) % 8)), by simp [chg, hl.2], by go_num, by omega, ⟨by omega⟩, ⟨by have := HK.out; omega⟩, ⟨by simp [HX.out.1], set_bytes _ _ _ HX.out.2.1 (Nat.xor_lt_two_pow (n := 8) hy256 hp.2), ?_⟩, ⟨?_⟩, ⟨?_⟩⟩
          · rw [hset, HX.out.2.2, hl.1, xor_mul_two_pow, Nat.xor_assoc, ← Nat.pow_add]
          · rw [hp.1, xor8 _ _ hy256 hp.2]
            exact hst.1
          · exact HBx.out.setCell (p := ⟨g, (f + i) / 8, none⟩) hgb _
      · have hbf : t.testBit i = false := by simpa using hbit
        have hb1 : (bits .and .u32 ((t : Int) / 2 ^ i) 1 == 1) = false := by rw [bit_test t i ht32, hbf]; rfl
        have hl := low_snoc t i
        rw [hbf, if_neg (by simp), Nat.xor_zero] at hl
        have HLw := Aside0.mk hl
        clear hl hbit hbf hc hfz
        go_wp2
        go_roundg (gk - 1)
        case measure => have := HK.out; omega
        case rel =>
          refine ⟨i + 1, x, by show Value.bool (decide (t % 2 ^ i ≠ 0)) = Value.bool (decide (t % 2 ^ (i + 1) ≠ 0)); rw [HLw.out], by go_num, by omega, ⟨by omega⟩, ⟨by have := HK.out; omega⟩, ⟨HX.out.1, HX.out.2.1, by rw [HLw.out]; exact HX.out.2.2⟩, HOx, HBx⟩
    · have hT : TabW wr := HT1.out.below HBx.out
      have HTx := Aside0.mk hT
      have HRb := Aside0.mk (Kd.C_below HR1.out HBx.out)
      obtain ⟨A3, c3, e3, hc3, hr3⟩ := own_slice' HOx.out
      cases e3
      have hlx : (ints x).length = (ints b).length := by rw [HL.out]; simp [ints, HX.out.1]
      rw [← hlx] at hc3 hr3
      have HRx := Aside0.mk hr3
      have HCx := Aside0.mk hc3
      have HLx := Aside0.mk hlx
      have hbx : t % 2 ^ i < 2 ^ 32 := Nat.lt_of_le_of_lt (Nat.mod_le _ _) ht32
      have hfin := finds 0 f (t % 2 ^ i) x b HX.out.1 HX.out.2.2 (by have := HF.out; rw [← HL.out]; omega) hbx
      have HE1 : Aside0 (addF 0 (ints x) = ((addN 0 x : Nat) : Int)) := ⟨addF_nat 0 x (by decide) HX.out.2.1⟩
      have HE2 : Aside0 (addF 0 (ints b) = ((addN 0 b : Nat) : Int)) := ⟨addF_nat 0 b (by decide) hb⟩
      have HE3 : Aside0 ((((addN 0 x : Nat) : Int) != ((addN 0 b : Nat) : Int)) = chg t i) := ⟨by
        unfold chg
        by_cases h : t % 2 ^ i = 0
        · rw [hfin.2 h]; simp [h]
        · have : ¬ addN 0 x = addN 0 b := fun e => h (hfin.1 e)
          simp [h]; omega⟩
      clear hT hc3 hr3 hlx hbx hfin
      have hof : Aside0 (Calls Tryd.prog 8 #[.slice (some ⟨g, 0, none⟩) (ints b).length cap] wr fun e w' => e = .returned (.int .u32 (addF 0 (ints x))) ∧ Drawn0 wr w') := by
        have h := of_calls (some ⟨g, 0, none⟩) cap (ints x) wr HTx.out HRx.out HCx.out
        rw [HLx.out] at h
        exact ⟨h⟩
      by_cases hlt32 : i < 32
      · have hlf : ¬ f + i < 8 * (ints b).length := fun h => hlt ⟨hlt32, h⟩
        have hd : decide ((f : Int) + (i : Int) < 8 * ((ints b).length : Int)) = false := by simp; omega
        have hfb := HF.out
        clear hlt
        go_wp2_with fail
        refine hof.out.mono ?_
        rintro e w4 ⟨rfl, ⟨n1, rfl⟩⟩
        rw [HE1.out]
        go_wp2_with fail
        refine (of_calls _ _ (ints b) _ (HTx.out.drewN _) (Kd.C_drewN HRb.out _) HC.out).mono ?_
        rintro e w4 ⟨rfl, ⟨n2, rfl⟩⟩
        rw [HE2.out]
        go_wp2
        go_ret
        refine ⟨?_, pw_below_drewN (below_then HB.out HB.out.size HBx.out) _⟩
        simp [HE3.out]
      · clear hlt
        go_wp2_with fail
        refine hof.out.mono ?_
        rintro e w4 ⟨rfl, ⟨n1, rfl⟩⟩
        rw [HE1.out]
        go_wp2_with fail
        refine (of_calls _ _ (ints b) _ (HTx.out.drewN _) (Kd.C_drewN HRb.out _) HC.out).mono ?_
        rintro e w4 ⟨rfl, ⟨n2, rfl⟩⟩
        rw [HE2.out]
        go_wp2
        go_ret
        refine ⟨?_, pw_below_drewN (below_then HB.out HB.out.size HBx.out) _⟩
        simp [HE3.out]
end Go.Proofs.YtihhkjhpicelgaaDoor.My
