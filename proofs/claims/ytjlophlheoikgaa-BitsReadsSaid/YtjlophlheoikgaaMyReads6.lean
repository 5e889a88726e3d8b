/- BitsReads: what any reader answers, behind any acts. -/
import Derived.Test.YtjlophlheoikgaaMyRefR
import Derived.Test.YtjlophlheoikgaaMyRef6
import Derived.Test.YtjlophlheoikgaaMyScript
namespace Go.Proofs.Ytjlophlheoikgaa.My
open Go.RowKit Go.Proofs.YtjlophlheoikgaaW.PrintWords Go.Proofs.YtjlophlheoikgaaW.PrintLast Go.Proofs.YtjlophlheoikgaaW.PrintMore

theorem own_C {w : World} {base n c : Nat} {e : TypeId} {k : IntKind} {A : Option Addr} {xs : List Int} (h : w.ownsRow base e 1 (.slice A n c) n (nums k xs)) : (Kd.int k).C w A n xs := C_of_readsInt (own_reads' h)
theorem refOf_own (A : Option Addr) (c n V : Nat) (w : World) (hn : n ≤ 1000000000000) (hl : (Kd.int .u8).C w A n (leB V n)) (hc : n ≤ c) :
    Calls Try.prog 13 #[.slice A n c] w fun e w' => ∃ A' c', e = .returned (.slice A' (8 * n) c') ∧ w'.ownsRow w.heap.size 5 1 (.slice A' (8 * n) c') (8 * n) (nums .u8 (btL V (8 * n))) ∧ Below w.heap.size w w' := by
  have h := POf.crossdockref06_Of.calls (10 * n + 1) A c (leB V n) _ w (by rw [leB_len]; exact hl) (by rw [leB_len]; exact hc) (of_f V n hn)
  rw [leB_len] at h
  refine h.mono ?_
  rintro e w' ⟨v, rfl, hr, hb⟩
  have ho := Kd.own_of_R (enc := Value.int .u8) hr
  rw [btL_len] at ho
  obtain ⟨A', c', rfl⟩ := own_slice ho
  exact ⟨A', c', rfl, ho, hb⟩
/-- The state of a round: a reader, the document's in a box. -/
structure St (w wr : World) (g gm : Nat) (v : Value) (Am : Option Addr) (cm V n ar am : Nat) : Prop where
  rdr : Rdr wr w.heap.size g v V n ar
  box : wr.heap[gm]? = some (.cells #[.slice Am (8 * n) cm, .int .i64 am] 50 (0, 0))
  row : wr.ownsRow w.heap.size 5 1 (.slice Am (8 * n) cm) (8 * n) (nums .u8 (btL V (8 * n)))
  bel : Below w.heap.size w wr
  gmB : w.heap.size ≤ gm
theorem St.below {w wr w' : World} {g gm : Nat} {v : Value} {Am : Option Addr} {cm V n ar am : Nat} (h : St w wr g gm v Am cm V n ar am) (hb : Below wr.heap.size wr w') : St w w' g gm v Am cm V n ar am :=
  ⟨h.rdr.below hb, blk_below h.box hb, pw_own_below h.row hb, h.bel.trans (hb.mono h.bel.size), h.gmB⟩
theorem St.ne {w wr : World} {g gm : Nat} {v : Value} {Am : Option Addr} {cm V n ar am : Nat} (h : St w wr g gm v Am cm V n ar am) : gm ≠ g := blk_ne h.box h.rdr.blk (by decide)
theorem St.read {w wr w' : World} {g gm : Nat} {v : Value} {Am : Option Addr} {cm V n ar am ar' : Nat} (h : St w wr g gm v Am cm V n ar am) (hr : Rdr w' w.heap.size g v V n ar') (hg : Gone wr w' g) : St w w' g gm v Am cm V n ar' am :=
  ⟨hr, hg.keep.blk h.box h.ne (by simp), hg.keep.own h.row (fun e => own_ne h.row h.rdr.blk (by decide) e.symm) (by cases (Value.slice Am (8 * n) cm).ownBlock <;> simp), hg.below h.bel h.bel.size h.rdr.bg, h.gmB⟩
theorem St.store {w wr : World} {g gm : Nat} {v : Value} {Am : Option Addr} {cm V n ar am : Nat} (h : St w wr g gm v Am cm V n ar am) (am' : Nat) :
    St w ((wr.setCell ⟨gm, 0, none⟩ (.slice Am (8 * n) cm)).setCell ⟨gm, 1, none⟩ (.int .i64 am')) g gm v Am cm V n ar am' := by
  have h0 := own_ne h.row h.box (by decide)
  have h1 := own_ne h.rdr.row h.box (by decide)
  refine ⟨⟨?_, own_setCell (own_setCell h.rdr.row h1 _) h1 _, h.rdr.lt, h.rdr.le, h.rdr.bg⟩, ?_, own_setCell (own_setCell h.row h0 _) h0 _, (h.bel.setCell h.gmB _).setCell h.gmB _, h.gmB⟩
  · exact blk_far (blk_far h.rdr.blk (fun e => h.ne e.symm) _) (fun e => h.ne e.symm) _
  · refine blk_put (cs := #[.slice Am (8 * n) cm, .int .i64 am]) ?_ 1 _ rfl
    exact blk_put (cs := #[.slice Am (8 * n) cm, .int .i64 am]) h.box 0 _ rfl
/-- A store into a row of bytes that is none of these. -/
theorem St.far {w wr : World} {g gm : Nat} {v : Value} {Am : Option Addr} {cm V n ar am : Nat} (h : St w wr g gm v Am cm V n ar am) {p : Addr} (hB : w.heap.size ≤ p.block) (h1 : g ≠ p.block) (h2 : gm ≠ p.block) (h3 : some p.block ≠ v.ownBlock) (h4 : some p.block ≠ (Value.slice Am (8 * n) cm).ownBlock) (u : Value) : St w (wr.setCell p u) g gm v Am cm V n ar am :=
  ⟨⟨blk_far h.rdr.blk h1 _, own_setCell h.rdr.row h3 _, h.rdr.lt, h.rdr.le, h.rdr.bg⟩, blk_far h.box h2 _, own_setCell h.row h4 _, h.bel.setCell hB _, h.gmB⟩
theorem own_head {w : World} {B e n c m : Nat} {A : Option Addr} {xs : List Value} (h : w.ownsRow B e 1 (.slice A m c) n xs) (hn : 0 < n) : ∃ g, A = some ⟨g, 0, none⟩ ∧ B ≤ g := by
  rcases h.2 with ⟨h1, h0⟩ | ⟨g, cap, cur, hv, hb, _⟩
  · omega
  · cases hv; exact ⟨g, rfl, hb⟩
theorem St.drew {w wr : World} {g gm : Nat} {v : Value} {Am : Option Addr} {cm V n ar am : Nat} (h : St w wr g gm v Am cm V n ar am) : St w wr.drew g gm v Am cm V n ar am := h.below (below_drew (Below.refl _ _))
theorem St.drewN {w wr : World} {g gm : Nat} {v : Value} {Am : Option Addr} {cm V n ar am : Nat} (h : St w wr g gm v Am cm V n ar am) (m : Nat) : St w (wr.drewN m) g gm v Am cm V n ar am := h.below (pw_below_drewN (Below.refl _ _) m)

theorem arm_bits (B g : Nat) (v : Value) (V lb a : Nat) (n : Int) (A : Option Addr) (cm : Nat) (hlb : lb ≤ 60) (ha : a ≤ 8 * lb) (hc : 8 * lb ≤ cm) (hcap : A = none → 8 * lb = 0 ∧ cm = 0) : ∃ (R : Int) (a' : Nat) (E : Int) (X : Value), a' ≤ 8 * lb ∧
    (∀ w1, (Kd.int .u8).C w1 A (8 * lb) (btL V (8 * lb)) → Calls Try.prog 25 #[.agg #[.slice A (8 * lb) cm, .int .i64 a], .int .i64 n] w1 fun r w' => r = .returned (.tuple #[.int .u32 R, .agg #[.slice A (8 * lb) cm, .int .i64 a'], .int .i64 E]) ∧ Below w1.heap.size w1 w') ∧
    (∀ w5, Rdr w5 B g v V lb a → Calls Try.prog 21 #[.pointer (some ⟨g, 0, none⟩), .int .i64 n] w5 fun r w' => r = .returned (.tuple #[.int .u32 R, X]) ∧ Rdr w' B g v V lb a' ∧ Gone w5 w' g) ∧
    ∀ w, Calls Try.prog 15 #[X] w fun r w' => r = .returned (.int .i64 E) ∧ w = w' := by
  cases hE : bitsE n (8 * lb - a) with
  | some e =>
    have hX : bitsX V a (8 * lb - a) n = 0 := by unfold bitsX; rw [hE]; rfl
    have he : e ≠ 0 := by
      unfold bitsE at hE
      split at hE
      · split at hE <;> cases hE
        decide
      · cases hE; decide
    refine ⟨0, a, e, errV (some e), ha, fun w1 h => refBits_bad A (8 * lb) cm a n e w1 (by omega) ha hE, fun w5 h => ?_, fun w => num_calls (some e) w (fun c hc => by cases hc; exact he)⟩
    have := rbits_calls w5 B g v V lb a n h (by omega)
    rw [hE, hX] at this
    exact this
  | none =>
    have hX : bitsX V a (8 * lb - a) n = V / 2 ^ a % 2 ^ n.toNat := by unfold bitsX; rw [hE]; rfl
    have hn : 0 ≤ n ∧ n.toNat ≤ 8 * lb - a := by
      unfold bitsE at hE
      cases hf : inW n with
      | false => rw [hf] at hE; cases hE
      | true =>
        have hin : 0 ≤ n ∧ n ≤ 32 := of_decide_eq_true hf
        rw [hf, if_pos rfl] at hE
        split at hE
        · omega
        · cases hE
    obtain ⟨k, rfl⟩ := Int.eq_ofNat_of_zero_le hn.1
    rw [Int.toNat_natCast] at *
    refine ⟨((V / 2 ^ a % 2 ^ k : Nat) : Int), a + k, 0, errV none, by omega, fun w1 h => ?_, fun w5 h => ?_, fun w => num_calls none w (fun c hc => by cases hc)⟩
    · have := refBits_calls A V (8 * lb) cm a k w1 (by omega) ha h hc hcap hE
      rwa [Int.natCast_add]
    · have := rbits_calls w5 B g v V lb a k h (by omega)
      rw [hE, hX, Int.toNat_natCast] at this
      exact this
theorem arm_bytes (B g : Nat) (v : Value) (V lb a : Nat) (n : Int) (A : Option Addr) (cm : Nat) (hlb : lb ≤ 60) (ha : a ≤ 8 * lb) (hc : 8 * lb ≤ cm) (hcap : A = none → 8 * lb = 0 ∧ cm = 0) : ∃ (m : Nat) (ys : List Int) (a' : Nat) (E : Int) (X : Value), a' ≤ 8 * lb ∧
    (∀ w1, (Kd.int .u8).C w1 A (8 * lb) (btL V (8 * lb)) → Calls Try.prog 28 #[.agg #[.slice A (8 * lb) cm, .int .i64 a], .int .i64 n] w1 fun r w' => ∃ A1 c1, r = .returned (.tuple #[.slice A1 m c1, .agg #[.slice A (8 * lb) cm, .int .i64 a'], .int .i64 E]) ∧ w'.ownsRow w1.heap.size 5 1 (.slice A1 m c1) m (nums .u8 ys) ∧ Below w1.heap.size w1 w') ∧
    (∀ w5, Rdr w5 B g v V lb a → Calls Try.prog 29 #[.pointer (some ⟨g, 0, none⟩), .int .i64 n] w5 fun r w' => ∃ A2 c2, r = .returned (.tuple #[.slice A2 m c2, X]) ∧ w'.ownsRow w5.heap.size 5 1 (.slice A2 m c2) m (nums .u8 ys) ∧ Rdr w' B g v V lb a' ∧ Gone w5 w' g) ∧
    ∀ w, Calls Try.prog 15 #[X] w fun r w' => r = .returned (.int .i64 E) ∧ w = w' := by
  cases hE : byteE n a (8 * lb - a) with
  | some e =>
    have he : e ≠ 0 := by
      unfold byteE at hE
      split at hE
      · cases hE; decide
      · split at hE
        · cases hE; decide
        · split at hE <;> cases hE
          decide
    refine ⟨0, [], a, e, errV (some e), ha, fun w1 h => ?_, fun w5 h => ?_, fun w => num_calls (some e) w (fun c hc => by cases hc; exact he)⟩
    · refine (refBytes_bad A (8 * lb) cm a n e w1 (by omega) ha hE).mono ?_
      rintro r w' ⟨rfl, hb⟩
      exact ⟨none, 0, rfl, own_nil _ _ _ _, hb⟩
    · refine (rbytes_bad w5 B g v V lb a n e h (by omega) hE).mono ?_
      rintro r w' ⟨rfl, m, rfl⟩
      exact ⟨none, 0, rfl, own_nil _ _ _ _, h.drewN m, (Gone.refl _ _).drewN m⟩
  | none =>
    have hn : 0 ≤ n ∧ a + 8 * n.toNat ≤ 8 * lb := by
      unfold byteE at hE
      split at hE
      · cases hE
      · split at hE
        · cases hE
        · split at hE
          · cases hE
          · omega
    obtain ⟨k, rfl⟩ := Int.eq_ofNat_of_zero_le hn.1
    rw [Int.toNat_natCast] at hn
    refine ⟨k, leB (V / 2 ^ a) k, a + 8 * k, 0, errV none, hn.2, fun w1 h => ?_, fun w5 h => ?_, fun w => num_calls none w (fun c hc => by cases hc)⟩
    · have := refBytes_calls A V (8 * lb) cm a k w1 (by omega) ha h hc hcap hE
      rw [show ((a + 8 * k : Nat) : Int) = (a : Int) + 8 * (k : Int) by omega]
      exact this
    · refine (rbytes_calls w5 B g v V lb a k h (by omega) hE).mono ?_
      rintro r w' ⟨v', rfl, ho, hr, hg⟩
      obtain ⟨A2, c2, rfl⟩ := own_slice ho
      exact ⟨A2, c2, rfl, ho, hr, hg⟩
theorem arm_peek (B g : Nat) (v : Value) (V lb a : Nat) (n : Int) (A : Option Addr) (cm : Nat) (hlb : lb ≤ 60) (ha : a ≤ 8 * lb) (hc : 8 * lb ≤ cm) : ∃ (R M : Int),
    (∀ w1, (Kd.int .u8).C w1 A (8 * lb) (btL V (8 * lb)) → Calls Try.prog 26 #[.agg #[.slice A (8 * lb) cm, .int .i64 a], .int .i64 n] w1 fun r w' => r = .returned (.tuple #[.int .u32 R, .int .i64 M]) ∧ Below w1.heap.size w1 w') ∧
    (∀ w5, Rdr w5 B g v V lb a → Calls Try.prog 22 #[.pointer (some ⟨g, 0, none⟩), .int .i64 n] w5 fun r w' => r = .returned (.tuple #[.int .u32 R, .int .i64 M]) ∧ ∃ m, w' = w5.drewN m) := by
  cases hf : inW n with
  | false =>
    refine ⟨0, 0, fun w1 h => refPeek_bad A V (8 * lb) cm a n w1 hf h hc, fun w5 h => (peekx_calls g n w5 hf).mono ?_⟩
    rintro r w' ⟨rfl, rfl⟩
    exact ⟨rfl, 0, (World.drewN_zero _).symm⟩
  | true =>
    have hin : 0 ≤ n ∧ n ≤ 32 := of_decide_eq_true hf
    obtain ⟨k, rfl⟩ := Int.eq_ofNat_of_zero_le hin.1
    exact ⟨_, _, fun w1 h => refPeek_calls A V (8 * lb) cm a k w1 (by omega) (by omega) ha h hc, fun w5 h => peek_calls w5 B g v V lb a k (by omega) h (by omega)⟩
set_option maxHeartbeats 4000000 in
set_option maxRecDepth 100000 in
theorem reads_walk (Ab : Option Addr) (lb cb : Nat) (zb : List Int) (A : Option Addr) (cap : Nat) (l : List Ac) (w : World) (hrow : IsRow .u8 w Ab lb cb zb) (_hcb : lb * 1 ≤ 140737488351232) (hcap : l.length ≤ cap) (hs : Script w A l) (_ : ∀ a ∈ l, ∃ zs, IsRow .u8 w a.A a.l a.c zs) :
    Calls Try.prog 5 #[.slice Ab lb cb, .slice A l.length cap] w fun e w' => e = .returned (.bool true) ∧ Below w.heap.size w w' := by
  have HA : Aside0 (∀ w : World, Calls Try.prog 7 #[] w fun e w' => e = .returned (.bool true) ∧ Below w.heap.size w w') := ⟨alive_calls⟩
  have u1 := Try.underlying31
  have HS := Aside0.mk hs
  obtain ⟨zs, hzl, hzc, hzC, hzw⟩ := row_C hrow
  have hzb : ∀ z ∈ zs, 0 ≤ z ∧ z < 256 := fun z hz => wf_u8 (hzw z hz)
  obtain ⟨V, hV⟩ : ∃ V, V = ofB zs := ⟨_, rfl⟩
  have hVz : leB V lb = zs := by rw [hV, ← hzl]; exact leB_ofB zs hzb
  have hVl : V < 2 ^ (8 * lb) := by rw [hV, ← hzl]; exact ofB_lt zs hzb
  rw [hzl, ← hVz] at hzC
  have HC := Aside0.mk hzC
  have HVl := Aside0.mk hVl
  have HCC := Aside0.mk hzc
  clear hs hrow hzb hzw hzl hV hVz hVl hzC hzc
  by_cases h1 : lb ≤ 60
  · by_cases h2 : l.length ≤ 60
    · have b1 : decide ((60 : Int) < (lb : Int)) = false := by simp; omega
      have b2 : decide ((60 : Int) < ((l.length : Nat) : Int)) = false := by simp; omega
      have b3 : (lb : Int) ≤ 60 := by omega
      have b4 : ((l.length : Nat) : Int) ≤ 60 := by omega
      generalize hL : l.length = L at *
      have HL := Aside0.mk hL
      have HLB := Aside0.mk h1
      clear hL h1 h2
      go_enter Try.func5, Try.ntmps5
      go_wp2_with (first
        | (go_at_call 7; refine (HA.out _).mono ?_; rintro e w1 ⟨rfl, hb⟩; replace hb := Aside0.mk hb)
        | ((with_reducible refine gate_dst (N := 40) rfl ?_); refine print_append_row (w0 := w) w.heap.size rfl (.tmp 38) (.tmp 39) 26 5 .u8 1 rfl Try.underlying26 info_u8 (by decide) _ [] (leB V lb) Ab _ cb rfl rfl (own_lit w1 w.heap.size 5 .u8 [] hb.out.size (by decide)) (reads_of_C (Kd.C_alloc (Kd.C_below HC.out hb.out) _)) (below_alloc hb.out _) (by have := hb.out.size; simp; omega) (by have := HLB.out; simp; omega) ?_; intro v1 w2 ho hb2 hg hk; clear hg hk; rw [List.nil_append, leB_len] at ho; obtain ⟨A5, c5, rfl⟩ := own_slice ho; have HB2 := Aside0.mk hb2; have HO5 := Aside0.mk ho; clear hb2 ho)
        | (go_at_call 20; refine (newReader_calls A5 lb c5 V _ (own_C HO5.out) HVl.out (by have := HLB.out; omega) (own_cap HO5.out)).mono ?_; rintro e w3 ⟨g3, v3, rfl, hr, hb3⟩; replace hr := Aside0.mk hr; replace hb3 := Aside0.mk hb3)
        | (go_at_call 13; refine (refOf_own Ab cb lb V _ (by have := HLB.out; omega) (Kd.C_below (Kd.C_below HC.out HB2.out) hb3.out) HCC.out).mono ?_; rintro e w4 ⟨Am, cm, rfl, hrm, hb4⟩; replace hrm := Aside0.mk hrm; replace hb4 := Aside0.mk hb4))
      have hst : Aside0 (St w (w4.alloc (.cells #[.slice Am (8 * lb) cm, .int .i64 0] 50)) g3 w4.heap.size v3 Am cm V lb 0 0) := by
        have s2 := HB2.out.size
        have s3 := hb3.out.size
        have s4 := hb4.out.size
        refine ⟨⟨?_, alloc_self _ _, (own_weaken hrm.out (Nat.le_trans s2 s3)).alloc _, below_alloc ((HB2.out.trans (hb3.out.mono s2)).trans (hb4.out.mono (Nat.le_trans s2 s3))) _, by omega⟩⟩
        exact (Rdr.alloc (Rdr.below ⟨hr.out.blk, own_weaken hr.out.row s2, hr.out.lt, hr.out.le, Nat.le_trans s2 hr.out.bg⟩ hb4.out) _)
      have ho5 : Aside0 ((w4.alloc (.cells #[.slice Am (8 * lb) cm, .int .i64 0] 50)).ownsRow w.heap.size 5 1 (.slice A5 lb c5) lb (nums .u8 (leB V lb))) := ⟨own_alloc (pw_own_below (pw_own_below HO5.out hb3.out) hb4.out) _⟩
      have hs1 : Aside0 (∀ k, (Value.slice A5 lb c5).ownBlock = some k → some k ≠ v3.ownBlock ∧ some k ≠ (Value.slice Am (8 * lb) cm).ownBlock) := by
        refine ⟨fun k hk => ⟨fun e => ?_, fun e => ?_⟩⟩
        · have e1 := own_lt HO5.out k hk
          have e2 := own_base hr.out.row k e.symm
          omega
        · have e1 := own_lt HO5.out k hk
          have e2 := own_base hrm.out k e.symm
          have := hb3.out.size
          omega
      go_loopg [48] lb (fun kq v48 wr => ∃ (i : Nat) (zs : List Int), v48 = .int .i64 i ∧ i ≤ lb ∧ Aside0 (kq = lb - i) ∧ Aside0 (zs.length = lb) ∧ Aside0 (wr.ownsRow w.heap.size 5 1 (.slice A5 lb c5) lb (nums .u8 zs)) ∧ Aside0 (St w wr g3 w4.heap.size v3 Am cm V lb 0 0))
      case atStart => exact ⟨0, leB V lb, rfl, Nat.zero_le _, ⟨rfl⟩, ⟨leB_len _ _⟩, ho5, hst⟩
      case round =>
        obtain ⟨i, zs, rfl, hi, HK, HZ, HR, HT⟩ := hrel
        by_cases hlt : i < lb
        · have hlt' : (i : Int) < (lb : Int) := by omega
          obtain ⟨g5, rfl, hg5⟩ := own_head HR.out (by omega)
          obtain ⟨c0, f0⟩ := own_at HR.out (i : Int) (by omega) (by omega)
          rw [Int.toNat_natCast] at c0 f0
          have HSt := Aside0.mk (fun y : Int => (own_store HR.out (i : Int) y).1)
          have HSf := Aside0.mk (fun u : Value => HT.out.far (p := ⟨g5, i, none⟩) hg5 (fun e => own_ne HR.out HT.out.rdr.blk (by decide) (by rw [e]; rfl)) (fun e => own_ne HR.out HT.out.box (by decide) (by rw [e]; rfl)) (hs1.out g5 rfl).1 (hs1.out g5 rfl).2 u)
          have HI := Aside0.mk (show i + 1 ≤ lb by omega)
          generalize rd zs (i : Int) = x at *
          clear hi hlt
          go_wp2_with fail
          go_roundg (gk - 1)
          case measure => have := HK.out; have := HI.out; omega
          case rel =>
            have k1 := HSt.out (bits .xor .u8 x 255)
            rw [Int.toNat_natCast] at k1
            exact ⟨i + 1, _, by go_num, HI.out, ⟨by have := HK.out; omega⟩, ⟨by rw [List.length_set]; exact HZ.out⟩, ⟨k1⟩, ⟨HSf.out _⟩⟩
        · have hni : ¬ ((i : Int) < (lb : Int)) := by omega
          clear hi hlt
          have hcm := Aside0.mk (own_le HT.out.row)
          have hcap := Aside0.mk (own_cap HT.out.row)
          go_wp2_with fail
          obtain ⟨wo, rfl⟩ : ∃ wo : World, wo = wr := ⟨_, rfl⟩
          go_loopg [60] L (fun kq v60 wr2 => ∃ (i a : Nat), v60 = .int .i64 i ∧ i ≤ L ∧ Aside0 (kq = L - i) ∧ Aside0 (St w wr2 g3 w4.heap.size v3 Am cm V lb a a))
          case atStart => exact ⟨0, 0, rfl, Nat.zero_le _, ⟨rfl⟩, HT⟩
          case round =>
            obtain ⟨i, a, rfl, hi, HK, HT⟩ := hrel
            by_cases hlt : i < L
            · have hlt' : (i : Int) < (L : Int) := by omega
              obtain ⟨ac, hac⟩ : ∃ ac, l[i]? = some ac := ⟨_, List.getElem?_eq_getElem (by have := HL.out; omega)⟩
              obtain ⟨ad, rfl, k0, k1, k2, k3⟩ := HS.out.cell i ac hac
              replace k0 := pw_cell_below HT.out.bel k0
              replace k1 := pw_cell_below HT.out.bel k1
              replace k2 := pw_cell_below HT.out.bel k2
              replace k3 := pw_cell_below HT.out.bel k3
              have HI := Aside0.mk (show i + 1 ≤ L by omega)
              clear hi hlt hac
              obtain ⟨q, hq, hq4⟩ : ∃ q : Int, (IntKind.u64.wrap ac.k).tmod 4 = q ∧ (q = 0 ∨ q = 1 ∨ q = 2 ∨ q = 3) := by
                refine ⟨(IntKind.u64.wrap ac.k) % 4, ?_, by omega⟩
                rw [Int.tmod_eq_emod_of_nonneg (by rw [IntKind.wrap_u64]; omega)]
              have hTA := Aside0.mk (HT.out.below (below_alloc (Below.refl _ _) (.cells #[.int .i64 ac.k, .int .i64 ac.n, .int .u32 ac.x, .slice ac.A ac.l ac.c] 29)))
              have hnew := Aside0.mk (alloc_self wr (.cells #[.int .i64 ac.k, .int .i64 ac.n, .int .u32 ac.x, .slice ac.A ac.l ac.c] 29))
              have hale := Aside0.mk (HT.out.rdr.le)
              have hmc := blk_cell hTA.out.box
              have m0 := hmc 0
              have m1 := hmc 1
              simp only [Array.getElem?_eq_getElem, List.size_toArray, List.length_cons, List.length_nil, Nat.reduceAdd, Nat.reduceLT, List.getElem_toArray, List.getElem_cons_succ, List.getElem_cons_zero] at m0 m1
              clear hmc
              go_upto_block 4 with (fail)
              go_cut [11] (fun v11 wc => ∃ (a' : Nat), v11 = .bool true ∧ Aside0 (St w wc g3 w4.heap.size v3 Am cm V lb a' a'))
              case first =>
                clear hq
                rcases hq4 with rfl | rfl | rfl | rfl
                · obtain ⟨R, a', E, X, ha', H1, H2, H3⟩ := arm_bits w.heap.size g3 v3 V lb a ac.n Am cm HLB.out hale.out hcm.out hcap.out
                  replace H1 := Aside0.mk H1
                  replace H2 := Aside0.mk H2
                  replace H3 := Aside0.mk H3
                  replace ha' := Aside0.mk ha'
                  go_wp2_with (first
                    | (go_at_call 25; refine (H1.out _ (own_C hTA.out.row)).mono ?_; rintro e w5 ⟨rfl, hb5⟩; have n1 := blk_cell (blk_alloc (blk_below hnew.out hb5) (.cells #[.slice Am (8 * lb) cm, .int .i64 a'] 50)) 1; have hT5 := Aside0.mk ((hTA.out.below hb5).below (below_alloc (Below.refl _ _) (.cells #[.slice Am (8 * lb) cm, .int .i64 a'] 50))); have hn5 := Aside0.mk (alloc_self w5 (.cells #[.slice Am (8 * lb) cm, .int .i64 a'] 50)); simp only [Array.getElem?_eq_getElem, List.size_toArray, List.length_cons, List.length_nil, Nat.reduceAdd, Nat.reduceLT, List.getElem_toArray, List.getElem_cons_succ, List.getElem_cons_zero] at n1; clear hb5)
                    | (go_at_call 21; refine (H2.out _ hT5.out.rdr).mono ?_; rintro e w6 ⟨rfl, hr6, hg6⟩; have hT6 := Aside0.mk (hT5.out.read hr6 hg6); have hn6 := Aside0.mk (hg6.keep.blk hn5.out (blk_ne hn5.out hT5.out.rdr.blk (by decide)) (by simp)); have p0 := blk_cell hn6.out 0; have p1 := blk_cell hn6.out 1; have q0 := blk_cell hT6.out.box 0; have q1 := blk_cell hT6.out.box 1; have f0 := blk_frozen hT6.out.box 0; have f1 := blk_frozen hT6.out.box 1; simp only [Array.getElem?_eq_getElem, List.size_toArray, List.length_cons, List.length_nil, Nat.reduceAdd, Nat.reduceLT, List.getElem_toArray, List.getElem_cons_succ, List.getElem_cons_zero] at p0 p1 q0 q1; clear hr6 hg6))
                  have e1 : (R == R) = true := by simp
                  have e2 : (E == E) = true := by simp
                  go_region_with (go_at_call 15; refine (H3.out _).mono ?_; rintro e w' ⟨rfl, rfl⟩)
                  all_goals (first | go_wp2_with fail | skip)
                  all_goals go_meet
                  all_goals
                    case rel =>
                      refine ⟨a', rfl, ⟨?_⟩⟩
                      first
                        | exact hT6.out.store a'
                        | exact (hT6.out.store a').drew
                        | exact (hT6.out.store a').drewN _
                · obtain ⟨R, M, H1, H2⟩ := arm_peek w.heap.size g3 v3 V lb a ac.n Am cm HLB.out hale.out hcm.out
                  replace H1 := Aside0.mk H1
                  replace H2 := Aside0.mk H2
                  have e1 : (R == R) = true := by simp
                  have e2 : (M == M) = true := by simp
                  go_wp2_with (first
                    | (go_at_call 26; refine (H1.out _ (own_C hTA.out.row)).mono ?_; rintro e w5 ⟨rfl, hb5⟩; have n1 := blk_cell (blk_below hnew.out hb5) 1; have hT5 := Aside0.mk (hTA.out.below hb5); simp only [Array.getElem?_eq_getElem, List.size_toArray, List.length_cons, List.length_nil, Nat.reduceAdd, Nat.reduceLT, List.getElem_toArray, List.getElem_cons_succ, List.getElem_cons_zero] at n1; clear hb5)
                    | (go_at_call 22; refine (H2.out _ hT5.out.rdr).mono ?_; rintro e w6 ⟨rfl, m6, rfl⟩))
                  go_meet
                  case rel => exact ⟨a, rfl, ⟨hT5.out.drewN _⟩⟩
                · obtain ⟨d, hd⟩ : ∃ d, d = (8 - a % 8) % 8 := ⟨_, rfl⟩
                  obtain ⟨a', ha'⟩ : ∃ a', a' = a + d := ⟨_, rfl⟩
                  have H1 : Aside0 (∀ w1, Calls Try.prog 27 #[.agg #[.slice Am (8 * lb) cm, .int .i64 a]] w1 fun r w' => r = .returned (.tuple #[.int .i64 d, .agg #[.slice Am (8 * lb) cm, .int .i64 a']]) ∧ Below w1.heap.size w1 w') := by
                    refine ⟨fun w1 => ?_⟩
                    have := refAlign_calls Am (8 * lb) cm a w1 (by have := hale.out; have := HLB.out; omega)
                    rwa [← hd, ← ha'] at this
                  have H2 : Aside0 (∀ w5, Rdr w5 w.heap.size g3 v3 V lb a → Calls Try.prog 24 #[.pointer (some ⟨g3, 0, none⟩)] w5 fun r w' => r = .returned (.int .i64 d) ∧ Rdr w' w.heap.size g3 v3 V lb a' ∧ Gone w5 w' g3) := by
                    refine ⟨fun w5 h => ?_⟩
                    have := ralign_calls w5 _ g3 v3 V lb a h (by have := HLB.out; omega)
                    rwa [← hd, ← ha'] at this
                  have e1 : ((d : Int) == (d : Int)) = true := by simp
                  clear hd ha'
                  go_wp2_with (first
                    | (go_at_call 27; refine (H1.out _).mono ?_; rintro e w5 ⟨rfl, hb5⟩; have hT5 := Aside0.mk ((hTA.out.below hb5).below (below_alloc (Below.refl _ _) (.cells #[.slice Am (8 * lb) cm, .int .i64 a'] 50))); have hn5 := Aside0.mk (alloc_self w5 (.cells #[.slice Am (8 * lb) cm, .int .i64 a'] 50)); clear hb5)
                    | (go_at_call 24; refine (H2.out _ hT5.out.rdr).mono ?_; rintro e w6 ⟨rfl, hr6, hg6⟩; have hT6 := Aside0.mk (hT5.out.read hr6 hg6); have hn6 := Aside0.mk (hg6.keep.blk hn5.out (blk_ne hn5.out hT5.out.rdr.blk (by decide)) (by simp)); have p0 := blk_cell hn6.out 0; have p1 := blk_cell hn6.out 1; have q0 := blk_cell hT6.out.box 0; have q1 := blk_cell hT6.out.box 1; have f0 := blk_frozen hT6.out.box 0; have f1 := blk_frozen hT6.out.box 1; simp only [Array.getElem?_eq_getElem, List.size_toArray, List.length_cons, List.length_nil, Nat.reduceAdd, Nat.reduceLT, List.getElem_toArray, List.getElem_cons_succ, List.getElem_cons_zero] at p0 p1 q0 q1; clear hr6 hg6))
                  all_goals (first | go_wp2_with fail | skip)
                  all_goals go_meet
                  all_goals
                    case rel =>
                      refine ⟨a', rfl, ⟨?_⟩⟩
                      first
                        | exact hT6.out.store a'
                        | exact (hT6.out.store a').drew
                        | exact (hT6.out.store a').drewN _
                · obtain ⟨m, ys, a', E, X, ha', H1, H2, H3⟩ := arm_bytes w.heap.size g3 v3 V lb a ac.n Am cm HLB.out hale.out hcm.out hcap.out
                  replace H1 := Aside0.mk H1
                  replace H2 := Aside0.mk H2
                  replace H3 := Aside0.mk H3
                  replace ha' := Aside0.mk ha'
                  have HBy : Aside0 (∀ (w : World) (A1 A2 : Option Addr) (m1 m2 d1 d2 : Nat) (ys : List Int), (Kd.int .u8).C w A1 m1 ys → (Kd.int .u8).C w A2 m2 ys → Calls Try.prog 17 #[.slice A1 m1 d1, .slice A2 m2 d2] w fun r w' => r = .returned (.bool true) ∧ w = w') := ⟨fun w A1 A2 m1 m2 d1 d2 ys h1 h2 => bytes_yes A1 A2 m1 m2 d1 d2 ys w h1 h2⟩
                  go_wp2_with (first
                    | (go_at_call 28; refine (H1.out _ (own_C hTA.out.row)).mono ?_; rintro e w5 ⟨A1, c1, rfl, hC5, hb5⟩; have n1 := blk_cell (blk_alloc (blk_below hnew.out hb5) (.cells #[.slice Am (8 * lb) cm, .int .i64 a'] 50)) 1; have hT5 := Aside0.mk ((hTA.out.below hb5).below (below_alloc (Below.refl _ _) (.cells #[.slice Am (8 * lb) cm, .int .i64 a'] 50))); have hn5 := Aside0.mk (alloc_self w5 (.cells #[.slice Am (8 * lb) cm, .int .i64 a'] 50)); replace hC5 := Aside0.mk (own_alloc hC5 (.cells #[.slice Am (8 * lb) cm, .int .i64 a'] 50)); simp only [Array.getElem?_eq_getElem, List.size_toArray, List.length_cons, List.length_nil, Nat.reduceAdd, Nat.reduceLT, List.getElem_toArray, List.getElem_cons_succ, List.getElem_cons_zero] at n1; clear hb5)
                    | (go_at_call 29; refine (H2.out _ hT5.out.rdr).mono ?_; rintro e w6 ⟨A2, c2, rfl, ho6, hr6, hg6⟩; replace ho6 := Aside0.mk (own_C ho6); have hC6 := Aside0.mk (own_C (hg6.keep.own hC5.out (fun e => own_ne hC5.out hT5.out.rdr.blk (by decide) e.symm) (by cases (Value.slice A1 m c1).ownBlock <;> simp))); have hT6 := Aside0.mk (hT5.out.read hr6 hg6); have hn6 := Aside0.mk (hg6.keep.blk hn5.out (blk_ne hn5.out hT5.out.rdr.blk (by decide)) (by simp)); have p0 := blk_cell hn6.out 0; have p1 := blk_cell hn6.out 1; have q0 := blk_cell hT6.out.box 0; have q1 := blk_cell hT6.out.box 1; have f0 := blk_frozen hT6.out.box 0; have f1 := blk_frozen hT6.out.box 1; simp only [Array.getElem?_eq_getElem, List.size_toArray, List.length_cons, List.length_nil, Nat.reduceAdd, Nat.reduceLT, List.getElem_toArray, List.getElem_cons_succ, List.getElem_cons_zero] at p0 p1 q0 q1; clear hr6 hg6))
                  have e2 : (E == E) = true := by simp
                  go_region_with (first
                    | (go_at_call 15; refine (H3.out _).mono ?_; rintro e w' ⟨rfl, rfl⟩)
                    | (go_at_call 17; refine (HBy.out _ _ _ _ _ _ _ ys (by first | exact ho6.out | exact Kd.C_drew ho6.out) (by first | exact hC6.out | exact Kd.C_drew hC6.out)).mono ?_; rintro e w' ⟨rfl, rfl⟩))
                  all_goals (first | go_wp2_with fail | skip)
                  all_goals go_meet
                  all_goals
                    case rel =>
                      refine ⟨a', rfl, ⟨?_⟩⟩
                      first
                        | exact hT6.out.store a'
                        | exact (hT6.out.store a').drew
                        | exact (hT6.out.store a').drewN _
              case rest =>
                obtain ⟨a', rfl, HT'⟩ := hcut
                have hle' := HT'.out.rdr.le
                have e0 : ((8 * lb - a' : Nat) : Int) = ((8 * lb : Nat) : Int) - (a' : Int) := by omega
                have HAt : Aside0 (∀ m, Calls Try.prog 23 #[.pointer (some ⟨g3, 0, none⟩)] (wc.drewN m) fun e w' => e = .returned (.int .i64 a') ∧ w' = wc.drewN m) := ⟨fun m => at_calls _ _ g3 v3 V lb a' (HT'.out.rdr.drewN m)⟩
                have HLe : Aside0 (∀ m, Calls Try.prog 30 #[.pointer (some ⟨g3, 0, none⟩)] (wc.drewN m) fun e w' => e = .returned (.int .i64 (((8 * lb : Nat) : Int) - (a' : Int))) ∧ ∃ k, w' = (wc.drewN m).drewN k) := by
                  refine ⟨fun m => ?_⟩
                  have := left_calls _ _ g3 v3 V lb a' (HT'.out.rdr.drewN m) (by have := HLB.out; omega)
                  rwa [e0] at this
                have m0 := blk_cell HT'.out.box 0
                have m1 := blk_cell HT'.out.box 1
                simp only [Array.getElem?_eq_getElem, List.size_toArray, List.length_cons, List.length_nil, Nat.reduceAdd, Nat.reduceLT, List.getElem_toArray, List.getElem_cons_succ, List.getElem_cons_zero] at m0 m1
                have b5 : (a' : Int) ≤ ((8 * lb : Nat) : Int) := by omega
                have b6 : ((8 * lb : Nat) : Int) ≤ 480 := by have := HLB.out; omega
                generalize 8 * lb = M at *
                have e1 : ((a' : Int) != (a' : Int)) = false := by simp
                have e2 : (((M : Int) - (a' : Int)) != ((M : Int) - (a' : Int))) = false := by simp
                clear hle' e0
                go_wp2_with fail
                go_quiet ((first
                  | (go_at_call 23; exact Calls.quiet_of_same (HAt.out _))
                  | (go_at_call 30; exact Calls.quiet_of (HLe.out _))))
                go_wp2_with fail
                go_roundg (gk - 1)
                case measure => have := HK.out; have := HI.out; omega
                case rel => exact ⟨i + 1, a', by go_num, HI.out, ⟨by have := HK.out; omega⟩, ⟨HT'.out.drewN _⟩⟩
            · have hni : ¬ ((i : Int) < (L : Int)) := by omega
              clear hi hlt
              go_wp2_with fail
              go_ret
              exact ⟨rfl, HT.out.bel⟩
    · have b1 : decide ((60 : Int) < (lb : Int)) = false := by simp; omega
      have b2 : decide ((60 : Int) < ((l.length : Nat) : Int)) = true := by simp; omega
      clear h1 h2
      go_enter Try.func5, Try.ntmps5
      go_wp2_with (go_at_call 7; refine (HA.out _).mono ?_; rintro e w1 ⟨rfl, hb⟩; replace hb := Aside0.mk hb)
      go_ret
      exact ⟨rfl, hb.out⟩
  · have b1 : decide ((60 : Int) < (lb : Int)) = true := by simp; omega
    clear h1
    go_enter Try.func5, Try.ntmps5
    go_wp2_with (go_at_call 7; refine (HA.out _).mono ?_; rintro e w1 ⟨rfl, hb⟩; replace hb := Aside0.mk hb)
    go_ret
    exact ⟨rfl, hb.out⟩
end Go.Proofs.Ytjlophlheoikgaa.My
