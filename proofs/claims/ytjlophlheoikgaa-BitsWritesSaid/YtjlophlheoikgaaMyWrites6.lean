/- BitsWrites: what any writer answers, and has, behind any acts. -/
import Derived.Test.YtjlophlheoikgaaMyRefPut
import Derived.Test.YtjlophlheoikgaaMyOf6
import Derived.Test.YtjlophlheoikgaaMyScript
namespace Go.Proofs.Ytjlophlheoikgaa.My
open Go.RowKit Go.Proofs.YtjlophlheoikgaaW.PrintWords Go.Proofs.YtjlophlheoikgaaW.PrintLast Go.Proofs.YtjlophlheoikgaaW.PrintMore

/-- The document's Text at a row of bits. -/
theorem refText_calls (A : Option Addr) (c V N : Nat) (w : World) (hV : V < 2 ^ N) (hN : N ≤ 1000000000000) (hl : (Kd.int .u8).C w A N (btL V N)) (hc : N ≤ c) :
    Calls Try.prog 19 #[.slice A N c] w fun e w' => ∃ A' c', e = .returned (.slice A' ((N + 7) / 8) c') ∧ (Kd.int .u8).C w' A' ((N + 7) / 8) (leB V ((N + 7) / 8)) ∧ Below w.heap.size w w' := by
  have h := PText.crossdockref06_Text.calls (N + 1) A c (btL V N) _ w (by rw [btL_len]; exact hl) (by rw [btL_len]; exact hc) (text_f V N hV (by omega))
  rw [btL_len] at h
  refine h.mono ?_
  rintro e w' ⟨v, rfl, hr, hb⟩
  have ho := Kd.own_of_R (enc := Value.int .u8) hr
  rw [leB_len] at ho
  obtain ⟨A', c', rfl, _, hC⟩ := own_slice' (k := .u8) (xs := leB V ((N + 7) / 8)) ho
  exact ⟨A', c', rfl, hC, hb⟩
/-- The document's Of at bytes. -/
theorem refOf_calls (A : Option Addr) (c n V : Nat) (w : World) (hn : n ≤ 1000000000000) (hl : (Kd.int .u8).C w A n (leB V n)) (hc : n ≤ c) :
    Calls Try.prog 13 #[.slice A n c] w fun e w' => ∃ A' c', e = .returned (.slice A' (8 * n) c') ∧ (Kd.int .u8).C w' A' (8 * n) (btL V (8 * n)) ∧ Below w.heap.size w w' := by
  have h := POf.crossdockref06_Of.calls (10 * n + 1) A c (leB V n) _ w (by rw [leB_len]; exact hl) (by rw [leB_len]; exact hc) (of_f V n hn)
  rw [leB_len] at h
  refine h.mono ?_
  rintro e w' ⟨v, rfl, hr, hb⟩
  have ho := Kd.own_of_R (enc := Value.int .u8) hr
  rw [btL_len] at ho
  obtain ⟨A', c', rfl, _, hC⟩ := own_slice' (k := .u8) (xs := btL V (8 * n)) ho
  exact ⟨A', c', rfl, hC, hb⟩

theorem own_C {w : World} {base n c : Nat} {e : TypeId} {k : IntKind} {A : Option Addr} {xs : List Int} (h : w.ownsRow base e 1 (.slice A n c) n (nums k xs)) : (Kd.int k).C w A n xs := C_of_readsInt (own_reads' h)
theorem put_close {w WA w2 w3 : World} {g n : Nat} {v v3 vm : Value} {V N : Nat} {L : List Int} (hBA : Below w.heap.size w WA) (hWA : Writ WA w.heap.size g v V N)
    (hm : w2.ownsRow WA.heap.size 5 1 vm n (nums .u8 L)) (hb2 : Below WA.heap.size WA w2) (hg3 : Grew w2 w3 g v v3) :
    w3.ownsRow w.heap.size 5 1 vm n (nums .u8 L) ∧ (v3.ownBlock = none ∨ v3.ownBlock ≠ vm.ownBlock) ∧ Below w.heap.size w w3 := by
  have hs1 := hBA.size
  have hs2 := hb2.size
  have hgl := blk_lt hWA.wr.blk
  have hne1 : vm.ownBlock ≠ some g := fun h => by have := own_base hm _ h; omega
  have hne2 : vm.ownBlock = none ∨ vm.ownBlock ≠ v.ownBlock := by
    cases e : vm.ownBlock with
    | none => exact .inl rfl
    | some b =>
      refine .inr fun h => ?_
      have h1 := own_base hm b e
      have h2 := own_lt hWA.wr.row b h.symm
      omega
  refine ⟨own_weaken (hg3.keep.own hm hne1 hne2) hs1, ?_, ?_⟩
  · rcases hg3.at_ with h | ⟨b, h, hb⟩
    · rw [h]
      rcases hne2 with h2 | h2
      · rw [h2]
        cases v.ownBlock <;> simp
      · exact .inr fun h => h2 h.symm
    · refine .inr fun h3 => ?_
      have h4 := own_lt hm b (h3 ▸ h)
      omega
  · exact hg3.below (hBA.trans (hb2.mono hs1)) (Nat.le_trans hs1 hs2) hWA.wr.bg hWA.base
theorem put_close' {w w2 w3 : World} {g n : Nat} {v v3 vm : Value} {V N : Nat} {L : List Int} (hB2 : Below w.heap.size w w2) (hW2 : Writ w2 w.heap.size g v V N)
    (hm : w2.ownsRow w.heap.size 5 1 vm n (nums .u8 L)) (hs : v.ownBlock = none ∨ v.ownBlock ≠ vm.ownBlock) (hg3 : Grew w2 w3 g v v3) :
    w3.ownsRow w.heap.size 5 1 vm n (nums .u8 L) ∧ (v3.ownBlock = none ∨ v3.ownBlock ≠ vm.ownBlock) ∧ Below w.heap.size w w3 := by
  have hne1 : vm.ownBlock ≠ some g := fun h => own_ne hm hW2.wr.blk (by decide) h.symm
  have hne2 : vm.ownBlock = none ∨ vm.ownBlock ≠ v.ownBlock := by
    cases e : vm.ownBlock with
    | none => exact .inl rfl
    | some b =>
      refine .inr fun h => ?_
      rw [← h, e] at hs
      rcases hs with h | h
      · cases h
      · exact h rfl
  refine ⟨hg3.keep.own hm hne1 hne2, ?_, ?_⟩
  · rcases hg3.at_ with h | ⟨b, h, hb⟩
    · rw [h]; exact hs
    · refine .inr fun h3 => ?_
      have h4 := own_lt hm b (h3 ▸ h)
      omega
  · exact hg3.below hB2 hB2.size hW2.wr.bg hW2.base
theorem sep_new {W : World} {v vm v3 : Value} {B n : Nat} {e : TypeId} {xs : List Value} (hv : W.ownsRow B e 1 v n xs) (hs : v.ownBlock = none ∨ v.ownBlock ≠ vm.ownBlock) (hk : v3.ownBlock = vm.ownBlock ∨ ∃ b, v3.ownBlock = some b ∧ W.heap.size ≤ b) : v.ownBlock = none ∨ v.ownBlock ≠ v3.ownBlock := by
  rcases hk with h | ⟨b, h, hb⟩
  · rw [h]; exact hs
  · refine .inr fun h3 => ?_
    have h4 := own_lt hv b (h3.trans h)
    omega
theorem btL_app (V N U M : Nat) (hV : V < 2 ^ N) : btL V N ++ btL U M = btL (V + U * 2 ^ N) (N + M) := by
  apply List.ext_getElem
  · simp
  · intro t h1 h2
    have ht : t < N + M := by simpa using h2
    by_cases h : t < N
    · rw [List.getElem_append_left (by simpa using h)]
      simp only [btL, List.getElem_map, List.getElem_range]
      congr 1
      rw [show 2 ^ N = 2 ^ (N - (t + 1)) * 2 ^ (t + 1) by rw [← Nat.pow_add]; congr 1; omega, ← Nat.mul_assoc, Nat.pow_succ, Nat.mul_comm (2 ^ t) 2, ← Nat.mul_assoc, Nat.add_mul_div_right _ _ (Nat.two_pow_pos _), Nat.add_mul_mod_self_right]
    · rw [List.getElem_append_right (by simp; omega)]
      simp only [btL, List.getElem_map, List.getElem_range, List.length_map, List.length_range]
      congr 1
      rw [show 2 ^ t = 2 ^ N * 2 ^ (t - N) by rw [← Nat.pow_add]; congr 1; omega, ← Nat.div_div_eq_div_mul, Nat.add_mul_div_right _ _ (Nat.two_pow_pos _), Nat.div_eq_of_lt hV, Nat.zero_add]
set_option maxRecDepth 100000 in
theorem writes_walk (A : Option Addr) (cap : Nat) (l : List Ac) (w : World) (hcap : l.length ≤ cap) (hs : Script w A l) (hrow : ∀ a ∈ l, ∃ zs, IsRow .u8 w a.A a.l a.c zs) :
    Calls Try.prog 3 #[.slice A l.length cap] w fun e w' => e = .returned (.bool true) ∧ Below w.heap.size w w' := by
  have HA : Aside0 (∀ w : World, Calls Try.prog 7 #[] w fun e w' => e = .returned (.bool true) ∧ Below w.heap.size w w') := ⟨alive_calls⟩
  have HN : Aside0 (∀ w : World, Calls Try.prog 8 #[] w fun e w' => e = .returned (.pointer (some ⟨w.heap.size, 0, none⟩)) ∧ w' = w.alloc (.cells #[.slice none 0 0, .int .u64 0, .int .i64 0] 66)) := ⟨newWriter_calls⟩
  have u1 := Try.underlying31
  have HS := Aside0.mk hs
  have HRow := Aside0.mk hrow
  clear hs hrow
  by_cases hlen : l.length ≤ 60
  · have h60 : ((l.length : Nat) : Int) ≤ 60 := by omega
    have HL := Aside0.mk hlen
    generalize hL : l.length = L at *
    clear hlen
    go_enter Try.func3, Try.ntmps3
    go_wp2_with (first
      | (go_at_call 7; refine (HA.out _).mono ?_; rintro e w1 ⟨rfl, hb⟩; replace hb := Aside0.mk hb)
      | (go_at_call 8; refine (HN.out _).mono ?_; rintro e w' ⟨rfl, rfl⟩))
    go_loopg [4, 20] L (fun kq v4 v20 wr => ∃ (i : Nat) (Am : Option Addr) (cm : Nat) (v : Value) (V N : Nat), v4 = .slice Am N cm ∧ v20 = .int .i64 i ∧ i ≤ L ∧ N ≤ 300 * i ∧ Aside0 (kq = L - i) ∧
      Aside0 (Writ wr w.heap.size w1.heap.size v V N) ∧ Aside0 (wr.ownsRow w.heap.size 5 1 (.slice Am N cm) N (nums .u8 (btL V N)) ∧ (v.ownBlock = none ∨ v.ownBlock ≠ (Value.slice Am N cm).ownBlock)) ∧ Aside0 (Below w.heap.size w wr))
    case atStart =>
      have hw := (Writ.new w1 w.heap.size hb.out.size).alloc (.cells #[] 5)
      have ho := own_lit (w1.alloc (.cells #[.slice none 0 0, .int .u64 0, .int .i64 0] 66)) w.heap.size 5 .u8 [] (by have := hb.out.size; simp; omega) (by decide)
      exact ⟨0, _, _, _, 0, 0, rfl, rfl, Nat.zero_le _, Nat.zero_le _, ⟨rfl⟩, ⟨hw⟩, ⟨by simpa [btL, nums] using ho, .inl rfl⟩, ⟨below_alloc (below_alloc hb.out _) _⟩⟩
    case round =>
      obtain ⟨i, Am, cm, v, V, N, rfl, rfl, hi, hN, HK, HW, HM, HB⟩ := hrel
      by_cases hlt : i < L
      · have hlt' : (i : Int) < (L : Int) := by omega
        obtain ⟨a, ha⟩ : ∃ a, l[i]? = some a := ⟨_, List.getElem?_eq_getElem (by omega)⟩
        obtain ⟨ad, rfl, k0, k1, k2, k3⟩ := HS.out.cell i a ha
        have hax := Aside0.mk (HS.out.rng a (List.mem_of_getElem? ha))
        have hrw := Aside0.mk (HRow.out a (List.mem_of_getElem? ha))
        replace k0 := pw_cell_below HB.out k0
        replace k1 := pw_cell_below HB.out k1
        replace k2 := pw_cell_below HB.out k2
        replace k3 := pw_cell_below HB.out k3
        have HI := Aside0.mk (show i + 1 ≤ L by omega)
        have HN3 := Aside0.mk hN
        have HBA := Aside0.mk (below_alloc HB.out (.cells #[.int .i64 a.k, .int .i64 a.n, .int .u32 a.x, .slice a.A a.l a.c] 29))
        clear hi hlt ha hN
        by_cases h30 : a.l ≤ 30
        · have h30' : ((a.l : Nat) : Int) ≤ 30 := by omega
          clear h30
          obtain ⟨q, hq, hq4⟩ : ∃ q : Int, (IntKind.u64.wrap a.k).tmod 4 = q ∧ (q = 0 ∨ q = 1 ∨ q = 2 ∨ q = 3) := by
            refine ⟨(IntKind.u64.wrap a.k) % 4, ?_, by omega⟩
            rw [Int.tmod_eq_emod_of_nonneg (by rw [IntKind.wrap_u64]; omega)]
          go_upto_block 2 with (fail)
          go_cut [4, 7, 8] (fun v4 v7 v8 wc => ∃ (Am' : Option Addr) (cm' : Nat) (v' : Value) (V' N' : Nat) (bad : Option Int), v4 = .slice Am' N' cm' ∧ v7 = .int .i64 (numE bad) ∧ v8 = errV bad ∧ Aside0 (N' ≤ 300 * (i + 1) ∧ (∀ c, bad = some c → c ≠ 0)) ∧
            Aside0 (Writ wc w.heap.size w1.heap.size v' V' N') ∧ Aside0 (wc.ownsRow w.heap.size 5 1 (.slice Am' N' cm') N' (nums .u8 (btL V' N')) ∧ (v'.ownBlock = none ∨ v'.ownBlock ≠ (Value.slice Am' N' cm').ownBlock)) ∧ Aside0 (Below w.heap.size w wc))
          case first =>
            have hWA := HW.out.alloc (.cells #[.int .i64 a.k, .int .i64 a.n, .int .u32 a.x, .slice a.A a.l a.c] 29)
            have hMA := HM.out.1.alloc (.cells #[.int .i64 a.k, .int .i64 a.n, .int .u32 a.x, .slice a.A a.l a.c] 29)
            have hnew := Aside0.mk (alloc_self wr (.cells #[.int .i64 a.k, .int .i64 a.n, .int .u32 a.x, .slice a.A a.l a.c] 29))
            have hsz := Aside0.mk HB.out.size
            have hN18 : N ≤ 18000 := by have := HN3.out; have := HI.out; have := HL.out; omega
            rcases hq4 with rfl | rfl | rfl | rfl
            · cases hok : okW a.x a.n with
              | false =>
                have H1 := Aside0.mk (refPut_bad Am N cm a.x a.n false (wr.alloc (.cells #[.int .i64 a.k, .int .i64 a.n, .int .u32 a.x, .slice a.A a.l a.c] 29)) hax.out hok)
                have H2 : Aside0 (Calls Try.prog 10 #[.pointer (some ⟨w1.heap.size, 0, none⟩), .int .u32 a.x, .int .i64 a.n] (wr.alloc (.cells #[.int .i64 a.k, .int .i64 a.n, .int .u32 a.x, .slice a.A a.l a.c] 29)) fun e w' => e = .returned (.iface 62 (.int .i64 1)) ∧ w' = wr.alloc (.cells #[.int .i64 a.k, .int .i64 a.n, .int .u32 a.x, .slice a.A a.l a.c] 29)) := by
                  refine ⟨(put_calls _ w.heap.size w1.heap.size v _ _ a.x a.n (Nat.le_trans hsz.out (by simp)) hWA hax.out (by omega)).mono ?_⟩
                  have e0 : askE a.x a.n = some 1 := by unfold askE; rw [hok]; rfl
                  rintro e w' ⟨rfl, ⟨_, rfl⟩ | ⟨h, _⟩⟩
                  · exact ⟨by rw [e0]; rfl, rfl⟩
                  · rw [hok] at h; cases h
                have HWA := Aside0.mk hWA
                have HMA := Aside0.mk hMA
                clear hok hWA hMA hN18
                go_wp2_with (first
                  | (go_at_call 9; refine H1.out.mono ?_; rintro e w' ⟨rfl, rfl⟩)
                  | (go_at_call 10; refine H2.out.mono ?_; rintro e w' ⟨rfl, rfl⟩))
                go_meet
                case rel =>
                  exact ⟨Am, cm, v, V, N, some 1, rfl, rfl, rfl, ⟨by have := HN3.out; omega, by simp⟩, HWA, ⟨HMA.out, HM.out.2⟩, HBA⟩
              | true =>
                have hk : 0 ≤ a.n ∧ a.n ≤ 32 ∧ a.x < 2 ^ a.n.toNat := of_decide_eq_true hok
                obtain ⟨n, hn⟩ := Int.eq_ofNat_of_zero_le hk.1
                have H1 : Aside0 (Calls Try.prog 9 #[.slice Am N cm, .int .u32 a.x, .int .i64 a.n, .bool false] (wr.alloc (.cells #[.int .i64 a.k, .int .i64 a.n, .int .u32 a.x, .slice a.A a.l a.c] 29)) fun e w2 => ∃ A2 c2, e = .returned (.tuple #[.slice A2 (N + n) c2, .int .i64 0]) ∧
                    w2.ownsRow (wr.alloc (.cells #[.int .i64 a.k, .int .i64 a.n, .int .u32 a.x, .slice a.A a.l a.c] 29)).heap.size 5 1 (.slice A2 (N + n) c2) (N + n) (nums .u8 (btL (V + a.x * 2 ^ N) (N + n))) ∧ Below (wr.alloc (.cells #[.int .i64 a.k, .int .i64 a.n, .int .u32 a.x, .slice a.A a.l a.c] 29)).heap.size (wr.alloc (.cells #[.int .i64 a.k, .int .i64 a.n, .int .u32 a.x, .slice a.A a.l a.c] 29)) w2) := by
                  have h := refPut_calls Am cm V N a.x n false (wr.alloc (.cells #[.int .i64 a.k, .int .i64 a.n, .int .u32 a.x, .slice a.A a.l a.c] 29)) (by have := hk.2.2; rwa [hn, Int.toNat_natCast] at this) (by omega) hWA.lt (by omega) (own_C hMA)
                  rw [← hn] at h
                  refine ⟨h.mono ?_⟩
                  rintro e w2 ⟨v2, rfl, ho, hb⟩
                  obtain ⟨A2, c2, rfl⟩ := own_slice ho
                  exact ⟨A2, c2, rfl, ho, hb⟩
                have H2 : Aside0 (∀ w2, Below (wr.alloc (.cells #[.int .i64 a.k, .int .i64 a.n, .int .u32 a.x, .slice a.A a.l a.c] 29)).heap.size (wr.alloc (.cells #[.int .i64 a.k, .int .i64 a.n, .int .u32 a.x, .slice a.A a.l a.c] 29)) w2 → Calls Try.prog 10 #[.pointer (some ⟨w1.heap.size, 0, none⟩), .int .u32 a.x, .int .i64 a.n] w2 fun e w3 => e = .returned .nilIface ∧ ∃ v3, Writ w3 w.heap.size w1.heap.size v3 (V + a.x * 2 ^ N) (N + n) ∧ Grew w2 w3 w1.heap.size v v3) := by
                  refine ⟨fun w2 hb2 => (put_calls w2 w.heap.size w1.heap.size v V N a.x a.n (Nat.le_trans hsz.out (Nat.le_trans (by simp) hb2.size)) (hWA.below hb2) hax.out (by omega)).mono ?_⟩
                  have e0 : askE a.x a.n = none := by unfold askE; rw [hok]; rfl
                  rintro e w' ⟨rfl, ⟨h, _⟩ | ⟨_, v', hw', hg'⟩⟩
                  · rw [hok] at h; cases h
                  · refine ⟨by rw [e0]; rfl, v', ?_, hg'⟩
                    have e1 : a.n.toNat = n := by omega
                    rw [e1] at hw'
                    exact hw'
                have HWA := Aside0.mk hWA
                have HN32 : Aside0 (n ≤ 32) := ⟨by omega⟩
                clear hok hWA hMA hN18 hk hn
                go_wp2_with (first
                  | (go_at_call 9; refine H1.out.mono ?_; rintro e w2 ⟨A2, c2, rfl, ho2, hb2⟩; have m1 := blk_cell (blk_below hnew.out hb2) 1; have m2 := blk_cell (blk_below hnew.out hb2) 2; simp only [Array.getElem?_eq_getElem, List.size_toArray, List.length_cons, List.length_nil, Nat.reduceAdd, Nat.reduceLT, List.getElem_toArray, List.getElem_cons_succ, List.getElem_cons_zero] at m1 m2; replace ho2 := Aside0.mk ho2; replace hb2 := Aside0.mk hb2)
                  | (go_at_call 10; refine (H2.out _ hb2.out).mono ?_; rintro e w3 ⟨rfl, v3, hw3, hg3⟩; replace hw3 := Aside0.mk hw3; replace hg3 := Aside0.mk hg3))
                go_meet
                case rel =>
                  obtain ⟨p1, p2, p3⟩ := put_close HBA.out HWA.out ho2.out hb2.out hg3.out
                  exact ⟨A2, c2, v3, _, N + n, none, rfl, rfl, rfl, ⟨by have := HN3.out; have := HN32.out; omega, by simp⟩, hw3, ⟨p1, p2⟩, ⟨p3⟩⟩
            · cases hok : okW a.x a.n with
              | false =>
                have H1 := Aside0.mk (refPut_bad Am N cm a.x a.n true (wr.alloc (.cells #[.int .i64 a.k, .int .i64 a.n, .int .u32 a.x, .slice a.A a.l a.c] 29)) hax.out hok)
                have H2 : Aside0 (Calls Try.prog 11 #[.pointer (some ⟨w1.heap.size, 0, none⟩), .int .u32 a.x, .int .i64 a.n] (wr.alloc (.cells #[.int .i64 a.k, .int .i64 a.n, .int .u32 a.x, .slice a.A a.l a.c] 29)) fun e w' => e = .returned (.iface 62 (.int .i64 1)) ∧ w' = wr.alloc (.cells #[.int .i64 a.k, .int .i64 a.n, .int .u32 a.x, .slice a.A a.l a.c] 29)) := by
                  refine ⟨(code_calls' _ w.heap.size w1.heap.size v _ _ a.x a.n (Nat.le_trans hsz.out (by simp)) hWA hax.out (by omega)).mono ?_⟩
                  have e0 : askE a.x a.n = some 1 := by unfold askE; rw [hok]; rfl
                  rintro e w' ⟨rfl, ⟨_, rfl⟩ | ⟨h, _⟩⟩
                  · exact ⟨by rw [e0]; rfl, rfl⟩
                  · rw [hok] at h; cases h
                have HWA := Aside0.mk hWA
                have HMA := Aside0.mk hMA
                clear hok hWA hMA hN18
                go_wp2_with (first
                  | (go_at_call 9; refine H1.out.mono ?_; rintro e w' ⟨rfl, rfl⟩)
                  | (go_at_call 11; refine H2.out.mono ?_; rintro e w' ⟨rfl, rfl⟩))
                go_meet
                case rel =>
                  exact ⟨Am, cm, v, V, N, some 1, rfl, rfl, rfl, ⟨by have := HN3.out; omega, by simp⟩, HWA, ⟨HMA.out, HM.out.2⟩, HBA⟩
              | true =>
                have hk : 0 ≤ a.n ∧ a.n ≤ 32 ∧ a.x < 2 ^ a.n.toNat := of_decide_eq_true hok
                obtain ⟨n, hn⟩ := Int.eq_ofNat_of_zero_le hk.1
                have H1 : Aside0 (Calls Try.prog 9 #[.slice Am N cm, .int .u32 a.x, .int .i64 a.n, .bool true] (wr.alloc (.cells #[.int .i64 a.k, .int .i64 a.n, .int .u32 a.x, .slice a.A a.l a.c] 29)) fun e w2 => ∃ A2 c2, e = .returned (.tuple #[.slice A2 (N + n) c2, .int .i64 0]) ∧
                    w2.ownsRow (wr.alloc (.cells #[.int .i64 a.k, .int .i64 a.n, .int .u32 a.x, .slice a.A a.l a.c] 29)).heap.size 5 1 (.slice A2 (N + n) c2) (N + n) (nums .u8 (btL (V + rv a.x n * 2 ^ N) (N + n))) ∧ Below (wr.alloc (.cells #[.int .i64 a.k, .int .i64 a.n, .int .u32 a.x, .slice a.A a.l a.c] 29)).heap.size (wr.alloc (.cells #[.int .i64 a.k, .int .i64 a.n, .int .u32 a.x, .slice a.A a.l a.c] 29)) w2) := by
                  have h := refPut_calls Am cm V N a.x n true (wr.alloc (.cells #[.int .i64 a.k, .int .i64 a.n, .int .u32 a.x, .slice a.A a.l a.c] 29)) (by have := hk.2.2; rwa [hn, Int.toNat_natCast] at this) (by omega) hWA.lt (by omega) (own_C hMA)
                  rw [← hn] at h
                  refine ⟨h.mono ?_⟩
                  rintro e w2 ⟨v2, rfl, ho, hb⟩
                  obtain ⟨A2, c2, rfl⟩ := own_slice ho
                  exact ⟨A2, c2, rfl, ho, hb⟩
                have H2 : Aside0 (∀ w2, Below (wr.alloc (.cells #[.int .i64 a.k, .int .i64 a.n, .int .u32 a.x, .slice a.A a.l a.c] 29)).heap.size (wr.alloc (.cells #[.int .i64 a.k, .int .i64 a.n, .int .u32 a.x, .slice a.A a.l a.c] 29)) w2 → Calls Try.prog 11 #[.pointer (some ⟨w1.heap.size, 0, none⟩), .int .u32 a.x, .int .i64 a.n] w2 fun e w3 => e = .returned .nilIface ∧ ∃ v3, Writ w3 w.heap.size w1.heap.size v3 (V + rv a.x n * 2 ^ N) (N + n) ∧ Grew w2 w3 w1.heap.size v v3) := by
                  refine ⟨fun w2 hb2 => (code_calls' w2 w.heap.size w1.heap.size v V N a.x a.n (Nat.le_trans hsz.out (Nat.le_trans (by simp) hb2.size)) (hWA.below hb2) hax.out (by omega)).mono ?_⟩
                  have e0 : askE a.x a.n = none := by unfold askE; rw [hok]; rfl
                  rintro e w' ⟨rfl, ⟨h, _⟩ | ⟨_, v', hw', hg'⟩⟩
                  · rw [hok] at h; cases h
                  · refine ⟨by rw [e0]; rfl, v', ?_, hg'⟩
                    have e1 : a.n.toNat = n := by omega
                    rw [e1] at hw'
                    exact hw'
                have HWA := Aside0.mk hWA
                have HN32 : Aside0 (n ≤ 32) := ⟨by omega⟩
                clear hok hWA hMA hN18 hk hn
                go_wp2_with (first
                  | (go_at_call 9; refine H1.out.mono ?_; rintro e w2 ⟨A2, c2, rfl, ho2, hb2⟩; have m1 := blk_cell (blk_below hnew.out hb2) 1; have m2 := blk_cell (blk_below hnew.out hb2) 2; simp only [Array.getElem?_eq_getElem, List.size_toArray, List.length_cons, List.length_nil, Nat.reduceAdd, Nat.reduceLT, List.getElem_toArray, List.getElem_cons_succ, List.getElem_cons_zero] at m1 m2; replace ho2 := Aside0.mk ho2; replace hb2 := Aside0.mk hb2)
                  | (go_at_call 11; refine (H2.out _ hb2.out).mono ?_; rintro e w3 ⟨rfl, v3, hw3, hg3⟩; replace hw3 := Aside0.mk hw3; replace hg3 := Aside0.mk hg3))
                go_meet
                case rel =>
                  obtain ⟨p1, p2, p3⟩ := put_close HBA.out HWA.out ho2.out hb2.out hg3.out
                  exact ⟨A2, c2, v3, _, N + n, none, rfl, rfl, rfl, ⟨by have := HN3.out; have := HN32.out; omega, by simp⟩, hw3, ⟨p1, p2⟩, ⟨p3⟩⟩
            · obtain ⟨n0, hn0⟩ : ∃ n0, n0 = (8 - N % 8) % 8 := ⟨_, rfl⟩
              have HN0 := Aside0.mk hn0
              have HWA := Aside0.mk hWA
              have HMA := Aside0.mk hMA
              have HN18 := Aside0.mk hN18
              clear hn0 hWA hMA hN18
              go_wp2_with fail
              obtain ⟨wq, rfl⟩ : ∃ wq : World, wq = wr := ⟨_, rfl⟩
              go_loopg [4, 10] n0 (fun kq v4 v10 w2 => ∃ (j : Nat) (A2 : Option Addr) (c2 : Nat), v4 = .slice A2 (N + j) c2 ∧ v10 = .int .i64 j ∧ j ≤ n0 ∧ Aside0 (kq = n0 - j) ∧ Aside0 (w2.ownsRow w.heap.size 5 1 (.slice A2 (N + j) c2) (N + j) (nums .u8 (btL V (N + j)))) ∧
                Aside0 (Writ w2 w.heap.size w1.heap.size v V N ∧ (v.ownBlock = none ∨ v.ownBlock ≠ (Value.slice A2 (N + j) c2).ownBlock)) ∧ Aside0 (Below w.heap.size w w2))
              case atStart => exact ⟨0, Am, cm, rfl, rfl, Nat.zero_le _, ⟨rfl⟩, HMA, ⟨HWA.out, HM.out.2⟩, HBA⟩
              case round =>
                obtain ⟨j, A2, c2, rfl, rfl, hj, HK2, HM2, HW2, HB2⟩ := hrel
                have hsz2 := HB2.out.size
                by_cases hjn : j < n0
                · have b0 : ((N + j : Nat) : Int) ≤ 20000 := by have := HN18.out; have := HN0.out; omega
                  have b1 : ((((N + j : Nat) : Int).tmod 8) != 0) = true := by rw [Int.tmod_eq_emod_of_nonneg (by omega)]; simp; have := HN0.out; omega
                  have b2 : ((((N + j : Nat) : Int) % 8) != 0) = true := by simp; have := HN0.out; omega
                  have b3 : (j : Int) ≤ 20000 := by have := HN0.out; omega
                  have hz : btL V (N + j) ++ [0] = btL V (N + (j + 1)) := by
                    rw [← Nat.add_assoc, btL_succ, Nat.div_eq_of_lt (Nat.lt_of_lt_of_le HW2.out.1.lt (Nat.pow_le_pow_right (by decide) (by omega)))]
                    rfl
                  have HZ := Aside0.mk hz
                  have HJ := Aside0.mk hjn
                  clear hz hjn hj
                  go_wp2_with ((with_reducible refine gate_dst (N := 82) rfl ?_); refine print_append_num (w0 := w) w.heap.size rfl (.tmp 80) (.tmp 81) 26 5 .u8 1 rfl Try.underlying26 info_u8 (by decide) _ (btL V (N + j)) _ rfl rfl (by rw [btL_len]; exact HM2.out) HB2.out hsz2 (by rw [btL_len]; omega) ?_; intro v3 w3 ho hb3 hg hk3; rw [HZ.out, btL_len] at ho; obtain ⟨A3, c3, rfl⟩ := own_slice ho; have HO3 := Aside0.mk ho; have HB3 := Aside0.mk hb3; have HW3 := Aside0.mk (And.intro (HW2.out.1.grown hg (own_ne HM2.out HW2.out.1.wr.blk (by decide)) HW2.out.2) (sep_new HW2.out.1.wr.row HW2.out.2 hk3)); clear ho hb3 hg hk3)
                  go_roundg (gk - 1)
                  case measure => have := HK2.out; have := HJ.out; omega
                  case rel => exact ⟨j + 1, A3, c3, rfl, by go_num, HJ.out, ⟨by have := HK2.out; omega⟩, HO3, HW3, HB3⟩
                · obtain rfl : j = n0 := by omega
                  have b0 : ((N + j : Nat) : Int) ≤ 20000 := by have := HN18.out; have := HN0.out; omega
                  have b1 : ((((N + j : Nat) : Int).tmod 8) != 0) = false := by rw [Int.tmod_eq_emod_of_nonneg (by omega)]; simp; have := HN0.out; omega
                  have b2 : ((((N + j : Nat) : Int) % 8) != 0) = false := by simp; have := HN0.out; omega
                  have b3 : (((j : Nat) : Int) != ((j : Nat) : Int)) = false := by simp
                  have HAl : Aside0 (Calls Try.prog 12 #[.pointer (some ⟨w1.heap.size, 0, none⟩)] wr fun e w' => e = .returned (.int .i64 j) ∧ ∃ v', Writ w' w.heap.size w1.heap.size v' V (N + j) ∧ Grew wr w' w1.heap.size v v') := by
                    have h := align_calls wr w.heap.size w1.heap.size v V N hsz2 HW2.out.1 (by have := HN18.out; omega)
                    rw [← HN0.out] at h
                    exact ⟨h⟩
                  clear hj hjn hsz2
                  go_wp2_with (go_at_call 12; refine HAl.out.mono ?_; rintro e w3 ⟨rfl, v3, hw3, hg3⟩; replace hw3 := Aside0.mk hw3; replace hg3 := Aside0.mk hg3)
                  go_meet
                  case rel =>
                    obtain ⟨p1, p2, p3⟩ := put_close' HB2.out HW2.out.1 HM2.out HW2.out.2 hg3.out
                    exact ⟨A2, c2, v3, V, N + j, none, rfl, rfl, rfl, ⟨by have := HN3.out; have := HN0.out; omega, by simp⟩, hw3, ⟨p1, p2⟩, ⟨p3⟩⟩
            · obtain ⟨zs, hzs⟩ := hrw.out
              obtain ⟨z, hzl, hzc, hzC, hzw⟩ := row_C hzs
              have hzb : ∀ x ∈ z, 0 ≤ x ∧ x < 256 := fun x hx => wf_u8 (hzw x hx)
              have HWA := Aside0.mk hWA
              have HMA := Aside0.mk hMA
              have HZ := Aside0.mk (show (Kd.int .u8).C w a.A a.l z by rw [← hzl]; exact hzC)
              have HZB := Aside0.mk hzb
              have HZL := Aside0.mk hzl
              have HZC := Aside0.mk hzc
              have hN18' : (N : Int) ≤ 18000 := by omega
              have HN18 := Aside0.mk hN18
              clear hWA hMA hzs hzC hzb hzl hzw hzc hN18
              by_cases h8 : N % 8 = 0
              · have b1 : (((N : Int).tmod 8) != 0) = false := by rw [Int.tmod_eq_emod_of_nonneg (by omega)]; simp; omega
                have b2 : (((N : Int) % 8) != 0) = false := by simp; omega
                have H8 := Aside0.mk h8
                have ezz : leB (ofB z) a.l = z := by rw [← HZL.out]; exact leB_ofB z HZB.out
                have HOf : Aside0 (Calls Try.prog 13 #[.slice a.A a.l a.c] (wr.alloc (.cells #[.int .i64 a.k, .int .i64 a.n, .int .u32 a.x, .slice a.A a.l a.c] 29)) fun e w' => ∃ A' c', e = .returned (.slice A' (8 * a.l) c') ∧ (Kd.int .u8).C w' A' (8 * a.l) (btL (ofB z) (8 * a.l)) ∧ Below (wr.alloc (.cells #[.int .i64 a.k, .int .i64 a.n, .int .u32 a.x, .slice a.A a.l a.c] 29)).heap.size (wr.alloc (.cells #[.int .i64 a.k, .int .i64 a.n, .int .u32 a.x, .slice a.A a.l a.c] 29)) w') :=
                  ⟨refOf_calls a.A a.c a.l (ofB z) _ (by omega) (by rw [ezz]; exact Kd.C_below HZ.out HBA.out) HZC.out⟩
                have HWB : Aside0 (∀ w3, Writ w3 w.heap.size w1.heap.size v V N → Below w.heap.size w w3 → Calls Try.prog 14 #[.pointer (some ⟨w1.heap.size, 0, none⟩), .slice a.A a.l a.c] w3 fun e w4 => e = .returned .nilIface ∧ ∃ v', Writ w4 w.heap.size w1.heap.size v' (V + ofB z * 2 ^ N) (N + 8 * a.l) ∧ Grew w3 w4 w1.heap.size v v') :=
                  ⟨fun w3 h1 h2 => wbytes_calls w3 _ _ v V N _ _ _ z h2.size h1 h8 (by omega) (Kd.C_below HZ.out h2) HZL.out (by omega) HZB.out⟩
                have hgm : some wr.heap.size ≠ (Value.slice Am N cm).ownBlock := fun h => by have := own_lt HM.out.1 _ h.symm; omega
                have HGM := Aside0.mk hgm
                have HAL : Aside0 (a.l ≤ 30) := ⟨by omega⟩
                clear h8 ezz hgm
                go_wp2_with (first
                  | (go_at_call 13; refine HOf.out.mono ?_; rintro e w2 ⟨A2, c2, rfl, hC2, hb2⟩; have m3 := blk_cell (blk_below hnew.out hb2) 3; simp only [Array.getElem?_eq_getElem, List.size_toArray, List.length_cons, List.length_nil, Nat.reduceAdd, Nat.reduceLT, List.getElem_toArray, List.getElem_cons_succ, List.getElem_cons_zero] at m3; replace hC2 := Aside0.mk hC2; replace hb2 := Aside0.mk hb2)
                  | ((with_reducible refine gate_dst (N := 41) rfl ?_); refine print_append_row (w0 := w) w.heap.size rfl (.tmp 37) (.tmp 40) 26 5 .u8 1 rfl Try.underlying26 info_u8 (by decide) _ (btL V N) (btL (ofB z) (8 * a.l)) _ _ _ rfl rfl (by rw [btL_len]; exact pw_own_below HMA.out hb2.out) (reads_of_C hC2.out) (HBA.out.trans (hb2.out.mono HBA.out.size)) (Nat.le_trans HBA.out.size hb2.out.size) (by rw [btL_len]; have := HN18.out; have := HAL.out; omega) ?_; intro v3 w3 ho hb3 hg hk3; rw [btL_app _ _ _ _ HWA.out.lt, btL_len] at ho; obtain ⟨A3, c3, rfl⟩ := own_slice ho; have m3 := blk_cell (blk_grown (blk_below hnew.out hb2.out) hg HGM.out) 3; simp only [Array.getElem?_eq_getElem, List.size_toArray, List.length_cons, List.length_nil, Nat.reduceAdd, Nat.reduceLT, List.getElem_toArray, List.getElem_cons_succ, List.getElem_cons_zero] at m3; have HO3 := Aside0.mk ho; have HB3 := Aside0.mk hb3; have HW3 := Aside0.mk (And.intro ((HWA.out.below hb2.out).grown hg (own_ne (pw_own_below HMA.out hb2.out) (HWA.out.below hb2.out).wr.blk (by decide)) HM.out.2) (sep_new (HWA.out.below hb2.out).wr.row HM.out.2 hk3)); clear ho hb3 hg hk3)
                  | (go_at_call 14; refine (HWB.out _ HW3.out.1 HB3.out).mono ?_; rintro e w4 ⟨rfl, v4, hw4, hg4⟩; replace hw4 := Aside0.mk hw4; replace hg4 := Aside0.mk hg4))
                go_meet
                case rel =>
                  obtain ⟨p1, p2, p3⟩ := put_close' HB3.out HW3.out.1 HO3.out HW3.out.2 hg4.out
                  exact ⟨A3, c3, v4, _, N + 8 * a.l, none, rfl, rfl, rfl, ⟨by have := HN3.out; have := HAL.out; omega, by simp⟩, hw4, ⟨p1, p2⟩, ⟨p3⟩⟩
              · have b1 : (((N : Int).tmod 8) != 0) = true := by rw [Int.tmod_eq_emod_of_nonneg (by omega)]; simp; omega
                have b2 : (((N : Int) % 8) != 0) = true := by simp; omega
                have H2 : Aside0 (Calls Try.prog 14 #[.pointer (some ⟨w1.heap.size, 0, none⟩), .slice a.A a.l a.c] (wr.alloc (.cells #[.int .i64 a.k, .int .i64 a.n, .int .u32 a.x, .slice a.A a.l a.c] 29)) fun e w' => e = .returned (.iface 62 (.int .i64 2)) ∧ w' = wr.alloc (.cells #[.int .i64 a.k, .int .i64 a.n, .int .u32 a.x, .slice a.A a.l a.c] 29)) :=
                  ⟨wbytes_form _ _ _ v V N _ _ _ HWA.out h8⟩
                clear h8
                go_wp2_with (go_at_call 14; refine H2.out.mono ?_; rintro e w' ⟨rfl, rfl⟩)
                go_meet
                case rel =>
                  exact ⟨Am, cm, v, V, N, some 2, rfl, rfl, rfl, ⟨by have := HN3.out; omega, by simp⟩, HWA, ⟨HMA.out, HM.out.2⟩, HBA⟩
          case rest =>
            obtain ⟨Am', cm', v', V', N', bad, rfl, rfl, rfl, HX, HW', HM', HB'⟩ := hcut
            have hN' : N' ≤ 18300 := by have := HX.out.1; have := HI.out; have := HL.out; omega
            have HNum : Aside0 (∀ w : World, Calls Try.prog 15 #[errV bad] w fun r w' => r = .returned (.int .i64 (numE bad)) ∧ w = w') := ⟨fun w => num_calls bad w HX.out.2⟩
            have HN' := Aside0.mk hN'
            clear hN'
            generalize numE bad = nb at *
            generalize errV bad = eb at *
            have e1 : (nb != nb) = false := by simp
            have e2 : (((N' : Nat) : Int) != ((N' : Nat) : Int)) = false := by simp
            have HTx : Aside0 (∀ w5, Writ w5 w.heap.size w1.heap.size v' V' N' → Calls Try.prog 18 #[.pointer (some ⟨w1.heap.size, 0, none⟩)] w5 fun e w2 => ∃ A3 c3, e = .returned (.slice A3 ((N' + 7) / 8) c3) ∧ (Kd.int .u8).C w2 A3 ((N' + 7) / 8) (leB V' ((N' + 7) / 8)) ∧ Below w5.heap.size w5 w2) := by
              refine ⟨fun w5 h5 => (wtext_calls w5 _ _ v' _ _ h5 (by have := HN'.out; omega)).mono ?_⟩
              rintro e w2 ⟨v', rfl, ho, hb2⟩
              obtain ⟨A3, c3, rfl, _, hc⟩ := own_slice' ho
              exact ⟨A3, c3, rfl, hc, hb2⟩
            have hlen := Aside0.mk (len_calls wc _ _ v' V' N' HW'.out (by have := HN'.out; omega))
            have HBy : Aside0 (∀ (w : World) (A1 A2 : Option Addr) (m1 m2 d1 d2 : Nat) (ys : List Int), (Kd.int .u8).C w A1 m1 ys → (Kd.int .u8).C w A2 m2 ys → Calls Try.prog 17 #[.slice A1 m1 d1, .slice A2 m2 d2] w fun r w' => r = .returned (.bool true) ∧ w = w') := ⟨fun w A1 A2 m1 m2 d1 d2 ys h1 h2 => bytes_yes A1 A2 m1 m2 d1 d2 ys w h1 h2⟩
            go_wp2_with (first
              | (go_at_call 15; refine (HNum.out _).mono ?_; rintro e w' ⟨rfl, rfl⟩)
              | (go_at_call 16; refine hlen.out.mono ?_; rintro e w' ⟨rfl, m5, rfl⟩)
              | (go_at_call 18; refine (HTx.out _ ⟨HW'.out.wr.drewN _, HW'.out.lt⟩).mono ?_; rintro e w2 ⟨A3, c3, rfl, hc3, hb3⟩; replace hc3 := Aside0.mk hc3; replace hb3 := Aside0.mk hb3)
              | (go_at_call 19; refine (refText_calls _ _ V' N' _ HW'.out.lt (by have := HN'.out; omega) (own_C (pw_own_below (pw_own_drewN HM'.out.1 _) hb3.out)) (own_le HM'.out.1)).mono ?_; rintro e w3 ⟨A4, c4, rfl, hc4, hb4⟩; replace hc4 := Aside0.mk hc4; replace hb4 := Aside0.mk hb4)
              | (go_at_call 17; refine (HBy.out _ _ _ _ _ _ _ _ (Kd.C_below hc3.out hb4.out) hc4.out).mono ?_; rintro e w' ⟨rfl, rfl⟩))
            go_roundg (gk - 1)
            case measure => have := HK.out; have := HI.out; omega
            case rel =>
              have hB3 := pw_below_drewN HB'.out m5
              have hs3 := hB3.size
              refine ⟨i + 1, Am', cm', v', V', N', rfl, by go_num, HI.out, by have := HX.out.1; omega, ⟨by have := HK.out; omega⟩, ⟨?_⟩, ⟨⟨pw_own_below (pw_own_below (pw_own_drewN HM'.out.1 m5) hb3.out) hb4.out, HM'.out.2⟩⟩, ⟨?_⟩⟩
              · exact ((Writ.below ⟨HW'.out.wr.drewN m5, HW'.out.lt⟩ hb3.out).below hb4.out)
              · exact (hB3.trans (hb3.out.mono hs3)).trans (hb4.out.mono (Nat.le_trans hs3 hb3.out.size))
        · have h30' : (30 : Int) < ((a.l : Nat) : Int) := by omega
          clear h30
          go_wp2_with fail
          go_ret
          exact ⟨rfl, HBA.out⟩
      · have hni : ¬ ((i : Int) < (L : Int)) := by omega
        clear hi hlt hN
        go_wp2_with fail
        go_ret
        exact ⟨rfl, HB.out⟩
  · have h60 : (60 : Int) < ((l.length : Nat) : Int) := by omega
    clear hlen
    go_enter Try.func3, Try.ntmps3
    go_wp2_with (go_at_call 7; refine (HA.out _).mono ?_; rintro e w1 ⟨rfl, hb⟩; replace hb := Aside0.mk hb)
    go_ret
    exact ⟨rfl, hb.out⟩
end Go.Proofs.Ytjlophlheoikgaa.My
