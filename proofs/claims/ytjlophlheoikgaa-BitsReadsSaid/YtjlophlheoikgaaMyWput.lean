/- The walks of bits.Writer: fits, asks, Put, NewWriter, Align, Len. -/
import Derived.Test.YtjlophlheoikgaaMyPut
import Derived.Test.YtjlophlheoikgaaMyLen32
namespace Go.Proofs.Ytjlophlheoikgaa.My
open Go.RowKit Go.Proofs.YtjlophlheoikgaaW.PrintWords Go.Proofs.YtjlophlheoikgaaW.PrintLast Go.Proofs.YtjlophlheoikgaaW.PrintMore

theorem bitLenAux_le : ∀ f n x : Nat, x < 2 ^ f → (Lib.bitLenAux f x ≤ n ↔ x < 2 ^ n)
  | 0, n, x, h => by simp at h; subst h; simp [Lib.bitLenAux, Nat.two_pow_pos]
  | f + 1, n, x, h => by
    unfold Lib.bitLenAux
    by_cases h0 : x = 0
    · subst h0; simp [Nat.two_pow_pos]
    · rw [if_neg h0]
      cases n with
      | zero => constructor <;> intro h1 <;> simp at h1 ⊢ <;> omega
      | succ n =>
        have := bitLenAux_le f n (x / 2) (by rw [Nat.pow_succ] at h; omega)
        rw [Nat.pow_succ 2 n]
        constructor
        · intro h1; have := this.1 (by omega); omega
        · intro h1; have := this.2 (by omega); omega
theorem bitLen_le (x n : Nat) (h : x < 4294967296) : (Lib.bitLen x ≤ n ↔ x < 2 ^ n) := bitLenAux_le 64 n x (by omega)

/-- So many bits are a number's. -/
def inW (n : Int) : Bool := decide (0 ≤ n ∧ n ≤ 32)
/-- A number has so many bits. -/
def okW (x : Nat) (n : Int) : Bool := decide (0 ≤ n ∧ n ≤ 32 ∧ x < 2 ^ n.toNat)
theorem okW_iff (x : Nat) (n : Int) (h : x < 4294967296) : okW x n = (inW n && decide ((Lib.bitLen x : Int) ≤ n)) := by
  unfold okW inW
  by_cases h0 : 0 ≤ n
  · obtain ⟨m, rfl⟩ := Int.eq_ofNat_of_zero_le h0
    have := bitLen_le x m h
    by_cases h1 : (m : Int) ≤ 32
    · simp [h1, ← this]
    · simp [h1]
  · simp [h0]

theorem fitsw_calls (n : Int) (w : World) : Calls Try.prog 36 #[.int .i64 n] w fun e w' => e = .returned (.bool (inW n)) ∧ w = w' := by
  by_cases h1 : 0 ≤ n
  · by_cases h2 : n ≤ 32
    · rw [show inW n = true from decide_eq_true ⟨h1, h2⟩]
      go_enter Try.func36, Try.ntmps36
      go_wp2
      go_ret
      exact ⟨rfl, rfl⟩
    · rw [show inW n = false from decide_eq_false fun h => h2 h.2]
      go_enter Try.func36, Try.ntmps36
      go_wp2
      go_ret
      exact ⟨rfl, rfl⟩
  · rw [show inW n = false from decide_eq_false fun h => h1 h.1]
    go_enter Try.func36, Try.ntmps36
    go_wp2
    go_ret
    exact ⟨rfl, rfl⟩

/-- What asks answers. -/
def askE (x : Nat) (n : Int) : Option Int := if okW x n then none else some 1
theorem asks_calls (g x : Nat) (n : Int) (w : World) (hx : x < 4294967296) :
    Calls Try.prog 32 #[.pointer (some ⟨g, 0, none⟩), .int .u32 x, .int .i64 n] w fun e w' => e = .returned (errV (askE x n)) ∧ w = w' := by
  have HL : Aside0 (∀ w : World, Calls Try.prog 38 #[.int .u32 x] w fun e w' => e = .returned (.int .i64 (Lib.bitLen x)) ∧ w = w') :=
    ⟨fun w => (Try.bits_Len32 x w (by omega) (by omega)).mono fun e w' h => ⟨by rw [h.1]; rfl, h.2.symm⟩⟩
  have HE := Aside0.mk (okW_iff x n hx)
  obtain ⟨b, hb⟩ : ∃ b, inW n = b := ⟨_, rfl⟩
  have HF : Aside0 (∀ w : World, Calls Try.prog 36 #[.int .i64 n] w fun e w' => e = .returned (.bool b) ∧ w = w') := ⟨fun w => hb ▸ fitsw_calls n w⟩
  rw [hb] at HE
  clear hb
  generalize Lib.bitLen x = L at *
  have u1 := Try.underlying31
  cases b with
  | false =>
    have he : askE x n = some 1 := by unfold askE; rw [HE.out]; rfl
    rw [he]
    clear he HE hx
    go_enter Try.func32, Try.ntmps32
    go_wp2_with (first
      | (go_at_call 36; refine (HF.out _).mono ?_; rintro e w' ⟨rfl, rfl⟩)
      | (go_at_call 38; refine (HL.out _).mono ?_; rintro e w' ⟨rfl, rfl⟩))
    go_ret
    exact ⟨rfl, rfl⟩
  | true =>
    by_cases hl : (L : Int) ≤ n
    · have he : askE x n = none := by unfold askE; rw [HE.out]; simp [hl]
      rw [he]
      clear he HE hx
      go_enter Try.func32, Try.ntmps32
      go_wp2_with (first
        | (go_at_call 36; refine (HF.out _).mono ?_; rintro e w' ⟨rfl, rfl⟩)
        | (go_at_call 38; refine (HL.out _).mono ?_; rintro e w' ⟨rfl, rfl⟩))
      go_ret
      exact ⟨rfl, rfl⟩
    · have he : askE x n = some 1 := by unfold askE; rw [HE.out]; simp [hl]
      rw [he]
      clear he HE hx
      go_enter Try.func32, Try.ntmps32
      go_wp2_with (first
        | (go_at_call 36; refine (HF.out _).mono ?_; rintro e w' ⟨rfl, rfl⟩)
        | (go_at_call 38; refine (HL.out _).mono ?_; rintro e w' ⟨rfl, rfl⟩))
      go_ret
      exact ⟨rfl, rfl⟩

theorem newWriter_calls (w : World) : Calls Try.prog 8 #[] w fun e w' => e = .returned (.pointer (some ⟨w.heap.size, 0, none⟩)) ∧ w' = w.alloc (.cells #[.slice none 0 0, .int .u64 0, .int .i64 0] 66) := by
  go_enter Try.func8, Try.ntmps8
  go_wp2
  go_ret
  exact ⟨rfl, rfl⟩
theorem Writ.new (w : World) (B : Nat) (hB : B ≤ w.heap.size) : Writ (w.alloc (.cells #[.slice none 0 0, .int .u64 0, .int .i64 0] 66)) B w.heap.size (.slice none 0 0) 0 0 :=
  ⟨⟨alloc_self _ _, own_nil _ _ _ _, hB⟩, by decide⟩

theorem put_calls (w : World) (B g : Nat) (v : Value) (V N x : Nat) (n : Int) (hB : B ≤ w.heap.size) (hw : Writ w B g v V N) (hx : x < 4294967296) (hN : N ≤ 1000000000000000) :
    Calls Try.prog 10 #[.pointer (some ⟨g, 0, none⟩), .int .u32 x, .int .i64 n] w fun e w' => e = .returned (errV (askE x n)) ∧
      ((okW x n = false ∧ w' = w) ∨ (okW x n = true ∧ ∃ v', Writ w' B g v' (V + x * 2 ^ N) (N + n.toNat) ∧ Grew w w' g v v')) := by
  have u1 := Try.underlying31
  cases ho : okW x n with
  | false =>
    have e0 : askE x n = some 1 := by unfold askE; rw [ho]; rfl
    have HA : Aside0 (∀ w : World, Calls Try.prog 32 #[.pointer (some ⟨g, 0, none⟩), .int .u32 x, .int .i64 n] w fun e w' => e = .returned (errV (some 1)) ∧ w = w') := ⟨fun w => e0 ▸ asks_calls g x n w hx⟩
    rw [e0]
    clear hw e0 ho
    go_enter Try.func10, Try.ntmps10
    go_wp2_with (go_at_call 32; refine (HA.out _).mono ?_; rintro e w' ⟨rfl, rfl⟩; unfold errV)
    go_ret
    exact ⟨rfl, .inl ⟨by trivial, rfl⟩⟩
  | true =>
    have e0 : askE x n = none := by unfold askE; rw [ho]; rfl
    have HA : Aside0 (∀ w : World, Calls Try.prog 32 #[.pointer (some ⟨g, 0, none⟩), .int .u32 x, .int .i64 n] w fun e w' => e = .returned (errV none) ∧ w = w') := ⟨fun w => e0 ▸ asks_calls g x n w hx⟩
    rw [e0]
    have hk : 0 ≤ n ∧ n ≤ 32 ∧ x < 2 ^ n.toNat := of_decide_eq_true ho
    obtain ⟨k, rfl⟩ := Int.eq_ofNat_of_zero_le hk.1
    rw [Int.toNat_natCast] at *
    have HP := Aside0.mk (putw_calls w B g v V N x k hB hw hk.2.2 (by omega) hN)
    clear hw e0 ho hk
    go_enter Try.func10, Try.ntmps10
    go_wp2_with (first
      | (go_at_call 32; refine (HA.out _).mono ?_; rintro e w' ⟨rfl, rfl⟩; unfold errV)
      | (go_at_call 33; refine HP.out.mono ?_; rintro e w' ⟨rfl, v', HV⟩; replace HV := Aside0.mk HV))
    go_ret
    exact ⟨rfl, .inr ⟨by trivial, v', HV.out⟩⟩

theorem align_calls (w : World) (B g : Nat) (v : Value) (V N : Nat) (hB : B ≤ w.heap.size) (hw : Writ w B g v V N) (hN : N ≤ 1000000000000000) :
    Calls Try.prog 12 #[.pointer (some ⟨g, 0, none⟩)] w fun e w' => e = .returned (.int .i64 ((8 - N % 8) % 8 : Nat)) ∧ ∃ v', Writ w' B g v' V (N + (8 - N % 8) % 8) ∧ Grew w w' g v v' := by
  obtain ⟨c0, c1, c2, f0, f1, f2⟩ := hw.wr.cells
  by_cases hm : N % 8 = 0
  · have e1 : (8 - N % 8) % 8 = 0 := by omega
    rw [e1]
    rw [hm] at c2
    have HW := Aside0.mk hw
    clear hw e1 hm
    go_enter Try.func12, Try.ntmps12
    go_wp2
    go_ret
    first
      | exact ⟨rfl, v, HW.out, Grew.refl _ _ _⟩
      | exact ⟨rfl, v, ⟨HW.out.wr.drew, HW.out.lt⟩, (Grew.refl _ _ _).drew⟩
  · have e1 : (8 - N % 8) % 8 = 8 - N % 8 := by omega
    rw [e1]
    have hp := putw_calls w B g v V N 0 (8 - N % 8) hB hw (Nat.two_pow_pos _) (by omega) hN
    rw [Nat.zero_mul, Nat.add_zero] at hp
    have hm8 : N % 8 < 8 := Nat.mod_lt _ (by decide)
    generalize N % 8 = m at *
    have e2 : ((8 - m : Nat) : Int) = 8 - (m : Int) := by omega
    have hm0 : (m : Int) ≠ 0 := by omega
    rw [e2] at hp ⊢
    have HP := Aside0.mk hp
    clear hp hw e1 e2
    go_enter Try.func12, Try.ntmps12
    go_wp2_with (go_at_call 33; refine HP.out.mono ?_; rintro e w' ⟨rfl, v', HV⟩; replace HV := Aside0.mk HV)
    go_ret
    exact ⟨rfl, v', HV.out⟩

theorem len_calls (w : World) (B g : Nat) (v : Value) (V N : Nat) (hw : Writ w B g v V N) (hN : N ≤ 1000000000000000) :
    Calls Try.prog 16 #[.pointer (some ⟨g, 0, none⟩)] w fun e w' => e = .returned (.int .i64 N) ∧ ∃ m, w' = w.drewN m := by
  obtain ⟨c0, c1, c2, f0, f1, f2⟩ := hw.wr.cells
  obtain ⟨A, c, rfl⟩ := own_slice hw.wr.row
  rw [leB_len] at c0
  have e : (N : Int) = 8 * ((N / 8 : Nat) : Int) + ((N % 8 : Nat) : Int) := by omega
  have h1 : ((N / 8 : Nat) : Int) ≤ 1000000000000000 := by omega
  have h2 : ((N % 8 : Nat) : Int) ≤ 8 := by omega
  rw [e]
  clear e hw
  generalize N / 8 = q at *
  generalize N % 8 = m at *
  go_enter Try.func16, Try.ntmps16
  go_wp2_with fail
  first | go_region | skip
  first | go_wp2_with fail | skip
  go_ret
  first
    | exact ⟨rfl, 0, (World.drewN_zero _).symm⟩
    | exact ⟨rfl, _, rfl⟩
    | exact ⟨rfl, 1, rfl⟩
end Go.Proofs.Ytjlophlheoikgaa.My
