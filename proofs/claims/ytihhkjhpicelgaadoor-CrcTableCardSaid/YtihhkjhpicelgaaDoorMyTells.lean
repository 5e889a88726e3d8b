import Derived.Test.YtihhkjhpicelgaaDoorMyWalk
import Derived.Test.YtihhkjhpicelgaaDoorMyRef
namespace Go.Proofs.YtihhkjhpicelgaaDoor.My
open Go.RowKit Go.Proofs.YtihhkjhpicelgaaDoor.Plain Go.Proofs.YtihhkjhpicelgaaDoor.PCrcTells Go.Proofs.YtihhkjhpicelgaaDoorW.PrintWords

theorem tells_calls (s : Nat) (A1 : Option Addr) (c1 : Nat) (l : List Nat) (w : World) (ht : TabW w) (hs : s < 2 ^ 32) (hl : Bytes l)
    (hm : l.length ≤ 140737488351232) (hr1 : Kd.C (Kd.int .u8) w A1 (ints l).length (ints l)) (hc1 : (ints l).length ≤ c1) :
    Calls Tryd.prog 3 #[.int .u32 s, .slice A1 (ints l).length c1] w fun e w' => e = .returned (.bool true) ∧ Below w.heap.size w w' := by
  obtain ⟨k1, K1⟩ := ref_add s l hs hl hm
  obtain ⟨k2, K2⟩ := ref_of l hl hm
  have A1 := Aside0.mk (addF_nat s l hs hl)
  have A2 : Aside0 (addF 0 (ints l) = ((addN 0 l : Nat) : Int)) := Aside0.mk (addF_nat 0 l (by decide) hl)
  have K1 := Aside0.mk K1
  have K2 := Aside0.mk K2
  have HT := Aside0.mk ht
  have HR := Aside0.mk hr1
  have HC := Aside0.mk hc1
  clear ht hr1 hc1 hl
  go_enter Tryd.func3, Tryd.ntmps3
  go_wp2_with (first
    | (go_at_call 7; refine (alive_calls _ HT.out).mono ?_; rintro e w1 ⟨rfl, hb⟩; have HB := Aside0.mk hb; have HT1 := Aside0.mk (HT.out.below hb); have HR1 := Aside0.mk (Kd.C_below HR.out hb); clear hb)
    | (go_at_call 8; refine (of_calls _ _ _ _ (by repeat (first | exact HT1.out | apply TabW.drewN)) (by repeat (first | exact HR1.out | apply Kd.C_drewN)) HC.out).mono ?_; rintro e w1 ⟨rfl, ⟨nd, rfl⟩⟩; rw [A2.out])
    | (go_at_call 10; refine (add_calls _ _ _ _ _ (by exact (show TabW _ by repeat (first | exact HT1.out | apply TabW.drewN)).2) (by repeat (first | exact HR1.out | apply Kd.C_drewN)) HC.out).mono ?_; rintro e w1 ⟨rfl, ⟨nd, rfl⟩⟩; rw [A1.out])
    | (go_at_call 9; refine (crossdockref04_Of.calls k2 _ _ _ _ _ (by repeat (first | exact HR1.out | apply Kd.C_drewN)) HC.out K2.out).mono ?_; rintro e w1 ⟨rfl, ⟨nd, rfl⟩⟩)
    | (go_at_call 11; refine (crossdockref04_Add.calls k1 _ _ _ _ _ _ (by repeat (first | exact HR1.out | apply Kd.C_drewN)) HC.out K1.out).mono ?_; rintro e w1 ⟨rfl, ⟨nd, rfl⟩⟩))
  all_goals
    go_ret
    exact ⟨rfl, by repeat (first | exact HB.out | apply pw_below_drewN)⟩

theorem info5 : (Tryd.prog.info? 5).map (fun i => (i.zero, i.size, i.bytes)) = some (some (.int .u8 0), 1, 1) := by kernel_rfl
theorem reads_of_C {w : World} {A : Option Addr} {n : Nat} {xs : List Int} (h : (Kd.int .u8).C w A n xs) : ReadsInt w .u8 A n xs := by
  refine ⟨h.1, h.2.1, fun hn => ?_⟩
  obtain ⟨ad, rfl, hc⟩ := Kd.at_int h 0 (by omega) (by omega)
  refine ⟨ad, rfl, fun j hj => ?_⟩
  obtain ⟨ad', e, hc'⟩ := Kd.at_int h j (by omega) (by omega)
  cases e
  simpa [rd] using hc'
theorem C_of_readsInt {w : World} {A : Option Addr} {n : Nat} {xs : List Int} (h : ReadsInt w .u8 A n xs) : (Kd.int .u8).C w A n xs := Kd.C_of_reads (d := 0) h

theorem ints_append (a b : List Nat) : ints a ++ ints b = ints (a ++ b) := by simp [ints]
theorem bytes_append {a b : List Nat} (ha : Bytes a) (hb : Bytes b) : Bytes (a ++ b) := fun x hx => (List.mem_append.1 hx).elim (ha x) (hb x)
theorem own_slice' {w : World} {base n : Nat} {e : TypeId} {v : Value} {xs : List Int} (h : w.ownsRow base e 1 v n (nums .u8 xs)) : ∃ A c, v = .slice A n c ∧ n ≤ c ∧ (Kd.int .u8).C w A n xs := by
  obtain ⟨A, c, rfl, hr⟩ := own_reads h
  refine ⟨A, c, rfl, ?_, C_of_readsInt hr⟩
  rcases h.2 with ⟨h1, h2⟩ | ⟨g, cap, cur, h1, _, _, h3, _⟩
  · omega
  · cases h1; exact h3

set_option maxHeartbeats 400000 in
theorem cuts_calls (s : Nat) (A1 A2 : Option Addr) (c1 c2 : Nat) (a b : List Nat) (w : World) (ht : TabW w) (hs : s < 2 ^ 32) (ha : Bytes a) (hb : Bytes b)
    (hr1 : Kd.C (Kd.int .u8) w A1 (ints a).length (ints a)) (hc1 : (ints a).length ≤ c1) (hr2 : Kd.C (Kd.int .u8) w A2 (ints b).length (ints b)) (hc2 : (ints b).length ≤ c2) :
    Calls Tryd.prog 4 #[.int .u32 s, .slice A1 (ints a).length c1, .slice A2 (ints b).length c2] w fun e w' => e = .returned (.bool true) ∧ Below w.heap.size w w' := by
  have E1 : Aside0 (addF 0 (ints a) = ((addN 0 a : Nat) : Int)) := ⟨addF_nat 0 a (by decide) ha⟩
  have E2 : Aside0 (addF ((addN 0 a : Nat) : Int) (ints b) = ((addN 0 (a ++ b) : Nat) : Int)) := ⟨by rw [addF_nat _ b (addN_lt 0 a (by decide) ha) hb, addN_append]⟩
  have E3 : Aside0 (addF 0 (ints (a ++ b)) = ((addN 0 (a ++ b) : Nat) : Int)) := ⟨addF_nat 0 _ (by decide) (bytes_append ha hb)⟩
  have E4 : Aside0 (addF s (ints a) = ((addN s a : Nat) : Int)) := ⟨addF_nat s a hs ha⟩
  have E5 : Aside0 (addF ((addN s a : Nat) : Int) (ints b) = ((addN s (a ++ b) : Nat) : Int)) := ⟨by rw [addF_nat _ b (addN_lt s a hs ha) hb, addN_append]⟩
  have E6 : Aside0 (addF s (ints (a ++ b)) = ((addN s (a ++ b) : Nat) : Int)) := ⟨addF_nat s _ hs (bytes_append ha hb)⟩
  have E7 : Aside0 (addF s [] = (s : Int)) := ⟨by have := addF_nat s [] hs (fun _ h => by simp at h); rwa [addN_nil] at this⟩
  have HT := Aside0.mk ht
  have HR := Aside0.mk hr1
  have HC := Aside0.mk hc1
  have HRb := Aside0.mk hr2
  have HCb := Aside0.mk hc2
  clear ht hr1 hc1 hr2 hc2 ha hb hs
  by_cases hla : 2000 < (ints a).length
  · go_enter Tryd.func4, Tryd.ntmps4
    go_wp2_with (go_at_call 7; refine (alive_calls _ HT.out).mono ?_; rintro e w1 ⟨rfl, hb⟩; have HB := Aside0.mk hb; clear hb)
    all_goals
      go_ret
      exact ⟨rfl, HB.out⟩
  by_cases hlb : 2000 < (ints b).length
  · go_enter Tryd.func4, Tryd.ntmps4
    go_wp2_with (go_at_call 7; refine (alive_calls _ HT.out).mono ?_; rintro e w1 ⟨rfl, hb⟩; have HB := Aside0.mk hb; clear hb)
    all_goals
      go_ret
      exact ⟨rfl, HB.out⟩
  go_enter Tryd.func4, Tryd.ntmps4
  go_wp2_with (first
    | (go_at_call 7; refine (alive_calls _ HT.out).mono ?_; rintro e w1 ⟨rfl, hb⟩; have HB := Aside0.mk hb; have HT1 := Aside0.mk (HT.out.below hb); have HR1 := Aside0.mk (Kd.C_below HR.out hb); have HR2 := Aside0.mk (Kd.C_below HRb.out hb); clear hb)
    | ((with_reducible refine gate_dst (N := 20) rfl ?_); refine print_append_row (w0 := w1) w1.heap.size rfl (.tmp 18) (.tmp 19) 23 5 .u8 1 rfl Tryd.underlying23 info5 (by decide) _ [] (ints a) A1 _ c1 rfl rfl (own_lit w1 w1.heap.size 5 .u8 [] (Nat.le_refl _) (by decide)) (reads_of_C (Kd.C_alloc HR1.out _)) (below_alloc (Below.refl _ _) _) (by simp) (by simp; omega) ?_; intro v1 w2 ho hb hg hn; clear hg hn; rw [List.nil_append] at ho; have HB2 := Aside0.mk hb; have HO := Aside0.mk ho; clear hb ho)
    | ((with_reducible refine gate_dst (N := 22) rfl ?_); refine print_append_row (w0 := w1) w1.heap.size rfl (.tmp 20) (.tmp 21) 23 5 .u8 1 rfl Tryd.underlying23 info5 (by decide) _ (ints a) (ints b) A2 _ c2 rfl rfl HO.out (reads_of_C (Kd.C_below HR2.out HB2.out)) HB2.out HB2.out.size (by omega) ?_; intro v2 w3 ho hb hg hn; clear hg hn; rw [ints_append] at ho; obtain ⟨A3, c3, rfl, hc3, hr3⟩ := own_slice' ho; have HB3 := Aside0.mk hb; have HR3 := Aside0.mk hr3; have HC3 := Aside0.mk hc3; have HT3 := Aside0.mk (HT1.out.below hb); have HRa := Aside0.mk (Kd.C_below HR1.out hb); have HRbb := Aside0.mk (Kd.C_below HR2.out hb); clear hb ho hc3 hr3))
  refine (of_calls _ _ (ints a) _ HT3.out HRa.out HC.out).mono ?_
  rintro e w4 ⟨rfl, ⟨n1, rfl⟩⟩
  rw [E1.out]
  go_wp2_with fail
  refine (add_calls _ _ _ (ints b) _ (HT3.out.drewN _).2 (Kd.C_drewN HRbb.out _) HCb.out).mono ?_
  rintro e w4 ⟨rfl, ⟨n2, rfl⟩⟩
  rw [E2.out]
  go_wp2_with fail
  refine (of_calls _ _ (ints (a ++ b)) _ (HT3.out.drewN _) (Kd.C_drewN HR3.out _) HC3.out).mono ?_
  rintro e w4 ⟨rfl, ⟨n3, rfl⟩⟩
  rw [E3.out]
  go_wp2_with fail
  refine (add_calls _ _ _ (ints a) _ (HT3.out.drewN _).2 (Kd.C_drewN HRa.out _) HC.out).mono ?_
  rintro e w4 ⟨rfl, ⟨n4, rfl⟩⟩
  rw [E4.out]
  go_wp2_with fail
  refine (add_calls _ _ _ (ints b) _ (HT3.out.drewN _).2 (Kd.C_drewN HRbb.out _) HCb.out).mono ?_
  rintro e w4 ⟨rfl, ⟨n5, rfl⟩⟩
  rw [E5.out]
  go_wp2_with fail
  refine (add_calls _ _ _ (ints (a ++ b)) _ (HT3.out.drewN _).2 (Kd.C_drewN HR3.out _) HC3.out).mono ?_
  rintro e w4 ⟨rfl, ⟨n6, rfl⟩⟩
  rw [E6.out]
  go_wp2_with fail
  refine (add_calls _ _ _ [] _ (HT3.out.drewN _).2 (Kd.C_nil _ _) (Nat.zero_le _)).mono ?_
  rintro e w4 ⟨rfl, ⟨n7, rfl⟩⟩
  rw [E7.out]
  go_wp2
  go_ret
  exact ⟨rfl, pw_below_drewN (below_then HB.out HB.out.size HB3.out) _⟩
end Go.Proofs.YtihhkjhpicelgaaDoor.My
