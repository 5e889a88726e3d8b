/- PathParts: the law's walk. -/
import Derived.Test.YtiddhdhojhggeaaDoorMyPathU
import Derived.Test.YtiddhdhojhggeaaDoorMyCleanD
namespace Go.Proofs.YtiddhdhojhggeaaDoor.My
open Go.RowKit Go.Lib Go.Proofs.YtiddhdhojhggeaaDoorW.PrintWords Go.Proofs.YtiddhdhojhggeaaDoorW.PrintLast Go.Proofs.YtiddhdhojhggeaaDoorW.PrintMore Go.Proofs.YtiddhdhojhggeaaDoor.PPathParts Go.Proofs.YtiddhdhojhggeaaDoor.MyDocParts Go.Proofs.YtiddhdhojhggeaaDoor.MyDocUps Go.Proofs.YtiddhdhojhggeaaDoor.MyDocTexts Go.Proofs.YtiddhdhojhggeaaDoor.MyDocLess
set_option maxRecDepth 100000
set_option linter.unusedVariables false
set_option linter.unusedSimpArgs false

def Cells (w : World) (g : Nat) (l : List ByteArray) : Prop := g < w.heap.size ∧ ∀ j (h : j < l.length), w.cell? ⟨g, j, none⟩ = some (.string l[j])
theorem Cells.below {B : Nat} {w w1 : World} {g : Nat} {l : List ByteArray} (h : Cells w g l) (hb : Below B w w1) (hB : g < B) : Cells w1 g l :=
  ⟨Nat.lt_of_lt_of_le h.1 hb.size, fun j hj => (hb.cell (p := ⟨g, j, none⟩) hB).trans (h.2 j hj)⟩
theorem Cells.next {w w1 : World} {g : Nat} {l : List ByteArray} (h : Cells w g l) (hb : Below w.heap.size w w1) : Cells w1 g l := h.below hb h.1
theorem Cells.grown {w w1 : World} {g : Nat} {l : List ByteArray} {row : Option Nat} (h : Cells w g l) (hg : w.grownBy w1 row) (hr : some g ≠ row) : Cells w1 g l :=
  ⟨Nat.lt_of_lt_of_le h.1 hg.size, fun j hj => (World.cell?_of_block (hg.block g h.1 hr)).trans (h.2 j hj)⟩
theorem Cells.of_R {e base : Nat} {ok : Nat → Prop} {w : World} {g c : Nat} {l : List ByteArray} (h : Kd.R Kd.string e w base ok (.slice (some ⟨g, 0, none⟩) l.length c) l) (hp : 0 < l.length) : Cells w g l := by
  obtain ⟨g', c', e', _, hlt, _⟩ := Kd.R_form h hp
  cases e'
  obtain ⟨_, _, hC⟩ := Kd.R_reads' h
  refine ⟨hlt, fun j hj => ?_⟩
  obtain ⟨ad, e1, h3⟩ := Kd.at_string hC (j : Int) (by omega) (by omega)
  cases e1
  rw [rdOf_nat l j hj, add_plain] at h3
  simpa using h3
theorem Cells.C {w : World} {g : Nat} {l : List ByteArray} (h : Cells w g l) (hm : l.length ≤ 9223372036854775807) : Kd.string.C w (some ⟨g, 0, none⟩) l.length l := by
  refine Kd.C_of_reads (d := ByteArray.empty) ⟨rfl, hm, fun _ => ⟨_, rfl, fun j hj => ?_⟩⟩
  rw [add_plain]
  have := h.2 j hj
  simpa [List.getD_eq_getElem?_getD, hj] using this
theorem Cells.take {w : World} {g : Nat} {l : List ByteArray} (h : Cells w g l) (k : Nat) : Cells w g (l.take k) :=
  ⟨h.1, fun j hj => by rw [List.length_take] at hj; rw [List.getElem_take]; exact h.2 j (by omega)⟩

theorem parts_ok (a b : ByteArray) (w0 w : World) (h : Ok w0 w) (ha : a.size ≤ 600) (hb : b.size ≤ 600) :
    Calls Tryd.prog 5 #[.string a, .string b] w fun e w' => e = .returned (.bool true) ∧ Ok w0 w' := by
  obtain ⟨l, p1, p2⟩ := parts_f a (by omega)
  have HP : Aside0 (∀ w, Calls Tryd.prog 16 #[.string a] w fun e w' => ∃ v0_ : Value, e = .returned (v0_) ∧ Kd.R Kd.string 9 w' w.heap.size (fun _ => True) v0_ l ∧ Below w.heap.size w w') := ⟨fun w => crossdockref18_Parts.calls _ a l w p1⟩
  have hlen : l.length ≤ 601 := by
    have h1 := congrArg List.length p2
    have h2 := parts_len a.data.toList
    rw [data_length] at h2
    simp at h1
    omega
  have hpos : 1 ≤ l.length := by
    obtain ⟨p, ps, e⟩ := parts_form a.data.toList
    have h1 := congrArg List.length p2
    rw [e] at h1
    simp at h1
    omega
  have HS : Aside0 (∀ p ∈ l, p.size ≤ 1000000) := ⟨fun p hp => by
    have := parts_le a.data.toList p.data.toList (by rw [← p2]; exact List.mem_map.2 ⟨p, hp, rfl⟩)
    rw [data_length, data_length] at this
    omega⟩
  have HL := Aside0.mk p2
  have HSa : Aside0 (a.size ≤ 600 ∧ b.size ≤ 600) := ⟨ha, hb⟩
  clear p1 p2
  go_enter Tryd.func5, Tryd.ntmps5
  go_upto_region 5 with (go_at_call 7; refine (alive_ok w0 _ h).mono ?_; rintro e w1 ⟨rfl, h1⟩)
  clear ha hb
  go_wp2_with fail
  refine (psplit_ok a _ (by have := HSa.out.1; omega)).mono ?_
  rintro e w2 ⟨d, n, rfl, hd, hn, hdr⟩
  have h2 := h1.drawn hdr
  have HD := Aside0.mk (And.intro hd hn)
  clear hd hn hdr
  go_wp2_with fail
  refine (HP.out _).mono ?_
  rintro e w3 ⟨v3, rfl, hR3, hb3⟩
  have h3 := h2.next hb3
  obtain ⟨gp, cp, rfl, hgp, hgl, hgc⟩ := Kd.R_form hR3 hpos
  obtain ⟨_, hcp, _⟩ := Kd.R_reads' hR3
  have HC3 := Aside0.mk (Cells.of_R hR3 hpos)
  have H3 := Aside0.mk h3
  clear hR3 hb3 hgp hgc h2 h3 h1 h
  go_wp2_with fail
  have HV0 : Aside0 (Kd.R Kd.string 9 (w3.alloc (.cells #[] 9)) w3.heap.size (fun k => k ≠ gp) (.slice (some ⟨w3.heap.size, 0, none⟩) 0 0) []) := ⟨by
    refine Kd.R_of_own ⟨rfl, .inr ⟨w3.heap.size, 0, #[], rfl, Nat.le_refl _, alloc_self _ _, Nat.le_refl _, by simp [maxLen], by simp, by simp [encs]⟩⟩ (fun k hk => ?_)
    have e1 : w3.heap.size = k := by simpa [Value.ownBlock] using hk
    omega⟩
  go_loopw [9, 10] (fun v i wr => ∃ (k : Nat) (acc : List ByteArray), i = .int .i64 ((k : Int) + 1) ∧ k + 1 ≤ l.length ∧ Aside0 (Kd.R Kd.string 9 wr w3.heap.size (fun k => k ≠ gp) v acc) ∧ Aside0 (Below w3.heap.size w3 wr) ∧
      Aside0 (acc.length = k ∧ lists acc = (List.range' 1 k).map fun i => glue ((lists l).take i)) ∧ Aside0 (Cells wr gp l)) (fun _ i _ => l.length + 1 - (Go.RowKit.intOf i).toNat)
  case atStart => exact ⟨0, [], rfl, by omega, HV0, ⟨below_alloc (Below.refl _ _) _⟩, ⟨rfl, rfl⟩, ⟨HC3.out.next (below_alloc (Below.refl _ _) _)⟩⟩
  case round =>
    clear HV0
    obtain ⟨k, acc, rfl, hk, HV, HB, HN, HCs⟩ := hrel
    obtain ⟨A, c, rfl, hac, hA⟩ := Kd.R_reads HV.out
    have hak : acc.length = k := HN.out.1
    have hle : acc.length ≤ 601 := by omega
    have HAc := Aside0.mk hA
    have HAK := Aside0.mk hak
    clear hA hak
    have hll : (lists l).length = l.length := by simp
    have HLL := Aside0.mk hll
    clear hll
    by_cases hlt : k + 1 < l.length
    · obtain ⟨r, hr1, hr⟩ := docJoin_f (l.take (k + 1)) (by rw [List.length_take]; omega) (fun p hp => HS.out p (List.mem_of_mem_take hp))
      have hlt2 : (l.take (k + 1)).length = k + 1 := by rw [List.length_take]; omega
      have hJ := crossdockref18_Join.calls _ (some ⟨gp, 0, none⟩) cp (l.take (k + 1)) r wr ((HCs.out.take (k + 1)).C (by rw [hlt2]; omega)) (by rw [hlt2]; omega) hr1
      rw [hlt2] at hJ
      have hJ2 : Calls Tryd.prog 17 #[.slice (some ⟨gp, 0, none⟩) (k + 1) cp, ] wr fun e w' => e = .returned (.string r) ∧ Drawn0 wr w' := hJ
      have HJ := Aside0.mk hJ2
      have HR := Aside0.mk hr
      clear hr1 hr hlt2 hJ hJ2
      have b1 : (0 : Int) ≤ (k : Int) + 1 := by omega
      have b2 : (k : Int) + 1 ≤ (cp : Int) := by omega
      have e6 : ((k : Int) + 1).toNat = k + 1 := by omega
      go_wp2_with (first
        | (go_at_call 17; refine HJ.out.mono ?_; rintro e w4 ⟨rfl, ⟨⟨n4, rfl⟩⟩⟩)
        | ((with_reducible refine gate_builtin (b := .append) (xs := #[.tmp 38, .tmp 43]) rfl ?_); at_builtin
           refine Kd.R_append Kd.string (w0 := w3) w3.heap.size rfl (.tmp 38) (.tmp 43) 35 9 (.string ⟨#[]⟩) 16 rfl Tryd.underlying35 info9 rfl (by decide) (by omega) (Value.slice A acc.length c) acc r [.string r] (fun k => k ≠ gp) (fun _ => False) rfl rfl rfl (fun _ hk => hk.elim) (fun k hk => by have h9 : wr.heap.size ≤ k := hk; have := HCs.out.1; omega) (Kd.R_drewN HV.out n4) (pw_below_drewN HB.out n4) HB.out.size (by omega) ?_
           intro v5 w5 hv5 hb5 hg5 hat5
           have HV5 := Aside0.mk hv5
           have HB5 := Aside0.mk hb5
           have HG5 := Aside0.mk hg5
           clear hv5 hb5 hg5 hat5))
      have HN5 : Aside0 ((acc ++ [r]).length = k + 1 ∧ lists (acc ++ [r]) = (List.range' 1 (k + 1)).map fun i => glue ((lists l).take i)) := ⟨by simp [HAK.out], by
        have h1 : lists (acc ++ [r]) = lists acc ++ [r.data.toList] := by simp
        have h2 : lists (l.take (k + 1)) = (lists l).take (k + 1) := List.map_take
        rw [h1, HN.out.2, HR.out, h2, List.range'_concat, List.map_append]
        simp [Nat.add_comm]⟩
      have HC5 : Aside0 (Cells w5 gp l) := ⟨Cells.grown (w := wr.drewN n4) HCs.out HG5.out (fun e => HV.out.1 gp e.symm rfl)⟩
      go_roundw
      case rel => exact ⟨k + 1, acc ++ [r], by go_num, by omega, HV5, HB5, HN5, HC5⟩
      case measure => simp [Go.RowKit.intOf]; omega
    · have hkl : k + 1 = l.length := by omega
      have hups : lists acc = upsP a.data.toList := by
        rw [HN.out.2, upsP, ← HL.out, HLL.out, show l.length - 1 = k by omega]
      obtain ⟨us, u1, u2⟩ := ups_f a (by have := HSa.out.1; omega)
      have hul : us.length = acc.length := by
        have := congrArg List.length (u2.trans hups.symm)
        simpa using this
      have HU : Aside0 (∀ w, Calls Tryd.prog 19 #[.string a] w fun e w' => ∃ v0_ : Value, e = .returned (v0_) ∧ Kd.R Kd.string 9 w' w.heap.size (fun _ => True) v0_ us ∧ Below w.heap.size w w') := ⟨fun w => path_Ups.calls _ a us w u1⟩
      have HT : Aside0 (crossdocknum_Texts.f (us.length + 1) us acc = some true) := ⟨texts_f us acc (u2.trans hups.symm) (by omega)⟩
      obtain ⟨r, hr1, hr⟩ := docJoin_f (l.take (l.length - 1)) (by rw [List.length_take]; omega) (fun p hp => HS.out p (List.mem_of_mem_take hp))
      have hlt2 : (l.take (l.length - 1)).length = l.length - 1 := by rw [List.length_take]; omega
      have hJ := fun w hC => crossdockref18_Join.calls _ (some ⟨gp, 0, none⟩) cp (l.take (l.length - 1)) r w hC (by rw [hlt2]; omega) hr1
      have hre : r = d := ba_ext (by
        have h2 : lists (l.take (l.length - 1)) = (lists l).take (l.length - 1) := List.map_take
        rw [hr, HD.out.1, dirP, ← HL.out, h2, List.dropLast_eq_take, HLL.out])
      subst hre
      rw [hlt2] at hJ
      have HJ : Aside0 (∀ w, Cells w gp l → Calls Tryd.prog 17 #[.slice (some ⟨gp, 0, none⟩) (l.length - 1) cp] w fun e w' => e = .returned (.string r) ∧ Drawn0 w w') := ⟨fun w hc => hJ w (by have := (hc.take (l.length - 1)).C (by omega); rwa [hlt2] at this)⟩
      have hx : l[l.length - 1]'(by omega) = n := ba_ext (by
        rw [HD.out.2, nameP, ← HL.out]
        rw [List.getLastD_eq_getLast?, List.getLast?_eq_getElem?, HLL.out]
        simp [show l.length - 1 < l.length by omega])
      have hcell : wr.cell? ⟨gp, l.length - 1, none⟩ = some (.string n) := by rw [← hx]; exact HCs.out.2 _ _
      have HK := Aside0.mk hkl
      have HUL := Aside0.mk hul
      have g1 : (n.toList == n.toList) = true := by simp
      have g2 : (!n.toList == n.toList) = false := by simp
      have g3 : (r.toList == r.toList) = true := by simp
      have g4 : (!r.toList == r.toList) = false := by simp
      have b1 : (0 : Int) ≤ (l.length : Int) - 1 := by omega
      have b2 : (l.length : Int) - 1 < (l.length : Int) := by omega
      have b3 : (l.length : Int) - 1 ≤ (cp : Int) := by omega
      have e6 : ((l.length : Int) - 1).toNat = l.length - 1 := by omega
      clear hups u1 u2 hul hr1 hr hlt2 hJ hx hkl
      go_wp2_with (go_at_call 17; refine (HJ.out _ HCs.out).mono ?_; rintro e w4 ⟨rfl, ⟨⟨n4, rfl⟩⟩⟩)
      refine (HU.out _).mono ?_
      rintro e w5 ⟨v5, rfl, hR5, hb5⟩
      obtain ⟨A5, c5, rfl, hc5, hC5⟩ := Kd.R_reads hR5
      have h5 : Ok w0 w5 := ((H3.out.next HB.out).drawn (w1 := wr.drewN n4) ⟨⟨n4, rfl⟩⟩).next hb5
      have HTc := Aside0.mk (crossdocknum_Texts.calls _ A5 c5 us A c acc true w5 hC5 hc5 (Kd.C_below (Kd.C_drewN HAc.out n4) hb5) hac HT.out)
      have H5 := Aside0.mk h5
      obtain ⟨kl, hkl⟩ := docLess_f a b HSa.out.1 HSa.out.2
      have HLd : Aside0 (∀ w, Calls Tryd.prog 22 #[.string a, .string b] w fun e w' => e = .returned (.bool (lessP a.data.toList b.data.toList)) ∧ Below w.heap.size w w') := ⟨fun w => crossdockref18_Less.calls kl a b _ w hkl⟩
      have HLs : Aside0 (∀ w, Ok w0 w → Calls Tryd.prog 8 #[.string a, .string b] w fun e w' => e = .returned (.bool (lessP a.data.toList b.data.toList)) ∧ Ok w0 w') := ⟨fun w h => less_ok a b w0 w h (by have := HSa.out.1; omega) (by have := HSa.out.2; omega)⟩
      have HWd : Aside0 (∀ w, Calls Tryd.prog 21 #[.string a, .string b] w fun e w' => e = .returned (.bool (withinP a.data.toList b.data.toList)) ∧ w = w') := ⟨fun w => docWithin_calls a b w (by have := HSa.out.1; omega) (by have := HSa.out.2; omega)⟩
      have HWi : Aside0 (∀ w, Calls Tryd.prog 9 #[.string a, .string b] w fun e w' => e = .returned (.bool (withinP a.data.toList b.data.toList)) ∧ w = w') := ⟨fun w => within_calls a b w (by have := HSa.out.2; omega)⟩
      have hsz : a.size + 1 ≤ 9223372036854775807 := by have := HSa.out.1; omega
      have hsz2 : (a ++ (⟨#[47]⟩ : ByteArray)).size + b.size ≤ 9223372036854775807 := by
        have h1 : (a ++ (⟨#[47]⟩ : ByteArray)).size = a.size + 1 := by rw [ByteArray.size_append]; rfl
        have := HSa.out
        omega
      clear hR5 hb5 hc5 hC5 h5 hkl
      generalize lessP a.data.toList b.data.toList = lv at *
      generalize withinP a.data.toList b.data.toList = wv at *
      have q1 : (lv == lv) = true := by simp
      have q2 : (wv == wv) = true := by simp
      obtain ⟨r6, r61, r62⟩ := pjoin_f a b (by have := HSa.out.1; omega) (by have := HSa.out.2; omega)
      by_cases h0 : a.data.toList = []
      · have f1 : (a.toList == []) = true := by rw [ByteArray.toList_eq, h0]; rfl
        have f2 : a.toList.isEmpty = true := by rw [ByteArray.toList_eq, h0]; rfl
        have e6' : r6 = b := ba_ext (by rw [r62, joinP, if_pos h0])
        subst e6'
        have HJn : Aside0 (∀ w, Calls Tryd.prog 20 #[.string a, .string r6] w fun e w' => e = .returned (.string r6) ∧ Drawn0 w w') := ⟨fun w => path_Join.calls a r6 r6 w r61⟩
        have q3 : (r6.toList == r6.toList) = true := by simp
        clear r61 r62 h0
        go_wp2_with (first
          | (go_at_call 18; refine HTc.out.mono ?_; rintro e w6 ⟨rfl, hd6⟩; have h6 := H5.out.drawn hd6; clear hd6)
          | (go_at_call 20; refine (HJn.out _).mono ?_; rintro e w7 ⟨rfl, hd7⟩; have h7 := h6.drawn hd7; clear hd7)
          | (go_at_call 9; refine (HWi.out _).mono ?_; rintro e w8 ⟨rfl, rfl⟩)
          | (go_at_call 21; refine (HWd.out _).mono ?_; rintro e w9 ⟨rfl, rfl⟩)
          | (go_at_call 8; refine (HLs.out _ h7).mono ?_; rintro e w10 ⟨rfl, h10⟩)
          | (go_at_call 22; refine (HLd.out _).mono ?_; rintro e w11 ⟨rfl, hb11⟩; have h11 := h10.next hb11; clear hb11))
        go_ret
        exact ⟨rfl, h11⟩
      · have f1 : (a.toList == []) = false := by rw [ByteArray.toList_eq]; exact beq_eq_false_iff_ne.2 h0
        have f2 : a.toList.isEmpty = false := by
          rw [ByteArray.toList_eq]
          cases k : a.data.toList with
          | nil => exact absurd k h0
          | cons _ _ => rfl
        have e6' : r6 = (a ++ (⟨#[47]⟩ : ByteArray)) ++ b := ba_ext (by rw [r62, joinP, if_neg h0]; simp)
        subst e6'
        have HJn : Aside0 (∀ w, Calls Tryd.prog 20 #[.string a, .string b] w fun e w' => e = .returned (.string ((a ++ (⟨#[47]⟩ : ByteArray)) ++ b)) ∧ Drawn0 w w') := ⟨fun w => path_Join.calls a b _ w r61⟩
        have q3 : (((a ++ (⟨#[47]⟩ : ByteArray)) ++ b).toList == ((a ++ (⟨#[47]⟩ : ByteArray)) ++ b).toList) = true := by simp
        clear r61 r62 h0
        go_wp2_with (first
          | (go_at_call 18; refine HTc.out.mono ?_; rintro e w6 ⟨rfl, hd6⟩; have h6 := H5.out.drawn hd6; clear hd6)
          | (go_at_call 20; refine (HJn.out _).mono ?_; rintro e w7 ⟨rfl, hd7⟩; have h7 := h6.drawn hd7; clear hd7)
          | (go_at_call 9; refine (HWi.out _).mono ?_; rintro e w8 ⟨rfl, rfl⟩)
          | (go_at_call 21; refine (HWd.out _).mono ?_; rintro e w9 ⟨rfl, rfl⟩)
          | (go_at_call 8; refine (HLs.out _ h7).mono ?_; rintro e w10 ⟨rfl, h10⟩)
          | (go_at_call 22; refine (HLd.out _).mono ?_; rintro e w11 ⟨rfl, hb11⟩; have h11 := h10.next hb11; clear hb11))
        go_ret
        exact ⟨rfl, h11⟩
theorem parts_long (a b : ByteArray) (w0 w : World) (h : Ok w0 w) (hl : 600 < a.size ∨ 600 < b.size) (h1 : a.size ≤ 140737488351232) (h2 : b.size ≤ 140737488351232) :
    Calls Tryd.prog 5 #[.string a, .string b] w fun e w' => e = .returned (.bool true) ∧ Ok w0 w' := by
  have HA : Aside0 (∀ w, Ok w0 w → Calls Tryd.prog 7 #[] w fun e w' => e = .returned (.bool true) ∧ Ok w0 w') := ⟨fun w h => alive_ok w0 w h⟩
  by_cases ca : 600 < a.size
  · clear hl
    go_enter Tryd.func5, Tryd.ntmps5
    go_wp2_with (go_at_call 7; refine (HA.out _ h).mono ?_; rintro e w1 ⟨rfl, h1⟩)
    go_ret
    exact ⟨rfl, by assumption⟩
  · have cb : 600 < b.size := by omega
    clear hl
    go_enter Tryd.func5, Tryd.ntmps5
    go_wp2_with (go_at_call 7; refine (HA.out _ h).mono ?_; rintro e w1 ⟨rfl, h1⟩)
    go_ret
    exact ⟨rfl, by assumption⟩
theorem parts_walk (a b : ByteArray) (w : World) (ha : a.size ≤ 140737488351232) (hb : b.size ≤ 140737488351232)
    (hL : laidMetH Tryd.prog Rows.pathPartsRow.laid w) (hs : w.ShapedOpen Tryd.prog) :
    Calls Tryd.prog 5 #[.string a, .string b] w fun e w' => e = .returned (.bool true) ∧ Below w.heap.size w w' := by
  have hg := Ok.start (gl_of hL hs)
  by_cases h : 600 < a.size ∨ 600 < b.size
  · exact (parts_long a b w w hg h ha hb).mono fun e w' ⟨h1, h2⟩ => ⟨h1, h2.bel⟩
  · exact (parts_ok a b w w hg (by omega) (by omega)).mono fun e w' ⟨h1, h2⟩ => ⟨h1, h2.bel⟩
end Go.Proofs.YtiddhdhojhggeaaDoor.My
