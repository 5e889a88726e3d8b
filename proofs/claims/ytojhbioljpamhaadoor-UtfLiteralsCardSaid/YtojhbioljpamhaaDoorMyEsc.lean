/- The walks of literal.escape, literal.sign. -/
import Derived.Test.YtojhbioljpamhaaDoorMyUni
import Derived.Deep.RegionWith
import Derived.Test.YtojhbioljpamhaaDoorMyFull
import Derived.Test.YtojhbioljpamhaaDoorMyQuoteD
namespace Go.Proofs.YtojhbioljpamhaaDoor.My
open Go.RowKit Go.Lib Go.Proofs.YtojhbioljpamhaaDoorW.PrintWords Go.Proofs.YtojhbioljpamhaaDoorW.PrintLast Go.Proofs.YtojhbioljpamhaaDoorW.PrintMore
set_option maxRecDepth 100000
set_option linter.unusedVariables false
set_option linter.unusedSimpArgs false

def shI (c : Int) : Int := Lib.indexByte [34, 92, 47, 98, 102, 110, 114, 116] c.toNat.toUInt8
def sgL : List Int := [34, 92, 47, 8, 12, 10, 13, 9]
theorem indexByte_range (c : UInt8) : ∀ l : List UInt8, -1 ≤ Lib.indexByte l c ∧ Lib.indexByte l c < l.length
  | [] => by simp [Lib.indexByte]
  | b :: l => by
    have := indexByte_range c l
    rw [Lib.indexByte]
    simp only [List.length_cons]
    repeat' split
    all_goals omega
theorem shI_range (c : Int) : -1 ≤ shI c ∧ shI c < 8 := indexByte_range _ _
/-- What an escape puts out; the place i is behind the stroke. -/
def escR (s : ByteArray) (i : Nat) : Except Int (List Int × Nat) :=
  if h : i < s.size then
    if byteI s i h = 117 then
      match uniR s (i + 1) with
      | .error c => .error c
      | .ok (x, j) => .ok (enc x, j)
    else if shI (byteI s i h) < 0 then .error 2 else .ok ([sgL.getD (shI (byteI s i h)).toNat 0], i + 1)
  else .error 10
/-- A sign's bytes. -/
def signR (s : ByteArray) (i : Nat) : Except Int (List Int × Nat) :=
  if (Utf8.decode s i).1 = 65533 ∧ (Utf8.decode s i).2 = 1 then
    if fullX (firstT (s.get! i).toNat) (s.size - i) (s.get! (i + 1)).toNat (s.get! (i + 2)).toNat = true then .error 9 else .error 10
  else .ok (bytesOf (s.extract i (i + (Utf8.decode s i).2)), i + (Utf8.decode s i).2)
theorem signs_sg (i : Int) (h0 : 0 ≤ i) (h1 : i < 8) (h : i.toNat < signs.size) : (((signs[i.toNat]'h).toNat : Nat) : Int) = sgL.getD i.toNat 0 := by
  have key : ∀ i : Fin 8, (((signs[i.1]'i.2).toNat : Nat) : Int) = sgL.getD i.1 0 := by decide +kernel
  exact key ⟨i.toNat, by omega⟩
section
variable {B g : Nat} {s : ByteArray} {i : Nat} {out : List Int}
theorem unicode_ok {x : Int} {j : Nat} (hu : uniR s i = .ok (x, j)) (w : World) (h : Lit w B g s i out) (hs : s.size ≤ 1000000) (hi : i ≤ s.size) :
    Calls Tryd.prog 48 #[.pointer (some ⟨g, 0, none⟩)] w fun e w' => e = .returned (.int .i32 x) ∧ (0 ≤ x ∧ x ≤ 1114111 ∧ i + 4 ≤ j ∧ j ≤ s.size) ∧ Lit w' B g s j out ∧ Kp B g w w' :=
  (unicode_calls w h hs hi).mono fun e w' h => by
    rcases h with ⟨x', j', h1, h2, h3, h4, h5, h6, h7, h8⟩ | ⟨c, h1, _⟩
    · rw [hu] at h1
      cases h1
      exact ⟨h2, ⟨h3, h4, h5, h6⟩, h7, h8⟩
    · rw [hu] at h1; cases h1
theorem unicode_er {c : Int} (hu : uniR s i = .error c) (w : World) (h : Lit w B g s i out) (hs : s.size ≤ 1000000) (hi : i ≤ s.size) :
    Calls Tryd.prog 48 #[.pointer (some ⟨g, 0, none⟩)] w (Thr B g w c) :=
  (unicode_calls w h hs hi).mono fun e w' h => by
    rcases h with ⟨x', j', h1, _⟩ | ⟨c', h1, h2⟩
    · rw [hu] at h1; cases h1
    · rw [hu] at h1; cases h1; exact h2
theorem escape_calls (w : World) (h : Lit w B g s i out) (hs : s.size ≤ 1000000) (hi : i ≤ s.size) (ho : out.length ≤ 100000000) :
    Calls Tryd.prog 37 #[.pointer (some ⟨g, 0, none⟩)] w fun e w' =>
      (∃ p j, escR s i = .ok (p, j) ∧ e = .returned (.tuple #[]) ∧ i < j ∧ j ≤ s.size ∧ Lit w' B g s j (out ++ p) ∧ Kp B g w w') ∨ (∃ c, escR s i = .error c ∧ Thr B g w c e w') := by
  have HN := Aside0.mk (next_calls w h hs hi)
  clear h
  go_enter Tryd.func37, Tryd.ntmps37
  go_wp2_with fail
  refine HN.out.mono ?_
  rintro e w1 (⟨hlt, rfl, hL1, hK1⟩ | ⟨hge, hT⟩)
  · have H1 := Aside0.mk (And.intro hL1 (hK1 B))
    clear hL1 hK1 HN
    by_cases e0 : byteI s i hlt = 117
    · have f1 : (byteI s i hlt == 117) = true := beq_iff_eq.2 e0
      have HU : Aside0 (escR s i = match uniR s (i + 1) with | .error c => .error c | .ok (x, j) => .ok (enc x, j)) := ⟨by rw [escR, dif_pos hlt, if_pos e0]⟩
      clear e0
      generalize byteI s i hlt = b0 at *
      have HLd : Aside0 (Lit w1.drew B g s (i + 1) out ∧ Kp B g w w1.drew) := ⟨H1.out.1.below ⟨rfl, rfl, rfl, Nat.le_refl _, fun _ _ => rfl⟩, H1.out.2.trans (kp_drew w1)⟩
      cases hu : uniR s (i + 1) with
      | error c =>
        have HE : Aside0 (escR s i = .error c) := ⟨by rw [HU.out, hu]⟩
        have HC : Aside0 (Calls Tryd.prog 48 #[.pointer (some ⟨g, 0, none⟩)] w1.drew fun e w' => (e = .returned (.int .i32 0) ∧ Aside0 False) ∨ Thr B g w1.drew c e w') := ⟨(unicode_er hu w1.drew HLd.out.1 hs (by omega)).mono fun e w' h => .inr h⟩
        clear hu HU
        go_wp2_with fail
        go_region_with (first
          | (go_at_call 48; refine HC.out.mono ?_; rintro e w3 (⟨rfl, HFa⟩ | hT); rotate_left 1; (have HT := Aside0.mk (Thr.after HLd.out.2 hT); obtain ⟨j, rfl, hT2⟩ := hT; clear hT2; go_simp; exact post_panic rfl (.inr ⟨c, HE.out, HT.out⟩)); skip)
          | (go_at_call 31; refine (show Calls Tryd.prog 31 _ _ (fun e w' => e = .returned (.tuple #[])) from HFa.out.elim).mono ?_; rintro e w6 rfl))
        all_goals exact HFa.out.elim
      | ok q =>
        obtain ⟨x, j⟩ := q
        have HE : Aside0 (escR s i = .ok (enc x, j)) := ⟨by rw [HU.out, hu]⟩
        have HC := Aside0.mk (unicode_ok hu w1.drew HLd.out.1 hs (by omega))
        clear hu HU
        go_wp2_with fail
        go_region_with (first
          | (go_at_call 48; refine HC.out.mono ?_; rintro e w3 ⟨rfl, hxx, ⟨c, v, hb3⟩, hK3⟩; have H3 := Aside0.mk (And.intro hb3 (And.intro (HLd.out.2.trans hK3) hxx)); clear hb3 hK3 hxx)
          | (go_at_call 31; refine (wrune_calls x w3 H3.out.1 (by omega) H3.out.2.2.1 (by have := H3.out.2.2.2.1; omega)).mono ?_; rintro e w4 ⟨⟨n, rfl⟩, v', hb4, hK4⟩; have H4 : Aside0 (Lit w4 B g s j (out ++ enc x) ∧ Kp B g w w4) := ⟨⟨_, _, hb4⟩, H3.out.2.1.trans hK4⟩; clear hb4 hK4))
        all_goals go_wp2_with fail
        all_goals (refine bodyPost_ret (results_none rfl _ _ _) rfl ?_; exact .inl ⟨_, j, HE.out, rfl, by have := H3.out.2.2.2.2.1; omega, H3.out.2.2.2.2.2, H4.out.1, H4.out.2⟩)
    · have f1 : (byteI s i hlt == 117) = false := beq_eq_false_iff_ne.2 e0
      have HI : Aside0 (∀ w, Calls Tryd.prog 42 #[.string ⟨#[34, 92, 47, 98, 102, 110, 114, 116]⟩, .int .u8 (byteI s i hlt)] w fun e w' => e = .returned (.int .i64 (shI (byteI s i hlt))) ∧ w' = w) := ⟨fun w => Tryd.strings_IndexByte _ _ w⟩
      obtain ⟨r0, r1⟩ := shI_range (byteI s i hlt)
      have HU : Aside0 (escR s i = if shI (byteI s i hlt) < 0 then .error 2 else .ok ([sgL.getD (shI (byteI s i hlt)).toNat 0], i + 1)) := ⟨by rw [escR, dif_pos hlt, if_neg e0]⟩
      clear e0
      generalize shI (byteI s i hlt) = ix at *
      generalize byteI s i hlt = b0 at *
      by_cases hneg : ix < 0
      · have f2 : decide ((0 : Int) ≤ ix) = false := decide_eq_false (by omega)
        have HE : Aside0 (escR s i = .error 2) := ⟨by rw [HU.out, if_pos hneg]⟩
        clear HU
        go_wp2_with (first
          | (go_at_call 42; (with_reducible refine (HI.out _).mono ?_); rintro e w' ⟨rfl, rfl⟩)
          | (go_at_call 35; refine (must_no _ _ _).mono ?_; rintro e w' ⟨rfl, rfl⟩))
        exact post_panic rfl (.inr ⟨2, HE.out, Thr.after H1.out.2 (thr_new 2 _)⟩)
      · have f2 : decide ((0 : Int) ≤ ix) = true := decide_eq_true (by omega)
        have HE : Aside0 (escR s i = .ok ([sgL.getD ix.toNat 0], i + 1)) := ⟨by rw [HU.out, if_neg hneg]⟩
        have HSG := Aside0.mk (signs_sg ix (by omega) r1)
        have r2 : (0 : Int) ≤ ix := by omega
        clear HU hneg
        go_wp2_with (first
          | (go_at_call 42; (with_reducible refine (HI.out _).mono ?_); rintro e w' ⟨rfl, rfl⟩)
          | (go_at_call 35; refine (must_yes _ _ _).mono ?_; rintro e w' ⟨rfl, rfl⟩))
        go_still_tail 5, (by kernel_rfl)
        change wpList _ _ _ _ _ w'.drew
        have H2 : Aside0 (Lit w'.drew B g s (i + 1) out ∧ Kp B g w w'.drew) := ⟨H1.out.1.below ⟨rfl, rfl, rfl, Nat.le_refl _, fun _ _ => rfl⟩, H1.out.2.trans (kp_drew w')⟩
        generalize w'.drew = w2 at *
        go_wp2_with fail
        obtain ⟨c, v, hb3⟩ := H2.out.1
        refine (wbyte_calls _ w2 hb3 (by omega)).mono ?_
        rintro e w4 ⟨rfl, v', hb4, hK4⟩
        rw [HSG.out] at hb4
        have H4 : Aside0 (Lit w4 B g s (i + 1) (out ++ [sgL.getD ix.toNat 0]) ∧ Kp B g w w4) := ⟨⟨_, _, hb4⟩, H2.out.2.trans hK4⟩
        clear hb3 hb4 hK4
        go_wp2_with fail
        go_end0
        exact .inl ⟨_, i + 1, HE.out, rfl, by omega, by omega, H4.out.1, H4.out.2⟩
  · have HT := Aside0.mk hT
    obtain ⟨j, rfl, hT2⟩ := hT
    clear hT2
    go_wp2_with fail
    exact post_panic rfl (.inr ⟨10, by rw [escR, dif_neg (by omega)], HT.out⟩)
end
end Go.Proofs.YtojhbioljpamhaaDoor.My
