/- The print's Quote of the document, as the walk tells it. -/
import Derived.Test.YtojhbioljpamhaaDoorMyQuote
import Derived.Test.YtojhbioljpamhaaDoorMySign
import Derived.Test.YtojhbioljpamhaaDoorMyDocQuote
import Derived.Lib.MapLaws
namespace Go.Proofs.YtojhbioljpamhaaDoor.My
open Go.RowKit Go.Lib Go.Proofs.YtojhbioljpamhaaDoorW.PrintWords Go.Proofs.YtojhbioljpamhaaDoor.MyDocSign Go.Proofs.YtojhbioljpamhaaDoor.MyDocClean Go.Proofs.YtojhbioljpamhaaDoor.MyDocQuote
set_option linter.unusedVariables false
set_option linter.unusedSimpArgs false

theorem figure_f (n : Int) (h0 : 0 ≤ n) (h1 : n < 16) : crossdockref11_figure.f n = some (fig n) := by
  unfold crossdockref11_figure.f fig
  by_cases h : n < 10
  · rw [if_pos h, if_pos h, w64 (48 + n) (by omega) (by omega)]
    congr 1; omega
  · rw [if_neg h, if_neg h, w64 (97 + n) (by omega) (by omega), w64 _ (by omega) (by omega)]
    congr 1; omega
theorem tdiv_nn (a b : Int) (h : 0 ≤ a) : Int.tdiv a b = a / b := Int.tdiv_eq_ediv_of_nonneg h
theorem tmod_nn (a b : Int) (h : 0 ≤ a) : Int.tmod a b = a % b := Int.tmod_eq_emod_of_nonneg h
theorem four_f (x : Int) (h0 : 0 ≤ x) (h1 : x < 65536) : crossdockref11_four.f x = some (fourB x) := by
  unfold crossdockref11_four.f
  rw [tdiv_nn x 4096 h0, tdiv_nn x 256 h0, tdiv_nn x 16 h0, w64 (x / 4096) (by omega) (by omega), w64 (x / 256) (by omega) (by omega), w64 (x / 16) (by omega) (by omega),
    tmod_nn (x / 256) 16 (by omega), tmod_nn (x / 16) 16 (by omega), tmod_nn x 16 h0, figure_f _ (by omega) (by omega), figure_f (x / 256 % 16) (by omega) (by omega), figure_f (x / 16 % 16) (by omega) (by omega), figure_f (x % 16) (by omega) (by omega)]
  simp only [Option.bind_some, fourB]
  rw [show x / 4096 % 16 = x / 4096 by omega]
theorem idxS_other (r : Int) (h : r ≠ 34 ∧ r ≠ 92 ∧ r ≠ 47 ∧ r ≠ 8 ∧ r ≠ 12 ∧ r ≠ 10 ∧ r ≠ 13 ∧ r ≠ 9) : idxS r = -1 := by
  obtain ⟨a, b, c, d, e, f, g, i⟩ := h
  unfold idxS
  repeat' split
  all_goals omega
def endOf (nr : Bool) : Int := if nr then 127 else 1114112
/-- A right sign's bytes. -/
theorem enc_at (s : ByteArray) (i : Nat) (h : i < s.size) (hg : ¬ ((Utf8.decode s i).1 = 65533 ∧ (Utf8.decode s i).2 = 1)) :
    enc ((Utf8.decode s i).1 : Int) = bytesOf (s.extract i (i + (Utf8.decode s i).2)) := by
  have hl : s.data.toList.length = s.size := by rw [Array.length_toList]; rfl
  have hne : s.data.toList.drop i ≠ [] := by intro e; have := congrArg List.length e; rw [List.length_drop, hl] at this; simp at this; omega
  have hd : Utf8.decode s i = decodeL (s.data.toList.drop i) := by rw [sgn_at, decodeL_N]; rfl
  rw [hd] at hg ⊢
  have h1 := encode_decode _ hne hg
  have h2 : (encodeRune ((decodeL (s.data.toList.drop i)).1 : Int)).map (fun b => (b.toNat : Int)) = enc ((decodeL (s.data.toList.drop i)).1 : Int) := by
    unfold encodeRune enc
    rw [List.map_map]
    refine (List.map_congr_left (g := id) ?_).trans (List.map_id _)
    intro x hx
    have hb := encodeRuneZ_byte _ x hx
    simp only [Function.comp, id]
    have : x.toNat.toUInt8.toNat = x.toNat := by
      rw [Nat.toUInt8, UInt8.toNat_ofNat']
      exact Nat.mod_eq_of_lt (by omega)
    rw [this]; omega
  rw [← h2, h1, bytesOf]
  congr 1
  rw [ByteArray.data_extract, Array.toList_extract, List.extract_eq_take_drop]
  congr 1
  omega
theorem width_in (s : ByteArray) (i : Nat) (h : i < s.size) (hg : ¬ ((Utf8.decode s i).1 = 65533 ∧ (Utf8.decode s i).2 = 1)) : 1 ≤ (Utf8.decode s i).2 ∧ i + (Utf8.decode s i).2 ≤ s.size := by
  have hl : s.data.toList.length = s.size := by rw [Array.length_toList]; rfl
  have hne : s.data.toList.drop i ≠ [] := by intro e; have := congrArg List.length e; rw [List.length_drop, hl] at this; simp at this; omega
  rw [sgn_at] at hg ⊢
  have := sgn_good hne hg
  rw [List.length_drop, hl] at this
  omega
/-- One sign of the document's Quote. -/
theorem quote_step (s : ByteArray) (nr : Bool) (hs : s.size ≤ 1000000) (k pos : Nat) (out : List Int) (hp : pos < s.size) (ho : out.length ≤ 1000000000)
    (hg : ¬ ((Utf8.decode s pos).1 = 65533 ∧ (Utf8.decode s pos).2 = 1)) (R : Option (ByteArray × Bool))
    (hR : ∀ k', k + 20 ≤ k' → crossdockref11_Quote.l0 k' s nr (out ++ piece (endOf nr) ((Utf8.decode s pos).1 : Int)) ((pos + (Utf8.decode s pos).2 : Nat) : Int) = R) :
    crossdockref11_Quote.l0 (k + 25) s nr out (pos : Int) = R := by
  have hw := width_in s pos hp hg
  have henc := enc_at s pos hp hg
  have hrune := decode_rune s pos hp hg
  have ha := (agree_at s pos hp).2 hg
  rw [show k + 25 = (k + 24) + 1 from rfl, crossdockref11_Quote.l0, if_pos (by omega), if_pos (by omega), if_pos (by omega), show k + 24 = (k + 4) + 20 from rfl, sign_f, Int.toNat_natCast, signP_extract, ha, Option.bind_some]
  generalize (Utf8.decode s pos).2 = wd at *
  generalize (Utf8.decode s pos).1 = r at *
  clear ha hg
  have hwr : wrap64 ((pos : Int) + (wd : Int)) = ((pos + wd : Nat) : Int) := by rw [w64 _ (by omega) (by omega)]; omega
  have e1 : (if (r : Int) = 34 then crossdockref11_Quote.j1 (k + 4 + 20) s nr out (pos : Int) (r : Int) (wd : Int) 0 (r : Int) ((r : Int) == 34) else crossdockref11_Quote.j1 (k + 4 + 20) s nr out (pos : Int) (r : Int) (wd : Int) 0 (r : Int) ((r : Int) == 92))
      = crossdockref11_Quote.j1 (k + 4 + 20) s nr out (pos : Int) (r : Int) (wd : Int) 0 (r : Int) (decide ((r : Int) = 34 ∨ (r : Int) = 92)) := by
    by_cases h : (r : Int) = 34
    · rw [if_pos h, decide_eq_true (.inl h), h]; rfl
    · rw [if_neg h]
      congr 1
      by_cases h2 : (r : Int) = 92
      · rw [decide_eq_true (.inr h2), h2]; rfl
      · rw [decide_eq_false (by omega)]; exact beq_eq_false_iff_ne.2 h2
  show (if (r : Int) = 34 then crossdockref11_Quote.j1 (k + 4 + 20) s nr out (pos : Int) (r : Int) (wd : Int) 0 (r : Int) ((r : Int) == 34) else crossdockref11_Quote.j1 (k + 4 + 20) s nr out (pos : Int) (r : Int) (wd : Int) 0 (r : Int) ((r : Int) == 92)) = R
  rw [e1, show k + 4 + 20 = (k + 23) + 1 from rfl, crossdockref11_Quote.j1]
  have hj2 : ∀ c : Int, c ≠ 0 → [92, c] = piece (endOf nr) (r : Int) → crossdockref11_Quote.j2 (k + 23) s nr out (pos : Int) (r : Int) (wd : Int) c = R := by
    intro c hc hp
    rw [show k + 23 = (k + 22) + 1 from rfl, crossdockref11_Quote.j2, if_neg hc, Option.bind_some, if_pos (by simp; omega), hwr, hp]
    exact hR _ (by omega)
  have hsp : ∀ i : Nat, idxS (r : Int) = (i : Int) → (r : Int) ≠ 47 → [92, plainL.getD i 0] = piece (endOf nr) (r : Int) := by
    intro i hi h47
    rw [piece, if_neg (by omega), if_pos (by omega), hi, Int.toNat_natCast]
  by_cases hA : (r : Int) = 34 ∨ (r : Int) = 92
  · rw [if_pos (decide_eq_true hA)]
    refine hj2 _ (by omega) ?_
    rcases hA with h | h
    · have := hsp 0 (by rw [h]; rfl) (by omega)
      rw [h] at this ⊢
      exact this
    · have := hsp 1 (by rw [h]; rfl) (by omega)
      rw [h] at this ⊢
      exact this
  rw [if_neg (by simpa using hA)]
  by_cases h8 : (r : Int) = 8
  · rw [if_pos h8]; exact hj2 _ (by decide) (hsp 3 (by rw [h8]; rfl) (by omega))
  rw [if_neg h8]
  by_cases h9 : (r : Int) = 9
  · rw [if_pos h9]; exact hj2 _ (by decide) (hsp 7 (by rw [h9]; rfl) (by omega))
  rw [if_neg h9]
  by_cases h10 : (r : Int) = 10
  · rw [if_pos h10]; exact hj2 _ (by decide) (hsp 5 (by rw [h10]; rfl) (by omega))
  rw [if_neg h10]
  by_cases h12 : (r : Int) = 12
  · rw [if_pos h12]; exact hj2 _ (by decide) (hsp 4 (by rw [h12]; rfl) (by omega))
  rw [if_neg h12]
  by_cases h13 : (r : Int) = 13
  · rw [if_pos h13]; exact hj2 _ (by decide) (hsp 6 (by rw [h13]; rfl) (by omega))
  rw [if_neg h13, show k + 23 = (k + 22) + 1 from rfl, crossdockref11_Quote.j2, if_pos rfl]
  have hidx : (r : Int) = 47 ∨ idxS (r : Int) = -1 := by
    by_cases h : (r : Int) = 47
    · exact .inl h
    · exact .inr (idxS_other _ (by omega))
  have h4 : ∀ x : Int, (fourB x).length = 6 := fun _ => rfl
  have hraw : (r : Int) = 47 ∨ (32 ≤ (r : Int) ∧ (r : Int) < endOf nr) → crossdockref11_Quote.j4 (k + 21) s nr out (pos : Int) (r : Int) (wd : Int) false = R := by
    intro h
    have hpc : enc (r : Int) = piece (endOf nr) (r : Int) := by rw [piece, if_pos (by omega)]
    have hsz : (s.extract pos (pos + wd)).size ≤ 4 := by rw [ByteArray.size_extract]; have := enc_le (r : Int); rw [henc, bytesOf_length, ByteArray.size_extract] at this; omega
    rw [show k + 21 = (k + 20) + 1 from rfl, crossdockref11_Quote.j4, if_neg (by decide), hwr, if_pos (by omega), if_pos (by omega), if_pos (by omega), Int.toNat_natCast, Int.toNat_natCast, if_pos (by omega), ← henc, hpc]
    exact hR _ (by omega)
  have hfour : ¬ ((r : Int) = 47 ∨ (32 ≤ (r : Int) ∧ (r : Int) < endOf nr)) → (r : Int) < 65536 → crossdockref11_Quote.j3 (k + 22) s nr out (pos : Int) (r : Int) (wd : Int) true = R := by
    intro h h2
    have hpc : fourB (r : Int) = piece (endOf nr) (r : Int) := by rw [piece, if_neg (by omega), if_neg (by omega), if_neg (by omega)]
    rw [show k + 22 = (k + 21) + 1 from rfl, crossdockref11_Quote.j3, if_pos rfl, four_f _ (by omega) h2, Option.bind_some, if_pos (by rw [h4]; omega), hwr, hpc]
    exact hR _ (by omega)
  by_cases h32 : (r : Int) < 32
  · rw [if_pos h32]
    exact hfour (by omega) (by omega)
  rw [if_neg h32]
  have hj3 : (r : Int) = 47 ∨ (32 ≤ (r : Int) ∧ (r : Int) < endOf nr) → (nr = true → (r : Int) < 127) → crossdockref11_Quote.j3 (k + 22) s nr out (pos : Int) (r : Int) (wd : Int) false = R := by
    intro h hn
    rw [show k + 22 = (k + 21) + 1 from rfl, crossdockref11_Quote.j3, if_neg (by decide)]
    cases nr with
    | true => rw [if_pos rfl, decide_eq_false (by have := hn rfl; omega)]; exact hraw h
    | false => rw [if_neg (by decide)]; exact hraw h
  cases nr with
  | false =>
    rw [if_neg (by decide)]
    exact hj3 (.inr ⟨by omega, by show (r : Int) < 1114112; omega⟩) (fun e => by cases e)
  | true =>
    rw [if_pos rfl]
    by_cases h127 : (r : Int) ≥ 127
    · rw [if_pos h127]
      by_cases h6 : (r : Int) < 65536
      · rw [decide_eq_true h6]
        exact hfour (by rintro (h | ⟨_, h⟩); · omega
                        · have h : (r : Int) < 127 := h; omega) h6
      · rw [decide_eq_false h6, show k + 22 = (k + 21) + 1 from rfl, crossdockref11_Quote.j3, if_neg (by decide), if_pos rfl, decide_eq_true h127, show k + 21 = (k + 20) + 1 from rfl, crossdockref11_Quote.j4, if_pos rfl]
        have hpc : fourB (55296 + ((r : Int) - 65536) / 1024) ++ fourB (56320 + ((r : Int) - 65536) % 1024) = piece (endOf true) (r : Int) := by
          have hend : ¬ (r : Int) < endOf true := by show ¬ (r : Int) < 127; omega
          rw [piece, if_neg (by omega), if_neg (by omega), if_pos (by omega)]
        rw [w64 ((r : Int) - 65536) (by omega) (by omega), tdiv_nn _ _ (by omega), w64 (((r : Int) - 65536) / 1024) (by omega) (by omega), w64 (55296 + ((r : Int) - 65536) / 1024) (by omega) (by omega), four_f _ (by omega) (by omega), Option.bind_some,
          if_pos (by rw [h4]; omega), Option.bind_some, tmod_nn _ _ (by omega), w64 (56320 + ((r : Int) - 65536) % 1024) (by omega) (by omega), four_f _ (by omega) (by omega), Option.bind_some, if_pos (by rw [List.length_append, h4, h4]; omega), hwr, List.append_assoc, hpc]
        exact hR _ (by omega)
    · rw [if_neg h127]
      exact hj3 (.inr ⟨by omega, by show (r : Int) < 127; omega⟩) (fun _ => by omega)
theorem quote_run (s : ByteArray) (nr : Bool) (hs : s.size ≤ 1000000) : ∀ (f pos k : Nat) (out : List Int), s.size ≤ pos + f → pos ≤ s.size → badF s f pos < 0 → 25 * f + 30 ≤ k → out.length + 12 * f ≤ 1000000000 →
    crossdockref11_Quote.l0 k s nr out (pos : Int) = some (strOfNums (out ++ outF s (endOf nr) f pos ++ [34]), true)
  | f, pos, k, out, hf, hp, hb, hk, ho => by
    by_cases h : pos < s.size
    · obtain ⟨f, rfl⟩ : ∃ g, f = g + 1 := ⟨f - 1, by omega⟩
      have hg : ¬ ((Utf8.decode s pos).1 = 65533 ∧ (Utf8.decode s pos).2 = 1) := by
        intro hx
        rw [badF_hit s f pos h hx.1 hx.2] at hb
        omega
      rw [badF_on s f pos h hg] at hb
      have hw := width_in s pos h hg
      obtain ⟨j, rfl⟩ : ∃ j, k = j + 25 := ⟨k - 25, by omega⟩
      refine quote_step s nr hs j pos out h (by omega) hg _ ?_
      intro k' hk'
      have hl := piece_le (endOf nr) ((Utf8.decode s pos).1 : Int)
      rw [quote_run s nr hs f (pos + (Utf8.decode s pos).2) k' _ (by omega) hw.2 hb (by omega) (by rw [List.length_append]; omega), outF, if_pos h]
      simp only [List.append_assoc]
    · obtain ⟨j, rfl⟩ : ∃ j, k = j + 1 := ⟨k - 1, by omega⟩
      rw [crossdockref11_Quote.l0, if_neg (by omega), if_pos (by omega), outF_end _ _ _ _ h, List.append_nil]
/-- The document's Quote. -/
theorem refQuote_f (s : ByteArray) (nr : Bool) (hs : s.size ≤ 1000000) :
    crossdockref11_Quote.f (25 * s.size + 60) s nr = some (if badU s < 0 then strOfNums (quoL s (endOf nr)) else ⟨#[]⟩, decide (badU s < 0)) := by
  have hbad : crossdockref11_Bad.f (25 * s.size + 60) s = some (badU s) := by
    have h := refBad_f s (by omega)
    have mono : ∀ d k, LeO (crossdockref11_Bad.f k s) (crossdockref11_Bad.f (k + d) s) := by
      intro d
      induction d with
      | zero => intro k; exact LeO.refl _
      | succ d ih => intro k r hr; exact crossdockref11_Bad.mono _ _ _ (ih k r hr)
    have := mono (24 * s.size + 38) (s.size + 22) _ h
    rw [show s.size + 22 + (24 * s.size + 38) = 25 * s.size + 60 by omega] at this
    exact this
  unfold crossdockref11_Quote.f
  rw [hbad, Option.bind_some]
  by_cases h : badU s < 0
  · have hrun := quote_run s nr hs s.size 0 (25 * s.size + 60) [34] (by omega) (by omega) h (by omega) (by simp; omega)
    rw [if_neg (by omega), if_pos h, decide_eq_true h]
    exact hrun
  · rw [if_pos (by omega), if_neg h, decide_eq_false h]
end Go.Proofs.YtojhbioljpamhaaDoor.My
