/- path.Split, path.Join, path.Ups; the document's Within and Less; crossdocknum.Texts: what they answer. -/
import Derived.Test.YtiddhdhojhggeaaDoorMyPathD
import Derived.Test.YtiddhdhojhggeaaDoorMyDocUps
import Derived.Test.YtiddhdhojhggeaaDoorMyDocTexts
import Derived.Lib.LastIndexByte
namespace Go.Proofs.YtiddhdhojhggeaaDoor.My
open Go.RowKit Go.Lib Go.Proofs.YtiddhdhojhggeaaDoorW.PrintWords Go.Proofs.YtiddhdhojhggeaaDoor.MyDocUps Go.Proofs.YtiddhdhojhggeaaDoor.MyDocTexts Go.Proofs.YtiddhdhojhggeaaDoor.MyDocLess Go.Proofs.YtiddhdhojhggeaaDoor.MyDocParts
set_option maxRecDepth 100000
set_option linter.unusedVariables false
set_option linter.unusedSimpArgs false

def nameP (l : List UInt8) : List UInt8 := (parts l).getLastD []
def dirP (l : List UInt8) : List UInt8 := glue (parts l).dropLast
theorem split_none {l : List UInt8} (h : 47 ∉ l) : dirP l = [] ∧ nameP l = l := by
  unfold dirP nameP
  rw [parts_plain l h]
  exact ⟨rfl, rfl⟩
theorem split_some (a b : List UInt8) (h : 47 ∉ b) : dirP (a ++ 47 :: b) = a ∧ nameP (a ++ 47 :: b) = b := by
  unfold dirP nameP
  rw [parts_app, parts_plain b h]
  rw [List.dropLast_concat, glue_parts, List.getLastD_concat]
  exact ⟨rfl, rfl⟩
theorem data_bang (s : ByteArray) (j : Nat) (h : j < s.size) : ((s.data[j]!).toNat : Int) = ((s[j]).toNat : Int) := by
  have h' : j < s.data.size := h
  rw [getElem!_pos s.data j h']
  rfl
theorem no_slash (s : ByteArray) (a : Nat) (h : ∀ j, a ≤ j → j < s.size → ((s.data[j]!).toNat : Int) ≠ 47) : 47 ∉ s.data.toList.drop a := by
  intro hm
  obtain ⟨i, hi, he⟩ := List.getElem_of_mem hm
  rw [List.length_drop, data_length] at hi
  rw [List.getElem_drop] at he
  have := h (a + i) (by omega) (by omega)
  rw [data_bang s (a + i) (by omega)] at this
  apply this
  have : s[a + i]'(by omega) = 47 := he
  rw [this]; rfl
theorem psplit_ok (s : ByteArray) (w : World) (hs : s.size ≤ 1000000) :
    Calls Tryd.prog 15 #[.string s] w fun e w' => ∃ d n : ByteArray, e = .returned (.tuple #[.string d, .string n]) ∧ d.data.toList = dirP s.data.toList ∧ n.data.toList = nameP s.data.toList ∧ Drawn0 w w' := by
  have HL : Aside0 (∀ w, Calls Tryd.prog 32 #[.string s, .string ⟨#[47]⟩] w fun e w' => e = .returned (.int .i64 (Lib.lastIndexByte s 47)) ∧ w' = w) := ⟨fun w => Tryd.strings_LastIndex_one s ⟨#[47]⟩ rfl (by omega) w⟩
  rcases lastIndexByte_spec s 47 with ⟨e, hn⟩ | ⟨i, hi, e, h47, hn⟩
  · obtain ⟨p1, p2⟩ := split_none (l := s.data.toList) (by have := no_slash s 0 (fun j _ hj => hn j hj); simpa using this)
    have HP := Aside0.mk (And.intro p1 p2)
    rw [e] at HL
    clear e hn p1 p2
    go_enter Tryd.func15, Tryd.ntmps15
    go_wp2_with (go_at_call 32; refine (HL.out _).mono ?_; rintro e w4 ⟨rfl, rfl⟩)
    go_ret2
    exact ⟨⟨#[]⟩, s, rfl, by rw [HP.out.1], by rw [HP.out.2], Drawn0.refl _⟩
  · have hsp : s.data.toList = s.data.toList.take i ++ 47 :: s.data.toList.drop (i + 1) := by
      have h2 := bt_drop s i hi
      rw [data_bang s i hi] at h47
      have h3 : s[i] = 47 := UInt8.toNat_inj.1 (by simpa using (by omega : (s[i]).toNat = 47))
      rw [h3] at h2
      rw [← h2, List.take_append_drop]
    have hno : 47 ∉ s.data.toList.drop (i + 1) := no_slash s (i + 1) (fun j hj hj2 => hn j (by omega) hj2)
    have p := split_some (s.data.toList.take i) (s.data.toList.drop (i + 1)) hno
    rw [← hsp] at p
    have HP := Aside0.mk p
    rw [e] at HL
    have b1 : (0 : Int) ≤ (i : Int) := by omega
    have b2 : (i : Int) ≤ (s.size : Int) := by omega
    have b3 : (i : Int) + 1 ≤ (s.size : Int) := by omega
    have b4 : (0 : Int) ≤ (i : Int) + 1 := by omega
    have e5 : IntKind.i64.wrap ((i : Int) + 1) = (i : Int) + 1 := IntWalk.i64_in _ (by omega)
    have e6 : ((i : Int) + 1).toNat = i + 1 := by omega
    clear e hn p h47 hsp hno
    go_enter Tryd.func15, Tryd.ntmps15
    go_wp2_with (go_at_call 32; refine (HL.out _).mono ?_; rintro e w4 ⟨rfl, rfl⟩)
    go_quiet (fail)
    go_wp2_with fail
    go_ret2
    exact ⟨s.extract 0 i, s.extract (i + 1) s.size, rfl, by rw [HP.out.1]; simp [List.drop_take], by rw [HP.out.2, extract_to_end], ⟨⟨_, rfl⟩⟩⟩

/-! ### Ups -/
def upsF : List UInt8 → List UInt8 → List (List UInt8)
  | _, [] => []
  | pre, c :: r => if c = 47 then pre :: upsF (pre ++ [c]) r else upsF (pre ++ [c]) r
def upsP (l : List UInt8) : List (List UInt8) := (List.range' 1 ((parts l).length - 1)).map fun i => glue ((parts l).take i)
theorem parts_snoc : ∀ (a : List UInt8) (c : UInt8), c ≠ 47 → (parts (a ++ [c])).length = (parts a).length
  | [], c, h => by rw [List.nil_append, parts_other h (show parts [] = [] :: [] from rfl)]; rfl
  | x :: a, c, h => by
    have ih := parts_snoc a c h
    obtain ⟨p, ps, e⟩ := parts_form a
    obtain ⟨q, qs, e2⟩ := parts_form (a ++ [c])
    rw [e, e2] at ih
    by_cases hx : x = 47
    · subst hx
      rw [List.cons_append, parts_slash, parts_slash, e, e2]
      simp only [List.length_cons] at ih ⊢
      omega
    · rw [List.cons_append, parts_other hx e, parts_other hx e2]
      simpa using ih
theorem upsF_parts : ∀ (rest pre s : List UInt8), s = pre ++ rest → upsF pre rest = (List.range' (parts pre).length ((parts rest).length - 1)).map fun i => glue ((parts s).take i)
  | [], pre, s, _ => by simp [upsF, parts]
  | c :: r, pre, s, hs => by
    unfold upsF
    have hs2 : s = (pre ++ [c]) ++ r := by rw [hs]; simp
    have ih := upsF_parts r (pre ++ [c]) s hs2
    obtain ⟨p, ps, e⟩ := parts_form r
    by_cases h : c = 47
    · subst h
      have h1 : parts s = parts pre ++ parts r := by rw [hs, parts_app]
      have h2 : (parts (pre ++ [47])).length = (parts pre).length + 1 := by
        have := parts_app pre []
        rw [this]; simp [parts]
      rw [if_pos rfl, ih, h2, parts_slash, List.length_cons]
      have h3 : (parts r).length + 1 - 1 = ((parts r).length - 1) + 1 := by rw [e]; simp
      rw [h3, List.range'_succ, List.map_cons, h1]
      congr 1
      rw [List.take_left, glue_parts]
    · rw [if_neg h, ih, parts_snoc pre c h, parts_other h e, e]
      rfl
theorem upsF_ups (l : List UInt8) : upsF [] l = upsP l := by rw [upsF_parts l [] l rfl]; rfl
theorem ups_run (s : ByteArray) (hs : s.size ≤ 1000000) : ∀ (d i k : Nat) (acc : List ByteArray), s.size - i ≤ d → i ≤ s.size → acc.length ≤ i →
    ∃ r, path_Ups.l0 (k + d + 1) s acc (s.size : Int) (i : Int) = some (acc ++ r) ∧ lists r = upsF (s.data.toList.take i) (s.data.toList.drop i)
  | d, i, k, acc, hd, hi, ha => by
    rw [path_Ups.l0]
    by_cases hp : i < s.size
    · obtain ⟨d, rfl⟩ : ∃ e, d = e + 1 := ⟨d - 1, by omega⟩
      have hl : s.data.toList.length = s.size := data_length s
      have htk : s.data.toList.take (i + 1) = s.data.toList.take i ++ [s[i]] := by
        rw [List.take_succ_eq_append_getElem (by omega)]; rfl
      rw [if_pos (by omega), if_pos (by omega), if_pos (by omega), bt_drop s i hp]
      unfold upsF
      by_cases h : s[i] = 47
      · rw [if_pos ((bt_47 s i hp).2 h), if_pos (by omega), if_pos (by omega), wsucc i (by omega), if_pos h, show k + (d + 1) = k + d + 1 by omega]
        obtain ⟨r, h1, h2⟩ := ups_run s hs d (i + 1) k (acc ++ [s.extract 0 i]) (by omega) (by omega) (by simp; omega)
        refine ⟨s.extract 0 i :: r, by rw [Int.toNat_natCast, h1]; simp, ?_⟩
        rw [← htk, ← h2]
        simp
      · rw [if_neg (fun e => h ((bt_47 s i hp).1 e)), wsucc i (by omega), if_neg h, show k + (d + 1) = k + d + 1 by omega]
        obtain ⟨r, h1, h2⟩ := ups_run s hs d (i + 1) k acc (by omega) (by omega) (by omega)
        exact ⟨r, h1, by rw [← htk, ← h2]⟩
    · rw [if_neg (by omega)]
      refine ⟨[], by simp, ?_⟩
      rw [List.drop_eq_nil_of_le (by rw [data_length]; omega)]
      rfl
theorem ups_f (s : ByteArray) (hs : s.size ≤ 1000000) : ∃ r, path_Ups.f (s.size + 1) s = some r ∧ lists r = upsP s.data.toList := by
  obtain ⟨r, h1, h2⟩ := ups_run s hs s.size 0 0 [] (by omega) (by omega) (by simp)
  refine ⟨r, by simpa [path_Ups.f] using h1, ?_⟩
  rw [h2, List.take_zero, List.drop_zero, upsF_ups]

/-! ### Join, Texts, the document's Less -/
def joinP (a b : List UInt8) : List UInt8 := if a = [] then b else a ++ 47 :: b
theorem pjoin_f (a b : ByteArray) (ha : a.size ≤ 1000000) (hb : b.size ≤ 1000000) : ∃ r, path_Join.f a b = some r ∧ r.data.toList = joinP a.data.toList b.data.toList := by
  unfold path_Join.f joinP
  rw [ByteArray.toList_eq]
  by_cases h : a.data.toList = []
  · rw [if_pos h, if_pos h]
    exact ⟨b, rfl, rfl⟩
  · have hsz : (a ++ (⟨#[47]⟩ : ByteArray)).size = a.size + 1 := by rw [ByteArray.size_append]; rfl
    rw [if_neg h, if_neg h, if_pos (by omega), if_pos (by rw [hsz]; omega)]
    exact ⟨_, rfl, by simp⟩
theorem texts_run (x y : List ByteArray) (hxy : x.length = y.length) (hx : x.length < 1000000000) : ∀ (d i k : Nat), x.length - i ≤ d → i ≤ x.length →
    crossdocknum_Texts.l0 (k + d + 1) x y (x.length : Int) (i : Int) = some (decide ((lists x).drop i = (lists y).drop i))
  | d, i, k, hd, hi => by
    rw [crossdocknum_Texts.l0]
    by_cases h : i < x.length
    · obtain ⟨d, rfl⟩ : ∃ e, d = e + 1 := ⟨d - 1, by omega⟩
      rw [if_pos (by omega), if_pos (by omega), if_pos (by omega), if_pos (by omega), rdOf_nat x i h, rdOf_nat y i (by omega), lists_drop x i h, lists_drop y i (by omega), ByteArray.toList_eq, ByteArray.toList_eq]
      by_cases h3 : x[i].data.toList = y[i].data.toList
      · rw [if_pos h3, wsucc i (by omega), show k + (d + 1) = k + d + 1 by omega, texts_run x y hxy hx d (i + 1) k (by omega) (by omega), h3]
        simp
      · rw [if_neg h3]
        simp [h3]
    · rw [if_neg (by omega), lists_end x i (by omega), lists_end y i (by omega)]
      simp
theorem texts_f (x y : List ByteArray) (h : lists x = lists y) (hx : x.length < 1000000000) : crossdocknum_Texts.f (x.length + 1) x y = some true := by
  have hl : x.length = y.length := by have := congrArg List.length h; simpa using this
  have := texts_run x y hl hx x.length 0 0 (by omega) (by omega)
  rw [h] at this
  unfold crossdocknum_Texts.f
  rw [if_pos (by omega)]
  simpa using this
theorem docLess_f (a b : ByteArray) (ha : a.size ≤ 600) (hb : b.size ≤ 600) : ∃ k, crossdockref18_Less.f k a b = some (lessP a.data.toList b.data.toList) := by
  obtain ⟨x, x1, x2⟩ := parts_f a (by omega)
  obtain ⟨y, y1, y2⟩ := parts_f b (by omega)
  have hx : x.length ≤ 601 := by
    have h1 := congrArg List.length x2
    have h2 := parts_len a.data.toList
    rw [data_length] at h2
    simp at h1
    omega
  have hy : y.length ≤ 601 := by
    have h1 := congrArg List.length y2
    have h2 := parts_len b.data.toList
    rw [data_length] at h2
    simp at h1
    omega
  have x3 := at_rounds (g := fun k => crossdockref18_Parts.f k a) (fun k => crossdockref18_Parts.mono a k) (show a.size + 2 ≤ 5000 by omega) x1
  have y3 := at_rounds (g := fun k => crossdockref18_Parts.f k b) (fun k => crossdockref18_Parts.mono b k) (show b.size + 2 ≤ 5000 by omega) y1
  refine ⟨5000, ?_⟩
  unfold crossdockref18_Less.f
  rw [x3, Option.bind_some, y3, Option.bind_some]
  have := less_run x y (by omega) (by omega) x.length 0 (4998 - 2 * x.length) (by omega) (by omega) (by omega)
  rw [show 4998 - 2 * x.length + 2 * x.length + 2 = 5000 by omega] at this
  unfold lessP
  rw [← x2, ← y2]
  simpa using this

/-! ### the document's Within -/
theorem docWithin_calls (s d : ByteArray) (w : World) (hs : s.size ≤ 1000000) (hd : d.size ≤ 1000000) :
    Calls Tryd.prog 21 #[.string s, .string d] w fun e w' => e = .returned (.bool (withinP s.data.toList d.data.toList)) ∧ w = w' := by
  by_cases h : d.data.toList = []
  · have f1 : (d.toList == []) = true := by rw [ByteArray.toList_eq, h]; rfl
    have f2 : d.toList.isEmpty = true := by rw [ByteArray.toList_eq, h]; rfl
    have hv : withinP s.data.toList d.data.toList = (s.toList != []) := by
      unfold withinP
      rw [if_pos h, ByteArray.toList_eq]
      by_cases k : s.data.toList = [] <;> simp [k]
    rw [hv]
    clear h hv
    cases k : s.toList with
    | nil =>
      have g1 : (s.toList == []) = true := by rw [k]; rfl
      have g2 : s.toList.isEmpty = true := by rw [k]; rfl
      have g3 : (s.toList != []) = false := by rw [k]; rfl
      rw [show (([] : List UInt8) != []) = false from rfl]
      clear k
      go_enter Tryd.func21, Tryd.ntmps21
      go_wp2
      go_ret
      exact ⟨rfl, rfl⟩
    | cons c r =>
      have g1 : (s.toList == []) = false := by rw [k]; rfl
      have g2 : s.toList.isEmpty = false := by rw [k]; rfl
      have g3 : (s.toList != []) = true := by rw [k]; rfl
      rw [show (c :: r != []) = true from rfl]
      clear k
      go_enter Tryd.func21, Tryd.ntmps21
      go_wp2
      go_ret
      exact ⟨rfl, rfl⟩
  · have f1 : (d.toList == []) = false := by rw [ByteArray.toList_eq]; exact beq_eq_false_iff_ne.2 h
    have f2 : d.toList.isEmpty = false := by rw [ByteArray.toList_eq]; cases k : d.data.toList with
      | nil => exact absurd k h
      | cons a b => rfl
    have hl : s.data.toList.length = s.size := data_length s
    have hl2 : d.data.toList.length = d.size := data_length d
    have hpre : withinP s.data.toList d.data.toList = true ↔ d.size < s.size ∧ s.data.toList.take d.size = d.data.toList ∧ s.data.toList[d.size]? = some 47 := by
      rw [withinP_iff h]
      constructor
      · rintro ⟨t, e⟩
        have h1 := congrArg List.length e
        simp at h1
        refine ⟨by omega, ?_, ?_⟩
        · rw [e, ← hl2, List.take_left]
        · rw [e, ← hl2, List.getElem?_append_right (Nat.le_refl _)]; simp
      · rintro ⟨h1, h2, h3⟩
        refine ⟨s.data.toList.drop (d.size + 1), ?_⟩
        obtain ⟨h4, h5⟩ := List.getElem?_eq_some_iff.1 h3
        rw [← h2, ← h5, ← List.drop_eq_getElem_cons h4, List.take_append_drop]
    by_cases c1 : d.size < s.size
    · by_cases c2 : s.data.toList.take d.size = d.data.toList
      · have g1 : ((s.extract 0 d.size).toList == d.toList) = true := by
          rw [ByteArray.toList_eq, ByteArray.toList_eq, extract_from_zero, c2]; simp
        have hv : withinP s.data.toList d.data.toList = ((s[d.size]'c1).toNat == 47) := by
          have e : s.data.toList[d.size]? = some (s[d.size]'c1) := data_getElem? s d.size c1
          rw [Bool.eq_iff_iff, hpre, e]
          constructor
          · rintro ⟨_, _, h3⟩
            rw [Option.some.inj h3]; rfl
          · intro h3
            exact ⟨c1, c2, by rw [UInt8.toNat_inj.1 (show (s[d.size]'c1).toNat = (47 : UInt8).toNat from beq_iff_eq.1 h3)]⟩
        rw [hv]
        clear h hl hl2 hpre hv c2
        have q1 : (0 : Int) ≤ (d.size : Int) := by omega
        have q2 : (d.size : Int) < (s.size : Int) := by omega
        have q3 : (d.size : Int) ≤ (s.size : Int) := by omega
        generalize hx : s[d.size]'c1 = x
        rw [show (x.toNat == 47) = ((x.toNat : Int) == 47) from by rw [Bool.eq_iff_iff, beq_iff_eq, beq_iff_eq]; omega]
        go_enter Tryd.func21, Tryd.ntmps21
        go_wp2
        go_ret
        exact ⟨rfl, rfl⟩
      · have g1 : ((s.extract 0 d.size).toList == d.toList) = false := by
          rw [ByteArray.toList_eq, ByteArray.toList_eq, extract_from_zero]; exact beq_eq_false_iff_ne.2 c2
        have hv : withinP s.data.toList d.data.toList = false := by
          cases k : withinP s.data.toList d.data.toList with
          | false => rfl
          | true => exact absurd (hpre.1 k).2.1 c2
        rw [hv]
        clear h hl hl2 hpre hv c2
        have q1 : (0 : Int) ≤ (d.size : Int) := by omega
        have q3 : (d.size : Int) ≤ (s.size : Int) := by omega
        go_enter Tryd.func21, Tryd.ntmps21
        go_wp2
        go_ret
        exact ⟨rfl, rfl⟩
    · have hv : withinP s.data.toList d.data.toList = false := by
        cases k : withinP s.data.toList d.data.toList with
        | false => rfl
        | true => exact absurd (hpre.1 k).1 c1
      rw [hv]
      clear h hl hl2 hpre hv
      go_enter Tryd.func21, Tryd.ntmps21
      go_wp2
      go_ret
      exact ⟨rfl, rfl⟩
end Go.Proofs.YtiddhdhojhggeaaDoor.My
