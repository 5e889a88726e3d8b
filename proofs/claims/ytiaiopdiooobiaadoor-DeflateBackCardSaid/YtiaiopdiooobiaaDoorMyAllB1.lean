/- MyBase, MyDocu, MyUntW, MyHuffP, MyTakeHP, MyBytes, MyCod, MyCount, MyNumber, MySortP, MySort, MyCloneI, MyCodeAt, MyBitsP, MyGrow, MyConcat, MyRepeat, MyFixed, MyInfP, MyTokP, MyRevP, MyPackP, MyFixD, MyBackP, MyInflB, MyUntP, MyNew, MyOf, MyWriter, MyPut, MyWput, MyClone, MyWtext, MyRev, MyCode, MyPutW: laid into one text by merge.py. -/
import Derived.Test.YtiaiopdiooobiaaDoorProg
import Derived.Test.YtiaiopdiooobiaaDoorWWords
import Derived.Test.YtiaiopdiooobiaaDoorWMore
import Derived.Laws.Rows
import Derived.Lib.SlBytesConst
import Derived.WalkKit
import Derived.KernelRfl
import Derived.Deep.LoopGhost
import Derived.Deep.QuietTactic
import Derived.BigQuiet
import Derived.Deep.DeepCutAuto
import Derived.Deep.CutBlock
import Derived.WalkSpells
import Derived.WalkLawsBesides
import Derived.Outline
import Derived.Test.YtiaiopdiooobiaaDoorWEqStruct
import Derived.Test.YtiaiopdiooobiaaDoorMyDocs
import Derived.RegionTactic
import Derived.Deep.RegionLaw
import Derived.BigRegion
import Derived.Laws.Bits64
import Derived.Lib.AppendZerosOnto
import Derived.Lib.SliceRun
import Derived.Lib.Walk
import Derived.Laws.CopyOwn
import Derived.Lib.BitFns
import Derived.Test.YtiaiopdiooobiaaDoorMyLen32

/- Small words for walks: blocks of bytes known whole, slices of the call's own. No program in sight but for its byte type's row. -/
namespace Go.Proofs.YtiaiopdiooobiaaDoor.My
open Go.RowKit Go.Proofs.YtiaiopdiooobiaaDoorW.PrintWords Go.Proofs.YtiaiopdiooobiaaDoorW.PrintLast Go.Proofs.YtiaiopdiooobiaaDoorW.PrintMore
set_option maxRecDepth 100000

theorem alloc_self (w : World) (o : Obj) : (w.alloc o).heap[w.heap.size]? = some o := by
  show (w.heap.push o)[w.heap.size]? = _
  simp
theorem C_block (w : World) (g : Nat) (k : IntKind) (xs : List Int) (e : TypeId) (fr : Nat × Nat) (h : w.heap[g]? = some (.cells (nums k xs).toArray e fr)) (hm : xs.length ≤ 9223372036854775807) :
    Kd.C (Kd.int k) w (some ⟨g, 0, none⟩) xs.length xs := by
  refine Kd.C_of_reads (d := 0) ⟨rfl, hm, fun _ => ⟨_, rfl, fun j hj => ?_⟩⟩
  rw [add_plain, World.cell?]
  simp [h, nums, hj]
theorem reads_of_C {k : IntKind} {w : World} {A : Option Addr} {n : Nat} {xs : List Int} (h : (Kd.int k).C w A n xs) : ReadsInt w k A n xs := by
  refine ⟨h.1, h.2.1, fun hn => ?_⟩
  obtain ⟨ad, rfl, hc⟩ := Kd.at_int h 0 (by omega) (by omega)
  refine ⟨ad, rfl, fun j hj => ?_⟩
  obtain ⟨ad', e, hc'⟩ := Kd.at_int h j (by omega) (by omega)
  cases e
  simpa [rd] using hc'
theorem C_of_readsInt {k : IntKind} {w : World} {A : Option Addr} {n : Nat} {xs : List Int} (h : ReadsInt w k A n xs) : (Kd.int k).C w A n xs := Kd.C_of_reads (d := 0) h
theorem own_slice' {w : World} {base n : Nat} {e : TypeId} {k : IntKind} {v : Value} {xs : List Int} (h : w.ownsRow base e 1 v n (nums k xs)) : ∃ A c, v = .slice A n c ∧ n ≤ c ∧ (Kd.int k).C w A n xs := by
  obtain ⟨A, c, rfl, hr⟩ := own_reads h
  refine ⟨A, c, rfl, ?_, C_of_readsInt hr⟩
  rcases h.2 with ⟨h1, h2⟩ | ⟨g, cap, cur, h1, _, _, h3, _⟩
  · omega
  · cases h1; exact h3

theorem grown_set (w : World) (g i : Nat) (v : Value) : w.grownBy (w.setCell ⟨g, i, none⟩ v) (some g) :=
  ⟨rfl, rfl, rfl, by simp [World.setCell], fun k _ hk => Below.heap_setCell _ _ _ _ (fun e => hk (by rw [e]))⟩
theorem grown_trans {w w1 w2 : World} {row : Option Nat} (h : w.grownBy w1 row) (k : w1.grownBy w2 row) : w.grownBy w2 row :=
  ⟨k.os.trans h.os, k.tape.trans h.tape, k.output.trans h.output, Nat.le_trans h.size k.size, fun i hi hr => (k.block i (Nat.lt_of_lt_of_le hi h.size) hr).trans (h.block i hi hr)⟩
theorem grown_refl (w : World) (row : Option Nat) : w.grownBy w row := World.grownBy.refl w row
theorem grown_drewN {w w1 : World} {row : Option Nat} (h : w.grownBy w1 row) (n : Nat) : w.grownBy (w1.drewN n) row := ⟨h.os, h.tape, h.output, h.size, h.block⟩
theorem grown_drew {w w1 : World} {row : Option Nat} (h : w.grownBy w1 row) : w.grownBy w1.drew row := ⟨h.os, h.tape, h.output, h.size, h.block⟩
theorem grown_below {w w1 : World} (h : Below w.heap.size w w1) (row : Option Nat) : w.grownBy w1 row := ⟨h.os, h.tape, h.output, h.size, fun k hk _ => h.block k hk⟩
theorem below_grown {B : Nat} {w w1 w2 : World} {g : Nat} (h : Below B w w1) (k : w1.grownBy w2 (some g)) (hB : B ≤ w1.heap.size) (hg : B ≤ g) : Below B w w2 :=
  h.grown k hB (fun i hi => by cases hi; exact hg)
/-- An error of the program's own numbers, or none. -/
def errV : Option Int → Value
  | none => .nilIface
  | some c => .iface 42 (.int .i64 c)
theorem wf_u8 {n : Int} (h : (Lit.int .u8 n).wf = true) : 0 ≤ n ∧ n < 256 := by
  simp [Lit.wf, IntKind.min, IntKind.max, IntKind.bits, IntKind.signed] at h
  omega
theorem wf_u32 {n : Int} (h : (Lit.int .u32 n).wf = true) : 0 ≤ n ∧ n < 4294967296 := by
  simp [Lit.wf, IntKind.min, IntKind.max, IntKind.bits, IntKind.signed] at h
  omega
theorem wf_i64 {n : Int} (h : (Lit.int .i64 n).wf = true) : -9223372036854775808 ≤ n ∧ n ≤ 9223372036854775807 := by
  simp [Lit.wf, IntKind.min, IntKind.max, IntKind.bits, IntKind.signed] at h
  omega
end Go.Proofs.YtiaiopdiooobiaaDoor.My

/- Tokens that are read; the law's own conversion. -/
namespace Go.Proofs.YtiaiopdiooobiaaDoor.My
open Go.RowKit Go.Proofs.YtiaiopdiooobiaaDoorW.PrintWords Go.Proofs.YtiaiopdiooobiaaDoorW.PrintLast Go.Proofs.YtiaiopdiooobiaaDoorW.PrintMore
set_option maxRecDepth 100000
set_option linter.unusedVariables false
set_option linter.unusedSimpArgs false

/-- A token as its cells hold it. -/
structure Ti where
  b : Int
  l : Int
  d : Int
def Ti.cells (k : Ti) : List Value := [.int .u8 k.b, .int .i64 k.l, .int .i64 k.d]
def tiCells (l : List Ti) : List Value := l.flatMap Ti.cells
theorem tiCells_append (l m : List Ti) : tiCells (l ++ m) = tiCells l ++ tiCells m := by simp [tiCells]
/-- A row of tokens that is read. -/
def TkR (w : World) (A : Option Addr) (l : List Ti) : Prop := ∀ i k, l[i]? = some k → ∃ ad, A = some ad ∧ w.cell? (ad.add (i * 3)) = some (.int .u8 k.b) ∧ w.cell? ⟨(ad.add (i * 3)).block, (ad.add (i * 3)).off + 1, none⟩ = some (.int .i64 k.l) ∧ w.cell? ⟨(ad.add (i * 3)).block, (ad.add (i * 3)).off + 2, none⟩ = some (.int .i64 k.d)
theorem TkR.below {w w1 : World} {A : Option Addr} {l : List Ti} (h : TkR w A l) (hb : Below w.heap.size w w1) : TkR w1 A l := by
  intro i k hk
  obtain ⟨ad, e, h0, h1, h2⟩ := h i k hk
  exact ⟨ad, e, pw_cell_below hb h0, pw_cell_below hb h1, pw_cell_below hb h2⟩
theorem tiCells_get : ∀ (K : List Ti) (j : Nat) (a : Ti) (t : Nat), K[j]? = some a → t < 3 → (tiCells K)[j * 3 + t]? = a.cells[t]?
  | [], j, a, t, h, _ => by simp at h
  | b :: K, 0, a, t, h, ht => by
    simp at h; subst h
    simp only [tiCells, List.flatMap_cons]
    rw [Nat.zero_mul, Nat.zero_add, List.getElem?_append_left (by simpa [Ti.cells] using ht)]
  | b :: K, j + 1, a, t, h, ht => by
    have := tiCells_get K j a t (by simpa using h) ht
    simp only [tiCells, List.flatMap_cons] at *
    rw [List.getElem?_append_right (by simp [Ti.cells]; omega)]
    rw [← this]
    congr 1
    simp [Ti.cells]; omega
theorem tk_of_own {w : World} {B n c : Nat} {e : TypeId} {A : Option Addr} {l : List Ti} (h : w.ownsRow B e 3 (.slice A n c) l.length (tiCells l)) : TkR w A l := by
  intro i k hk
  have hi : i < l.length := (List.getElem?_eq_some_iff.1 hk).1
  rcases h.2 with ⟨_, h0⟩ | ⟨g, cap, cur, hv, _, hh, hl, _, hsz, hcur⟩
  · omega
  · cases hv
    have hlen : ∀ K : List Ti, (tiCells K).length = K.length * 3 := by
      intro K
      induction K with
      | nil => rfl
      | cons a t ih => simp only [tiCells, List.flatMap_cons, List.length_append] at *; rw [ih]; simp [Ti.cells]; omega
    have key : ∀ t, t < 3 → w.cell? ⟨g, i * 3 + t, none⟩ = k.cells[t]? := by
      intro t ht
      rw [cell_of_row w g _ cur e (0, 0) hh, ← tiCells_get l i k t hk ht, ← hcur, List.getElem?_take_of_lt (by omega)]
      simp
    have ea : (⟨g, 0, none⟩ : Addr).add (i * 3) = ⟨g, i * 3, none⟩ := by rw [add_plain]
    refine ⟨⟨g, 0, none⟩, rfl, ?_, ?_, ?_⟩
    · rw [ea]; simpa [Ti.cells] using key 0 (by omega)
    · rw [ea]; simpa [Ti.cells] using key 1 (by omega)
    · rw [ea]; simpa [Ti.cells] using key 2 (by omega)
end Go.Proofs.YtiaiopdiooobiaaDoor.My

/- Untokens, the program's and the document's, as one plain function. -/
namespace Go.Proofs.YtiaiopdiooobiaaDoor.My
open Go.RowKit Go.Proofs.YtiaiopdiooobiaaDoorW.PrintWords Go.Proofs.YtiaiopdiooobiaaDoorW.PrintLast Go.Proofs.YtiaiopdiooobiaaDoorW.PrintMore Go.Proofs.YtiaiopdiooobiaaDoor.PDeflateBack
set_option maxRecDepth 100000
set_option linter.unusedVariables false
set_option linter.unusedSimpArgs false

/-- Bytes that are put out again. -/
def cpy (d : Nat) : Nat → List Int → List Int
  | 0, out => out
  | l + 1, out => cpy d l (out ++ [out.getD (out.length - d) 0])
/-- A token that may not be. -/
def badT (k : Ti) : Prop := k.l < 0 ∨ k.l = 1 ∨ k.l = 2 ∨ 258 < k.l ∨ (k.l = 0 ∧ k.d ≠ 0) ∨ (k.l ≠ 0 ∧ k.d = 0) ∨ (0 < k.l ∧ k.b ≠ 0)
instance (k : Ti) : Decidable (badT k) := by unfold badT; infer_instance
def unt : List Ti → List Int → List Int × Int
  | [], out => (out, 0)
  | k :: ks, out =>
    if badT k then ([], 2)
    else if k.l = 0 then (if (out.length : Int) ≥ 1048576 then ([], 3) else unt ks (out ++ [k.b]))
    else if k.d < 1 ∨ 32768 < k.d ∨ (out.length : Int) < k.d then ([], 1)
    else if 1048576 < (out.length : Int) + k.l then ([], 3)
    else unt ks (cpy k.d.toNat k.l.toNat out)
theorem cpy_len (d : Nat) : ∀ l out, (cpy d l out).length = out.length + l
  | 0, out => rfl
  | l + 1, out => by rw [cpy, cpy_len d l]; simp; omega
theorem unt_bad : ∀ ks out, (unt ks out).2 = 0 ∨ ((unt ks out).1 = [] ∧ 0 < (unt ks out).2)
  | [], out => .inl rfl
  | k :: ks, out => by
    unfold unt
    split
    · exact .inr ⟨rfl, by simp⟩
    · split
      · split
        · exact .inr ⟨rfl, by simp⟩
        · exact unt_bad ks _
      · split
        · exact .inr ⟨rfl, by simp⟩
        · split
          · exact .inr ⟨rfl, by simp⟩
          · exact unt_bad ks _
def optE (c : Int) : Option Int := if c = 0 then none else some c
def ti45 (x : S41) : Ti := ⟨x.f0, x.f1, x.f2⟩
theorem rd45 (xs : List S41) (i : Nat) (x : S41) (h : xs[i]? = some x) : rd_T41 xs (i : Int) = x := by simp [rd_T41, List.getD_eq_getElem?_getD, h]
theorem rdn (t : List Int) (i : Nat) : rd t (i : Int) = t.getD i 0 := by unfold rd; rw [Int.toNat_natCast]

theorem wsub (a d : Nat) (D : Int) (hD : D = (d : Int)) (h : d ≤ a) (ha : a ≤ 1000000000) : wrap64 ((a : Int) - D) = ((a - d : Nat) : Int) := by subst hD; unfold wrap64; omega
theorem wsucc (j : Nat) (h : j ≤ 1000000000) : wrap64 ((j : Int) + 1) = ((j + 1 : Nat) : Int) := by unfold wrap64; omega
theorem wadd (a : Nat) (l : Int) (h : 0 ≤ l) (hl : l ≤ 258) (ha : a ≤ 1000000000) : wrap64 ((a : Int) + mx l 1) = (a : Int) + mx l 1 := by unfold mx wrap64; omega
theorem pcopy (xs : List S41) (n i : Nat) (b L D : Int) (d : Nat) (hD : D = (d : Int)) (hd : 1 ≤ d) (r : List Int × Option Int) (l : Nat) (hL : L = (l : Int)) (hl : l ≤ 258) : ∀ m j out, m = l - j → j ≤ l → d ≤ out.length → out.length + m ≤ 2000000 →
    (∃ K, deflate_Untokens.l0 K (cpy d m out) xs n (wrap64 ((i : Int) + 1)) = some r) → ∃ K, deflate_Untokens.l1 K out xs n i L (j : Nat) b L D = some r
  | 0, j, out, hm, hj, _, _, ⟨K, hK⟩ => by
    refine ⟨K + 1, ?_⟩
    rw [deflate_Untokens.l1, if_neg (by omega)]
    exact hK
  | m + 1, j, out, hm, hj, hdo, ho, hK => by
    have c1 : (j : Int) < L := by omega
    have c2 : (0 : Int) ≤ ((out.length - d : Nat) : Int) := by omega
    have c3 : ((out.length - d : Nat) : Int) < (out.length : Int) := by omega
    have c4 : out.length < 140737488355328 := by omega
    obtain ⟨K, hK⟩ := pcopy xs n i b L D d hD hd r l hL hl m (j + 1) (out ++ [out.getD (out.length - d) 0]) (by omega) (by omega) (by simp; omega) (by simp; omega) hK
    have e1 : wrap64 ((out.length : Int) - D) = ((out.length - d : Nat) : Int) := wsub _ _ D hD (by omega) (by omega)
    have e2 : wrap64 ((j : Int) + 1) = ((j + 1 : Nat) : Int) := wsucc _ (by omega)
    refine ⟨K + 1, ?_⟩
    rw [deflate_Untokens.l1, if_pos c1, e1, if_pos c2, if_pos c3, if_pos c4, rdn, e2]
    exact hK
theorem form_f (b l d : Int) : deflate_Token_form.f b l d = some (decide (¬ badT ⟨b, l, d⟩)) := by
  have hT : ¬ (l < 0 ∨ l = 1 ∨ l = 2 ∨ 258 < l ∨ (l = 0 ∧ d ≠ 0) ∨ (l ≠ 0 ∧ d = 0) ∨ (0 < l ∧ b ≠ 0)) → decide (¬ badT ⟨b, l, d⟩) = true := fun h => decide_eq_true h
  have hF : (l < 0 ∨ l = 1 ∨ l = 2 ∨ 258 < l ∨ (l = 0 ∧ d ≠ 0) ∨ (l ≠ 0 ∧ d = 0) ∨ (0 < l ∧ b ≠ 0)) → decide (¬ badT ⟨b, l, d⟩) = false := fun h => decide_eq_false (fun k => k h)
  unfold deflate_Token_form.f
  by_cases h0 : l = 0
  · rw [if_pos h0]
    by_cases h1 : d = 0
    · rw [hT (by omega)]; simp [h1]
    · rw [hF (by omega)]; simp [h1]
  · rw [if_neg h0]
    by_cases h1 : l ≥ 3
    · rw [if_pos h1]
      by_cases h2 : l ≤ 258
      · rw [if_pos h2]
        by_cases h3 : d = 0
        · rw [if_pos h3, hF (by omega)]
        · rw [if_neg h3]
          by_cases h4 : b = 0
          · rw [hT (by omega)]; simp [h4]
          · rw [hF (by omega)]; simp [h4]
      · rw [if_neg h2, hF (by omega)]
    · rw [if_neg h1, hF (by omega)]
theorem unt_p (xs : List S41) (n : Nat) (hn : xs.length = n) (hn9 : n ≤ 1000000000) : ∀ m i out, m = n - i → i ≤ n → out.length ≤ 1048576 →
    ∃ K, deflate_Untokens.l0 K out xs n (i : Nat) = some ((unt ((xs.drop i).map ti45) out).1, optE (unt ((xs.drop i).map ti45) out).2)
  | 0, i, out, hm, hi, ho => by
    refine ⟨1, ?_⟩
    rw [deflate_Untokens.l0, if_neg (by omega), List.drop_eq_nil_of_le (by omega)]
    rfl
  | m + 1, i, out, hm, hi, ho => by
    obtain ⟨x, hx⟩ : ∃ x, xs[i]? = some x := ⟨_, List.getElem?_eq_getElem (by omega)⟩
    have hdr : xs.drop i = x :: xs.drop (i + 1) := by
      rw [List.drop_eq_getElem_cons (by omega)]
      congr 1
      exact Option.some.inj ((List.getElem?_eq_getElem (by omega)).symm.trans hx)
    rw [hdr, List.map_cons, unt]
    have hl0 : ∀ K r, deflate_Untokens.l0 (K + 1) out xs n (i : Nat) = r ↔ ((deflate_Token_form.f x.f0 x.f1 x.f2).bind fun t118 => (if t118 = true then (if x.f1 > 0 then (if x.f2 < 1 then (deflate_Untokens.j1 K out xs n i true x.f0 x.f1 x.f2) else (deflate_Untokens.j1 K out xs n i (decide (x.f2 > (mn 32768 (out.length : Int)))) x.f0 x.f1 x.f2)) else (deflate_Untokens.j1 K out xs n i false x.f0 x.f1 x.f2)) else (some (([] : List Int), some 2)))) = r := by
      intro K r
      rw [deflate_Untokens.l0, if_pos (by omega), if_pos (by omega), if_pos (by omega), rd45 xs i x hx]
    by_cases hb : badT (ti45 x)
    · rw [if_pos hb]
      refine ⟨1, ?_⟩
      rw [hl0, form_f, Option.bind_some, if_neg (by rw [decide_eq_true_iff]; exact fun h => h hb)]
      rfl
    · have hbb : ¬ (x.f1 < 0 ∨ x.f1 = 1 ∨ x.f1 = 2 ∨ 258 < x.f1 ∨ (x.f1 = 0 ∧ x.f2 ≠ 0) ∨ (x.f1 ≠ 0 ∧ x.f2 = 0) ∨ (0 < x.f1 ∧ x.f0 ≠ 0)) := hb
      rw [if_neg hb]
      have hform : ∀ K, deflate_Untokens.l0 (K + 1) out xs n (i : Nat) = (if x.f1 > 0 then (if x.f2 < 1 then (deflate_Untokens.j1 K out xs n i true x.f0 x.f1 x.f2) else (deflate_Untokens.j1 K out xs n i (decide (x.f2 > (mn 32768 (out.length : Int)))) x.f0 x.f1 x.f2)) else (deflate_Untokens.j1 K out xs n i false x.f0 x.f1 x.f2)) := by
        intro K
        rw [hl0, form_f, Option.bind_some, if_pos (by rw [decide_eq_true_iff]; exact hb)]
      by_cases h0 : (ti45 x).l = 0
      · have h0' : x.f1 = 0 := h0
        rw [if_pos h0]
        by_cases h1 : (out.length : Int) ≥ 1048576
        · rw [if_pos h1]
          refine ⟨2, ?_⟩
          rw [hform, if_neg (by omega), deflate_Untokens.j1, if_neg (by simp), if_pos (by rw [wadd _ _ (by omega) (by omega) (by omega)]; unfold mx; omega)]
          rfl
        · rw [if_neg h1]
          obtain ⟨K, hK⟩ := unt_p xs n hn hn9 m (i + 1) (out ++ [x.f0]) (by omega) (by omega) (by simp; omega)
          refine ⟨K + 4, ?_⟩
          rw [hform, if_neg (by omega), deflate_Untokens.j1, if_neg (by simp), if_neg (by rw [wadd _ _ (by omega) (by omega) (by omega)]; unfold mx; omega), if_pos h0', if_pos (by omega), deflate_Untokens.j2, deflate_Untokens.l1, if_neg (by omega), wsucc _ (by omega)]
          exact hK
      · have h0' : x.f1 ≠ 0 := h0
        rw [if_neg h0]
        by_cases h1 : (ti45 x).d < 1 ∨ 32768 < (ti45 x).d ∨ (out.length : Int) < (ti45 x).d
        · have h1' : x.f2 < 1 ∨ 32768 < x.f2 ∨ (out.length : Int) < x.f2 := h1
          rw [if_pos h1]
          refine ⟨2, ?_⟩
          rw [hform, if_pos (by omega)]
          by_cases h2 : x.f2 < 1
          · rw [if_pos h2, deflate_Untokens.j1, if_pos rfl]; rfl
          · rw [if_neg h2, deflate_Untokens.j1, if_pos (by rw [decide_eq_true_iff]; unfold mn; omega)]; rfl
        · have h1' : ¬ (x.f2 < 1 ∨ 32768 < x.f2 ∨ (out.length : Int) < x.f2) := h1
          rw [if_neg h1]
          have hj : ∀ K, deflate_Untokens.l0 (K + 2) out xs n (i : Nat) = if (wrap64 ((out.length : Int) + (mx x.f1 1))) > 1048576 then (some (([] : List Int), some 3)) else (deflate_Untokens.j2 K out xs n i x.f0 x.f1 x.f2) := by
            intro K
            rw [hform, if_pos (by omega), if_neg (by omega), deflate_Untokens.j1, if_neg (by rw [decide_eq_true_iff]; unfold mn; omega), if_neg h0']
          by_cases h3 : 1048576 < (out.length : Int) + (ti45 x).l
          · have h3' : 1048576 < (out.length : Int) + x.f1 := h3
            rw [if_pos h3]
            refine ⟨2, ?_⟩
            rw [hj 0, if_pos (by rw [wadd _ _ (by omega) (by omega) (by omega)]; unfold mx; omega)]
            rfl
          · have h3' : ¬ 1048576 < (out.length : Int) + x.f1 := h3
            rw [if_neg h3]
            obtain ⟨d, hd⟩ := Int.eq_ofNat_of_zero_le (show 0 ≤ x.f2 by omega)
            obtain ⟨l, hl⟩ := Int.eq_ofNat_of_zero_le (show 0 ≤ x.f1 by omega)
            have hrec := unt_p xs n hn hn9 m (i + 1) (cpy d l out) (by omega) (by omega) (by rw [cpy_len]; omega)
            rw [← wsucc i (by omega)] at hrec
            obtain ⟨K, hK⟩ := pcopy xs n i x.f0 x.f1 x.f2 d hd (by omega) _ l hl (by omega) l 0 out rfl (Nat.zero_le _) (by omega) (by omega) hrec
            refine ⟨K + 3, ?_⟩
            rw [hj (K + 1), if_neg (by rw [wadd _ _ (by omega) (by omega) (by omega)]; unfold mx; omega), deflate_Untokens.j2]
            have ed : (ti45 x).d.toNat = d := by show x.f2.toNat = d; rw [hd]; rfl
            have el : (ti45 x).l.toNat = l := by show x.f1.toNat = l; rw [hl]; rfl
            rw [ed, el]
            exact hK
theorem wadd2 (a : Nat) (l : Int) (h : 0 ≤ l) (hl : l ≤ 258) (ha : a ≤ 1000000000) : wrap64 ((a : Int) + l) = (a : Int) + l := by unfold wrap64; omega
/-- A row of tokens as the prints read it. -/
theorem tk_cells {w : World} {A : Option Addr} {l : List Ti} (h : TkR w A l) (hl : 0 < l.length) : ∃ ad, A = some ad ∧ ∀ (j : Nat) k, l[j]? = some k → ∀ i u, k.cells[i]? = some u → w.cell? (ad.add (j * 3 + i)) = some u := by
  obtain ⟨ad, e, _⟩ := h 0 _ (List.getElem?_eq_getElem hl)
  refine ⟨ad, e, fun j k hk i u hu => ?_⟩
  obtain ⟨ad', e', h0, h1, h2⟩ := h j k hk
  rw [e] at e'
  cases e'
  have hi : i < 3 := by
    have := (List.getElem?_eq_some_iff.1 hu).1
    simpa [Ti.cells] using this
  match i, hi with
  | 0, _ => simp [Ti.cells] at hu; subst hu; exact h0
  | 1, _ => simp [Ti.cells] at hu; subst hu; rw [add_field _ _ 1 (by omega)]; exact h1
  | 2, _ => simp [Ti.cells] at hu; subst hu; rw [add_field _ _ 2 (by omega)]; exact h2
theorem C45 {w : World} {A : Option Addr} {l : List Ti} (h : TkR w A l) (hm : l.length ≤ 1000000000) : Kd.C k41 w A l.length (l.map fun k => (⟨k.b, k.l, k.d⟩ : S41)) := by
  refine ⟨by simp, by omega, fun hl => ?_⟩
  obtain ⟨ad, e, hc⟩ := tk_cells h hl
  refine ⟨ad, e, fun j p hp => ?_⟩
  rw [List.getElem?_map, Option.map_eq_some_iff] at hp
  obtain ⟨k, hk, rfl⟩ := hp
  exact ⟨k.cells, rfl, ⟨[.int .u8 k.b], [.int .i64 k.l, .int .i64 k.d], rfl, rfl, ⟨[.int .i64 k.l], [.int .i64 k.d], rfl, rfl, rfl⟩⟩, hc j k hk⟩
theorem untokens_calls (w : World) (A : Option Addr) (c n : Nat) (l : List Ti) (h : TkR w A l) (hn : l.length = n) (hc : n ≤ c) (hn9 : n ≤ 1000000000) :
    Calls Tryd.prog 5 #[.slice A n c] w fun e w' => ∃ A' c', e = .returned (.tuple #[.slice A' (unt l []).1.length c', errW (optE (unt l []).2)]) ∧ (Kd.int .u8).C w' A' (unt l []).1.length (unt l []).1 ∧ (unt l []).1.length ≤ c' ∧ Below w.heap.size w w' := by
  subst hn
  obtain ⟨K, hK⟩ := unt_p (l.map fun k => (⟨k.b, k.l, k.d⟩ : S41)) l.length (by simp) hn9 l.length 0 [] (by omega) (Nat.zero_le _) (by simp)
  have hmap : ((l.map fun k => (⟨k.b, k.l, k.d⟩ : S41)).drop 0).map ti45 = l := by
    rw [List.drop_zero, List.map_map]
    exact List.map_id' l
  rw [hmap] at hK
  have hf : deflate_Untokens.f K (l.map fun k => (⟨k.b, k.l, k.d⟩ : S41)) = some ((unt l []).1, optE (unt l []).2) := by
    unfold deflate_Untokens.f
    rw [List.length_map]
    exact hK
  have h := deflate_Untokens.calls K A c _ _ _ w (by rw [List.length_map]; exact C45 h hn9) (by rw [List.length_map]; exact hc) hf
  rw [List.length_map] at h
  refine h.mono ?_
  rintro e w' ⟨v, rfl, hr, hb⟩
  obtain ⟨A', c', rfl, hcc, hC⟩ := Kd.R_reads hr
  exact ⟨A', c', rfl, hC, hcc, hb⟩
end Go.Proofs.YtiaiopdiooobiaaDoor.My

/- Codes by their lengths, plainly: how many of a length, the first number, where it begins, each sign's code. No program in sight. -/
namespace Go.Proofs.YtiaiopdiooobiaaDoor.Huf
set_option maxRecDepth 100000
set_option linter.unusedVariables false
set_option linter.unusedSimpArgs false

/-- A table of 17. -/
def tab (h : Nat → Int) : List Int := (List.range 17).map h
theorem tab_len (h : Nat → Int) : (tab h).length = 17 := by simp [tab]
theorem tab_get (h : Nat → Int) (n : Nat) (hn : n < 17) : (tab h).getD n 0 = h n := by simp [tab, List.getD_eq_getElem?_getD, hn]
theorem tab_set (h h' : Nat → Int) (n : Nat) (x : Int) (hn : n < 17) (h1 : h' n = x) (h2 : ∀ k, k ≠ n → k < 17 → h' k = h k) : (tab h).set n x = tab h' := by
  apply List.ext_getElem
  · simp [tab]
  · intro i a b
    have hi : i < 17 := by simpa [tab] using b
    rw [List.getElem_set]
    split
    · next e => subst e; simp [tab, h1]
    · next e => simp only [tab, List.getElem_map, List.getElem_range]; exact (h2 i (fun h => e h.symm) hi).symm
theorem tab_eq {h h' : Nat → Int} (e : ∀ k, k < 17 → h k = h' k) : tab h = tab h' := by
  unfold tab
  apply List.map_congr_left
  intro k hk
  exact e k (List.mem_range.1 hk)
/-- How many lengths are n. -/
def cn (L : List Int) (n : Nat) : Nat := L.count (n : Int)
/-- Likewise, of length 0 none. -/
def c0 (L : List Int) (n : Nat) : Nat := if n = 0 then 0 else cn L n
def fst (L : List Int) : Nat → Nat
  | 0 => 0
  | n + 1 => 2 * (fst L n + c0 L n)
def beg (L : List Int) : Nat → Nat
  | 0 => 0
  | n + 1 => beg L n + c0 L n
theorem cn_take (L : List Int) (i n : Nat) (x : Int) (h : L[i]? = some x) : cn (L.take (i + 1)) n = cn (L.take i) n + if x = (n : Int) then 1 else 0 := by
  unfold cn
  rw [List.take_add_one, h]
  simp only [Option.toList_some, List.count_append, List.count_cons, List.count_nil, Nat.zero_add, beq_iff_eq]
theorem cn_le (L : List Int) (n : Nat) : cn L n ≤ L.length := List.count_le_length
theorem cn_take_le (L : List Int) (i n : Nat) : cn (L.take i) n ≤ cn L n := (List.take_sublist i L).count_le _
theorem c0_le (L : List Int) (n : Nat) : c0 L n ≤ L.length := by unfold c0; split; omega; exact cn_le L n
theorem beg_mono (L : List Int) (n : Nat) : ∀ k, beg L n ≤ beg L (n + k)
  | 0 => Nat.le_refl _
  | k + 1 => Nat.le_trans (beg_mono L n k) (by show _ ≤ beg L (n + k) + _; omega)
/-- Is each length one that may be? -/
def okL (L : List Int) : Bool := L.all fun x => decide (0 ≤ x ∧ x ≤ 15)
/-- There are more codes of this length, or shorter, than there is room for. -/
def over (L : List Int) (n : Nat) : Bool := decide (2 ^ n < fst L n + cn L n)
/-- The first of so many lengths, from n on, that is over. -/
def anyOver (L : List Int) : Nat → Nat → Bool
  | 0, _ => false
  | k + 1, n => over L n || anyOver L k (n + 1)
def numR (L : List Int) : Int := if anyOver L 15 1 then -1 else 32768 - ((fst L 15 + cn L 15 : Nat) : Int)
/-- A sign's code. -/
def code (L : List Int) (s : Nat) : Nat := let n := (L.getD s 0).toNat; if n = 0 then 0 else fst L n + cn (L.take s) n
/-- Where a sign stands among all that have codes. -/
def pos (L : List Int) (s : Nat) : Nat := let n := (L.getD s 0).toNat; beg L n + cn (L.take s) n
theorem fst_le (L : List Int) : ∀ n, (∀ k, 1 ≤ k → k < n → over L k = false) → fst L n ≤ 2 ^ n
  | 0, _ => by simp [fst]
  | n + 1, h => by
    rw [fst, Nat.pow_succ]
    cases n with
    | zero => simp [fst, c0]
    | succ m =>
      have h1 := h (m + 1) (by omega) (by omega)
      unfold over at h1
      have h2 := of_decide_eq_false h1
      have h3 : c0 L (m + 1) = cn L (m + 1) := by simp [c0]
      omega
theorem beg_le (L : List Int) (n : Nat) : beg L n ≤ n * L.length := by
  induction n with
  | zero => simp [beg]
  | succ n ih =>
    have := c0_le L n
    rw [beg, Nat.succ_mul]
    omega
/-- All signs that have codes. -/
theorem count_split (L : List Int) (h : okL L = true) : ∀ n : Nat, (L.filter fun x => decide (0 < x ∧ x < (n : Int))).length = beg L n
  | 0 => by
    rw [beg]
    rw [List.filter_eq_nil_iff.2]
    · rfl
    · intro x _; simp; omega
  | n + 1 => by
    rw [beg, ← count_split L h n]
    clear h
    unfold c0 cn
    induction L with
    | nil => split <;> rfl
    | cons x L ih =>
      by_cases h0 : n = 0
      · subst h0
        have e : (x :: L).filter (fun x => decide (0 < x ∧ x < ((0 + 1 : Nat) : Int))) = [] := List.filter_eq_nil_iff.2 (by intro y _; simp; omega)
        have e2 : (x :: L).filter (fun x => decide (0 < x ∧ x < ((0 : Nat) : Int))) = [] := List.filter_eq_nil_iff.2 (by intro y _; simp; omega)
        rw [e, e2]; rfl
      · rw [if_neg h0] at ih ⊢
        rw [List.filter_cons, List.filter_cons, List.count_cons]
        by_cases e1 : x = (n : Int)
        · rw [if_pos (by simp; omega), if_neg (by simp; omega), if_pos (by simp [e1])]
          simp only [List.length_cons]
          omega
        · have e3 : (decide (0 < x ∧ x < ((n + 1 : Nat) : Int))) = decide (0 < x ∧ x < (n : Int)) := decide_eq_decide.2 (by omega)
          rw [e3, if_neg (show ¬ (x == (n : Int)) = true by simpa using e1)]
          split
          · simp only [List.length_cons]; omega
          · omega
theorem beg_all (L : List Int) (h : okL L = true) (n : Nat) : beg L n ≤ L.length := by rw [← count_split L h n]; exact List.length_filter_le _ _
theorem pos_lt (L : List Int) (s : Nat) (h : s < L.length) (n : Nat) (hn : L.getD s 0 = (n : Int)) (h0 : n ≠ 0) : cn (L.take s) n < cn L n := by
  have h1 := cn_take L s n (n : Int) (by rw [List.getElem?_eq_getElem h, ← hn, List.getD_eq_getElem?_getD, List.getElem?_eq_getElem h]; rfl)
  rw [if_pos rfl] at h1
  have h2 := cn_take_le L (s + 1) n
  omega
theorem cn_mono (L : List Int) (n : Nat) (i k : Nat) : cn (L.take i) n ≤ cn (L.take (i + k)) n := by
  have : (L.take (i + k)).take i = L.take i := by rw [List.take_take]; congr 1; omega
  rw [← this]
  exact cn_take_le _ _ _
theorem pos_inj (L : List Int) (s t : Nat) (hst : s < t) (ht : t < L.length) (n m : Nat) (hn : L.getD s 0 = (n : Int)) (hm : L.getD t 0 = (m : Int)) (hn0 : n ≠ 0) (hm0 : m ≠ 0) :
    beg L n + cn (L.take s) n ≠ beg L m + cn (L.take t) m := by
  have a1 := pos_lt L s (by omega) n hn hn0
  have a2 := pos_lt L t ht m hm hm0
  have b1 : beg L (n + 1) = beg L n + cn L n := by rw [beg]; simp [c0, hn0]
  have b2 : beg L (m + 1) = beg L m + cn L m := by rw [beg]; simp [c0, hm0]
  rcases Nat.lt_trichotomy n m with h | h | h
  · obtain ⟨k, rfl⟩ : ∃ k, m = (n + 1) + k := ⟨m - (n + 1), by omega⟩
    have := beg_mono L (n + 1) k
    omega
  · subst h
    have h1 := cn_take L s n (n : Int) (by rw [List.getElem?_eq_getElem (by omega), ← hn, List.getD_eq_getElem?_getD, List.getElem?_eq_getElem (by omega)]; rfl)
    rw [if_pos rfl] at h1
    obtain ⟨k, rfl⟩ : ∃ k, t = (s + 1) + k := ⟨t - (s + 1), by omega⟩
    have := cn_mono L n (s + 1) k
    omega
  · obtain ⟨k, rfl⟩ : ∃ k, n = (m + 1) + k := ⟨n - (m + 1), by omega⟩
    have := beg_mono L (m + 1) k
    omega
end Go.Proofs.YtiaiopdiooobiaaDoor.Huf

/- Taking a sign off bits, plainly. No program in sight. -/
namespace Go.Proofs.YtiaiopdiooobiaaDoor.Huf
set_option maxRecDepth 100000
set_option linter.unusedVariables false
set_option linter.unusedSimpArgs false

/-- A bit of a number, and so many bits from a bit on, the first one the highest. -/
def bv (V i : Nat) : Nat := V / 2 ^ i % 2
def cd (V a : Nat) : Nat → Nat
  | 0 => 0
  | n + 1 => 2 * cd V a n + bv V (a + n)
theorem bv_lt (V i : Nat) : bv V i < 2 := Nat.mod_lt _ (by decide)
theorem cd_lt (V a : Nat) : ∀ n, cd V a n < 2 ^ n
  | 0 => by simp [cd]
  | n + 1 => by
    have := cd_lt V a n
    have := bv_lt V (a + n)
    rw [cd, Nat.pow_succ]
    omega
theorem cd_div (V a n : Nat) : ∀ k, cd V a (n + k) / 2 ^ k = cd V a n
  | 0 => by simp
  | k + 1 => by
    rw [← Nat.add_assoc, cd, Nat.pow_succ, Nat.mul_comm (2 ^ k) 2, ← Nat.div_div_eq_div_mul]
    have := bv_lt V (a + (n + k))
    rw [show (2 * cd V a (n + k) + bv V (a + (n + k))) / 2 = cd V a (n + k) by omega]
    exact cd_div V a n k
/-- A sign with so many ahead of it of its length. -/
theorem sign_at (L : List Int) (n q : Nat) : ∀ i, i ≤ L.length → q < cn (L.take i) n → ∃ s, s < i ∧ L.getD s 0 = (n : Int) ∧ cn (L.take s) n = q
  | 0, _, h => by simp [cn] at h
  | i + 1, hi, h => by
    have hx : L[i]? = some (L.getD i 0) := by rw [List.getD_eq_getElem?_getD, List.getElem?_eq_getElem (by omega)]; rfl
    rw [cn_take L i n _ hx] at h
    by_cases h1 : q < cn (L.take i) n
    · obtain ⟨s, a, b, c⟩ := sign_at L n q i (by omega) h1
      exact ⟨s, by omega, b, c⟩
    · by_cases e : L.getD i 0 = (n : Int)
      · rw [if_pos e] at h
        exact ⟨i, by omega, e, by omega⟩
      · rw [if_neg e] at h
        omega
/-- Is this the sign's length? -/
def Has (L : List Int) (s n : Nat) : Prop := s < L.length ∧ n ≠ 0 ∧ L.getD s 0 = (n : Int)
theorem code_has (L : List Int) (s n : Nat) (h : Has L s n) : code L s = fst L n + cn (L.take s) n := by
  unfold code
  rw [h.2.2, Int.toNat_natCast]
  exact if_neg h.2.1
theorem has_range (L : List Int) (s n : Nat) (h : Has L s n) : fst L n ≤ code L s ∧ code L s < fst L n + cn L n := by
  rw [code_has L s n h]
  have := pos_lt L s h.1 n h.2.2 h.2.1
  omega
theorem range_has (L : List Int) (n c : Nat) (h0 : n ≠ 0) (h1 : fst L n ≤ c) (h2 : c < fst L n + cn L n) : ∃ s, Has L s n ∧ code L s = c := by
  obtain ⟨s, a, b, e⟩ := sign_at L n (c - fst L n) L.length (Nat.le_refl _) (by rw [List.take_length]; omega)
  have h : Has L s n := ⟨a, h0, b⟩
  exact ⟨s, h, by rw [code_has L s n h, e]; omega⟩
theorem fst_grow (L : List Int) (n : Nat) (h0 : n ≠ 0) : ∀ k, (fst L n + cn L n) * 2 ^ (k + 1) ≤ fst L (n + (k + 1))
  | 0 => by
    rw [fst]
    unfold c0
    rw [if_neg h0]
    omega
  | k + 1 => by
    have h := fst_grow L n h0 k
    rw [show n + (k + 1 + 1) = (n + (k + 1)) + 1 by omega, fst, Nat.pow_succ, ← Nat.mul_assoc]
    omega
/-- No code begins with another one. -/
theorem apart (L : List Int) (s t n m : Nat) (hs : Has L s n) (ht : Has L t m) (hnm : n < m) : code L t / 2 ^ (m - n) ≠ code L s := by
  obtain ⟨k, rfl⟩ : ∃ k, m = n + (k + 1) := ⟨m - n - 1, by omega⟩
  have h1 := fst_grow L n hs.2.1 k
  have h2 := has_range L s n hs
  have h3 := has_range L t _ ht
  rw [show n + (k + 1) - n = k + 1 by omega]
  intro e
  have h4 : (code L s + 1) * 2 ^ (k + 1) ≤ (fst L n + cn L n) * 2 ^ (k + 1) := Nat.mul_le_mul_right _ (by omega)
  have h5 : code L t < (code L s + 1) * 2 ^ (k + 1) := by
    rw [← e, Nat.add_mul, Nat.one_mul]
    exact Nat.lt_div_mul_add (Nat.two_pow_pos _)
  omega
theorem cn_step (L : List Int) (s t n : Nat) (hs : Has L s n) (h : s < t) (ht : t ≤ L.length) : cn (L.take s) n < cn (L.take t) n := by
  have hx : L[s]? = some (L.getD s 0) := by rw [List.getD_eq_getElem?_getD, List.getElem?_eq_getElem hs.1]; rfl
  have h1 := cn_take L s n _ hx
  rw [if_pos hs.2.2] at h1
  obtain ⟨k, rfl⟩ : ∃ k, t = (s + 1) + k := ⟨t - (s + 1), by omega⟩
  have := cn_mono L n (s + 1) k
  omega
/-- Signs of a length have codes of their own. -/
theorem code_inj (L : List Int) (s t n : Nat) (hs : Has L s n) (ht : Has L t n) (e : code L s = code L t) : s = t := by
  rw [code_has L s n hs, code_has L t n ht] at e
  rcases Nat.lt_trichotomy s t with h | h | h
  · have := cn_step L s t n hs h (Nat.le_of_lt ht.1); omega
  · exact h
  · have := cn_step L t s n ht h (Nat.le_of_lt hs.1); omega
/-- The bits begin with the sign's code; or they end within it. -/
def Fits (L : List Int) (V a left s n : Nat) : Prop := Has L s n ∧ n ≤ left ∧ code L s = cd V a n
def Cuts (L : List Int) (V a left s n : Nat) : Prop := Has L s n ∧ left < n ∧ code L s / 2 ^ (n - left) = cd V a left
theorem fits_one (L : List Int) (V a left s t n m : Nat) (h : Fits L V a left s n) (k : Fits L V a left t m) : s = t ∧ n = m := by
  rcases Nat.lt_trichotomy n m with c | c | c
  · obtain ⟨d, rfl⟩ : ∃ d, m = n + d := ⟨m - n, by omega⟩
    exact absurd (by rw [k.2.2, h.2.2, show n + d - n = d by omega]; exact cd_div V a n d) (apart L s t n (n + d) h.1 k.1 c)
  · subst c
    exact ⟨code_inj L s t n h.1 k.1 (by rw [h.2.2, k.2.2]), rfl⟩
  · obtain ⟨d, rfl⟩ : ∃ d, n = m + d := ⟨n - m, by omega⟩
    exact absurd (by rw [h.2.2, k.2.2, show m + d - m = d by omega]; exact cd_div V a m d) (apart L t s m (m + d) k.1 h.1 c)
/-- The middle numbers of a length: is there one that begins with these bits? -/
def meets (L : List Int) (c len n : Nat) : Bool := decide (0 < cn L n) && (decide (fst L n < (c + 1) * 2 ^ (n - len)) && decide (c * 2 ^ (n - len) < fst L n + cn L n))
theorem meets_iff (L : List Int) (c len n : Nat) (h0 : n ≠ 0) : meets L c len n = true ↔ ∃ s, Has L s n ∧ code L s / 2 ^ (n - len) = c := by
  unfold meets
  generalize n - len = k
  constructor
  · intro h
    simp only [Bool.and_eq_true, decide_eq_true_eq] at h
    obtain ⟨h1, h2, h3⟩ := h
    have hp := Nat.two_pow_pos k
    have h5 : (c + 1) * 2 ^ k = c * 2 ^ k + 2 ^ k := Nat.succ_mul _ _
    by_cases hm : fst L n ≤ c * 2 ^ k
    · obtain ⟨s, hs, e⟩ := range_has L n (c * 2 ^ k) h0 hm h3
      exact ⟨s, hs, by rw [e]; exact Nat.mul_div_cancel _ hp⟩
    · obtain ⟨s, hs, e⟩ := range_has L n (fst L n) h0 (Nat.le_refl _) (by omega)
      refine ⟨s, hs, ?_⟩
      rw [e]
      apply Nat.div_eq_of_lt_le
      · omega
      · exact h2
  · rintro ⟨s, hs, e⟩
    have h := has_range L s n hs
    have hp := Nat.two_pow_pos k
    have h5 : (c + 1) * 2 ^ k = c * 2 ^ k + 2 ^ k := Nat.succ_mul _ _
    have h6 : c * 2 ^ k ≤ code L s := by rw [← e]; exact Nat.div_mul_le_self _ _
    have h7 : code L s < c * 2 ^ k + 2 ^ k := by rw [← e]; exact Nat.lt_div_mul_add hp
    simp only [Bool.and_eq_true, decide_eq_true_eq]
    omega
/-- Bits that end: one of so many lengths, from n on, has a code that begins with them. -/
def anyMeets (L : List Int) (c len : Nat) : Nat → Nat → Bool
  | 0, _ => false
  | k + 1, n => meets L c len n || anyMeets L c len k (n + 1)
theorem anyMeets_iff (L : List Int) (c len : Nat) : ∀ k n, anyMeets L c len k n = true ↔ ∃ m, n ≤ m ∧ m < n + k ∧ meets L c len m = true
  | 0, n => by simp [anyMeets]; intro m h1 h2; omega
  | k + 1, n => by
    rw [anyMeets, Bool.or_eq_true, anyMeets_iff L c len k (n + 1)]
    constructor
    · rintro (h | ⟨m, h1, h2, h3⟩)
      · exact ⟨n, Nat.le_refl _, by omega, h⟩
      · exact ⟨m, by omega, by omega, h3⟩
    · rintro ⟨m, h1, h2, h3⟩
      by_cases e : m = n
      · subst e; exact .inl h3
      · exact .inr ⟨m, by omega, by omega, h3⟩
/-- What Take answers: a sign and how many bits it took, or an error. -/
inductive TakeR (L : List Int) (V a left : Nat) : Int → Nat → Option Int → Prop
  | sign (s n : Nat) (h : Fits L V a left s n) : TakeR L V a left (s : Int) n none
  | ends (h : ∀ s n, ¬ Fits L V a left s n) (s n : Nat) (h1 : Cuts L V a left s n) : TakeR L V a left 0 0 (some 10)
  | form (h : ∀ s n, ¬ Fits L V a left s n) (h1 : ∀ s n, ¬ Cuts L V a left s n) : TakeR L V a left 0 0 (some 2)
theorem takeR_one {L : List Int} {V a left : Nat} {x y : Int} {n m : Nat} {e f : Option Int} (h : TakeR L V a left x n e) (k : TakeR L V a left y m f) : x = y ∧ n = m ∧ e = f := by
  cases h with
  | sign s n h =>
    cases k with
    | sign t m k => obtain ⟨rfl, rfl⟩ := fits_one L V a left s t n m h k; exact ⟨rfl, rfl, rfl⟩
    | ends k => exact absurd h (k _ _)
    | form k => exact absurd h (k _ _)
  | ends h s n h1 =>
    cases k with
    | sign t m k => exact absurd k (h _ _)
    | ends => exact ⟨rfl, rfl, rfl⟩
    | form _ k => exact absurd h1 (k _ _)
  | form h h1 =>
    cases k with
    | sign t m k => exact absurd k (h _ _)
    | ends _ s n k => exact absurd k (h1 _ _)
    | form => exact ⟨rfl, rfl, rfl⟩
end Go.Proofs.YtiaiopdiooobiaaDoor.Huf

/- Blocks of bytes known whole, and slices of bytes that are made. -/
namespace Go.Proofs.YtiaiopdiooobiaaDoor.My
open Go.RowKit Go.Proofs.YtiaiopdiooobiaaDoorW.PrintWords Go.Proofs.YtiaiopdiooobiaaDoorW.PrintLast Go.Proofs.YtiaiopdiooobiaaDoorW.PrintMore
set_option maxRecDepth 100000

/-- A block of bytes, known whole: none of its places is frozen. -/
structure Row (w : World) (g : Nat) (l : List Int) : Prop where mk :: (out : ∃ fr : Nat × Nat, w.heap[g]? = some (.cells (nums .u8 l).toArray 5 fr) ∧ (fr = (0, 0) ∨ l.length ≤ fr.1))
theorem Row.of {w : World} {g : Nat} {l : List Int} (h : w.heap[g]? = some (.cells (nums .u8 l).toArray 5 (0, 0))) : Row w g l := ⟨_, h, .inl rfl⟩
theorem Row.drewN {w : World} {g : Nat} {l : List Int} (h : Row w g l) (n : Nat) : Row (w.drewN n) g l := ⟨h.out⟩
theorem Row.drew {w : World} {g : Nat} {l : List Int} (h : Row w g l) : Row w.drew g l := ⟨h.out⟩
theorem Row.lt {w : World} {g : Nat} {l : List Int} (h : Row w g l) : g < w.heap.size := by obtain ⟨fr, h, _⟩ := h.out; exact blk_lt h
theorem Row.cell {w : World} {g : Nat} {l : List Int} (h : Row w g l) (i : Nat) (hi : i < l.length) : w.cell? ⟨g, i, none⟩ = some (.int .u8 (l.getD i 0)) := by
  obtain ⟨fr, h, _⟩ := h.out
  rw [World.cell?]
  simp [h, nums, hi]
theorem Row.frozen {w : World} {g : Nat} {l : List Int} (h : Row w g l) (i : Nat) (hi : i < l.length) : w.frozen? ⟨g, i, none⟩ = false := by
  obtain ⟨fr, h, hf⟩ := h.out
  rcases hf with rfl | hf
  · simp [World.frozen?, h]
  · simp [World.frozen?, h]; omega
theorem Row.set {w : World} {g : Nat} {l : List Int} (h : Row w g l) (i : Nat) (x : Int) : Row (w.setCell ⟨g, i, none⟩ (.int .u8 x)) g (l.set i x) := by
  obtain ⟨fr, h, hf⟩ := h.out
  refine ⟨fr, ?_, by simpa using hf⟩
  rw [setCell_eq_setRow w g i _ _ fr _ h, setRow_heap w g _ _ _ fr h]
  simp [nums, List.map_set]
theorem Row.grown {w w1 : World} {g : Nat} {l : List Int} {row : Option Nat} (h : Row w g l) (hg : w.grownBy w1 row) (hne : some g ≠ row) : Row w1 g l := by
  obtain ⟨fr, h, hf⟩ := h.out
  exact ⟨fr, blk_grown h hg hne, hf⟩
theorem Row.below {w w1 : World} {g : Nat} {l : List Int} (h : Row w g l) (hb : Below w.heap.size w w1) : Row w1 g l := h.grown (row := none) ⟨hb.os, hb.tape, hb.output, hb.size, fun k hk _ => hb.block k hk⟩ (by simp)
theorem Row.alloc {w : World} {g : Nat} {l : List Int} (h : Row w g l) (o : Obj) : Row (w.alloc o) g l := h.below (below_alloc (Below.refl _ _) o)
theorem Row.C {w : World} {g : Nat} {l : List Int} (h : Row w g l) (off n : Nat) (hn : off + n ≤ l.length) (hm : n ≤ 9223372036854775807) : (Kd.int .u8).C w (some ⟨g, off, none⟩) n ((l.drop off).take n) := by
  refine Kd.C_of_reads (d := 0) ⟨by rw [List.length_take, List.length_drop]; omega, hm, fun _ => ⟨_, rfl, fun j hj => ?_⟩⟩
  rw [add_at, h.cell _ (by omega)]
  simp [List.getD_eq_getElem?_getD, hj]
theorem Row.whole {w : World} {g : Nat} {l : List Int} (h : Row w g l) (hm : l.length ≤ 9223372036854775807) : (Kd.int .u8).C w (some ⟨g, 0, none⟩) l.length l := by
  have := h.C 0 l.length (by omega) hm
  simpa using this
/-- A block that the call has just made: a literal's, and one that 'make' made. -/
theorem Row.lit (w : World) (l : List Int) : Row (w.alloc (.cells (nums .u8 l).toArray 5)) w.heap.size l := Row.of (alloc_self _ _)
theorem Row.str (w : World) (l : List Int) : Row (w.alloc (.cells (nums .u8 l).toArray 5 (l.length, l.length + 1))) w.heap.size l := ⟨_, alloc_self _ _, .inr (Nat.le_refl _)⟩
theorem made_nums (k : IntKind) (m : Nat) : madeCells #[.int k 0] m = (nums k (List.replicate m 0)).toArray := by
  apply Array.ext'
  apply List.ext_getElem
  · simp [nums, madeCells]
  · intro i h1 h2
    simp [nums, madeCells, Nat.mod_one]
theorem Row.made (w : World) (m : Nat) : Row (w.alloc (.cells (madeCells #[.int .u8 0] m) 5)) w.heap.size (List.replicate m 0) := by
  rw [made_nums]
  exact Row.lit w _
theorem info_u8 : (Tryd.prog.info? 5).map (fun i => (i.zero, i.size, i.bytes)) = some (some (.int .u8 0), 1, 1) := by kernel_rfl
theorem make_bytes (n : Nat) (hn : n ≤ 16777216) (W : World) : (Instr.makeSlice 22 (.int .i64 n) (.int .i64 n)).run Tryd.prog W = .ok (.slice (some ⟨W.heap.size, 0, none⟩) n n) (W.alloc (.cells (madeCells #[.int .u8 0] n) 5)) := by
  obtain ⟨i0, hi, hz⟩ := Option.map_eq_some_iff.1 info_u8
  simp only [Prod.mk.injEq] at hz
  have h := run_makeSlice W (P := Tryd.prog) 22 5 i0 (.int .u8 0) Tryd.underlying22 hi hz.1 .i64 .i64 n n (by omega) (by omega) (by rw [hz.2.1]; omega) (by rw [hz.2.2]; omega) (by omega)
  rw [hz.2.1] at h
  simpa [Value.cells] using h
end Go.Proofs.YtiaiopdiooobiaaDoor.My

/- A Code's block. -/
namespace Go.Proofs.YtiaiopdiooobiaaDoor.My
open Go.RowKit Go.Proofs.YtiaiopdiooobiaaDoorW.PrintWords Go.Proofs.YtiaiopdiooobiaaDoorW.PrintLast Go.Proofs.YtiaiopdiooobiaaDoorW.PrintMore
set_option maxRecDepth 100000
set_option linter.unusedVariables false
set_option linter.unusedSimpArgs false

def codCells (v0 : Value) (f m b : List Int) (v4 v5 : Value) : List Value := v0 :: (nums .i64 f ++ (nums .i64 m ++ (nums .i64 b ++ [v4, v5])))
/-- A code at a block: its lengths, its three tables, its two rows. -/
structure Cod (w : World) (g : Nat) (v0 : Value) (f m b : List Int) (v4 v5 : Value) : Prop where
  blk : w.heap[g]? = some (.cells (codCells v0 f m b v4 v5).toArray 106 (0, 0))
  lf : f.length = 17
  lm : m.length = 17
  lb : b.length = 17
theorem app_at {α : Type} (a b : List α) (n i : Nat) (h : a.length = n) : (a ++ b)[n + i]? = b[i]? := by
  rw [List.getElem?_append_right (by omega), h]
  congr 1
  omega
theorem app_j {α : Type} (a b : List α) (n i j : Nat) (h : a.length = n) (hj : j = n + i) : (a ++ b)[j]? = b[i]? := by
  subst hj
  exact app_at a b n i h
theorem set_j {α : Type} (a b : List α) (n i j : Nat) (x : α) (h : a.length = n) (hj : j = n + i) : (a ++ b).set j x = a ++ b.set i x := by
  subst hj
  rw [List.set_append_right _ _ (by omega), h]
  congr 2
  omega
theorem nums_at (l : List Int) (i : Nat) (h : i < l.length) : (nums .i64 l)[i]? = some (.int .i64 (l.getD i 0)) := by
  simp [nums, List.getD_eq_getElem?_getD, List.getElem?_eq_getElem h]
section
variable {w w1 : World} {g : Nat} {v0 v4 v5 : Value} {f m b : List Int}
theorem Cod.at (k : Cod w g v0 f m b v4 v5) (i : Nat) : w.cell? ⟨g, i, none⟩ = (codCells v0 f m b v4 v5)[i]? := by
  rw [blk_cell k.blk]
  simp
theorem Cod.c0 (k : Cod w g v0 f m b v4 v5) : w.cell? ⟨g, 0, none⟩ = some v0 := by rw [k.at]; rfl
theorem Cod.cf (k : Cod w g v0 f m b v4 v5) (n : Nat) (h : n < 17) : w.cell? ⟨g, 1 + n, none⟩ = some (.int .i64 (f.getD n 0)) := by
  rw [k.at, codCells, Nat.add_comm, List.getElem?_cons_succ, List.getElem?_append_left (by rw [nums_length, k.lf]; exact h), nums_at f n (by rw [k.lf]; exact h)]
theorem Cod.cm (k : Cod w g v0 f m b v4 v5) (n : Nat) (h : n < 17) : w.cell? ⟨g, 18 + n, none⟩ = some (.int .i64 (m.getD n 0)) := by
  rw [k.at, codCells, show 18 + n = (17 + n) + 1 from by omega, List.getElem?_cons_succ, app_at _ _ 17 n (by rw [nums_length, k.lf]), List.getElem?_append_left (by rw [nums_length, k.lm]; exact h), nums_at m n (by rw [k.lm]; exact h)]
theorem Cod.cb (k : Cod w g v0 f m b v4 v5) (n : Nat) (h : n < 17) : w.cell? ⟨g, 35 + n, none⟩ = some (.int .i64 (b.getD n 0)) := by
  rw [k.at, codCells, show 35 + n = (17 + (17 + n)) + 1 from by omega, List.getElem?_cons_succ, app_at _ _ 17 _ (by rw [nums_length, k.lf]), app_at _ _ 17 _ (by rw [nums_length, k.lm]), List.getElem?_append_left (by rw [nums_length, k.lb]; exact h), nums_at b n (by rw [k.lb]; exact h)]
theorem Cod.c4 (k : Cod w g v0 f m b v4 v5) : w.cell? ⟨g, 52, none⟩ = some v4 := by
  rw [k.at, codCells, show 52 = 51 + 1 from rfl, List.getElem?_cons_succ, app_j _ _ 17 34 51 (by rw [nums_length, k.lf]) rfl, app_j _ _ 17 17 34 (by rw [nums_length, k.lm]) rfl, app_j _ _ 17 0 17 (by rw [nums_length, k.lb]) rfl]
  rfl
theorem Cod.c5 (k : Cod w g v0 f m b v4 v5) : w.cell? ⟨g, 53, none⟩ = some v5 := by
  rw [k.at, codCells, show 53 = 52 + 1 from rfl, List.getElem?_cons_succ, app_j _ _ 17 35 52 (by rw [nums_length, k.lf]) rfl, app_j _ _ 17 18 35 (by rw [nums_length, k.lm]) rfl, app_j _ _ 17 1 18 (by rw [nums_length, k.lb]) rfl]
  rfl
theorem Cod.fz (k : Cod w g v0 f m b v4 v5) (i : Nat) : w.frozen? ⟨g, i, none⟩ = false := blk_frozen k.blk i
theorem Cod.drewN (k : Cod w g v0 f m b v4 v5) (n : Nat) : Cod (w.drewN n) g v0 f m b v4 v5 := ⟨k.blk, k.lf, k.lm, k.lb⟩
theorem Cod.below (k : Cod w g v0 f m b v4 v5) (h : Below w.heap.size w w1) : Cod w1 g v0 f m b v4 v5 := ⟨blk_below k.blk h, k.lf, k.lm, k.lb⟩
theorem Cod.lt (k : Cod w g v0 f m b v4 v5) : g < w.heap.size := blk_lt k.blk
theorem set_app_left {α : Type} (a b : List α) (i : Nat) (x : α) (h : i < a.length) : (a ++ b).set i x = a.set i x ++ b := List.set_append_left i x h
theorem set_app_at {α : Type} (a b : List α) (n i : Nat) (x : α) (h : a.length = n) : (a ++ b).set (n + i) x = a ++ b.set i x := by
  rw [List.set_append_right _ _ (by omega), h]
  congr 2
  omega
theorem nums_set (l : List Int) (i : Nat) (x : Int) : (nums .i64 l).set i (.int .i64 x) = nums .i64 (l.set i x) := by simp [nums, List.map_set]
theorem Cod.put (k : Cod w g v0 f m b v4 v5) (i : Nat) (x : Value) : (w.setCell ⟨g, i, none⟩ x).heap[g]? = some (.cells ((codCells v0 f m b v4 v5).set i x).toArray 106 (0, 0)) := by
  rw [setCell_eq_setRow w g i _ _ (0, 0) _ k.blk, setRow_heap w g _ _ _ (0, 0) k.blk]
  simp
theorem Cod.sf (k : Cod w g v0 f m b v4 v5) (n : Nat) (h : n < 17) (x : Int) : Cod (w.setCell ⟨g, 1 + n, none⟩ (.int .i64 x)) g v0 (f.set n x) m b v4 v5 := by
  refine ⟨?_, by rw [List.length_set]; exact k.lf, k.lm, k.lb⟩
  rw [k.put, codCells, Nat.add_comm, List.set_cons_succ, set_app_left _ _ _ _ (by rw [nums_length, k.lf]; exact h), nums_set]
  rfl
theorem Cod.sm (k : Cod w g v0 f m b v4 v5) (n : Nat) (h : n < 17) (x : Int) : Cod (w.setCell ⟨g, 18 + n, none⟩ (.int .i64 x)) g v0 f (m.set n x) b v4 v5 := by
  refine ⟨?_, k.lf, by rw [List.length_set]; exact k.lm, k.lb⟩
  rw [k.put, codCells, show 18 + n = (17 + n) + 1 from by omega, List.set_cons_succ, set_app_at _ _ 17 _ _ (by rw [nums_length, k.lf]), set_app_left _ _ _ _ (by rw [nums_length, k.lm]; exact h), nums_set]
  rfl
theorem Cod.sb (k : Cod w g v0 f m b v4 v5) (n : Nat) (h : n < 17) (x : Int) : Cod (w.setCell ⟨g, 35 + n, none⟩ (.int .i64 x)) g v0 f m (b.set n x) v4 v5 := by
  refine ⟨?_, k.lf, k.lm, by rw [List.length_set]; exact k.lb⟩
  rw [k.put, codCells, show 35 + n = (17 + (17 + n)) + 1 from by omega, List.set_cons_succ, set_app_at _ _ 17 _ _ (by rw [nums_length, k.lf]), set_app_at _ _ 17 _ _ (by rw [nums_length, k.lm]), set_app_left _ _ _ _ (by rw [nums_length, k.lb]; exact h), nums_set]
  rfl
theorem Cod.s4 (k : Cod w g v0 f m b v4 v5) (x : Value) : Cod (w.setCell ⟨g, 52, none⟩ x) g v0 f m b x v5 := by
  refine ⟨?_, k.lf, k.lm, k.lb⟩
  rw [k.put, codCells, show 52 = 51 + 1 from rfl, List.set_cons_succ, set_j _ _ 17 34 51 _ (by rw [nums_length, k.lf]) rfl, set_j _ _ 17 17 34 _ (by rw [nums_length, k.lm]) rfl, set_j _ _ 17 0 17 _ (by rw [nums_length, k.lb]) rfl]
  rfl
theorem Cod.s5 (k : Cod w g v0 f m b v4 v5) (x : Value) : Cod (w.setCell ⟨g, 53, none⟩ x) g v0 f m b v4 x := by
  refine ⟨?_, k.lf, k.lm, k.lb⟩
  rw [k.put, codCells, show 53 = 52 + 1 from rfl, List.set_cons_succ, set_j _ _ 17 35 52 _ (by rw [nums_length, k.lf]) rfl, set_j _ _ 17 18 35 _ (by rw [nums_length, k.lm]) rfl, set_j _ _ 17 1 18 _ (by rw [nums_length, k.lb]) rfl]
  rfl
/-- A store elsewhere. -/
theorem Cod.far (k : Cod w g v0 f m b v4 v5) {row : Option Nat} (h : w.grownBy w1 row) (hne : some g ≠ row) : Cod w1 g v0 f m b v4 v5 := ⟨blk_grown k.blk h hne, k.lf, k.lm, k.lb⟩
end
end Go.Proofs.YtiaiopdiooobiaaDoor.My

/- The walks of huff.Code's count and number. -/
namespace Go.Proofs.YtiaiopdiooobiaaDoor.My
open Go.RowKit Go.Proofs.YtiaiopdiooobiaaDoor.Huf Go.Proofs.YtiaiopdiooobiaaDoorW.PrintWords Go.Proofs.YtiaiopdiooobiaaDoorW.PrintLast Go.Proofs.YtiaiopdiooobiaaDoorW.PrintMore
set_option maxRecDepth 100000
set_option linter.unusedVariables false
set_option linter.unusedSimpArgs false

theorem add_block (ad : Addr) (i : Nat) : (ad.add i).block = ad.block := by unfold Addr.add; split <;> rfl
theorem num_at {w : World} {A : Option Addr} {n : Nat} {t : List Int} (h : (Kd.int .i64).C w A n t) (i : Nat) (hi : i < n) : ∃ ad, A = some ad ∧ w.cell? (ad.add i) = some (.int .i64 (t.getD i 0)) := by
  obtain ⟨ad, e, hc⟩ := Kd.at_int h (i : Int) (by omega) (by omega)
  rw [Int.toNat_natCast] at hc
  exact ⟨ad, e, by simpa [rd] using hc⟩
theorem all_take (L : List Int) (i : Nat) (x : Int) (h : L[i]? = some x) (hb : ¬ (0 ≤ x ∧ x ≤ 15)) : okL L = false := by
  unfold okL
  rw [List.all_eq_false]
  exact ⟨x, List.mem_of_getElem? h, by simpa using hb⟩
theorem all_true (L : List Int) (h : ∀ (i : Nat) (x : Int), L[i]? = some x → 0 ≤ x ∧ x ≤ 15) : okL L = true := by
  unfold okL
  rw [List.all_eq_true]
  intro x hx
  obtain ⟨i, hi⟩ := List.getElem?_of_mem hx
  exact decide_eq_true (h i x hi)
theorem getD_some (L : List Int) (i : Nat) (h : i < L.length) : L[i]? = some (L.getD i 0) := by rw [List.getD_eq_getElem?_getD, List.getElem?_eq_getElem h]; rfl
set_option maxHeartbeats 1000000 in
set_option maxRecDepth 100000 in
theorem count_calls (w : World) (g : Nat) (A : Option Addr) (n c : Nat) (L F B : List Int) (v4 v5 : Value) (k : Cod w g (.slice A n c) F (tab fun _ => 0) B v4 v5) (hL : (Kd.int .i64).C w A n L) (hne : ∀ ad, A = some ad → ad.block ≠ g) (hn : n ≤ 1000000) :
    Calls Tryd.prog 62 #[.pointer (some ⟨g, 0, none⟩)] w fun e w' => e = .returned (.bool (okL L)) ∧ w.grownBy w' (some g) ∧ (okL L = true → Cod w' g (.slice A n c) F (tab fun j => (c0 L j : Int)) B v4 v5) := by
  have c0 := k.c0
  have hl : L.length = n := hL.1
  have h3 : (n : Int) ≤ 1000000 := by omega
  have HL := Aside0.mk hL
  have HK0 := Aside0.mk k
  have HNe := Aside0.mk hne
  have HLn := Aside0.mk hl
  clear k hL hne hl hn
  go_enter Tryd.func62, Tryd.ntmps62
  go_wp2_with fail
  go_loopg [10] n (fun kq v10 wr => ∃ i : Nat, v10 = .int .i64 i ∧ i ≤ n ∧ Aside0 (kq = n - i) ∧ Aside0 (Cod wr g (.slice A n c) F (tab fun j => (cn (L.take i) j : Int)) B v4 v5) ∧ Aside0 (w.grownBy wr (some g)) ∧ Aside0 (∀ j, j < i → 0 ≤ L.getD j 0 ∧ L.getD j 0 ≤ 15))
  case atStart => exact ⟨0, rfl, Nat.zero_le _, ⟨rfl⟩, ⟨by simpa [cn] using HK0.out⟩, ⟨grown_refl _ _⟩, ⟨fun j hj => absurd hj (Nat.not_lt_zero _)⟩⟩
  case round =>
    obtain ⟨i, rfl, hi, HK, HC, HG, HO⟩ := hrel
    by_cases hlt : i < n
    · have hlt' : (i : Int) < (n : Int) := by omega
      obtain ⟨ad, rfl, hci⟩ := num_at HL.out i hlt
      have hci2 : wr.cell? (ad.add i) = some (.int .i64 (L.getD i 0)) := HG.out.cell hci (by rw [add_block]; simpa using fun e => HNe.out ad rfl e)
      have hx := getD_some L i (by rw [HLn.out]; exact hlt)
      generalize hxx : L.getD i 0 = x at hci hci2 hx
      have HX := Aside0.mk hx
      have HXX := Aside0.mk hxx
      clear hx hxx hci
      by_cases hb : 0 ≤ x ∧ x ≤ 15
      · obtain ⟨m, rfl⟩ := Int.eq_ofNat_of_zero_le hb.1
        have hm : (m : Int) ≤ 15 := hb.2
        have cm := HC.out.cm m (by omega)
        rw [tab_get _ m (by omega)] at cm
        have fm := HC.out.fz (18 + m)
        have HS := Aside0.mk (HC.out.sm m (by omega) ((cn (L.take i) m : Int) + 1))
        have HG1 := Aside0.mk (grown_trans HG.out (grown_set wr g (18 + m) (.int .i64 ((cn (L.take i) m : Int) + 1))))
        have hle : (cn (L.take i) m : Int) ≤ 1000000 := by
          have := cn_le (L.take i) m
          have h2 : (L.take i).length ≤ i := by rw [List.length_take]; omega
          omega
        generalize hq : cn (L.take i) m = q at *
        have HQ := Aside0.mk hq
        clear hq
        go_wp2_with fail
        go_region
        all_goals
          go_wp2_with fail
          have e1 : ((i : Int) + 1) = ((i + 1 : Nat) : Int) := by omega
          rw [e1]
          go_roundg (n - (i + 1))
          case measure => have := HK.out; omega
          case rel =>
            refine ⟨i + 1, rfl, by omega, ⟨rfl⟩, ⟨?_⟩, ⟨?_⟩, ⟨?_⟩⟩
            · have := HS.out
              rw [tab_set _ (fun j => (cn (L.take (i + 1)) j : Int)) m _ (by omega) (by rw [cn_take L i m _ HX.out, if_pos rfl, HQ.out]; simp) (fun k hk _ => by rw [cn_take L i k _ HX.out, if_neg (by omega)]; simp)] at this
              first | exact this.drewN 1 | exact this
            · first | exact grown_drewN HG1.out 1 | exact HG1.out
            · intro j hj
              rcases Nat.lt_or_ge j i with h | h
              · exact HO.out j h
              · obtain rfl : j = i := by omega
                rw [HXX.out]; omega
      · have HB := Aside0.mk (all_take L i x HX.out hb)
        rcases Int.lt_or_le x 0 with h0 | h0
        · clear hb
          go_wp2_with fail
          go_ret
          exact ⟨by rw [HB.out]; rfl, HG.out, fun h => by rw [HB.out] at h; cases h⟩
        · have h1 : 15 < x := by omega
          clear hb
          go_wp2_with fail
          go_ret
          exact ⟨by rw [HB.out]; rfl, HG.out, fun h => by rw [HB.out] at h; cases h⟩
    · have hlt' : ¬ (i : Int) < (n : Int) := by omega
      have HOK : Aside0 (okL L = true) := ⟨all_true L (fun j x hx => by
        have hj := (List.getElem?_eq_some_iff.1 hx).1
        have := HO.out j (by rw [HLn.out] at hj; omega)
        rw [List.getD_eq_getElem?_getD, hx] at this
        exact this)⟩
      have cm := HC.out.cm 0 (by omega)
      have fm := HC.out.fz 18
      have HS := Aside0.mk (HC.out.sm 0 (by omega) 0)
      have HG1 := Aside0.mk (grown_trans HG.out (grown_set wr g 18 (.int .i64 0)))
      rw [Nat.add_zero] at cm
      go_wp2_with fail
      go_ret
      refine ⟨by rw [HOK.out]; rfl, HG1.out, fun _ => ?_⟩
      have := HS.out
      rw [tab_set _ (fun j => (Huf.c0 L j : Int)) 0 _ (by omega) (by simp [Huf.c0]) (fun k hk _ => by rw [List.take_of_length_le (by rw [HLn.out]; omega)]; simp [Huf.c0, hk])] at this
      exact this
end Go.Proofs.YtiaiopdiooobiaaDoor.My

/- The walk of huff.Code's number. -/
namespace Go.Proofs.YtiaiopdiooobiaaDoor.My
open Go.RowKit Go.Proofs.YtiaiopdiooobiaaDoor.Huf Go.Proofs.YtiaiopdiooobiaaDoorW.PrintWords Go.Proofs.YtiaiopdiooobiaaDoorW.PrintLast Go.Proofs.YtiaiopdiooobiaaDoorW.PrintMore
set_option maxRecDepth 100000
set_option linter.unusedVariables false
set_option linter.unusedSimpArgs false

/-- The tables up to a length. -/
def upto (h : Nat → Nat) (n : Nat) : List Int := tab fun k => if k < n then (h k : Int) else 0
theorem upto_get (h : Nat → Nat) (n k : Nat) (hk : k < n) (h17 : k < 17) : (upto h n).getD k 0 = (h k : Int) := by unfold upto; rw [tab_get _ k h17, if_pos hk]
theorem upto_set (h : Nat → Nat) (n : Nat) (hn : n < 17) (x : Int) (hx : x = (h n : Int)) : (upto h n).set n x = upto h (n + 1) := by
  unfold upto
  exact tab_set _ _ n x hn (by rw [if_pos (by omega), hx]) (fun k hk _ => by
    by_cases e : k < n
    · rw [if_pos e, if_pos (by omega)]
    · rw [if_neg e, if_neg (by omega)])
theorem two_wrap (m : Nat) (h : m < 15) : wrap64 (2 ^ (m + 1)) = ((2 ^ (m + 1) : Nat) : Int) := by
  have h1 : 2 ^ (m + 1) ≤ 2 ^ 15 := Nat.pow_le_pow_right (by decide) h
  have h2 : (2 : Int) ^ (m + 1) = ((2 ^ (m + 1) : Nat) : Int) := by push_cast; rfl
  rw [h2]
  generalize 2 ^ (m + 1) = q at *
  unfold wrap64
  omega
theorem anyOver_step (L : List Int) (m : Nat) (h : m < 15) : anyOver L (15 - m) (m + 1) = (over L (m + 1) || anyOver L (15 - (m + 1)) (m + 1 + 1)) := by
  obtain ⟨d, e⟩ : ∃ d, 15 - m = d + 1 := ⟨14 - m, by omega⟩
  rw [e, show 15 - (m + 1) = d from by omega]
  rfl
theorem c0_succ (L : List Int) (m : Nat) : c0 L (m + 1) = cn L (m + 1) := by simp [c0]
set_option maxHeartbeats 2000000 in
set_option maxRecDepth 100000 in
theorem number_calls (w : World) (g : Nat) (v0 : Value) (L : List Int) (v4 v5 : Value) (k : Cod w g v0 (upto (fst L) 1) (tab fun j => (c0 L j : Int)) (upto (beg L) 1) v4 v5) (hn : L.length ≤ 1000000) :
    Calls Tryd.prog 63 #[.pointer (some ⟨g, 0, none⟩)] w fun e w' => e = .returned (.int .i64 (numR L)) ∧ w.grownBy w' (some g) ∧ (anyOver L 15 1 = false → Cod w' g v0 (upto (fst L) 16) (tab fun j => (c0 L j : Int)) (upto (beg L) 16) v4 v5) := by
  have HK0 := Aside0.mk k
  have HL := Aside0.mk hn
  clear k hn
  go_enter Tryd.func63, Tryd.ntmps63
  go_wp2_with fail
  go_loopg [3, 4] 15 (fun kq v3 v4' wr => ∃ m : Nat, v3 = .int .i64 (fst L m : Nat) ∧ v4' = .int .i64 ((m : Int) + 1) ∧ m ≤ 15 ∧ Aside0 (kq = 15 - m) ∧ Aside0 (Cod wr g v0 (upto (fst L) (m + 1)) (tab fun j => (c0 L j : Int)) (upto (beg L) (m + 1)) v4 v5) ∧ Aside0 (w.grownBy wr (some g)) ∧ Aside0 (anyOver L (15 - m) (m + 1) = anyOver L 15 1 ∧ ∀ j, 1 ≤ j → j < m + 1 → over L j = false))
  case atStart => exact ⟨0, rfl, rfl, Nat.zero_le _, ⟨rfl⟩, HK0, ⟨grown_refl _ _⟩, ⟨rfl, fun j h1 h2 => by omega⟩⟩
  case round =>
    obtain ⟨m, rfl, rfl, hm, HK, HC, HG, HO⟩ := hrel
    have hle := fst_le L m (fun j h1 h2 => HO.out.2 j h1 (by omega))
    have h2 : 2 ^ m ≤ 2 ^ 15 := Nat.pow_le_pow_right (by decide) hm
    have hc0 := c0_le L m
    have hc1 := c0_le L (m + 1)
    have hbm := beg_le L m
    have hl := HL.out
    have hmul : m * L.length ≤ 15 * 1000000 := Nat.mul_le_mul hm hl
    have b1 : ((fst L m : Nat) : Int) ≤ 32768 := by omega
    have b2 : ((c0 L m : Nat) : Int) ≤ 1000000 := by omega
    have b3 : ((c0 L (m + 1) : Nat) : Int) ≤ 1000000 := by omega
    have b4 : ((beg L m : Nat) : Int) ≤ 15000000 := by omega
    clear hle h2 hc0 hc1 hbm hl hmul
    have cm := HC.out.cm m (by omega)
    rw [tab_get _ m (by omega)] at cm
    by_cases hlt : m < 15
    · have hlt' : (m : Int) < 15 := by omega
      have e1 : ((fst L (m + 1) : Nat) : Int) = (((fst L m : Nat) : Int) + ((c0 L m : Nat) : Int)) * 2 := by rw [fst, Nat.mul_comm]; push_cast; rfl
      have e2 : ((beg L (m + 1) : Nat) : Int) = ((beg L m : Nat) : Int) + ((c0 L m : Nat) : Int) := by rw [beg]; push_cast; rfl
      have k1 := HC.out.sf (m + 1) (by omega) ((((fst L m : Nat) : Int) + ((c0 L m : Nat) : Int)) * 2)
      rw [upto_set (fst L) (m + 1) (by omega) _ e1.symm] at k1
      have k2 := k1.sb (m + 1) (by omega) (((beg L m : Nat) : Int) + ((c0 L m : Nat) : Int))
      rw [upto_set (beg L) (m + 1) (by omega) _ e2.symm] at k2
      have f0 := HC.out.fz (1 + (m + 1))
      have d0 := HC.out.cf (m + 1) (by omega)
      have d1 := k1.cm m (by omega)
      rw [tab_get _ m (by omega)] at d1
      have d2 := k1.cb m (by omega)
      rw [upto_get _ _ m (by omega) (by omega)] at d2
      have d3 := k1.cb (m + 1) (by omega)
      have f3 := k1.fz (35 + (m + 1))
      have d4 := k2.cm (m + 1) (by omega)
      rw [tab_get _ (m + 1) (by omega)] at d4
      have K2 := Aside0.mk k2
      have HG1 := Aside0.mk (grown_trans (grown_trans HG.out (grown_set wr g (1 + (m + 1)) (.int .i64 ((((fst L m : Nat) : Int) + ((c0 L m : Nat) : Int)) * 2)))) (grown_set _ g (35 + (m + 1)) (.int .i64 (((beg L m : Nat) : Int) + ((c0 L m : Nat) : Int)))))
      have HE1 := Aside0.mk e1
      have HE2 := Aside0.mk e2
      clear e1 e2 k1 k2
      have p1 : (0 : Int) ≤ ((fst L m : Nat) : Int) := by omega
      have p2 : (0 : Int) ≤ ((c0 L m : Nat) : Int) := by omega
      have p3 : (0 : Int) ≤ ((c0 L (m + 1) : Nat) : Int) := by omega
      have p4 : (0 : Int) ≤ ((beg L m : Nat) : Int) := by omega
      generalize ((fst L m : Nat) : Int) = X at *
      generalize ((c0 L m : Nat) : Int) = Y at *
      generalize hY2 : ((c0 L (m + 1) : Nat) : Int) = Y2 at *
      have HY2 := Aside0.mk hY2
      clear hY2
      generalize ((beg L m : Nat) : Int) = Z at *
      generalize (upto (fst L) (m + 1)).getD (m + 1) 0 = q1 at *
      generalize (upto (beg L) (m + 1)).getD (m + 1) 0 = q2 at *
      go_wp2_with fail
      go_region
      all_goals (first | go_wp2_with fail | skip)
      all_goals (first | go_region | skip)
      go_wp2_with fail
      · next hov =>
        have HT : Aside0 (numR L = -1) := ⟨by
          have h1 := two_wrap m hlt
          have h2 := HE1.out
          have h3 := HY2.out
          rw [c0_succ] at h3
          rw [h1] at hov
          have h4 : over L (m + 1) = true := decide_eq_true (by omega)
          have h5 := anyOver_step L m hlt
          rw [h4, Bool.true_or, HO.out.1] at h5
          unfold numR
          rw [if_pos h5]⟩
        have HG2 := Aside0.mk (grown_drewN HG1.out 2)
        have HA : Aside0 (anyOver L 15 1 = true) := ⟨by
          have h := HT.out
          unfold numR at h
          split at h
          · assumption
          · next hn => 
            have h1 := two_wrap m hlt
            have h2 := HE1.out
            have h3 := HY2.out
            rw [c0_succ] at h3
            rw [h1] at hov
            have h4 : over L (m + 1) = true := decide_eq_true (by omega)
            have h5 := anyOver_step L m hlt
            rw [h4, Bool.true_or, HO.out.1] at h5
            exact h5⟩
        go_ret
        exact ⟨by rw [HT.out]; rfl, HG2.out, fun h => by rw [HA.out] at h; cases h⟩
      · next hov =>
        have HV : Aside0 (over L (m + 1) = false) := ⟨by
          have h1 := two_wrap m hlt
          have h2 := HE1.out
          have h3 := HY2.out
          rw [c0_succ] at h3
          rw [h1] at hov
          exact decide_eq_false (by omega)⟩
        have e1 : ((m : Int) + 1) = ((m + 1 : Nat) : Int) := by omega
        go_roundg (15 - (m + 1))
        case measure => have := HK.out; omega
        case rel =>
          refine ⟨m + 1, by rw [← HE1.out], by rfl, by omega, ⟨rfl⟩, ⟨K2.out.drewN 2⟩, ⟨grown_drewN HG1.out 2⟩, ⟨?_, ?_⟩⟩
          · have h5 := anyOver_step L m hlt
            rw [HV.out, Bool.false_or] at h5
            rw [← h5]
            exact HO.out.1
          · intro j h1 h2
            rcases Nat.lt_or_ge j (m + 1) with h | h
            · exact HO.out.2 j h1 h
            · obtain rfl : j = m + 1 := by omega
              exact HV.out
    · have e15 : m = 15 := by omega
      subst e15
      have p1 : (0 : Int) ≤ ((fst L 15 : Nat) : Int) := by omega
      have p2 : (0 : Int) ≤ ((c0 L 15 : Nat) : Int) := by omega
      have HA : Aside0 (anyOver L 15 1 = false) := ⟨HO.out.1.symm⟩
      have HN : Aside0 (numR L = 32768 - (((fst L 15 : Nat) : Int) + ((c0 L 15 : Nat) : Int))) := ⟨by unfold numR; rw [if_neg (by rw [HA.out]; decide)]; simp [c0]⟩
      clear hlt hm
      generalize ((fst L 15 : Nat) : Int) = X at *
      generalize ((c0 L 15 : Nat) : Int) = Y at *
      go_wp2_with fail
      go_ret
      exact ⟨by rw [HN.out]; rfl, HG.out, fun _ => HC.out⟩
end Go.Proofs.YtiaiopdiooobiaaDoor.My

/- What sort of a huff.Code does, plainly, and blocks of numbers. -/
namespace Go.Proofs.YtiaiopdiooobiaaDoor.My
open Go.RowKit Go.Proofs.YtiaiopdiooobiaaDoor.Huf Go.Proofs.YtiaiopdiooobiaaDoorW.PrintWords Go.Proofs.YtiaiopdiooobiaaDoorW.PrintLast Go.Proofs.YtiaiopdiooobiaaDoorW.PrintMore
set_option maxRecDepth 100000
set_option linter.unusedVariables false
set_option linter.unusedSimpArgs false

/-- A block of numbers. -/
def IRow (w : World) (b : Nat) (t : TypeId) (xs : List Int) : Prop := w.heap[b]? = some (.cells (nums .i64 xs).toArray t (0, 0))
theorem IRow.cell {w : World} {b : Nat} {t : TypeId} {xs : List Int} (h : IRow w b t xs) (i : Nat) (hi : i < xs.length) : w.cell? ⟨b, i, none⟩ = some (.int .i64 (xs.getD i 0)) := by
  rw [blk_cell h]
  simp only [List.getElem?_toArray]
  exact nums_at xs i hi
theorem IRow.fz {w : World} {b : Nat} {t : TypeId} {xs : List Int} (h : IRow w b t xs) (i : Nat) : w.frozen? ⟨b, i, none⟩ = false := blk_frozen h i
theorem IRow.set {w : World} {b : Nat} {t : TypeId} {xs : List Int} (h : IRow w b t xs) (i : Nat) (x : Int) : IRow (w.setCell ⟨b, i, none⟩ (.int .i64 x)) b t (xs.set i x) := by
  unfold IRow at h ⊢
  rw [blk_set h]
  simp [nums, List.map_set]
theorem IRow.far {w : World} {b : Nat} {t : TypeId} {xs : List Int} (h : IRow w b t xs) {p : Addr} (hp : b ≠ p.block) (u : Value) : IRow (w.setCell p u) b t xs := blk_far h hp u
theorem IRow.drewN {w : World} {b : Nat} {t : TypeId} {xs : List Int} (h : IRow w b t xs) (n : Nat) : IRow (w.drewN n) b t xs := h
theorem IRow.below {w w1 : World} {b : Nat} {t : TypeId} {xs : List Int} (h : IRow w b t xs) (hb : Below w.heap.size w w1) : IRow w1 b t xs := blk_below h hb
theorem IRow.lt {w : World} {b : Nat} {t : TypeId} {xs : List Int} (h : IRow w b t xs) : b < w.heap.size := blk_lt h
theorem IRow.reads {w : World} {b : Nat} {t : TypeId} {xs : List Int} (h : IRow w b t xs) (hm : xs.length ≤ 9223372036854775807) : (Kd.int .i64).C w (some ⟨b, 0, none⟩) xs.length xs := C_block w b .i64 xs t (0, 0) h hm
theorem IRow.made (w : World) (t : TypeId) (m : Nat) : IRow (w.alloc (.cells (madeCells #[.int .i64 0] m) t)) w.heap.size t (List.replicate m 0) := by
  rw [made_nums]
  exact alloc_self _ _
theorem info_i64 : (Tryd.prog.info? 3).map (fun i => (i.zero, i.size, i.bytes)) = some (some (.int .i64 0), 1, 8) := by kernel_rfl
theorem make_ints (n : Nat) (hn : n ≤ 16777216) (W : World) : (Instr.makeSlice 44 (.int .i64 n) (.int .i64 n)).run Tryd.prog W = .ok (.slice (some ⟨W.heap.size, 0, none⟩) n n) (W.alloc (.cells (madeCells #[.int .i64 0] n) 3)) := by
  obtain ⟨i0, hi, hz⟩ := Option.map_eq_some_iff.1 info_i64
  simp only [Prod.mk.injEq] at hz
  have h := run_makeSlice W (P := Tryd.prog) 44 3 i0 (.int .i64 0) Tryd.underlying44 hi hz.1 .i64 .i64 n n (by omega) (by omega) (by rw [hz.2.1]; omega) (by rw [hz.2.2]; omega) (by omega)
  rw [hz.2.1] at h
  simpa [Value.cells] using h
theorem list17 (xs : List Int) (h : xs.length = 17) : nums .i64 xs = [0, 1, 2, 3, 4, 5, 6, 7, 8, 9, 10, 11, 12, 13, 14, 15, 16].map fun i => .int .i64 (xs.getD i 0) := by
  apply List.ext_getElem
  · simp [nums, h]
  · intro i a b
    have hi : i < 17 := by simpa using b
    have : i = 0 ∨ i = 1 ∨ i = 2 ∨ i = 3 ∨ i = 4 ∨ i = 5 ∨ i = 6 ∨ i = 7 ∨ i = 8 ∨ i = 9 ∨ i = 10 ∨ i = 11 ∨ i = 12 ∨ i = 13 ∨ i = 14 ∨ i = 15 ∨ i = 16 := by omega
    rcases this with e | e | e | e | e | e | e | e | e | e | e | e | e | e | e | e | e <;> subst e <;> simp [nums, List.getD_eq_getElem?_getD, h]
/-- Where the next sign of each length goes, behind so many signs. -/
def atL (L : List Int) (i : Nat) : List Int := tab fun k => if k < 16 then ((beg L k + c0 (L.take i) k : Nat) : Int) else 0
def nmL (L : List Int) (i : Nat) : List Int := (List.range L.length).map fun s => if s < i then (code L s : Int) else 0
theorem nmL_len (L : List Int) (i : Nat) : (nmL L i).length = L.length := by simp [nmL]
theorem atL_zero (L : List Int) : upto (beg L) 16 = atL L 0 := tab_eq fun k hk => by
  split
  · simp [c0, cn]
  · rfl
theorem atL_get (L : List Int) (i m : Nat) (h0 : m ≠ 0) (h : m ≤ 15) : (atL L i).getD m 0 = ((beg L m + cn (L.take i) m : Nat) : Int) := by
  unfold atL
  rw [tab_get _ m (by omega), if_pos (by omega)]
  simp [c0, h0]
theorem atL_skip (L : List Int) (i : Nat) (h : L[i]? = some 0) : atL L (i + 1) = atL L i := tab_eq fun k hk => by
  unfold c0
  by_cases e : k = 0
  · simp [e]
  · rw [if_neg e, if_neg e, cn_take L i k _ h, if_neg (show ¬ ((0 : Int) = (k : Int)) by omega)]; rfl
theorem atL_set (L : List Int) (i m : Nat) (h0 : m ≠ 0) (h : m ≤ 15) (hx : L[i]? = some (m : Int)) (y : Int) (hy : y = ((beg L m + cn (L.take i) m : Nat) : Int) + 1) : (atL L i).set m y = atL L (i + 1) := by
  unfold atL
  refine tab_set _ _ m y (by omega) ?_ ?_
  · rw [if_pos (by omega), hy]
    unfold c0
    rw [if_neg h0, cn_take L i m _ hx, if_pos rfl]
    omega
  · intro k hk _
    split
    · unfold c0
      by_cases e : k = 0
      · simp [e]
      · rw [if_neg e, if_neg e, cn_take L i k _ hx, if_neg (by omega)]; rfl
    · rfl
theorem nmL_zero (L : List Int) : List.replicate L.length (0 : Int) = nmL L 0 := by
  apply List.ext_getElem
  · simp [nmL]
  · intro i a b; simp [nmL]
theorem nmL_set (L : List Int) (i : Nat) (h : i < L.length) (y : Int) (hy : y = (code L i : Int)) : (nmL L i).set i y = nmL L (i + 1) := by
  apply List.ext_getElem
  · simp [nmL]
  · intro j a b
    rw [List.getElem_set]
    simp only [nmL, List.getElem_map, List.getElem_range]
    split
    · next e => subst e; rw [if_pos (by omega), hy]
    · next e =>
      by_cases hj : j < i
      · rw [if_pos hj, if_pos (by omega)]
      · rw [if_neg hj, if_neg (by omega)]
theorem nmL_skip (L : List Int) (i : Nat) (h : L[i]? = some 0) : nmL L (i + 1) = nmL L i := by
  have hl := (List.getElem?_eq_some_iff.1 h).1
  rw [← nmL_set L i hl (code L i : Int) rfl]
  have hc : (code L i : Int) = 0 := by
    unfold code
    rw [List.getD_eq_getElem?_getD, h]
    simp
  rw [hc]
  apply List.ext_getElem
  · simp [nmL]
  · intro j a b
    rw [List.getElem_set]
    split
    · next e => subst e; simp [nmL]
    · rfl
theorem nmL_all (L : List Int) : nmL L L.length = (List.range L.length).map fun s => (code L s : Int) := by
  unfold nmL
  apply List.map_congr_left
  intro s hs
  rw [if_pos (List.mem_range.1 hs)]
theorem over_all (L : List Int) : ∀ k n, anyOver L k n = false → ∀ j, n ≤ j → j < n + k → over L j = false
  | 0, n, _, j, h1, h2 => by omega
  | k + 1, n, h, j, h1, h2 => by
    rw [anyOver, Bool.or_eq_false_iff] at h
    rcases Nat.eq_or_lt_of_le h1 with e | e
    · subst e; exact h.1
    · exact over_all L k (n + 1) h.2 j e (by omega)
/-- All signs before this one stand at their places. -/
def Stood (L : List Int) (i : Nat) (S : List Int) : Prop := S.length = beg L 16 ∧ ∀ s, s < i → L.getD s 0 ≠ 0 → S.getD (pos L s) 0 = (s : Int)
theorem stood_skip (L : List Int) (i : Nat) (S : List Int) (h : Stood L i S) (hx : L.getD i 0 = 0) : Stood L (i + 1) S := ⟨h.1, fun s hs h0 => by
  rcases Nat.lt_or_ge s i with e | e
  · exact h.2 s e h0
  · obtain rfl : s = i := by omega
    exact absurd hx h0⟩
theorem pos_eq (L : List Int) (i m : Nat) (hx : L.getD i 0 = (m : Int)) : pos L i = beg L m + cn (L.take i) m := by
  unfold pos
  rw [hx]
  simp
theorem pos_in (L : List Int) (i m : Nat) (hi : i < L.length) (h0 : m ≠ 0) (h : m ≤ 15) (hx : L.getD i 0 = (m : Int)) : beg L m + cn (L.take i) m < beg L 16 := by
  have h1 := pos_lt L i hi m hx h0
  have h2 : beg L (m + 1) = beg L m + cn L m := by rw [beg]; simp [c0, h0]
  obtain ⟨d, e⟩ : ∃ d, 16 = (m + 1) + d := ⟨15 - m, by omega⟩
  have h3 := beg_mono L (m + 1) d
  rw [← e] at h3
  omega
theorem stood_set (L : List Int) (i m : Nat) (S : List Int) (h : Stood L i S) (hok : okL L = true) (hi : i < L.length) (h0 : m ≠ 0) (hm : m ≤ 15) (hx : L.getD i 0 = (m : Int)) :
    Stood L (i + 1) (S.set (beg L m + cn (L.take i) m) (i : Int)) := by
  refine ⟨by rw [List.length_set]; exact h.1, fun s hs hs0 => ?_⟩
  have hp := pos_in L i m hi h0 hm hx
  rcases Nat.lt_or_ge s i with e | e
  · have hs1 : s < L.length := by omega
    have hmem : L.getD s 0 ∈ L := by rw [List.getD_eq_getElem?_getD, List.getElem?_eq_getElem hs1]; exact List.getElem_mem _
    have hb : 0 ≤ L.getD s 0 ∧ L.getD s 0 ≤ 15 := by
      have := List.all_eq_true.1 hok _ hmem
      simpa using this
    obtain ⟨n', hn'⟩ := Int.eq_ofNat_of_zero_le hb.1
    have hne := pos_inj L s i e hi n' m hn' hx (by intro e2; rw [e2] at hn'; exact hs0 hn') h0
    rw [← pos_eq L s n' hn'] at hne
    rw [List.getD_eq_getElem?_getD, List.getElem?_set_ne (by omega), ← List.getD_eq_getElem?_getD]
    exact h.2 s e hs0
  · obtain rfl : s = i := by omega
    rw [pos_eq L s m hx, List.getD_eq_getElem?_getD, List.getElem?_set_self (by rw [h.1]; exact hp)]
    rfl
end Go.Proofs.YtiaiopdiooobiaaDoor.My

/- The walk of huff.Code's sort. -/
namespace Go.Proofs.YtiaiopdiooobiaaDoor.My
open Go.RowKit Go.Proofs.YtiaiopdiooobiaaDoor.Huf Go.Proofs.YtiaiopdiooobiaaDoorW.PrintWords Go.Proofs.YtiaiopdiooobiaaDoorW.PrintLast Go.Proofs.YtiaiopdiooobiaaDoorW.PrintMore
set_option maxRecDepth 100000
set_option linter.unusedVariables false
set_option linter.unusedSimpArgs false

theorem Cod.drew {w : World} {g : Nat} {v0 v4 v5 : Value} {f m b : List Int} (k : Cod w g v0 f m b v4 v5) : Cod w.drew g v0 f m b v4 v5 := k.drewN 1
theorem IRow.drew {w : World} {b : Nat} {t : TypeId} {xs : List Int} (h : IRow w b t xs) : IRow w.drew b t xs := h
theorem Cod.other {w : World} {g : Nat} {v0 v4 v5 : Value} {f m b : List Int} (k : Cod w g v0 f m b v4 v5) {p : Addr} (hp : g ≠ p.block) (u : Value) : Cod (w.setCell p u) g v0 f m b v4 v5 := ⟨blk_far k.blk hp u, k.lf, k.lm, k.lb⟩
theorem grown_new {w w1 : World} {row : Option Nat} (h : w.grownBy w1 row) {p : Addr} (hp : w.heap.size ≤ p.block) (u : Value) : w.grownBy (w1.setCell p u) row :=
  ⟨h.os, h.tape, h.output, by have := h.size; simpa [World.setCell] using this, fun i hi hr => (Below.heap_setCell w1 p u i (by omega)).trans (h.block i hi hr)⟩
set_option maxHeartbeats 2000000 in
set_option maxRecDepth 100000 in
theorem sort_calls (w : World) (g : Nat) (A : Option Addr) (n c : Nat) (L : List Int) (v4 v5 : Value) (k : Cod w g (.slice A n c) (upto (fst L) 16) (tab fun j => (c0 L j : Int)) (upto (beg L) 16) v4 v5) (hL : (Kd.int .i64).C w A n L) (hne : ∀ ad, A = some ad → ad.block ≠ g) (hn : n ≤ 1000000) (hok : okL L = true) (hover : anyOver L 15 1 = false) :
    Calls Tryd.prog 64 #[.pointer (some ⟨g, 0, none⟩)] w fun e w' => e = .returned (.tuple #[]) ∧ w.grownBy w' (some g) ∧ ∃ b1 b2 S, w.heap.size ≤ b1 ∧ w.heap.size ≤ b2 ∧ b1 ≠ b2 ∧ Cod w' g (.slice A n c) (upto (fst L) 16) (tab fun j => (c0 L j : Int)) (upto (beg L) 16) (.slice (some ⟨b1, 0, none⟩) (beg L 16) (beg L 16)) (.slice (some ⟨b2, 0, none⟩) n n) ∧ IRow w' b1 3 S ∧ Stood L n S ∧ IRow w' b2 3 (nmL L n) := by
  have hl : L.length = n := hL.1
  have cb15 : w.cell? ⟨g, 50, none⟩ = some (.int .i64 ((upto (beg L) 16).getD 15 0)) := k.cb 15 (by omega)
  rw [upto_get _ _ 15 (by omega) (by omega)] at cb15
  have cm15 := k.cm 15 (by omega)
  rw [tab_get _ 15 (by omega)] at cm15
  have y0 : w.cell? ⟨g, 35, none⟩ = some (.int .i64 ((upto (beg L) 16).getD 0 0)) := k.cb 0 (by omega)
  have y1 : w.cell? ⟨g, 36, none⟩ = some (.int .i64 ((upto (beg L) 16).getD 1 0)) := k.cb 1 (by omega)
  have y2 : w.cell? ⟨g, 37, none⟩ = some (.int .i64 ((upto (beg L) 16).getD 2 0)) := k.cb 2 (by omega)
  have y3 : w.cell? ⟨g, 38, none⟩ = some (.int .i64 ((upto (beg L) 16).getD 3 0)) := k.cb 3 (by omega)
  have y4 : w.cell? ⟨g, 39, none⟩ = some (.int .i64 ((upto (beg L) 16).getD 4 0)) := k.cb 4 (by omega)
  have y5 : w.cell? ⟨g, 40, none⟩ = some (.int .i64 ((upto (beg L) 16).getD 5 0)) := k.cb 5 (by omega)
  have y6 : w.cell? ⟨g, 41, none⟩ = some (.int .i64 ((upto (beg L) 16).getD 6 0)) := k.cb 6 (by omega)
  have y7 : w.cell? ⟨g, 42, none⟩ = some (.int .i64 ((upto (beg L) 16).getD 7 0)) := k.cb 7 (by omega)
  have y8 : w.cell? ⟨g, 43, none⟩ = some (.int .i64 ((upto (beg L) 16).getD 8 0)) := k.cb 8 (by omega)
  have y9 : w.cell? ⟨g, 44, none⟩ = some (.int .i64 ((upto (beg L) 16).getD 9 0)) := k.cb 9 (by omega)
  have y10 : w.cell? ⟨g, 45, none⟩ = some (.int .i64 ((upto (beg L) 16).getD 10 0)) := k.cb 10 (by omega)
  have y11 : w.cell? ⟨g, 46, none⟩ = some (.int .i64 ((upto (beg L) 16).getD 11 0)) := k.cb 11 (by omega)
  have y12 : w.cell? ⟨g, 47, none⟩ = some (.int .i64 ((upto (beg L) 16).getD 12 0)) := k.cb 12 (by omega)
  have y13 : w.cell? ⟨g, 48, none⟩ = some (.int .i64 ((upto (beg L) 16).getD 13 0)) := k.cb 13 (by omega)
  have y14 : w.cell? ⟨g, 49, none⟩ = some (.int .i64 ((upto (beg L) 16).getD 14 0)) := k.cb 14 (by omega)
  have y16 : w.cell? ⟨g, 51, none⟩ = some (.int .i64 ((upto (beg L) 16).getD 16 0)) := k.cb 16 (by omega)
  have b1 : ((beg L 15 : Nat) : Int) ≤ 1000000 := by have := beg_all L hok 15; omega
  have b2 : ((Huf.c0 L 15 : Nat) : Int) ≤ 1000000 := by have := c0_le L 15; omega
  have h3 : (n : Int) ≤ 1000000 := by omega
  have HK0 := Aside0.mk k
  have HL := Aside0.mk hL
  have HNe := Aside0.mk hne
  have HLn := Aside0.mk hl
  have HOk := Aside0.mk hok
  have HOv := Aside0.mk hover
  clear k hL hne hl hn hok hover
  have p1 : (0 : Int) ≤ ((beg L 15 : Nat) : Int) := by omega
  have p2 : (0 : Int) ≤ ((Huf.c0 L 15 : Nat) : Int) := by omega
  generalize hX : beg L 15 = X at *
  generalize hY : Huf.c0 L 15 = Y at *
  have HX := Aside0.mk hX
  have HY := Aside0.mk hY
  clear hX hY
  generalize hz0 : (upto (beg L) 16).getD 0 0 = z0 at y0
  generalize hz1 : (upto (beg L) 16).getD 1 0 = z1 at y1
  generalize hz2 : (upto (beg L) 16).getD 2 0 = z2 at y2
  generalize hz3 : (upto (beg L) 16).getD 3 0 = z3 at y3
  generalize hz4 : (upto (beg L) 16).getD 4 0 = z4 at y4
  generalize hz5 : (upto (beg L) 16).getD 5 0 = z5 at y5
  generalize hz6 : (upto (beg L) 16).getD 6 0 = z6 at y6
  generalize hz7 : (upto (beg L) 16).getD 7 0 = z7 at y7
  generalize hz8 : (upto (beg L) 16).getD 8 0 = z8 at y8
  generalize hz9 : (upto (beg L) 16).getD 9 0 = z9 at y9
  generalize hz10 : (upto (beg L) 16).getD 10 0 = z10 at y10
  generalize hz11 : (upto (beg L) 16).getD 11 0 = z11 at y11
  generalize hz12 : (upto (beg L) 16).getD 12 0 = z12 at y12
  generalize hz13 : (upto (beg L) 16).getD 13 0 = z13 at y13
  generalize hz14 : (upto (beg L) 16).getD 14 0 = z14 at y14
  generalize hz16 : (upto (beg L) 16).getD 16 0 = z16 at y16
  have HZ := Aside0.mk (show (upto (beg L) 16).getD 0 0 = z0 ∧ (upto (beg L) 16).getD 1 0 = z1 ∧ (upto (beg L) 16).getD 2 0 = z2 ∧ (upto (beg L) 16).getD 3 0 = z3 ∧ (upto (beg L) 16).getD 4 0 = z4 ∧ (upto (beg L) 16).getD 5 0 = z5 ∧ (upto (beg L) 16).getD 6 0 = z6 ∧ (upto (beg L) 16).getD 7 0 = z7 ∧ (upto (beg L) 16).getD 8 0 = z8 ∧ (upto (beg L) 16).getD 9 0 = z9 ∧ (upto (beg L) 16).getD 10 0 = z10 ∧ (upto (beg L) 16).getD 11 0 = z11 ∧ (upto (beg L) 16).getD 12 0 = z12 ∧ (upto (beg L) 16).getD 13 0 = z13 ∧ (upto (beg L) 16).getD 14 0 = z14 ∧ (upto (beg L) 16).getD 16 0 = z16 from ⟨hz0, hz1, hz2, hz3, hz4, hz5, hz6, hz7, hz8, hz9, hz10, hz11, hz12, hz13, hz14, hz16⟩)
  clear hz0 hz1 hz2 hz3 hz4 hz5 hz6 hz7 hz8 hz9 hz10 hz11 hz12 hz13 hz14 hz16
  go_enter Tryd.func64, Tryd.ntmps64
  go_upto_region 0 with fail
  go_cut [2] from 5 to 9 (fun v2 wx => v2 = .pointer (some ⟨w.heap.size, 0, none⟩) ∧ Aside0 (IRow wx w.heap.size 104 (upto (beg L) 16)) ∧ Aside0 (Below w.heap.size w wx))
  case first =>
    go_wp2_with fail
    go_meet
    case rel =>
      refine ⟨rfl, ⟨?_⟩, ⟨below_alloc (Below.refl _ _) _⟩⟩
      unfold IRow
      rw [list17 (upto (beg L) 16) (tab_len _), alloc_self]
      obtain ⟨h0, h1, h2, h3, h4, h5, h6, h7, h8, h9, h10, h11, h12, h13, h14, h16⟩ := HZ.out
      have h15 : (upto (beg L) 16).getD 15 0 = (X : Int) := by rw [upto_get _ _ 15 (by omega) (by omega), HX.out]
      simp only [List.map_cons, List.map_nil, h0, h1, h2, h3, h4, h5, h6, h7, h8, h9, h10, h11, h12, h13, h14, h15, h16]
  case rest =>
  obtain ⟨rfl, HR, HB⟩ := hcut
  have k1 := HK0.out.below HB.out
  have HK1 := Aside0.mk k1
  clear cb15 cm15
  have cb15 : wc.cell? ⟨g, 50, none⟩ = some (.int .i64 ((upto (beg L) 16).getD 15 0)) := k1.cb 15 (by omega)
  rw [upto_get _ _ 15 (by omega) (by omega), HX.out] at cb15
  have cm15 : wc.cell? ⟨g, 33, none⟩ = some (.int .i64 ((tab fun j => (Huf.c0 L j : Int)).getD 15 0)) := k1.cm 15 (by omega)
  rw [tab_get _ 15 (by omega), HY.out] at cm15
  have kA := k1.below (below_alloc (Below.refl _ _) (.cells (madeCells #[.int .i64 0] (X + Y)) 3))
  have f4 := kA.fz 52
  have c4 := kA.c4
  have HA := Aside0.mk kA
  clear k1 kA
  have mk1 : ∀ W : World, (Instr.makeSlice 44 (.int .i64 ((X : Int) + (Y : Int))) (.int .i64 ((X : Int) + (Y : Int)))).run Tryd.prog W = .ok (.slice (some ⟨W.heap.size, 0, none⟩) (X + Y) (X + Y)) (W.alloc (.cells (madeCells #[.int .i64 0] (X + Y)) 3)) := fun W => by
    have := make_ints (X + Y) (by omega) W
    rw [show ((X + Y : Nat) : Int) = (X : Int) + (Y : Int) by omega] at this
    exact this
  clear y0 y1 y2 y3 y4 y5 y6 y7 y8 y9 y10 y11 y12 y13 y14 y16 HZ
  go_wp2_with fail
  go_region
  have kB := (HA.out.s4 (.slice (some ⟨wc.heap.size, 0, none⟩) (X + Y) (X + Y))).drew
  have rB : IRow ((wc.alloc (.cells (madeCells #[.int .i64 0] (X + Y)) 3)).setCell ⟨g, 52, none⟩ (.slice (some ⟨wc.heap.size, 0, none⟩) (X + Y) (X + Y))).drew wc.heap.size 3 (List.replicate (X + Y) 0) := ((IRow.made wc _ (X + Y)).far (by have := HK1.out.lt; show wc.heap.size ≠ g; omega) _).drewN 1
  have rA : IRow ((wc.alloc (.cells (madeCells #[.int .i64 0] (X + Y)) 3)).setCell ⟨g, 52, none⟩ (.slice (some ⟨wc.heap.size, 0, none⟩) (X + Y) (X + Y))).drew w.heap.size 104 (upto (beg L) 16) := ((HR.out.below (below_alloc (Below.refl _ _) _)).far (by have := HK0.out.lt; show w.heap.size ≠ g; omega) _).drewN 1
  have gB : w.grownBy ((wc.alloc (.cells (madeCells #[.int .i64 0] (X + Y)) 3)).setCell ⟨g, 52, none⟩ (.slice (some ⟨wc.heap.size, 0, none⟩) (X + Y) (X + Y))).drew (some g) := grown_drew (grown_trans (grown_below (below_alloc HB.out _) _) (grown_set _ _ _ _))
  generalize ((wc.alloc (.cells (madeCells #[.int .i64 0] (X + Y)) 3)).setCell ⟨g, 52, none⟩ (.slice (some ⟨wc.heap.size, 0, none⟩) (X + Y) (X + Y))).drew = w2 at *
  have h1a : wc.heap.size < w2.heap.size := rB.lt
  have h1b : w.heap.size < wc.heap.size := HR.out.lt
  have h1c : g < w.heap.size := HK0.out.lt
  have c0 := kB.c0
  have kC := kB.below (below_alloc (Below.refl _ _) (.cells (madeCells #[.int .i64 0] n) 3))
  have f5 := kC.fz 53
  have c5 := kC.c5
  have kD := kC.s5 (.slice (some ⟨w2.heap.size, 0, none⟩) n n)
  have c0D := kD.c0
  have rC := (IRow.made w2 3 n).far (p := ⟨g, 53, none⟩) (by show w2.heap.size ≠ g; omega) (.slice (some ⟨w2.heap.size, 0, none⟩) n n)
  have rD := (rB.below (below_alloc (Below.refl _ _) (.cells (madeCells #[.int .i64 0] n) 3))).far (p := ⟨g, 53, none⟩) (by show wc.heap.size ≠ g; omega) (.slice (some ⟨w2.heap.size, 0, none⟩) n n)
  have rE := (rA.below (below_alloc (Below.refl _ _) (.cells (madeCells #[.int .i64 0] n) 3))).far (p := ⟨g, 53, none⟩) (by show w.heap.size ≠ g; omega) (.slice (some ⟨w2.heap.size, 0, none⟩) n n)
  have gC := grown_trans (grown_trans gB (grown_below (below_alloc (Below.refl _ _) (.cells (madeCells #[.int .i64 0] n) 3)) (some g))) (grown_set _ g 53 (.slice (some ⟨w2.heap.size, 0, none⟩) n n))
  have mk2 : ∀ W : World, (Instr.makeSlice 44 (.int .i64 n) (.int .i64 n)).run Tryd.prog W = .ok (.slice (some ⟨W.heap.size, 0, none⟩) n n) (W.alloc (.cells (madeCells #[.int .i64 0] n) 3)) := fun W => make_ints n (by omega) W
  have KD := Aside0.mk kD
  have RC := Aside0.mk rC
  have RD := Aside0.mk rD
  have RE := Aside0.mk rE
  have GC := Aside0.mk gC
  clear kB kC kD rB rA rC rD rE gB gC HA HR HB HK1 mk1 f4 c4 cb15 cm15
  go_wp2_with fail
  clear c0 c0D f5 c5 mk2
  have HXY : Aside0 (X + Y = beg L 16) := ⟨by rw [beg, HX.out, HY.out]⟩
  have HT3 : Aside0 (X + Y ≤ 2000000) := ⟨by omega⟩
  clear b1 b2 p1 p2 HX HY
  generalize X + Y = T at *
  generalize (X : Int) = x1 at *
  generalize (Y : Int) = y1 at *
  generalize hb2 : w2.heap.size = b2 at *
  generalize hb1 : wc.heap.size = b1 at *
  generalize hba : w.heap.size = ba at *
  have HBA := Aside0.mk hba
  clear hba
  go_loopg [38] n (fun kq v38 wr => ∃ i : Nat, v38 = .int .i64 i ∧ i ≤ n ∧ Aside0 (kq = n - i) ∧ Aside0 (Cod wr g (.slice A n c) (upto (fst L) 16) (tab fun j => (Huf.c0 L j : Int)) (upto (beg L) 16) (.slice (some ⟨b1, 0, none⟩) T T) (.slice (some ⟨b2, 0, none⟩) n n)) ∧ Aside0 (IRow wr ba 104 (atL L i)) ∧ Aside0 (IRow wr b2 3 (nmL L i)) ∧ Aside0 (∃ S, IRow wr b1 3 S ∧ Stood L i S) ∧ Aside0 (w.grownBy wr (some g)))
  case atStart =>
    refine ⟨0, rfl, Nat.zero_le _, ⟨rfl⟩, KD, ⟨by rw [← atL_zero]; exact RE.out⟩, ⟨by rw [← nmL_zero, HLn.out]; exact RC.out⟩, ⟨_, RD.out, by rw [List.length_replicate]; exact HXY.out, fun s hs => absurd hs (Nat.not_lt_zero _)⟩, GC⟩
  case round =>
    obtain ⟨i, rfl, hi, HK, HC, HA, HN, HS, HG⟩ := hrel
    by_cases hlt : i < n
    · have hlt' : (i : Int) < (n : Int) := by omega
      obtain ⟨ad, rfl, hci⟩ := num_at HL.out i hlt
      have hci2 : wr.cell? (ad.add i) = some (.int .i64 (L.getD i 0)) := HG.out.cell hci (by rw [add_block]; simpa using fun e => HNe.out ad rfl e)
      have hx := getD_some L i (by rw [HLn.out]; exact hlt)
      have hb : 0 ≤ L.getD i 0 ∧ L.getD i 0 ≤ 15 := by
        have := List.all_eq_true.1 HOk.out _ (List.mem_of_getElem? hx)
        simpa using this
      generalize hxx : L.getD i 0 = x at hci hci2 hx hb
      have HX2 := Aside0.mk hx
      have HXX := Aside0.mk hxx
      obtain ⟨m, rfl⟩ := Int.eq_ofNat_of_zero_le hb.1
      have hm : (m : Int) ≤ 15 := hb.2
      clear hx hxx hci hb
      by_cases hm0 : m = 0
      · subst hm0
        go_wp2_with fail
        have e1 : ((i : Int) + 1) = ((i + 1 : Nat) : Int) := by omega
        rw [e1]
        go_roundg (n - (i + 1))
        case measure => have := HK.out; omega
        case rel =>
          refine ⟨i + 1, rfl, by omega, ⟨rfl⟩, HC, ⟨by rw [atL_skip L i HX2.out]; exact HA.out⟩, ⟨by rw [nmL_skip L i HX2.out]; exact HN.out⟩, ⟨?_⟩, HG⟩
          obtain ⟨S, hS1, hS2⟩ := HS.out
          exact ⟨S, hS1, stood_skip L i S hS2 HXX.out⟩
      · obtain ⟨S, hS1, hS2⟩ := HS.out
        have hm15 : m ≤ 15 := by omega
        have hp := pos_in L i m (by rw [HLn.out]; exact hlt) hm0 hm15 HXX.out
        have hs2 := stood_set L i m S hS2 HOk.out (by rw [HLn.out]; exact hlt) hm0 hm15 HXX.out
        have hs1 := hS2.1
        have hpe : (atL L i).getD m 0 = ((beg L m + cn (L.take i) m : Nat) : Int) := atL_get L i m hm0 hm15
        have hpos := pos_eq L i m HXX.out
        have hcd : (code L i : Int) = ((fst L m : Nat) : Int) + ((cn (L.take i) m : Nat) : Int) := by
          unfold code; rw [HXX.out]; simp [hm0]
        have hov := over_all L 15 1 HOv.out
        have hF := fst_le L m (fun j h1 h2 => hov j h1 (by omega))
        have h215 : 2 ^ m ≤ 2 ^ 15 := Nat.pow_le_pow_right (by decide) hm15
        have hbl := beg_all L HOk.out m
        have hcl : cn (L.take i) m ≤ n := by have := cn_take_le L i m; have := cn_le L m; have := HLn.out; omega
        have hF2 : ((fst L m : Nat) : Int) ≤ 32768 := by omega
        have hB2 : ((beg L m : Nat) : Int) ≤ 1000000 := by have := HLn.out; omega
        have hC2 : ((cn (L.take i) m : Nat) : Int) ≤ 1000000 := by omega
        have hT2 : ((beg L 16 : Nat) : Int) ≤ 2000000 := by have := HXY.out; have := HT3.out; omega
        have c52 := HC.out.c4
        have a1 := HA.out.cell m (by simp [atL, tab]; omega)
        rw [hpe] at a1
        have s1 := hS1.cell (beg L m + cn (L.take i) m) (by rw [hs1]; exact hp)
        have f1 := hS1.fz (beg L m + cn (L.take i) m)
        have HS2 := Aside0.mk hs2
        have HCD := Aside0.mk hcd
        have hPB : ((beg L m + cn (L.take i) m : Nat) : Int) = ((beg L m : Nat) : Int) + ((cn (L.take i) m : Nat) : Int) := by omega
        have HPB := Aside0.mk hPB
        have hPT : ((beg L m + cn (L.take i) m : Nat) : Int) < (T : Int) := by have := HXY.out; omega
        have hT3 : (T : Int) ≤ 2000000 := by have := HT3.out; omega
        have k1 := HC.out.other (p := ⟨b1, beg L m + cn (L.take i) m, none⟩) (by show g ≠ b1; omega) (.int .i64 i)
        have r1a := HA.out.far (p := ⟨b1, beg L m + cn (L.take i) m, none⟩) (by show ba ≠ b1; omega) (.int .i64 i)
        have r1n := HN.out.far (p := ⟨b1, beg L m + cn (L.take i) m, none⟩) (by show b2 ≠ b1; omega) (.int .i64 i)
        have r1s := hS1.set (beg L m + cn (L.take i) m) i
        have g1 := grown_new HG.out (p := ⟨b1, beg L m + cn (L.take i) m, none⟩) (by show w.heap.size ≤ b1; have := HBA.out; omega) (.int .i64 i)
        have HA0 := Aside0.mk (atL_set L i m hm0 hm15 HX2.out (((beg L m + cn (L.take i) m : Nat) : Int) + 1) rfl)
        clear hS1 hS2 hs1 hs2 hpos hcd hF h215 hbl hcl hT2 hPB hp hpe hov HS
        generalize hP : beg L m + cn (L.take i) m = P at *
        clear hP
        generalize hFF : fst L m = F at *
        generalize hBB : beg L m = Bm at *
        have HFF := Aside0.mk hFF
        have HBB := Aside0.mk hBB
        clear hFF hBB
        generalize cn (L.take i) m = q at *
        have c53 := k1.c5
        have cf := k1.cf m (by omega)
        rw [upto_get _ _ m (by omega) (by omega), HFF.out] at cf
        have cb := k1.cb m (by omega)
        rw [upto_get _ _ m (by omega) (by omega), HBB.out] at cb
        have a2 := r1a.cell m (by simp [atL, tab]; omega)
        have hpe2 : (atL L i).getD m 0 = (P : Int) := by
          have h1 := HA.out.cell m (by simp [atL, tab]; omega)
          rw [a1] at h1
          injection h1 with h1
          injection h1 with _ h1
          exact h1.symm
        rw [hpe2] at a2
        have n2 := r1n.cell i (by rw [nmL_len, HLn.out]; exact hlt)
        have f2 := r1n.fz i
        have r2n := r1n.set i ((F : Int) + (P : Int) - (Bm : Int))
        have r2a := r1a.far (p := ⟨b2, i, none⟩) (by show ba ≠ b2; omega) (.int .i64 ((F : Int) + (P : Int) - (Bm : Int)))
        have r2s := r1s.far (p := ⟨b2, i, none⟩) (by show b1 ≠ b2; omega) (.int .i64 ((F : Int) + (P : Int) - (Bm : Int)))
        have k2 := k1.other (p := ⟨b2, i, none⟩) (by show g ≠ b2; omega) (.int .i64 ((F : Int) + (P : Int) - (Bm : Int)))
        have g2 := grown_new g1 (p := ⟨b2, i, none⟩) (by show w.heap.size ≤ b2; have := HBA.out; omega) (.int .i64 ((F : Int) + (P : Int) - (Bm : Int)))
        have a3 := r2a.cell m (by simp [atL, tab]; omega)
        rw [hpe2] at a3
        have f3 := r2a.fz m
        have r3a := r2a.set m ((P : Int) + 1)
        have r3n := r2n.far (p := ⟨ba, m, none⟩) (by show b2 ≠ ba; omega) (.int .i64 ((P : Int) + 1))
        have r3s := r2s.far (p := ⟨ba, m, none⟩) (by show b1 ≠ ba; omega) (.int .i64 ((P : Int) + 1))
        have k3 := k2.other (p := ⟨ba, m, none⟩) (by show g ≠ ba; omega) (.int .i64 ((P : Int) + 1))
        have g3 := grown_new g2 (p := ⟨ba, m, none⟩) (by show w.heap.size ≤ ba; have := HBA.out; omega) (.int .i64 ((P : Int) + 1))
        have RA3 := Aside0.mk r3a
        have RN3 := Aside0.mk r3n
        have RS3 := Aside0.mk r3s
        have KK3 := Aside0.mk k3
        have GG3 := Aside0.mk g3
        have HPE := Aside0.mk hpe2
        clear r1a r1n r1s r2a r2n r2s r3a r3n r3s k1 k2 k3 g1 g2 g3 hpe2
        generalize hnn : (nmL L i).getD i 0 = nn at *
        clear hnn
        generalize hss : S.getD P 0 = ss at *
        clear hss
        have p1 : (0 : Int) ≤ (F : Int) := by omega
        have p2 : (0 : Int) ≤ (P : Int) := by omega
        have p3 : (0 : Int) ≤ (Bm : Int) := by omega
        go_wp2_with fail
        go_region
        go_wp2_with fail
        go_region
        go_wp2_with fail
        have e1 : ((i : Int) + 1) = ((i + 1 : Nat) : Int) := by omega
        rw [e1]
        go_roundg (n - (i + 1))
        case measure => have := HK.out; omega
        case rel =>
          refine ⟨i + 1, rfl, by omega, ⟨rfl⟩, ⟨KK3.out.drewN 2⟩, ⟨?_⟩, ⟨?_⟩, ⟨_, RS3.out.drewN 2, HS2.out⟩, ⟨grown_drewN GG3.out 2⟩⟩
          · have := RA3.out
            rw [HA0.out] at this
            exact this.drewN 2
          · have := RN3.out
            rw [nmL_set L i (by rw [HLn.out]; exact hlt) _ (by rw [HCD.out, HPB.out]; omega)] at this
            exact this.drewN 2
    · have hin : i = n := by omega
      subst hin
      go_wp2_with fail
      refine bodyPost_end (results_none rfl _ _ _) rfl ?_
      obtain ⟨S, hS1, hS2⟩ := HS.out
      have := HC.out
      rw [HXY.out] at this
      exact ⟨rfl, HG.out, b1, b2, S, by have := HBA.out; omega, by have := HBA.out; omega, by omega, this, hS1, hS2, HN.out⟩
end Go.Proofs.YtiaiopdiooobiaaDoor.My

/- The walk of slices.Clone of numbers. -/
namespace Go.Proofs.YtiaiopdiooobiaaDoor.My
open Go.RowKit Go.Proofs.YtiaiopdiooobiaaDoor.Huf Go.Proofs.YtiaiopdiooobiaaDoorW.PrintWords Go.Proofs.YtiaiopdiooobiaaDoorW.PrintLast Go.Proofs.YtiaiopdiooobiaaDoorW.PrintMore
set_option maxRecDepth 100000

theorem cloneI_calls (A : Option Addr) (n c : Nat) (xs : List Int) (w : World) (hx : (Kd.int .i64).C w A n xs) (hn : n ≤ 17592186044416) (hl : xs.length = n) (hcap : A = none → n = 0 ∧ c = 0) :
    Calls Tryd.prog 61 #[.slice A n c] w fun e w' => ∃ v', e = .returned v' ∧ w'.ownsRow w.heap.size 3 1 v' xs.length (nums .i64 xs) ∧ Below w.heap.size w w' := by
  cases A with
  | none =>
    obtain ⟨rfl, rfl⟩ := hcap rfl
    have : xs = [] := List.eq_nil_of_length_eq_zero hl
    subst this
    clear hx hl hcap hn
    have i1 : ∀ w : World, (binOp .eql 44 (.slice none 0 0) (.slice none 0 0)).run Tryd.prog w = .ok (.bool true) w := fun w => by rfl
    go_enter Tryd.func61, Tryd.ntmps61
    go_wp2
    go_ret
    exact ⟨_, rfl, own_nil _ _ _ _, Below.refl _ _⟩
  | some ad =>
    have HX := Aside0.mk hx
    have HL := Aside0.mk hl
    clear hx hcap hl
    have i1 : ∀ w : World, (binOp .eql 44 (.slice (some ad) n c) (.slice none 0 0)).run Tryd.prog w = .ok (.bool false) w := fun w => by rfl
    go_enter Tryd.func61, Tryd.ntmps61
    go_wp2_with ((with_reducible refine gate_dst (N := 7) rfl ?_); refine print_append_row (w0 := w) w.heap.size rfl (.tmp 5) (.tmp 6) 44 3 .i64 8 rfl Tryd.underlying44 info_i64 (by decide) _ [] xs (some ad) _ c rfl rfl (own_lit w w.heap.size 3 .i64 [] (Nat.le_refl _) (by decide)) (reads_of_C (Kd.C_alloc HX.out _)) (below_alloc (Below.refl _ _) _) (by simp) (by simp; omega) ?_; intro v1 w2 ho hb hg hk; clear hg hk; rw [List.nil_append] at ho; have HB2 := Aside0.mk hb; have HO := Aside0.mk ho; clear hb ho)
    go_ret
    exact ⟨_, rfl, HO.out, HB2.out⟩
end Go.Proofs.YtiaiopdiooobiaaDoor.My

/- A huff.Code that is made: its blocks, and that they stay. -/
namespace Go.Proofs.YtiaiopdiooobiaaDoor.My
open Go.RowKit Go.Proofs.YtiaiopdiooobiaaDoor.Huf Go.Proofs.YtiaiopdiooobiaaDoorW.PrintWords Go.Proofs.YtiaiopdiooobiaaDoorW.PrintLast Go.Proofs.YtiaiopdiooobiaaDoorW.PrintMore
set_option maxRecDepth 100000
set_option linter.unusedVariables false
set_option linter.unusedSimpArgs false

/-- Numbers that are read, in blocks from lo up to hi. -/
structure RB (w : World) (lo hi : Nat) (A : Option Addr) (n : Nat) (xs : List Int) : Prop where
  c : (Kd.int .i64).C w A n xs
  b : ∀ ad, A = some ad → lo ≤ ad.block ∧ ad.block < hi
theorem RB.grown {w w1 : World} {lo hi : Nat} {A : Option Addr} {n : Nat} {xs : List Int} (h : RB w lo hi A n xs) {row : Option Nat} (hg : w.grownBy w1 row) (hr : ∀ r, row = some r → r < lo ∨ hi ≤ r) : RB w1 lo hi A n xs := by
  refine ⟨C_of_readsInt ?_, h.b⟩
  obtain ⟨h1, h2, h3⟩ := reads_of_C h.c
  refine ⟨h1, h2, fun hn => ?_⟩
  obtain ⟨ad, e, hc⟩ := h3 hn
  refine ⟨ad, e, fun j hj => ?_⟩
  refine hg.cell (hc j hj) ?_
  rw [add_block]
  intro e2
  have h4 := h.b ad e
  rcases hr _ e2.symm with h5 | h5 <;> omega
theorem RB.mono {w : World} {lo hi lo' hi' : Nat} {A : Option Addr} {n : Nat} {xs : List Int} (h : RB w lo hi A n xs) (h1 : lo' ≤ lo) (h2 : hi ≤ hi') : RB w lo' hi' A n xs := ⟨h.c, fun ad e => by have := h.b ad e; omega⟩
/-- A Code of lengths, at g, all its blocks from lo up to hi. -/
structure CodeAt (w : World) (lo hi g : Nat) (L : List Int) : Prop where mk :: (out : ∃ (A A1 A2 : Option Addr) (c c1 c2 : Nat) (S : List Int), Cod w g (.slice A L.length c) (upto (fst L) 16) (tab fun j => (c0 L j : Int)) (upto (beg L) 16) (.slice A1 (beg L 16) c1) (.slice A2 L.length c2) ∧
  RB w lo hi A L.length L ∧ RB w lo hi A1 (beg L 16) S ∧ RB w lo hi A2 L.length (nmL L L.length) ∧ Stood L L.length S ∧ lo ≤ g ∧ g < hi)
theorem CodeAt.grown {w w1 : World} {lo hi g : Nat} {L : List Int} (h : CodeAt w lo hi g L) {row : Option Nat} (hg : w.grownBy w1 row) (hr : ∀ r, row = some r → r < lo ∨ hi ≤ r) : CodeAt w1 lo hi g L := by
  obtain ⟨A, A1, A2, c, c1, c2, S, k, r0, r1, r2, hS, h1, h2⟩ := h.out
  exact ⟨A, A1, A2, c, c1, c2, S, k.far hg (by intro e; rcases hr g e.symm with h5 | h5 <;> omega), r0.grown hg hr, r1.grown hg hr, r2.grown hg hr, hS, h1, h2⟩
theorem CodeAt.below {w w1 : World} {lo hi g : Nat} {L : List Int} (h : CodeAt w lo hi g L) (hb : Below w.heap.size w w1) : CodeAt w1 lo hi g L :=
  h.grown (grown_below hb none) (fun r e => by cases e)
theorem CodeAt.drewN {w : World} {lo hi g : Nat} {L : List Int} (h : CodeAt w lo hi g L) (n : Nat) : CodeAt (w.drewN n) lo hi g L := h.below (pw_below_drewN (Below.refl _ _) n)

/-- Lengths that make a lone code. -/
def aloneL (L : List Int) : Bool := decide (beg L 16 = 0) || (decide (beg L 16 = 1) && decide (c0 L 1 = 1))
/-- What New refuses lengths for. -/
def newR (L : List Int) (lone : Bool) : Option Int :=
  if 320 < L.length then some 3 else if okL L = false then some 1 else if numR L < 0 then some 14 else if 0 < numR L ∧ ¬ (lone = true ∧ aloneL L = true) then some 2 else none
set_option maxHeartbeats 1000000 in
theorem alone_calls (w : World) (lo hi g : Nat) (L : List Int) (k : CodeAt w lo hi g L) (hl : L.length ≤ 1000000) (hok : okL L = true) :
    Calls Tryd.prog 65 #[.pointer (some ⟨g, 0, none⟩)] w fun e w' => e = .returned (.bool (aloneL L)) ∧ w' = w := by
  obtain ⟨A, A1, A2, c, c1, c2, S, k, r0, r1, r2, hS, h1, h2⟩ := k.out
  have c4 := k.c4
  have cm : w.cell? ⟨g, 19, none⟩ = some (.int .i64 ((tab fun j => (Huf.c0 L j : Int)).getD 1 0)) := k.cm 1 (by omega)
  rw [tab_get _ 1 (by omega)] at cm
  have hb := beg_all L hok 16
  have hal : Aside0 (aloneL L = (decide (beg L 16 = 0) || (decide (beg L 16 = 1) && decide (Huf.c0 L 1 = 1)))) := ⟨rfl⟩
  clear k r0 r1 r2 hS
  have hb2 : ((beg L 16 : Nat) : Int) ≤ 1000000 := by omega
  clear hb
  generalize beg L 16 = T at *
  generalize Huf.c0 L 1 = q at *
  go_enter Tryd.func65, Tryd.ntmps65
  by_cases e0 : T = 0
  · subst e0
    go_wp2_with fail
    go_ret
    exact ⟨by rw [hal.out]; rfl, rfl⟩
  · have e0' : ¬ (T : Int) = 0 := by omega
    have e0'' : ((T : Int) == 0) = false := by simpa using e0'
    by_cases e1 : T = 1
    · subst e1
      go_wp2_with fail
      go_ret
      refine ⟨?_, rfl⟩
      rw [hal.out]
      by_cases e2 : q = 1
      · subst e2; rfl
      · have : ((q : Int) == 1) = false := by simp; omega
        simp [this, e2]
    · have e1' : ((T : Int) == 1) = false := by simp; omega
      go_wp2_with fail
      go_ret
      exact ⟨by rw [hal.out]; simp [e0, e1], rfl⟩
end Go.Proofs.YtiaiopdiooobiaaDoor.My

/- Bits as a number: what a writer holds, what a reader takes. No program in sight. -/
namespace Go.Proofs.YtiaiopdiooobiaaDoor.My
open Go.RowKit
set_option maxRecDepth 100000

/-- The bytes of a number, the lowest one first. -/
def leB (V k : Nat) : List Int := (List.range k).map fun i => ((V / 2 ^ (8 * i) % 256 : Nat) : Int)
@[simp] theorem leB_len (V k : Nat) : (leB V k).length = k := by simp [leB]
theorem leB_succ (V k : Nat) : leB V (k + 1) = leB V k ++ [((V / 2 ^ (8 * k) % 256 : Nat) : Int)] := by simp [leB, List.range_succ]
theorem leB_congr {V V' k : Nat} (h : V % 2 ^ (8 * k) = V' % 2 ^ (8 * k)) : leB V k = leB V' k := by
  have aux : ∀ U i, i < k → U / 2 ^ (8 * i) % 256 = U % 2 ^ (8 * k) / 2 ^ (8 * i) % 256 := by
    intro U i hi
    have e : 2 ^ (8 * k) = 2 ^ (8 * i) * 2 ^ (8 * (k - i)) := by rw [← Nat.pow_add]; congr 1; omega
    rw [e, Nat.mod_mul_right_div_self]
    exact (Nat.mod_mod_of_dvd _ (Nat.pow_dvd_pow (m := 8) 2 (by omega))).symm
  unfold leB
  refine List.map_congr_left fun i hi => ?_
  rw [aux V i (List.mem_range.1 hi), h, ← aux V' i (List.mem_range.1 hi)]
theorem leB_add (V x N k : Nat) (h : 8 * k ≤ N) : leB (V + x * 2 ^ N) k = leB V k := by
  refine leB_congr ?_
  rw [show 2 ^ N = 2 ^ (N - 8 * k) * 2 ^ (8 * k) by rw [← Nat.pow_add]; congr 1; omega, ← Nat.mul_assoc, Nat.add_mul_mod_self_right]
theorem held_add (V x N q : Nat) (h : 8 * q ≤ N) : (V + x * 2 ^ N) / 2 ^ (8 * q) = V / 2 ^ (8 * q) + x * 2 ^ (N - 8 * q) := by
  rw [show 2 ^ N = 2 ^ (N - 8 * q) * 2 ^ (8 * q) by rw [← Nat.pow_add]; congr 1; omega, ← Nat.mul_assoc, Nat.add_mul_div_right _ _ (Nat.two_pow_pos _)]
theorem held_lt {V N : Nat} (h : V < 2 ^ N) (q : Nat) (hq : 8 * q ≤ N) : V / 2 ^ (8 * q) < 2 ^ (N - 8 * q) := by
  rw [Nat.div_lt_iff_lt_mul (Nat.two_pow_pos _), ← Nat.pow_add]
  rwa [show N - 8 * q + 8 * q = N by omega]
theorem held_div (V q : Nat) : V / 2 ^ (8 * q) / 256 = V / 2 ^ (8 * (q + 1)) := by
  rw [Nat.div_div_eq_div_mul, show (256 : Nat) = 2 ^ 8 from rfl, ← Nat.pow_add]
  congr 2
theorem held_end {V N : Nat} (h : V < 2 ^ N) : V < 2 ^ (N + 0) := h
theorem val_lt {V x N n : Nat} (h : V < 2 ^ N) (hx : x < 2 ^ n) : V + x * 2 ^ N < 2 ^ (N + n) := by
  have h1 : (x + 1) * 2 ^ N ≤ 2 ^ n * 2 ^ N := Nat.mul_le_mul_right _ hx
  rw [Nat.pow_add, Nat.mul_comm (2 ^ N) (2 ^ n)]
  rw [Nat.add_mul, Nat.one_mul] at h1
  omega
theorem or_low (h x m : Nat) (hh : h < 2 ^ m) : h ||| x * 2 ^ m = h + x * 2 ^ m := by
  rw [Nat.or_comm, Nat.mul_comm x, ← Nat.two_pow_add_eq_or_of_lt hh]
  omega
theorem or_nat64 (a b : Nat) (ha : a < 2 ^ 64) (hb : b < 2 ^ 64) : Go.bits .or .u64 a b = ((a ||| b : Nat) : Int) := by
  have hl : a ||| b < 2 ^ 64 := Nat.or_lt_two_pow ha hb
  show IntKind.u64.wrap ((BitVec.ofInt 64 (a : Int) ||| BitVec.ofInt 64 (b : Int)).toNat : Int) = _
  rw [BitVec.ofInt_natCast, BitVec.ofInt_natCast, BitVec.toNat_or, BitVec.toNat_ofNat, BitVec.toNat_ofNat, Nat.mod_eq_of_lt ha, Nat.mod_eq_of_lt hb, IntKind.wrap_u64]
  omega
/-- What the writer's first step makes of what it holds. -/
theorem or_put (h x m n : Nat) (hh : h < 2 ^ m) (hx : x < 2 ^ n) (hm : m < 8) (hn : n ≤ 32) :
    Go.bits .or .u64 (h : Int) (IntKind.u64.wrap (IntKind.u64.wrap (x : Int) * 2 ^ m)) = ((h + x * 2 ^ m : Nat) : Int) ∧ h + x * 2 ^ m < 2 ^ 40 := by
  have hl : h + x * 2 ^ m < 2 ^ 40 := Nat.lt_of_lt_of_le (val_lt hh hx) (Nat.pow_le_pow_right (by decide) (by omega))
  have hx2 : x < 2 ^ 32 := Nat.lt_of_lt_of_le hx (Nat.pow_le_pow_right (by decide) hn)
  have e0 : IntKind.u64.wrap (x : Int) = x := by rw [IntKind.wrap_u64]; omega
  have e : ((x : Int) * 2 ^ m) = ((x * 2 ^ m : Nat) : Int) := by simp
  have e1 : IntKind.u64.wrap ((x * 2 ^ m : Nat) : Int) = ((x * 2 ^ m : Nat) : Int) := by rw [IntKind.wrap_u64]; omega
  refine ⟨?_, hl⟩
  rw [e0, e, e1, or_nat64 h (x * 2 ^ m) (by omega) (by omega), or_low h x m hh]

theorem leB_getD (V k j : Nat) (h : j < k) : (leB V k).getD j 0 = ((V / 2 ^ (8 * j) % 256 : Nat) : Int) := by simp [leB, List.getD_eq_getElem?_getD, h]
/-- One more byte ahead of what is held. -/
theorem peek_step (V i m : Nat) : V / 2 ^ (8 * i) % 2 ^ (8 * (m + 1)) = V / 2 ^ (8 * (i + 1)) % 2 ^ (8 * m) * 256 + V / 2 ^ (8 * i) % 256 := by
  rw [← held_div, show 8 * (m + 1) = 8 + 8 * m by omega, Nat.pow_add, Nat.mod_mul, show (2 : Nat) ^ 8 = 256 from rfl, Nat.mul_comm]
  omega
theorem peek_or (h b : Nat) (hh : h < 2 ^ 32) (hb : b < 256) : Go.bits .or .u64 ((h : Int) * 256) (b : Int) = ((h * 256 + b : Nat) : Int) := by
  rw [show (h : Int) * 256 = ((h * 256 : Nat) : Int) by simp, or_nat64 _ _ (by omega) (by omega), Nat.or_comm, show h * 256 = h * 2 ^ 8 from rfl, or_low b h 8 hb]
  congr 1
  omega
theorem and_nat64 (a b : Nat) (ha : a < 2 ^ 64) (hb : b < 2 ^ 64) : Go.bits .and .u64 a b = ((a &&& b : Nat) : Int) := by
  have hl : a &&& b < 2 ^ 64 := Nat.and_lt_two_pow _ hb
  show IntKind.u64.wrap ((BitVec.ofInt 64 (a : Int) &&& BitVec.ofInt 64 (b : Int)).toNat : Int) = _
  rw [BitVec.ofInt_natCast, BitVec.ofInt_natCast, BitVec.toNat_and, BitVec.toNat_ofNat, BitVec.toNat_ofNat, Nat.mod_eq_of_lt ha, Nat.mod_eq_of_lt hb, IntKind.wrap_u64]
  omega
theorem peek_end (V a p r k q : Nat) (ha : a = 8 * p + r) (hk : r + k ≤ 8 * (q - p)) : V / 2 ^ (8 * p) % 2 ^ (8 * (q - p)) / 2 ^ r % 2 ^ k = V / 2 ^ a % 2 ^ k := by
  rw [show 8 * (q - p) = r + (8 * (q - p) - r) by omega, Nat.pow_add, Nat.mod_mul_right_div_self, Nat.div_div_eq_div_mul, ← Nat.pow_add, ← ha]
  exact Nat.mod_mod_of_dvd _ (Nat.pow_dvd_pow 2 (by omega))
theorem peek_mask (h r k : Nat) (hh : h < 2 ^ 64) (hk : k ≤ 32) : Go.bits .and .u64 ((h : Int) / 2 ^ r) ((2 : Int) ^ k - 1) = ((h / 2 ^ r % 2 ^ k : Nat) : Int) := by
  have h1 : (2 : Nat) ^ k ≤ 2 ^ 32 := Nat.pow_le_pow_right (by decide) hk
  have h0 : 0 < (2 : Nat) ^ k := Nat.two_pow_pos _
  have e1 : ((2 : Int) ^ k - 1) = ((2 ^ k - 1 : Nat) : Int) := by rw [Int.natCast_sub h0]; simp
  have e2 : (h : Int) / 2 ^ r = ((h / 2 ^ r : Nat) : Int) := by simp
  rw [e1, e2, and_nat64 _ _ (Nat.lt_of_le_of_lt (Nat.div_le_self _ _) hh) (by omega), Nat.and_two_pow_sub_one_eq_mod]
/-- The number of bytes. -/
def ofB : List Int → Nat
  | [] => 0
  | z :: t => z.toNat + 256 * ofB t
theorem ofB_lt : ∀ l : List Int, (∀ z ∈ l, 0 ≤ z ∧ z < 256) → ofB l < 2 ^ (8 * l.length)
  | [], _ => by simp [ofB]
  | z :: t, h => by
    have h1 := ofB_lt t fun y hy => h y (by simp [hy])
    have h2 := h z (by simp)
    simp only [ofB, List.length_cons]
    rw [show 8 * (t.length + 1) = 8 + 8 * t.length by omega, Nat.pow_add, show (2 : Nat) ^ 8 = 256 from rfl]
    omega
theorem leB_zero (V : Nat) : leB V 0 = [] := rfl
theorem leB_app : ∀ (l : List Int) (V q : Nat), (∀ z ∈ l, 0 ≤ z ∧ z < 256) → V < 2 ^ (8 * q) → leB (V + ofB l * 2 ^ (8 * q)) (q + l.length) = leB V q ++ l
  | [], V, q, _, _ => by simp [ofB]
  | z :: t, V, q, h, hV => by
    have h2 := h z (by simp)
    have hz : V + z.toNat * 2 ^ (8 * q) < 2 ^ (8 * (q + 1)) := by
      have := val_lt (n := 8) (x := z.toNat) hV (by omega)
      rwa [show 8 * q + 8 = 8 * (q + 1) by omega] at this
    have e := leB_app t (V + z.toNat * 2 ^ (8 * q)) (q + 1) (fun y hy => h y (by simp [hy])) hz
    have e1 : V + z.toNat * 2 ^ (8 * q) + ofB t * 2 ^ (8 * (q + 1)) = V + ofB (z :: t) * 2 ^ (8 * q) := by
      simp only [ofB]
      rw [show 8 * (q + 1) = 8 + 8 * q by omega, Nat.pow_add, show (2 : Nat) ^ 8 = 256 from rfl, Nat.add_mul, ← Nat.mul_assoc, Nat.mul_comm (ofB t) 256]
      omega
    rw [e1, show q + 1 + t.length = q + (z :: t).length by simp; omega] at e
    rw [e, leB_succ, leB_add V _ _ _ (Nat.le_refl _)]
    have e2 : (V + z.toNat * 2 ^ (8 * q)) / 2 ^ (8 * q) % 256 = z.toNat := by
      rw [Nat.add_mul_div_right _ _ (Nat.two_pow_pos _), Nat.div_eq_of_lt hV]
      omega
    rw [e2]
    simp
    omega
theorem leB_ofB (l : List Int) (h : ∀ z ∈ l, 0 ≤ z ∧ z < 256) : leB (ofB l) l.length = l := by
  have := leB_app l 0 0 h (by decide)
  simpa [leB_zero] using this
theorem mask_wrap (k : Nat) (hk : k ≤ 32) : IntKind.u64.wrap (IntKind.u64.wrap ((2 : Int) ^ k) - 1) = (2 : Int) ^ k - 1 := by
  have h1 : (2 : Nat) ^ k ≤ 2 ^ 32 := Nat.pow_le_pow_right (by decide) hk
  have h0 : 0 < (2 : Nat) ^ k := Nat.two_pow_pos _
  rw [show (2 : Int) ^ k = ((2 ^ k : Nat) : Int) by simp, IntKind.wrap_u64, IntKind.wrap_u64]
  omega
end Go.Proofs.YtiaiopdiooobiaaDoor.My

/- The walk of slices.Grow of numbers, at nil. -/
namespace Go.Proofs.YtiaiopdiooobiaaDoor.My
open Go.RowKit Go.Lib Go.Proofs.YtiaiopdiooobiaaDoorW.PrintWords Go.Proofs.YtiaiopdiooobiaaDoorW.PrintLast Go.Proofs.YtiaiopdiooobiaaDoorW.PrintMore
set_option maxRecDepth 100000
set_option linter.unusedVariables false
set_option linter.unusedSimpArgs false

set_option maxHeartbeats 2000000 in
theorem grow_calls (w : World) (n : Nat) (h0 : 0 < n) (hn : n ≤ 1000000) :
    Calls Tryd.prog 76 #[.slice none 0 0, .int .i64 n] w fun e w' => ∃ v, e = .returned v ∧ w'.ownsRow w.heap.size 3 1 v 0 (nums .i64 []) ∧ Below w.heap.size w w' := by
  obtain ⟨i0, hi0, hz⟩ := Option.map_eq_some_iff.1 info_i64
  simp only [Prod.mk.injEq] at hz
  have hold : (Builtin.firstCells i0.size 0 (.slice none 0 0)).run Tryd.prog w.drew = .ok ([] : List Value).toArray w.drew := run_firstCells_none w.drew i0.size 0 0 0
  have hrz : ∀ ty, (Builtin.append_ #[44, 3] ty #[.slice none 0 0, .int .i64 (n : Int)]).run Tryd.prog w =
      .ok (.slice (some ⟨w.heap.size, 0, none⟩) n (grownCap w n 0 3)) (w.drew.alloc (.cells (([] : List Value).toArray ++ Builtin.zeroCells (Value.int .i64 0).cells n ++ Builtin.zeroCells (Value.int .i64 0).cells (grownCap w n 0 3 - n)) 3)) := fun ty => by
    have h := Lib.run_append_grow_zeros w 44 3 ty 3 i0 (.int .i64 0) .i64 .i64 Tryd.underlying44 Tryd.underlying3 hi0 hz.1 none 0 0 [] hold n h0 (by rw [hz.2.1]; omega) (by omega) (by omega) (by rw [hz.2.2]; omega)
      (by rw [Nat.zero_add]; exact growslice_fits h0 (by rw [hz.2.2]; omega))
    rw [Nat.zero_add] at h
    exact h
  have hGn : n ≤ grownCap w n 0 3 := grownCap_ge w _ _ _
  have hG63 := grownCap_le_maxLen w n 0 3 (by unfold maxLen; omega)
  obtain ⟨G, hG⟩ : ∃ G, G = grownCap w n 0 3 := ⟨_, rfl⟩
  rw [← hG] at hrz hGn hG63
  have HG1 := Aside0.mk hGn
  have HG2 := Aside0.mk hG63
  have hG64 : G ≤ 9223372036854775807 := by unfold maxLen at hG63; exact hG63
  have hni : (n : Int) ≤ 1000000 := by omega
  have hn0 : (0 : Int) < (n : Int) := by omega
  clear hold hG hz hG63
  go_enter Tryd.func76, Tryd.ntmps76
  go_wp2_with (at_builtin; refine Lib.wpList_append_run _ rfl _ _ _ _ rfl _ _ rfl rfl _ _ (hrz _) ?_)
  all_goals go_ret
  all_goals
    refine ⟨_, rfl, ⟨by simp [nums], .inr ⟨w.heap.size, G, _, rfl, Nat.le_refl _, alloc_self w _, Nat.zero_le _, HG2.out, ?_, by simp [nums]⟩⟩, below_drew (below_alloc (Below.refl _ _) _)⟩
    rw [Array.size_append, size_zeroCells, size_zeroCells]
    have := HG1.out
    show n * 1 + (G - n) * 1 = G * 1
    omega
end Go.Proofs.YtiaiopdiooobiaaDoor.My

/- The walk of slices.Concat of numbers. -/
namespace Go.Proofs.YtiaiopdiooobiaaDoor.My
open Go.RowKit Go.Proofs.YtiaiopdiooobiaaDoorW.PrintWords Go.Proofs.YtiaiopdiooobiaaDoorW.PrintLast Go.Proofs.YtiaiopdiooobiaaDoorW.PrintMore
set_option maxRecDepth 100000
set_option linter.unusedVariables false
set_option linter.unusedSimpArgs false

/-- The first so many of them, behind one another. -/
def cat (xs : List (List Int)) (i : Nat) : List Int := (xs.take i).flatten
theorem cat_succ (xs : List (List Int)) (i : Nat) (h : i < xs.length) : cat xs (i + 1) = cat xs i ++ xs.getD i [] := by
  unfold cat
  rw [List.take_add_one, List.getElem?_eq_getElem h, List.flatten_append, List.getD_eq_getElem?_getD, List.getElem?_eq_getElem h]
  simp
theorem cat_all (xs : List (List Int)) : cat xs xs.length = xs.flatten := by unfold cat; rw [List.take_length]
theorem cat_le (xs : List (List Int)) : ∀ d i, i + d = xs.length → (cat xs i).length ≤ xs.flatten.length
  | 0, i, h => by rw [show i = xs.length by omega, cat_all]; exact Nat.le_refl _
  | d + 1, i, h => by
    have := cat_le xs d (i + 1) (by omega)
    rw [cat_succ xs i (by omega), List.length_append] at this
    omega
set_option maxHeartbeats 4000000 in
set_option maxRecDepth 100000 in
theorem concat_calls (w : World) (gA : Nat) (n : Nat) (xs : List (List Int)) (F : List Int) (hF : xs.flatten = F) (hl : xs.length = n) (hn : n ≤ 1000) (ht : F.length ≤ 100000) (h0 : 0 < F.length)
    (hA : ∀ i, i < n → ∃ A c, w.cell? ⟨gA, i, none⟩ = some (.slice A (xs.getD i []).length c) ∧ (Kd.int .i64).C w A (xs.getD i []).length (xs.getD i [])) :
    Calls Tryd.prog 59 #[.slice (some ⟨gA, 0, none⟩) n n] w fun e w' => ∃ v, e = .returned v ∧ w'.ownsRow w.heap.size 3 1 v F.length (nums .i64 F) ∧ Below w.heap.size w w' := by
  have HG : Aside0 (∀ wx, Calls Tryd.prog 76 #[.slice none 0 0, .int .i64 (F.length : Nat)] wx fun e w' => ∃ v, e = .returned v ∧ w'.ownsRow wx.heap.size 3 1 v 0 (nums .i64 []) ∧ Below wx.heap.size wx w') := ⟨fun wx => grow_calls wx _ h0 (by omega)⟩
  have HA := Aside0.mk hA
  have HL := Aside0.mk hl
  have HT := Aside0.mk ht
  have HF := Aside0.mk hF
  have hni : (n : Int) ≤ 1000 := by omega
  clear hA hl ht h0 hF
  go_enter Tryd.func59, Tryd.ntmps59
  go_wp2_with fail
  go_loopg [3, 11] n (fun kq v3 v11 wr => ∃ i : Nat, v3 = .int .i64 ((cat xs i).length : Nat) ∧ v11 = .int .i64 i ∧ i ≤ n ∧ Aside0 (kq = n - i) ∧ Aside0 (wr = w))
  case atStart => exact ⟨0, rfl, rfl, Nat.zero_le _, ⟨rfl⟩, ⟨rfl⟩⟩
  case round =>
    obtain ⟨i, rfl, rfl, hi, HK, HW⟩ := hrel
    have hw := HW.out.symm
    subst hw
    by_cases hlt : i < n
    · have hlt' : (i : Int) < (n : Int) := by omega
      obtain ⟨A1, c1, hc1, _⟩ := HA.out i hlt
      have hs := cat_succ xs i (by rw [HL.out]; exact hlt)
      have hle := cat_le xs (xs.length - (i + 1)) (i + 1) (by rw [HL.out]; omega)
      have hlen : (cat xs (i + 1)).length = (cat xs i).length + (xs.getD i []).length := by rw [hs, List.length_append]
      have HLen := Aside0.mk hlen
      have b1 : (((cat xs i).length : Nat) : Int) ≤ 100000 := by have h1 := HT.out; rw [← HF.out] at h1; omega
      have b2 : (((xs.getD i []).length : Nat) : Int) ≤ 100000 := by have h1 := HT.out; rw [← HF.out] at h1; omega
      clear hs hle hlen
      generalize (cat xs i).length = a at *
      generalize hm : (xs.getD i []).length = m at *
      clear hm
      go_wp2_with fail
      have e1 : ((i : Int) + 1) = ((i + 1 : Nat) : Int) := by omega
      rw [e1]
      go_roundg (n - (i + 1))
      case measure => have := HK.out; omega
      case rel => exact ⟨i + 1, by rw [HLen.out]; rfl, rfl, hlt, ⟨rfl⟩, ⟨rfl⟩⟩
    · have hin : i = n := by omega
      subst hin
      have hlt' : ¬ (i : Int) < (i : Int) := by omega
      have hca : (cat xs i).length = F.length := by rw [← HL.out, cat_all, HF.out]
      rw [hca]
      have b1 : ((F.length : Nat) : Int) ≤ 100000 := by have := HT.out; omega
      clear hlt hca
      go_wp2_with (go_at_call 76; refine (HG.out _).mono ?_; rintro e w2 ⟨v2, rfl, ho2, hb2⟩; obtain ⟨A2, c2, rfl⟩ := own_slice ho2; replace ho2 := Aside0.mk ho2; replace hb2 := Aside0.mk hb2)
      go_loopg [6, 27] i (fun kq v6 v27 wx => ∃ (j : Nat) (A6 : Option Addr) (c6 : Nat), v6 = .slice A6 (cat xs j).length c6 ∧ v27 = .int .i64 j ∧ j ≤ i ∧ Aside0 (kq = i - j) ∧ Aside0 (wx.ownsRow w.heap.size 3 1 (.slice A6 (cat xs j).length c6) (cat xs j).length (nums .i64 (cat xs j))) ∧ Aside0 (Below w.heap.size w wx))
      case atStart => exact ⟨0, A2, c2, rfl, rfl, Nat.zero_le _, ⟨rfl⟩, ho2, hb2⟩
      case round =>
        obtain ⟨j, A6, c6, rfl, rfl, hj, HK2, HO, HB⟩ := hrel
        by_cases hlt : j < i
        · have hlt' : (j : Int) < (i : Int) := by omega
          obtain ⟨A1, c1, hc1, hC1⟩ := HA.out j hlt
          have hcx := pw_cell_below HB.out hc1
          have hs := cat_succ xs j (by rw [HL.out]; exact hlt)
          have hle := cat_le xs (xs.length - (j + 1)) (j + 1) (by rw [HL.out]; omega)
          rw [hs, List.length_append, HF.out] at hle
          have HH := Aside0.mk (And.intro (Kd.C_below hC1 HB.out) (Nat.le_trans hle HT.out))
          have HS := Aside0.mk hs
          clear hs hle hC1 hc1
          generalize xs.getD j [] = X at *
          generalize cat xs j = C at *
          go_wp2_with ((with_reducible refine gate_dst (N := 33) rfl ?_); refine print_append_row (w0 := w) w.heap.size rfl (.tmp 31) (.tmp 32) 44 3 .i64 8 rfl Tryd.underlying44 info_i64 (by decide) _ C X A1 _ c1 rfl rfl HO.out (reads_of_C HH.out.1) HB.out HB.out.size (by have := HH.out.2; omega) ?_; intro v7 w7 ho7 hb7 hg7 hk7; rw [← HS.out] at ho7; obtain ⟨A9, c9, rfl⟩ := own_slice ho7; replace ho7 := Aside0.mk ho7; replace hb7 := Aside0.mk hb7; clear hg7 hk7)
          have e1 : ((j : Int) + 1) = ((j + 1 : Nat) : Int) := by omega
          rw [e1]
          go_roundg (i - (j + 1))
          case measure => have := HK2.out; omega
          case rel => exact ⟨j + 1, A9, c9, rfl, rfl, hlt, ⟨rfl⟩, ho7, hb7⟩
        · have hji : j = i := by omega
          have hlt' : ¬ (j : Int) < (i : Int) := by omega
          have hcf : cat xs j = F := by rw [hji, ← HL.out, cat_all, HF.out]
          have HO2 : Aside0 (wr.ownsRow w.heap.size 3 1 (.slice A6 (cat xs j).length c6) F.length (nums .i64 F)) := ⟨by rw [← hcf]; exact HO.out⟩
          clear hcf hji
          go_wp2_with fail
          go_ret
          exact ⟨_, rfl, HO2.out, HB.out⟩
end Go.Proofs.YtiaiopdiooobiaaDoor.My

/- The walk of slices.Repeat of one number. -/
namespace Go.Proofs.YtiaiopdiooobiaaDoor.My
open Go.RowKit Go.Lib Go.Proofs.YtiaiopdiooobiaaDoor.PMul Go.Proofs.YtiaiopdiooobiaaDoorW.PrintWords Go.Proofs.YtiaiopdiooobiaaDoorW.PrintLast Go.Proofs.YtiaiopdiooobiaaDoorW.PrintMore
set_option maxRecDepth 100000
set_option linter.unusedVariables false
set_option linter.unusedSimpArgs false

/-- So many of one number, the others noughts. -/
def rep (v : Int) (k n : Nat) : List Int := List.replicate k v ++ List.replicate (n - k) 0
theorem rep_len (v : Int) (k n : Nat) (h : k ≤ n) : (rep v k n).length = n := by simp [rep]; omega
theorem rep_splice (v : Int) (k c n : Nat) (h : k + c ≤ n) : splice (nums .i64 (rep v k n)) k (nums .i64 (List.replicate c v)) = nums .i64 (rep v (k + c) n) := by
  unfold splice rep nums
  simp only [List.map_append, List.map_replicate, List.length_replicate]
  rw [List.take_left' (by simp), ← List.append_assoc, List.replicate_append_replicate]
  congr 1
  rw [List.drop_append, List.length_replicate, List.drop_eq_nil_of_le (by simp), List.nil_append, List.drop_replicate]
  congr 1
  omega
theorem add_zero' (a : Addr) : a.add 0 = a := by
  unfold Addr.add
  split <;> simp_all
set_option maxHeartbeats 2000000 in
theorem repeat_calls (w : World) (ad : Addr) (c : Nat) (v : Int) (n : Nat) (hx : w.cell? ad = some (.int .i64 v)) (h0 : 0 < n) (hn : n ≤ 1000000) (hm : bits_Mul.f 1 n = some (0, (n : Int))) :
    Calls Tryd.prog 60 #[.slice (some ad) 1 c, .int .i64 n] w fun e w' => ∃ g, e = .returned (.slice (some ⟨g, 0, none⟩) n n) ∧ w.heap.size ≤ g ∧ IRow w' g 3 (List.replicate n v) ∧ Below w.heap.size w w' := by
  have HM : Aside0 (∀ wx, Calls Tryd.prog 77 #[.int .u64 1, .int .u64 n] wx fun e w' => e = .returned (.tuple #[.int .u64 0, .int .u64 n]) ∧ Drawn0 wx w') := ⟨fun wx => bits_Mul.calls 1 n 0 n wx hm⟩
  have hni : (n : Int) ≤ 1000000 := by omega
  have hn0 : (0 : Int) < (n : Int) := by omega
  have mk : ∀ W : World, (Instr.makeSlice 44 (.int .i64 n) (.int .i64 n)).run Tryd.prog W = .ok (.slice (some ⟨W.heap.size, 0, none⟩) n n) (W.alloc (.cells (madeCells #[.int .i64 0] n) 3)) := fun W => make_ints n (by omega) W
  have HX := Aside0.mk hx
  clear hx hm
  go_enter Tryd.func60, Tryd.ntmps60
  have hsz : (Tryd.prog.info? 3).map (·.size) = some 1 := by
    obtain ⟨i0, hi, hz⟩ := Option.map_eq_some_iff.1 info_i64
    rw [hi]
    simp only [Prod.mk.injEq] at hz
    rw [Option.map_some, hz.2.1]
  have HSZ := Aside0.mk hsz
  have HMade : Aside0 (∀ W : World, (W.alloc (.cells (madeCells #[.int .i64 0] n) 3)).heap[W.heap.size]? = some (.cells (nums .i64 (rep v 0 n)).toArray 3 (0, 0))) := ⟨fun W => by
    rw [made_nums, alloc_self]
    simp [rep]⟩
  clear hsz
  go_upto_region 7 with (go_at_call 77; refine (HM.out _).mono ?_; rintro e w1 ⟨rfl, ⟨m1, rfl⟩⟩)
  have hrow := HMade.out (w.drewN m1)
  have hbel : Below w.heap.size w ((w.drewN m1).alloc (.cells (madeCells #[.int .i64 0] n) 3)) := below_alloc (pw_below_drewN (Below.refl _ _) m1) _
  have hcx := pw_cell_below hbel HX.out
  have hgg : (w.drewN m1).heap.size = w.heap.size := rfl
  rw [hgg] at hrow
  generalize (w.drewN m1).alloc (.cells (madeCells #[.int .i64 0] n) 3) = w2 at *
  have hfit : 0 + [Value.int .i64 v].length ≤ (nums .i64 (rep v 0 n)).length := by rw [nums_length, rep_len v 0 n (Nat.zero_le _)]; simp; omega
  have hmin : [Value.int .i64 v].length = Nat.min 1 n := by show 1 = Nat.min 1 n; simp [Nat.min_def]; omega
  have hone : ∀ x ∈ [Value.int .i64 v], x.oneCell' = true := by simp [Value.oneCell']
  have hsrc : ∀ (j : Nat) (x : Value), [Value.int .i64 v][j]? = some x → w2.cell? (ad.add j) = some x := by
    intro j x hj
    cases j with
    | zero => simp at hj; subst hj; rw [add_zero']; exact hcx
    | succ j => simp at hj
  have HH := Aside0.mk (And.intro hrow (And.intro hbel (And.intro hfit (And.intro hmin (And.intro hone hsrc)))))
  have HSp := Aside0.mk (rep_splice v 0 1 n (by omega))
  clear hrow hbel hcx hfit hmin hone hsrc hgg HMade mk
  generalize hg : w.heap.size = g at *
  have HG := Aside0.mk hg
  clear hg
  go_wp2_with ((with_reducible refine gate_dst (N := 33) rfl ?_); refine wpList_copy_splice rfl (.tmp 31) (.tmp 32) 44 44 rfl 3 Tryd.underlying44 HSZ.out (some ⟨g, 0, none⟩) (some ad) n n 1 c rfl rfl g 0 (nums .i64 (rep v 0 n)) 3 HH.out.1 [.int .i64 v] HH.out.2.2.2.1 (fun _ => ⟨rfl, ad, rfl, HH.out.2.2.2.2.2⟩) HH.out.2.2.1 HH.out.2.2.2.2.1 g w HH.out.2.1 (Nat.le_refl _) ?_; intro w3 hr3 hb3; have HR3 := Aside0.mk hr3; have HB3 := Aside0.mk hb3; clear hr3 hb3)
  have HR4 : Aside0 (w3.heap[g]? = some (.cells (nums .i64 (rep v 1 n)).toArray 3 (0, 0))) := ⟨by
    have h : w3.heap[g]? = some (.cells (splice (nums .i64 (rep v 0 n)) 0 [.int .i64 v]).toArray 3 (0, 0)) := HR3.out
    have h2 := HSp.out
    rw [Nat.zero_add] at h2
    rw [← h2]
    exact h⟩
  clear HR3 HH HSp
  go_loopg [8] n (fun kq v8 wr => ∃ k : Nat, v8 = .int .i64 k ∧ 1 ≤ k ∧ k ≤ n ∧ Aside0 (kq = n - k + 1) ∧ Aside0 (wr.heap[g]? = some (.cells (nums .i64 (rep v k n)).toArray 3 (0, 0))) ∧ Aside0 (Below g w wr))
  case atStart => exact ⟨1, rfl, Nat.le_refl _, h0, ⟨by omega⟩, HR4, HB3⟩
  case round =>
    obtain ⟨k, rfl, hk1, hk, HK, HR, HB⟩ := hrel
    by_cases hlt : k < n
    · have hlt' : (k : Int) < (n : Int) := by omega
      obtain ⟨q, hq⟩ : ∃ q, q = Nat.min k (n - k) := ⟨_, rfl⟩
      have hq1 : k + q ≤ n := by rw [hq]; simp only [Nat.min_def]; split <;> omega
      have hq2 : 1 ≤ q := by rw [hq]; simp only [Nat.min_def]; split <;> omega
      have hq3 : q ≤ k := by rw [hq]; simp only [Nat.min_def]; split <;> omega
      have hqi : (q : Int) ≤ 1000000 := by omega
      have hfit : k + (nums .i64 (List.replicate q v)).length ≤ (nums .i64 (rep v k n)).length := by rw [nums_length, nums_length, rep_len v k n hk, List.length_replicate]; exact hq1
      have hmin : (nums .i64 (List.replicate q v)).length = Nat.min k (n - k) := by rw [nums_length, List.length_replicate]; exact hq
      have hone : ∀ x ∈ nums .i64 (List.replicate q v), x.oneCell' = true := by
        intro x hx
        unfold nums at hx
        obtain ⟨y, _, rfl⟩ := List.mem_map.1 hx
        rfl
      have hsrc : ∀ (j : Nat) (x : Value), (nums .i64 (List.replicate q v))[j]? = some x → wr.cell? ((⟨g, 0, none⟩ : Addr).add j) = some x := by
        intro j x hj
        have hjl := (List.getElem?_eq_some_iff.1 hj).1
        rw [nums_length, List.length_replicate] at hjl
        rw [add_plain]
        have hrw : IRow wr g 3 (rep v k n) := HR.out
        rw [hrw.cell j (by rw [rep_len v k n hk]; omega)]
        rw [nums_at _ j (by rw [List.length_replicate]; exact hjl)] at hj
        rw [← hj]
        congr 2
        unfold rep
        rw [List.getD_eq_getElem?_getD, List.getElem?_append_left (by rw [List.length_replicate]; omega), List.getD_eq_getElem?_getD, List.getElem?_replicate, List.getElem?_replicate, if_pos (by omega), if_pos hjl]
      have HH := Aside0.mk (And.intro hfit (And.intro hmin (And.intro hone hsrc)))
      have HSp := Aside0.mk (rep_splice v k q n hq1)
      have HQ1 := Aside0.mk hq1
      have HQ2 := Aside0.mk hq2
      have HQL : Aside0 ((nums .i64 (List.replicate q v)).length = q) := ⟨by rw [nums_length, List.length_replicate]⟩
      clear hfit hmin hone hsrc hq hq1 hq2 hq3
      go_upto_region 9 with fail
      go_region_law (refine step_copy_splice rfl (.tmp 41) (.tmp 44) 44 44 rfl 3 Tryd.underlying44 HSZ.out (some ⟨g, k, none⟩) (some ⟨g, 0, none⟩) (n - k) (n - k) k n (by first | (simp [Act.eval, Act.put]; done) | (simp [Act.eval, Act.put]; omega)) (by first | (simp [Act.eval, Act.put]; done) | (simp [Act.eval, Act.put]; omega)) g k (nums .i64 (rep v k n)) 3 HR.out (nums .i64 (List.replicate q v)) HH.out.2.1 (fun _ => ⟨rfl, ⟨g, 0, none⟩, rfl, HH.out.2.2.2⟩) HH.out.1 HH.out.2.2.1 g w (below_drew HB.out) (Nat.le_refl _) ?_; intro w4 hr4 hb4; have HR5 := Aside0.mk hr4; have HB5 := Aside0.mk hb4; clear hr4 hb4)
      all_goals (go_wp2_with fail)
      all_goals
        have e1 : IntKind.i64.wrap ((k : Int) + ((nums .i64 (List.replicate q v)).length : Nat)) = ((k + q : Nat) : Int) := by rw [HQL.out, IntKind.wrap_i64]; have := HQ1.out; omega
        rw [e1]
        go_roundg (n - (k + q) + 1)
        case measure => have h1 := HK.out; have h2 := HQ1.out; have h3 := HQ2.out; omega
        case rel =>
          refine ⟨k + q, rfl, by have := HQ2.out; omega, HQ1.out, ⟨rfl⟩, ⟨?_⟩, HB5⟩
          have h : w4.heap[g]? = some (.cells (splice (nums .i64 (rep v k n)) k (nums .i64 (List.replicate q v))).toArray 3 (0, 0)) := HR5.out
          rw [HSp.out] at h
          exact h
    · have hkn : k = n := by omega
      have hlt' : ¬ (k : Int) < (n : Int) := by omega
      have HF : Aside0 (IRow wr g 3 (List.replicate n v)) := ⟨by
        have h := HR.out
        rw [hkn] at h
        have e : rep v n n = List.replicate n v := by unfold rep; simp
        rw [e] at h
        exact h⟩
      clear hkn
      go_wp2_with fail
      go_ret
      exact ⟨g, rfl, by rw [HG.out]; exact Nat.le_refl _, HF.out, by rw [HG.out]; exact HB.out⟩
end Go.Proofs.YtiaiopdiooobiaaDoor.My

/- The walk of huff.Fixed, and the document's. -/
namespace Go.Proofs.YtiaiopdiooobiaaDoor.My
open Go.RowKit Go.Proofs.YtiaiopdiooobiaaDoor.PMul Go.Proofs.YtiaiopdiooobiaaDoor.PDeflateBack Go.Proofs.YtiaiopdiooobiaaDoorW.PrintWords Go.Proofs.YtiaiopdiooobiaaDoorW.PrintLast Go.Proofs.YtiaiopdiooobiaaDoorW.PrintMore
set_option maxRecDepth 100000
set_option linter.unusedVariables false
set_option linter.unusedSimpArgs false

def letters : List Int := List.replicate 144 8 ++ (List.replicate 112 9 ++ (List.replicate 24 7 ++ List.replicate 8 8))
def dists : List Int := List.replicate 30 5
def letV (u : Nat) : Int := if 144 ≤ u ∧ u < 256 then 9 else if 256 ≤ u ∧ u < 280 then 7 else 8
def upTo (v : Nat → Int) (n i : Nat) : List Int := (List.range n).map fun u => if u < i then v u else 0
theorem upTo_len (v : Nat → Int) (n i : Nat) : (upTo v n i).length = n := by simp [upTo]
theorem upTo_set (v : Nat → Int) (n i : Nat) (x : Int) (hx : x = v i) : (upTo v n i).set i x = upTo v n (i + 1) := by
  apply List.ext_getElem
  · simp [upTo]
  · intro j a b
    rw [List.getElem_set]
    simp only [upTo, List.getElem_map, List.getElem_range]
    split
    · next e => subst e; rw [if_pos (by omega), hx]
    · next e =>
      by_cases h : j < i
      · rw [if_pos h, if_pos (by omega)]
      · rw [if_neg h, if_neg (by omega)]
theorem upTo_more (v : Nat → Int) (n i : Nat) (h : n ≤ i) : upTo v n (i + 1) = upTo v n i := by
  unfold upTo
  apply List.map_congr_left
  intro u hu
  have := List.mem_range.1 hu
  rw [if_pos (by omega), if_pos (by omega)]
theorem letters_eq : upTo letV 288 288 = letters := by decide +kernel
theorem dists_eq : upTo (fun _ => 5) 30 288 = dists := by decide +kernel
theorem mul144 : bits_Mul.f 1 ((144 : Nat) : Int) = some (0, ((144 : Nat) : Int)) := by decide +kernel
theorem mul112 : bits_Mul.f 1 ((112 : Nat) : Int) = some (0, ((112 : Nat) : Int)) := by decide +kernel
theorem mul24 : bits_Mul.f 1 ((24 : Nat) : Int) = some (0, ((24 : Nat) : Int)) := by decide +kernel
theorem mul8 : bits_Mul.f 1 ((8 : Nat) : Int) = some (0, ((8 : Nat) : Int)) := by decide +kernel
theorem mul30 : bits_Mul.f 1 ((30 : Nat) : Int) = some (0, ((30 : Nat) : Int)) := by decide +kernel
/-- Repeat of a number just laid. -/
theorem rep_calls (w : World) (v : Int) (n : Nat) (h0 : 0 < n) (hn : n ≤ 1000000) (hm : bits_Mul.f 1 n = some (0, (n : Int))) :
    Calls Tryd.prog 60 #[.slice (some ⟨w.heap.size, 0, none⟩) 1 1, .int .i64 n] (w.alloc (.cells #[.int .i64 v] 3)) fun e w' => ∃ g, e = .returned (.slice (some ⟨g, 0, none⟩) n n) ∧ w.heap.size ≤ g ∧ IRow w' g 3 (List.replicate n v) ∧ Below w.heap.size w w' := by
  have hb : Below w.heap.size w (w.alloc (.cells #[.int .i64 v] 3)) := below_alloc (Below.refl _ _) _
  refine (repeat_calls (w.alloc (.cells #[.int .i64 v] 3)) ⟨w.heap.size, 0, none⟩ 1 v n ?_ h0 hn hm).mono ?_
  · have h : IRow (w.alloc (.cells #[.int .i64 v] 3)) w.heap.size 3 [v] := alloc_self _ _
    exact h.cell 0 (by simp)
  · rintro e w' ⟨g, rfl, h1, h2, h3⟩
    exact ⟨g, rfl, Nat.le_trans hb.size h1, h2, below_then hb hb.size h3⟩
set_option maxHeartbeats 4000000 in
set_option maxRecDepth 100000 in
theorem fixed_calls (w : World) : Calls Tryd.prog 40 #[] w fun e w' => ∃ (A1 A2 : Option Addr) (c1 c2 : Nat), e = .returned (.tuple #[.slice A1 288 c1, .slice A2 30 c2]) ∧ (Kd.int .i64).C w' A1 288 letters ∧ (∃ g, A2 = some ⟨g, 0, none⟩ ∧ c2 = 30 ∧ w.heap.size ≤ g ∧ IRow w' g 3 dists) ∧ 288 ≤ c1 ∧ Below w.heap.size w w' := by
  have H1 : Aside0 (∀ wx, Calls Tryd.prog 60 #[.slice (some ⟨wx.heap.size, 0, none⟩) 1 1, .int .i64 144] (wx.alloc (.cells #[.int .i64 8] 3)) fun e w' => ∃ g, e = .returned (.slice (some ⟨g, 0, none⟩) 144 144) ∧ wx.heap.size ≤ g ∧ IRow w' g 3 (List.replicate 144 8) ∧ Below wx.heap.size wx w') := ⟨fun wx => rep_calls wx 8 144 (by decide) (by decide) mul144⟩
  have H2 : Aside0 (∀ wx, Calls Tryd.prog 60 #[.slice (some ⟨wx.heap.size, 0, none⟩) 1 1, .int .i64 112] (wx.alloc (.cells #[.int .i64 9] 3)) fun e w' => ∃ g, e = .returned (.slice (some ⟨g, 0, none⟩) 112 112) ∧ wx.heap.size ≤ g ∧ IRow w' g 3 (List.replicate 112 9) ∧ Below wx.heap.size wx w') := ⟨fun wx => rep_calls wx 9 112 (by decide) (by decide) mul112⟩
  have H3 : Aside0 (∀ wx, Calls Tryd.prog 60 #[.slice (some ⟨wx.heap.size, 0, none⟩) 1 1, .int .i64 24] (wx.alloc (.cells #[.int .i64 7] 3)) fun e w' => ∃ g, e = .returned (.slice (some ⟨g, 0, none⟩) 24 24) ∧ wx.heap.size ≤ g ∧ IRow w' g 3 (List.replicate 24 7) ∧ Below wx.heap.size wx w') := ⟨fun wx => rep_calls wx 7 24 (by decide) (by decide) mul24⟩
  have H4 : Aside0 (∀ wx, Calls Tryd.prog 60 #[.slice (some ⟨wx.heap.size, 0, none⟩) 1 1, .int .i64 8] (wx.alloc (.cells #[.int .i64 8] 3)) fun e w' => ∃ g, e = .returned (.slice (some ⟨g, 0, none⟩) 8 8) ∧ wx.heap.size ≤ g ∧ IRow w' g 3 (List.replicate 8 8) ∧ Below wx.heap.size wx w') := ⟨fun wx => rep_calls wx 8 8 (by decide) (by decide) mul8⟩
  have H5 : Aside0 (∀ wx, Calls Tryd.prog 60 #[.slice (some ⟨wx.heap.size, 0, none⟩) 1 1, .int .i64 30] (wx.alloc (.cells #[.int .i64 5] 3)) fun e w' => ∃ g, e = .returned (.slice (some ⟨g, 0, none⟩) 30 30) ∧ wx.heap.size ≤ g ∧ IRow w' g 3 (List.replicate 30 5) ∧ Below wx.heap.size wx w') := ⟨fun wx => rep_calls wx 5 30 (by decide) (by decide) mul30⟩
  go_enter Tryd.func40, Tryd.ntmps40
  go_wp2_with fail
  refine (H1.out _).mono ?_
  rintro e w1 ⟨g1, rfl, hg1, hr1, hb1⟩
  go_wp2_with fail
  refine (H2.out _).mono ?_
  rintro e w2 ⟨g2, rfl, hg2, hr2, hb2⟩
  go_wp2_with fail
  refine (H3.out _).mono ?_
  rintro e w3 ⟨g3, rfl, hg3, hr3, hb3⟩
  go_wp2_with fail
  refine (H4.out _).mono ?_
  rintro e w4 ⟨g4, rfl, hg4, hr4, hb4⟩
  have q1 := ((hr1.below hb2).below hb3).below hb4
  have q2 := (hr2.below hb3).below hb4
  have q3 := hr3.below hb4
  have HB := Aside0.mk (below_then (below_then (below_then hb1 hb1.size hb2) (Nat.le_trans hb1.size hb2.size) hb3) (Nat.le_trans (Nat.le_trans hb1.size hb2.size) hb3.size) hb4)
  have HQ := Aside0.mk (And.intro q1 (And.intro q2 (And.intro q3 hr4)))
  clear hr1 hr2 hr3 hr4 hb1 hb2 hb3 hb4 q1 q2 q3 hg1 hg2 hg3 hg4
  have HA : Aside0 (∀ i, i < 4 → ∃ (A : Option Addr) (c : Nat), (w4.alloc (.cells #[.slice (some ⟨g1, 0, none⟩) 144 144, .slice (some ⟨g2, 0, none⟩) 112 112, .slice (some ⟨g3, 0, none⟩) 24 24, .slice (some ⟨g4, 0, none⟩) 8 8] 44)).cell? ⟨w4.heap.size, i, none⟩ = some (.slice A ([List.replicate 144 8, List.replicate 112 9, List.replicate 24 7, List.replicate 8 (8 : Int)].getD i []).length c) ∧ (Kd.int .i64).C (w4.alloc (.cells #[.slice (some ⟨g1, 0, none⟩) 144 144, .slice (some ⟨g2, 0, none⟩) 112 112, .slice (some ⟨g3, 0, none⟩) 24 24, .slice (some ⟨g4, 0, none⟩) 8 8] 44)) A ([List.replicate 144 8, List.replicate 112 9, List.replicate 24 7, List.replicate 8 (8 : Int)].getD i []).length ([List.replicate 144 8, List.replicate 112 9, List.replicate 24 7, List.replicate 8 (8 : Int)].getD i [])) := ⟨fun i hi => by
    have hbe := below_alloc (Below.refl w4.heap.size w4) (.cells #[.slice (some ⟨g1, 0, none⟩) 144 144, .slice (some ⟨g2, 0, none⟩) 112 112, .slice (some ⟨g3, 0, none⟩) 24 24, .slice (some ⟨g4, 0, none⟩) 8 8] 44)
    have hc := blk_cell (alloc_self w4 (.cells #[.slice (some ⟨g1, 0, none⟩) 144 144, .slice (some ⟨g2, 0, none⟩) 112 112, .slice (some ⟨g3, 0, none⟩) 24 24, .slice (some ⟨g4, 0, none⟩) 8 8] 44))
    have : i = 0 ∨ i = 1 ∨ i = 2 ∨ i = 3 := by omega
    rcases this with rfl | rfl | rfl | rfl
    · exact ⟨_, _, hc 0, by have := (HQ.out.1.below hbe).reads (by simp); exact this⟩
    · exact ⟨_, _, hc 1, by have := (HQ.out.2.1.below hbe).reads (by simp); exact this⟩
    · exact ⟨_, _, hc 2, by have := (HQ.out.2.2.1.below hbe).reads (by simp); exact this⟩
    · exact ⟨_, _, hc 3, by have := (HQ.out.2.2.2.below hbe).reads (by simp); exact this⟩⟩
  have HC := Aside0.mk (concat_calls _ w4.heap.size 4 [List.replicate 144 8, List.replicate 112 9, List.replicate 24 7, List.replicate 8 (8 : Int)] letters rfl rfl (by decide) (by decide +kernel) (by decide +kernel) HA.out)
  have hll : letters.length = 288 := by decide +kernel
  have HB4 := Aside0.mk (below_then HB.out HB.out.size (below_alloc (Below.refl w4.heap.size w4) (.cells #[.slice (some ⟨g1, 0, none⟩) 144 144, .slice (some ⟨g2, 0, none⟩) 112 112, .slice (some ⟨g3, 0, none⟩) 24 24, .slice (some ⟨g4, 0, none⟩) 8 8] 44)))
  rw [hll] at HC
  clear hll HA HQ H1 H2 H3 H4
  go_wp2_with fail
  refine (HC.out).mono ?_
  rintro e w5 ⟨v5, rfl, ho5, hb5⟩
  obtain ⟨A5, c5, rfl, hc5, hC5⟩ := own_slice' ho5
  have HB5 := Aside0.mk (below_then HB4.out HB4.out.size hb5)
  have HC5 := Aside0.mk hC5
  clear ho5 hb5 hC5
  go_wp2_with fail
  refine (H5.out _).mono ?_
  rintro e w6 ⟨g6, rfl, hg6, hr6, hb6⟩
  have HB6 := Aside0.mk (below_then HB5.out HB5.out.size hb6)
  have HC6 := Aside0.mk (And.intro (Kd.C_below HC5.out hb6) hr6)
  have HH := Aside0.mk hc5
  have HG6 := Aside0.mk (Nat.le_trans HB5.out.size hg6)
  clear hg6 hr6 hb6 hc5
  go_wp2_with fail
  go_ret2
  exact ⟨A5, _, c5, 30, rfl, HC6.out.1, ⟨g6, rfl, rfl, HG6.out, HC6.out.2⟩, HH.out, HB6.out⟩
end Go.Proofs.YtiaiopdiooobiaaDoor.My

/- Inflating, plainly: bits as a number, bytes that are put out, steps. No walk in sight. -/
namespace Go.Proofs.YtiaiopdiooobiaaDoor.Inf
open Go.Proofs.YtiaiopdiooobiaaDoor.Huf Go.Proofs.YtiaiopdiooobiaaDoor.My
set_option maxRecDepth 100000
set_option linter.unusedVariables false
set_option linter.unusedSimpArgs false

/-- At which bit, what was put out, how many steps. -/
structure St where
  a : Nat
  out : List Int
  st : Nat
inductive Res (α : Type) where
  | ok (x : α) (s : St)
  | er (c : Int)
def Res.bind {α β : Type} (r : Res α) (f : α → St → Res β) : Res β :=
  match r with
  | .ok x s => f x s
  | .er c => .er c
@[simp] theorem bind_ok {α β : Type} (x : α) (s : St) (f : α → St → Res β) : (Res.ok x s).bind f = f x s := rfl
@[simp] theorem bind_er {α β : Type} (c : Int) (f : α → St → Res β) : (Res.er c).bind f = .er c := rfl

section
variable (V lb : Nat) (lim : Int)
/-- The next bits. -/
def number (n : Nat) (s : St) : Res Nat := if s.a + n ≤ 8 * lb then .ok (V / 2 ^ s.a % 2 ^ n) ⟨s.a + n, s.out, s.st⟩ else .er 10
/-- What Take answers, as a function. -/
noncomputable def tk (L : List Int) (a left : Nat) : Int × Nat × Option Int := Classical.epsilon fun t : Int × Nat × Option Int => TakeR L V a left t.1 t.2.1 t.2.2
theorem tk_of {L : List Int} {a left : Nat} {x : Int} {n : Nat} {e : Option Int} (h : TakeR L V a left x n e) : tk V L a left = (x, n, e) := by
  have h1 := Classical.epsilon_spec (p := fun t : Int × Nat × Option Int => TakeR L V a left t.1 t.2.1 t.2.2) ⟨(x, n, e), h⟩
  obtain ⟨e1, e2, e3⟩ := takeR_one h1 h
  exact Prod.ext e1 (Prod.ext e2 e3)
noncomputable def far (L : List Int) (s : St) : Res Int :=
  match tk V L s.a (8 * lb - s.a) with
  | (x, n, none) => .ok x ⟨s.a + n, s.out, s.st⟩
  | (_, _, some c) => .er c
noncomputable def sign (L : List Int) (s : St) : Res Int := far V lb L ⟨s.a, s.out, s.st + 1⟩
def room (n : Nat) (s : St) : Res Unit := if (n : Int) > lim - (s.out.length : Int) then .er 3 else .ok () s
def stored (s : St) : Res Unit :=
  (number V lb 16 ⟨s.a + (8 - s.a % 8) % 8, s.out, s.st⟩).bind fun n s =>
  (number V lb 16 s).bind fun t s =>
  if n + t ≠ 65535 then .er 2 else
  (room lim n s).bind fun _ s =>
  if n ≤ (8 * lb - s.a) / 8 then .ok () ⟨s.a + 8 * n, s.out ++ leB (V / 2 ^ s.a) n, s.st + n⟩ else .er 10
def order : List Nat := [16, 17, 18, 0, 8, 7, 9, 6, 10, 5, 11, 4, 12, 3, 13, 2, 14, 1, 15]
def hlp : List Nat → List Int → St → Res (List Int)
  | [], L, s => .ok L s
  | p :: ps, L, s => (number V lb 3 ⟨s.a, s.out, s.st + 1⟩).bind fun x s => hlp ps (L.set p (x : Int)) s
def okCode (L : List Int) (lone : Bool) (s : St) : Res Unit := if newR L lone = none then .ok () s else .er 2
def helper (many : Nat) (s : St) : Res (List Int) :=
  (hlp V lb (order.take many) (List.replicate 19 0) s).bind fun L s => (okCode L false s).bind fun _ s => .ok L s
/-- What a sign of the helpers tells: a length, and how often. -/
def rep (x : Int) (l : List Int) (s : St) : Res (Int × Nat) :=
  if x < 16 then .ok (x, 1) s
  else if x = 16 then (if l = [] then .er 2 else (number V lb 2 s).bind fun n s => .ok (l.getD (l.length - 1) 0, 3 + n) s)
  else if x = 17 then (number V lb 3 s).bind fun n s => .ok (0, 3 + n) s
  else (number V lb 7 s).bind fun n s => .ok (0, 11 + n) s
noncomputable def lens (C : List Int) (many : Nat) : Nat → List Int → St → Res (List Int)
  | 0, l, s => if l.length < many then .er 0 else .ok l s
  | k + 1, l, s => if l.length < many then
      (sign V lb C s).bind fun x s => (rep V lb x l s).bind fun vt s =>
        if many - l.length < vt.2 then .er 2 else lens C many k (l ++ List.replicate vt.2 vt.1) s
    else .ok l s
noncomputable def lengths (many help : Nat) (s : St) : Res (List Int) := (helper V lb help s).bind fun C s => lens V lb C many many [] s
noncomputable def told (s : St) : Res (List Int × List Int) :=
  (number V lb 5 s).bind fun a s => (number V lb 5 s).bind fun b s => (number V lb 4 s).bind fun c s =>
  if 286 < 257 + a ∨ 30 < 1 + b then .er 2 else
  (lengths V lb (257 + a + (1 + b)) (4 + c) s).bind fun l s =>
  (okCode (l.take (257 + a)) false s).bind fun _ s => (okCode (l.drop (257 + a)) true s).bind fun _ s =>
  if l.getD 256 0 = 0 then .er 2 else .ok (l.take (257 + a), l.drop (257 + a)) s
def length (x : Int) (s : St) : Res Nat :=
  if 286 ≤ x then .er 2 else if x = 285 then .ok 258 s else if 8 ≤ x - 257 then
    (number V lb ((x - 257).toNat / 4 - 1) s).bind fun m s => .ok (3 + (4 + (x - 257).toNat % 4) * 2 ^ ((x - 257).toNat / 4 - 1) + m) s
  else .ok (3 + (x - 257).toNat) s
def distance (x : Int) (s : St) : Res Nat :=
  if 30 ≤ x then .er 2 else if x < 4 then .ok (1 + x.toNat) s else
    (number V lb (x.toNat / 2 - 1) s).bind fun m s => .ok (1 + (2 + x.toNat % 2) * 2 ^ (x.toNat / 2 - 1) + m) s
def cpy (d : Nat) : Nat → List Int → List Int
  | 0, l => l
  | k + 1, l => cpy d k (l ++ [l.getD (l.length - d) 0])
def again (n d : Nat) (s : St) : Res Unit :=
  if s.out.length < d then .er 2 else (room lim n s).bind fun _ s => .ok () ⟨s.a, cpy d n s.out, s.st⟩
noncomputable def coded (A B : List Int) : Nat → St → Res Unit
  | 0, s => .er 0
  | k + 1, s => (sign V lb A s).bind fun x s =>
    if x = 256 then .ok () s
    else if x < 256 then (room lim 1 s).bind fun _ s => coded A B k ⟨s.a, s.out ++ [x], s.st⟩
    else (length V lb x s).bind fun n s => (far V lb B s).bind fun y s => (distance V lb y s).bind fun d s => (again lim n d s).bind fun _ s => coded A B k s
/-- So many rounds are enough: each takes a bit. -/
noncomputable def codes (A B : List Int) (s : St) : Res Unit := coded V lb lim A B (8 * lb + 1 - s.a) s
def fixB : List Int := dists ++ [5, 5]
noncomputable def block (s : St) : Res Bool :=
  (number V lb 1 ⟨s.a, s.out, s.st + 1⟩).bind fun last s => (number V lb 2 s).bind fun kind s =>
  (if kind = 0 then stored V lb lim s
   else if kind = 1 then codes V lb lim letters fixB s
   else if kind = 2 then (told V lb s).bind fun ab s => codes V lb lim ab.1 ab.2 s
   else .er 2).bind fun _ s => .ok (decide (last = 1)) s
noncomputable def blocks : Nat → St → Res Unit
  | 0, s => .er 0
  | k + 1, s => (block V lb lim s).bind fun last s => if last = true then .ok () s else blocks k s
noncomputable def inflate : Res Unit := blocks V lb lim (8 * lb + 1) ⟨0, [], 0⟩
end
end Go.Proofs.YtiaiopdiooobiaaDoor.Inf

/- A text's tokens, as a plain function; what the finder's chains hold. No program in sight but for the hash's own sum. -/
namespace Go.Proofs.YtiaiopdiooobiaaDoor.My
open Go.RowKit Go.Proofs.YtiaiopdiooobiaaDoorW.PrintWords
set_option maxRecDepth 100000
set_option linter.unusedVariables false
set_option linter.unusedSimpArgs false

/-- How many bytes are alike from two places on. -/
def alkL (t : List Int) (p a : Nat) : Nat → Nat → Nat
  | 0, n => n
  | f + 1, n => if a + n < t.length ∧ t.getD (p + n) 0 = t.getD (a + n) 0 then alkL t p a f (n + 1) else n
def alk (t : List Int) (p a : Nat) : Nat := alkL t p a 258 0
theorem alkL_ge (t : List Int) (p a : Nat) : ∀ f n, n ≤ alkL t p a f n
  | 0, n => Nat.le_refl _
  | f + 1, n => by
    unfold alkL
    split
    · exact Nat.le_trans (Nat.le_succ n) (alkL_ge t p a f (n + 1))
    · exact Nat.le_refl _
theorem alkL_le (t : List Int) (p a : Nat) : ∀ f n, alkL t p a f n ≤ n + f
  | 0, n => Nat.le_refl _
  | f + 1, n => by
    unfold alkL
    split
    · have := alkL_le t p a f (n + 1); omega
    · omega
theorem alkL_all (t : List Int) (p a : Nat) : ∀ f n i, n ≤ i → i < alkL t p a f n → a + i < t.length ∧ t.getD (p + i) 0 = t.getD (a + i) 0
  | 0, n, i, h1, h2 => by simp only [alkL] at h2; omega
  | f + 1, n, i, h1, h2 => by
    unfold alkL at h2
    split at h2
    · rename_i h
      by_cases e : i = n
      · subst e; exact h
      · exact alkL_all t p a f (n + 1) i (by omega) h2
    · omega
theorem alk_le (t : List Int) (p a : Nat) : alk t p a ≤ 258 := by have := alkL_le t p a 258 0; unfold alk; omega
theorem alk_all (t : List Int) (p a i : Nat) (h : i < alk t p a) : a + i < t.length ∧ t.getD (p + i) 0 = t.getD (a + i) 0 := alkL_all t p a 258 0 i (Nat.zero_le _) h

/-- The hash of three bytes, as the program reckons it. -/
def hv (x y z : Int) : Int := bits .or .u32 (bits .or .u32 (x % 4294967296) (y % 4294967296 * 256 % 4294967296)) (z % 4294967296 * 65536 % 4294967296) * 2654435761 % 4294967296 / 1048576
theorem hv_lt (x y z : Int) : 0 ≤ hv x y z ∧ hv x y z < 4096 := by
  unfold hv
  generalize bits .or .u32 (bits .or .u32 (x % 4294967296) (y % 4294967296 * 256 % 4294967296)) (z % 4294967296 * 65536 % 4294967296) * 2654435761 = q
  omega
def hsh (t : List Int) (p : Nat) : Int := hv (t.getD p 0) (t.getD (p + 1) 0) (t.getD (p + 2) 0)

/-- The best match so far, the places from p - 1 down looked at. -/
def scan (t : List Int) (a : Nat) : Nat → Nat → Nat → Nat → Nat × Nat
  | 0, _, bl, bd => (bl, bd)
  | p + 1, lk, bl, bd =>
    if a - p ≤ 32768 ∧ lk < 64 then
      (if alk t p a < 3 then scan t a p lk bl bd else if bl < alk t p a then scan t a p (lk + 1) (alk t p a) (a - p) else scan t a p (lk + 1) bl bd)
    else (bl, bd)
theorem scan_stop (t : List Int) (a : Nat) : ∀ p lk bl bd, ¬ (a - p ≤ 32768 ∧ lk < 64) → scan t a p lk bl bd = (bl, bd)
  | 0, _, _, _, _ => rfl
  | p + 1, lk, bl, bd, h => by
    unfold scan
    rw [if_neg (by omega)]
/-- The last place ahead of x of a hash, 1 more; 0: none. -/
def prv (t : List Int) (h : Int) : Nat → Nat
  | 0 => 0
  | x + 1 => if x + 3 ≤ t.length ∧ hsh t x = h then x + 1 else prv t h x
theorem prv_le (t : List Int) (h : Int) : ∀ x, prv t h x ≤ x
  | 0 => Nat.le_refl _
  | x + 1 => by
    unfold prv
    split
    · exact Nat.le_refl _
    · exact Nat.le_trans (prv_le t h x) (Nat.le_succ x)
theorem prv_spec (t : List Int) (h : Int) : ∀ x, prv t h x = 0 ∨ ∃ y, prv t h x = y + 1 ∧ y < x ∧ y + 3 ≤ t.length ∧ hsh t y = h
  | 0 => .inl rfl
  | x + 1 => by
    unfold prv
    split
    · rename_i hc
      exact .inr ⟨x, rfl, Nat.lt_succ_self x, hc.1, hc.2⟩
    · rcases prv_spec t h x with h0 | ⟨y, h1, h2, h3⟩
      · exact .inl h0
      · exact .inr ⟨y, h1, Nat.lt_succ_of_lt h2, h3⟩
theorem alk_hash (t : List Int) (p a : Nat) (hp : p < a) (h : 3 ≤ alk t p a) : p + 3 ≤ t.length ∧ hsh t p = hsh t a := by
  have h0 := alk_all t p a 0 (by omega)
  have h1 := alk_all t p a 1 (by omega)
  have h2 := alk_all t p a 2 (by omega)
  refine ⟨by omega, ?_⟩
  unfold hsh
  rw [show t.getD p 0 = t.getD a 0 from h0.2, h1.2, h2.2]
theorem scan_skip (t : List Int) (a : Nat) : ∀ x lk bl bd, x ≤ a → scan t a x lk bl bd = scan t a (prv t (hsh t a) x) lk bl bd
  | 0, _, _, _, _ => rfl
  | x + 1, lk, bl, bd, hx => by
    unfold prv
    split
    · rfl
    · rename_i hc
      rw [← scan_skip t a x lk bl bd (by omega)]
      by_cases hb : a - x ≤ 32768 ∧ lk < 64
      · have h3 : alk t x a < 3 := by
          by_cases h : alk t x a < 3
          · exact h
          · exact absurd (alk_hash t x a (by omega) (by omega)) hc
        conv => lhs; unfold scan
        rw [if_pos hb, if_pos h3]
      · rw [scan_stop t a x lk bl bd hb]
        unfold scan
        rw [if_neg hb]
theorem alk_short (t : List Int) (p a : Nat) (h : t.length < a + 3) : alk t p a < 3 := by
  by_cases h3 : alk t p a < 3
  · exact h3
  · have := alk_all t p a 2 (by omega); omega
theorem scan_short (t : List Int) (a : Nat) (h : t.length < a + 3) : ∀ x lk bl bd, scan t a x lk bl bd = (bl, bd)
  | 0, _, _, _ => rfl
  | x + 1, lk, bl, bd => by
    unfold scan
    split
    · rw [if_pos (alk_short t x a h)]; exact scan_short t a h x lk bl bd
    · rfl
/-- What a match is: none, or of 3 to 258 bytes. -/
theorem scan_le (t : List Int) (a : Nat) : ∀ x lk bl bd, x ≤ a → (bl ≤ 258 ∧ bd ≤ 32768) → (scan t a x lk bl bd).1 ≤ 258 ∧ (scan t a x lk bl bd).2 ≤ 32768
  | 0, _, _, _, _, h => h
  | x + 1, lk, bl, bd, hx, h => by
    unfold scan
    split
    · rename_i hb
      split
      · exact scan_le t a x lk bl bd (by omega) h
      · split
        · exact scan_le t a x (lk + 1) _ _ (by omega) ⟨alk_le t x a, hb.1⟩
        · exact scan_le t a x (lk + 1) bl bd (by omega) h
    · exact h
theorem scan_fits (t : List Int) (a : Nat) : ∀ x lk bl bd, a + bl ≤ t.length → a + (scan t a x lk bl bd).1 ≤ t.length
  | 0, _, _, _, h => h
  | x + 1, lk, bl, bd, h => by
    unfold scan
    split
    · split
      · exact scan_fits t a x lk bl bd h
      · split
        · rename_i h3 _
          have := (alk_all t x a (alk t x a - 1) (by omega)).1
          exact scan_fits t a x (lk + 1) _ _ (by omega)
        · exact scan_fits t a x (lk + 1) bl bd h
    · exact h
/-- A token: its byte, its length, its distance. -/
structure Tk where
  b : Int
  l : Nat
  d : Nat
def tok (t : List Int) (a : Nat) : Tk := if (scan t a a 0 0 0).1 = 0 then ⟨t.getD a 0, 0, (scan t a a 0 0 0).2⟩ else ⟨0, (scan t a a 0 0 0).1, (scan t a a 0 0 0).2⟩
theorem tok_l (t : List Int) (a : Nat) : (tok t a).l = (scan t a a 0 0 0).1 := by
  unfold tok
  split
  · rename_i h; exact h.symm
  · rfl
def toksF (t : List Int) : Nat → Nat → List Tk
  | 0, _ => []
  | f + 1, a => if a < t.length then tok t a :: toksF t f (a + max (tok t a).l 1) else []
def toks (t : List Int) : List Tk := toksF t t.length 0
theorem tok_fits (t : List Int) (a : Nat) (h : a < t.length) : a + max (tok t a).l 1 ≤ t.length := by
  rw [tok_l]
  have := scan_fits t a a 0 0 0 (by omega)
  omega
theorem tok_le (t : List Int) (a : Nat) : (tok t a).l ≤ 258 := by
  rw [tok_l]
  exact (scan_le t a a 0 0 0 (Nat.le_refl _) ⟨by omega, by omega⟩).1
/-- With rounds enough the rest is the same. -/
theorem toksF_more (t : List Int) : ∀ f g a, t.length ≤ a + f → t.length ≤ a + g → toksF t f a = toksF t g a
  | 0, 0, _, _, _ => rfl
  | 0, g + 1, a, h1, _ => by unfold toksF; rw [if_neg (by omega)]
  | f + 1, 0, a, _, h2 => by unfold toksF; rw [if_neg (by omega)]
  | f + 1, g + 1, a, h1, h2 => by
    unfold toksF
    split
    · rw [toksF_more t f g _ (by omega) (by omega)]
    · rfl
def rest (t : List Int) (a : Nat) : List Tk := toksF t (t.length - a) a
theorem rest_step (t : List Int) (a : Nat) (h : a < t.length) : rest t a = tok t a :: rest t (a + max (tok t a).l 1) := by
  unfold rest
  rw [show t.length - a = (t.length - a - 1) + 1 by omega, toksF, if_pos h]
  congr 1
  exact toksF_more t _ _ _ (by omega) (by omega)
theorem rest_end (t : List Int) (a : Nat) (h : t.length ≤ a) : rest t a = [] := by
  unfold rest
  rw [show t.length - a = 0 by omega]
  rfl
end Go.Proofs.YtiaiopdiooobiaaDoor.My

/- Bits turned round, as Go's library does it: plain. -/
namespace Go.Proofs.YtiaiopdiooobiaaDoor.My
open Go.RowKit
set_option maxRecDepth 100000

theorem or_nat32 (a b : Nat) (ha : a < 2 ^ 32) (hb : b < 2 ^ 32) : Go.bits .or .u32 a b = ((a ||| b : Nat) : Int) := by
  have hl : a ||| b < 2 ^ 32 := Nat.or_lt_two_pow ha hb
  show IntKind.u32.wrap ((BitVec.ofInt 32 (a : Int) ||| BitVec.ofInt 32 (b : Int)).toNat : Int) = _
  rw [BitVec.ofInt_natCast, BitVec.ofInt_natCast, BitVec.toNat_or, BitVec.toNat_ofNat, BitVec.toNat_ofNat, Nat.mod_eq_of_lt ha, Nat.mod_eq_of_lt hb, IntKind.wrap_u32]
  omega
theorem and_nat32 (a b : Nat) (ha : a < 2 ^ 32) (hb : b < 2 ^ 32) : Go.bits .and .u32 a b = ((a &&& b : Nat) : Int) := by
  have hl : a &&& b < 2 ^ 32 := Nat.and_lt_two_pow _ hb
  show IntKind.u32.wrap ((BitVec.ofInt 32 (a : Int) &&& BitVec.ofInt 32 (b : Int)).toNat : Int) = _
  rw [BitVec.ofInt_natCast, BitVec.ofInt_natCast, BitVec.toNat_and, BitVec.toNat_ofNat, BitVec.toNat_ofNat, Nat.mod_eq_of_lt ha, Nat.mod_eq_of_lt hb, IntKind.wrap_u32]
  omega
/-- One step: every second group of bits changes its place with the next one. -/
def sw (m d x : Int) : Int := bits .or .u32 (bits .and .u32 (x / d) m) (bits .and .u32 x m * d % 4294967296)
def half (x : Int) : Int := bits .or .u32 (x / 65536) (x * 65536 % 4294967296)
def swB (m : Nat) (k : Nat) (b : BitVec 32) : BitVec 32 := ((b >>> k) &&& BitVec.ofNat 32 m) ||| ((b &&& BitVec.ofNat 32 m) <<< k)
def halfB (b : BitVec 32) : BitVec 32 := (b >>> 16) ||| (b <<< 16)
theorem sw_eq (m k : Nat) (b : BitVec 32) (hm : m < 2 ^ 32) (d : Int) (hd : d = ((2 ^ k : Nat) : Int)) : sw m d b.toNat = (swB m k b).toNat := by
  have hb : b.toNat < 2 ^ 32 := b.isLt
  have h1 : b.toNat / 2 ^ k < 2 ^ 32 := Nat.lt_of_le_of_lt (Nat.div_le_self _ _) hb
  have h2 : b.toNat / 2 ^ k &&& m < 2 ^ 32 := Nat.and_lt_two_pow _ hm
  have h3 : (b.toNat &&& m) * 2 ^ k % 4294967296 < 2 ^ 32 := Nat.mod_lt _ (by decide)
  unfold sw
  rw [hd, show ((b.toNat : Int) / ((2 ^ k : Nat) : Int)) = ((b.toNat / 2 ^ k : Nat) : Int) from rfl, and_nat32 _ m h1 hm, and_nat32 _ m hb hm]
  rw [show (((b.toNat &&& m : Nat) : Int) * ((2 ^ k : Nat) : Int) % 4294967296) = (((b.toNat &&& m) * 2 ^ k % 4294967296 : Nat) : Int) by rw [← Int.natCast_mul]; rfl]
  rw [or_nat32 _ _ h2 h3]
  congr 1
  simp only [swB, BitVec.toNat_or, BitVec.toNat_and, BitVec.toNat_ushiftRight, BitVec.toNat_shiftLeft, BitVec.toNat_ofNat, Nat.shiftRight_eq_div_pow, Nat.shiftLeft_eq, Nat.mod_eq_of_lt hm]
theorem half_eq (b : BitVec 32) : half b.toNat = (halfB b).toNat := by
  have hb : b.toNat < 2 ^ 32 := b.isLt
  unfold half
  rw [show ((b.toNat : Int) / 65536) = ((b.toNat / 65536 : Nat) : Int) from rfl, show ((b.toNat : Int) * 65536 % 4294967296) = ((b.toNat * 65536 % 4294967296 : Nat) : Int) from rfl,
    or_nat32 _ _ (by omega) (by omega)]
  congr 1
  simp only [halfB, BitVec.toNat_or, BitVec.toNat_ushiftRight, BitVec.toNat_shiftLeft, Nat.shiftRight_eq_div_pow, Nat.shiftLeft_eq]
theorem rev_all (b : BitVec 32) : halfB (swB 16711935 8 (swB 252645135 4 (swB 858993459 2 (swB 1431655765 1 b)))) = b.reverse := by
  apply BitVec.eq_of_getLsbD_eq
  intro i hi
  rw [BitVec.getLsbD_reverse]
  unfold halfB swB
  rcases i with _|_|_|_|_|_|_|_|_|_|_|_|_|_|_|_|_|_|_|_|_|_|_|_|_|_|_|_|_|_|_|_|i
  all_goals first
    | (exfalso; omega)
    | simp [BitVec.getMsbD]

/-- The lowest n bits of a number, turned round. -/
def rv (x n : Nat) : Nat := (BitVec.ofNat 32 x).reverse.toNat / 2 ^ (32 - n)
theorem rv_bit (x n i : Nat) (hn : n ≤ 32) : (rv x n).testBit i = (decide (i < n) && x.testBit (n - 1 - i)) := by
  unfold rv
  rw [← Nat.shiftRight_eq_div_pow, Nat.testBit_shiftRight]
  show (BitVec.reverse (BitVec.ofNat 32 x)).getLsbD (32 - n + i) = _
  rw [BitVec.getLsbD_reverse, BitVec.getMsbD_eq_getLsbD, BitVec.getLsbD_ofNat]
  by_cases h : i < n
  · rw [show 32 - 1 - (32 - n + i) = n - 1 - i by omega]
    simp [h, show n - 1 - i < 32 by omega, show 32 - n + i < 32 by omega]
  · simp [h, show ¬ 32 - n + i < 32 by omega]
theorem rv_lt (x n : Nat) (hn : n ≤ 32) : rv x n < 2 ^ n := by
  refine Nat.lt_pow_two_of_testBit _ fun i hi => ?_
  rw [rv_bit x n i hn]
  simp [show ¬ i < n by omega]
end Go.Proofs.YtiaiopdiooobiaaDoor.My

/- Packing, plainly: bits that are put behind one another, a token's signs, a text's bytes of kind 0 and 1. No program in sight. -/
namespace Go.Proofs.YtiaiopdiooobiaaDoor.My
open Go.RowKit Go.Proofs.YtiaiopdiooobiaaDoor.Huf
set_option maxRecDepth 100000
set_option linter.unusedVariables false
set_option linter.unusedSimpArgs false

/-- Bits: a number, and how many. -/
structure Bs where
  V : Nat
  N : Nat
def Bs.put (b : Bs) (x n : Nat) : Bs := ⟨b.V + x * 2 ^ b.N, b.N + n⟩
/-- A length's letter, its further bits' number, how many these are. -/
def lenS (l : Nat) : Nat × Nat × Nat :=
  if l - 3 = 255 then (285, 0, 0) else if l - 3 < 8 then (257 + (l - 3), 0, 0)
  else (257 + 4 * (Lib.bitLen (l - 3) - 3 + 1) + (l - 3) / 2 ^ (Lib.bitLen (l - 3) - 3) - 4, (l - 3) % 2 ^ (Lib.bitLen (l - 3) - 3), Lib.bitLen (l - 3) - 3)
def disS (d : Nat) : Nat × Nat × Nat :=
  if d - 1 < 4 then (d - 1, 0, 0)
  else (2 * (Lib.bitLen (d - 1) - 2 + 1) + (d - 1) / 2 ^ (Lib.bitLen (d - 1) - 2) - 2, (d - 1) % 2 ^ (Lib.bitLen (d - 1) - 2), Lib.bitLen (d - 1) - 2)
/-- The least length of a letter, the least distance of a sign; how many further bits. -/
def exL (s : Nat) : Nat := if s = 285 ∨ s < 265 then 0 else (s - 257) / 4 - 1
def lowL (s : Nat) : Nat := if s = 285 then 258 else if s < 265 then 3 + (s - 257) else 3 + (4 + (s - 257) % 4) * 2 ^ ((s - 257) / 4 - 1)
def exD (s : Nat) : Nat := if s < 4 then 0 else s / 2 - 1
def lowD (s : Nat) : Nat := if s < 4 then 1 + s else 1 + (2 + s % 2) * 2 ^ (s / 2 - 1)
structure LenOk (l : Nat) : Prop where
  s0 : 257 ≤ (lenS l).1
  s1 : (lenS l).1 ≤ 285
  m : (lenS l).2.1 < 2 ^ (lenS l).2.2
  k : (lenS l).2.2 ≤ 5
  ex : exL (lenS l).1 = (lenS l).2.2
  low : l = lowL (lenS l).1 + (lenS l).2.1
  up : ∀ s, (lenS l).1 < s → s ≤ 285 → l < lowL s
theorem lenS_ok (l : Nat) (h0 : 3 ≤ l) (h1 : l ≤ 258) : LenOk l := by
  have h : ∀ i : Fin 256, 257 ≤ (lenS (3 + i)).1 ∧ (lenS (3 + i)).1 ≤ 285 ∧ (lenS (3 + i)).2.1 < 2 ^ (lenS (3 + i)).2.2 ∧ (lenS (3 + i)).2.2 ≤ 5 ∧ exL (lenS (3 + i)).1 = (lenS (3 + i)).2.2 ∧ 3 + i.val = lowL (lenS (3 + i)).1 + (lenS (3 + i)).2.1 ∧
      ∀ s : Fin 29, (lenS (3 + i)).1 < 257 + s.val → 3 + i.val < lowL (257 + s.val) := by decide +kernel
  have h2 := h ⟨l - 3, by omega⟩
  simp only [show 3 + (l - 3) = l by omega] at h2
  obtain ⟨a, b, c, d, e, f, g⟩ := h2
  refine ⟨a, b, c, d, e, f, fun s hs1 hs2 => ?_⟩
  have := g ⟨s - 257, by omega⟩
  simp only [show 257 + (s - 257) = s by omega] at this
  exact this hs1
structure DisOk (d : Nat) : Prop where
  s1 : (disS d).1 < 30
  m : (disS d).2.1 < 2 ^ (disS d).2.2
  k : (disS d).2.2 ≤ 13
  ex : exD (disS d).1 = (disS d).2.2
  low : d = lowD (disS d).1 + (disS d).2.1
  up : ∀ s, (disS d).1 < s → s < 30 → d < lowD s
theorem lowD_mono (a b : Nat) (h : a ≤ b) (hb : b < 30) : lowD a ≤ lowD b := by
  have h1 : ∀ a b : Fin 30, a.val ≤ b.val → lowD a.val ≤ lowD b.val := by decide +kernel
  exact h1 ⟨a, by omega⟩ ⟨b, hb⟩ h
theorem bitLen_of (q k : Nat) (h0 : 2 ^ k ≤ q) (h1 : q < 2 ^ (k + 1)) (hk : k < 60) : Lib.bitLen q = k + 1 := by
  have aux : ∀ f k q : Nat, k < f → 2 ^ k ≤ q → q < 2 ^ (k + 1) → Lib.bitLenAux f q = k + 1 := by
    intro f
    induction f with
    | zero => intro k q h; omega
    | succ f ih =>
      intro k q hf h0 h1
      have hq : q ≠ 0 := by have := Nat.two_pow_pos k; omega
      unfold Lib.bitLenAux
      rw [if_neg hq]
      cases k with
      | zero =>
        have : q = 1 := by simp at h0 h1; omega
        subst this
        cases f with
        | zero => rfl
        | succ f => rfl
      | succ k =>
        rw [ih k (q / 2) (by omega) (by rw [Nat.pow_succ] at h0; omega) (by rw [Nat.pow_succ] at h1; omega)]
        omega
  exact aux 64 k q (by omega) h0 h1
theorem pow_between (q : Nat) (h : q < 32768) (h4 : 4 ≤ q) : ∃ k, 1 ≤ k ∧ k ≤ 13 ∧ 2 ^ (k + 1) ≤ q ∧ q < 2 ^ (k + 2) := by
  have aux : ∀ j, 2 ^ 2 ≤ q → q < 2 ^ (2 + j) → ∃ k, 1 ≤ k ∧ k ≤ j ∧ 2 ^ (k + 1) ≤ q ∧ q < 2 ^ (k + 2) := by
    intro j
    induction j with
    | zero => intro a b; simp at a b; omega
    | succ j ih =>
      intro a b
      by_cases c : q < 2 ^ (2 + j)
      · obtain ⟨k, p⟩ := ih a c
        exact ⟨k, p.1, by omega, p.2.2⟩
      · exact ⟨j + 1, by omega, Nat.le_refl _, by rw [show j + 1 + 1 = 2 + j by omega]; omega, by rw [show j + 1 + 2 = 2 + (j + 1) by omega]; exact b⟩
  exact aux 13 h4 h
theorem disS_ok (d : Nat) (h0 : 1 ≤ d) (h1 : d ≤ 32768) : DisOk d := by
  by_cases h4 : d - 1 < 4
  · have h : ∀ i : Fin 4, (disS (1 + i)).1 < 30 ∧ (disS (1 + i)).2.1 < 2 ^ (disS (1 + i)).2.2 ∧ (disS (1 + i)).2.2 ≤ 13 ∧ exD (disS (1 + i)).1 = (disS (1 + i)).2.2 ∧ 1 + i.val = lowD (disS (1 + i)).1 + (disS (1 + i)).2.1 ∧
        ∀ s : Fin 30, (disS (1 + i)).1 < s.val → 1 + i.val < lowD s.val := by decide +kernel
    have h2 := h ⟨d - 1, h4⟩
    simp only [show 1 + (d - 1) = d by omega] at h2
    obtain ⟨a, b, c, e, f, g⟩ := h2
    exact ⟨a, b, c, e, f, fun s hs1 hs2 => g ⟨s, hs2⟩ hs1⟩
  · obtain ⟨k, k1, k13, hlo, hhi⟩ := pow_between (d - 1) (by omega) (by omega)
    have hb : Lib.bitLen (d - 1) = k + 2 := bitLen_of (d - 1) (k + 1) hlo hhi (by omega)
    have hP := Nat.two_pow_pos k
    have e1 : 2 ^ (k + 1) = 2 * 2 ^ k := by rw [Nat.pow_succ]; omega
    have e2 : 2 ^ (k + 2) = 4 * 2 ^ k := by rw [Nat.pow_add]; omega
    have hdm := Nat.div_add_mod (d - 1) (2 ^ k)
    have hml := Nat.mod_lt (d - 1) hP
    have hq2 : (d - 1) / 2 ^ k = 2 ∨ (d - 1) / 2 ^ k = 3 := by
      have a1 : 2 ≤ (d - 1) / 2 ^ k := (Nat.le_div_iff_mul_le hP).2 (by omega)
      have a2 : (d - 1) / 2 ^ k < 4 := (Nat.div_lt_iff_lt_mul hP).2 (by omega)
      omega
    have hS : disS d = (2 * (k + 1) + (d - 1) / 2 ^ k - 2, (d - 1) % 2 ^ k, k) := by
      unfold disS
      rw [if_neg h4, hb]
      rfl
    rcases hq2 with hq | hq
    · rw [hq] at hS hdm
      have hs : (disS d).1 = 2 * k + 2 := by rw [hS]; show 2 * (k + 1) + 2 - 2 = _; omega
      have hlow : lowD (2 * k + 2) = 1 + 2 * 2 ^ k := by
        unfold lowD
        rw [if_neg (by omega), show (2 * k + 2) % 2 = 0 by omega, show (2 * k + 2) / 2 - 1 = k by omega]
      have hlow2 : lowD (2 * k + 3) = 1 + 3 * 2 ^ k := by
        unfold lowD
        rw [if_neg (by omega), show (2 * k + 3) % 2 = 1 by omega, show (2 * k + 3) / 2 - 1 = k by omega]
      refine ⟨by rw [hs]; omega, by rw [hS]; exact hml, by rw [hS]; exact k13, ?_, ?_, fun s s1 s2 => ?_⟩
      · rw [hs, hS]; unfold exD; rw [if_neg (by omega)]; show _ = k; omega
      · rw [hs, hlow, hS]; show d = 1 + 2 * 2 ^ k + (d - 1) % 2 ^ k; omega
      · rw [hs] at s1
        have := lowD_mono (2 * k + 3) s (by omega) s2
        rw [hlow2] at this
        omega
    · rw [hq] at hS hdm
      have hs : (disS d).1 = 2 * k + 3 := by rw [hS]; show 2 * (k + 1) + 3 - 2 = _; omega
      have hlow : lowD (2 * k + 3) = 1 + 3 * 2 ^ k := by
        unfold lowD
        rw [if_neg (by omega), show (2 * k + 3) % 2 = 1 by omega, show (2 * k + 3) / 2 - 1 = k by omega]
      have hlow2 : lowD (2 * k + 4) = 1 + 4 * 2 ^ k := by
        unfold lowD
        rw [if_neg (by omega), show (2 * k + 4) % 2 = 0 by omega, show (2 * k + 4) / 2 - 1 = k + 1 by omega, e1]
        omega
      refine ⟨by rw [hs]; omega, by rw [hS]; exact hml, by rw [hS]; exact k13, ?_, ?_, fun s s1 s2 => ?_⟩
      · rw [hs, hS]; unfold exD; rw [if_neg (by omega)]; show _ = k; omega
      · rw [hs, hlow, hS]; show d = 1 + 3 * 2 ^ k + (d - 1) % 2 ^ k; omega
      · rw [hs] at s1
        have := lowD_mono (2 * k + 4) s (by omega) s2
        rw [hlow2] at this
        omega
/-- What a token of a text is. -/
structure TkOk (k : Tk) : Prop where
  b : 0 ≤ k.b ∧ k.b < 256
  l : k.l = 0 ∨ (3 ≤ k.l ∧ k.l ≤ 258 ∧ 1 ≤ k.d ∧ k.d ≤ 32768)
theorem scan_ok (t : List Int) (a : Nat) : ∀ x lk bl bd, x ≤ a → (bl = 0 ∨ (3 ≤ bl ∧ bl ≤ 258 ∧ 1 ≤ bd ∧ bd ≤ 32768)) →
    ((scan t a x lk bl bd).1 = 0 ∨ (3 ≤ (scan t a x lk bl bd).1 ∧ (scan t a x lk bl bd).1 ≤ 258 ∧ 1 ≤ (scan t a x lk bl bd).2 ∧ (scan t a x lk bl bd).2 ≤ 32768))
  | 0, _, _, _, _, h => h
  | x + 1, lk, bl, bd, hx, h => by
    unfold scan
    split
    · rename_i hb
      split
      · exact scan_ok t a x lk bl bd (by omega) h
      · split
        · exact scan_ok t a x (lk + 1) _ _ (by omega) (.inr ⟨by omega, alk_le t x a, by omega, hb.1⟩)
        · exact scan_ok t a x (lk + 1) bl bd (by omega) h
    · exact h
theorem tok_ok (t : List Int) (ht : ∀ z ∈ t, 0 ≤ z ∧ z < 256) (a : Nat) : TkOk (tok t a) := by
  have h := scan_ok t a a 0 0 0 (Nat.le_refl _) (.inl rfl)
  have hg : ∀ i, 0 ≤ t.getD i 0 ∧ t.getD i 0 < 256 := fun i => by
    by_cases hi : i < t.length
    · have := ht (t[i]) (List.getElem_mem hi)
      simpa [List.getD_eq_getElem?_getD, hi] using this
    · have : t.getD i 0 = 0 := by simp [List.getD_eq_getElem?_getD, List.getElem?_eq_none (Nat.le_of_not_lt hi)]
      rw [this]; omega
  unfold tok
  split
  · exact ⟨hg a, .inl rfl⟩
  · rename_i h0
    exact ⟨by show (0 : Int) ≤ 0 ∧ (0 : Int) < 256; omega, .inr (h.resolve_left h0)⟩
theorem toksF_ok (t : List Int) (ht : ∀ z ∈ t, 0 ≤ z ∧ z < 256) : ∀ f a, ∀ k ∈ toksF t f a, TkOk k
  | 0, _, k, h => by simp [toksF] at h
  | f + 1, a, k, h => by
    unfold toksF at h
    split at h
    · rcases List.mem_cons.1 h with e | e
      · rw [e]; exact tok_ok t ht a
      · exact toksF_ok t ht f _ k e
    · simp at h
theorem toks_ok (t : List Int) (ht : ∀ z ∈ t, 0 ≤ z ∧ z < 256) : ∀ k ∈ toks t, TkOk k := toksF_ok t ht _ _
theorem toksF_len (t : List Int) : ∀ f a, (toksF t f a).length ≤ f
  | 0, _ => Nat.le_refl _
  | f + 1, a => by
    unfold toksF
    split
    · have := toksF_len t f (a + max (tok t a).l 1); simp only [List.length_cons]; omega
    · simp
theorem toks_len (t : List Int) : (toks t).length ≤ t.length := toksF_len t _ _

/-- A sign's code behind bits; a token; all of a text as a block of kind 1. -/
def sgB (L : List Int) (b : Bs) (s : Nat) : Bs := b.put (rv (code L s) (L.getD s 0).toNat) (L.getD s 0).toNat
section
variable (A B : List Int)
def tokB (b : Bs) (k : Tk) : Bs :=
  if k.l = 0 then sgB A b k.b.toNat
  else (sgB B ((sgB A b (lenS k.l).1).put (lenS k.l).2.1 (lenS k.l).2.2) (disS k.d).1).put (disS k.d).2.1 (disS k.d).2.2
def fixB' (t : List Int) : Bs := sgB A ((toks t).foldl (tokB A B) ⟨3, 3⟩) 256
def fixedL (t : List Int) : List Int := leB (fixB' A B t).V (((fixB' A B t).N + 7) / 8)
end
/-- A text as a block of kind 0. -/
def plainL (t : List Int) : List Int := [1, ((t.length % 256 : Nat) : Int), ((t.length / 256 : Nat) : Int), ((255 - t.length % 256 : Nat) : Int), ((255 - t.length / 256 : Nat) : Int)] ++ t
theorem plainL_len (t : List Int) : (plainL t).length = 5 + t.length := by simp [plainL]; omega
end Go.Proofs.YtiaiopdiooobiaaDoor.My

/- The fixed lengths: how many, and how great; what tokens come to in bits. -/
namespace Go.Proofs.YtiaiopdiooobiaaDoor.My
open Go.RowKit Go.Proofs.YtiaiopdiooobiaaDoor.Huf
set_option maxRecDepth 100000
set_option linter.unusedVariables false
set_option linter.unusedSimpArgs false
def fixD : List Int := dists ++ [5, 5]
theorem letters_len' : letters.length = 288 := by decide +kernel
theorem fixD_len' : fixD.length = 32 := by decide +kernel
def Bs.ok (b : Bs) : Prop := b.V < 2 ^ b.N
theorem Bs.put_ok {b : Bs} (h : b.ok) {x n : Nat} (hx : x < 2 ^ n) : (b.put x n).ok := val_lt h hx
def L15 (L : List Int) : Prop := ∀ s, (L.getD s 0).toNat ≤ 15
theorem sg_ok {L : List Int} (h15 : L15 L) {b : Bs} (h : b.ok) (s : Nat) : (sgB L b s).ok := Bs.put_ok h (rv_lt _ _ (by have := h15 s; omega))
theorem sg_N {L : List Int} (h15 : L15 L) (b : Bs) (s : Nat) : (sgB L b s).N ≤ b.N + 15 := by have := h15 s; show b.N + _ ≤ _; omega
theorem letters15 : L15 letters := by
  intro s
  by_cases h : s < 288
  · have : ∀ i : Fin 288, (letters.getD i.val 0).toNat ≤ 15 := by decide +kernel
    exact this ⟨s, h⟩
  · rw [List.getD_eq_getElem?_getD, List.getElem?_eq_none (by rw [letters_len']; omega)]; decide
theorem fixD15 : L15 fixD := by
  intro s
  by_cases h : s < 32
  · have : ∀ i : Fin 32, (fixD.getD i.val 0).toNat ≤ 15 := by decide +kernel
    exact this ⟨s, h⟩
  · rw [List.getD_eq_getElem?_getD, List.getElem?_eq_none (by rw [fixD_len']; omega)]; decide
theorem tokB_N (b : Bs) {k : Tk} (hk : TkOk k) : (tokB letters fixD b k).N ≤ b.N + 60 := by
  unfold tokB
  split
  · have := sg_N letters15 b k.b.toNat; omega
  · rename_i h
    obtain ⟨h1, h2, h3, h4⟩ := hk.l.resolve_left h
    have a := (lenS_ok k.l h1 h2).k
    have c := (disS_ok k.d h3 h4).k
    have n1 := sg_N letters15 b (lenS k.l).1
    have n3 := sg_N fixD15 ((sgB letters b (lenS k.l).1).put (lenS k.l).2.1 (lenS k.l).2.2) (disS k.d).1
    show (sgB fixD ((sgB letters b (lenS k.l).1).put (lenS k.l).2.1 (lenS k.l).2.2) (disS k.d).1).N + (disS k.d).2.2 ≤ _
    have n2 : ((sgB letters b (lenS k.l).1).put (lenS k.l).2.1 (lenS k.l).2.2).N = (sgB letters b (lenS k.l).1).N + (lenS k.l).2.2 := rfl
    omega
theorem tokB_ok {b : Bs} (hb : b.ok) {k : Tk} (hk : TkOk k) : (tokB letters fixD b k).ok ∧ (tokB letters fixD b k).N ≤ b.N + 60 := by
  unfold tokB
  split
  · exact ⟨sg_ok letters15 hb _, by have := sg_N letters15 b k.b.toNat; omega⟩
  · rename_i h
    obtain ⟨h1, h2, h3, h4⟩ := hk.l.resolve_left h
    have hl := lenS_ok k.l h1 h2
    have hd := disS_ok k.d h3 h4
    have o1 := sg_ok letters15 hb (lenS k.l).1
    have o2 := Bs.put_ok o1 hl.m
    have o3 := sg_ok fixD15 o2 (disS k.d).1
    refine ⟨Bs.put_ok o3 hd.m, ?_⟩
    have n1 := sg_N letters15 b (lenS k.l).1
    have n3 := sg_N fixD15 ((sgB letters b (lenS k.l).1).put (lenS k.l).2.1 (lenS k.l).2.2) (disS k.d).1
    have a := hl.k
    have c := hd.k
    show (sgB fixD ((sgB letters b (lenS k.l).1).put (lenS k.l).2.1 (lenS k.l).2.2) (disS k.d).1).N + (disS k.d).2.2 ≤ _
    have n2 : ((sgB letters b (lenS k.l).1).put (lenS k.l).2.1 (lenS k.l).2.2).N = (sgB letters b (lenS k.l).1).N + (lenS k.l).2.2 := rfl
    omega
theorem fold_ok : ∀ (T : List Tk), (∀ k ∈ T, TkOk k) → ∀ b : Bs, b.ok → (T.foldl (tokB letters fixD) b).ok ∧ (T.foldl (tokB letters fixD) b).N ≤ b.N + 60 * T.length
  | [], _, b, hb => ⟨hb, by simp⟩
  | k :: T, hT, b, hb => by
    have h1 := tokB_ok hb (hT k (by simp))
    have h2 := fold_ok T (fun x hx => hT x (by simp [hx])) _ h1.1
    exact ⟨h2.1, by have := h1.2; have := h2.2; simp only [List.foldl_cons, List.length_cons]; omega⟩
/-- A text by mode 0, or by mode 1. -/
def pkL (t : List Int) (m : Int) : List Int := if m = 0 then plainL t else fixedL letters fixD t
/-- A text, packed by a mode from 0 to 2. -/
def deflL (t : List Int) (m : Int) : List Int := if m = 2 ∧ (plainL t).length < (fixedL letters fixD t).length then plainL t else pkL t (min m 1)
end Go.Proofs.YtiaiopdiooobiaaDoor.My

/- What is put is there, plainly. No program in sight but for the words of bits. -/
namespace Go.Proofs.YtiaiopdiooobiaaDoor.My
open Go.RowKit Go.Proofs.YtiaiopdiooobiaaDoor.Huf
set_option maxRecDepth 100000
set_option linter.unusedVariables false
set_option linter.unusedSimpArgs false

def slen (L D : List Int) : Nat := (D.map fun s => (L.getD s.toNat 0).toNat).sum
/-- Signs whose codes are written behind one another are this number, of so many bits. -/
inductive Enc (L : List Int) : Nat → Nat → List Int → Prop
  | nil : Enc L 0 0 []
  | snoc (V N s n : Nat) (D : List Int) (h : Enc L V N D) (hs : Has L s n) (hc : code L s < 2 ^ n) (h15 : n ≤ 15) : Enc L (V + rv (code L s) n * 2 ^ N) (N + n) (D ++ [(s : Int)])
theorem bv_test (V i : Nat) : bv V i = if V.testBit i then 1 else 0 := by
  unfold bv
  rw [Nat.testBit_eq_decide_div_mod_eq]
  have := Nat.mod_lt (V / 2 ^ i) (show 0 < 2 by decide)
  by_cases h : V / 2 ^ i % 2 = 1
  · simp [h]
  · simp [h]; omega
theorem bv_low (V x N j : Nat) (hj : j < N) : bv (V + x * 2 ^ N) j = bv V j := by
  unfold bv
  obtain ⟨d, rfl⟩ : ∃ d, N = j + (d + 1) := ⟨N - j - 1, by omega⟩
  rw [Nat.pow_add, ← Nat.mul_assoc, Nat.mul_right_comm, Nat.add_mul_div_right _ _ (Nat.two_pow_pos _), Nat.pow_succ, ← Nat.mul_assoc, Nat.add_mul_mod_self_right]
theorem bv_high (V x N j : Nat) (hV : V < 2 ^ N) : bv (V + x * 2 ^ N) (N + j) = bv x j := by
  unfold bv
  rw [Nat.pow_add, ← Nat.div_div_eq_div_mul, Nat.add_mul_div_right _ _ (Nat.two_pow_pos _), Nat.div_eq_of_lt hV, Nat.zero_add]
theorem cd_congr (V V' a a' : Nat) : ∀ n, (∀ j, j < n → bv V (a + j) = bv V' (a' + j)) → cd V a n = cd V' a' n
  | 0, _ => rfl
  | n + 1, h => by rw [cd, cd, cd_congr V V' a a' n (fun j hj => h j (by omega)), h n (by omega)]
/-- The bits of a code, the highest one first, are the code. -/
theorem cd_rv (c n : Nat) (hn : n ≤ 32) (hc : c < 2 ^ n) : cd (rv c n) 0 n = c := by
  have aux : ∀ k, k ≤ n → cd (rv c n) 0 k = c / 2 ^ (n - k) := by
    intro k
    induction k with
    | zero => intro _; rw [cd, Nat.sub_zero, Nat.div_eq_of_lt hc]
    | succ k ih =>
      intro hk
      rw [cd, ih (by omega), Nat.zero_add, bv_test, rv_bit c n k hn]
      have e : n - k = (n - (k + 1)) + 1 := by omega
      have e2 : n - 1 - k = n - (k + 1) := by omega
      rw [e, Nat.pow_succ, ← Nat.div_div_eq_div_mul, e2]
      have h1 : c.testBit (n - (k + 1)) = decide (c / 2 ^ (n - (k + 1)) % 2 = 1) := Nat.testBit_eq_decide_div_mod_eq
      rw [h1]
      generalize c / 2 ^ (n - (k + 1)) = q
      have := Nat.mod_lt q (show 0 < 2 by decide)
      by_cases h : q % 2 = 1
      · simp [h, show k < n by omega]; omega
      · simp [h, show k < n by omega]; omega
  have := aux n (Nat.le_refl _)
  simpa using this
theorem slen_snoc (L D : List Int) (s n : Nat) (h : L.getD s 0 = (n : Int)) : slen L (D ++ [(s : Int)]) = slen L D + n := by
  unfold slen
  rw [List.map_append, List.sum_append]
  simp only [List.map_cons, List.map_nil, List.sum_cons, List.sum_nil, Int.toNat_natCast, h, Nat.add_zero]
theorem enc_len {L : List Int} {V N : Nat} {D : List Int} (h : Enc L V N D) : N = slen L D ∧ V < 2 ^ N := by
  induction h with
  | nil => exact ⟨rfl, by decide⟩
  | snoc V N s n D h hs hc h15 ih =>
    refine ⟨by rw [slen_snoc L D s n hs.2.2, ih.1], ?_⟩
    have h1 := rv_lt (code L s) n (by omega)
    have h2 : (rv (code L s) n + 1) * 2 ^ N ≤ 2 ^ n * 2 ^ N := Nat.mul_le_mul_right _ h1
    rw [Nat.pow_add, Nat.mul_comm (2 ^ N) (2 ^ n)]
    rw [Nat.add_mul, Nat.one_mul] at h2
    have := ih.2
    omega
/-- At each sign's place its code begins what is left. -/
theorem enc_at {L : List Int} {V N : Nat} {D : List Int} (h : Enc L V N D) : ∀ i, i < D.length → ∃ (s n : Nat), D.getD i 0 = (s : Int) ∧ Has L s n ∧ slen L (D.take i) + n ≤ N ∧ slen L (D.take (i + 1)) = slen L (D.take i) + n ∧ cd V (slen L (D.take i)) n = code L s := by
  induction h with
  | nil => intro i hi; simp at hi
  | snoc V N s n D h hs hc h15 ih =>
    intro i hi
    rw [List.length_append, List.length_singleton] at hi
    have hl := enc_len h
    by_cases e : i < D.length
    · obtain ⟨t, m, h1, h2, h3, h4, h5⟩ := ih i e
      refine ⟨t, m, ?_, h2, ?_, ?_, ?_⟩
      · rw [← h1, List.getD_eq_getElem?_getD, List.getElem?_append_left e, ← List.getD_eq_getElem?_getD]
      · rw [List.take_append_of_le_length (by omega)]; omega
      · rw [List.take_append_of_le_length (by omega), List.take_append_of_le_length (by omega)]; exact h4
      · rw [List.take_append_of_le_length (by omega), ← h5]
        exact cd_congr _ _ _ _ m (fun j hj => bv_low V _ N _ (by omega))
    · obtain rfl : i = D.length := by omega
      have e1 : (D ++ [(s : Int)]).take D.length = D := by simp
      have e2 : (D ++ [(s : Int)]).take (D.length + 1) = D ++ [(s : Int)] := List.take_of_length_le (by simp)
      refine ⟨s, n, by simp, hs, ?_, ?_, ?_⟩
      · rw [e1, ← hl.1]; omega
      · rw [e2, e1, slen_snoc L D s n hs.2.2]
      · rw [e1, ← hl.1]
        exact (cd_congr _ (rv (code L s) n) N 0 n (fun j hj => (bv_high V _ N j hl.2).trans (by rw [Nat.zero_add]))).trans (cd_rv (code L s) n (by omega) hc)
end Go.Proofs.YtiaiopdiooobiaaDoor.My

/- What is packed is unpacked, plainly: the inflater over bits that the packer wrote. No walk in sight. -/
namespace Go.Proofs.YtiaiopdiooobiaaDoor.My
open Go.RowKit Go.Proofs.YtiaiopdiooobiaaDoor.Inf Go.Proofs.YtiaiopdiooobiaaDoor.Huf
set_option maxRecDepth 100000
set_option linter.unusedVariables false
set_option linter.unusedSimpArgs false

/-- These bits are the number's first ones. -/
def Ext (b : Bs) (V : Nat) : Prop := ∃ x, V = b.V + x * 2 ^ b.N
theorem Ext.left {b : Bs} {x n V : Nat} (h : Ext (b.put x n) V) : Ext b V := by
  obtain ⟨y, hy⟩ := h
  refine ⟨x + y * 2 ^ n, ?_⟩
  rw [hy]
  show b.V + x * 2 ^ b.N + y * 2 ^ (b.N + n) = _
  rw [Nat.pow_add, Nat.add_mul, Nat.mul_assoc y, Nat.mul_comm (2 ^ n), Nat.add_assoc]
theorem numb_at {b : Bs} (hb : b.ok) {x n V : Nat} (hx : x < 2 ^ n) (h : Ext (b.put x n) V) : V / 2 ^ b.N % 2 ^ n = x := by
  obtain ⟨y, hy⟩ := h
  have e : V = b.V + (x + y * 2 ^ n) * 2 ^ b.N := by
    rw [hy]
    show b.V + x * 2 ^ b.N + y * 2 ^ (b.N + n) = _
    rw [Nat.pow_add, Nat.add_mul, Nat.mul_assoc y, Nat.mul_comm (2 ^ n), Nat.add_assoc]
  rw [e, Nat.add_mul_div_right _ _ (Nat.two_pow_pos _), Nat.div_eq_of_lt hb, Nat.zero_add, Nat.add_mul_mod_self_right, Nat.mod_eq_of_lt hx]
theorem cd_at {b : Bs} (hb : b.ok) {c n V : Nat} (hc : c < 2 ^ n) (hn : n ≤ 32) (h : Ext (b.put (rv c n) n) V) : cd V b.N n = c := by
  obtain ⟨y, hy⟩ := h
  have e : V = b.V + (rv c n + y * 2 ^ n) * 2 ^ b.N := by
    rw [hy]
    show b.V + rv c n * 2 ^ b.N + y * 2 ^ (b.N + n) = _
    rw [Nat.pow_add, Nat.add_mul, Nat.mul_assoc y, Nat.mul_comm (2 ^ n), Nat.add_assoc]
  refine (cd_congr V (rv c n) b.N 0 n (fun j hj => ?_)).trans (cd_rv c n hn hc)
  rw [e, bv_high _ _ _ _ hb, bv_low _ _ _ _ hj, Nat.zero_add]
section
variable {V lb : Nat} {lim : Int} {b : Bs} {out : List Int} {st : Nat}
theorem number_at (hb : b.ok) {x n : Nat} (hx : x < 2 ^ n) (h : Ext (b.put x n) V) (hl : b.N + n ≤ 8 * lb) : number V lb n ⟨b.N, out, st⟩ = .ok x ⟨b.N + n, out, st⟩ := by
  unfold number
  rw [if_pos hl]
  show Res.ok (V / 2 ^ b.N % 2 ^ n) _ = _
  rw [numb_at hb hx h]
theorem far_at (hb : b.ok) (L : List Int) (s n : Nat) (hs : Has L s n) (hc : code L s < 2 ^ n) (h15 : n ≤ 15) (h : Ext (sgB L b s) V) (hl : b.N + n ≤ 8 * lb) : far V lb L ⟨b.N, out, st⟩ = .ok (s : Int) ⟨b.N + n, out, st⟩ := by
  have hn : (L.getD s 0).toNat = n := by rw [hs.2.2, Int.toNat_natCast]
  have h' : Ext (b.put (rv (code L s) n) n) V := by
    have := h
    unfold sgB at this
    rw [hn] at this
    exact this
  have ht := tk_of V (L := L) (a := b.N) (left := 8 * lb - b.N) (TakeR.sign s n ⟨hs, by omega, (cd_at hb hc (by omega) h').symm⟩)
  unfold far
  simp only [ht]
end
theorem hasA (s : Nat) (hs : s < 288) : Has letters s (letters.getD s 0).toNat ∧ code letters s < 2 ^ (letters.getD s 0).toNat ∧ 7 ≤ (letters.getD s 0).toNat ∧ (letters.getD s 0).toNat ≤ 15 := by
  have h : ∀ s : Fin 288, 7 ≤ letters.getD s.val 0 ∧ letters.getD s.val 0 ≤ 15 ∧ code letters s.val < 2 ^ (letters.getD s.val 0).toNat := by decide +kernel
  have k := h ⟨s, hs⟩
  simp only at k
  exact ⟨⟨by rw [letters_len']; exact hs, by omega, by omega⟩, k.2.2, by omega, by omega⟩
theorem hasB (s : Nat) (hs : s < 32) : Has fixD s (fixD.getD s 0).toNat ∧ code fixD s < 2 ^ (fixD.getD s 0).toNat ∧ (fixD.getD s 0).toNat ≤ 15 := by
  have h : ∀ s : Fin 32, 1 ≤ fixD.getD s.val 0 ∧ fixD.getD s.val 0 ≤ 15 ∧ code fixD s.val < 2 ^ (fixD.getD s.val 0).toNat := by decide +kernel
  have k := h ⟨s, hs⟩
  simp only at k
  exact ⟨⟨by rw [fixD_len']; exact hs, by omega, by omega⟩, k.2.2, by omega⟩
section
variable {V lb : Nat} {lim : Int} {b : Bs} {out : List Int} {st : Nat}
theorem put_zero (b : Bs) : b.put 0 0 = b := by cases b; simp [Bs.put]
theorem length_at (hb : b.ok) {l : Nat} (hL : LenOk l) (h : Ext (b.put (lenS l).2.1 (lenS l).2.2) V) (hl : b.N + (lenS l).2.2 ≤ 8 * lb) : Inf.length V lb ((lenS l).1 : Nat) ⟨b.N, out, st⟩ = .ok l ⟨b.N + (lenS l).2.2, out, st⟩ := by
  obtain ⟨s0, s1, hm, hk, hex, hlow, _⟩ := hL
  generalize (lenS l).1 = s at *
  generalize (lenS l).2.1 = m at *
  generalize (lenS l).2.2 = q at *
  unfold Inf.length
  rw [if_neg (by omega)]
  by_cases h285 : s = 285
  · subst h285
    have hq : q = 0 := by rw [← hex]; rfl
    subst hq
    have hm0 : m = 0 := by simpa using hm
    subst hm0
    rw [if_pos (show ((285 : Nat) : Int) = 285 from rfl), hlow]
    rfl
  · rw [if_neg (by omega)]
    have e1 : ((s : Int) - 257).toNat = s - 257 := by omega
    by_cases h265 : s < 265
    · have hq : q = 0 := by rw [← hex]; unfold exL; rw [if_pos (.inr h265)]
      subst hq
      have hm0 : m = 0 := by simpa using hm
      subst hm0
      have hlw : lowL s = 3 + (s - 257) := by unfold lowL; rw [if_neg h285, if_pos h265]
      rw [if_neg (by omega), e1, hlow, hlw]
      rfl
    · have hq : q = (s - 257) / 4 - 1 := by rw [← hex]; unfold exL; rw [if_neg (by omega)]
      have hlw : lowL s = 3 + (4 + (s - 257) % 4) * 2 ^ ((s - 257) / 4 - 1) := by unfold lowL; rw [if_neg h285, if_neg h265]
      rw [if_pos (by omega), e1, ← hq, number_at hb hm h hl, bind_ok, hlow, hlw, ← hq]
theorem distance_at (hb : b.ok) {d : Nat} (hD : DisOk d) (h : Ext (b.put (disS d).2.1 (disS d).2.2) V) (hl : b.N + (disS d).2.2 ≤ 8 * lb) : Inf.distance V lb ((disS d).1 : Nat) ⟨b.N, out, st⟩ = .ok d ⟨b.N + (disS d).2.2, out, st⟩ := by
  obtain ⟨s1, hm, hk, hex, hlow, _⟩ := hD
  generalize (disS d).1 = s at *
  generalize (disS d).2.1 = m at *
  generalize (disS d).2.2 = q at *
  unfold Inf.distance
  rw [if_neg (by omega)]
  by_cases h4 : s < 4
  · have hq : q = 0 := by rw [← hex]; unfold exD; rw [if_pos h4]
    subst hq
    have hm0 : m = 0 := by simpa using hm
    subst hm0
    have hlw : lowD s = 1 + s := by unfold lowD; rw [if_pos h4]
    rw [if_pos (by omega), Int.toNat_natCast, hlow, hlw]
    rfl
  · have hq : q = s / 2 - 1 := by rw [← hex]; unfold exD; rw [if_neg h4]
    have hlw : lowD s = 1 + (2 + s % 2) * 2 ^ (s / 2 - 1) := by unfold lowD; rw [if_neg h4]
    rw [if_neg (by omega), Int.toNat_natCast, ← hq, number_at hb hm h hl, bind_ok, hlow, hlw, ← hq]
end
/-- The bytes of tokens; how many; each match lies within what is there. -/
def untL : List Tk → List Int → List Int
  | [], out => out
  | k :: T, out => untL T (if k.l = 0 then out ++ [k.b] else Inf.cpy k.d k.l out)
def tot : List Tk → Nat
  | [] => 0
  | k :: T => max k.l 1 + tot T
def vld : List Tk → Nat → Prop
  | [], _ => True
  | k :: T, n => (k.l ≠ 0 → k.d ≤ n) ∧ vld T (n + max k.l 1)
theorem cpy_len' (d : Nat) : ∀ l out, (Inf.cpy d l out).length = out.length + l
  | 0, out => rfl
  | l + 1, out => by rw [Inf.cpy, cpy_len' d l]; simp; omega
theorem fold_ext : ∀ (T : List Tk) (b : Bs) (V : Nat), Ext (T.foldl (tokB letters fixD) b) V → Ext b V
  | [], b, V, h => h
  | k :: T, b, V, h => by
    have h1 := fold_ext T _ V h
    unfold tokB at h1
    split at h1
    · exact h1.left
    · exact h1.left.left.left.left
theorem tokB_N1 (b : Bs) {k : Tk} (hk : TkOk k) : b.N + 1 ≤ (tokB letters fixD b k).N := by
  unfold tokB
  split
  · show b.N + 1 ≤ b.N + _
    have := (hasA k.b.toNat (by have := hk.b; omega)).2.2.1
    omega
  · rename_i h
    obtain ⟨h1, h2, h3, h4⟩ := hk.l.resolve_left h
    have hl := lenS_ok k.l h1 h2
    have := (hasA (lenS k.l).1 (by have := hl.s1; omega)).2.2.1
    show b.N + 1 ≤ b.N + (letters.getD (lenS k.l).1 0).toNat + _ + _ + _
    omega
theorem fold_N : ∀ (T : List Tk), (∀ k ∈ T, TkOk k) → ∀ (b : Bs), b.N + T.length ≤ (T.foldl (tokB letters fixD) b).N
  | [], _, b => Nat.le_refl _
  | k :: T, hT, b => by
    have h1 := fold_N T (fun x hx => hT x (by simp [hx])) (tokB letters fixD b k)
    have h2 := tokB_N1 b (hT k (by simp))
    simp only [List.foldl_cons, List.length_cons]
    omega
theorem sg_len (L : List Int) (b : Bs) (s : Nat) : (sgB L b s).N = b.N + (L.getD s 0).toNat := rfl
theorem coded_run (V lb : Nat) (lim : Int) : ∀ (T : List Tk), (∀ k ∈ T, TkOk k) → ∀ (b : Bs) (out : List Int) (st k : Nat), b.ok → Ext (sgB letters (T.foldl (tokB letters fixD) b) 256) V → (sgB letters (T.foldl (tokB letters fixD) b) 256).N ≤ 8 * lb → T.length < k → vld T out.length →
    coded V lb lim letters fixD k ⟨b.N, out, st⟩ = if T ≠ [] ∧ ((out.length + tot T : Nat) : Int) > lim then .er 3 else .ok () ⟨(sgB letters (T.foldl (tokB letters fixD) b) 256).N, untL T out, st + T.length + 1⟩ := by
  intro T
  induction T with
  | nil =>
    intro hT b out st k hb hE hl hk hv
    obtain ⟨k, rfl⟩ : ∃ j, k = j + 1 := ⟨k - 1, by simp at hk; omega⟩
    have hs := hasA 256 (by decide)
    simp only [List.foldl_nil] at hE hl ⊢
    rw [if_neg (by simp), coded]
    unfold sign
    rw [far_at hb letters 256 _ hs.1 hs.2.1 hs.2.2.2 hE hl, bind_ok, if_pos (show ((256 : Nat) : Int) = 256 from rfl)]
    rfl
  | cons t T ih =>
    intro hT b out st k hb hE hl hk hv
    obtain ⟨k, rfl⟩ : ∃ j, k = j + 1 := ⟨k - 1, by omega⟩
    have hok := hT t (by simp)
    have hT' : ∀ x ∈ T, TkOk x := fun x hx => hT x (by simp [hx])
    simp only [List.foldl_cons] at hE hl ⊢
    have hb1 := (tokB_ok hb hok).1
    have hEf : Ext (T.foldl (tokB letters fixD) (tokB letters fixD b t)) V := hE.left
    have hE1 := fold_ext T _ V hEf
    have hNf := fold_N T hT' (tokB letters fixD b t)
    have hN1 : (tokB letters fixD b t).N ≤ 8 * lb := by rw [sg_len] at hl; omega
    have ih' := ih hT' (tokB letters fixD b t)
    rw [coded]
    unfold sign
    by_cases h0 : t.l = 0
    · obtain ⟨z, hz⟩ := Int.eq_ofNat_of_zero_le hok.b.1
      have hz1 : z < 256 := by have := hok.b.2; omega
      have htk : tokB letters fixD b t = sgB letters b z := by unfold tokB; rw [if_pos h0, hz, Int.toNat_natCast]
      rw [htk] at hE1 hN1 ih' hb1 hl hE hEf ⊢
      have hs := hasA z (by omega)
      rw [far_at hb letters z _ hs.1 hs.2.1 hs.2.2.2 hE1 (by rw [sg_len] at hN1; exact hN1), bind_ok, if_neg (by omega), if_pos (by omega)]
      show (room lim 1 ⟨b.N + (letters.getD z 0).toNat, out, st + 1⟩).bind _ = _
      unfold room
      have htot : tot (t :: T) = 1 + tot T := by show max t.l 1 + tot T = _; rw [h0]; rfl
      by_cases hr : ((1 : Nat) : Int) > lim - (out.length : Int)
      · rw [if_pos hr, bind_er, if_pos ⟨by simp, by rw [htot]; omega⟩]
      · rw [if_neg hr, bind_ok, ← sg_len]
        rw [ih' (out ++ [(z : Int)]) (st + 1) k hb1 hE (by exact hl) (by simp at hk; omega) (by have := hv.2; rw [h0] at this; simpa using this)]
        have hu : untL (t :: T) out = untL T (out ++ [(z : Int)]) := by show untL T (if t.l = 0 then out ++ [t.b] else _) = _; rw [if_pos h0, hz]
        rw [hu, htot]
        simp only [List.length_append, List.length_singleton, List.length_cons]
        by_cases hT0 : T = []
        · subst hT0
          rw [if_neg (by simp), if_neg (by simp [tot]; omega)]
          simp only [List.length_nil]
        · by_cases hc : ((out.length + 1 + tot T : Nat) : Int) > lim
          · rw [if_pos ⟨hT0, hc⟩, if_pos ⟨by simp, by omega⟩]
          · rw [if_neg (fun h => hc h.2), if_neg (fun h => hc (by omega))]
            congr 2
            omega
    · obtain ⟨h1, h3, h4, h5⟩ := hok.l.resolve_left h0
      have htk : tokB letters fixD b t = (sgB fixD ((sgB letters b (lenS t.l).1).put (lenS t.l).2.1 (lenS t.l).2.2) (disS t.d).1).put (disS t.d).2.1 (disS t.d).2.2 := by unfold tokB; rw [if_neg h0]
      rw [htk] at hE1 hN1 ih' hb1 hl hE hEf ⊢
      have hL := lenS_ok t.l h1 h3
      have hD := disS_ok t.d h4 h5
      have o1 := sg_ok letters15 hb (lenS t.l).1
      have o2 := Bs.put_ok o1 hL.m
      have o3 := sg_ok fixD15 o2 (disS t.d).1
      have E3 := hE1.left
      have E2 : Ext ((sgB letters b (lenS t.l).1).put (lenS t.l).2.1 (lenS t.l).2.2) V := E3.left
      have E1 := E2.left
      have hsA := hasA (lenS t.l).1 (by have := hL.s1; omega)
      have hsB := hasB (disS t.d).1 (by have := hD.s1; omega)
      have n1 : (sgB letters b (lenS t.l).1).N = b.N + (letters.getD (lenS t.l).1 0).toNat := rfl
      have n2 : ((sgB letters b (lenS t.l).1).put (lenS t.l).2.1 (lenS t.l).2.2).N = (sgB letters b (lenS t.l).1).N + (lenS t.l).2.2 := rfl
      have n3 : (sgB fixD ((sgB letters b (lenS t.l).1).put (lenS t.l).2.1 (lenS t.l).2.2) (disS t.d).1).N = ((sgB letters b (lenS t.l).1).put (lenS t.l).2.1 (lenS t.l).2.2).N + (fixD.getD (disS t.d).1 0).toNat := rfl
      have n4 : ((sgB fixD ((sgB letters b (lenS t.l).1).put (lenS t.l).2.1 (lenS t.l).2.2) (disS t.d).1).put (disS t.d).2.1 (disS t.d).2.2).N = (sgB fixD ((sgB letters b (lenS t.l).1).put (lenS t.l).2.1 (lenS t.l).2.2) (disS t.d).1).N + (disS t.d).2.2 := rfl
      have s0 := hL.s0
      have s1 := hL.s1
      have f1 := far_at (lb := lb) (out := out) (st := st + 1) hb letters _ _ hsA.1 hsA.2.1 hsA.2.2.2 E1 (by omega)
      have f2 := length_at (lb := lb) (out := out) (st := st + 1) o1 hL E2 (by omega)
      have f3 := far_at (lb := lb) (out := out) (st := st + 1) o2 fixD _ _ hsB.1 hsB.2.1 hsB.2.2 E3 (by omega)
      have f4 := distance_at (lb := lb) (out := out) (st := st + 1) o3 hD hE1 (by omega)
      rw [f1, bind_ok, if_neg (by omega), if_neg (by omega), ← n1, f2, bind_ok, ← n2, f3, bind_ok, ← n3, f4, bind_ok, ← n4]
      have hdo : t.d ≤ out.length := hv.1 h0
      unfold again
      rw [if_neg (by show ¬ out.length < t.d; omega)]
      show ((room lim t.l ⟨_, out, st + 1⟩).bind _).bind _ = _
      unfold room
      have htot : tot (t :: T) = t.l + tot T := by show max t.l 1 + tot T = _; omega
      by_cases hr : ((t.l : Nat) : Int) > lim - (out.length : Int)
      · rw [if_pos hr, bind_er, bind_er, if_pos ⟨by simp, by rw [htot]; omega⟩]
      · rw [if_neg hr, bind_ok, bind_ok]
        rw [ih' (Inf.cpy t.d t.l out) (st + 1) k hb1 hE (by exact hl) (by simp at hk; omega) (by have := hv.2; rw [cpy_len']; rwa [show max t.l 1 = t.l by omega] at this)]
        have hu : untL (t :: T) out = untL T (Inf.cpy t.d t.l out) := by show untL T (if t.l = 0 then out ++ [t.b] else _) = _; rw [if_neg h0]
        rw [hu, htot, cpy_len']
        simp only [List.length_cons]
        by_cases hT0 : T = []
        · subst hT0
          rw [if_neg (by simp), if_neg (by simp [tot]; omega)]
          simp only [List.length_nil]
        · by_cases hc : ((out.length + t.l + tot T : Nat) : Int) > lim
          · rw [if_pos ⟨hT0, hc⟩, if_pos ⟨by simp, by omega⟩]
          · rw [if_neg (fun h => hc h.2), if_neg (fun h => hc (by omega))]
            congr 2
            omega
end Go.Proofs.YtiaiopdiooobiaaDoor.My

/- A text's tokens come to the text, plainly. -/
namespace Go.Proofs.YtiaiopdiooobiaaDoor.My
open Go.RowKit Go.Proofs.YtiaiopdiooobiaaDoor.Inf Go.Proofs.YtiaiopdiooobiaaDoor.Huf
set_option maxRecDepth 100000
set_option linter.unusedVariables false
set_option linter.unusedSimpArgs false

theorem scan_src (t : List Int) (a : Nat) : ∀ x lk bl bd, x ≤ a → (bl = 0 ∨ (bl = alk t (a - bd) a ∧ 1 ≤ bd ∧ bd ≤ a)) →
    ((scan t a x lk bl bd).1 = 0 ∨ ((scan t a x lk bl bd).1 = alk t (a - (scan t a x lk bl bd).2) a ∧ 1 ≤ (scan t a x lk bl bd).2 ∧ (scan t a x lk bl bd).2 ≤ a))
  | 0, _, _, _, _, h => h
  | x + 1, lk, bl, bd, hx, h => by
    unfold scan
    split
    · split
      · exact scan_src t a x lk bl bd (by omega) h
      · split
        · exact scan_src t a x (lk + 1) _ _ (by omega) (.inr ⟨by rw [show a - (a - x) = x by omega], by omega, by omega⟩)
        · exact scan_src t a x (lk + 1) bl bd (by omega) h
    · exact h
theorem tok_src (t : List Int) (a : Nat) : (tok t a).l = 0 ∨ ((tok t a).l = alk t (a - (tok t a).d) a ∧ 1 ≤ (tok t a).d ∧ (tok t a).d ≤ a) := by
  have h := scan_src t a a 0 0 0 (Nat.le_refl _) (.inl rfl)
  unfold tok
  split
  · exact .inl rfl
  · exact h
theorem take_snoc (t : List Int) (a : Nat) (h : a < t.length) : t.take a ++ [t.getD a 0] = t.take (a + 1) := by
  rw [List.take_add_one, List.getElem?_eq_getElem h, List.getD_eq_getElem?_getD, List.getElem?_eq_getElem h]
  rfl
theorem cpy_take (t : List Int) (d : Nat) (hd : 1 ≤ d) : ∀ l a, d ≤ a → (∀ i, i < l → a + i < t.length ∧ t.getD (a - d + i) 0 = t.getD (a + i) 0) → Inf.cpy d l (t.take a) = t.take (a + l)
  | 0, a, _, _ => rfl
  | l + 1, a, hda, h => by
    have h0 := h 0 (by omega)
    rw [Nat.add_zero, Nat.add_zero] at h0
    have hla : (t.take a).length = a := by rw [List.length_take]; omega
    have e : (t.take a).getD ((t.take a).length - d) 0 = t.getD a 0 := by
      rw [hla, ← h0.2, List.getD_eq_getElem?_getD, List.getElem?_take, if_pos (by omega), List.getD_eq_getElem?_getD]
    rw [Inf.cpy, e, take_snoc t a h0.1, cpy_take t d hd l (a + 1) (by omega) (fun i hi => by
      have := h (i + 1) (by omega)
      rw [show a + (i + 1) = a + 1 + i by omega, show a - d + (i + 1) = a + 1 - d + i by omega] at this
      exact this)]
    congr 1
    omega
theorem unt_toksF (t : List Int) : ∀ f a, a ≤ t.length → t.length ≤ a + f → untL (toksF t f a) (t.take a) = t ∧ tot (toksF t f a) = t.length - a ∧ vld (toksF t f a) a
  | 0, a, h1, h2 => by
    refine ⟨?_, by show 0 = _; omega, trivial⟩
    show t.take a = t
    exact List.take_of_length_le (by omega)
  | f + 1, a, h1, h2 => by
    unfold toksF
    split
    · rename_i hlt
      have hfit := tok_fits t a hlt
      have ih := unt_toksF t f (a + max (tok t a).l 1) hfit (by omega)
      obtain ⟨q, hq⟩ : ∃ q, q = max (tok t a).l 1 := ⟨_, rfl⟩
      rw [← hq] at ih hfit ⊢
      obtain ⟨i1, i2, i3⟩ := ih
      have htot : tot (tok t a :: toksF t f (a + q)) = t.length - a := by
        show max (tok t a).l 1 + tot _ = _
        rw [i2]
        omega
      by_cases h0 : (tok t a).l = 0
      · have hb : (tok t a).b = t.getD a 0 := by
          unfold tok
          split
          · rfl
          · rename_i hh
            rw [tok_l] at h0
            exact absurd h0 hh
        refine ⟨?_, htot, fun h => absurd h0 h, hq ▸ i3⟩
        show untL (toksF t f _) (if (tok t a).l = 0 then t.take a ++ [(tok t a).b] else _) = t
        rw [if_pos h0, hb, take_snoc t a hlt, show a + 1 = a + q by omega]
        exact i1
      · obtain ⟨e1, e2, e3⟩ := (tok_src t a).resolve_left h0
        refine ⟨?_, htot, fun _ => e3, hq ▸ i3⟩
        show untL (toksF t f _) (if (tok t a).l = 0 then _ else Inf.cpy (tok t a).d (tok t a).l (t.take a)) = t
        rw [if_neg h0, cpy_take t (tok t a).d e2 (tok t a).l a e3 (fun i hi => alk_all t (a - (tok t a).d) a i (by omega)), show a + (tok t a).l = a + q by omega]
        exact i1
    · exact ⟨by show t.take a = t; exact List.take_of_length_le (by omega), by show 0 = _; omega, trivial⟩
theorem unt_toks (t : List Int) : untL (toks t) [] = t ∧ tot (toks t) = t.length ∧ vld (toks t) 0 := by
  have h := unt_toksF t t.length 0 (Nat.zero_le _) (by omega)
  rw [List.take_zero] at h
  exact ⟨h.1, by rw [show tot (toks t) = t.length - 0 from h.2.1]; rfl, h.2.2⟩
end Go.Proofs.YtiaiopdiooobiaaDoor.My

/- The walk of huff.New. -/
namespace Go.Proofs.YtiaiopdiooobiaaDoor.My
open Go.RowKit Go.Proofs.YtiaiopdiooobiaaDoor.Huf Go.Proofs.YtiaiopdiooobiaaDoorW.PrintWords Go.Proofs.YtiaiopdiooobiaaDoorW.PrintLast Go.Proofs.YtiaiopdiooobiaaDoorW.PrintMore
set_option maxRecDepth 100000
set_option linter.unusedVariables false
set_option linter.unusedSimpArgs false

theorem alloc_size (w : World) (o : Obj) : (w.alloc o).heap.size = w.heap.size + 1 := Array.size_push _
theorem upto_one (h : Nat → Nat) (h0 : h 0 = 0) : upto h 1 = tab fun _ => 0 := tab_eq fun k hk => by
  split
  · have : k = 0 := by omega
    subst this; rw [h0]; rfl
  · rfl
theorem cod_new (w : World) (v : Value) (L : List Int) (cs : Array Value) (e : cs = (codCells v (tab fun _ => 0) (tab fun _ => 0) (tab fun _ => 0) (.slice none 0 0) (.slice none 0 0)).toArray) :
    Cod (w.alloc (.cells cs 106)) w.heap.size v (upto (fst L) 1) (tab fun _ => 0) (upto (beg L) 1) (.slice none 0 0) (.slice none 0 0) := by
  rw [upto_one _ rfl, upto_one _ rfl]
  refine ⟨?_, tab_len _, tab_len _, tab_len _⟩
  subst e
  exact alloc_self _ _
set_option maxHeartbeats 2000000 in
set_option maxRecDepth 100000 in
theorem new_calls (w : World) (A : Option Addr) (n c : Nat) (L : List Int) (lone : Bool) (hL : (Kd.int .i64).C w A n L) (hn : n ≤ 1000000) (hl : L.length = n) (hcap : A = none → n = 0 ∧ c = 0) :
    Calls Tryd.prog 41 #[.slice A n c, .bool lone] w fun e w' => ∃ v, e = .returned (.tuple #[v, errV (newR L lone)]) ∧ Below w.heap.size w w' ∧ (newR L lone ≠ none → v = .pointer none) ∧
      (newR L lone = none → ∃ g, v = .pointer (some ⟨g, 0, none⟩) ∧ CodeAt w' w.heap.size w'.heap.size g L) := by
  have HC := Aside0.mk (cloneI_calls A n c L w hL (by omega) hl hcap)
  have h3 : (n : Int) ≤ 1000000 := by omega
  have HLn := Aside0.mk hl
  clear hL hcap hl hn
  go_enter Tryd.func41, Tryd.ntmps41
  go_wp2_with fail
  refine (HC.out).mono ?_
  rintro e w1 ⟨v', rfl, hown, hb1⟩
  have hlt := own_lt hown
  have hge := own_base hown
  obtain ⟨A', c', rfl, _, hC'⟩ := own_slice' hown
  have hR : RB w1 w.heap.size w1.heap.size A' L.length L := ⟨hC', fun ad e => by subst e; exact ⟨hge ad.block rfl, hlt ad.block rfl⟩⟩
  have HR := Aside0.mk hR
  have HB1 := Aside0.mk hb1
  clear hown hlt hge hC' hR hb1
  by_cases h320 : (320 : Int) < (n : Int)
  · have hnew : Aside0 (newR L lone = some 3) := ⟨by unfold newR; rw [if_pos (by have := HLn.out; omega)]⟩
    go_wp2_with fail
    go_ret2
    refine ⟨_, by rw [hnew.out]; rfl, below_alloc HB1.out _, fun _ => rfl, fun h => ?_⟩
    rw [hnew.out] at h; cases h
  · go_wp2_with fail
    refine (count_calls _ w1.heap.size A' L.length c' L (upto (fst L) 1) (upto (beg L) 1) (.slice none 0 0) (.slice none 0 0) (cod_new w1 _ L _ rfl) (HR.out.grown (grown_below (below_alloc (Below.refl _ _) _) none) (fun r e => by cases e)).c (fun ad e => by have := HR.out.b ad e; omega) (by have := HLn.out; omega)).mono ?_
    rintro e w3 ⟨rfl, hg3, hk3⟩
    have HB3 := Aside0.mk (below_grown (below_alloc HB1.out _) hg3 (by have := HB1.out.size; rw [alloc_size]; omega) HB1.out.size)
    have HR3 := Aside0.mk ((HR.out.grown (grown_below (below_alloc (Below.refl _ _) _) none) (fun r e => by cases e)).grown hg3 (fun r e => by cases e; right; exact Nat.le_refl _))
    have hsz : w1.heap.size < w3.heap.size := by have := hg3.size; rw [alloc_size] at this; omega
    have HSZ := Aside0.mk hsz
    have HK3 := Aside0.mk hk3
    clear hg3 hk3 hsz
    have HGE := Aside0.mk HB1.out.size
    generalize hG : w1.heap.size = g at *
    clear hG HB1
    by_cases hok : okL L = true
    · rw [hok]
      have HK4 := Aside0.mk (HK3.out hok)
      have hnb : numR L < 9223372036854775807 := by unfold numR; split <;> omega
      have hnb2 : -9223372036854775807 < numR L := by
        unfold numR
        split
        · omega
        · next hov =>
          have h1 := fst_le L 15 (fun j h1 h2 => over_all L 15 1 (by simpa using hov) j h1 (by omega))
          have h2 := cn_le L 15
          have h3 := HLn.out
          omega
      go_wp2_with fail
      refine (number_calls w3 g _ L _ _ HK4.out (by have := HLn.out; omega)).mono ?_
      rintro e w4 ⟨rfl, hg4, hk4⟩
      have HB4 := Aside0.mk (below_grown HB3.out hg4 HB3.out.size HGE.out)
      have HR4 := Aside0.mk (HR3.out.grown hg4 (fun r e => by cases e; right; exact Nat.le_refl _))
      have HSZ4 := Aside0.mk (Nat.lt_of_lt_of_le HSZ.out hg4.size)
      have HK5 := Aside0.mk hk4
      have hr : Aside0 (numR L = if anyOver L 15 1 then -1 else 32768 - ((fst L 15 + cn L 15 : Nat) : Int)) := ⟨rfl⟩
      clear hg4 hk4
      by_cases hneg : numR L < 0
      · have hnew : Aside0 (newR L lone = some 14) := ⟨by unfold newR; rw [if_neg (by have := HLn.out; omega), if_neg (by rw [hok]; decide), if_pos hneg]⟩
        generalize numR L = q at *
        go_wp2_with fail
        go_ret2
        refine ⟨_, by rw [hnew.out]; rfl, HB4.out, fun _ => rfl, fun h => ?_⟩
        rw [hnew.out] at h; cases h
      · have hov : Aside0 (anyOver L 15 1 = false) := ⟨by
          have h1 := hr.out
          cases h2 : anyOver L 15 1
          · rfl
          · rw [h2] at h1; simp at h1; omega⟩
        have HK6 := Aside0.mk (HK5.out hov.out)
        have hnew : Aside0 (newR L lone = if 0 < numR L ∧ ¬ (lone = true ∧ aloneL L = true) then some 2 else none) := ⟨by unfold newR; rw [if_neg (by have := HLn.out; omega), if_neg (by rw [hok]; decide), if_neg hneg]⟩
        generalize numR L = q at *
        go_wp2_with fail
        refine (sort_calls w4 g A' L.length c' L _ _ HK6.out HR4.out.c (fun ad e => by have := HR4.out.b ad e; omega) (by have := HLn.out; omega) hok hov.out).mono ?_
        rintro e w5 ⟨rfl, hg5, b1, b2, S, hb1, hb2, hb12, hk5, hr1, hS, hr2⟩
        have hb5 := below_grown HB4.out hg5 HB4.out.size HGE.out
        have hr5 := (HR4.out.grown hg5 (fun r e => by cases e; right; exact Nat.le_refl _))
        have hle : (beg L 16) ≤ 1000000 := by have := beg_all L hok 16; have := HLn.out; omega
        have hll : L.length ≤ 1000000 := by have := HLn.out; omega
        have hsz4 := HSZ4.out
        have hsz4b := HB4.out.size
        have hge := HGE.out
        have hca : CodeAt w5 w.heap.size w5.heap.size g L := ⟨A', _, _, c', _, _, S, hk5, hr5.mono (Nat.le_refl _) (by have := hg5.size; omega),
          ⟨by have := hr1.reads (by rw [hS.1]; omega); rw [hS.1] at this; exact this, fun ad e => by cases e; exact ⟨by show _ ≤ b1; omega, hr1.lt⟩⟩,
          ⟨by have := hr2.reads (by rw [nmL_len]; omega); rw [nmL_len] at this; exact this, fun ad e => by cases e; exact ⟨by show _ ≤ b2; omega, hr2.lt⟩⟩, hS, hge, by have := hg5.size; omega⟩
        have HCA := Aside0.mk hca
        have HB5 := Aside0.mk hb5
        clear hg5 hk5 hr1 hS hr2 hb5 hr5 hle hll hsz4 hsz4b hge hca hb1 hb2 hb12
        by_cases hpos : 0 < q
        · cases lone with
          | false =>
            have hn2 : Aside0 (newR L false = some 2) := ⟨by rw [hnew.out, if_pos ⟨hpos, by simp⟩]⟩
            go_wp2_with fail
            go_ret2
            refine ⟨_, by rw [hn2.out]; rfl, HB5.out, fun _ => rfl, fun h => ?_⟩
            rw [hn2.out] at h; cases h
          | true =>
            go_wp2_with fail
            refine (alone_calls w5 _ _ g L HCA.out (by have := HLn.out; omega) hok).mono ?_
            rintro e w6 ⟨rfl, rfl⟩
            cases hal : aloneL L with
            | true =>
              have hn2 : Aside0 (newR L true = none) := ⟨by rw [hnew.out, if_neg (by rw [hal]; simp)]⟩
              go_wp2_with fail
              go_ret2
              exact ⟨_, by rw [hn2.out]; rfl, HB5.out, fun h => absurd hn2.out h, fun _ => ⟨g, rfl, HCA.out⟩⟩
            | false =>
              have hn2 : Aside0 (newR L true = some 2) := ⟨by rw [hnew.out, if_pos ⟨hpos, by rw [hal]; simp⟩]⟩
              go_wp2_with fail
              go_ret2
              refine ⟨_, by rw [hn2.out]; rfl, HB5.out, fun _ => rfl, fun h => ?_⟩
              rw [hn2.out] at h; cases h
        · have hn2 : Aside0 (newR L lone = none) := ⟨by rw [hnew.out, if_neg (by omega)]⟩
          go_wp2_with fail
          go_ret2
          exact ⟨_, by rw [hn2.out]; rfl, HB5.out, fun h => absurd hn2.out h, fun _ => ⟨g, rfl, HCA.out⟩⟩
    · have hok' : okL L = false := by simpa using hok
      rw [hok']
      have hnew : Aside0 (newR L lone = some 1) := ⟨by unfold newR; rw [if_neg (by have := HLn.out; omega), if_pos hok']⟩
      go_wp2_with fail
      go_ret2
      refine ⟨_, by rw [hnew.out]; rfl, HB3.out, fun _ => rfl, fun h => ?_⟩
      rw [hnew.out] at h; cases h
end Go.Proofs.YtiaiopdiooobiaaDoor.My

/- The walks of huff.Code's Of and Len. -/
namespace Go.Proofs.YtiaiopdiooobiaaDoor.My
open Go.RowKit Go.Proofs.YtiaiopdiooobiaaDoor.Huf Go.Proofs.YtiaiopdiooobiaaDoorW.PrintWords Go.Proofs.YtiaiopdiooobiaaDoorW.PrintLast Go.Proofs.YtiaiopdiooobiaaDoorW.PrintMore
set_option maxRecDepth 100000
set_option linter.unusedVariables false
set_option linter.unusedSimpArgs false

theorem nmL_get (L : List Int) (s : Nat) (h : s < L.length) : (nmL L L.length).getD s 0 = (code L s : Int) := by
  simp [nmL, List.getD_eq_getElem?_getD, h]
theorem rb_at {w : World} {lo hi : Nat} {A : Option Addr} {n : Nat} {xs : List Int} (h : RB w lo hi A n xs) (i : Nat) (hi : i < n) : ∃ ad, A = some ad ∧ w.cell? (ad.add i) = some (.int .i64 (xs.getD i 0)) := num_at h.c i hi
set_option maxHeartbeats 1000000 in
theorem of_calls (w : World) (lo hi g : Nat) (L : List Int) (k : CodeAt w lo hi g L) (hl : L.length ≤ 1000000) (s : Nat) (hs : s < L.length) :
    Calls Tryd.prog 68 #[.pointer (some ⟨g, 0, none⟩), .int .i64 s] w fun e w' => e = .returned (.tuple #[.int .i64 (code L s : Nat), .int .i64 (L.getD s 0)]) ∧ Below w.heap.size w w' := by
  obtain ⟨A, A1, A2, c, c1, c2, S, k, r0, r1, r2, hS, h1, h2⟩ := k.out
  have d0 := k.c0
  have d5 := k.c5
  obtain ⟨a0, rfl, e0⟩ := rb_at r0 s hs
  obtain ⟨a2, rfl, e2⟩ := rb_at r2 s hs
  rw [nmL_get L s hs] at e2
  have h3 : (L.length : Int) ≤ 1000000 := by omega
  have h4 : (s : Int) < (L.length : Int) := by omega
  clear k r0 r1 r2 hS
  generalize L.length = n at *
  generalize code L s = x at *
  generalize L.getD s 0 = y at *
  go_enter Tryd.func68, Tryd.ntmps68
  go_wp2_with fail
  go_region
  go_wp2_with fail
  go_ret2
  exact ⟨rfl, below_drew (Below.refl _ _)⟩
set_option maxHeartbeats 1000000 in
theorem of_out_calls (w : World) (lo hi g : Nat) (L : List Int) (k : CodeAt w lo hi g L) (hl : L.length ≤ 1000000) (s : Int) (hs : s < 0 ∨ (L.length : Int) ≤ s) :
    Calls Tryd.prog 68 #[.pointer (some ⟨g, 0, none⟩), .int .i64 s] w fun e w' => e = .returned (.tuple #[.int .i64 0, .int .i64 0]) ∧ w' = w := by
  obtain ⟨A, A1, A2, c, c1, c2, S, k, r0, r1, r2, hS, h1, h2⟩ := k.out
  have d0 := k.c0
  have h3 : (L.length : Int) ≤ 1000000 := by omega
  clear k r0 r1 r2 hS
  generalize L.length = n at *
  go_enter Tryd.func68, Tryd.ntmps68
  by_cases h0 : s < 0
  · clear hs
    go_wp2_with fail
    go_ret2
    exact ⟨rfl, rfl⟩
  · have h4 : (n : Int) ≤ s := by omega
    have h5 : 0 ≤ s := by omega
    clear hs h0
    go_wp2_with fail
    go_ret2
    exact ⟨rfl, rfl⟩
set_option maxHeartbeats 1000000 in
theorem of_nil_calls (w : World) (s : Int) :
    Calls Tryd.prog 68 #[.pointer none, .int .i64 s] w fun e w' => e = .returned (.tuple #[.int .i64 0, .int .i64 0]) ∧ w' = w := by
  go_enter Tryd.func68, Tryd.ntmps68
  go_wp2_with fail
  go_ret2
  exact ⟨rfl, rfl⟩
end Go.Proofs.YtiaiopdiooobiaaDoor.My

/- The walks of bits.Writer. -/
namespace Go.Proofs.YtiaiopdiooobiaaDoor.My
open Go.RowKit Go.Proofs.YtiaiopdiooobiaaDoorW.PrintWords Go.Proofs.YtiaiopdiooobiaaDoorW.PrintLast Go.Proofs.YtiaiopdiooobiaaDoorW.PrintMore
set_option maxRecDepth 100000

/-- A writer at a block: its text's slice, the text, what is held, how many bits that is. -/
structure Wr (w : World) (B g : Nat) (v : Value) (t : List Int) (h m : Nat) : Prop where
  blk : w.heap[g]? = some (.cells #[v, .int .u64 h, .int .i64 m] 81 (0, 0))
  row : w.ownsRow B 5 1 v t.length (nums .u8 t)
  bg : B ≤ g
/-- What a call on a writer has turned: its block, its text's row. -/
structure Grew (w w' : World) (g : Nat) (v v' : Value) : Prop where
  os : w'.os = w.os
  tape : w'.tape = w.tape
  output : w'.output = w.output
  keep : KeepBut w w' g v.ownBlock
  at_ : v'.ownBlock = v.ownBlock ∨ ∃ b, v'.ownBlock = some b ∧ w.heap.size ≤ b
theorem Grew.refl (w : World) (g : Nat) (v : Value) : Grew w w g v v := ⟨rfl, rfl, rfl, KeepBut.refl _ _ _, .inl rfl⟩
theorem Grew.trans {w w1 w2 : World} {g : Nat} {v v1 v2 : Value} (h : Grew w w1 g v v1) (k : Grew w1 w2 g v1 v2) : Grew w w2 g v v2 :=
  ⟨k.os.trans h.os, k.tape.trans h.tape, k.output.trans h.output, h.keep.trans k.keep h.at_, by
    rcases k.at_ with e | ⟨b, e, hb⟩
    · rw [e]; exact h.at_
    · exact .inr ⟨b, e, Nat.le_trans h.keep.1 hb⟩⟩
theorem Grew.drewN {w w1 : World} {g : Nat} {v v1 : Value} (h : Grew w w1 g v v1) (n : Nat) : Grew w (w1.drewN n) g v v1 := ⟨h.os, h.tape, h.output, ⟨h.keep.1, h.keep.2⟩, h.at_⟩
theorem Grew.cut {w w1 : World} {g : Nat} {v v1 : Value} (h : Grew w.drew w1 g v v1) : Grew w w1 g v v1 := ⟨h.os, h.tape, h.output, ⟨h.keep.1, h.keep.2⟩, h.at_⟩
theorem Grew.drew {w w1 : World} {g : Nat} {v v1 : Value} (h : Grew w w1 g v v1) : Grew w w1.drew g v v1 := ⟨h.os, h.tape, h.output, ⟨h.keep.1, h.keep.2⟩, h.at_⟩
theorem Grew.set {w w1 : World} {g : Nat} {v v1 : Value} (h : Grew w w1 g v v1) (j : Nat) (u : Value) : Grew w (w1.setCell ⟨g, j, none⟩ u) g v v1 := ⟨h.os, h.tape, h.output, h.keep.set_ j u, h.at_⟩
theorem Wr.drewN {w : World} {B g : Nat} {v : Value} {t : List Int} {h m : Nat} (k : Wr w B g v t h m) (n : Nat) : Wr (w.drewN n) B g v t h m := ⟨k.blk, pw_own_below k.row (pw_below_drewN (Below.refl _ _) n), k.bg⟩
theorem Wr.drew {w : World} {B g : Nat} {v : Value} {t : List Int} {h m : Nat} (k : Wr w B g v t h m) : Wr w.drew B g v t h m := ⟨k.blk, pw_own_below k.row (below_drew (Below.refl _ _)), k.bg⟩
theorem Wr.ne {w : World} {B g : Nat} {v : Value} {t : List Int} {h m : Nat} (k : Wr w B g v t h m) : some g ≠ v.ownBlock := own_ne k.row k.blk (by decide)
/-- held and many are written. -/
theorem Wr.set1 {w : World} {B g : Nat} {v : Value} {t : List Int} {h m : Nat} (k : Wr w B g v t h m) (h' : Nat) : Wr (w.setCell ⟨g, 1, none⟩ (.int .u64 h')) B g v t h' m :=
  ⟨by have := blk_set k.blk 1 (.int .u64 h'); simpa using this, own_setCell k.row k.ne _, k.bg⟩
theorem Wr.set2 {w : World} {B g : Nat} {v : Value} {t : List Int} {h m : Nat} (k : Wr w B g v t h m) (m' : Nat) : Wr (w.setCell ⟨g, 2, none⟩ (.int .i64 m')) B g v t h m' :=
  ⟨by have := blk_set k.blk 2 (.int .i64 m'); simpa using this, own_setCell k.row k.ne _, k.bg⟩
end Go.Proofs.YtiaiopdiooobiaaDoor.My

/- The walk of bits.Writer.put. -/
namespace Go.Proofs.YtiaiopdiooobiaaDoor.My
open Go.RowKit Go.Proofs.YtiaiopdiooobiaaDoorW.PrintWords Go.Proofs.YtiaiopdiooobiaaDoorW.PrintLast Go.Proofs.YtiaiopdiooobiaaDoorW.PrintMore
set_option maxRecDepth 100000

/-- A writer that has written N bits, the number V. -/
structure Writ (w : World) (B g : Nat) (v : Value) (V N : Nat) : Prop where
  wr : Wr w B g v (leB V (N / 8)) (V / 2 ^ (8 * (N / 8))) (N % 8)
  lt : V < 2 ^ N

theorem cells_of {w : World} {g : Nat} {v : Value} {h m : Nat} (k : w.heap[g]? = some (.cells #[v, .int .u64 h, .int .i64 m] 81 (0, 0))) : w.cell? ⟨g, 0, none⟩ = some v ∧ w.cell? ⟨g, 1, none⟩ = some (.int .u64 h) ∧ w.cell? ⟨g, 2, none⟩ = some (.int .i64 m) ∧
    w.frozen? ⟨g, 0, none⟩ = false ∧ w.frozen? ⟨g, 1, none⟩ = false ∧ w.frozen? ⟨g, 2, none⟩ = false := by
  refine ⟨?_, ?_, ?_, ?_, ?_, ?_⟩ <;> first | (rw [blk_cell k]; rfl) | exact blk_frozen k _
theorem Wr.cells {w : World} {B g : Nat} {v : Value} {t : List Int} {h m : Nat} (k : Wr w B g v t h m) : w.cell? ⟨g, 0, none⟩ = some v ∧ w.cell? ⟨g, 1, none⟩ = some (.int .u64 h) ∧ w.cell? ⟨g, 2, none⟩ = some (.int .i64 m) ∧
    w.frozen? ⟨g, 0, none⟩ = false ∧ w.frozen? ⟨g, 1, none⟩ = false ∧ w.frozen? ⟨g, 2, none⟩ = false := cells_of k.blk
theorem Wr.appended {w w1 : World} {B g : Nat} {v v1 : Value} {t t1 : List Int} {h m : Nat} (k : Wr w B g v t h m) (ho : w1.ownsRow B 5 1 v1 t1.length (nums .u8 t1)) (hg : w.grownBy w1 v.ownBlock)
    (ha : v1.ownBlock = v.ownBlock ∨ ∃ b, v1.ownBlock = some b ∧ w.heap.size ≤ b) : w1.heap[g]? = some (.cells #[v, .int .u64 h, .int .i64 m] 81 (0, 0)) ∧ Wr (w1.setCell ⟨g, 0, none⟩ v1) B g v1 t1 h m ∧ Grew w (w1.setCell ⟨g, 0, none⟩ v1) g v v1 := by
  have hb : w1.heap[g]? = some (.cells #[v, .int .u64 h, .int .i64 m] 81 (0, 0)) := (hg.block g (blk_lt k.blk) k.ne).trans k.blk
  have hne : some g ≠ v1.ownBlock := own_ne ho hb (by decide)
  refine ⟨hb, ⟨?_, own_setCell ho hne _, k.bg⟩, ⟨hg.os, hg.tape, hg.output, (KeepBut.of_grown hg g).set_ 0 v1, ha⟩⟩
  have := blk_set hb 0 v1
  simpa using this

/-- One byte is put behind the text. -/
theorem Wr.byte {w w1 : World} {B g q : Nat} {v v1 : Value} {U h m : Nat} (k : Wr w B g v (leB U q) h m) (ho : w1.ownsRow B 5 1 v1 ((leB U q).length + 1) (nums .u8 (leB U q) ++ [.int .u8 (IntKind.u8.wrap (h : Int))])) (hh : h = U / 2 ^ (8 * q)) (hg : w.grownBy w1 v.ownBlock)
    (ha : v1.ownBlock = v.ownBlock ∨ ∃ b, v1.ownBlock = some b ∧ w.heap.size ≤ b) : Wr (w1.setCell ⟨g, 0, none⟩ v1) B g v1 (leB U (q + 1)) h m ∧ Grew w (w1.setCell ⟨g, 0, none⟩ v1) g v v1 := by
  refine (k.appended (t1 := leB U (q + 1)) ?_ hg ha).2
  have e : IntKind.u8.wrap (h : Int) = ((U / 2 ^ (8 * q) % 256 : Nat) : Int) := by rw [IntKind.wrap_u8, hh]; omega
  rw [leB_len, leB_succ]
  rw [e] at ho
  simpa [nums] using ho

theorem putw_calls (w : World) (B g : Nat) (v : Value) (V N x n : Nat) (hB : B ≤ w.heap.size) (hw : Writ w B g v V N) (hx : x < 2 ^ n) (hn : n ≤ 32) (hN : N ≤ 1000000000000000) :
    Calls Tryd.prog 57 #[.pointer (some ⟨g, 0, none⟩), .int .u32 x, .int .i64 n] w fun e w' => e = .returned (.tuple #[]) ∧ ∃ v', Writ w' B g v' (V + x * 2 ^ N) (N + n) ∧ Grew w w' g v v' := by
  obtain ⟨U, hU⟩ : ∃ U, U = V + x * 2 ^ N := ⟨_, rfl⟩
  rw [← hU]
  have HUlt : Aside0 (U < 2 ^ (N + n)) := ⟨hU ▸ val_lt hw.lt hx⟩
  have HU := Aside0.mk hU
  clear hU
  obtain ⟨hW, hV⟩ := hw
  have hor := or_put (V / 2 ^ (8 * (N / 8))) x (N % 8) n (by have := held_lt hV (N / 8) (by omega); rwa [show N - 8 * (N / 8) = N % 8 by omega] at this) hx (by omega) hn
  obtain ⟨c0, c1, c2, f0, f1, f2⟩ := hW.cells
  have hm : N % 8 < 8 := Nat.mod_lt _ (by decide)
  generalize hh : V / 2 ^ (8 * (N / 8)) = h at *
  generalize hmm : N % 8 = m at *
  have HW := Aside0.mk hW
  have hh0 := hor.1
  have HH := Aside0.mk hor.2
  have H1 := Aside0.mk hx
  have H2 := Aside0.mk hN
  have H3 := Aside0.mk hh
  have H4 := Aside0.mk hmm
  clear hor hx hN hh hmm hW
  go_enter Tryd.func57, Tryd.ntmps57
  go_wp2_with fail
  go_region
  go_wp2_with fail
  go_loopg [] ((N + n) / 8 - N / 8) (fun kq wr => ∃ (q : Nat) (A : Option Addr) (c : Nat), Aside0 (8 * q ≤ N + n ∧ N / 8 ≤ q ∧ kq = (N + n) / 8 - q) ∧ Aside0 (Wr wr B g (.slice A q c) (leB U q) (U / 2 ^ (8 * q)) (N + n - 8 * q)) ∧ Aside0 (Grew w wr g v (.slice A q c)) ∧ B ≤ wr.heap.size)
  case atStart =>
    obtain ⟨A, c, rfl⟩ := own_slice HW.out.row
    have k := ((HW.out.set1 (h + x * 2 ^ m)).set2 (m + n)).drew
    have k2 := ((Grew.refl w g (.slice A (leB V (N / 8)).length c)).set 1 (.int .u64 (h + x * 2 ^ m : Nat))).set 2 (.int .i64 (m + n : Nat))
    have p1 : ((h + x * 2 ^ m : Nat) : Int) = ↑h + ↑x * 2 ^ m := by simp
    have p2 : ((m + n : Nat) : Int) = ↑m + ↑n := by simp
    rw [leB_len, p1, p2] at *
    have e1 : leB U (N / 8) = leB V (N / 8) := by rw [HU.out]; exact leB_add _ _ _ _ (by omega)
    have e2 : U / 2 ^ (8 * (N / 8)) = h + x * 2 ^ m := by rw [HU.out, held_add _ _ _ _ (by omega), H3.out, show N - 8 * (N / 8) = m by have := H4.out; omega]
    have e3 : N + n - 8 * (N / 8) = m + n := by have := H4.out; omega
    refine ⟨N / 8, A, c, ⟨by omega, by omega, by omega⟩, ⟨?_⟩, ⟨k2.drew⟩, ?_⟩
    · rw [e1, e2, e3]; exact k
    · simpa using hB
  case round =>
    obtain ⟨q, A, c, HQ, HWq, HG, hBq⟩ := hrel
    by_cases hge : 8 * q + 8 ≤ N + n
    · obtain ⟨d0, d1, d2, e0, e1, e2⟩ := HWq.out.cells
      have b1 : (8 : Int) ≤ ((N + n - 8 * q : Nat) : Int) := by omega
      generalize hM : N + n - 8 * q = M at *
      generalize hH : U / 2 ^ (8 * q) = H at *
      have HM := Aside0.mk hM
      have HHq := Aside0.mk hH
      have b2 : (M : Int) ≤ 100 := by have := HQ.out; have := HM.out; omega
      clear hM hH
      go_wp2_with fail
      have hrow := HWq.out.drew.row
      have d3 := (cells_of (blk_alloc HWq.out.blk (.cells #[.int .u8 (IntKind.u8.wrap (H : Int))] 5))).1
      have hnb := Aside0.mk HWq.out.drew
      have hq1 : ((leB U q).length + 1) * 1 ≤ 140737488355328 := by rw [leB_len]; have := HQ.out; have := H2.out; omega
      go_region_law (refine step_append_cells (W := wr.drew) (w0 := wr.drew) B rfl (.tmp 44) (.tmp 50) 22 5 (.int .u8 0) 1 1 rfl Tryd.underlying22 info_u8 rfl (by decide) (by decide) _ _ _ [.int .u8 (IntKind.u8.wrap (H : Int))] rfl rfl rfl (by simp [Value.oneCell']) hrow (Below.refl _ _) hBq hq1 ?_; intro v1 w1 HO1 _ HG1 HA1; obtain ⟨A1, c1, rfl⟩ := own_slice HO1; obtain ⟨p0, p1, p2, q0, q1, q2⟩ := cells_of ((HG1.block g (blk_lt hnb.out.blk) hnb.out.ne).trans hnb.out.blk); have HY := Aside0.mk (hnb.out.byte HO1 HHq.out.symm HG1 HA1); have HZ := Aside0.mk (Nat.le_trans hBq HG1.size); clear HO1 HG1 HA1)
      go_wp2_with fail
      all_goals
        go_roundg (gk - 1)
        case measure => have := HQ.out; omega
        case rel =>
          have k := ((HY.out.1.set1 (H / 256)).set2 (M - 8))
          have k2 := (((HG.out.trans (HY.out.2.cut)).set 1 (.int .u64 (H / 256 : Nat))).set 2 (.int .i64 (M - 8 : Nat)))
          have p1 : ((H / 256 : Nat) : Int) = ↑H / 256 := by omega
          have p2 : ((M - 8 : Nat) : Int) = ↑M - 8 := by omega
          rw [leB_len, p1, p2] at k k2
          have e2 : U / 2 ^ (8 * (q + 1)) = H / 256 := by rw [← HHq.out]; exact (held_div U q).symm
          have e3 : N + n - 8 * (q + 1) = M - 8 := by have := HM.out; omega
          refine ⟨q + 1, A1, c1, ⟨by omega, by have := HQ.out; omega, by have := HQ.out; omega⟩, ⟨?_⟩, ⟨k2⟩, ?_⟩
          · rw [e2, e3]; exact k
          · simpa using HZ.out
    · obtain ⟨d0, d1, d2, e0, e1, e2⟩ := HWq.out.cells
      have b1 : ((N + n - 8 * q : Nat) : Int) < 8 := by omega
      generalize hM : N + n - 8 * q = M at *
      have HM := Aside0.mk hM
      clear hM
      go_wp2
      refine bodyPost_end (results_none rfl _ _ _) rfl ?_
      have eq : q = (N + n) / 8 := by have := HQ.out; omega
      have eM : M = (N + n) % 8 := by have := HM.out; omega
      have k := HWq.out
      have kU := HUlt.out
      have kG := HG.out
      rw [eq, eM] at k
      rw [eq] at kG
      first
        | exact ⟨rfl, _, ⟨k, kU⟩, kG⟩
        | exact ⟨rfl, _, ⟨k.drew, kU⟩, kG.drew⟩
end Go.Proofs.YtiaiopdiooobiaaDoor.My

/- The walks of bits.Writer: fits, asks, Put, NewWriter, Align, Len. -/
namespace Go.Proofs.YtiaiopdiooobiaaDoor.My
open Go.RowKit Go.Proofs.YtiaiopdiooobiaaDoorW.PrintWords Go.Proofs.YtiaiopdiooobiaaDoorW.PrintLast Go.Proofs.YtiaiopdiooobiaaDoorW.PrintMore
set_option maxRecDepth 100000

theorem bitLenAux_le : ∀ f n x : Nat, x < 2 ^ f → (Lib.bitLenAux f x ≤ n ↔ x < 2 ^ n)
  | 0, n, x, h => by simp at h; subst h; simp [Lib.bitLenAux, Nat.two_pow_pos]
  | f + 1, n, x, h => by
    unfold Lib.bitLenAux
    by_cases h0 : x = 0
    · subst h0; simp [Nat.two_pow_pos]
    · rw [if_neg h0]
      cases n with
      | zero => constructor <;> intro h1 <;> simp at h1 ⊢ <;> omega
      | succ n =>
        have := bitLenAux_le f n (x / 2) (by rw [Nat.pow_succ] at h; omega)
        rw [Nat.pow_succ 2 n]
        constructor
        · intro h1; have := this.1 (by omega); omega
        · intro h1; have := this.2 (by omega); omega
theorem bitLen_le (x n : Nat) (h : x < 4294967296) : (Lib.bitLen x ≤ n ↔ x < 2 ^ n) := bitLenAux_le 64 n x (by omega)

/-- So many bits are a number's. -/
def inW (n : Int) : Bool := decide (0 ≤ n ∧ n ≤ 32)
/-- A number has so many bits. -/
def okW (x : Nat) (n : Int) : Bool := decide (0 ≤ n ∧ n ≤ 32 ∧ x < 2 ^ n.toNat)
theorem okW_iff (x : Nat) (n : Int) (h : x < 4294967296) : okW x n = (inW n && decide ((Lib.bitLen x : Int) ≤ n)) := by
  unfold okW inW
  by_cases h0 : 0 ≤ n
  · obtain ⟨m, rfl⟩ := Int.eq_ofNat_of_zero_le h0
    have := bitLen_le x m h
    by_cases h1 : (m : Int) ≤ 32
    · simp [h1, ← this]
    · simp [h1]
  · simp [h0]

theorem fitsw_calls (n : Int) (w : World) : Calls Tryd.prog 70 #[.int .i64 n] w fun e w' => e = .returned (.bool (inW n)) ∧ w = w' := by
  by_cases h1 : 0 ≤ n
  · by_cases h2 : n ≤ 32
    · rw [show inW n = true from decide_eq_true ⟨h1, h2⟩]
      go_enter Tryd.func70, Tryd.ntmps70
      go_wp2
      go_ret
      exact ⟨rfl, rfl⟩
    · rw [show inW n = false from decide_eq_false fun h => h2 h.2]
      go_enter Tryd.func70, Tryd.ntmps70
      go_wp2
      go_ret
      exact ⟨rfl, rfl⟩
  · rw [show inW n = false from decide_eq_false fun h => h1 h.1]
    go_enter Tryd.func70, Tryd.ntmps70
    go_wp2
    go_ret
    exact ⟨rfl, rfl⟩

/-- What asks answers. -/
def askE (x : Nat) (n : Int) : Option Int := if okW x n then none else some 1
theorem asks_calls (g x : Nat) (n : Int) (w : World) (hx : x < 4294967296) :
    Calls Tryd.prog 75 #[.pointer (some ⟨g, 0, none⟩), .int .u32 x, .int .i64 n] w fun e w' => e = .returned (errV (askE x n)) ∧ w = w' := by
  have HL : Aside0 (∀ w : World, Calls Tryd.prog 81 #[.int .u32 x] w fun e w' => e = .returned (.int .i64 (Lib.bitLen x)) ∧ w = w') :=
    ⟨fun w => (Tryd.bits_Len32 x w (by omega) (by omega)).mono fun e w' h => ⟨by rw [h.1]; rfl, h.2.symm⟩⟩
  have HE := Aside0.mk (okW_iff x n hx)
  obtain ⟨b, hb⟩ : ∃ b, inW n = b := ⟨_, rfl⟩
  have HF : Aside0 (∀ w : World, Calls Tryd.prog 70 #[.int .i64 n] w fun e w' => e = .returned (.bool b) ∧ w = w') := ⟨fun w => hb ▸ fitsw_calls n w⟩
  rw [hb] at HE
  clear hb
  generalize Lib.bitLen x = L at *
  have u1 := Tryd.underlying26
  cases b with
  | false =>
    have he : askE x n = some 1 := by unfold askE; rw [HE.out]; rfl
    rw [he]
    clear he HE hx
    go_enter Tryd.func75, Tryd.ntmps75
    go_wp2_with (first
      | (go_at_call 70; refine (HF.out _).mono ?_; rintro e w' ⟨rfl, rfl⟩)
      | (go_at_call 81; refine (HL.out _).mono ?_; rintro e w' ⟨rfl, rfl⟩))
    go_ret
    exact ⟨rfl, rfl⟩
  | true =>
    by_cases hl : (L : Int) ≤ n
    · have he : askE x n = none := by unfold askE; rw [HE.out]; simp [hl]
      rw [he]
      clear he HE hx
      go_enter Tryd.func75, Tryd.ntmps75
      go_wp2_with (first
        | (go_at_call 70; refine (HF.out _).mono ?_; rintro e w' ⟨rfl, rfl⟩)
        | (go_at_call 81; refine (HL.out _).mono ?_; rintro e w' ⟨rfl, rfl⟩))
      go_ret
      exact ⟨rfl, rfl⟩
    · have he : askE x n = some 1 := by unfold askE; rw [HE.out]; simp [hl]
      rw [he]
      clear he HE hx
      go_enter Tryd.func75, Tryd.ntmps75
      go_wp2_with (first
        | (go_at_call 70; refine (HF.out _).mono ?_; rintro e w' ⟨rfl, rfl⟩)
        | (go_at_call 81; refine (HL.out _).mono ?_; rintro e w' ⟨rfl, rfl⟩))
      go_ret
      exact ⟨rfl, rfl⟩

theorem newWriter_calls (w : World) : Calls Tryd.prog 25 #[] w fun e w' => e = .returned (.pointer (some ⟨w.heap.size, 0, none⟩)) ∧ w' = w.alloc (.cells #[.slice none 0 0, .int .u64 0, .int .i64 0] 81) := by
  go_enter Tryd.func25, Tryd.ntmps25
  go_wp2
  go_ret
  exact ⟨rfl, rfl⟩
theorem Writ.new (w : World) (B : Nat) (hB : B ≤ w.heap.size) : Writ (w.alloc (.cells #[.slice none 0 0, .int .u64 0, .int .i64 0] 81)) B w.heap.size (.slice none 0 0) 0 0 :=
  ⟨⟨alloc_self _ _, own_nil _ _ _ _, hB⟩, by decide⟩

theorem put_calls (w : World) (B g : Nat) (v : Value) (V N x : Nat) (n : Int) (hB : B ≤ w.heap.size) (hw : Writ w B g v V N) (hx : x < 4294967296) (hN : N ≤ 1000000000000000) :
    Calls Tryd.prog 56 #[.pointer (some ⟨g, 0, none⟩), .int .u32 x, .int .i64 n] w fun e w' => e = .returned (errV (askE x n)) ∧
      ((okW x n = false ∧ w' = w) ∨ (okW x n = true ∧ ∃ v', Writ w' B g v' (V + x * 2 ^ N) (N + n.toNat) ∧ Grew w w' g v v')) := by
  have u1 := Tryd.underlying26
  cases ho : okW x n with
  | false =>
    have e0 : askE x n = some 1 := by unfold askE; rw [ho]; rfl
    have HA : Aside0 (∀ w : World, Calls Tryd.prog 75 #[.pointer (some ⟨g, 0, none⟩), .int .u32 x, .int .i64 n] w fun e w' => e = .returned (errV (some 1)) ∧ w = w') := ⟨fun w => e0 ▸ asks_calls g x n w hx⟩
    rw [e0]
    clear hw e0 ho
    go_enter Tryd.func56, Tryd.ntmps56
    go_wp2_with (go_at_call 75; refine (HA.out _).mono ?_; rintro e w' ⟨rfl, rfl⟩; unfold errV)
    go_ret
    exact ⟨rfl, .inl ⟨by trivial, rfl⟩⟩
  | true =>
    have e0 : askE x n = none := by unfold askE; rw [ho]; rfl
    have HA : Aside0 (∀ w : World, Calls Tryd.prog 75 #[.pointer (some ⟨g, 0, none⟩), .int .u32 x, .int .i64 n] w fun e w' => e = .returned (errV none) ∧ w = w') := ⟨fun w => e0 ▸ asks_calls g x n w hx⟩
    rw [e0]
    have hk : 0 ≤ n ∧ n ≤ 32 ∧ x < 2 ^ n.toNat := of_decide_eq_true ho
    obtain ⟨k, rfl⟩ := Int.eq_ofNat_of_zero_le hk.1
    rw [Int.toNat_natCast] at *
    have HP := Aside0.mk (putw_calls w B g v V N x k hB hw hk.2.2 (by omega) hN)
    clear hw e0 ho hk
    go_enter Tryd.func56, Tryd.ntmps56
    go_wp2_with (first
      | (go_at_call 75; refine (HA.out _).mono ?_; rintro e w' ⟨rfl, rfl⟩; unfold errV)
      | (go_at_call 57; refine HP.out.mono ?_; rintro e w' ⟨rfl, v', HV⟩; replace HV := Aside0.mk HV))
    go_ret
    exact ⟨rfl, .inr ⟨by trivial, v', HV.out⟩⟩

theorem align_calls (w : World) (B g : Nat) (v : Value) (V N : Nat) (hB : B ≤ w.heap.size) (hw : Writ w B g v V N) (hN : N ≤ 1000000000000000) :
    Calls Tryd.prog 37 #[.pointer (some ⟨g, 0, none⟩)] w fun e w' => e = .returned (.int .i64 ((8 - N % 8) % 8 : Nat)) ∧ ∃ v', Writ w' B g v' V (N + (8 - N % 8) % 8) ∧ Grew w w' g v v' := by
  obtain ⟨c0, c1, c2, f0, f1, f2⟩ := hw.wr.cells
  by_cases hm : N % 8 = 0
  · have e1 : (8 - N % 8) % 8 = 0 := by omega
    rw [e1]
    rw [hm] at c2
    have HW := Aside0.mk hw
    clear hw e1 hm
    go_enter Tryd.func37, Tryd.ntmps37
    go_wp2
    go_ret
    first
      | exact ⟨rfl, v, HW.out, Grew.refl _ _ _⟩
      | exact ⟨rfl, v, ⟨HW.out.wr.drew, HW.out.lt⟩, (Grew.refl _ _ _).drew⟩
  · have e1 : (8 - N % 8) % 8 = 8 - N % 8 := by omega
    rw [e1]
    have hp := putw_calls w B g v V N 0 (8 - N % 8) hB hw (Nat.two_pow_pos _) (by omega) hN
    rw [Nat.zero_mul, Nat.add_zero] at hp
    have hm8 : N % 8 < 8 := Nat.mod_lt _ (by decide)
    generalize N % 8 = m at *
    have e2 : ((8 - m : Nat) : Int) = 8 - (m : Int) := by omega
    have hm0 : (m : Int) ≠ 0 := by omega
    rw [e2] at hp ⊢
    have HP := Aside0.mk hp
    clear hp hw e1 e2
    go_enter Tryd.func37, Tryd.ntmps37
    go_wp2_with (go_at_call 57; refine HP.out.mono ?_; rintro e w' ⟨rfl, v', HV⟩; replace HV := Aside0.mk HV)
    go_ret
    exact ⟨rfl, v', HV.out⟩

end Go.Proofs.YtiaiopdiooobiaaDoor.My

/- The walk of slices.Clone of bytes. -/
namespace Go.Proofs.YtiaiopdiooobiaaDoor.My
open Go.RowKit Go.Proofs.YtiaiopdiooobiaaDoorW.PrintWords Go.Proofs.YtiaiopdiooobiaaDoorW.PrintLast Go.Proofs.YtiaiopdiooobiaaDoorW.PrintMore
set_option maxRecDepth 100000

theorem clone_calls (A : Option Addr) (n c : Nat) (xs : List Int) (w : World) (hx : (Kd.int .u8).C w A n xs) (hn : n ≤ 140737488355328) (hl : xs.length = n) (hcap : A = none → n = 0 ∧ c = 0) :
    Calls Tryd.prog 29 #[.slice A n c] w fun e w' => ∃ v', e = .returned v' ∧ w'.ownsRow w.heap.size 5 1 v' xs.length (nums .u8 xs) ∧ Below w.heap.size w w' := by
  cases A with
  | none =>
    obtain ⟨rfl, rfl⟩ := hcap rfl
    have : xs = [] := List.eq_nil_of_length_eq_zero hl
    subst this
    clear hx hl hcap hn
    have i1 : ∀ w : World, (binOp .eql 22 (.slice none 0 0) (.slice none 0 0)).run Tryd.prog w = .ok (.bool true) w := fun w => by rfl
    go_enter Tryd.func29, Tryd.ntmps29
    go_wp2
    go_ret
    exact ⟨_, rfl, own_nil _ _ _ _, Below.refl _ _⟩
  | some ad =>
    have HX := Aside0.mk hx
    have HL := Aside0.mk hl
    clear hx hcap hl
    have i1 : ∀ w : World, (binOp .eql 22 (.slice (some ad) n c) (.slice none 0 0)).run Tryd.prog w = .ok (.bool false) w := fun w => by rfl
    go_enter Tryd.func29, Tryd.ntmps29
    go_wp2_with ((with_reducible refine gate_dst (N := 7) rfl ?_); refine print_append_row (w0 := w) w.heap.size rfl (.tmp 5) (.tmp 6) 22 5 .u8 1 rfl Tryd.underlying22 info_u8 (by decide) _ [] xs (some ad) _ c rfl rfl (own_lit w w.heap.size 5 .u8 [] (Nat.le_refl _) (by decide)) (reads_of_C (Kd.C_alloc HX.out _)) (below_alloc (Below.refl _ _) _) (by simp) (by simp; omega) ?_; intro v1 w2 ho hb hg hk; clear hg hk; rw [List.nil_append] at ho; have HB2 := Aside0.mk hb; have HO := Aside0.mk ho; clear hb ho)
    go_ret
    exact ⟨_, rfl, HO.out, HB2.out⟩
end Go.Proofs.YtiaiopdiooobiaaDoor.My

/- The walk of bits.Writer.Text. -/
namespace Go.Proofs.YtiaiopdiooobiaaDoor.My
open Go.RowKit Go.Proofs.YtiaiopdiooobiaaDoorW.PrintWords Go.Proofs.YtiaiopdiooobiaaDoorW.PrintLast Go.Proofs.YtiaiopdiooobiaaDoorW.PrintMore
set_option maxRecDepth 100000

theorem own_cap {w : World} {B n : Nat} {e : TypeId} {A : Option Addr} {m c : Nat} {xs : List Value} (h : w.ownsRow B e 1 (.slice A m c) n xs) : A = none → m = 0 ∧ c = 0 := by
  intro hA
  rcases h.2 with ⟨h1, h2⟩ | ⟨g, cap, cur, h1, _⟩
  · cases h1; exact ⟨rfl, rfl⟩
  · subst hA; cases h1
theorem wtext_calls (w : World) (B g : Nat) (v : Value) (V N : Nat) (hw : Writ w B g v V N) (hN : N ≤ 1000000000000000) :
    Calls Tryd.prog 28 #[.pointer (some ⟨g, 0, none⟩)] w fun e w' => ∃ v', e = .returned v' ∧ w'.ownsRow w.heap.size 5 1 v' ((N + 7) / 8) (nums .u8 (leB V ((N + 7) / 8))) ∧ Below w.heap.size w w' := by
  obtain ⟨c0, c1, c2, f0, f1, f2⟩ := hw.wr.cells
  obtain ⟨A, cc, rfl⟩ := own_slice hw.wr.row
  obtain ⟨A', c', e', hcc, hC⟩ := own_slice' hw.wr.row
  cases e'
  have hcap := own_cap hw.wr.row
  rw [leB_len] at c0 hC hcap
  have hcl := Aside0.mk (clone_calls A (N / 8) cc (leB V (N / 8)) w hC (by omega) (leB_len _ _) hcap)
  have hblk := Aside0.mk hw.wr.blk
  have hV := Aside0.mk hw.lt
  have hm8 : N % 8 < 8 := Nat.mod_lt _ (by decide)
  have HD := Aside0.mk (show N = 8 * (N / 8) + N % 8 by omega)
  by_cases hm : N % 8 = 0
  · have e1 : (N + 7) / 8 = N / 8 := by omega
    rw [hm] at c2
    rw [e1]
    clear hw hC hm e1 HD
    go_enter Tryd.func28, Tryd.ntmps28
    go_wp2_with (go_at_call 29; refine hcl.out.mono ?_; rintro e w' ⟨v', rfl, HO, HB⟩; rw [leB_len] at HO; obtain ⟨A2, k2, rfl⟩ := own_slice HO; have p2 := pw_cell_below HB c2; replace HO := Aside0.mk HO; replace HB := Aside0.mk HB)
    go_ret
    exact ⟨_, rfl, HO.out, HB.out⟩
  · have e1 : (N + 7) / 8 = N / 8 + 1 := by omega
    have hm0 : (0 : Int) < ((N % 8 : Nat) : Int) := by omega
    rw [e1]
    clear hw hC hm e1
    generalize hh : V / 2 ^ (8 * (N / 8)) = h at *
    have HH := Aside0.mk hh
    clear hh
    generalize N % 8 = m at *
    go_enter Tryd.func28, Tryd.ntmps28
    go_wp2_with (first
      | (go_at_call 29; refine hcl.out.mono ?_; rintro e w' ⟨v', rfl, HO, HB⟩; rw [leB_len] at HO; obtain ⟨A2, k2, rfl⟩ := own_slice HO; have p2 := pw_cell_below HB c2; have p1 := pw_cell_below HB c1; replace HO := Aside0.mk HO; replace HB := Aside0.mk HB)
      | ((with_reducible refine gate_dst (N := 23) rfl ?_); refine print_append_num (w0 := w) w.heap.size rfl (.tmp 16) (.tmp 22) 22 5 .u8 1 rfl Tryd.underlying22 info_u8 (by decide) _ (leB V (N / 8)) _ rfl rfl (by rw [leB_len]; exact HO.out) HB.out HB.out.size (by rw [leB_len]; omega) ?_; intro v1 w2 ho hb hg hk; clear hg hk; have HB2 := Aside0.mk hb; have HO2 := Aside0.mk ho; clear hb ho))
    go_ret
    have k := HO2.out
    have e2 : (h : Int) % 256 = ((V / 2 ^ (8 * (N / 8)) % 256 : Nat) : Int) := by rw [HH.out]; omega
    rw [e2, ← leB_succ, leB_len] at k
    exact ⟨_, rfl, k, HB2.out⟩
end Go.Proofs.YtiaiopdiooobiaaDoor.My

/- The walk of bits.Reverse32. -/
namespace Go.Proofs.YtiaiopdiooobiaaDoor.My
open Go.RowKit Go.Proofs.YtiaiopdiooobiaaDoorW.PrintWords Go.Proofs.YtiaiopdiooobiaaDoorW.PrintLast Go.Proofs.YtiaiopdiooobiaaDoorW.PrintMore
set_option maxRecDepth 100000

theorem revb_calls (x : Int) (w : World) : Calls Tryd.prog 85 #[.int .u32 x] w fun e w' => e = .returned (.int .u32 (half (sw 16711935 256 x))) ∧ w = w' := by
  go_enter Tryd.func85, Tryd.ntmps85
  go_wp2
  go_ret
  exact ⟨rfl, rfl⟩
theorem rev_calls (x : Nat) (w : World) (hx : x < 4294967296) : Calls Tryd.prog 79 #[.int .u32 x] w fun e w' => e = .returned (.int .u32 (BitVec.ofNat 32 x).reverse.toNat) ∧ w = w' := by
  have HE : Aside0 (half (sw 16711935 256 (sw 252645135 16 (sw 858993459 4 (sw 1431655765 2 x)))) = ((BitVec.ofNat 32 x).reverse.toNat : Int)) := by
    refine ⟨?_⟩
    have e0 : x = (BitVec.ofNat 32 x).toNat := by rw [BitVec.toNat_ofNat]; omega
    rw [← rev_all, ← half_eq, ← sw_eq _ 8 _ (by decide) 256 rfl, ← sw_eq _ 4 _ (by decide) 16 rfl, ← sw_eq _ 2 _ (by decide) 4 rfl, ← sw_eq _ 1 _ (by decide) 2 rfl, ← e0]
    rfl
  rw [← HE.out]
  clear HE hx
  go_enter Tryd.func79, Tryd.ntmps79
  go_wp2_with (go_at_call 85; refine (revb_calls _ _).mono ?_; rintro e w' ⟨rfl, rfl⟩)
  go_ret
  exact ⟨rfl, rfl⟩
end Go.Proofs.YtiaiopdiooobiaaDoor.My

/- The walks of bits.Writer: Code, Bytes; and of a nil one. -/
namespace Go.Proofs.YtiaiopdiooobiaaDoor.My
open Go.RowKit Go.Proofs.YtiaiopdiooobiaaDoorW.PrintWords Go.Proofs.YtiaiopdiooobiaaDoorW.PrintLast Go.Proofs.YtiaiopdiooobiaaDoorW.PrintMore
set_option maxRecDepth 100000

theorem code_calls' (w : World) (B g : Nat) (v : Value) (V N x : Nat) (n : Int) (hB : B ≤ w.heap.size) (hw : Writ w B g v V N) (hx : x < 4294967296) (hN : N ≤ 1000000000000000) :
    Calls Tryd.prog 69 #[.pointer (some ⟨g, 0, none⟩), .int .u32 x, .int .i64 n] w fun e w' => e = .returned (errV (askE x n)) ∧
      ((okW x n = false ∧ w' = w) ∨ (okW x n = true ∧ ∃ v', Writ w' B g v' (V + rv x n.toNat * 2 ^ N) (N + n.toNat) ∧ Grew w w' g v v')) := by
  have u1 := Tryd.underlying26
  cases ho : okW x n with
  | false =>
    have e0 : askE x n = some 1 := by unfold askE; rw [ho]; rfl
    have HA : Aside0 (∀ w : World, Calls Tryd.prog 75 #[.pointer (some ⟨g, 0, none⟩), .int .u32 x, .int .i64 n] w fun e w' => e = .returned (errV (some 1)) ∧ w = w') := ⟨fun w => e0 ▸ asks_calls g x n w hx⟩
    rw [e0]
    clear hw e0 ho
    go_enter Tryd.func69, Tryd.ntmps69
    go_wp2_with (go_at_call 75; refine (HA.out _).mono ?_; rintro e w' ⟨rfl, rfl⟩; unfold errV)
    go_ret
    exact ⟨rfl, .inl ⟨by trivial, rfl⟩⟩
  | true =>
    have e0 : askE x n = none := by unfold askE; rw [ho]; rfl
    have HA : Aside0 (∀ w : World, Calls Tryd.prog 75 #[.pointer (some ⟨g, 0, none⟩), .int .u32 x, .int .i64 n] w fun e w' => e = .returned (errV none) ∧ w = w') := ⟨fun w => e0 ▸ asks_calls g x n w hx⟩
    rw [e0]
    have hk : 0 ≤ n ∧ n ≤ 32 ∧ x < 2 ^ n.toNat := of_decide_eq_true ho
    obtain ⟨k, rfl⟩ := Int.eq_ofNat_of_zero_le hk.1
    rw [Int.toNat_natCast] at *
    have hk32 : k ≤ 32 := by omega
    have HP := Aside0.mk (putw_calls w B g v V N (rv x k) k hB hw (rv_lt x k hk32) hk32 hN)
    have hr32 : ((BitVec.ofNat 32 x).reverse.toNat : Int) < 4294967296 := by have := (BitVec.ofNat 32 x).reverse.isLt; omega
    have HR := Aside0.mk (show rv x k = (BitVec.ofNat 32 x).reverse.toNat / 2 ^ (32 - k) from rfl)
    have HRV : Aside0 (∀ w : World, Calls Tryd.prog 79 #[.int .u32 x] w fun e w' => e = .returned (.int .u32 (BitVec.ofNat 32 x).reverse.toNat) ∧ w = w') := ⟨fun w => rev_calls x w hx⟩
    generalize (BitVec.ofNat 32 x).reverse.toNat = r at *
    have HQ : Aside0 ((r : Int) / 2 ^ (32 - k) % 4294967296 = ((rv x k : Nat) : Int)) := by
      refine ⟨?_⟩
      rw [HR.out, show (r : Int) / 2 ^ (32 - k) = ((r / 2 ^ (32 - k) : Nat) : Int) by simp]
      have : r / 2 ^ (32 - k) ≤ r := Nat.div_le_self _ _
      generalize r / 2 ^ (32 - k) = q at *
      omega
    have h32k : (32 : Int) - (k : Int) = ((32 - k : Nat) : Int) := by omega
    have hkk : (k : Int) ≤ 32 := by omega
    clear hw e0 ho hk hx
    go_enter Tryd.func69, Tryd.ntmps69
    go_wp2_with (first
      | (go_at_call 75; refine (HA.out _).mono ?_; rintro e w' ⟨rfl, rfl⟩; unfold errV)
      | (go_at_call 79; refine (HRV.out _).mono ?_; rintro e w' ⟨rfl, rfl⟩)
      | (go_at_call 57; rw [HQ.out]; refine HP.out.mono ?_; rintro e w' ⟨rfl, v', HV⟩; replace HV := Aside0.mk HV))
    go_ret
    exact ⟨rfl, .inr ⟨by trivial, v', HV.out⟩⟩

/-! ### A nil one -/
theorem putn_calls (x n : Int) (w : World) : Calls Tryd.prog 56 #[.pointer none, .int .u32 x, .int .i64 n] w fun e w' => e = .returned (errV (some 4)) ∧ w = w' := by
  have u1 := Tryd.underlying26
  have HA : Aside0 (∀ w : World, Calls Tryd.prog 75 #[.pointer none, .int .u32 x, .int .i64 n] w fun e w' => e = .returned (errV (some 4)) ∧ w = w') := by
    refine ⟨fun w => ?_⟩
    go_enter Tryd.func75, Tryd.ntmps75
    go_wp2
    go_ret
    exact ⟨rfl, rfl⟩
  go_enter Tryd.func56, Tryd.ntmps56
  go_wp2_with (go_at_call 75; refine (HA.out _).mono ?_; rintro e w' ⟨rfl, rfl⟩; unfold errV)
  go_ret
  exact ⟨rfl, rfl⟩
theorem coden_calls (x n : Int) (w : World) : Calls Tryd.prog 69 #[.pointer none, .int .u32 x, .int .i64 n] w fun e w' => e = .returned (errV (some 4)) ∧ w = w' := by
  have u1 := Tryd.underlying26
  have HA : Aside0 (∀ w : World, Calls Tryd.prog 75 #[.pointer none, .int .u32 x, .int .i64 n] w fun e w' => e = .returned (errV (some 4)) ∧ w = w') := by
    refine ⟨fun w => ?_⟩
    go_enter Tryd.func75, Tryd.ntmps75
    go_wp2
    go_ret
    exact ⟨rfl, rfl⟩
  go_enter Tryd.func69, Tryd.ntmps69
  go_wp2_with (go_at_call 75; refine (HA.out _).mono ?_; rintro e w' ⟨rfl, rfl⟩; unfold errV)
  go_ret
  exact ⟨rfl, rfl⟩
theorem alignn_calls (w : World) : Calls Tryd.prog 37 #[.pointer none] w fun e w' => e = .returned (.int .i64 0) ∧ w = w' := by
  go_enter Tryd.func37, Tryd.ntmps37
  go_wp2
  go_ret
  exact ⟨rfl, rfl⟩
theorem textn_calls (w : World) : Calls Tryd.prog 28 #[.pointer none] w fun e w' => e = .returned (.slice none 0 0) ∧ w = w' := by
  go_enter Tryd.func28, Tryd.ntmps28
  go_wp2
  go_ret
  exact ⟨rfl, rfl⟩
theorem bytesn_calls (A : Option Addr) (n c : Nat) (w : World) : Calls Tryd.prog 39 #[.pointer none, .slice A n c] w fun e w' => e = .returned (errV (some 4)) ∧ w = w' := by
  go_enter Tryd.func39, Tryd.ntmps39
  go_wp2
  go_ret
  exact ⟨rfl, rfl⟩
end Go.Proofs.YtiaiopdiooobiaaDoor.My

/- The walk of huff.Code's Put. -/
namespace Go.Proofs.YtiaiopdiooobiaaDoor.My
open Go.RowKit Go.Proofs.YtiaiopdiooobiaaDoor.Huf Go.Proofs.YtiaiopdiooobiaaDoorW.PrintWords Go.Proofs.YtiaiopdiooobiaaDoorW.PrintLast Go.Proofs.YtiaiopdiooobiaaDoorW.PrintMore
set_option maxRecDepth 100000
set_option linter.unusedVariables false
set_option linter.unusedSimpArgs false

/-- A sign without a code. -/
theorem putx_calls (w : World) (lo hi g gw : Nat) (L : List Int) (k : CodeAt w lo hi g L) (hl : L.length ≤ 1000000) (s : Int) (hs : s < 0 ∨ (L.length : Int) ≤ s ∨ ∃ m : Nat, s = m ∧ m < L.length ∧ L.getD m 0 = 0) :
    Calls Tryd.prog 43 #[.pointer (some ⟨g, 0, none⟩), .pointer (some ⟨gw, 0, none⟩), .int .i64 s] w fun e w' => e = .returned (errV (some 1)) ∧ Below w.heap.size w w' := by
  have HO : Aside0 (Calls Tryd.prog 68 #[.pointer (some ⟨g, 0, none⟩), .int .i64 s] w fun e w' => ∃ x : Int, e = .returned (.tuple #[.int .i64 x, .int .i64 0]) ∧ Below w.heap.size w w') := ⟨by
    rcases hs with h | h | ⟨m, rfl, h1, h2⟩
    · exact (of_out_calls w lo hi g L k hl s (.inl h)).mono fun e w' h => ⟨0, h.1, by rw [h.2]; exact Below.refl _ _⟩
    · exact (of_out_calls w lo hi g L k hl s (.inr h)).mono fun e w' h => ⟨0, h.1, by rw [h.2]; exact Below.refl _ _⟩
    · have h3 := of_calls w lo hi g L k hl m h1
      rw [h2] at h3
      exact h3.mono fun e w' h => ⟨_, h.1, h.2⟩⟩
  clear k hs
  go_enter Tryd.func43, Tryd.ntmps43
  go_wp2_with fail
  refine (HO.out).mono ?_
  rintro e w1 ⟨x, rfl, hb⟩
  go_wp2_with fail
  go_ret
  exact ⟨rfl, hb⟩
theorem cputn_calls (w : World) (v : Value) (s : Int) : Calls Tryd.prog 43 #[.pointer none, v, .int .i64 s] w fun e w' => e = .returned (errV (some 4)) ∧ w' = w := by
  have HO : Aside0 (Calls Tryd.prog 68 #[.pointer none, .int .i64 s] w fun e w' => e = .returned (.tuple #[.int .i64 0, .int .i64 0]) ∧ w' = w) := ⟨of_nil_calls w s⟩
  go_enter Tryd.func43, Tryd.ntmps43
  go_wp2_with fail
  refine (HO.out).mono ?_
  rintro e w1 ⟨rfl, rfl⟩
  go_wp2_with fail
  go_ret
  exact ⟨rfl, rfl⟩
/-- A sign that has a code. -/
theorem putc_calls (w : World) (lo hi g : Nat) (L : List Int) (k : CodeAt w lo hi g L) (hl : L.length ≤ 1000000) (B gw : Nat) (v : Value) (V N : Nat) (hB : B ≤ w.heap.size) (hw : Writ w B gw v V N) (hN : N ≤ 1000000000) (s n : Nat) (hs : Has L s n) (hc : code L s < 2 ^ n) (h15 : n ≤ 15) :
    Calls Tryd.prog 43 #[.pointer (some ⟨g, 0, none⟩), .pointer (some ⟨gw, 0, none⟩), .int .i64 s] w fun e w' => e = .returned .nilIface ∧ ∃ w1 v', Below w.heap.size w w1 ∧ Writ w' B gw v' (V + rv (code L s) n * 2 ^ N) (N + n) ∧ Grew w1 w' gw v v' := by
  have h15' : code L s < 32768 := Nat.lt_of_lt_of_le hc (Nat.pow_le_pow_right (by decide) h15)
  have HO : Aside0 (Calls Tryd.prog 68 #[.pointer (some ⟨g, 0, none⟩), .int .i64 s] w fun e w' => e = .returned (.tuple #[.int .i64 (code L s : Nat), .int .i64 n]) ∧ Below w.heap.size w w') := ⟨by
    have h := of_calls w lo hi g L k hl s hs.1
    rw [hs.2.2] at h
    exact h⟩
  have HC : Aside0 (∀ w1, Below w.heap.size w w1 → Calls Tryd.prog 69 #[.pointer (some ⟨gw, 0, none⟩), .int .u32 (code L s : Nat), .int .i64 n] w1 fun e w' => e = .returned .nilIface ∧ ∃ v', Writ w' B gw v' (V + rv (code L s) n * 2 ^ N) (N + n) ∧ Grew w1 w' gw v v') := ⟨fun w1 hb => by
    have hw1 : Writ w1 B gw v V N := ⟨⟨blk_below hw.wr.blk hb, pw_own_below hw.wr.row hb, hw.wr.bg⟩, hw.lt⟩
    have h := code_calls' w1 B gw v V N (code L s) n (Nat.le_trans hB hb.size) hw1 (by omega) (by omega)
    have hok : okW (code L s) n = true := decide_eq_true ⟨by omega, by omega, by simpa using hc⟩
    refine h.mono ?_
    rintro e w' ⟨rfl, h2⟩
    rcases h2 with ⟨h3, _⟩ | ⟨_, v', h3, h4⟩
    · rw [hok] at h3; cases h3
    · refine ⟨?_, v', by simpa using h3, h4⟩
      unfold askE
      rw [hok]
      rfl⟩
  have hn0 := hs.2.1
  have hn0' : ((n : Int) == 0) = false := by simp; exact hn0
  have hci : ((code L s : Nat) : Int) < 32768 := by omega
  clear k hs hc hw
  generalize code L s = x at *
  go_enter Tryd.func43, Tryd.ntmps43
  go_wp2_with fail
  refine (HO.out).mono ?_
  rintro e w1 ⟨rfl, hb⟩
  go_wp2_with fail
  refine (HC.out _ hb).mono ?_
  rintro e w2 ⟨rfl, v', h1, h2⟩
  go_wp2_with fail
  go_ret
  exact ⟨rfl, w1, v', hb, h1, h2⟩
end Go.Proofs.YtiaiopdiooobiaaDoor.My
