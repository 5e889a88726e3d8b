/- Tokens that are read; the law's own conversion. -/
import Derived.Test.YtiaiopdiooobiaaMyBase
import Derived.Test.YtiaiopdiooobiaaWEqStruct
namespace Go.Proofs.Ytiaiopdiooobiaa.My
open Go.RowKit Go.Proofs.YtiaiopdiooobiaaW.PrintWords Go.Proofs.YtiaiopdiooobiaaW.PrintLast Go.Proofs.YtiaiopdiooobiaaW.PrintMore
set_option linter.unusedVariables false
set_option linter.unusedSimpArgs false

/-- A token as its cells hold it. -/
structure Ti where
  b : Int
  l : Int
  d : Int
def Ti.cells (k : Ti) : List Value := [.int .u8 k.b, .int .i64 k.l, .int .i64 k.d]
def tiCells (l : List Ti) : List Value := l.flatMap Ti.cells
theorem tiCells_append (l m : List Ti) : tiCells (l ++ m) = tiCells l ++ tiCells m := by simp [tiCells]
/-- A row of tokens that is read. -/
def TkR (w : World) (A : Option Addr) (l : List Ti) : Prop := ∀ i k, l[i]? = some k → ∃ ad, A = some ad ∧ w.cell? (ad.add (i * 3)) = some (.int .u8 k.b) ∧ w.cell? ⟨(ad.add (i * 3)).block, (ad.add (i * 3)).off + 1, none⟩ = some (.int .i64 k.l) ∧ w.cell? ⟨(ad.add (i * 3)).block, (ad.add (i * 3)).off + 2, none⟩ = some (.int .i64 k.d)
theorem TkR.below {w w1 : World} {A : Option Addr} {l : List Ti} (h : TkR w A l) (hb : Below w.heap.size w w1) : TkR w1 A l := by
  intro i k hk
  obtain ⟨ad, e, h0, h1, h2⟩ := h i k hk
  exact ⟨ad, e, pw_cell_below hb h0, pw_cell_below hb h1, pw_cell_below hb h2⟩
theorem tiCells_get : ∀ (K : List Ti) (j : Nat) (a : Ti) (t : Nat), K[j]? = some a → t < 3 → (tiCells K)[j * 3 + t]? = a.cells[t]?
  | [], j, a, t, h, _ => by simp at h
  | b :: K, 0, a, t, h, ht => by
    simp at h; subst h
    simp only [tiCells, List.flatMap_cons]
    rw [Nat.zero_mul, Nat.zero_add, List.getElem?_append_left (by simpa [Ti.cells] using ht)]
  | b :: K, j + 1, a, t, h, ht => by
    have := tiCells_get K j a t (by simpa using h) ht
    simp only [tiCells, List.flatMap_cons] at *
    rw [List.getElem?_append_right (by simp [Ti.cells]; omega)]
    rw [← this]
    congr 1
    simp [Ti.cells]; omega
theorem tk_of_own {w : World} {B n c : Nat} {e : TypeId} {A : Option Addr} {l : List Ti} (h : w.ownsRow B e 3 (.slice A n c) l.length (tiCells l)) : TkR w A l := by
  intro i k hk
  have hi : i < l.length := (List.getElem?_eq_some_iff.1 hk).1
  rcases h.2 with ⟨_, h0⟩ | ⟨g, cap, cur, hv, _, hh, hl, _, hsz, hcur⟩
  · omega
  · cases hv
    have hlen : ∀ K : List Ti, (tiCells K).length = K.length * 3 := by
      intro K
      induction K with
      | nil => rfl
      | cons a t ih => simp only [tiCells, List.flatMap_cons, List.length_append] at *; rw [ih]; simp [Ti.cells]; omega
    have key : ∀ t, t < 3 → w.cell? ⟨g, i * 3 + t, none⟩ = k.cells[t]? := by
      intro t ht
      rw [cell_of_row w g _ cur e (0, 0) hh, ← tiCells_get l i k t hk ht, ← hcur, List.getElem?_take_of_lt (by omega)]
      simp
    have ea : (⟨g, 0, none⟩ : Addr).add (i * 3) = ⟨g, i * 3, none⟩ := by rw [add_plain]
    refine ⟨⟨g, 0, none⟩, rfl, ?_, ?_, ?_⟩
    · rw [ea]; simpa [Ti.cells] using key 0 (by omega)
    · rw [ea]; simpa [Ti.cells] using key 1 (by omega)
    · rw [ea]; simpa [Ti.cells] using key 2 (by omega)
theorem info_ref : (Try.prog.info? 31).map (fun i => (i.zero, i.size, i.bytes)) = some (some (.agg #[.int .u8 0, .int .i64 0, .int .i64 0]), 3, 24) := by kernel_rfl
set_option maxHeartbeats 2000000 in
set_option maxRecDepth 100000 in
theorem document_calls (w : World) (A : Option Addr) (c : Nat) (l : List Ti) (n : Nat) (hn : l.length = n) (h : TkR w A l) (hn9 : n ≤ 1000000000) :
    Calls Try.prog 7 #[.slice A n c] w fun e w' => ∃ A' c', e = .returned (.slice A' n c') ∧ w'.ownsRow w.heap.size 31 3 (.slice A' n c') n (tiCells l) ∧ Below w.heap.size w w' := by
  have HR := Aside0.mk h
  have HN := Aside0.mk hn
  have h9 : (n : Int) ≤ 1000000000 := by omega
  clear h hn hn9
  go_enter Try.func7, Try.ntmps7
  go_wp2_with fail
  go_loopg [3, 9] n (fun kq v3 v9 wr => ∃ (i : Nat) (A3 : Option Addr) (c3 : Nat), v3 = .slice A3 i c3 ∧ v9 = .int .i64 i ∧ i ≤ n ∧ Aside0 (kq = n - i) ∧ Aside0 (wr.ownsRow w.heap.size 31 3 (.slice A3 i c3) i (tiCells (l.take i))) ∧ Aside0 (Below w.heap.size w wr))
  case atStart =>
    have ho := World.ownsRow_lit (base := w.heap.size) (e := 31) (size := 3) w #[] 0 (Nat.le_refl _) (by decide) (by simp)
    exact ⟨0, _, _, rfl, rfl, Nat.zero_le _, ⟨rfl⟩, ⟨by simpa [tiCells] using ho⟩, ⟨below_alloc (Below.refl _ _) _⟩⟩
  case round =>
    obtain ⟨i, A3, c3, rfl, rfl, hi, HK, HO, HB⟩ := hrel
    by_cases hlt : i < n
    · have hlt' : (i : Int) < (n : Int) := by omega
      obtain ⟨k, hk⟩ : ∃ k, l[i]? = some k := ⟨_, List.getElem?_eq_getElem (by have := HN.out; omega)⟩
      obtain ⟨ad, rfl, k0, k1, k2⟩ := HR.out i k hk
      replace k0 := pw_cell_below HB.out k0
      replace k1 := pw_cell_below HB.out k1
      replace k2 := pw_cell_below HB.out k2
      have HT : Aside0 (tiCells (l.take i) ++ [.int .u8 k.b, .int .i64 k.l, .int .i64 k.d] = tiCells (l.take (i + 1))) := ⟨by rw [List.take_add_one, hk, tiCells_append]; simp [tiCells, Ti.cells]⟩
      have HI := Aside0.mk (show i + 1 ≤ n by omega)
      have HO2 := Aside0.mk (HO.out.alloc (.cells #[.int .u8 k.b, .int .i64 k.l, .int .i64 k.d] 45))
      have HB2 := Aside0.mk (below_alloc HB.out (.cells #[.int .u8 k.b, .int .i64 k.l, .int .i64 k.d] 45))
      clear hi hlt hk
      go_wp2_with ((with_reducible refine gate_dst (N := 16) rfl ?_); refine print_append_cells (w0 := w) w.heap.size rfl (.tmp 13) (.tmp 15) 24 31 _ 3 24 rfl Try.underlying24 info_ref rfl (by decide) (by decide) _ _ _ [.int .u8 k.b, .int .i64 k.l, .int .i64 k.d] rfl (by show Value.slice (some ⟨wr.heap.size + 1, 0, none⟩) 1 1 = _; simp) rfl (by simp [Value.oneCell']) HO2.out HB2.out HB2.out.size (by have := HI.out; omega) ?_; intro v3 w3 ho3 hb3 hg3 hk3; obtain ⟨A4, c4, rfl⟩ := own_slice ho3; rw [HT.out] at ho3; have HO3 := Aside0.mk ho3; have HB3 := Aside0.mk hb3; clear ho3 hb3 hg3 hk3)
      go_roundg (gk - 1)
      case measure => have := HK.out; have := HI.out; omega
      case rel => exact ⟨i + 1, A4, c4, rfl, by go_num, HI.out, ⟨by have := HK.out; omega⟩, HO3, HB3⟩
    · obtain rfl : i = n := by omega
      have hni : ¬ ((i : Int) < (i : Int)) := by omega
      have HT : Aside0 (l.take i = l) := ⟨by rw [← HN.out]; exact List.take_length⟩
      clear hi hlt
      go_wp2_with fail
      go_ret
      exact ⟨A3, c3, rfl, HT.out ▸ HO.out, HB.out⟩
theorem ne_ref (x y z : Int) (w : World) : (binOp .neq 31 (.agg #[.int .u8 x, .int .i64 y, .int .i64 z]) (.agg #[.int .u8 x, .int .i64 y, .int .i64 z])).run Try.prog w = .ok (.bool false) w := by
  have u31 := Try.underlying31
  have u5 := Try.underlying5
  have u3 := Try.underlying3
  simp [go_sem]
end Go.Proofs.Ytiaiopdiooobiaa.My
