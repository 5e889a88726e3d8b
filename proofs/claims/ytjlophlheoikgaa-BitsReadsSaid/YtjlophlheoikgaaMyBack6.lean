/- BitsBack: what is written is read. -/
import Derived.Test.YtjlophlheoikgaaMyW6
import Derived.Test.YtjlophlheoikgaaMyNewR
namespace Go.Proofs.Ytjlophlheoikgaa.My
open Go.RowKit Go.Proofs.YtjlophlheoikgaaW.PrintWords Go.Proofs.YtjlophlheoikgaaW.PrintLast Go.Proofs.YtjlophlheoikgaaW.PrintMore

/-- An act of a script, as its cells hold it. -/
structure Ac where
  k : Int
  n : Int
  x : Nat
  A : Option Addr
  l : Nat
  c : Nat
def Ac.cells (a : Ac) : List Value := [.int .i64 a.k, .int .i64 a.n, .int .u32 a.x, .slice a.A a.l a.c]
def acs (l : List Ac) : List Value := l.flatMap Ac.cells
/-- A script as it came in. -/
structure Script (w : World) (A : Option Addr) (l : List Ac) : Prop where
  cell : ∀ i a, l[i]? = some a → ∃ ad, A = some ad ∧ w.cell? (ad.add (i * 4)) = some (.int .i64 a.k) ∧ w.cell? ⟨(ad.add (i * 4)).block, (ad.add (i * 4)).off + 1, none⟩ = some (.int .i64 a.n) ∧ w.cell? ⟨(ad.add (i * 4)).block, (ad.add (i * 4)).off + 2, none⟩ = some (.int .u32 a.x) ∧ w.cell? ⟨(ad.add (i * 4)).block, (ad.add (i * 4)).off + 3, none⟩ = some (.slice a.A a.l a.c)
  rng : ∀ a ∈ l, a.x < 4294967296

def okA (a : Ac) : Bool := okW a.x a.n
def kept (l : List Ac) : List Ac := l.filter okA
/-- The number that acts write, and how many bits that is. -/
def val : List Ac → Nat
  | [] => 0
  | a :: t => a.x + 2 ^ a.n.toNat * val t
def bitsN : List Ac → Nat
  | [] => 0
  | a :: t => a.n.toNat + bitsN t
theorem bitsN_append : ∀ l m : List Ac, bitsN (l ++ m) = bitsN l + bitsN m
  | [], m => by simp [bitsN]
  | a :: t, m => by simp [bitsN, bitsN_append t m]; omega
theorem val_append : ∀ l m : List Ac, val (l ++ m) = val l + val m * 2 ^ bitsN l
  | [], m => by simp [val, bitsN]
  | a :: t, m => by
    simp only [List.cons_append, val, bitsN, val_append t m, Nat.pow_add, Nat.mul_add]
    rw [Nat.mul_comm (2 ^ a.n.toNat) (val m * _), Nat.mul_assoc, Nat.mul_comm (2 ^ bitsN t), Nat.add_assoc]
theorem valA_lt : ∀ l : List Ac, (∀ a ∈ l, okA a = true) → val l < 2 ^ bitsN l
  | [], _ => by simp [val, bitsN]
  | a :: t, h => by
    have h1 := valA_lt t fun b hb => h b (by simp [hb])
    have h2 : 0 ≤ a.n ∧ a.n ≤ 32 ∧ a.x < 2 ^ a.n.toNat := of_decide_eq_true (h a (by simp))
    have h3 := My.val_lt (V := a.x) (x := val t) h2.2.2 h1
    simp only [val, bitsN]
    rwa [Nat.mul_comm]
theorem bitsN_le : ∀ l : List Ac, (∀ a ∈ l, okA a = true) → bitsN l ≤ 32 * l.length
  | [], _ => by simp [bitsN]
  | a :: t, h => by
    have h1 := bitsN_le t fun b hb => h b (by simp [hb])
    have h2 : 0 ≤ a.n ∧ a.n ≤ 32 ∧ a.x < 2 ^ a.n.toNat := of_decide_eq_true (h a (by simp))
    simp only [bitsN, List.length_cons]
    omega
theorem val_read (l : List Ac) (h : ∀ a ∈ l, okA a = true) (j : Nat) (hj : j < l.length) : val l / 2 ^ bitsN (l.take j) % 2 ^ l[j].n.toNat = l[j].x := by
  have e : l = l.take j ++ (l[j] :: l.drop (j + 1)) := by rw [List.getElem_cons_drop, List.take_append_drop]
  have h2 : 0 ≤ l[j].n ∧ l[j].n ≤ 32 ∧ l[j].x < 2 ^ l[j].n.toNat := of_decide_eq_true (h _ (List.getElem_mem hj))
  have h3 := valA_lt (l.take j) fun _ ha => h _ (List.mem_of_mem_take ha)
  have e2 : val l = val (l.take j) + val (l[j] :: l.drop (j + 1)) * 2 ^ bitsN (l.take j) := by
    conv => lhs; rw [e]
    exact val_append _ _
  rw [e2, Nat.add_mul_div_right _ _ (Nat.two_pow_pos _), Nat.div_eq_of_lt h3, Nat.zero_add]
  simp only [val]
  rw [Nat.add_mul_mod_self_left, Nat.mod_eq_of_lt h2.2.2]
theorem kept_ok (l : List Ac) : ∀ a ∈ kept l, okA a = true := fun _ h => (List.mem_filter.1 h).2
theorem kept_take (l : List Ac) (i : Nat) (a : Ac) (h : l[i]? = some a) : kept (l.take (i + 1)) = if okA a then kept (l.take i) ++ [a] else kept (l.take i) := by
  unfold kept
  rw [List.take_add_one, h, List.filter_append]
  cases h2 : okA a <;> simp [h2]
theorem acs_append (l m : List Ac) : acs (l ++ m) = acs l ++ acs m := by simp [acs]

theorem Writ.alloc {w : World} {B g : Nat} {v : Value} {V N : Nat} (k : Writ w B g v V N) (o : Obj) : Writ (w.alloc o) B g v V N := ⟨⟨blk_alloc k.wr.blk o, k.wr.row.alloc _, k.wr.bg⟩, k.lt⟩
theorem Writ.grown {w w1 : World} {B g : Nat} {v : Value} {V N : Nat} {row : Option Nat} (k : Writ w B g v V N) (h : w.grownBy w1 row) (hg : some g ≠ row) (hv : v.ownBlock = none ∨ v.ownBlock ≠ row) : Writ w1 B g v V N :=
  ⟨⟨blk_grown k.wr.blk h hg, own_other k.wr.row h hv, k.wr.bg⟩, k.lt⟩
theorem Gone.alloc {w w1 : World} {g : Nat} (h : Gone w w1 g) (o : Obj) : Gone w (w1.alloc o) g :=
  ⟨h.os, h.tape, h.output, by have := h.keep.1; simp; omega, fun i hi hg hr => (Below.heap_alloc w1 o i (Nat.lt_of_lt_of_le hi h.keep.1)).trans (h.keep.2 i hi hg hr)⟩
theorem Rdr.alloc {w : World} {B g : Nat} {v : Value} {V L a : Nat} (k : Rdr w B g v V L a) (o : Obj) : Rdr (w.alloc o) B g v V L a := ⟨blk_alloc k.blk o, k.row.alloc _, k.lt, k.le, k.bg⟩
theorem Writ.keep {w w1 : World} {B g g' : Nat} {v : Value} {V N : Nat} (k : Writ w B g v V N) (h : KeepBut w w1 g' none) (hg : g ≠ g') (hv : v.ownBlock ≠ some g') : Writ w1 B g v V N :=
  ⟨⟨h.blk k.wr.blk hg (by simp), h.own k.wr.row hv (by cases v.ownBlock <;> simp), k.wr.bg⟩, k.lt⟩
theorem Writ.below {w w1 : World} {B g : Nat} {v : Value} {V N : Nat} (k : Writ w B g v V N) (h : Below w.heap.size w w1) : Writ w1 B g v V N :=
  ⟨⟨blk_below k.wr.blk h, pw_own_below k.wr.row h, k.wr.bg⟩, k.lt⟩
theorem acs_len : ∀ K : List Ac, (acs K).length = K.length * 4
  | [] => rfl
  | a :: t => by simp only [acs, List.flatMap_cons, List.length_append] at *; have := acs_len t; simp only [acs] at this; rw [this]; simp [Ac.cells]; omega
theorem acs_get : ∀ (K : List Ac) (j : Nat) (a : Ac) (t : Nat), K[j]? = some a → t < 4 → (acs K)[j * 4 + t]? = a.cells[t]?
  | [], j, a, t, h, _ => by simp at h
  | b :: K, 0, a, t, h, ht => by
    simp at h; subst h
    simp only [acs, List.flatMap_cons]
    rw [Nat.zero_mul, Nat.zero_add, List.getElem?_append_left (by simpa [Ac.cells] using ht)]
  | b :: K, j + 1, a, t, h, ht => by
    have := acs_get K j a t (by simpa using h) ht
    simp only [acs, List.flatMap_cons] at *
    rw [List.getElem?_append_right (by simp [Ac.cells]; omega)]
    rw [← this]
    congr 1
    simp [Ac.cells]; omega
theorem done_cells {w : World} {B n cd : Nat} {e : TypeId} {Ad : Option Addr} {K : List Ac} (h : w.ownsRow B e 4 (.slice Ad n cd) K.length (acs K)) (j : Nat) (a : Ac) (ha : K[j]? = some a) :
    ∃ gd, Ad = some ⟨gd, 0, none⟩ ∧ w.cell? ⟨gd, j * 4, none⟩ = some (.int .i64 a.k) ∧ w.cell? ⟨gd, j * 4 + 1, none⟩ = some (.int .i64 a.n) ∧ w.cell? ⟨gd, j * 4 + 2, none⟩ = some (.int .u32 a.x) ∧ w.cell? ⟨gd, j * 4 + 3, none⟩ = some (.slice a.A a.l a.c) := by
  have hj : j < K.length := (List.getElem?_eq_some_iff.1 ha).1
  rcases h.2 with ⟨_, h0⟩ | ⟨g, cap, cur, hv, _, hh, hl, _, hsz, hcur⟩
  · omega
  · cases hv
    have key : ∀ t, t < 4 → w.cell? ⟨g, j * 4 + t, none⟩ = a.cells[t]? := by
      intro t ht
      rw [cell_of_row w g _ cur e (0, 0) hh, ← acs_get K j a t ha ht, ← hcur, List.getElem?_take_of_lt (by omega)]
      simp
    exact ⟨g, rfl, by simpa [Ac.cells] using key 0 (by omega), by simpa [Ac.cells] using key 1 (by omega), by simpa [Ac.cells] using key 2 (by omega), by simpa [Ac.cells] using key 3 (by omega)⟩
theorem bitsN_take (K : List Ac) (j : Nat) (a : Ac) (h : K[j]? = some a) : bitsN (K.take (j + 1)) = bitsN (K.take j) + a.n.toNat := by
  rw [List.take_add_one, h, bitsN_append]
  simp [bitsN]
theorem bitsN_take_le (K : List Ac) (j : Nat) : bitsN (K.take j) ≤ bitsN K := by
  have e := bitsN_append (K.take j) (K.drop j)
  rw [List.take_append_drop] at e
  omega
theorem own_len {w : World} {B n m c size : Nat} {e : TypeId} {A : Option Addr} {xs : List Value} (h : w.ownsRow B e size (.slice A m c) n xs) : m = n := by
  rcases h.2 with ⟨h1, h0⟩ | ⟨g, cap, cur, hv, _⟩
  · cases h1; exact h0.symm
  · cases hv; rfl
theorem info_act : (Try.prog.info? 29).map (fun i => (i.zero, i.size, i.bytes)) = some (some (.agg #[.int .i64 0, .int .i64 0, .int .u32 0, .slice none 0 0]), 4, 48) := by kernel_rfl
theorem back_walk (A : Option Addr) (cap : Nat) (l : List Ac) (w : World) (hs : Script w A l) (hcap : l.length ≤ cap) : Calls Try.prog 4 #[.slice A l.length cap] w fun e w' => e = .returned (.bool true) ∧ Below w.heap.size w w' := by
  have HA : Aside0 (∀ w : World, Calls Try.prog 7 #[] w fun e w' => e = .returned (.bool true) ∧ Below w.heap.size w w') := ⟨alive_calls⟩
  have HN : Aside0 (∀ w : World, Calls Try.prog 8 #[] w fun e w' => e = .returned (.pointer (some ⟨w.heap.size, 0, none⟩)) ∧ w' = w.alloc (.cells #[.slice none 0 0, .int .u64 0, .int .i64 0] 66)) := ⟨newWriter_calls⟩
  have u1 := Try.underlying31
  have HS := Aside0.mk hs
  clear hs
  by_cases hlen : l.length ≤ 100
  · have h100 : ((l.length : Nat) : Int) ≤ 100 := by omega
    have HL := Aside0.mk hlen
    generalize hL : l.length = L at *
    clear hlen
    go_enter Try.func4, Try.ntmps4
    go_wp2_with (first
      | (go_at_call 7; refine (HA.out _).mono ?_; rintro e w1 ⟨rfl, hb⟩; replace hb := Aside0.mk hb)
      | (go_at_call 8; refine (HN.out _).mono ?_; rintro e w' ⟨rfl, rfl⟩))
    go_loopg [4, 23] L (fun kq v4 v23 wr => ∃ (i : Nat) (Ad : Option Addr) (nd cd : Nat) (v : Value), v4 = .slice Ad nd cd ∧ v23 = .int .i64 i ∧ i ≤ L ∧ Aside0 (kq = L - i) ∧
      Aside0 (Writ wr w.heap.size w1.heap.size v (val (kept (l.take i))) (bitsN (kept (l.take i)))) ∧ Aside0 (wr.ownsRow w.heap.size 29 4 (.slice Ad nd cd) (kept (l.take i)).length (acs (kept (l.take i)))) ∧ Aside0 (Below w.heap.size w wr))
    case atStart =>
      have hw := (Writ.new w1 w.heap.size hb.out.size).alloc (.cells #[] 29)
      have ho := World.ownsRow_lit (base := w.heap.size) (e := 29) (size := 4) (w1.alloc (.cells #[.slice none 0 0, .int .u64 0, .int .i64 0] 66)) #[] 0 (by have := hb.out.size; simp; omega) (by decide) (by simp)
      refine ⟨0, _, _, _, _, rfl, rfl, Nat.zero_le _, ⟨rfl⟩, ⟨hw⟩, ⟨?_⟩, ⟨below_alloc (below_alloc hb.out _) _⟩⟩
      rw [show kept (l.take 0) = [] by simp [kept]]
      simpa [acs] using ho
    case round =>
      obtain ⟨i, Ad, nd, cd, v, rfl, rfl, hi, HK, HW, HD, HB⟩ := hrel
      by_cases hlt : i < L
      · have hlt' : (i : Int) < (L : Int) := by omega
        obtain ⟨a, ha⟩ : ∃ a, l[i]? = some a := ⟨_, List.getElem?_eq_getElem (by omega)⟩
        obtain ⟨ad, rfl, k0, k1, k2, k3⟩ := HS.out.cell i a ha
        have hax := HS.out.rng a (List.mem_of_getElem? ha)
        replace ha := Aside0.mk ha
        replace k0 := pw_cell_below HB.out k0
        replace k1 := pw_cell_below HB.out k1
        replace k2 := pw_cell_below HB.out k2
        replace k3 := pw_cell_below HB.out k3
        have ht := kept_take l i a ha.out
        have hK4 : (kept (l.take i)).length ≤ 100 := Nat.le_trans (List.length_filter_le _ _) (by rw [List.length_take]; have := HL.out; omega)
        have hbl := bitsN_le (kept (l.take i)) (kept_ok _)
        have hWA := HW.out.alloc (.cells #[.int .i64 a.k, .int .i64 a.n, .int .u32 a.x, .slice a.A a.l a.c] 29)
        have hBA := below_alloc HB.out (.cells #[.int .i64 a.k, .int .i64 a.n, .int .u32 a.x, .slice a.A a.l a.c] 29)
        have hDA := HD.out.alloc (.cells #[.int .i64 a.k, .int .i64 a.n, .int .u32 a.x, .slice a.A a.l a.c] 29)
        have hnew := alloc_self wr (.cells #[.int .i64 a.k, .int .i64 a.n, .int .u32 a.x, .slice a.A a.l a.c] 29)
        have hsz := HB.out.size
        have hput := put_calls _ w.heap.size w1.heap.size v _ _ a.x a.n (Nat.le_trans hsz (by simp)) hWA hax (by omega)
        have hgl := blk_lt HW.out.wr.blk
        have hvl := own_lt HW.out.wr.row
        cases hok : okA a with
        | false =>
          have HP : Aside0 (Calls Try.prog 10 #[.pointer (some ⟨w1.heap.size, 0, none⟩), .int .u32 a.x, .int .i64 a.n] (wr.alloc (.cells #[.int .i64 a.k, .int .i64 a.n, .int .u32 a.x, .slice a.A a.l a.c] 29)) fun e w' => e = .returned (.iface 62 (.int .i64 1)) ∧ w' = wr.alloc (.cells #[.int .i64 a.k, .int .i64 a.n, .int .u32 a.x, .slice a.A a.l a.c] 29)) := by
            refine ⟨hput.mono ?_⟩
            have e0 : askE a.x a.n = some 1 := by unfold askE; rw [show okW a.x a.n = false from hok]; rfl
            rintro e w' ⟨rfl, ⟨_, rfl⟩ | ⟨h, _⟩⟩
            · exact ⟨by rw [e0]; rfl, rfl⟩
            · rw [show okW a.x a.n = false from hok] at h; cases h
          rw [hok] at ht
          have HR := Aside0.mk ht
          have HWA := Aside0.mk hWA
          have HBA := Aside0.mk hBA
          have HDA := Aside0.mk hDA
          have HI := Aside0.mk hi
          clear hi hlt ht hK4 hbl hWA hBA hDA hnew hsz hput hgl hvl hok
          go_wp2_with (go_at_call 10; refine HP.out.mono ?_; rintro e w' ⟨rfl, rfl⟩)
          go_roundg (gk - 1)
          case measure => have := HK.out; omega
          case rel =>
            refine ⟨i + 1, Ad, nd, cd, v, rfl, by go_num, by omega, ⟨by have := HK.out; omega⟩, ?_, ?_, HBA⟩
            · rw [HR.out]; exact HWA
            · rw [HR.out]; exact HDA
        | true =>
          have hv0 : val (kept (l.take i)) + a.x * 2 ^ bitsN (kept (l.take i)) = val (kept (l.take (i + 1))) := by rw [ht, hok, if_pos rfl, val_append]; simp [val]
          have hn0 : bitsN (kept (l.take i)) + a.n.toNat = bitsN (kept (l.take (i + 1))) := by rw [ht, hok, if_pos rfl, bitsN_append]; simp [bitsN]
          rw [hv0, hn0] at hput
          rw [hok, if_pos rfl] at ht
          have HP : Aside0 (Calls Try.prog 10 #[.pointer (some ⟨w1.heap.size, 0, none⟩), .int .u32 a.x, .int .i64 a.n] (wr.alloc (.cells #[.int .i64 a.k, .int .i64 a.n, .int .u32 a.x, .slice a.A a.l a.c] 29)) fun e w' => e = .returned .nilIface ∧ ∃ v', (Writ w' w.heap.size w1.heap.size v' (val (kept (l.take (i + 1)))) (bitsN (kept (l.take (i + 1)))) ∧
              w'.ownsRow w.heap.size 29 4 (.slice Ad nd cd) (kept (l.take i)).length (acs (kept (l.take i))) ∧ Below w.heap.size w w') ∧ w'.heap[wr.heap.size]? = some (.cells #[.int .i64 a.k, .int .i64 a.n, .int .u32 a.x, .slice a.A a.l a.c] 29 (0, 0))) := by
            refine ⟨hput.mono ?_⟩
            have e0 : askE a.x a.n = none := by unfold askE; rw [show okW a.x a.n = true from hok]; rfl
            rintro e w' ⟨rfl, ⟨h, _⟩ | ⟨_, v', hw', hg'⟩⟩
            · rw [show okW a.x a.n = true from hok] at h; cases h
            · refine ⟨by rw [e0]; rfl, v', ⟨hw', ?_, ?_⟩, ?_⟩
              · exact hg'.keep.own hDA (fun h => own_ne hDA hWA.wr.blk (by decide) h.symm) (own_type_ne hDA hWA.wr.row (by decide))
              · exact hg'.below hBA (Nat.le_trans hsz (by simp)) hWA.wr.bg hWA.base
              · rw [hg'.keep.2 wr.heap.size (by simp) (by omega) (fun h => by have := hvl _ h.symm; omega)]
                exact hnew
          have HR := Aside0.mk ht
          have HI := Aside0.mk hi
          have HK4 := Aside0.mk hK4
          clear hi hlt ht hK4 hbl hWA hBA hDA hnew hsz hput hgl hvl hok hv0 hn0
          go_wp2_with (first
            | (go_at_call 10; refine HP.out.mono ?_; rintro e w' ⟨rfl, v', HX, hnew⟩; have m0 := blk_cell hnew 0; have m1 := blk_cell hnew 1; have m2 := blk_cell hnew 2; have m3 := blk_cell hnew 3; simp only [Array.getElem?_eq_getElem, List.size_toArray, List.length_cons, List.length_nil, Nat.reduceAdd, Nat.reduceLT, List.getElem_toArray, List.getElem_cons_succ, List.getElem_cons_zero] at m0 m1 m2 m3; clear hnew; replace HX := Aside0.mk HX)
            | ((with_reducible refine gate_dst (N := 37) rfl ?_); refine print_append_cells (w0 := w) w.heap.size rfl (.tmp 34) (.tmp 36) 22 29 _ 4 48 rfl Try.underlying22 info_act rfl (by decide) (by decide) _ _ _ [.int .i64 a.k, .int .i64 a.n, .int .u32 a.x, .slice a.A a.l a.c] rfl rfl rfl (by simp [Value.oneCell']) HX.out.2.1 HX.out.2.2 HX.out.2.2.size (by have := HK4.out; omega) ?_; intro v2 w2 ho hb hg hn; obtain ⟨A2, c2, rfl⟩ := own_slice ho; have HO2 := Aside0.mk ho; have HB2 := Aside0.mk hb; have HW2 := Aside0.mk (HX.out.1.grown hg (own_ne HX.out.2.1 HX.out.1.wr.blk (by decide)) (own_type_ne HX.out.1.wr.row HX.out.2.1 (by decide))); clear ho hb hg hn))
          go_roundg (gk - 1)
          case measure => have := HK.out; omega
          case rel =>
            refine ⟨i + 1, A2, _, c2, v', rfl, by go_num, by omega, ⟨by have := HK.out; omega⟩, HW2, ?_, HB2⟩
            have := HO2.out
            rw [HR.out, List.length_append, acs_append]
            exact ⟨this⟩
      · have ei : i = L := by omega
        subst ei
        rw [show l.take i = l by rw [← hL]; exact List.take_length] at HW HD
        have hok := Aside0.mk (kept_ok l)
        have hbl := bitsN_le (kept l) (kept_ok l)
        have hK4 : (kept l).length ≤ 100 := Nat.le_trans (List.length_filter_le _ _) (by have := HL.out; omega)
        obtain ⟨K, hK⟩ : ∃ K, K = kept l := ⟨_, rfl⟩
        rw [← hK] at HW HD hok hbl hK4
        have hsz := HB.out.size
        have hN3 : bitsN K ≤ 3200 := by omega
        obtain ⟨n8, hn8⟩ : ∃ n8, n8 = (bitsN K + 7) / 8 := ⟨_, rfl⟩
        have hVl : val K < 2 ^ (8 * n8) := Nat.lt_of_lt_of_le HW.out.lt (Nat.pow_le_pow_right (by decide) (by omega))
        have HT : Aside0 (Calls Try.prog 18 #[.pointer (some ⟨w1.heap.size, 0, none⟩)] wr fun e w2 => ∃ A3 c3, e = .returned (.slice A3 n8 c3) ∧ (Kd.int .u8).C w2 A3 n8 (leB (val K) n8) ∧ (A3 = none → n8 = 0 ∧ c3 = 0) ∧ Below wr.heap.size wr w2) := by
          refine ⟨(wtext_calls wr _ _ v _ _ HW.out (by omega)).mono ?_⟩
          rintro e w2 ⟨v', rfl, ho, hb2⟩
          rw [← hn8] at ho
          obtain ⟨A3, c3, rfl, _, hc⟩ := own_slice' ho
          exact ⟨A3, c3, rfl, hc, own_cap ho, hb2⟩
        have HLen : Aside0 (∀ w5, Writ w5 w.heap.size w1.heap.size v (val K) (bitsN K) → Calls Try.prog 16 #[.pointer (some ⟨w1.heap.size, 0, none⟩)] w5 fun e w' => e = .returned (.int .i64 (bitsN K)) ∧ ∃ m, w' = w5.drewN m) := ⟨fun w5 h => len_calls w5 _ _ v _ _ h (by omega)⟩
        have HN8 := Aside0.mk hn8
        have HVl := Aside0.mk hVl
        have HK4 := Aside0.mk hK4
        have HSZ := Aside0.mk hsz
        have HN3 := Aside0.mk hN3
        obtain rfl := own_len HD.out
        have hii : ¬ ((i : Int) < (i : Int)) := by omega
        clear hi hlt hbl hK4 hK hsz hN3 hn8 hVl
        go_wp2_with (first
          | (go_at_call 18; refine HT.out.mono ?_; rintro e w2 ⟨A3, c3, rfl, hc, hcap3, hb2⟩; replace hc := Aside0.mk hc; replace hcap3 := Aside0.mk hcap3; replace hb2 := Aside0.mk hb2)
          | (go_at_call 20; refine (newReader_calls _ _ _ (val K) _ hc.out HVl.out (by have := HN8.out; have := HN3.out; omega) hcap3.out).mono ?_; rintro e w3 ⟨g3, v3, rfl, hr, hb3⟩; replace hr := Aside0.mk hr; replace hb3 := Aside0.mk hb3))
        have hD3 : Aside0 (w3.ownsRow w.heap.size 29 4 (.slice Ad K.length cd) K.length (acs K)) := ⟨pw_own_below (pw_own_below HD.out hb2.out) hb3.out⟩
        have hW3 : Aside0 (Writ w3 w.heap.size w1.heap.size v (val K) (bitsN K)) := ⟨(HW.out.below hb2.out).below hb3.out⟩
        have hB3 : Aside0 (Below w.heap.size w w3) := ⟨(HB.out.trans (hb2.out.mono HSZ.out)).trans (hb3.out.mono (Nat.le_trans HSZ.out hb2.out.size))⟩
        have hg3 : Aside0 (w2.heap.size ≤ g3 ∧ wr.heap.size ≤ w2.heap.size ∧ w.heap.size ≤ wr.heap.size ∧ w2.heap.size ≤ w3.heap.size) := ⟨hr.out.bg, hb2.out.size, HSZ.out, hb3.out.size⟩
        have hK100 : ((K.length : Nat) : Int) ≤ 100 := by have := HK4.out; omega
        obtain ⟨gk1, hgk1⟩ : ∃ g : Nat, g = gk := ⟨_, rfl⟩
        obtain ⟨wq, hwq⟩ : ∃ wq : World, wq = wr := ⟨_, rfl⟩
        rw [← hwq] at *
        clear hwq
        go_loopg [44] K.length (fun kq v44 w4 => ∃ j : Nat, v44 = .int .i64 j ∧ j ≤ K.length ∧ Aside0 (kq = K.length - j) ∧ Aside0 (Rdr w4 w2.heap.size g3 v3 (val K) n8 (bitsN (K.take j))) ∧ Aside0 (Gone w3 w4 g3))
        case atStart => exact ⟨0, rfl, Nat.zero_le _, ⟨rfl⟩, ⟨by simpa [bitsN] using hr.out⟩, ⟨Gone.refl _ _⟩⟩
        case round =>
          obtain ⟨j, rfl, hj, HJ, HR4, HG4⟩ := hrel
          by_cases hjl : j < K.length
          · have hjl' : (j : Int) < ((K.length : Nat) : Int) := by omega
            obtain ⟨a, ha⟩ : ∃ a, K[j]? = some a := ⟨_, List.getElem?_eq_getElem hjl⟩
            obtain ⟨hjK, hje⟩ := List.getElem?_eq_some_iff.1 ha
            have hrd := val_read K hok.out j hjK
            rw [hje] at hrd
            have hoka := hok.out a (List.mem_of_getElem? ha)
            have hk : 0 ≤ a.n ∧ a.n ≤ 32 ∧ a.x < 2 ^ a.n.toNat := of_decide_eq_true hoka
            have hnext := bitsN_take K j a ha
            have hle := bitsN_take_le K (j + 1)
            have hD4 := HG4.out.keep.own hD3.out (fun h => own_ne hD3.out hr.out.blk (by decide) h.symm) (by cases (Value.slice Ad K.length cd).ownBlock <;> simp)
            obtain ⟨gd, rfl, k0, k1, k2, k3⟩ := done_cells hD4 j a ha
            have hnew := alloc_self wr (.cells #[.int .i64 a.k, .int .i64 a.n, .int .u32 a.x, .slice a.A a.l a.c] 29)
            have hbits := rbits_calls _ w2.heap.size g3 v3 (val K) n8 _ a.n (HR4.out.alloc (.cells #[.int .i64 a.k, .int .i64 a.n, .int .u32 a.x, .slice a.A a.l a.c] 29)) (by have := HN8.out; have := HN3.out; omega)
            have hE : bitsE a.n (8 * n8 - bitsN (K.take j)) = none := by
              unfold bitsE
              rw [show inW a.n = true from decide_eq_true ⟨hk.1, hk.2.1⟩, if_pos rfl, if_pos (by have := HN8.out; omega)]
            have hX : bitsX (val K) (bitsN (K.take j)) (8 * n8 - bitsN (K.take j)) a.n = a.x := by unfold bitsX; rw [hE]; exact hrd
            rw [hE, hX, ← hnext] at hbits
            have hgl := blk_lt HR4.out.blk
            have HPB : Aside0 (Calls Try.prog 21 #[.pointer (some ⟨g3, 0, none⟩), .int .i64 a.n] (wr.alloc (.cells #[.int .i64 a.k, .int .i64 a.n, .int .u32 a.x, .slice a.A a.l a.c] 29)) fun e w' => e = .returned (.tuple #[.int .u32 a.x, .nilIface]) ∧ (Rdr w' w2.heap.size g3 v3 (val K) n8 (bitsN (K.take (j + 1))) ∧ Gone w3 w' g3) ∧
                w'.heap[wr.heap.size]? = some (.cells #[.int .i64 a.k, .int .i64 a.n, .int .u32 a.x, .slice a.A a.l a.c] 29 (0, 0))) := by
              refine ⟨hbits.mono ?_⟩
              rintro e w' ⟨rfl, hr', hg'⟩
              refine ⟨rfl, ⟨hr', (HG4.out.alloc _).trans hg'⟩, ?_⟩
              rw [hg'.keep.2 wr.heap.size (by simp) (by omega) (by simp)]
              exact hnew
            have HJ2 := Aside0.mk hjl
            have hnn : (a.x != a.x) = false := by simp
            clear hj hjl hjK hje hrd hoka hk hnext hle hD4 hnew hbits hE hX hgl ha
            go_wp2_with (go_at_call 21; refine HPB.out.mono ?_; rintro e w5 ⟨rfl, HX, hnew⟩; have m0 := blk_cell hnew 0; have m1 := blk_cell hnew 1; have m2 := blk_cell hnew 2; have m3 := blk_cell hnew 3; simp only [Array.getElem?_eq_getElem, List.size_toArray, List.length_cons, List.length_nil, Nat.reduceAdd, Nat.reduceLT, List.getElem_toArray, List.getElem_cons_succ, List.getElem_cons_zero] at m0 m1 m2 m3; clear hnew; replace HX := Aside0.mk HX)
            go_roundg (gk - 1)
            case measure => have := HJ.out; have := HJ2.out; omega
            case rel => exact ⟨j + 1, by go_num, HJ2.out, ⟨by have := HJ.out; omega⟩, ⟨HX.out.1⟩, ⟨HX.out.2⟩⟩
          · have ej : j = K.length := by omega
            subst ej
            rw [List.take_length] at HR4
            obtain ⟨m, hm⟩ : ∃ m, m = 8 * n8 - bitsN K := ⟨_, rfl⟩
            have hm7 : m ≤ 7 := by have := HN8.out; omega
            have hz : val K / 2 ^ bitsN K % 2 ^ m = 0 := by rw [Nat.div_eq_of_lt hW3.out.lt]; exact Nat.zero_mod _
            have HPk : Aside0 (Calls Try.prog 22 #[.pointer (some ⟨g3, 0, none⟩), .int .i64 8] wr fun e w' => e = .returned (.tuple #[.int .u32 0, .int .i64 m]) ∧ ∃ q, w' = wr.drewN q) := by
              have h := peek_calls wr _ g3 v3 _ n8 _ 8 (by decide) HR4.out (by have := HN8.out; have := HN3.out; omega)
              rw [← hm, Nat.min_eq_right (by omega : m ≤ 8), hz] at h
              exact ⟨h⟩
            have HAl : Aside0 (∀ w5, Rdr w5 w2.heap.size g3 v3 (val K) n8 (bitsN K) → Calls Try.prog 24 #[.pointer (some ⟨g3, 0, none⟩)] w5 fun e w' => e = .returned (.int .i64 m) ∧ Gone w5 w' g3) := by
              refine ⟨fun w5 h => (ralign_calls w5 _ g3 v3 _ n8 _ h (by have := HN8.out; have := HN3.out; omega)).mono ?_⟩
              rintro e w' ⟨rfl, _, h2⟩
              exact ⟨by rw [show (8 - bitsN K % 8) % 8 = m by have := HN8.out; omega], h2⟩
            have hW4 : Aside0 (Writ wr w.heap.size w1.heap.size v (val K) (bitsN K)) := ⟨hW3.out.keep HG4.out.keep (blk_ne hW3.out.wr.blk hr.out.blk (by decide)) (fun h => own_ne hW3.out.wr.row hr.out.blk (by decide) h.symm)⟩
            have hm8 : (m : Int) < 8 := by omega
            have hjj : ¬ (((K.length : Nat) : Int) < ((K.length : Nat) : Int)) := by omega
            clear hj hjl hm hm7 hz
            go_wp2_with (first
              | (go_at_call 22; refine HPk.out.mono ?_; rintro e w5 ⟨rfl, q1, rfl⟩)
              | (go_at_call 23; refine (at_calls _ w2.heap.size g3 v3 (val K) n8 (bitsN K) (HR4.out.drewN _)).mono ?_; rintro e w6 ⟨rfl, rfl⟩)
              | (go_at_call 16; refine (HLen.out _ ⟨hW4.out.wr.drewN _, hW4.out.lt⟩).mono ?_; rintro e w6 ⟨rfl, q2, rfl⟩)
              | (go_at_call 24; refine (HAl.out _ (HR4.out.drewN _)).mono ?_; rintro e w7 ⟨rfl, HG7⟩; replace HG7 := Aside0.mk HG7))
            go_ret
            exact ⟨rfl, ((HG4.out.drewN _).trans HG7.out).below hB3.out (Nat.le_trans hB3.out.size (Nat.le_refl _) |> fun h => by have := hg3.out; omega) (by have := hg3.out; omega)⟩
  · have h100 : (100 : Int) < ((l.length : Nat) : Int) := by omega
    clear hlen
    go_enter Try.func4, Try.ntmps4
    go_wp2_with (go_at_call 7; refine (HA.out _).mono ?_; rintro e w1 ⟨rfl, hb⟩; replace hb := Aside0.mk hb)
    go_ret
    exact ⟨rfl, hb.out⟩
end Go.Proofs.Ytjlophlheoikgaa.My
