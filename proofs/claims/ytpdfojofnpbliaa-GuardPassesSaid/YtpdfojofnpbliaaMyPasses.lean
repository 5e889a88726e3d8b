/- The law GuardPasses, walked: what isn't a fault goes through Try and In as it was. -/
import Derived.Test.YtpdfojofnpbliaaMyGuardLaws
import Derived.Laws.EntriesVeiled
namespace Go.Proofs.Ytpdfojofnpbliaa.My
open Go.RowKit Go.Proofs.YtpdfojofnpbliaaW.PrintWords Go.Proofs.YtpdfojofnpbliaaW.PrintLast Go.Proofs.YtpdfojofnpbliaaW.PrintMore

/-- It panics with a number; nothing that was there has turned. -/
def PanEnd (n : Int) (W : World) (e : Ending) (w' : World) : Prop :=
  Below W.heap.size W w' ∧ ∃ older : List PanicEntry, e = .panicked ({ v := .iface 3 (.int .i64 n), recovered := false } :: older) ∧ older.dropWhile (!·.goexit) = []
/-- A function value that does, now and later, whatever a variable (row) holds then. -/
def Pans (n : Int) (row : Option Nat) (fv : Value) (W : World) : Prop := ∃ F cap, fv = .func (.func F) #[] cap ∧ (∀ W : World, (callFunc F cap).run Try.prog W = .ok (.enter F cap) W) ∧
  ∀ W', W.grownBy W' row → Calls Try.prog F cap W' (PanEnd n W')
theorem Pans.grown {n : Int} {row : Option Nat} {fv : Value} {W W1 : World} (h : Pans n row fv W) (hb : W.grownBy W1 row) : Pans n row fv W1 := by
  obtain ⟨F, cap, h1, h2, h3⟩ := h
  exact ⟨F, cap, h1, h2, fun W' hb' => h3 W' (grown_trans hb hb')⟩
theorem PanEnd.from {n : Int} {W W' : World} {e : Ending} {w' : World} (hb : Below W.heap.size W W') (h : PanEnd n W' e w') : PanEnd n W e w' :=
  ⟨below_then hb hb.size h.1, h.2⟩
theorem try_pan (n : Int) (fv : Value) (W : World) {row : Option Nat} (h : Pans n row fv W) : Calls Try.prog 12 #[fv] W (PanEnd n W) := by
  obtain ⟨F, cap, rfl, hcf, hR0⟩ := h
  have hb1 := below_alloc (Below.refl W.heap.size W) (.cells #[.nilIface] 26)
  have HR := Aside0.mk (hR0 _ (grown_below hb1 row))
  have hmf : ∀ (fn : Fn) (first cap : Array Value) (w : World), (Instr.makeFunc fn first cap).run Try.prog w = .ok (.func fn first cap) w := fun _ _ _ _ => rfl
  have hnf : ∀ (fn : Fn) (first cap : Array Value) (W : World), (Go.binOp .eql 1 (Value.func fn first cap) Value.nilFunc).run Try.prog W = .ok (.bool false) W := fun _ _ _ _ => rfl
  clear hR0 hb1
  go_enter_defers Try.func12, Try.ntmps12
  go_wp2_with fail
  refine HR.out.mono ?_
  rintro e w1 ⟨hb, older, rfl, ho⟩
  have hk := kept_new hb
  go_wp2
  refine leaves_cons (f := 30) (args := #[.pointer (some ⟨W.heap.size, 0, none⟩)]) (by simp) (by simp [go_sem]) ?_
  refine (catch_int W.heap.size n older _).mono ?_
  rintro e u' w'' ⟨rfl, rfl, rfl⟩
  simp only [Leaves, raised]
  exact ⟨below_from hb, _, rfl, by simpa [List.dropWhile_cons] using ho⟩
theorem in_pan (s : ByteArray) (n : Int) (fv : Value) (W : World) {row : Option Nat} (h : Pans n row fv W) : Calls Try.prog 10 #[.string s, fv] W (PanEnd n W) := by
  have HT := Aside0.mk (try_pan n fv W h)
  clear h
  go_enter Try.func10, Try.ntmps10
  go_wp2_with fail
  refine HT.out.mono ?_
  rintro e w1 ⟨hb, older, rfl, ho⟩
  exact post_panic rfl ⟨hb, older, rfl, ho⟩
theorem pas1 (n : Int) (b : Nat) (W : World) {row : Option Nat} (hr : some b ≠ row) (hc : W.cell? ⟨b, 0, none⟩ = some (.int .i64 n)) : Pans n row (.func (.func 8) #[] #[.pointer (some ⟨b, 0, none⟩)]) W := by
  refine ⟨_, _, rfl, fun _ => rfl, fun W' hb => ?_⟩
  have hc' := cell_grown hb hc hr
  clear hc hb
  go_enter Try.func8, Try.ntmps8
  go_wp2
  exact post_panic rfl ⟨Below.refl _ _, [], rfl, rfl⟩
theorem pas2 (n : Int) (b : Nat) (fv : Value) (W : World) {row : Option Nat} (hr : some b ≠ row) (hc : W.cell? ⟨b, 0, none⟩ = some fv) (h : Pans n row fv W) : Pans n row (.func (.func 9) #[] #[.pointer (some ⟨b, 0, none⟩)]) W := by
  refine ⟨_, _, rfl, fun _ => rfl, fun W' hb => ?_⟩
  have hc' := cell_grown hb hc hr
  have HI := Aside0.mk (in_pan ⟨#[120]⟩ n fv W' (h.grown hb))
  clear hc hb h
  go_enter Try.func9, Try.ntmps9
  go_wp2_with fail
  refine HI.out.mono ?_
  rintro e w1 ⟨hb, older, rfl, ho⟩
  exact post_panic rfl ⟨hb, older, rfl, ho⟩
theorem pas3 (n : Int) (b : Nat) (fv : Value) (W : World) {row : Option Nat} (hr : some b ≠ row) (hc : W.cell? ⟨b, 0, none⟩ = some fv) (h : Pans n row fv W) : Pans n row (.func (.func 11) #[] #[.pointer (some ⟨b, 0, none⟩)]) W := by
  refine ⟨_, _, rfl, fun _ => rfl, fun W' hb => ?_⟩
  have hc' := cell_grown hb hc hr
  have HI := Aside0.mk (try_pan n fv W' (h.grown hb))
  clear hc hb h
  go_enter Try.func11, Try.ntmps11
  go_wp2_with fail
  refine HI.out.mono ?_
  rintro e w1 ⟨hb, older, rfl, ho⟩
  exact post_panic rfl ⟨hb, older, rfl, ho⟩
theorem catch_end (a b : Nat) (n : Int) (x y : Value) (older : List PanicEntry) (w : World) (hne : a ≠ b) (ha : w.cell? ⟨a, 0, none⟩ = some x) (haz : w.frozen? ⟨a, 0, none⟩ = false) (hb : w.cell? ⟨b, 0, none⟩ = some y) (hbz : w.frozen? ⟨b, 0, none⟩ = false) :
    CallsD Try.prog 14 #[.pointer (some ⟨a, 0, none⟩), .pointer (some ⟨b, 0, none⟩)] (.panicking ({ v := .iface 3 (.int .i64 n), recovered := false } :: older)) w fun e u' w' =>
      e = .returned (.tuple #[]) ∧ u' = .panicking ({ v := .iface 3 (.int .i64 n), recovered := true } :: older) ∧ w' = (w.setCell ⟨a, 0, none⟩ (.int .i64 n)).setCell ⟨b, 0, none⟩ (.bool true) := by
  have hta : ∀ (v : Value) (W : World), (Instr.typeAssert (.iface 3 v) 20 3 true).run Try.prog W = .ok (.tuple #[v, .bool true]) W := fun _ _ => rfl
  have hb2 : (w.setCell ⟨a, 0, none⟩ (.int .i64 n)).cell? ⟨b, 0, none⟩ = some y := by rw [← hb]; exact World.cell?_of_block (Below.heap_setCell w ⟨a, 0, none⟩ _ b (fun e => hne e.symm))
  have hz2 : (w.setCell ⟨a, 0, none⟩ (.int .i64 n)).frozen? ⟨b, 0, none⟩ = false := by rw [← hbz]; exact World.frozen?_of_block (Below.heap_setCell w ⟨a, 0, none⟩ _ b (fun e => hne e.symm))
  refine callsD_of_wpS Try.func14 rfl fun c₀ cs hu => ?_
  apply wpS_region
  simp [wpOpsS, go_sem, recoverD, hu, hta, ha, haz, hb2, hz2, Try.ntmps14, Exit.thenS, bodyPostS, results, Try.results14]
theorem pas4 (a b g : Nat) (n : Int) (x y fv : Value) (w : World) (hne : a ≠ b) (ha : w.heap[a]? = some (.cells #[x] 3 (0, 0))) (hb : w.heap[b]? = some (.cells #[y] 4 (0, 0)))
    (hg : w.cell? ⟨g, 0, none⟩ = some fv) {row : Option Nat} (h : Pans n row fv w) :
    Calls Try.prog 13 #[.pointer (some ⟨a, 0, none⟩), .pointer (some ⟨b, 0, none⟩), .pointer (some ⟨g, 0, none⟩)] w fun e w' =>
      e = .returned (.tuple #[]) ∧ ∃ w1, Below w.heap.size w w1 ∧ w' = (w1.setCell ⟨a, 0, none⟩ (.int .i64 n)).setCell ⟨b, 0, none⟩ (.bool true) := by
  obtain ⟨F, cap, rfl, hcf, hR0⟩ := h
  have HR := Aside0.mk (hR0 _ (grown_refl _ _))
  have HA := Aside0.mk ha
  have HB := Aside0.mk hb
  have hmf : ∀ (fn : Fn) (first cap : Array Value) (w : World), (Instr.makeFunc fn first cap).run Try.prog w = .ok (.func fn first cap) w := fun _ _ _ _ => rfl
  clear hR0 ha hb
  go_enter_defers Try.func13, Try.ntmps13
  go_wp2_with fail
  refine HR.out.mono ?_
  rintro e w1 ⟨hb, older, rfl, ho⟩
  go_wp2
  refine leaves_cons (f := 14) (args := #[.pointer (some ⟨a, 0, none⟩), .pointer (some ⟨b, 0, none⟩)]) (by simp) (by simp [go_sem]) ?_
  have h1 := (hb.block a (blk_lt HA.out)).trans HA.out
  have h2 := (hb.block b (blk_lt HB.out)).trans HB.out
  refine (catch_end a b n x y older _ hne (by rw [blk_cell h1]; rfl) (blk_frozen h1 0) (by rw [blk_cell h2]; rfl) (blk_frozen h2 0)).mono ?_
  rintro e u' w'' ⟨rfl, rfl, rfl⟩
  simp [Leaves, settle, ho, results, Try.results13, go_sem]
  exact ⟨w1, hb, rfl⟩
set_option maxHeartbeats 1000000 in
theorem passes_main (n d : Int) (kind : Bool) (w : World) :
    Calls Try.prog 3 #[.int .i64 n, .int .i64 d, .bool kind] w fun e w' => e = .returned (.bool true) ∧ Below w.heap.size w w' := by
  have hmf : ∀ (fn : Fn) (first cap : Array Value) (w : World), (Instr.makeFunc fn first cap).run Try.prog w = .ok (.func fn first cap) w := fun _ _ _ _ => rfl
  go_enter Try.func3, Try.ntmps3
  go_wp2_with (first
    | (go_at_call 7; refine (alive_calls _).mono ?_; rintro e w1 ⟨rfl, hb⟩; have HB := Aside0.mk hb; clear hb))
  obtain ⟨d', hd⟩ : ∃ d' : Nat, wrap64 ((IntKind.u64.wrap d).tmod 20) = (d' : Int) ∧ d' < 20 := by
    have h1 : 0 ≤ IntKind.u64.wrap d := by simp only [IntKind.wrap, IntKind.bits, IntKind.signed]; simp; omega
    generalize IntKind.u64.wrap d = u at h1
    rw [Int.tmod_eq_emod_of_nonneg h1]
    exact ⟨(u % 20).toNat, by unfold wrap64; omega, by omega⟩
  rw [hd.1]
  have hd20 := hd.2
  clear hd
  have b0 : w1.heap[w.heap.size]? = some (.cells #[.int .i64 n] 3 (0, 0)) := kept_new HB.out
  have hlt0 : w.heap.size < w1.heap.size := by have := HB.out.size; simp at this; omega
  have hg0 := grown_below (below_alloc (Below.refl w1.heap.size w1) (.cells #[.func (.func 8) #[] #[.pointer (some ⟨w.heap.size, 0, none⟩)]] 1)) none
  have H0 := Aside0.mk (pas1 n w.heap.size (w1.alloc (.cells #[.func (.func 8) #[] #[.pointer (some ⟨w.heap.size, 0, none⟩)]] 1)) (row := some w1.heap.size) (by simp; omega) (by rw [blk_cell (blk_grown b0 hg0 (by simp))]; rfl))
  have HB1 := Aside0.mk (below_alloc (below_from HB.out) (.cells #[.func (.func 8) #[] #[.pointer (some ⟨w.heap.size, 0, none⟩)]] 1))
  have HN := Aside0.mk (blk_grown b0 hg0 (by simp))
  have HL := Aside0.mk hlt0
  have HS := Aside0.mk (alloc_self w1 (.cells #[.func (.func 8) #[] #[.pointer (some ⟨w.heap.size, 0, none⟩)]] 1))
  clear b0 hlt0 hg0
  go_loopg [8, 20] d' (fun kq _ v20 wr => ∃ (i : Nat) (F : FuncId) (cp : Array Value), v20 = .int .i64 i ∧ i ≤ d' ∧ Aside0 (kq = d' - i) ∧ Aside0 (Below w.heap.size w wr) ∧ Aside0 (wr.heap[w1.heap.size]? = some (.cells #[.func (.func F) #[] cp] 1 (0, 0))) ∧ Aside0 (Pans n (some w1.heap.size) (.func (.func F) #[] cp) wr) ∧ Aside0 (wr.heap[w.heap.size]? = some (.cells #[.int .i64 n] 3 (0, 0))))
  case atStart => exact ⟨0, _, _, rfl, Nat.zero_le _, ⟨by omega⟩, HB1, HS, H0, HN⟩
  case round =>
    obtain ⟨i, F, cp, rfl, hi, HK, HBr, HC, HP, HNr⟩ := hrel
    by_cases hlt : i < d'
    · have hm : ((i : Int).tmod 2) = ((i % 2 : Nat) : Int) := by rw [Int.tmod_eq_emod_of_nonneg (by omega)]; omega
      by_cases hk : (kind == decide (i % 2 = 0)) = true
      · have hq : (kind == ((i : Int) % 2 == 0)) = true := by
          rw [← hk]; congr 1
          by_cases h : i % 2 = 0
          · have h2 : (i : Int) % 2 = 0 := by omega
            rw [h2]; simp [h]
          · have h2 : (i : Int) % 2 = 1 := by omega
            rw [h2]; simp [h]
        clear hk
        have hn1 := alloc_self wr (.cells #[.func (.func F) #[] cp] 1)
        have hbw := below_alloc (Below.refl wr.heap.size wr) (.cells #[.func (.func F) #[] cp] 1)
        generalize hW : wr.alloc (.cells #[.func (.func F) #[] cp] 1) = W2 at hn1 hbw
        have hC2 := (hbw.block _ (blk_lt HC.out)).trans HC.out
        have hcc : wr.cell? ⟨w1.heap.size, 0, none⟩ = some (.func (.func F) #[] cp) := by rw [blk_cell HC.out]; rfl
        have hcc2 : W2.cell? ⟨w1.heap.size, 0, none⟩ = some (.func (.func F) #[] cp) := by rw [blk_cell hC2]; rfl
        have hcz2 : W2.frozen? ⟨w1.heap.size, 0, none⟩ = false := blk_frozen hC2 0
        have hg3 := grown_set W2 w1.heap.size 0 (.func (.func 9) #[] #[.pointer (some ⟨wr.heap.size, 0, none⟩)])
        have hne : some wr.heap.size ≠ some w1.heap.size := by have := blk_lt HC.out; simp; omega
        have hne0 : some w.heap.size ≠ some w1.heap.size := by have := HL.out; simp; omega
        have P3 := Aside0.mk (pas2 n wr.heap.size (.func (.func F) #[] cp) (W2.setCell ⟨w1.heap.size, 0, none⟩ (.func (.func 9) #[] #[.pointer (some ⟨wr.heap.size, 0, none⟩)])) hne (by rw [blk_cell (blk_grown hn1 hg3 hne)]; rfl) ((HP.out.grown (grown_below hbw _)).grown hg3))
        have C3 := Aside0.mk (blk_set hC2 0 (.func (.func 9) #[] #[.pointer (some ⟨wr.heap.size, 0, none⟩)]))
        have N3 := Aside0.mk (blk_grown ((hbw.block _ (blk_lt HNr.out)).trans HNr.out) hg3 hne0)
        have B3 := Aside0.mk ((below_then HBr.out HBr.out.size hbw).setCell (p := ⟨w1.heap.size, 0, none⟩) (by have := HL.out; show w.heap.size ≤ w1.heap.size; omega) (.func (.func 9) #[] #[.pointer (some ⟨wr.heap.size, 0, none⟩)]))
        clear hn1 hbw hC2 hg3 hne hne0
        go_wp2
        go_roundg (gk - 1)
        case measure => have := HK.out; omega
        case rel => exact ⟨i + 1, _, _, by go_num, by omega, ⟨by have := HK.out; omega⟩, B3, ⟨by simpa using C3.out⟩, P3, N3⟩
      · have hq : (kind == ((i : Int) % 2 == 0)) = false := by
          rw [← Bool.not_eq_true, ← show (kind == decide (i % 2 = 0)) = (kind == ((i : Int) % 2 == 0)) from by
            congr 1
            by_cases h : i % 2 = 0
            · have h2 : (i : Int) % 2 = 0 := by omega
              rw [h2]; simp [h]
            · have h2 : (i : Int) % 2 = 1 := by omega
              rw [h2]; simp [h]]
          exact hk
        clear hk
        have hn1 := alloc_self wr (.cells #[.func (.func F) #[] cp] 1)
        have hbw := below_alloc (Below.refl wr.heap.size wr) (.cells #[.func (.func F) #[] cp] 1)
        generalize hW : wr.alloc (.cells #[.func (.func F) #[] cp] 1) = W2 at hn1 hbw
        have hC2 := (hbw.block _ (blk_lt HC.out)).trans HC.out
        have hcc : wr.cell? ⟨w1.heap.size, 0, none⟩ = some (.func (.func F) #[] cp) := by rw [blk_cell HC.out]; rfl
        have hcc2 : W2.cell? ⟨w1.heap.size, 0, none⟩ = some (.func (.func F) #[] cp) := by rw [blk_cell hC2]; rfl
        have hcz2 : W2.frozen? ⟨w1.heap.size, 0, none⟩ = false := blk_frozen hC2 0
        have hg3 := grown_set W2 w1.heap.size 0 (.func (.func 11) #[] #[.pointer (some ⟨wr.heap.size, 0, none⟩)])
        have hne : some wr.heap.size ≠ some w1.heap.size := by have := blk_lt HC.out; simp; omega
        have hne0 : some w.heap.size ≠ some w1.heap.size := by have := HL.out; simp; omega
        have P3 := Aside0.mk (pas3 n wr.heap.size (.func (.func F) #[] cp) (W2.setCell ⟨w1.heap.size, 0, none⟩ (.func (.func 11) #[] #[.pointer (some ⟨wr.heap.size, 0, none⟩)])) hne (by rw [blk_cell (blk_grown hn1 hg3 hne)]; rfl) ((HP.out.grown (grown_below hbw _)).grown hg3))
        have C3 := Aside0.mk (blk_set hC2 0 (.func (.func 11) #[] #[.pointer (some ⟨wr.heap.size, 0, none⟩)]))
        have N3 := Aside0.mk (blk_grown ((hbw.block _ (blk_lt HNr.out)).trans HNr.out) hg3 hne0)
        have B3 := Aside0.mk ((below_then HBr.out HBr.out.size hbw).setCell (p := ⟨w1.heap.size, 0, none⟩) (by have := HL.out; show w.heap.size ≤ w1.heap.size; omega) (.func (.func 11) #[] #[.pointer (some ⟨wr.heap.size, 0, none⟩)]))
        clear hn1 hbw hC2 hg3 hne hne0
        go_wp2
        go_roundg (gk - 1)
        case measure => have := HK.out; omega
        case rel => exact ⟨i + 1, _, _, by go_num, by omega, ⟨by have := HK.out; omega⟩, B3, ⟨by simpa using C3.out⟩, P3, N3⟩
    · have hn2 := heap_alloc2_new wr (.cells #[.int .i64 0] 3) (.cells #[.bool false] 4)
      have hn3 := heap_alloc2_old wr (.cells #[.int .i64 0] 3) (.cells #[.bool false] 4)
      have hb0 : Below wr.heap.size wr ((wr.alloc (.cells #[.int .i64 0] 3)).alloc (.cells #[.bool false] 4)) := below_alloc (below_alloc (Below.refl _ _) _) _
      generalize hW : (wr.alloc (.cells #[.int .i64 0] 3)).alloc (.cells #[.bool false] 4) = W2 at hn2 hn3 hb0
      have HQ := Aside0.mk (pas4 wr.heap.size (wr.heap.size + 1) w1.heap.size n _ _ _ W2 (by omega) hn3 hn2 (by rw [blk_cell ((hb0.block _ (blk_lt HC.out)).trans HC.out)]; rfl) (HP.out.grown (grown_below hb0 _)))
      have H2 := Aside0.mk hn2
      have H3 := Aside0.mk hn3
      have H4 := Aside0.mk ((hb0.block _ (blk_lt HNr.out)).trans HNr.out)
      have HBw := Aside0.mk (below_then HBr.out HBr.out.size hb0)
      have HW := Aside0.mk hW
      clear hn2 hn3 hb0 hW
      go_wp2_with fail
      rw [HW.out]
      refine HQ.out.mono ?_
      rintro e w5 ⟨rfl, w4, hb, rfl⟩
      have h2 := (hb.block _ (blk_lt H2.out)).trans H2.out
      have h3 := (hb.block _ (blk_lt H3.out)).trans H3.out
      have h4 := (hb.block _ (blk_lt H4.out)).trans H4.out
      have ha := grown_set w4 wr.heap.size 0 (.int .i64 n)
      have hbb := grown_set (w4.setCell ⟨wr.heap.size, 0, none⟩ (.int .i64 n)) (wr.heap.size + 1) 0 (.bool true)
      have hlt4 : w.heap.size < wr.heap.size := blk_lt HNr.out
      have c2 : ((w4.setCell ⟨wr.heap.size, 0, none⟩ (.int .i64 n)).setCell ⟨wr.heap.size + 1, 0, none⟩ (.bool true)).cell? ⟨wr.heap.size + 1, 0, none⟩ = some (.bool true) := by
        rw [blk_cell (blk_set (blk_grown h2 ha (by simp)) 0 (.bool true))]; rfl
      have c3 : ((w4.setCell ⟨wr.heap.size, 0, none⟩ (.int .i64 n)).setCell ⟨wr.heap.size + 1, 0, none⟩ (.bool true)).cell? ⟨wr.heap.size, 0, none⟩ = some (.int .i64 n) := by
        rw [blk_cell (blk_grown (blk_set h3 0 (.int .i64 n)) hbb (by simp))]; rfl
      have c4 : ((w4.setCell ⟨wr.heap.size, 0, none⟩ (.int .i64 n)).setCell ⟨wr.heap.size + 1, 0, none⟩ (.bool true)).cell? ⟨w.heap.size, 0, none⟩ = some (.int .i64 n) := by
        rw [blk_cell (blk_grown (blk_grown h4 ha (by simp; omega)) hbb (by simp; omega))]; rfl
      have B5 := Aside0.mk (((below_then HBw.out HBw.out.size hb).setCell (p := ⟨wr.heap.size, 0, none⟩) (by show w.heap.size ≤ wr.heap.size; omega) (.int .i64 n)).setCell (p := ⟨wr.heap.size + 1, 0, none⟩) (by show w.heap.size ≤ wr.heap.size + 1; omega) (.bool true))
      generalize hW5 : (w4.setCell ⟨wr.heap.size, 0, none⟩ (.int .i64 n)).setCell ⟨wr.heap.size + 1, 0, none⟩ (.bool true) = W5 at c2 c3 c4 B5
      clear hb h2 h3 h4 ha hbb hW5
      go_wp2
      go_ret
      exact ⟨rfl, B5.out⟩
theorem passes_walk (n d : Int) (kind : Bool) (W : World) (_w0 : (Lit.int .i64 n).wf = true) (_w1 : (Lit.int .i64 d).wf = true) :
    Calls Try.prog 3 #[.int .i64 n, .int .i64 d, .bool kind] W fun e w' => e = .returned (.bool true) ∧ Below W.heap.size W w' := passes_main n d kind W
end Go.Proofs.Ytpdfojofnpbliaa.My
