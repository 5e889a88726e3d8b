/- The law GuardThrows, walked: an error that is passed on is caught with its code and place. -/
import Derived.Test.YtpdfojofnpbliaaMyGuardLaws
namespace Go.Proofs.Ytpdfojofnpbliaa.My
open Go.RowKit Go.Proofs.YtpdfojofnpbliaaW.PrintWords Go.Proofs.YtpdfojofnpbliaaW.PrintLast Go.Proofs.YtpdfojofnpbliaaW.PrintMore

/-- An error that has a code and a place: a number, or a fault. -/
def Has (e : Value) (W : World) (c : Int) (s : ByteArray) : Prop := (e = numV c ∧ s = ⟨#[]⟩) ∨ ∃ g, e = fltV g ∧ Flt W g c s
theorem Has.below {e : Value} {W W1 : World} {c : Int} {s : ByteArray} (h : Has e W c s) (hb : Below W.heap.size W W1) : Has e W1 c s := by
  rcases h with ⟨rfl, rfl⟩ | ⟨g, rfl, hf⟩
  · exact .inl ⟨rfl, rfl⟩
  · exact .inr ⟨g, rfl, hf.below hb⟩
theorem Has.iface {e : Value} {W : World} {c : Int} {s : ByteArray} (h : Has e W c s) : ∃ t x, e = .iface t x := by
  rcases h with ⟨rfl, rfl⟩ | ⟨g, rfl, hf⟩ <;> exact ⟨_, _, rfl⟩
theorem pass_has (e : Value) (W : World) (c : Int) (s : ByteArray) (h : Has e W c s) : Calls Try.prog 21 #[e] W (Throws c s W) := by
  rcases h with ⟨rfl, rfl⟩ | ⟨g, rfl, hf⟩
  · exact (pass_err c W).mono fun _ _ ⟨h1, h2⟩ => ⟨W, Below.refl _ _, h1, h2⟩
  · exact (pass_flt g c s W hf).mono fun _ _ ⟨h1, h2⟩ => ⟨W, Below.refl _ _, h1, h2⟩
theorem thr2 (b : Nat) (e : Value) (W : World) (c : Int) (s : ByteArray) (hc : W.cell? ⟨b, 0, none⟩ = some e) (h : Has e W c s) :
    Calls Try.prog 20 #[.pointer (some ⟨b, 0, none⟩)] W (Throws c s W) := by
  have HP := Aside0.mk (pass_has e W c s h)
  clear h
  go_enter Try.func20, Try.ntmps20
  go_wp2_with fail
  refine HP.out.mono ?_
  rintro e w2 ⟨w3, hb, rfl, rfl⟩
  exact post_panic rfl ⟨w3, hb, rfl, rfl⟩
theorem thr1 (a b : Nat) (ws : ByteArray) (e : Value) (W : World) (c : Int) (s : ByteArray) (ha : W.cell? ⟨a, 0, none⟩ = some (.string ws)) (hc : W.cell? ⟨b, 0, none⟩ = some e) (h : Has e W c s)
    (h1 : ws.size ≤ 1000000000000) (h2 : s.size ≤ 1000000000000) :
    Calls Try.prog 19 #[.pointer (some ⟨a, 0, none⟩), .pointer (some ⟨b, 0, none⟩)] W (Throws c (joinW ws s) W) := by
  have hmf : ∀ (fn : Fn) (first cap : Array Value) (w : World), (Instr.makeFunc fn first cap).run Try.prog w = .ok (.func fn first cap) w := fun _ _ _ _ => rfl
  have hb1 := below_alloc (Below.refl W.heap.size W) (.cells #[.nilIface] 26)
  have HI := Aside0.mk (in_throws ws 20 #[.pointer (some ⟨b, 0, none⟩)] c s W h1 h2 (fun _ => rfl) (thr2 b e _ c s (pw_cell_below hb1 hc) (h.below hb1)))
  clear h hb1 hc
  go_enter Try.func19, Try.ntmps19
  go_wp2_with fail
  refine HI.out.mono ?_
  rintro e w2 ⟨w3, hb, rfl, rfl⟩
  exact post_panic rfl ⟨w3, hb, rfl, rfl⟩
theorem thr_nil (W : World) : Calls Try.prog 24 #[] W (Quiet W) := by
  go_enter Try.func24, Try.ntmps24
  go_wp2_with fail
  refine (pass_nil W).mono ?_
  rintro e w2 ⟨rfl, rfl⟩
  go_wp2
  refine bodyPost_ret (results_none rfl _ _ _) rfl ⟨⟨_, rfl⟩, Below.refl _ _⟩

set_option maxHeartbeats 1000000 in
theorem throws_main (c : Int) (A : Option Addr) (cap : Nat) (l : List ByteArray) (w : World) (hl : l.length ≤ 20) (hcap : l.length ≤ cap) (hc0 : c ≠ 0) (hr : Kd.string.C w A l.length l) :
    Calls Try.prog 5 #[.int .i64 c, .slice A l.length cap] w fun e w' => e = .returned (.bool true) ∧ Below w.heap.size w w' := by
  have hmf : ∀ (fn : Fn) (first cap : Array Value) (w : World), (Instr.makeFunc fn first cap).run Try.prog w = .ok (.func fn first cap) w := fun _ _ _ _ => rfl
  have g1 : (c == 0) = false := beq_eq_false_iff_ne.2 hc0
  have HR := Aside0.mk hr
  clear hr hc0
  go_enter Try.func5, Try.ntmps5
  go_wp2_with (first
    | (go_at_call 7; refine (alive_calls _).mono ?_; rintro e w1 ⟨rfl, hb⟩; have HB := Aside0.mk hb; have HR1 := Aside0.mk (Kd.C_below HR.out hb); clear hb))
  go_loopg [5, 6, 23] l.length (fun kq v5 v6 v23 wr => ∃ (i : Nat) (s : ByteArray), v5 = .string s ∧ v23 = .int .i64 i ∧ i ≤ l.length ∧ s.size ≤ 50 * i ∧ Aside0 (kq = l.length - i) ∧ Aside0 (Has v6 wr c s) ∧ Aside0 (Below w1.heap.size w1 wr))
  case atStart => exact ⟨0, _, rfl, rfl, Nat.zero_le _, by decide, ⟨rfl⟩, ⟨.inl ⟨rfl, rfl⟩⟩, ⟨Below.refl _ _⟩⟩
  case round =>
    obtain ⟨i, s, rfl, rfl, hi, hsz, HK, HH, HBr⟩ := hrel
    by_cases hlt : i < l.length
    · obtain ⟨ad, ea, hx⟩ := Kd.at_string (Kd.C_below HR1.out HBr.out) (i : Int) (by omega) (by omega)
      cases ea
      simp only [Int.toNat_natCast] at hx
      generalize rdOf ByteArray.empty l ↑i = ws at hx
      by_cases h40 : 40 < ws.size
      · go_wp2
        go_ret
        exact ⟨rfl, below_alloc (below_then HB.out HB.out.size HBr.out) _⟩
      · obtain ⟨te, xe, rfl⟩ := HH.out.iface
        have hn1 := alloc_self wr (.cells #[.string ws] 9)
        have hn2 : ((wr.alloc (.cells #[.string ws] 9)).alloc (.cells #[.iface te xe] 26)).heap[wr.heap.size + 1]? = some (.cells #[.iface te xe] 26 (0, 0)) := heap_alloc2_new _ _ _
        have hn3 : ((wr.alloc (.cells #[.string ws] 9)).alloc (.cells #[.iface te xe] 26)).heap[wr.heap.size]? = some (.cells #[.string ws] 9 (0, 0)) := heap_alloc2_old _ _ _
        have hb0 : Below wr.heap.size wr ((wr.alloc (.cells #[.string ws] 9)).alloc (.cells #[.iface te xe] 26)) := below_alloc (below_alloc (Below.refl _ _) _) _
        have hsz2 : ((wr.alloc (.cells #[.string ws] 9)).alloc (.cells #[.iface te xe] 26)).heap.size = wr.heap.size + 2 := by simp
        generalize hW : (wr.alloc (.cells #[.string ws] 9)).alloc (.cells #[.iface te xe] 26) = W2 at hn2 hn3 hb0 hsz2
        have hb1 := below_alloc (Below.refl W2.heap.size W2) (.cells #[.nilIface] 26)
        have hca := pw_cell_below hb1 (a := ⟨wr.heap.size, 0, none⟩) (v := .string ws) (by rw [blk_cell hn3]; rfl)
        have hcb := pw_cell_below hb1 (a := ⟨wr.heap.size + 1, 0, none⟩) (v := .iface te xe) (by rw [blk_cell hn2]; rfl)
        have HT := Aside0.mk (try_throws 19 #[.pointer (some ⟨wr.heap.size, 0, none⟩), .pointer (some ⟨wr.heap.size + 1, 0, none⟩)] c (joinW ws s) W2 (fun _ => rfl)
          (thr1 wr.heap.size (wr.heap.size + 1) ws (.iface te xe) _ c s hca hcb ((HH.out.below hb0).below hb1) (by omega) (by omega)))
        have H3 := Aside0.mk hn3
        have H0 := Aside0.mk hb0
        have HZ := Aside0.mk hsz2
        have HW := Aside0.mk hW
        clear hn1 hn2 hn3 hb0 hsz2 hW hb1 hca hcb
        go_wp2_with fail
        rw [HW.out]
        refine HT.out.mono ?_
        rintro e w4 ⟨g, rfl, hf, hb, hg⟩
        have hc4 : w4.cell? ⟨wr.heap.size, 0, none⟩ = some (.string ws) := by rw [blk_cell ((hb.block _ (by have := HZ.out; omega)).trans H3.out)]; rfl
        have hz4 : w4.frozen? ⟨wr.heap.size, 0, none⟩ = false := blk_frozen ((hb.block _ (by have := HZ.out; omega)).trans H3.out) 0
        have HF := Aside0.mk hf
        have HB4 := Aside0.mk hb
        have HG := Aside0.mk hg
        clear hf hb hg
        by_cases hs : s.toList = []
        · have hs2 : s.toList.isEmpty = true := by rw [hs]; rfl
          have HJ : Aside0 (joinW ws s = ws) := ⟨by rw [joinW, if_pos hs2]⟩
          go_wp2_with (first
            | (go_at_call 23; refine (where_flt g _ _ _ HF.out).mono ?_; rintro e w2 ⟨rfl, rfl⟩; rw [HJ.out])
            | (go_at_call 22; refine (code_flt g _ _ _ HF.out).mono ?_; rintro e w2 ⟨rfl, rfl⟩))
          go_roundg (gk - 1)
          case measure => have := HK.out; omega
          case rel => exact ⟨i + 1, ws, rfl, by go_num, by omega, by omega, ⟨by have := HK.out; omega⟩, ⟨.inr ⟨g, rfl, HJ.out ▸ HF.out⟩⟩, ⟨below_then HBr.out HBr.out.size (below_then H0.out H0.out.size HB4.out)⟩⟩
        · have hs2 : s.toList.isEmpty = false := by rw [List.isEmpty_eq_false_iff]; exact hs
          have HJ : Aside0 (joinW ws s = ws ++ (⟨#[46]⟩ ++ s)) := ⟨by rw [joinW, if_neg (by rw [hs2]; decide)]⟩
          have hsz1 : ((⟨#[46]⟩ : ByteArray) ++ s).size = 1 + s.size := by rw [ByteArray.size_append]; rfl
          have HZ3 : Aside0 ((ws ++ (⟨#[46]⟩ ++ s)).size = ws.size + (1 + s.size)) := ⟨by rw [ByteArray.size_append, hsz1]⟩
          have HF5 := Aside0.mk (HF.out.grown (grown_set w4 wr.heap.size 0 (.string (ws ++ (⟨#[46]⟩ ++ s)))) (by have := HG.out; have := HZ.out; simp; omega))
          have HB5 := Aside0.mk ((below_then HBr.out HBr.out.size (below_then H0.out H0.out.size HB4.out)).setCell (p := ⟨wr.heap.size, 0, none⟩) HBr.out.size (.string (ws ++ (⟨#[46]⟩ ++ s))))
          clear hs
          go_wp2_with (first
            | (go_at_call 23; refine (where_flt g _ _ _ HF5.out).mono ?_; rintro e w2 ⟨rfl, rfl⟩; rw [HJ.out])
            | (go_at_call 22; refine (code_flt g _ _ _ HF5.out).mono ?_; rintro e w2 ⟨rfl, rfl⟩))
          go_roundg (gk - 1)
          case measure => have := HK.out; omega
          case rel => exact ⟨i + 1, _, rfl, by go_num, by omega, by rw [HZ3.out]; omega, ⟨by have := HK.out; omega⟩, ⟨.inr ⟨g, rfl, HJ.out ▸ HF5.out⟩⟩, HB5⟩
    · go_wp2_with fail
      refine (try_quiet 24 #[] wr (fun _ => rfl) (thr_nil _)).mono ?_
      rintro e w5 ⟨rfl, hb⟩
      have HB5 := Aside0.mk (below_then HB.out HB.out.size (below_then HBr.out HBr.out.size hb))
      clear hb
      go_wp2
      go_ret
      exact ⟨rfl, HB5.out⟩

theorem throws_early (c : Int) (A : Option Addr) (len cap : Nat) (w : World) (h : 20 < len ∨ c = 0) :
    Calls Try.prog 5 #[.int .i64 c, .slice A len cap] w fun e w' => e = .returned (.bool true) ∧ Below w.heap.size w w' := by
  by_cases h1 : 20 < len
  · clear h
    go_enter Try.func5, Try.ntmps5
    go_wp2_with (first
      | (go_at_call 7; refine (alive_calls _).mono ?_; rintro e w1 ⟨rfl, hb⟩; have HB := Aside0.mk hb; clear hb))
    go_ret
    exact ⟨rfl, HB.out⟩
  · obtain rfl : c = 0 := by omega
    clear h
    go_enter Try.func5, Try.ntmps5
    go_wp2_with (first
      | (go_at_call 7; refine (alive_calls _).mono ?_; rintro e w1 ⟨rfl, hb⟩; have HB := Aside0.mk hb; clear hb))
    go_ret
    exact ⟨rfl, HB.out⟩
theorem throws_walk (c : Int) (A : Option Addr) (len cap : Nat) (l : List ByteArray) (W : World) (_w0 : (Lit.int .i64 c).wf = true) (hl : l.length = len) (hcap : len ≤ cap) (hr : Kd.string.C W A l.length l) :
    Calls Try.prog 5 #[.int .i64 c, .slice A len cap] W fun e w' => e = .returned (.bool true) ∧ Below W.heap.size W w' := by
  subst hl
  by_cases h : 20 < l.length ∨ c = 0
  · exact throws_early c A _ cap W h
  · exact throws_main c A cap l W (by omega) hcap (by omega) hr
end Go.Proofs.Ytpdfojofnpbliaa.My
