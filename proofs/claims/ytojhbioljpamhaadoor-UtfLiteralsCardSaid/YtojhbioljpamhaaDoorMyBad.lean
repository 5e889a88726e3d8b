/- The walk of utf.Bad, over any text. -/
import Derived.Test.YtojhbioljpamhaaDoorMyGl
import Derived.Test.YtojhbioljpamhaaDoorMyUtfP
import Derived.WalkSmall
namespace Go.Proofs.YtojhbioljpamhaaDoor.My
open Go.RowKit Go.Lib Go.Proofs.YtojhbioljpamhaaDoorW.PrintWords
set_option linter.unusedVariables false
set_option linter.unusedSimpArgs false

theorem bad_calls (s : ByteArray) (w : World) (hg : Gl w) (hs : s.size ≤ 1000000) :
    Calls Tryd.prog 9 #[.string s] w fun e w' => e = .returned (.int .i64 (badU s)) ∧ Below w.heap.size w w' := by
  have HG := Aside0.mk hg
  clear hg
  go_enter Tryd.func9, Tryd.ntmps9
  go_wp2
  go_loopw [2] (fun r wr => r = .int .i64 0 ∧ ∃ pos f : Nat, wr.heap[w.heap.size]? = some (.stringIter s pos) ∧ Below w.heap.size w wr ∧ badF s f pos = badU s ∧ s.size ≤ pos + f) (fun _ wr => s.size - wr.iterPos w.heap.size)
  case atStart => exact ⟨rfl, 0, s.size, World.iter_heap _ _ _, (Below.refl _ _).alloc (Nat.le_refl _) _, rfl, by omega⟩
  case round =>
    obtain ⟨rfl, pos, f, hit, hbel, hb, hf⟩ := hrel
    by_cases hp : pos < s.size
    · have hnx : ∀ ty, (Instr.next (.pointer (some ⟨w.heap.size, 0, none⟩)) true ty).run Tryd.prog wr = _ := fun ty => run_next_any_at wr w.heap.size s pos ty hit hp
      have hwd := width_pos s pos hp
      obtain ⟨f, rfl⟩ : ∃ g, f = g + 1 := ⟨f - 1, by omega⟩
      have hpos := iterPos_of hit
      have HW : ∀ n, Aside0 ((wr.iterAt w.heap.size s (pos + n)).heap[w.heap.size]? = some (.stringIter s (pos + n)) ∧ Below w.heap.size w (wr.iterAt w.heap.size s (pos + n))) := fun n => ⟨iterAt_heap _ _ _ _ _ hit, below_iterAt hbel (Nat.le_refl _) _ _⟩
      have HIT := Aside0.mk (And.intro hit (And.intro hbel hpos))
      clear hit hbel hpos
      by_cases hr : (Utf8.decode s pos).1 = 65533
      · have h1 : (((Utf8.decode s pos).1 : Int) != 65533) = false := by rw [hr]; rfl
        have HD : Aside0 (∀ W, Gl W → Calls Tryd.prog 19 #[.string (s.extract pos s.size)] W fun e w' => e = .returned (.tuple #[.int .i32 (Utf8.decode s pos).1, .int .i64 (Utf8.decode s pos).2]) ∧ Below W.heap.size W w') := ⟨fun W hW => by
          have := Tryd.utf8_DecodeRuneInString (s.extract pos s.size) W hW.tabs
          rw [decode_extract s pos hp] at this
          exact this⟩
        by_cases hn : (Utf8.decode s pos).2 = 1
        · have h2 : (((Utf8.decode s pos).2 : Int) == 1) = true := by rw [hn]; rfl
          have HB := Aside0.mk (badF_hit s f pos hp hr hn)
          have HBU := Aside0.mk hb
          clear hb hr hn
          have hW := HW (Utf8.decode s pos).2
          clear HW
          go_wp2_with (go_at_call 19; refine (HD.out _ (HG.out.below hW.out.2 HG.out.low)).mono ?_; rintro e w1 ⟨rfl, hb1⟩; have HB1 := Aside0.mk hb1; clear hb1)
          go_ret
          rw [HB.out] at HBU
          exact ⟨congrArg (fun z : Int => Ending.returned (Value.int .i64 z)) HBU.out, hW.out.2.trans (HB1.out.mono hW.out.2.size)⟩
        · have h2 : (((Utf8.decode s pos).2 : Int) == 1) = false := beq_eq_false_iff_ne.2 (by omega)
          have HB := Aside0.mk (badF_on s f pos hp (fun h => hn h.2))
          have HBU := Aside0.mk hb
          clear hb hr hn
          have hW := HW (Utf8.decode s pos).2
          clear HW
          go_wp2_with (go_at_call 19; refine (HD.out _ (HG.out.below hW.out.2 HG.out.low)).mono ?_; rintro e w1 ⟨rfl, hb1⟩; have HB1 := Aside0.mk hb1; clear hb1)
          have hk : w1.heap[w.heap.size]? = some (.stringIter s (pos + (Utf8.decode s pos).2)) := by
            have h3 : w.heap.size < (wr.iterAt w.heap.size s (pos + (Utf8.decode s pos).2)).heap.size := (Array.getElem?_eq_some_iff.1 hW.out.1).1
            exact (HB1.out.block _ h3).trans hW.out.1
          have HK := Aside0.mk hk
          clear hk
          go_roundw
          case rel => exact ⟨rfl, _, f, HK.out, hW.out.2.trans (HB1.out.mono hW.out.2.size), by rw [← HB.out]; exact HBU.out, by omega⟩
          case measure =>
            have e1 := iterPos_of HK.out
            have e2 := HIT.out.2.2
            rw [e1, e2]
            omega
      · have h1 : (((Utf8.decode s pos).1 : Int) != 65533) = true := bne_iff_ne.2 (by omega)
        have HB := Aside0.mk (badF_on s f pos hp (fun h => hr h.1))
        have HBU := Aside0.mk hb
        clear hb hr
        have hW := HW (Utf8.decode s pos).2
        clear HW
        go_wp2
        go_roundw
        case rel => exact ⟨rfl, _, f, hW.out.1, hW.out.2, by rw [← HB.out]; exact HBU.out, by omega⟩
        case measure =>
          have e1 := iterPos_of hW.out.1
          have e2 := HIT.out.2.2
          rw [e1, e2]
          omega
    · have hnx : ∀ ty, (Instr.next (.pointer (some ⟨w.heap.size, 0, none⟩)) true ty).run Tryd.prog wr = _ := fun ty => run_next_end_at wr w.heap.size s pos ty hit hp
      rw [badF_end s f pos hp] at hb
      have HB := Aside0.mk hb
      have HBL := Aside0.mk hbel
      clear hb hbel
      go_wp2
      go_ret
      exact ⟨congrArg (fun z : Int => Ending.returned (Value.int .i64 z)) HB.out, HBL.out⟩
end Go.Proofs.YtojhbioljpamhaaDoor.My
