/- strings.IndexRune of the eight signs that have a short escape. -/
import Derived.Test.YtojhbioljpamhaaDoorMyBytes
import Derived.Test.YtojhbioljpamhaaDoorMyShelf
import Derived.Laws.Runes
import Derived.Laws.RangeAny
import Derived.Lib.OthersKept
import Derived.WalkSmall
import Derived.RegionTactic
import Derived.Deep.RegionWith
namespace Go.Proofs.YtojhbioljpamhaaDoor.My
open Go.RowKit Go.Proofs.YtojhbioljpamhaaDoorW.PrintWords
set_option maxRecDepth 100000
set_option linter.unusedVariables false
set_option linter.unusedSimpArgs false

abbrev signs : ByteArray := ⟨#[34, 92, 47, 8, 12, 10, 13, 9]⟩
def idxS (r : Int) : Int := if r = 34 then 0 else if r = 92 then 1 else if r = 47 then 2 else if r = 8 then 3 else if r = 12 then 4 else if r = 10 then 5 else if r = 13 then 6 else if r = 9 then 7 else -1
theorem idx_low : ∀ n : Nat, n < 128 → Lib.indexByte [34, 92, 47, 8, 12, 10, 13, 9] n.toUInt8 = idxS n := by decide +kernel
theorem idx_none (c : UInt8) (h : 128 ≤ c.toNat) : ∀ l : List UInt8, (∀ x ∈ l, x.toNat < 128) → Lib.indexByte l c = -1
  | [], _ => rfl
  | b :: l, hl => by
    have h1 := hl b (by simp)
    have h2 : (b == c) = false := by
      rw [beq_eq_false_iff_ne]
      rintro rfl
      omega
    rw [Lib.indexByte, h2, idx_none c h l (fun x hx => hl x (by simp [hx]))]
    rfl
theorem signs_low : ∀ x ∈ signs.data.toList, x.toNat < 128 := by decide +kernel
theorem signs_at (i : Nat) (h : i < 8) : (signs[i]'h).toNat < 128 := by
  have : ∀ i : Fin 8, (signs[i.1]'i.2).toNat < 128 := by decide +kernel
  exact this ⟨i, h⟩

theorem quiet_add_same {P : Program} {f : FuncId} {args : Array Value} {w : World} {a n : Nat} {v : Value}
    (h : Calls P f args (w.drewN (a + n)) fun e w' => e = .returned v ∧ w' = w.drewN (a + n)) :
    Calls P f args (w.drewN (a + n)) fun e w'' => e = .returned v ∧ ∃ m, w'' = w.drewN (a + m) :=
  h.mono fun _ _ ⟨he, hm⟩ => ⟨he, n, hm⟩
theorem idx_ascii (r : Nat) (w : World) (h : r < 128) : Calls Tryd.prog 30 #[.string signs, .int .i32 (r : Int)] w fun e w' => e = .returned (.int .i64 (idxS r)) ∧ Below w.heap.size w w' := by
  refine (Tryd.strings_IndexRune_ascii signs r w (by omega) (by omega)).mono ?_
  rintro e w' ⟨rfl, rfl⟩
  rw [Int.toNat_natCast, idx_low r h]
  exact ⟨rfl, Below.refl _ _⟩
theorem idx_fffd (w : World) : Calls Tryd.prog 30 #[.string signs, .int .i32 65533] w fun e w' => e = .returned (.int .i64 (-1)) ∧ Below w.heap.size w w' := by
  go_enter Tryd.func30, Tryd.ntmps30
  go_wp2
  go_loopw [4] (fun r wr => r = .int .i64 0 ∧ ∃ pos : Nat, wr.heap[w.heap.size]? = some (.stringIter signs pos) ∧ Below w.heap.size w wr) (fun _ wr => 8 - wr.iterPos w.heap.size)
  case atStart => exact ⟨rfl, 0, World.iter_heap _ _ _, (Below.refl _ _).alloc (Nat.le_refl _) _⟩
  case round =>
    obtain ⟨rfl, pos, hit, hbel⟩ := hrel
    by_cases hp : pos < signs.size
    · have hd := decode_ascii signs pos hp (signs_at pos hp)
      have hnx : ∀ ty, (Instr.next (.pointer (some ⟨w.heap.size, 0, none⟩)) true ty).run Tryd.prog wr = _ := fun ty => Lib.run_next_any_at wr w.heap.size signs pos ty hit hp
      rw [hd] at hnx
      have hW : Aside0 ((wr.iterAt w.heap.size signs (pos + 1)).heap[w.heap.size]? = some (.stringIter signs (pos + 1)) ∧ Below w.heap.size w (wr.iterAt w.heap.size signs (pos + 1)) ∧ wr.iterPos w.heap.size = pos) := ⟨Lib.iterAt_heap _ _ _ _ _ hit, Lib.below_iterAt hbel (Nat.le_refl _) _ _, iterPos_of hit⟩
      have h1 : ((((signs[pos]'hp).toNat : Nat) : Int) == 65533) = false := beq_eq_false_iff_ne.2 (by have := signs_at pos hp; omega)
      clear hit hbel hd
      have hp8 : pos < 8 := hp
      generalize ((((signs[pos]'hp).toNat : Nat) : Int)) = c at *
      go_wp2
      go_roundw
      case rel => exact ⟨rfl, pos + 1, hW.out.1, hW.out.2.1⟩
      case measure =>
        have e1 := iterPos_of hW.out.1
        have e2 := hW.out.2.2
        rw [e1, e2]
        omega
    · have hnx : ∀ ty, (Instr.next (.pointer (some ⟨w.heap.size, 0, none⟩)) true ty).run Tryd.prog wr = _ := fun ty => Lib.run_next_end_at wr w.heap.size signs pos ty hit hp
      have HBL := Aside0.mk hbel
      clear hbel
      go_wp2
      go_ret
      exact ⟨rfl, HBL.out⟩
theorem idx_high (r : Int) (w : World) (h : 128 ≤ r) (hv : Utf8.valid r = true) (hv2 : Lib.validRune r = true) (hne : r ≠ 65533) (hr : r ≤ 1114111) : Calls Tryd.prog 30 #[.string signs, .int .i32 r] w fun e w' => e = .returned (.int .i64 (-1)) ∧ Below w.heap.size w w' := by
  obtain ⟨n2, n4, hlast⟩ := encode_facts r hv h
  have HV : Aside0 (∀ w, Calls Tryd.prog 43 #[.int .i32 r] w fun e w' => e = .returned (.bool true) ∧ w' = w) := ⟨fun w => hv2 ▸ Tryd.utf8_ValidRune r w⟩
  have f1 : (r == 65533) = false := beq_eq_false_iff_ne.2 hne
  have n2' : (2 : Int) ≤ ((Utf8.encode r).size : Int) := by omega
  have n4' : ((Utf8.encode r).size : Int) ≤ 4 := by omega
  have HL := Aside0.mk hlast
  clear hv hv2 hne hlast
  go_enter Tryd.func30, Tryd.ntmps30
  go_wp2_with (go_at_call 43; refine (HV.out _).mono ?_; rintro e w1 ⟨rfl, rfl⟩)
  go_step3
  go_wp2_with fail
  generalize Utf8.encode r = rs at *
  obtain ⟨m, hm⟩ : ∃ m, rs.size = m + 1 := ⟨rs.size - 1, by omega⟩
  have hm2 : (rs.size : Int) - 1 = (m : Int) := by omega
  have hmlt : m < rs.size := by omega
  have hb : 128 ≤ (rs[m]'hmlt).toNat := by
    have := HL.out (by omega)
    have e : rs.size - 1 = m := by omega
    simpa [e] using this
  have hs8 : m < signs.size := by show m < 8; omega
  have hsl := signs_at m (by omega)
  rw [hm2]
  have i1 : (0 : Int) ≤ (m : Int) := by omega
  have i2 : (m : Int) < ((signs.size : Nat) : Int) := by omega
  have i3 : (m : Int) < (rs.size : Int) := by omega
  have i4 : (m : Int) + 1 ≤ ((signs.size : Nat) : Int) := by omega
  have i5 : IntKind.i64.wrap ((m : Int) + 1) = (m : Int) + 1 := IntWalk.i64_in _ (by omega)
  have i6 : ((m : Int) + 1).toNat = m + 1 := by omega
  have i7 : (0 : Int) ≤ (m : Int) + 1 := by omega
  have i8 : (m : Int) < 8 := by omega
  have HIB : Aside0 (∀ w, Calls Tryd.prog 42 #[.string (signs.extract (m + 1) 8), .int .u8 ((rs[m]'hmlt).toNat : Int)] w fun e w' => e = .returned (.int .i64 (-1)) ∧ w' = w) := ⟨fun w => by
    have := Tryd.strings_IndexByte (signs.extract (m + 1) signs.size) ((rs[m]'hmlt).toNat : Int) w
    rw [idx_none _ (by simpa using hb) _ (fun x hx => signs_low x (by rw [Lib.extract_to_end] at hx; exact List.mem_of_mem_drop hx))] at this
    exact this⟩
  have f2 : ((((signs[m]'hs8).toNat : Nat) : Int) != (((rs[m]'hmlt).toNat : Nat) : Int)) = true := by rw [bne_iff_ne]; omega
  have hm8 : m < 8 := by omega
  have HMM := Aside0.mk hm
  clear hm2 hsl hb n2 n4 n2' n4' hm
  refine wp_loop_rounds 1 ?_
  rw [rounds_succ]
  go_wp2_with fail
  go_step3
  go_wp2_with fail
  go_quiet (fail)
  go_wp2_with fail
  go_quiet ((go_at_call 42; exact quiet_add_same (HIB.out _)))
  go_wp2_with fail
  simp only [Exit.noGoto_ret, Exit.inBlock, Exit.then]
  go_ret
  exact ⟨rfl, pw_below_drewN (Below.refl _ _) _⟩
end Go.Proofs.YtojhbioljpamhaaDoor.My
