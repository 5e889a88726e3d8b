/- The four laws of the sum of 32 bits, walked: whatever the arguments, the answer is true, and nothing that was there has turned. -/
import Derived.Test.YtihhkjhpicelgaaDoorRows
import Derived.Test.YtihhkjhpicelgaaDoorMyTells
import Derived.Test.YtihhkjhpicelgaaDoorMyTable
import Derived.Test.YtihhkjhpicelgaaDoorMyFinds
import Derived.Test.YtihhkjhpicelgaaDoorMyArgs
import Derived.ProofKit
import Derived.Lib.LaidTab
namespace Go.Proofs.YtihhkjhpicelgaaDoor.My
open Go.ChangeShapes Go.WideShapes Go.ChangeAt Go.RowKit Go.Proofs.YtihhkjhpicelgaaDoor.Plain Go.Proofs.YtihhkjhpicelgaaDoorW.PrintWords

theorem gTab : Tryd.prog.globalNamed "crossdock/crc.table" = some 0 := by kernel_rfl
theorem gTabType : (Tryd.prog.globals[0]?).map (·.type) = some 31 := by kernel_rfl
theorem cells31 : Tryd.prog.cellsOf 31 = 16 := by kernel_rfl
theorem cells22 : Tryd.prog.cellsOf 22 = 1 := by kernel_rfl
def tabZ : List Int := [0, 498536548, 997073096, 651767980, 1994146192, 1802195444, 1303535960, 1342533948, 3988292384, 4027552580, 3604390888, 3412177804, 2607071920, 2262029012, 2685067896, 3183342108]
theorem table {W : World} (h : laidMetH Tryd.prog [("crossdock/crc.table", Rows.laid_crossdock_crc_table)] W) : TabW W := by
  have ht : Lib.TabIs Tryd.prog W "crossdock/crc.table" .u32 tabZ := Lib.tabIs_of_head (rest := []) gTab gTabType Tryd.underlying31 Tryd.underlying22 cells22 cells31 h
  have hc := fun i hi => ht.cell gTab i hi
  refine ⟨World.block_lt_of_cell? W _ (hc 0 (by decide)), fun i hi => ?_⟩
  rw [hc i (by simpa [tabZ] using hi)]
  rfl
noncomputable def laidWorld (os : Os) : World :=
  { World.holding Tryd.prog os ⟨#[], #[], []⟩ with heap := (World.holding Tryd.prog os ⟨#[], #[], []⟩).heap.modify 0 fun
      | .cells _ t frozen => .cells (tabZ.map (Value.int .u32)).toArray t frozen
      | o => o }

theorem nat_of {n : Int} (h : 0 ≤ n) : ∃ m : Nat, n = (m : Int) := Int.eq_ofNat_of_zero_le h
theorem bytes_of {l : List Int} (h : ∀ n ∈ l, (Lit.int .u8 n).wf = true) : ∃ m : List Nat, l = ints m ∧ Bytes m := by
  refine ⟨l.map Int.toNat, ?_, ?_⟩
  · simp only [ints, List.map_map]
    conv => lhs; rw [← List.map_id l]
    apply List.map_congr_left
    intro n hn
    have := wf_u8 (h n hn)
    simp; omega
  · intro x hx
    obtain ⟨n, hn, rfl⟩ := List.mem_map.1 hx
    have := wf_u8 (h n hn)
    omega

theorem tells_walk (a0 : Int) (A : Option Addr) (len cap : Nat) (zs : List Int) (W : World) (w0 : (Lit.int .u32 a0).wf = true) (w1 : IsRow .u8 W A len cap zs) (_y1 : len * 1 ≤ 140737488351232)
    (hL : laidMetH Tryd.prog Rows.crcTellsRow.laid W) : Calls Tryd.prog 3 #[.int .u32 a0, .slice A len cap] W fun e w' => e = .returned (.bool true) ∧ Below W.heap.size W w' := by
  obtain ⟨l, hl, hc, hr, hwf⟩ := row_C w1
  obtain ⟨m, rfl, hm⟩ := bytes_of hwf
  have := wf_u32 w0
  obtain ⟨s, rfl⟩ := nat_of this.1
  subst hl
  exact tells_calls s A cap m W (table hL) (by omega) hm (by have := ints_length m; omega) hr hc
theorem cuts_walk (a0 : Int) (A : Option Addr) (len cap : Nat) (zs : List Int) (A2 : Option Addr) (len2 cap2 : Nat) (zs2 : List Int) (W : World) (w0 : (Lit.int .u32 a0).wf = true)
    (w1 : IsRow .u8 W A len cap zs) (_y1 : len * 1 ≤ 140737488351232) (w2 : IsRow .u8 W A2 len2 cap2 zs2) (_y2 : len2 * 1 ≤ 140737488351232)
    (hL : laidMetH Tryd.prog Rows.crcCutsRow.laid W) : Calls Tryd.prog 4 #[.int .u32 a0, .slice A len cap, .slice A2 len2 cap2] W fun e w' => e = .returned (.bool true) ∧ Below W.heap.size W w' := by
  obtain ⟨l, hl, hc, hr, hwf⟩ := row_C w1
  obtain ⟨m, rfl, hm⟩ := bytes_of hwf
  obtain ⟨l2, hl2, hc2, hr2, hwf2⟩ := row_C w2
  obtain ⟨m2, rfl, hm2⟩ := bytes_of hwf2
  have := wf_u32 w0
  obtain ⟨s, rfl⟩ := nat_of this.1
  subst hl hl2
  exact cuts_calls s A A2 cap cap2 m m2 W (table hL) (by omega) hm hm2 hr hc hr2 hc2
theorem table_walk (a0 : Int) (W : World) (w0 : (Lit.int .u8 a0).wf = true)
    (hL : laidMetH Tryd.prog Rows.crcTableRow.laid W) : Calls Tryd.prog 6 #[.int .u8 a0] W fun e w' => e = .returned (.bool true) ∧ Below W.heap.size W w' := by
  have := wf_u8 w0
  obtain ⟨x, rfl⟩ := nat_of this.1
  exact table_law x W (table hL) (by omega)
theorem finds_early (A1 : Option Addr) (len c1 : Nat) (at_ : Int) (t : Nat) (w : World) (ht : TabW w) (h : 2000 < len ∨ len = 0 ∨ t = 0) :
    Calls Tryd.prog 5 #[.slice A1 len c1, .int .i64 at_, .int .u32 t] w fun e w' => e = .returned (.bool true) ∧ Below w.heap.size w w' := by
  have HT := Aside0.mk ht
  clear ht
  by_cases h1 : 2000 < len
  · clear h
    go_enter Tryd.func5, Tryd.ntmps5
    go_wp2_with (go_at_call 7; refine (alive_calls _ HT.out).mono ?_; rintro e w1 ⟨rfl, hb⟩; have HB := Aside0.mk hb; clear hb)
    all_goals
      go_ret
      exact ⟨rfl, HB.out⟩
  by_cases h2 : len = 0
  · subst h2
    clear h h1
    go_enter Tryd.func5, Tryd.ntmps5
    go_wp2_with (go_at_call 7; refine (alive_calls _ HT.out).mono ?_; rintro e w1 ⟨rfl, hb⟩; have HB := Aside0.mk hb; clear hb)
    all_goals
      go_ret
      exact ⟨rfl, HB.out⟩
  · obtain rfl : t = 0 := by omega
    have g1 : ((len : Int) == 0) = false := by rw [beq_eq_false_iff_ne]; omega
    clear h h2
    go_enter Tryd.func5, Tryd.ntmps5
    go_wp2_with (go_at_call 7; refine (alive_calls _ HT.out).mono ?_; rintro e w1 ⟨rfl, hb⟩; have HB := Aside0.mk hb; clear hb)
    all_goals
      go_ret
      exact ⟨rfl, HB.out⟩
theorem finds_walk (A : Option Addr) (len cap : Nat) (zs : List Int) (a1 a2 : Int) (W : World) (w0 : IsRow .u8 W A len cap zs) (_y0 : len * 1 ≤ 140737488351232) (_w1 : (Lit.int .i64 a1).wf = true) (w2 : (Lit.int .u32 a2).wf = true)
    (hL : laidMetH Tryd.prog Rows.crcFindsRow.laid W) : Calls Tryd.prog 5 #[.slice A len cap, .int .i64 a1, .int .u32 a2] W fun e w' => e = .returned (.bool true) ∧ Below W.heap.size W w' := by
  have h2 := wf_u32 w2
  obtain ⟨t, rfl⟩ := nat_of h2.1
  by_cases h : 2000 < len ∨ len = 0 ∨ t = 0
  · exact finds_early A len cap a1 t W (table hL) h
  · obtain ⟨l, hl, hc, hr, hwf⟩ := row_C w0
    obtain ⟨m, rfl, hm⟩ := bytes_of hwf
    subst hl
    exact finds_main A cap m a1 t W (table hL) hm hr hc (by omega) (by omega) (by omega) (by omega)
end Go.Proofs.YtihhkjhpicelgaaDoor.My
