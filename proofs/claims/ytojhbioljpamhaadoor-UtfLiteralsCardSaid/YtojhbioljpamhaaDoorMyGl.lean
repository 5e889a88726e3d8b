/- What a walk of this seat asks of the world: utf8's two tables (globals 0 and 1); where that comes from; a world for the witness. -/
import Derived.Test.YtojhbioljpamhaaDoorRows
import Derived.Test.YtojhbioljpamhaaDoorMyShelf
import Derived.Test.YtojhbioljpamhaaDoorMyBase
import Derived.Lib.LaidU8
import Derived.Lib.OthersKept
import GoSem.PinnedTables
namespace Go.Proofs.YtojhbioljpamhaaDoor.My
open Go.RowKit Go.Lib

structure Gl (w : World) : Prop where
  tabs : Lib.Utf8Tabs 0 1 w
  low : 2 ≤ w.heap.size
theorem Gl.below {B : Nat} {w w1 : World} (h : Gl w) (hb : Below B w w1) (hB : 2 ≤ B) : Gl w1 := by
  obtain ⟨⟨h1, h2⟩, h4⟩ := h
  exact ⟨⟨fun c hc => (hb.cell (p := ⟨0, c, none⟩) (by show 0 < B; omega)).trans (h1 c hc), fun i hi => ⟨(hb.cell (p := ⟨1, _, none⟩) (by show 1 < B; omega)).trans (h2 i hi).1, (hb.cell (p := ⟨1, _, none⟩) (by show 1 < B; omega)).trans (h2 i hi).2⟩⟩, by have := hb.size; omega⟩
theorem Gl.next {w w1 : World} (h : Gl w) (hb : Below w.heap.size w w1) : Gl w1 := h.below hb h.low
theorem gl_of {W : World} (hL : laidMetH Tryd.prog [("unicode/utf8.acceptRanges", Rows.laid_unicode_utf8_acceptRanges), ("unicode/utf8.first", Rows.laid_unicode_utf8_first)] W) : Gl W := by
  have e1 : (Rows.laid_unicode_utf8_acceptRanges : DataW Unit) = acceptData := by kernel_rfl
  have e2 : (Rows.laid_unicode_utf8_first : DataW Unit) = firstData := by kernel_rfl
  rw [e1, e2] at hL
  have h4 : VarReads Tryd.prog W "unicode/utf8.acceptRanges" acceptData := Lib.laidMet.reads hL (.head _)
  have h3 : VarReads Tryd.prog W "unicode/utf8.first" firstData := Lib.laidMet.reads hL (.tail _ (.head _))
  have ht : Lib.Utf8Tabs 0 1 W := utf8Tabs_of_reads (ρ := Tryd.lays197_ren) { Tryd.lays197 with } ⟨by kernel_rfl, by kernel_rfl, by kernel_rfl, by kernel_rfl, by kernel_rfl, by kernel_rfl, by kernel_rfl⟩ h3 h4
  refine ⟨ht, ?_⟩
  have := (ht.2 0 (by omega)).1
  rcases Nat.lt_or_ge 1 W.heap.size with h | h
  · omega
  · rw [World.cell?, Array.getElem?_eq_none h] at this
    cases this

noncomputable def laidWorld (os : Os) : World :=
  let w0 := World.holding Tryd.prog os ⟨#[], #[], []⟩
  let put (h : Array Obj) (g : Nat) (cs : Array Value) : Array Obj := h.modify g fun
    | .cells _ t frozen => .cells cs t frozen
    | o => o
  let h1 := put w0.heap 0 (Go.Pinned.utf8FirstZ.map fun (z : Nat) => Value.int .u8 (z : Int)).toArray
  let h2 := put h1 1 ((([128, 191, 160, 191, 128, 159, 144, 191, 128, 143] ++ List.replicate 22 0) : List Int).map fun (z : Int) => Value.int .u8 z).toArray
  { w0 with heap := h2 }
end Go.Proofs.YtojhbioljpamhaaDoor.My
