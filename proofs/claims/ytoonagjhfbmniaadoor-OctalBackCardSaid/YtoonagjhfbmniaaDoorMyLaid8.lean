/- A world in which utf8's two tables hold what they are set to (globals 0 and 1 of this seat). -/
import Derived.Test.YtoonagjhfbmniaaDoorProg
import Derived.WalkKit
import GoSem.PinnedTables
namespace Go.Proofs.YtoonagjhfbmniaaDoor.My
open Go.RowKit
noncomputable def laidWorld (os : Os) : World :=
  let w0 := World.holding Tryd.prog os ⟨#[], #[], []⟩
  let put (h : Array Obj) (g : Nat) (cs : Array Value) : Array Obj := h.modify g fun
    | .cells _ t frozen => .cells cs t frozen
    | o => o
  let h1 := put w0.heap 0 (Go.Pinned.utf8FirstZ.map fun (z : Nat) => Value.int .u8 (z : Int)).toArray
  let h2 := put h1 1 ((([128, 191, 160, 191, 128, 159, 144, 191, 128, 143] ++ List.replicate 22 0) : List Int).map fun (z : Int) => Value.int .u8 z).toArray
  { w0 with heap := h2 }
end Go.Proofs.YtoonagjhfbmniaaDoor.My
