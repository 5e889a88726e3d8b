/-
  NARROWER THAN 'FOR EVERY INPUT', by the rows' own cells (each row's printed sentence says how): InflateTells: laid · InflateBounds: laid · InflateMore: laid · InflateStored: laid.
  DERIVED. THE GIVEN ROWS OF THIS SEAT. 4 by the template 'for every input the law returns true; each argument reads behind the call as it read before'; 0 by the template 'total and deterministic' (their statements: YtdphifihneccoaaDoorTotals.lean).
  GIVEN WITH THE SEED: the statements are not yours to turn. If you find one false, say at which input.
  Laid BY PROGRAM, IN A SANDBOX (cutbox-rows.mjs): the forced cells as the released guide's own fill.sh prints them over the translation 94b7a66a867ced4a… (all of the seat's roots in one cut). By AI agents, Wed Nov 11 2026. No macro, syntax, notation, axiom, sorry.
-/
import Derived.Test.YtdphifihneccoaaDoorChecked
import GoSem.Claim
import GoSem.ClaimJoined
import GoSem.ClaimMapViews
import Derived.JoinedTies
import Derived.KernelRfl
namespace Go.Proofs.YtdphifihneccoaaDoor
/- THE CELL 'sum', in the pinned program and in every row, IS THE sha256 OF THE DUMP (.gsa) THAT YtdphifihneccoaaDoorProg.lean LOADS. Nothing in Lean hashes anything: it is a label: what it is worth is what the hold of that sum in a sandbox is worth. -/
noncomputable def Tryd.pinned : Pinned := { name := "ytdphifihneccoaadoor", sum := "94b7a66a867ced4ad67ec3b3c0064ca457fce1d4a044f34ff6a406ecbf3f8b79", checked := Tryd.checked }
namespace Rows
def none {H : Type} : Left H := { results := [], args := [] }

/- WHAT THE LISTED PACKAGE-LEVEL VARIABLES READ AS WHEN THE CALL BEGINS. Each datum BY PROGRAM (the guide's laid-datum.mjs) off the statement by which the dump's own 'gosem.cut.vars' lays the variable. In a bare row this is a premise. The card (YtdphifihneccoaaDoorCards.lean) ties it to the program's text. -/
def laid_crossdock_inflate_order {H : Type} : DataW H := .agg [.lit (.int .i64 16), .lit (.int .i64 17), .lit (.int .i64 18), .lit (.int .i64 0), .lit (.int .i64 8), .lit (.int .i64 7), .lit (.int .i64 9), .lit (.int .i64 6), .lit (.int .i64 10), .lit (.int .i64 5), .lit (.int .i64 11), .lit (.int .i64 4), .lit (.int .i64 12), .lit (.int .i64 3), .lit (.int .i64 13), .lit (.int .i64 2), .lit (.int .i64 14), .lit (.int .i64 1), .lit (.int .i64 15)]

/-- 'crossdocklaw08.InflateTells': WHATEVER THE INPUT: true; the input reads as it did. -/
def inflateTellsSpec : ChangeSpec := { name := "inflateTells", fn := fun _ => fun
  | [d1, d2] => { results := [.lit (.bool true)], args := [d1, d2] }
  | _ => none }
def inflateTellsRow : OpenClaim := { program := "ytdphifihneccoaadoor", sum := "94b7a66a867ced4ad67ec3b3c0064ca457fce1d4a044f34ff6a406ecbf3f8b79", func := "crossdock/crossdocklaw08.InflateTells", spec := "inflateTells", unfollowed := true, recurses := true, named := ["crossdock/inflate.order"], apart := false, laid := [("crossdock/inflate.order", laid_crossdock_inflate_order)] }
def InflateTellsSaid : Prop := inflateTellsRow.holds Tryd.pinned (OpenSpec.ofChange inflateTellsSpec)

/-- ITS FALSE NEIGHBOUR: 'it returns false'. Refute it at one input. -/
def inflateTellsWrong : ChangeSpec := { name := "inflateTells", fn := fun _ => fun
  | [d1, d2] => { results := [.lit (.bool false)], args := [d1, d2] }
  | _ => none }
def InflateTellsWrongFalsely : Prop := inflateTellsRow.holds Tryd.pinned (OpenSpec.ofChange inflateTellsWrong)

/-- 'crossdocklaw08.InflateBounds': WHATEVER THE INPUT: true; the input reads as it did. -/
def inflateBoundsSpec : ChangeSpec := { name := "inflateBounds", fn := fun _ => fun
  | [d1, d2] => { results := [.lit (.bool true)], args := [d1, d2] }
  | _ => none }
def inflateBoundsRow : OpenClaim := { program := "ytdphifihneccoaadoor", sum := "94b7a66a867ced4ad67ec3b3c0064ca457fce1d4a044f34ff6a406ecbf3f8b79", func := "crossdock/crossdocklaw08.InflateBounds", spec := "inflateBounds", unfollowed := true, recurses := true, named := ["crossdock/inflate.order"], apart := false, laid := [("crossdock/inflate.order", laid_crossdock_inflate_order)] }
def InflateBoundsSaid : Prop := inflateBoundsRow.holds Tryd.pinned (OpenSpec.ofChange inflateBoundsSpec)

/-- ITS FALSE NEIGHBOUR: 'it returns false'. Refute it at one input. -/
def inflateBoundsWrong : ChangeSpec := { name := "inflateBounds", fn := fun _ => fun
  | [d1, d2] => { results := [.lit (.bool false)], args := [d1, d2] }
  | _ => none }
def InflateBoundsWrongFalsely : Prop := inflateBoundsRow.holds Tryd.pinned (OpenSpec.ofChange inflateBoundsWrong)

/-- 'crossdocklaw08.InflateMore': WHATEVER THE INPUT: true; the input reads as it did. -/
def inflateMoreSpec : ChangeSpec := { name := "inflateMore", fn := fun _ => fun
  | [d1, d2, d3] => { results := [.lit (.bool true)], args := [d1, d2, d3] }
  | _ => none }
def inflateMoreRow : OpenClaim := { program := "ytdphifihneccoaadoor", sum := "94b7a66a867ced4ad67ec3b3c0064ca457fce1d4a044f34ff6a406ecbf3f8b79", func := "crossdock/crossdocklaw08.InflateMore", spec := "inflateMore", unfollowed := true, recurses := true, named := ["crossdock/inflate.order"], apart := false, laid := [("crossdock/inflate.order", laid_crossdock_inflate_order)] }
def InflateMoreSaid : Prop := inflateMoreRow.holds Tryd.pinned (OpenSpec.ofChange inflateMoreSpec)

/-- ITS FALSE NEIGHBOUR: 'it returns false'. Refute it at one input. -/
def inflateMoreWrong : ChangeSpec := { name := "inflateMore", fn := fun _ => fun
  | [d1, d2, d3] => { results := [.lit (.bool false)], args := [d1, d2, d3] }
  | _ => none }
def InflateMoreWrongFalsely : Prop := inflateMoreRow.holds Tryd.pinned (OpenSpec.ofChange inflateMoreWrong)

/-- 'crossdocklaw08.InflateStored': WHATEVER THE INPUT: true; the input reads as it did. -/
def inflateStoredSpec : ChangeSpec := { name := "inflateStored", fn := fun _ => fun
  | [d1, d2, d3] => { results := [.lit (.bool true)], args := [d1, d2, d3] }
  | _ => none }
def inflateStoredRow : OpenClaim := { program := "ytdphifihneccoaadoor", sum := "94b7a66a867ced4ad67ec3b3c0064ca457fce1d4a044f34ff6a406ecbf3f8b79", func := "crossdock/crossdocklaw08.InflateStored", spec := "inflateStored", unfollowed := true, recurses := true, named := ["crossdock/inflate.order"], apart := false, laid := [("crossdock/inflate.order", laid_crossdock_inflate_order)] }
def InflateStoredSaid : Prop := inflateStoredRow.holds Tryd.pinned (OpenSpec.ofChange inflateStoredSpec)

/-- ITS FALSE NEIGHBOUR: 'it returns false'. Refute it at one input. -/
def inflateStoredWrong : ChangeSpec := { name := "inflateStored", fn := fun _ => fun
  | [d1, d2, d3] => { results := [.lit (.bool false)], args := [d1, d2, d3] }
  | _ => none }
def InflateStoredWrongFalsely : Prop := inflateStoredRow.holds Tryd.pinned (OpenSpec.ofChange inflateStoredWrong)

/- THE SECOND FORM. 'bulk': how many values and letters a reading holds, each counted each time it is reached (what is shared counts as often as it is met; a slice's spare places count too). A statement '..UptoSaid' is the law's where the arguments, and the package variables that the reading takes, are together of bulk at most 1048576: NARROWER than '..Said'. Prove '..Said' where nothing that the law and all that it calls make is longer than what came in: it says more and counts as full. Else prove '..UptoSaid'. A law counts once. -/
mutual
def uptoBulk {H : Type} : DataW H → Nat
  | .lit (.string bytes) => bytes.length + 1
  | .lit _ => 1
  | .nil => 1
  | .ptr d => uptoBulk d + 1
  | .slice elems spare => uptoBulkAll elems + uptoBulkAll spare + 1
  | .agg parts => uptoBulkAll parts + 1
  | .iface _ d => uptoBulk d + 1
  | .map entries => uptoBulkEntries entries + 1
  | .held _ => 1
def uptoBulkAll {H : Type} : List (DataW H) → Nat
  | [] => 0
  | d :: r => uptoBulk d + uptoBulkAll r
def uptoBulkEntries {H : Type} : List (Lit × DataW H) → Nat
  | [] => 0
  | x :: r => uptoBulkEntry x + uptoBulkEntries r
def uptoBulkEntry {H : Type} : Lit × DataW H → Nat
  | (.string bytes, d) => bytes.length + uptoBulk d + 1
  | (_, d) => uptoBulk d + 1
 end
def uptoSmall : (H : Type) → List (DataW H) → Bool := fun _ ds => decide (uptoBulkAll ds ≤ 1048576)
def OpenSpec.upto (s : _root_.Go.ChangeSpec) : _root_.Go.OpenSpec := { _root_.Go.OpenSpec.ofChange s with cond := some uptoSmall }

/-- 'crossdocklaw08.InflateTells', WHERE WHAT IT READS IS OF BULK AT MOST 1048576: true; the input reads as it did. -/
def inflateTellsUptoRow : OpenClaim := { program := "ytdphifihneccoaadoor", sum := "94b7a66a867ced4ad67ec3b3c0064ca457fce1d4a044f34ff6a406ecbf3f8b79", func := "crossdock/crossdocklaw08.InflateTells", spec := "inflateTells", unfollowed := true, recurses := true, named := ["crossdock/inflate.order"], apart := false, laid := [("crossdock/inflate.order", laid_crossdock_inflate_order)], narrowed := true }
def InflateTellsUptoSaid : Prop := inflateTellsUptoRow.holds Tryd.pinned (OpenSpec.upto inflateTellsSpec)

/-- 'crossdocklaw08.InflateBounds', WHERE WHAT IT READS IS OF BULK AT MOST 1048576: true; the input reads as it did. -/
def inflateBoundsUptoRow : OpenClaim := { program := "ytdphifihneccoaadoor", sum := "94b7a66a867ced4ad67ec3b3c0064ca457fce1d4a044f34ff6a406ecbf3f8b79", func := "crossdock/crossdocklaw08.InflateBounds", spec := "inflateBounds", unfollowed := true, recurses := true, named := ["crossdock/inflate.order"], apart := false, laid := [("crossdock/inflate.order", laid_crossdock_inflate_order)], narrowed := true }
def InflateBoundsUptoSaid : Prop := inflateBoundsUptoRow.holds Tryd.pinned (OpenSpec.upto inflateBoundsSpec)

/-- 'crossdocklaw08.InflateMore', WHERE WHAT IT READS IS OF BULK AT MOST 1048576: true; the input reads as it did. -/
def inflateMoreUptoRow : OpenClaim := { program := "ytdphifihneccoaadoor", sum := "94b7a66a867ced4ad67ec3b3c0064ca457fce1d4a044f34ff6a406ecbf3f8b79", func := "crossdock/crossdocklaw08.InflateMore", spec := "inflateMore", unfollowed := true, recurses := true, named := ["crossdock/inflate.order"], apart := false, laid := [("crossdock/inflate.order", laid_crossdock_inflate_order)], narrowed := true }
def InflateMoreUptoSaid : Prop := inflateMoreUptoRow.holds Tryd.pinned (OpenSpec.upto inflateMoreSpec)

/-- 'crossdocklaw08.InflateStored', WHERE WHAT IT READS IS OF BULK AT MOST 1048576: true; the input reads as it did. -/
def inflateStoredUptoRow : OpenClaim := { program := "ytdphifihneccoaadoor", sum := "94b7a66a867ced4ad67ec3b3c0064ca457fce1d4a044f34ff6a406ecbf3f8b79", func := "crossdock/crossdocklaw08.InflateStored", spec := "inflateStored", unfollowed := true, recurses := true, named := ["crossdock/inflate.order"], apart := false, laid := [("crossdock/inflate.order", laid_crossdock_inflate_order)], narrowed := true }
def InflateStoredUptoSaid : Prop := inflateStoredUptoRow.holds Tryd.pinned (OpenSpec.upto inflateStoredSpec)

end Rows
end Go.Proofs.YtdphifihneccoaaDoor
