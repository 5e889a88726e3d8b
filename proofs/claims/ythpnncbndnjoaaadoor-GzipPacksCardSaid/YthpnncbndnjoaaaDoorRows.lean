/-
  NARROWER THAN 'FOR EVERY INPUT', by the rows' own cells (each row's printed sentence says how): GzipPacks: laid · GzipBack: laid · GzipSpoilt: laid.
  DERIVED. THE GIVEN ROWS OF THIS SEAT. 3 by the template 'for every input the law returns true; each argument reads behind the call as it read before'; 0 by the template 'total and deterministic' (their statements: YthpnncbndnjoaaaDoorTotals.lean).
  GIVEN WITH THE SEED: the statements are not yours to turn. If you find one false, say at which input.
  Laid BY PROGRAM, IN A SANDBOX (cutbox-rows.mjs): the forced cells as the released guide's own fill.sh prints them over the translation 5710e7ca3ce6d843… (all of the seat's roots in one cut). By AI agents, Wed Nov 11 2026. No macro, syntax, notation, axiom, sorry.
-/
import Derived.Test.YthpnncbndnjoaaaDoorChecked
import GoSem.Claim
import GoSem.ClaimJoined
import GoSem.ClaimMapViews
import Derived.JoinedTies
import Derived.KernelRfl
namespace Go.Proofs.YthpnncbndnjoaaaDoor
/- THE CELL 'sum', in the pinned program and in every row, IS THE sha256 OF THE DUMP (.gsa) THAT YthpnncbndnjoaaaDoorProg.lean LOADS. Nothing in Lean hashes anything: it is a label: what it is worth is what the hold of that sum in a sandbox is worth. -/
noncomputable def Tryd.pinned : Pinned := { name := "ythpnncbndnjoaaadoor", sum := "5710e7ca3ce6d84376b7369dde548d2b8fd4d1daa11102fbd944c43127c1b06e", checked := Tryd.checked }
namespace Rows
def none {H : Type} : Left H := { results := [], args := [] }

/- WHAT THE LISTED PACKAGE-LEVEL VARIABLES READ AS WHEN THE CALL BEGINS. Each datum BY PROGRAM (the guide's laid-datum.mjs) off the statement by which the dump's own 'gosem.cut.vars' lays the variable. In a bare row this is a premise. The card (YthpnncbndnjoaaaDoorCards.lean) ties it to the program's text. -/
def laid_crossdock_crc_table {H : Type} : DataW H := .agg [.lit (.int .u32 0), .lit (.int .u32 498536548), .lit (.int .u32 997073096), .lit (.int .u32 651767980), .lit (.int .u32 1994146192), .lit (.int .u32 1802195444), .lit (.int .u32 1303535960), .lit (.int .u32 1342533948), .lit (.int .u32 3988292384), .lit (.int .u32 4027552580), .lit (.int .u32 3604390888), .lit (.int .u32 3412177804), .lit (.int .u32 2607071920), .lit (.int .u32 2262029012), .lit (.int .u32 2685067896), .lit (.int .u32 3183342108)]
def laid_crossdock_inflate_order {H : Type} : DataW H := .agg [.lit (.int .i64 16), .lit (.int .i64 17), .lit (.int .i64 18), .lit (.int .i64 0), .lit (.int .i64 8), .lit (.int .i64 7), .lit (.int .i64 9), .lit (.int .i64 6), .lit (.int .i64 10), .lit (.int .i64 5), .lit (.int .i64 11), .lit (.int .i64 4), .lit (.int .i64 12), .lit (.int .i64 3), .lit (.int .i64 13), .lit (.int .i64 2), .lit (.int .i64 14), .lit (.int .i64 1), .lit (.int .i64 15)]

/-- 'crossdocklaw10.GzipPacks': WHATEVER THE INPUT: true; the input reads as it did. -/
def gzipPacksSpec : ChangeSpec := { name := "gzipPacks", fn := fun _ => fun
  | [d1, d2] => { results := [.lit (.bool true)], args := [d1, d2] }
  | _ => none }
def gzipPacksRow : OpenClaim := { program := "ythpnncbndnjoaaadoor", sum := "5710e7ca3ce6d84376b7369dde548d2b8fd4d1daa11102fbd944c43127c1b06e", func := "crossdock/crossdocklaw10.GzipPacks", spec := "gzipPacks", unfollowed := true, recurses := true, named := ["crossdock/crc.table"], apart := false, laid := [("crossdock/crc.table", laid_crossdock_crc_table)] }
def GzipPacksSaid : Prop := gzipPacksRow.holds Tryd.pinned (OpenSpec.ofChange gzipPacksSpec)

/-- ITS FALSE NEIGHBOUR: 'it returns false'. Refute it at one input. -/
def gzipPacksWrong : ChangeSpec := { name := "gzipPacks", fn := fun _ => fun
  | [d1, d2] => { results := [.lit (.bool false)], args := [d1, d2] }
  | _ => none }
def GzipPacksWrongFalsely : Prop := gzipPacksRow.holds Tryd.pinned (OpenSpec.ofChange gzipPacksWrong)

/-- 'crossdocklaw10.GzipBack': WHATEVER THE INPUT: true; the input reads as it did. -/
def gzipBackSpec : ChangeSpec := { name := "gzipBack", fn := fun _ => fun
  | [d1, d2, d3] => { results := [.lit (.bool true)], args := [d1, d2, d3] }
  | _ => none }
def gzipBackRow : OpenClaim := { program := "ythpnncbndnjoaaadoor", sum := "5710e7ca3ce6d84376b7369dde548d2b8fd4d1daa11102fbd944c43127c1b06e", func := "crossdock/crossdocklaw10.GzipBack", spec := "gzipBack", inPlace := ["internal/bytealg.IndexByte"], unfollowed := true, recurses := true, named := ["crossdock/crc.table", "crossdock/inflate.order"], apart := false, laid := [("crossdock/crc.table", laid_crossdock_crc_table), ("crossdock/inflate.order", laid_crossdock_inflate_order)] }
def GzipBackSaid : Prop := gzipBackRow.holds Tryd.pinned (OpenSpec.ofChange gzipBackSpec)

/-- ITS FALSE NEIGHBOUR: 'it returns false'. Refute it at one input. -/
def gzipBackWrong : ChangeSpec := { name := "gzipBack", fn := fun _ => fun
  | [d1, d2, d3] => { results := [.lit (.bool false)], args := [d1, d2, d3] }
  | _ => none }
def GzipBackWrongFalsely : Prop := gzipBackRow.holds Tryd.pinned (OpenSpec.ofChange gzipBackWrong)

/-- 'crossdocklaw10.GzipSpoilt': WHATEVER THE INPUT: true; the input reads as it did. -/
def gzipSpoiltSpec : ChangeSpec := { name := "gzipSpoilt", fn := fun _ => fun
  | [d1, d2, d3] => { results := [.lit (.bool true)], args := [d1, d2, d3] }
  | _ => none }
def gzipSpoiltRow : OpenClaim := { program := "ythpnncbndnjoaaadoor", sum := "5710e7ca3ce6d84376b7369dde548d2b8fd4d1daa11102fbd944c43127c1b06e", func := "crossdock/crossdocklaw10.GzipSpoilt", spec := "gzipSpoilt", inPlace := ["internal/bytealg.IndexByte"], unfollowed := true, recurses := true, named := ["crossdock/crc.table", "crossdock/inflate.order"], apart := false, laid := [("crossdock/crc.table", laid_crossdock_crc_table), ("crossdock/inflate.order", laid_crossdock_inflate_order)] }
def GzipSpoiltSaid : Prop := gzipSpoiltRow.holds Tryd.pinned (OpenSpec.ofChange gzipSpoiltSpec)

/-- ITS FALSE NEIGHBOUR: 'it returns false'. Refute it at one input. -/
def gzipSpoiltWrong : ChangeSpec := { name := "gzipSpoilt", fn := fun _ => fun
  | [d1, d2, d3] => { results := [.lit (.bool false)], args := [d1, d2, d3] }
  | _ => none }
def GzipSpoiltWrongFalsely : Prop := gzipSpoiltRow.holds Tryd.pinned (OpenSpec.ofChange gzipSpoiltWrong)

/- THE SECOND FORM. 'bulk': how many values and letters a reading holds, each counted each time it is reached (what is shared counts as often as it is met; a slice's spare places count too). A statement '..UptoSaid' is the law's where the arguments, and the package variables that the reading takes, are together of bulk at most 1048576: NARROWER than '..Said'. Prove '..Said' where nothing that the law and all that it calls make is longer than what came in: it says more and counts as full. Else prove '..UptoSaid'. A law counts once. -/
mutual
def uptoBulk {H : Type} : DataW H → Nat
  | .lit (.string bytes) => bytes.length + 1
  | .lit _ => 1
  | .nil => 1
  | .ptr d => uptoBulk d + 1
  | .slice elems spare => uptoBulkAll elems + uptoBulkAll spare + 1
  | .agg parts => uptoBulkAll parts + 1
  | .iface _ d => uptoBulk d + 1
  | .map entries => uptoBulkEntries entries + 1
  | .held _ => 1
def uptoBulkAll {H : Type} : List (DataW H) → Nat
  | [] => 0
  | d :: r => uptoBulk d + uptoBulkAll r
def uptoBulkEntries {H : Type} : List (Lit × DataW H) → Nat
  | [] => 0
  | x :: r => uptoBulkEntry x + uptoBulkEntries r
def uptoBulkEntry {H : Type} : Lit × DataW H → Nat
  | (.string bytes, d) => bytes.length + uptoBulk d + 1
  | (_, d) => uptoBulk d + 1
 end
def uptoSmall : (H : Type) → List (DataW H) → Bool := fun _ ds => decide (uptoBulkAll ds ≤ 1048576)
def OpenSpec.upto (s : _root_.Go.ChangeSpec) : _root_.Go.OpenSpec := { _root_.Go.OpenSpec.ofChange s with cond := some uptoSmall }

/-- 'crossdocklaw10.GzipPacks', WHERE WHAT IT READS IS OF BULK AT MOST 1048576: true; the input reads as it did. -/
def gzipPacksUptoRow : OpenClaim := { program := "ythpnncbndnjoaaadoor", sum := "5710e7ca3ce6d84376b7369dde548d2b8fd4d1daa11102fbd944c43127c1b06e", func := "crossdock/crossdocklaw10.GzipPacks", spec := "gzipPacks", unfollowed := true, recurses := true, named := ["crossdock/crc.table"], apart := false, laid := [("crossdock/crc.table", laid_crossdock_crc_table)], narrowed := true }
def GzipPacksUptoSaid : Prop := gzipPacksUptoRow.holds Tryd.pinned (OpenSpec.upto gzipPacksSpec)

/-- 'crossdocklaw10.GzipBack', WHERE WHAT IT READS IS OF BULK AT MOST 1048576: true; the input reads as it did. -/
def gzipBackUptoRow : OpenClaim := { program := "ythpnncbndnjoaaadoor", sum := "5710e7ca3ce6d84376b7369dde548d2b8fd4d1daa11102fbd944c43127c1b06e", func := "crossdock/crossdocklaw10.GzipBack", spec := "gzipBack", inPlace := ["internal/bytealg.IndexByte"], unfollowed := true, recurses := true, named := ["crossdock/crc.table", "crossdock/inflate.order"], apart := false, laid := [("crossdock/crc.table", laid_crossdock_crc_table), ("crossdock/inflate.order", laid_crossdock_inflate_order)], narrowed := true }
def GzipBackUptoSaid : Prop := gzipBackUptoRow.holds Tryd.pinned (OpenSpec.upto gzipBackSpec)

/-- 'crossdocklaw10.GzipSpoilt', WHERE WHAT IT READS IS OF BULK AT MOST 1048576: true; the input reads as it did. -/
def gzipSpoiltUptoRow : OpenClaim := { program := "ythpnncbndnjoaaadoor", sum := "5710e7ca3ce6d84376b7369dde548d2b8fd4d1daa11102fbd944c43127c1b06e", func := "crossdock/crossdocklaw10.GzipSpoilt", spec := "gzipSpoilt", inPlace := ["internal/bytealg.IndexByte"], unfollowed := true, recurses := true, named := ["crossdock/crc.table", "crossdock/inflate.order"], apart := false, laid := [("crossdock/crc.table", laid_crossdock_crc_table), ("crossdock/inflate.order", laid_crossdock_inflate_order)], narrowed := true }
def GzipSpoiltUptoSaid : Prop := gzipSpoiltUptoRow.holds Tryd.pinned (OpenSpec.upto gzipSpoiltSpec)

end Rows
end Go.Proofs.YthpnncbndnjoaaaDoor
