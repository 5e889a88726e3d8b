/-
  NARROWER THAN 'FOR EVERY INPUT', by the rows' own cells (each row's printed sentence says how): HeadPuts: laid · HeadBack: laid · HeadSpoilt: laid · HeadTakes: laid.
  DERIVED. THE GIVEN ROWS OF THIS SEAT. 4 by the template 'for every input the law returns true; each argument reads behind the call as it read before'; 0 by the template 'total and deterministic' (their statements: YtiioiikcjaiajaaDoorTotals.lean).
  GIVEN WITH THE SEED: the statements are not yours to turn. If you find one false, say at which input.
  Laid BY PROGRAM, IN A SANDBOX (cutbox-rows.mjs): the forced cells as the released guide's own fill.sh prints them over the translation dfeb6681ba6c7cb4… (all of the seat's roots in one cut). By AI agents, Wed Nov 11 2026. No macro, syntax, notation, axiom, sorry.
-/
import Derived.Test.YtiioiikcjaiajaaDoorChecked
import GoSem.PinnedTables
import GoSem.Claim
import GoSem.ClaimJoined
import GoSem.ClaimMapViews
import Derived.JoinedTies
import Derived.KernelRfl
namespace Go.Proofs.YtiioiikcjaiajaaDoor
/- THE CELL 'sum', in the pinned program and in every row, IS THE sha256 OF THE DUMP (.gsa) THAT YtiioiikcjaiajaaDoorProg.lean LOADS. Nothing in Lean hashes anything: it is a label: what it is worth is what the hold of that sum in a sandbox is worth. -/
noncomputable def Tryd.pinned : Pinned := { name := "ytiioiikcjaiajaadoor", sum := "dfeb6681ba6c7cb4c3a91036285edef2e9b9e720da893adb17fb25c2d69fca07", checked := Tryd.checked }
namespace Rows
def none {H : Type} : Left H := { results := [], args := [] }

/- WHAT THE LISTED PACKAGE-LEVEL VARIABLES READ AS WHEN THE CALL BEGINS. Each datum BY PROGRAM (the guide's laid-datum.mjs) off the statement by which the dump's own 'gosem.cut.vars' lays the variable. In a bare row this is a premise. The card (YtiioiikcjaiajaaDoorCards.lean) ties it to the program's text. -/
def laid_crossdock_head_name {H : Type} : DataW H := .agg [.lit (.int .i64 0), .lit (.int .i64 100)]
def laid_crossdock_head_mode {H : Type} : DataW H := .agg [.lit (.int .i64 100), .lit (.int .i64 8)]
def laid_crossdock_head_uid {H : Type} : DataW H := .agg [.lit (.int .i64 108), .lit (.int .i64 8)]
def laid_crossdock_head_gid {H : Type} : DataW H := .agg [.lit (.int .i64 116), .lit (.int .i64 8)]
def laid_crossdock_head_long {H : Type} : DataW H := .agg [.lit (.int .i64 124), .lit (.int .i64 12)]
def laid_crossdock_head_time {H : Type} : DataW H := .agg [.lit (.int .i64 136), .lit (.int .i64 12)]
def laid_crossdock_head_sum {H : Type} : DataW H := .agg [.lit (.int .i64 148), .lit (.int .i64 8)]
def laid_crossdock_head_link {H : Type} : DataW H := .agg [.lit (.int .i64 157), .lit (.int .i64 100)]
def laid_crossdock_head_mark {H : Type} : DataW H := .agg [.lit (.int .i64 257), .lit (.int .i64 6)]
def laid_crossdock_head_user {H : Type} : DataW H := .agg [.lit (.int .i64 265), .lit (.int .i64 32)]
def laid_crossdock_head_group {H : Type} : DataW H := .agg [.lit (.int .i64 297), .lit (.int .i64 32)]
def laid_crossdock_head_major {H : Type} : DataW H := .agg [.lit (.int .i64 329), .lit (.int .i64 8)]
def laid_crossdock_head_minor {H : Type} : DataW H := .agg [.lit (.int .i64 337), .lit (.int .i64 8)]
def laid_crossdock_head_front {H : Type} : DataW H := .agg [.lit (.int .i64 345), .lit (.int .i64 155)]
def laid_unicode_utf8_acceptRanges {H : Type} : DataW H := .agg [.agg [.lit (.int .u8 128), .lit (.int .u8 191)], .agg [.lit (.int .u8 160), .lit (.int .u8 191)], .agg [.lit (.int .u8 128), .lit (.int .u8 159)], .agg [.lit (.int .u8 144), .lit (.int .u8 191)], .agg [.lit (.int .u8 128), .lit (.int .u8 143)], .agg [.lit (.int .u8 0), .lit (.int .u8 0)], .agg [.lit (.int .u8 0), .lit (.int .u8 0)], .agg [.lit (.int .u8 0), .lit (.int .u8 0)], .agg [.lit (.int .u8 0), .lit (.int .u8 0)], .agg [.lit (.int .u8 0), .lit (.int .u8 0)], .agg [.lit (.int .u8 0), .lit (.int .u8 0)], .agg [.lit (.int .u8 0), .lit (.int .u8 0)], .agg [.lit (.int .u8 0), .lit (.int .u8 0)], .agg [.lit (.int .u8 0), .lit (.int .u8 0)], .agg [.lit (.int .u8 0), .lit (.int .u8 0)], .agg [.lit (.int .u8 0), .lit (.int .u8 0)]]
/-- One of Go's own tables, pinned by name: the form's constant. -/
def laid_unicode_utf8_first : DataW Unit := Go.Pinned.utf8First

/-- 'crossdocklaw19.HeadPuts': WHATEVER THE INPUT: true; the input reads as it did. -/
def headPutsSpec : ChangeSpec := { name := "headPuts", fn := fun _ => fun
  | [d] => { results := [.lit (.bool true)], args := [d] }
  | _ => none }
def headPutsRow : OpenClaim := { program := "ytiioiikcjaiajaadoor", sum := "dfeb6681ba6c7cb4c3a91036285edef2e9b9e720da893adb17fb25c2d69fca07", func := "crossdock/crossdocklaw19.HeadPuts", spec := "headPuts", inPlace := ["internal/bytealg.IndexByteString"], unfollowed := true, recurses := true, named := ["crossdock/head.sum", "crossdock/head.link", "crossdock/head.user", "crossdock/head.group", "crossdock/head.name", "crossdock/head.front", "crossdock/head.mode", "crossdock/head.uid", "crossdock/head.gid", "crossdock/head.long", "crossdock/head.time", "crossdock/head.major", "crossdock/head.minor", "crossdock/head.mark"], apart := false, laid := [("crossdock/head.name", laid_crossdock_head_name), ("crossdock/head.mode", laid_crossdock_head_mode), ("crossdock/head.uid", laid_crossdock_head_uid), ("crossdock/head.gid", laid_crossdock_head_gid), ("crossdock/head.long", laid_crossdock_head_long), ("crossdock/head.time", laid_crossdock_head_time), ("crossdock/head.sum", laid_crossdock_head_sum), ("crossdock/head.link", laid_crossdock_head_link), ("crossdock/head.mark", laid_crossdock_head_mark), ("crossdock/head.user", laid_crossdock_head_user), ("crossdock/head.group", laid_crossdock_head_group), ("crossdock/head.major", laid_crossdock_head_major), ("crossdock/head.minor", laid_crossdock_head_minor), ("crossdock/head.front", laid_crossdock_head_front)] }
def HeadPutsSaid : Prop := headPutsRow.holds Tryd.pinned (OpenSpec.ofChange headPutsSpec)

/-- ITS FALSE NEIGHBOUR: 'it returns false'. Refute it at one input. -/
def headPutsWrong : ChangeSpec := { name := "headPuts", fn := fun _ => fun
  | [d] => { results := [.lit (.bool false)], args := [d] }
  | _ => none }
def HeadPutsWrongFalsely : Prop := headPutsRow.holds Tryd.pinned (OpenSpec.ofChange headPutsWrong)

/-- 'crossdocklaw19.HeadBack': WHATEVER THE INPUT: true; the input reads as it did. -/
def headBackSpec : ChangeSpec := { name := "headBack", fn := fun _ => fun
  | [d1, d2] => { results := [.lit (.bool true)], args := [d1, d2] }
  | _ => none }
def headBackRow : OpenClaim := { program := "ytiioiikcjaiajaadoor", sum := "dfeb6681ba6c7cb4c3a91036285edef2e9b9e720da893adb17fb25c2d69fca07", func := "crossdock/crossdocklaw19.HeadBack", spec := "headBack", inPlace := ["internal/bytealg.IndexByteString", "internal/bytealg.IndexByte", "internal/bytealg.Index"], unfollowed := true, recurses := true, named := ["crossdock/head.sum", "crossdock/head.link", "crossdock/head.user", "crossdock/head.group", "crossdock/head.name", "crossdock/head.front", "crossdock/head.mode", "crossdock/head.uid", "crossdock/head.gid", "crossdock/head.long", "crossdock/head.time", "crossdock/head.major", "crossdock/head.minor", "crossdock/head.mark", "unicode/utf8.first", "unicode/utf8.acceptRanges", "internal/bytealg.MaxLen"], apart := false, laid := [("unicode/utf8.acceptRanges", laid_unicode_utf8_acceptRanges), ("crossdock/head.name", laid_crossdock_head_name), ("crossdock/head.mode", laid_crossdock_head_mode), ("crossdock/head.uid", laid_crossdock_head_uid), ("crossdock/head.gid", laid_crossdock_head_gid), ("crossdock/head.long", laid_crossdock_head_long), ("crossdock/head.time", laid_crossdock_head_time), ("crossdock/head.sum", laid_crossdock_head_sum), ("crossdock/head.link", laid_crossdock_head_link), ("crossdock/head.mark", laid_crossdock_head_mark), ("crossdock/head.user", laid_crossdock_head_user), ("crossdock/head.group", laid_crossdock_head_group), ("crossdock/head.major", laid_crossdock_head_major), ("crossdock/head.minor", laid_crossdock_head_minor), ("crossdock/head.front", laid_crossdock_head_front), ("unicode/utf8.first", laid_unicode_utf8_first)] }
def HeadBackSaid : Prop := headBackRow.holds Tryd.pinned (OpenSpec.ofChange headBackSpec)

/-- ITS FALSE NEIGHBOUR: 'it returns false'. Refute it at one input. -/
def headBackWrong : ChangeSpec := { name := "headBack", fn := fun _ => fun
  | [d1, d2] => { results := [.lit (.bool false)], args := [d1, d2] }
  | _ => none }
def HeadBackWrongFalsely : Prop := headBackRow.holds Tryd.pinned (OpenSpec.ofChange headBackWrong)

/-- 'crossdocklaw19.HeadSpoilt': WHATEVER THE INPUT: true; the input reads as it did. -/
def headSpoiltSpec : ChangeSpec := { name := "headSpoilt", fn := fun _ => fun
  | [d1, d2, d3] => { results := [.lit (.bool true)], args := [d1, d2, d3] }
  | _ => none }
def headSpoiltRow : OpenClaim := { program := "ytiioiikcjaiajaadoor", sum := "dfeb6681ba6c7cb4c3a91036285edef2e9b9e720da893adb17fb25c2d69fca07", func := "crossdock/crossdocklaw19.HeadSpoilt", spec := "headSpoilt", inPlace := ["internal/bytealg.IndexByteString", "internal/bytealg.IndexByte", "internal/bytealg.Index"], unfollowed := true, recurses := true, named := ["crossdock/head.sum", "crossdock/head.link", "crossdock/head.user", "crossdock/head.group", "crossdock/head.name", "crossdock/head.front", "crossdock/head.mode", "crossdock/head.uid", "crossdock/head.gid", "crossdock/head.long", "crossdock/head.time", "crossdock/head.major", "crossdock/head.minor", "crossdock/head.mark", "unicode/utf8.first", "unicode/utf8.acceptRanges", "internal/bytealg.MaxLen"], apart := false, laid := [("unicode/utf8.acceptRanges", laid_unicode_utf8_acceptRanges), ("crossdock/head.name", laid_crossdock_head_name), ("crossdock/head.mode", laid_crossdock_head_mode), ("crossdock/head.uid", laid_crossdock_head_uid), ("crossdock/head.gid", laid_crossdock_head_gid), ("crossdock/head.long", laid_crossdock_head_long), ("crossdock/head.time", laid_crossdock_head_time), ("crossdock/head.sum", laid_crossdock_head_sum), ("crossdock/head.link", laid_crossdock_head_link), ("crossdock/head.mark", laid_crossdock_head_mark), ("crossdock/head.user", laid_crossdock_head_user), ("crossdock/head.group", laid_crossdock_head_group), ("crossdock/head.major", laid_crossdock_head_major), ("crossdock/head.minor", laid_crossdock_head_minor), ("crossdock/head.front", laid_crossdock_head_front), ("unicode/utf8.first", laid_unicode_utf8_first)] }
def HeadSpoiltSaid : Prop := headSpoiltRow.holds Tryd.pinned (OpenSpec.ofChange headSpoiltSpec)

/-- ITS FALSE NEIGHBOUR: 'it returns false'. Refute it at one input. -/
def headSpoiltWrong : ChangeSpec := { name := "headSpoilt", fn := fun _ => fun
  | [d1, d2, d3] => { results := [.lit (.bool false)], args := [d1, d2, d3] }
  | _ => none }
def HeadSpoiltWrongFalsely : Prop := headSpoiltRow.holds Tryd.pinned (OpenSpec.ofChange headSpoiltWrong)

/-- 'crossdocklaw19.HeadTakes': WHATEVER THE INPUT: true; the input reads as it did. -/
def headTakesSpec : ChangeSpec := { name := "headTakes", fn := fun _ => fun
  | [d] => { results := [.lit (.bool true)], args := [d] }
  | _ => none }
def headTakesRow : OpenClaim := { program := "ytiioiikcjaiajaadoor", sum := "dfeb6681ba6c7cb4c3a91036285edef2e9b9e720da893adb17fb25c2d69fca07", func := "crossdock/crossdocklaw19.HeadTakes", spec := "headTakes", inPlace := ["internal/bytealg.IndexByteString", "internal/bytealg.IndexByte", "internal/bytealg.Index"], unfollowed := true, recurses := true, named := ["crossdock/head.sum", "crossdock/head.link", "crossdock/head.user", "crossdock/head.group", "crossdock/head.name", "crossdock/head.front", "crossdock/head.mode", "crossdock/head.uid", "crossdock/head.gid", "crossdock/head.long", "crossdock/head.time", "crossdock/head.major", "crossdock/head.minor", "crossdock/head.mark", "unicode/utf8.first", "unicode/utf8.acceptRanges", "internal/bytealg.MaxLen"], apart := false, laid := [("unicode/utf8.acceptRanges", laid_unicode_utf8_acceptRanges), ("crossdock/head.name", laid_crossdock_head_name), ("crossdock/head.mode", laid_crossdock_head_mode), ("crossdock/head.uid", laid_crossdock_head_uid), ("crossdock/head.gid", laid_crossdock_head_gid), ("crossdock/head.long", laid_crossdock_head_long), ("crossdock/head.time", laid_crossdock_head_time), ("crossdock/head.sum", laid_crossdock_head_sum), ("crossdock/head.link", laid_crossdock_head_link), ("crossdock/head.mark", laid_crossdock_head_mark), ("crossdock/head.user", laid_crossdock_head_user), ("crossdock/head.group", laid_crossdock_head_group), ("crossdock/head.major", laid_crossdock_head_major), ("crossdock/head.minor", laid_crossdock_head_minor), ("crossdock/head.front", laid_crossdock_head_front), ("unicode/utf8.first", laid_unicode_utf8_first)] }
def HeadTakesSaid : Prop := headTakesRow.holds Tryd.pinned (OpenSpec.ofChange headTakesSpec)

/-- ITS FALSE NEIGHBOUR: 'it returns false'. Refute it at one input. -/
def headTakesWrong : ChangeSpec := { name := "headTakes", fn := fun _ => fun
  | [d] => { results := [.lit (.bool false)], args := [d] }
  | _ => none }
def HeadTakesWrongFalsely : Prop := headTakesRow.holds Tryd.pinned (OpenSpec.ofChange headTakesWrong)

/- THE SECOND FORM. 'bulk': how many values and letters a reading holds, each counted each time it is reached (what is shared counts as often as it is met; a slice's spare places count too). A statement '..UptoSaid' is the law's where the arguments, and the package variables that the reading takes, are together of bulk at most 1048576: NARROWER than '..Said'. Prove '..Said' where nothing that the law and all that it calls make is longer than what came in: it says more and counts as full. Else prove '..UptoSaid'. A law counts once. -/
mutual
def uptoBulk {H : Type} : DataW H → Nat
  | .lit (.string bytes) => bytes.length + 1
  | .lit _ => 1
  | .nil => 1
  | .ptr d => uptoBulk d + 1
  | .slice elems spare => uptoBulkAll elems + uptoBulkAll spare + 1
  | .agg parts => uptoBulkAll parts + 1
  | .iface _ d => uptoBulk d + 1
  | .map entries => uptoBulkEntries entries + 1
  | .held _ => 1
def uptoBulkAll {H : Type} : List (DataW H) → Nat
  | [] => 0
  | d :: r => uptoBulk d + uptoBulkAll r
def uptoBulkEntries {H : Type} : List (Lit × DataW H) → Nat
  | [] => 0
  | x :: r => uptoBulkEntry x + uptoBulkEntries r
def uptoBulkEntry {H : Type} : Lit × DataW H → Nat
  | (.string bytes, d) => bytes.length + uptoBulk d + 1
  | (_, d) => uptoBulk d + 1
 end
def uptoSmall : (H : Type) → List (DataW H) → Bool := fun _ ds => decide (uptoBulkAll ds ≤ 1048576)
def OpenSpec.upto (s : _root_.Go.ChangeSpec) : _root_.Go.OpenSpec := { _root_.Go.OpenSpec.ofChange s with cond := some uptoSmall }

/-- 'crossdocklaw19.HeadPuts', WHERE WHAT IT READS IS OF BULK AT MOST 1048576: true; the input reads as it did. -/
def headPutsUptoRow : OpenClaim := { program := "ytiioiikcjaiajaadoor", sum := "dfeb6681ba6c7cb4c3a91036285edef2e9b9e720da893adb17fb25c2d69fca07", func := "crossdock/crossdocklaw19.HeadPuts", spec := "headPuts", inPlace := ["internal/bytealg.IndexByteString"], unfollowed := true, recurses := true, named := ["crossdock/head.sum", "crossdock/head.link", "crossdock/head.user", "crossdock/head.group", "crossdock/head.name", "crossdock/head.front", "crossdock/head.mode", "crossdock/head.uid", "crossdock/head.gid", "crossdock/head.long", "crossdock/head.time", "crossdock/head.major", "crossdock/head.minor", "crossdock/head.mark"], apart := false, laid := [("crossdock/head.name", laid_crossdock_head_name), ("crossdock/head.mode", laid_crossdock_head_mode), ("crossdock/head.uid", laid_crossdock_head_uid), ("crossdock/head.gid", laid_crossdock_head_gid), ("crossdock/head.long", laid_crossdock_head_long), ("crossdock/head.time", laid_crossdock_head_time), ("crossdock/head.sum", laid_crossdock_head_sum), ("crossdock/head.link", laid_crossdock_head_link), ("crossdock/head.mark", laid_crossdock_head_mark), ("crossdock/head.user", laid_crossdock_head_user), ("crossdock/head.group", laid_crossdock_head_group), ("crossdock/head.major", laid_crossdock_head_major), ("crossdock/head.minor", laid_crossdock_head_minor), ("crossdock/head.front", laid_crossdock_head_front)], narrowed := true }
def HeadPutsUptoSaid : Prop := headPutsUptoRow.holds Tryd.pinned (OpenSpec.upto headPutsSpec)

/-- 'crossdocklaw19.HeadBack', WHERE WHAT IT READS IS OF BULK AT MOST 1048576: true; the input reads as it did. -/
def headBackUptoRow : OpenClaim := { program := "ytiioiikcjaiajaadoor", sum := "dfeb6681ba6c7cb4c3a91036285edef2e9b9e720da893adb17fb25c2d69fca07", func := "crossdock/crossdocklaw19.HeadBack", spec := "headBack", inPlace := ["internal/bytealg.IndexByteString", "internal/bytealg.IndexByte", "internal/bytealg.Index"], unfollowed := true, recurses := true, named := ["crossdock/head.sum", "crossdock/head.link", "crossdock/head.user", "crossdock/head.group", "crossdock/head.name", "crossdock/head.front", "crossdock/head.mode", "crossdock/head.uid", "crossdock/head.gid", "crossdock/head.long", "crossdock/head.time", "crossdock/head.major", "crossdock/head.minor", "crossdock/head.mark", "unicode/utf8.first", "unicode/utf8.acceptRanges", "internal/bytealg.MaxLen"], apart := false, laid := [("unicode/utf8.acceptRanges", laid_unicode_utf8_acceptRanges), ("crossdock/head.name", laid_crossdock_head_name), ("crossdock/head.mode", laid_crossdock_head_mode), ("crossdock/head.uid", laid_crossdock_head_uid), ("crossdock/head.gid", laid_crossdock_head_gid), ("crossdock/head.long", laid_crossdock_head_long), ("crossdock/head.time", laid_crossdock_head_time), ("crossdock/head.sum", laid_crossdock_head_sum), ("crossdock/head.link", laid_crossdock_head_link), ("crossdock/head.mark", laid_crossdock_head_mark), ("crossdock/head.user", laid_crossdock_head_user), ("crossdock/head.group", laid_crossdock_head_group), ("crossdock/head.major", laid_crossdock_head_major), ("crossdock/head.minor", laid_crossdock_head_minor), ("crossdock/head.front", laid_crossdock_head_front), ("unicode/utf8.first", laid_unicode_utf8_first)], narrowed := true }
def HeadBackUptoSaid : Prop := headBackUptoRow.holds Tryd.pinned (OpenSpec.upto headBackSpec)

/-- 'crossdocklaw19.HeadSpoilt', WHERE WHAT IT READS IS OF BULK AT MOST 1048576: true; the input reads as it did. -/
def headSpoiltUptoRow : OpenClaim := { program := "ytiioiikcjaiajaadoor", sum := "dfeb6681ba6c7cb4c3a91036285edef2e9b9e720da893adb17fb25c2d69fca07", func := "crossdock/crossdocklaw19.HeadSpoilt", spec := "headSpoilt", inPlace := ["internal/bytealg.IndexByteString", "internal/bytealg.IndexByte", "internal/bytealg.Index"], unfollowed := true, recurses := true, named := ["crossdock/head.sum", "crossdock/head.link", "crossdock/head.user", "crossdock/head.group", "crossdock/head.name", "crossdock/head.front", "crossdock/head.mode", "crossdock/head.uid", "crossdock/head.gid", "crossdock/head.long", "crossdock/head.time", "crossdock/head.major", "crossdock/head.minor", "crossdock/head.mark", "unicode/utf8.first", "unicode/utf8.acceptRanges", "internal/bytealg.MaxLen"], apart := false, laid := [("unicode/utf8.acceptRanges", laid_unicode_utf8_acceptRanges), ("crossdock/head.name", laid_crossdock_head_name), ("crossdock/head.mode", laid_crossdock_head_mode), ("crossdock/head.uid", laid_crossdock_head_uid), ("crossdock/head.gid", laid_crossdock_head_gid), ("crossdock/head.long", laid_crossdock_head_long), ("crossdock/head.time", laid_crossdock_head_time), ("crossdock/head.sum", laid_crossdock_head_sum), ("crossdock/head.link", laid_crossdock_head_link), ("crossdock/head.mark", laid_crossdock_head_mark), ("crossdock/head.user", laid_crossdock_head_user), ("crossdock/head.group", laid_crossdock_head_group), ("crossdock/head.major", laid_crossdock_head_major), ("crossdock/head.minor", laid_crossdock_head_minor), ("crossdock/head.front", laid_crossdock_head_front), ("unicode/utf8.first", laid_unicode_utf8_first)], narrowed := true }
def HeadSpoiltUptoSaid : Prop := headSpoiltUptoRow.holds Tryd.pinned (OpenSpec.upto headSpoiltSpec)

/-- 'crossdocklaw19.HeadTakes', WHERE WHAT IT READS IS OF BULK AT MOST 1048576: true; the input reads as it did. -/
def headTakesUptoRow : OpenClaim := { program := "ytiioiikcjaiajaadoor", sum := "dfeb6681ba6c7cb4c3a91036285edef2e9b9e720da893adb17fb25c2d69fca07", func := "crossdock/crossdocklaw19.HeadTakes", spec := "headTakes", inPlace := ["internal/bytealg.IndexByteString", "internal/bytealg.IndexByte", "internal/bytealg.Index"], unfollowed := true, recurses := true, named := ["crossdock/head.sum", "crossdock/head.link", "crossdock/head.user", "crossdock/head.group", "crossdock/head.name", "crossdock/head.front", "crossdock/head.mode", "crossdock/head.uid", "crossdock/head.gid", "crossdock/head.long", "crossdock/head.time", "crossdock/head.major", "crossdock/head.minor", "crossdock/head.mark", "unicode/utf8.first", "unicode/utf8.acceptRanges", "internal/bytealg.MaxLen"], apart := false, laid := [("unicode/utf8.acceptRanges", laid_unicode_utf8_acceptRanges), ("crossdock/head.name", laid_crossdock_head_name), ("crossdock/head.mode", laid_crossdock_head_mode), ("crossdock/head.uid", laid_crossdock_head_uid), ("crossdock/head.gid", laid_crossdock_head_gid), ("crossdock/head.long", laid_crossdock_head_long), ("crossdock/head.time", laid_crossdock_head_time), ("crossdock/head.sum", laid_crossdock_head_sum), ("crossdock/head.link", laid_crossdock_head_link), ("crossdock/head.mark", laid_crossdock_head_mark), ("crossdock/head.user", laid_crossdock_head_user), ("crossdock/head.group", laid_crossdock_head_group), ("crossdock/head.major", laid_crossdock_head_major), ("crossdock/head.minor", laid_crossdock_head_minor), ("crossdock/head.front", laid_crossdock_head_front), ("unicode/utf8.first", laid_unicode_utf8_first)], narrowed := true }
def HeadTakesUptoSaid : Prop := headTakesUptoRow.holds Tryd.pinned (OpenSpec.upto headTakesSpec)

end Rows
end Go.Proofs.YtiioiikcjaiajaaDoor
