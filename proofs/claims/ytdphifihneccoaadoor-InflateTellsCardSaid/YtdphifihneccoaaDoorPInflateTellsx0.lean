-- PRINTED BY print.sh 35421559b90ae4d0a3588c463048766b98c2df88dd9212a6774a882060cdf62d: not written by this session
import Derived.Test.YtdphifihneccoaaDoorProg
import Derived.Below
import Derived.Deep.Draws
import Derived.Deep.AppendLies
import Derived.Maps.AppendAt
import Derived.OwnWalk
import Derived.Laws.BytesArg
import Derived.Laws.MakeOwn
import Derived.Laws.OwnMore
import Derived.Deep.OwnRows
import Derived.Tactics
import Derived.Lib.ConvBytes
import Derived.Laws.Slices
import Derived.WalkKit
import Derived.KernelRfl
import Derived.RowKit3
import Derived.Deep.LoopGhost
import Derived.Deep.QuietTactic
import Derived.BigQuiet
import Derived.WideLaws
import Derived.Deep.DeepCutAuto
import Derived.Deep.CutBlock
import Derived.Deep.RegionHeld3
import Derived.Laws.Rows
import Derived.Lib.AppendStr
import Derived.ArgAppend
import Derived.Laws.IdiomCopy
import Derived.OrdersHeld
import Derived.Laws.BitsLemmas
import Derived.RowKit
import Derived.Test.YtdphifihneccoaaDoorWWords
import Derived.Test.YtdphifihneccoaaDoorWLast
import Derived.Test.YtdphifihneccoaaDoorWTab
import Derived.Test.YtdphifihneccoaaDoorWFour
import Derived.Test.YtdphifihneccoaaDoorWQPut
import Derived.Test.YtdphifihneccoaaDoorWApart
import Derived.Test.YtdphifihneccoaaDoorWArr
import Derived.Test.YtdphifihneccoaaDoorWZeros
import Derived.Test.YtdphifihneccoaaDoorWFoot
import Derived.Test.YtdphifihneccoaaDoorWKept
import Derived.Test.YtdphifihneccoaaDoorWShare
import Derived.Test.YtdphifihneccoaaDoorWN
import Derived.Test.YtdphifihneccoaaDoorWFootNe
import Derived.Test.YtdphifihneccoaaDoorWAt
import Derived.Test.YtdphifihneccoaaDoorWEqStruct
import Derived.Test.YtdphifihneccoaaDoorWRepsOne
import Derived.Test.YtdphifihneccoaaDoorWInv
import Derived.Test.YtdphifihneccoaaDoorWInvWords
import Derived.Test.YtdphifihneccoaaDoorWGuard
import Derived.Test.YtdphifihneccoaaDoorWNEv
import Derived.Test.YtdphifihneccoaaDoorWMore
namespace Go.Proofs.YtdphifihneccoaaDoor.PInflateTells
open Go.RowKit Go.Proofs.YtdphifihneccoaaDoorW.PrintWords Go.Proofs.YtdphifihneccoaaDoorW.PrintLast Go.Proofs.YtdphifihneccoaaDoorW.PrintMore
attribute [local go_sem] max2_int min2_int max_two min_two max_three min_three max_four min_four   -- for this text's walks alone
set_option linter.unusedVariables false
set_option linter.unusedSimpArgs false



def errW : Option Int → Value
  | none => .nilIface
  | some c => .iface 39 (.int .i64 c)
theorem errW_none : errW none = .nilIface := rfl
theorem errW_some (c : Int) : errW (some c) = .iface 39 (.int .i64 c) := rfl

theorem info3 : (Tryd.prog.info? 3).map (fun i => (i.zero, i.size, i.bytes)) = some (some (.int .i64 0), 1, 8) := by kernel_rfl
theorem info5 : (Tryd.prog.info? 5).map (fun i => (i.zero, i.size, i.bytes)) = some (some (.int .u8 0), 1, 1) := by kernel_rfl
theorem info9 : (Tryd.prog.info? 9).map (fun i => (i.zero, i.size, i.bytes)) = some (some (.string ⟨#[]⟩), 1, 16) := by kernel_rfl
-- the values' own types

end Go.Proofs.YtdphifihneccoaaDoor.PInflateTells
