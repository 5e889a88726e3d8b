-- PRINTED BY print.sh 35421559b90ae4d0a3588c463048766b98c2df88dd9212a6774a882060cdf62d: not written by this session
import Derived.Test.YtiioiikcjaiajaaDoorProg
import Derived.Below
import Derived.Deep.Draws
import Derived.Deep.AppendLies
import Derived.Maps.AppendAt
import Derived.OwnWalk
import Derived.Laws.BytesArg
import Derived.Laws.MakeOwn
import Derived.Laws.OwnMore
import Derived.Deep.OwnRows
import Derived.Tactics
import Derived.Lib.ConvBytes
import Derived.Laws.Slices
import Derived.WalkKit
import Derived.KernelRfl
import Derived.RowKit3
import Derived.Deep.LoopGhost
import Derived.Deep.QuietTactic
import Derived.BigQuiet
import Derived.WideLaws
import Derived.Deep.DeepCutAuto
import Derived.Deep.CutBlock
import Derived.Deep.RegionHeld3
import Derived.Laws.Rows
import Derived.Lib.AppendStr
import Derived.ArgAppend
import Derived.Laws.IdiomCopy
import Derived.OrdersHeld
import Derived.Laws.BitsLemmas
import Derived.RowKit
import Derived.Test.YtiioiikcjaiajaaDoorWWords
import Derived.Test.YtiioiikcjaiajaaDoorWLast
import Derived.Test.YtiioiikcjaiajaaDoorWTab
import Derived.Test.YtiioiikcjaiajaaDoorWFour
import Derived.Test.YtiioiikcjaiajaaDoorWQPut
import Derived.Test.YtiioiikcjaiajaaDoorWApart
import Derived.Test.YtiioiikcjaiajaaDoorWArr
import Derived.Test.YtiioiikcjaiajaaDoorWZeros
import Derived.Test.YtiioiikcjaiajaaDoorWFoot
import Derived.Test.YtiioiikcjaiajaaDoorWKept
import Derived.Test.YtiioiikcjaiajaaDoorWShare
import Derived.Test.YtiioiikcjaiajaaDoorWN
import Derived.Test.YtiioiikcjaiajaaDoorWFootNe
import Derived.Test.YtiioiikcjaiajaaDoorWAt
import Derived.Test.YtiioiikcjaiajaaDoorWEqStruct
import Derived.Test.YtiioiikcjaiajaaDoorWRepsOne
import Derived.Test.YtiioiikcjaiajaaDoorWInv
import Derived.Test.YtiioiikcjaiajaaDoorWInvWords
import Derived.Test.YtiioiikcjaiajaaDoorWGuard
import Derived.Test.YtiioiikcjaiajaaDoorWNEv
import Derived.Test.YtiioiikcjaiajaaDoorWMore
namespace Go.Proofs.YtiioiikcjaiajaaDoor.PHeadPuts
open Go.RowKit Go.Proofs.YtiioiikcjaiajaaDoorW.PrintWords Go.Proofs.YtiioiikcjaiajaaDoorW.PrintLast Go.Proofs.YtiioiikcjaiajaaDoorW.PrintMore
attribute [local go_sem] max2_int min2_int max_two min_two max_three min_three max_four min_four   -- for this text's walks alone
set_option linter.unusedVariables false
set_option linter.unusedSimpArgs false



def errW : Option Int → Value
  | none => .nilIface
  | some c => .iface 42 (.int .i64 c)
theorem errW_none : errW none = .nilIface := rfl
theorem errW_some (c : Int) : errW (some c) = .iface 42 (.int .i64 c) := rfl

theorem info5 : (Tryd.prog.info? 5).map (fun i => (i.zero, i.size, i.bytes)) = some (some (.int .u8 0), 1, 1) := by kernel_rfl
-- the values' own types

end Go.Proofs.YtiioiikcjaiajaaDoor.PHeadPuts
