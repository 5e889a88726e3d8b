-- PRINTED BY print.sh 35421559b90ae4d0a3588c463048766b98c2df88dd9212a6774a882060cdf62d: not written by this session
import Derived.Test.YtojhbioljpamhaaDoorProg
import Derived.Below
import Derived.Deep.Draws
import Derived.Deep.AppendLies
import Derived.Maps.AppendAt
import Derived.OwnWalk
import Derived.Laws.BytesArg
import Derived.Laws.MakeOwn
import Derived.Laws.OwnMore
import Derived.Deep.OwnRows
import Derived.Tactics
import Derived.Lib.ConvBytes
import Derived.Laws.Slices
import Derived.WalkKit
import Derived.KernelRfl
import Derived.RowKit3
import Derived.Deep.LoopGhost
import Derived.Deep.QuietTactic
import Derived.BigQuiet
import Derived.WideLaws
import Derived.Deep.DeepCutAuto
import Derived.Deep.CutBlock
import Derived.Deep.RegionHeld3
import Derived.Laws.Rows
import Derived.Lib.AppendStr
import Derived.ArgAppend
import Derived.Laws.IdiomCopy
import Derived.OrdersHeld
import Derived.Laws.BitsLemmas
import Derived.RowKit
import Derived.Test.YtojhbioljpamhaaDoorWWords
import Derived.Test.YtojhbioljpamhaaDoorWLast
import Derived.Test.YtojhbioljpamhaaDoorWTab
import Derived.Test.YtojhbioljpamhaaDoorWFour
import Derived.Test.YtojhbioljpamhaaDoorWQPut
import Derived.Test.YtojhbioljpamhaaDoorWApart
import Derived.Test.YtojhbioljpamhaaDoorWArr
import Derived.Test.YtojhbioljpamhaaDoorWZeros
import Derived.Test.YtojhbioljpamhaaDoorWFoot
import Derived.Test.YtojhbioljpamhaaDoorWKept
import Derived.Test.YtojhbioljpamhaaDoorWShare
import Derived.Test.YtojhbioljpamhaaDoorWN
import Derived.Test.YtojhbioljpamhaaDoorWFootNe
import Derived.Test.YtojhbioljpamhaaDoorWAt
import Derived.Test.YtojhbioljpamhaaDoorWEqStruct
import Derived.Test.YtojhbioljpamhaaDoorWRepsOne
import Derived.Test.YtojhbioljpamhaaDoorWInv
import Derived.Test.YtojhbioljpamhaaDoorWInvWords
import Derived.Test.YtojhbioljpamhaaDoorWGuard
import Derived.Test.YtojhbioljpamhaaDoorWNEv
import Derived.Test.YtojhbioljpamhaaDoorWMore
namespace Go.Proofs.YtojhbioljpamhaaDoor.PUtfRight
open Go.RowKit Go.Proofs.YtojhbioljpamhaaDoorW.PrintWords Go.Proofs.YtojhbioljpamhaaDoorW.PrintLast Go.Proofs.YtojhbioljpamhaaDoorW.PrintMore
attribute [local go_sem] max2_int min2_int max_two min_two max_three min_three max_four min_four   -- for this text's walks alone
set_option linter.unusedVariables false
set_option linter.unusedSimpArgs false



def errW : Option Int → Value
  | none => .nilIface
  | some c => .iface 0 (.int .i64 c)
theorem errW_none : errW none = .nilIface := rfl
theorem errW_some (c : Int) : errW (some c) = .iface 0 (.int .i64 c) := rfl

theorem info5 : (Tryd.prog.info? 5).map (fun i => (i.zero, i.size, i.bytes)) = some (some (.int .u8 0), 1, 1) := by kernel_rfl
-- the values' own types

end Go.Proofs.YtojhbioljpamhaaDoor.PUtfRight
