-- Laid by this session's own program (wip/pp.py) over the seat's translation; Lean checks it.
import Derived.Test.YtiolnbkaohioiaaProg
import Derived.Below
import Derived.Deep.Draws
import Derived.Deep.AppendLies
import Derived.Maps.AppendAt
import Derived.OwnWalk
import Derived.Laws.BytesArg
import Derived.Laws.MakeOwn
import Derived.Laws.OwnMore
import Derived.Deep.OwnRows
import Derived.Tactics
import Derived.Lib.ConvBytes
import Derived.Laws.Slices
import Derived.WalkKit
import Derived.KernelRfl
import Derived.RowKit3
import Derived.Deep.LoopGhost
import Derived.Deep.QuietTactic
import Derived.BigQuiet
import Derived.WideLaws
import Derived.Deep.DeepCutAuto
import Derived.Deep.CutBlock
import Derived.Deep.RegionHeld3
import Derived.Laws.Rows
import Derived.Lib.AppendStr
import Derived.ArgAppend
import Derived.Laws.IdiomCopy
import Derived.OrdersHeld
import Derived.Laws.BitsLemmas
import Derived.RowKit
import Derived.Test.YtiolnbkaohioiaaWWords
import Derived.Test.YtiolnbkaohioiaaWLast
import Derived.Test.YtiolnbkaohioiaaWTab
import Derived.Test.YtiolnbkaohioiaaWFour
import Derived.Test.YtiolnbkaohioiaaWQPut
import Derived.Test.YtiolnbkaohioiaaWApart
import Derived.Test.YtiolnbkaohioiaaWArr
import Derived.Test.YtiolnbkaohioiaaWZeros
import Derived.Test.YtiolnbkaohioiaaWFoot
import Derived.Test.YtiolnbkaohioiaaWKept
import Derived.Test.YtiolnbkaohioiaaWShare
import Derived.Test.YtiolnbkaohioiaaWN
import Derived.Test.YtiolnbkaohioiaaWFootNe
import Derived.Test.YtiolnbkaohioiaaWAt
import Derived.Test.YtiolnbkaohioiaaWEqStruct
import Derived.Test.YtiolnbkaohioiaaWRepsOne
import Derived.Test.YtiolnbkaohioiaaWInv
import Derived.Test.YtiolnbkaohioiaaWInvWords
import Derived.Test.YtiolnbkaohioiaaWGuard
import Derived.Test.YtiolnbkaohioiaaWNEv
import Derived.Test.YtiolnbkaohioiaaWMore
namespace Go.Proofs.Ytiolnbkaohioiaa.P
open Go.RowKit Go.Proofs.YtiolnbkaohioiaaW.PrintWords Go.Proofs.YtiolnbkaohioiaaW.PrintLast Go.Proofs.YtiolnbkaohioiaaW.PrintMore
attribute [local go_sem] max2_int min2_int max_two min_two max_three min_three max_four min_four   -- for this text's walks alone
set_option linter.unusedVariables false
set_option linter.unusedSimpArgs false



def errW : Option Int → Value
  | none => .nilIface
  | some c => .iface 0 (.int .i64 c)
theorem errW_none : errW none = .nilIface := rfl
theorem errW_some (c : Int) : errW (some c) = .iface 0 (.int .i64 c) := rfl

theorem info3 : (Try.prog.info? 3).map (fun i => (i.zero, i.size, i.bytes)) = some (some (.int .i64 0), 1, 8) := by kernel_rfl
-- the values' own types

end Go.Proofs.Ytiolnbkaohioiaa.P
