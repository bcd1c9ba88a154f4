-- Written by this session's own program (wip/myprint.py) over the kit's print of the translation. Lean checks it.
import Derived.Test.YtidencofapcliaaDoorProg
import Derived.Below
import Derived.Deep.Draws
import Derived.Deep.AppendLies
import Derived.Maps.AppendAt
import Derived.OwnWalk
import Derived.Laws.BytesArg
import Derived.Laws.MakeOwn
import Derived.Laws.OwnMore
import Derived.Deep.OwnRows
import Derived.Tactics
import Derived.Lib.ConvBytes
import Derived.Laws.Slices
import Derived.WalkKit
import Derived.KernelRfl
import Derived.RowKit3
import Derived.Deep.LoopGhost
import Derived.Deep.QuietTactic
import Derived.BigQuiet
import Derived.WideLaws
import Derived.Deep.DeepCutAuto
import Derived.Deep.CutBlock
import Derived.Deep.RegionHeld3
import Derived.Laws.Rows
import Derived.Lib.AppendStr
import Derived.ArgAppend
import Derived.Laws.IdiomCopy
import Derived.OrdersHeld
import Derived.Laws.BitsLemmas
import Derived.RowKit
import Derived.Test.YtidencofapcliaaDoorTwo
import Derived.Test.YtidencofapcliaaDoorGivItoa
import Derived.Test.YtidencofapcliaaDoorGivRep0
import Derived.Test.YtidencofapcliaaDoorKnowFields
import Derived.Test.YtidencofapcliaaDoorWWords
import Derived.Test.YtidencofapcliaaDoorWLast
import Derived.Test.YtidencofapcliaaDoorWTab
import Derived.Test.YtidencofapcliaaDoorWFour
import Derived.Test.YtidencofapcliaaDoorWQPut
import Derived.Test.YtidencofapcliaaDoorWApart
import Derived.Test.YtidencofapcliaaDoorWArr
import Derived.Test.YtidencofapcliaaDoorWZeros
import Derived.Test.YtidencofapcliaaDoorWFoot
import Derived.Test.YtidencofapcliaaDoorWKept
import Derived.Test.YtidencofapcliaaDoorWShare
import Derived.Test.YtidencofapcliaaDoorWN
import Derived.Test.YtidencofapcliaaDoorWFootNe
import Derived.Test.YtidencofapcliaaDoorWAt
import Derived.Test.YtidencofapcliaaDoorWEqStruct
import Derived.Test.YtidencofapcliaaDoorWRepsOne
import Derived.Test.YtidencofapcliaaDoorWInv
import Derived.Test.YtidencofapcliaaDoorWInvWords
import Derived.Test.YtidencofapcliaaDoorWGuard
import Derived.Test.YtidencofapcliaaDoorWNEv
import Derived.Test.YtidencofapcliaaDoorWMore
namespace Go.Proofs.YtidencofapcliaaDoor.MT
open Go.RowKit Go.Proofs.YtidencofapcliaaDoorW.PrintWords Go.Proofs.YtidencofapcliaaDoorW.PrintLast Go.Proofs.YtidencofapcliaaDoorW.PrintMore
attribute [local go_sem] max2_int min2_int max_two min_two max_three min_three max_four min_four   -- for this text's walks alone
set_option linter.unusedVariables false
set_option linter.unusedSimpArgs false



def errW : Option Int → Value
  | none => .nilIface
  | some c => .iface 0 (.int .i64 c)
theorem errW_none : errW none = .nilIface := rfl
theorem errW_some (c : Int) : errW (some c) = .iface 0 (.int .i64 c) := rfl

theorem info3 : (Tryd.prog.info? 3).map (fun i => (i.zero, i.size, i.bytes)) = some (some (.int .i64 0), 1, 8) := by kernel_rfl
theorem info5 : (Tryd.prog.info? 5).map (fun i => (i.zero, i.size, i.bytes)) = some (some (.int .u8 0), 1, 1) := by kernel_rfl
-- the values' own types

end Go.Proofs.YtidencofapcliaaDoor.MT
