-- by a program of ours (the kit's print, turned, and hand texts beside it), out of the translation; not trusted: Lean checks it
import Derived.Test.YtfdbibddhneklacProg
import Derived.Below
import Derived.Deep.Draws
import Derived.Deep.AppendLies
import Derived.Maps.AppendAt
import Derived.OwnWalk
import Derived.Laws.BytesArg
import Derived.Laws.MakeOwn
import Derived.Laws.OwnMore
import Derived.Deep.OwnRows
import Derived.Tactics
import Derived.Lib.ConvBytes
import Derived.Laws.Slices
import Derived.WalkKit
import Derived.KernelRfl
import Derived.RowKit3
import Derived.Deep.LoopGhost
import Derived.Deep.QuietTactic
import Derived.BigQuiet
import Derived.WideLaws
import Derived.Deep.DeepCutAuto
import Derived.Deep.CutBlock
import Derived.Deep.RegionHeld3
import Derived.Laws.Rows
import Derived.Lib.AppendStr
import Derived.ArgAppend
import Derived.Laws.IdiomCopy
import Derived.OrdersHeld
import Derived.Laws.BitsLemmas
import Derived.RowKit
import Derived.Lib.Hide
import Derived.RangeFuncBox
import Derived.RangeFuncLeaves
import Derived.RangeFuncNested
import Derived.Shelf.Abstract
import Derived.WalkMore
import Derived.Laws.Bits64b
import Derived.Lib.LazyBuf
import Derived.OwnWalkIn
import Derived.TacticsInMore
import Derived.LoopNIn
import Derived.LoopIn
import Derived.Test.YtfdbibddhneklacWWords
import Derived.Test.YtfdbibddhneklacWLast
import Derived.Test.YtfdbibddhneklacWTab
import Derived.Test.YtfdbibddhneklacWFour
import Derived.Test.YtfdbibddhneklacWQPut
import Derived.Test.YtfdbibddhneklacWApart
import Derived.Test.YtfdbibddhneklacWArr
import Derived.Test.YtfdbibddhneklacWZeros
import Derived.Test.YtfdbibddhneklacWFoot
import Derived.Test.YtfdbibddhneklacWKept
import Derived.Test.YtfdbibddhneklacWShare
import Derived.Test.YtfdbibddhneklacWN
import Derived.Test.YtfdbibddhneklacWFootNe
import Derived.Test.YtfdbibddhneklacWAt
import Derived.Test.YtfdbibddhneklacWEqStruct
import Derived.Test.YtfdbibddhneklacWRepsOne
import Derived.Test.YtfdbibddhneklacWInv
import Derived.Test.YtfdbibddhneklacWInvWords
import Derived.Test.YtfdbibddhneklacWGuard
import Derived.Test.YtfdbibddhneklacWNEv
import Derived.Test.YtfdbibddhneklacWMore
namespace Go.Proofs.Ytfdbibddhneklac.PWireBack
open Go.RowKit Go.Proofs.YtfdbibddhneklacW.PrintWords Go.Proofs.YtfdbibddhneklacW.PrintLast Go.Proofs.YtfdbibddhneklacW.PrintMore
attribute [local go_sem] max2_int min2_int max_two min_two max_three min_three max_four min_four   -- for this text's walks alone
set_option linter.unusedVariables false
set_option linter.unusedSimpArgs false



def errW : Option Int → Value
  | none => .nilIface
  | some c => .iface 0 (.int .i64 c)
theorem errW_none : errW none = .nilIface := rfl
theorem errW_some (c : Int) : errW (some c) = .iface 0 (.int .i64 c) := rfl

theorem info5 : (Try.prog.info? 5).map (fun i => (i.zero, i.size, i.bytes)) = some (some (.int .u8 0), 1, 1) := by kernel_rfl
-- the values' own types

end Go.Proofs.Ytfdbibddhneklac.PWireBack
