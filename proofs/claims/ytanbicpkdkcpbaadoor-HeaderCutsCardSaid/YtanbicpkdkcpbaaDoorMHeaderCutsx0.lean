import Derived.Test.YtanbicpkdkcpbaaDoorProg
import Derived.Below
import Derived.Deep.Draws
import Derived.Deep.AppendLies
import Derived.Maps.AppendAt
import Derived.OwnWalk
import Derived.Laws.BytesArg
import Derived.Laws.MakeOwn
import Derived.Laws.OwnMore
import Derived.Deep.OwnRows
import Derived.Tactics
import Derived.Lib.ConvBytes
import Derived.Laws.Slices
import Derived.WalkKit
import Derived.KernelRfl
import Derived.RowKit3
import Derived.Deep.LoopGhost
import Derived.Deep.QuietTactic
import Derived.BigQuiet
import Derived.WideLaws
import Derived.Deep.DeepCutAuto
import Derived.Deep.CutBlock
import Derived.Deep.RegionHeld3
import Derived.Laws.Rows
import Derived.Lib.AppendStr
import Derived.ArgAppend
import Derived.Laws.IdiomCopy
import Derived.OrdersHeld
import Derived.Laws.BitsLemmas
import Derived.RowKit
import Derived.Test.YtanbicpkdkcpbaaDoorWWords
import Derived.Test.YtanbicpkdkcpbaaDoorWLast
import Derived.Test.YtanbicpkdkcpbaaDoorWTab
import Derived.Test.YtanbicpkdkcpbaaDoorWFour
import Derived.Test.YtanbicpkdkcpbaaDoorWQPut
import Derived.Test.YtanbicpkdkcpbaaDoorWApart
import Derived.Test.YtanbicpkdkcpbaaDoorWArr
import Derived.Test.YtanbicpkdkcpbaaDoorWZeros
import Derived.Test.YtanbicpkdkcpbaaDoorWFoot
import Derived.Test.YtanbicpkdkcpbaaDoorWKept
import Derived.Test.YtanbicpkdkcpbaaDoorWShare
import Derived.Test.YtanbicpkdkcpbaaDoorWN
import Derived.Test.YtanbicpkdkcpbaaDoorWFootNe
import Derived.Test.YtanbicpkdkcpbaaDoorWAt
import Derived.Test.YtanbicpkdkcpbaaDoorWEqStruct
import Derived.Test.YtanbicpkdkcpbaaDoorWRepsOne
import Derived.Test.YtanbicpkdkcpbaaDoorWInv
import Derived.Test.YtanbicpkdkcpbaaDoorWInvWords
import Derived.Test.YtanbicpkdkcpbaaDoorWGuard
import Derived.Test.YtanbicpkdkcpbaaDoorWNEv
import Derived.Test.YtanbicpkdkcpbaaDoorWMore
namespace Go.Proofs.YtanbicpkdkcpbaaDoor.MHeaderCuts
open Go.RowKit Go.Proofs.YtanbicpkdkcpbaaDoorW.PrintWords Go.Proofs.YtanbicpkdkcpbaaDoorW.PrintLast Go.Proofs.YtanbicpkdkcpbaaDoorW.PrintMore
attribute [local go_sem] max2_int min2_int max_two min_two max_three min_three max_four min_four   -- for this text's walks alone
set_option linter.unusedVariables false
set_option linter.unusedSimpArgs false



def errW : Option Int → Value
  | none => .nilIface
  | some c => .iface 0 (.int .i64 c)
theorem errW_none : errW none = .nilIface := rfl
theorem errW_some (c : Int) : errW (some c) = .iface 0 (.int .i64 c) := rfl

-- the values' own types

end Go.Proofs.YtanbicpkdkcpbaaDoor.MHeaderCuts
