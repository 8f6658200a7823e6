-- a copy of a print, mine -- SPLICED
import Derived.Test.YtnomebkdhjigjaaProg
import Derived.Below
import Derived.Deep.Draws
import Derived.Deep.AppendLies
import Derived.Maps.AppendAt
import Derived.OwnWalk
import Derived.Laws.BytesArg
import Derived.Laws.MakeOwn
import Derived.Laws.OwnMore
import Derived.Deep.OwnRows
import Derived.Tactics
import Derived.Lib.ConvBytes
import Derived.Laws.Slices
import Derived.WalkKit
import Derived.KernelRfl
import Derived.RowKit3
import Derived.Deep.LoopGhost
import Derived.Deep.QuietTactic
import Derived.BigQuiet
import Derived.WideLaws
import Derived.Deep.DeepCutAuto
import Derived.Deep.CutBlock
import Derived.Deep.RegionHeld3
import Derived.Laws.Rows
import Derived.Lib.AppendStr
import Derived.ArgAppend
import Derived.Laws.IdiomCopy
import Derived.OrdersHeld
import Derived.Laws.BitsLemmas
import Derived.RowKit
import Derived.Test.YtnomebkdhjigjaaWWords
import Derived.Test.YtnomebkdhjigjaaWLast
import Derived.Test.YtnomebkdhjigjaaWTab
import Derived.Test.YtnomebkdhjigjaaWFour
import Derived.Test.YtnomebkdhjigjaaWQPut
import Derived.Test.YtnomebkdhjigjaaWApart
import Derived.Test.YtnomebkdhjigjaaWArr
import Derived.Test.YtnomebkdhjigjaaWZeros
import Derived.Test.YtnomebkdhjigjaaWFoot
import Derived.Test.YtnomebkdhjigjaaWKept
import Derived.Test.YtnomebkdhjigjaaWShare
import Derived.Test.YtnomebkdhjigjaaWN
import Derived.Test.YtnomebkdhjigjaaWFootNe
import Derived.Test.YtnomebkdhjigjaaWAt
import Derived.Test.YtnomebkdhjigjaaWEqStruct
import Derived.Test.YtnomebkdhjigjaaWRepsOne
import Derived.Test.YtnomebkdhjigjaaWInv
import Derived.Test.YtnomebkdhjigjaaWInvWords
import Derived.Test.YtnomebkdhjigjaaWGuard
import Derived.Test.YtnomebkdhjigjaaWNEv
import Derived.Test.YtnomebkdhjigjaaWMore
namespace Go.Proofs.Ytnomebkdhjigjaa.MLzDecodes
open Go.RowKit Go.Proofs.YtnomebkdhjigjaaW.PrintWords Go.Proofs.YtnomebkdhjigjaaW.PrintLast Go.Proofs.YtnomebkdhjigjaaW.PrintMore
attribute [local go_sem] max2_int min2_int max_two min_two max_three min_three max_four min_four   -- for this text's walks alone
set_option linter.unusedVariables false
set_option linter.unusedSimpArgs false



def errW : Option Int → Value
  | none => .nilIface
  | some c => .iface 0 (.int .i64 c)
theorem errW_none : errW none = .nilIface := rfl
theorem errW_some (c : Int) : errW (some c) = .iface 0 (.int .i64 c) := rfl

theorem info5 : (Try.prog.info? 5).map (fun i => (i.zero, i.size, i.bytes)) = some (some (.int .u8 0), 1, 1) := by kernel_rfl
-- the values' own types

end Go.Proofs.Ytnomebkdhjigjaa.MLzDecodes
