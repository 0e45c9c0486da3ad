/- FnLfsr: what each function that the law reaches computes, and that the machine comes to it; conditions: as each theorem says. Written by wip/own.py of this session, over the kit's print of this law, with repairs: not the print's own text. -/
import Derived.Test.YtgcdkchdgeppdaaProg
import Derived.Below
import Derived.Deep.Draws
import Derived.Deep.AppendLies
import Derived.Maps.AppendAt
import Derived.OwnWalk
import Derived.Laws.BytesArg
import Derived.Laws.MakeOwn
import Derived.Laws.OwnMore
import Derived.Deep.OwnRows
import Derived.Tactics
import Derived.Lib.ConvBytes
import Derived.Laws.Slices
import Derived.WalkKit
import Derived.KernelRfl
import Derived.RowKit3
import Derived.Deep.LoopGhost
import Derived.Deep.QuietTactic
import Derived.BigQuiet
import Derived.WideLaws
import Derived.Deep.DeepCutAuto
import Derived.Deep.CutBlock
import Derived.Deep.RegionHeld3
import Derived.Laws.Rows
import Derived.Lib.AppendStr
import Derived.ArgAppend
import Derived.Laws.IdiomCopy
import Derived.OrdersHeld
import Derived.Laws.BitsLemmas
import Derived.RowKit
import Derived.Test.YtgcdkchdgeppdaaWWords
import Derived.Test.YtgcdkchdgeppdaaWLast
import Derived.Test.YtgcdkchdgeppdaaWTab
import Derived.Test.YtgcdkchdgeppdaaWFour
import Derived.Test.YtgcdkchdgeppdaaWQPut
import Derived.Test.YtgcdkchdgeppdaaWApart
import Derived.Test.YtgcdkchdgeppdaaWArr
import Derived.Test.YtgcdkchdgeppdaaWZeros
import Derived.Test.YtgcdkchdgeppdaaWFoot
import Derived.Test.YtgcdkchdgeppdaaWKept
import Derived.Test.YtgcdkchdgeppdaaWShare
import Derived.Test.YtgcdkchdgeppdaaWN
import Derived.Test.YtgcdkchdgeppdaaWFootNe
import Derived.Test.YtgcdkchdgeppdaaWAt
import Derived.Test.YtgcdkchdgeppdaaWEqStruct
import Derived.Test.YtgcdkchdgeppdaaWRepsOne
import Derived.Test.YtgcdkchdgeppdaaWInv
import Derived.Test.YtgcdkchdgeppdaaWInvWords
import Derived.Test.YtgcdkchdgeppdaaWGuard
import Derived.Test.YtgcdkchdgeppdaaWNEv
import Derived.Test.YtgcdkchdgeppdaaWMore
namespace Go.Proofs.Ytgcdkchdgeppdaa.PFnLfsr
open Go.RowKit Go.Proofs.YtgcdkchdgeppdaaW.PrintWords Go.Proofs.YtgcdkchdgeppdaaW.PrintLast Go.Proofs.YtgcdkchdgeppdaaW.PrintMore
attribute [local go_sem] max2_int min2_int max_two min_two max_three min_three max_four min_four   -- for this text's walks alone
set_option linter.unusedVariables false
set_option linter.unusedSimpArgs false



def errW : Option Int → Value
  | none => .nilIface
  | some c => .iface 0 (.int .i64 c)
theorem errW_none : errW none = .nilIface := rfl
theorem errW_some (c : Int) : errW (some c) = .iface 0 (.int .i64 c) := rfl

theorem info2 : (Try.prog.info? 2).map (fun i => (i.zero, i.size, i.bytes)) = some (some (.int .i64 0), 1, 8) := by kernel_rfl
-- the values' own types

end Go.Proofs.Ytgcdkchdgeppdaa.PFnLfsr
