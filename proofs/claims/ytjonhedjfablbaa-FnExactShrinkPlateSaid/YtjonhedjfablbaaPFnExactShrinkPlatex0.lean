/- Machine side of laws FnExactShrinkPlate: written for this claim by the kit's print program under this session's wip/tools/mp_setup.py (with contracts of the session's own, wip/ext). -/
import Derived.Test.YtjonhedjfablbaaProg
import Derived.Below
import Derived.Deep.Draws
import Derived.Deep.AppendLies
import Derived.Maps.AppendAt
import Derived.OwnWalk
import Derived.Laws.BytesArg
import Derived.Laws.MakeOwn
import Derived.Laws.OwnMore
import Derived.Deep.OwnRows
import Derived.Tactics
import Derived.Lib.ConvBytes
import Derived.Laws.Slices
import Derived.WalkKit
import Derived.KernelRfl
import Derived.RowKit3
import Derived.Deep.LoopGhost
import Derived.Deep.QuietTactic
import Derived.BigQuiet
import Derived.WideLaws
import Derived.Deep.DeepCutAuto
import Derived.Deep.CutBlock
import Derived.Deep.RegionHeld3
import Derived.Laws.Rows
import Derived.Lib.AppendStr
import Derived.ArgAppend
import Derived.Laws.IdiomCopy
import Derived.OrdersHeld
import Derived.Laws.BitsLemmas
import Derived.RowKit
import Derived.Test.YtjonhedjfablbaaExt
import Derived.Test.YtjonhedjfablbaaWWords
import Derived.Test.YtjonhedjfablbaaWLast
import Derived.Test.YtjonhedjfablbaaWTab
import Derived.Test.YtjonhedjfablbaaWFour
import Derived.Test.YtjonhedjfablbaaWQPut
import Derived.Test.YtjonhedjfablbaaWApart
import Derived.Test.YtjonhedjfablbaaWArr
import Derived.Test.YtjonhedjfablbaaWZeros
import Derived.Test.YtjonhedjfablbaaWFoot
import Derived.Test.YtjonhedjfablbaaWKept
import Derived.Test.YtjonhedjfablbaaWShare
import Derived.Test.YtjonhedjfablbaaWN
import Derived.Test.YtjonhedjfablbaaWFootNe
import Derived.Test.YtjonhedjfablbaaWAt
import Derived.Test.YtjonhedjfablbaaWEqStruct
import Derived.Test.YtjonhedjfablbaaWRepsOne
import Derived.Test.YtjonhedjfablbaaWInv
import Derived.Test.YtjonhedjfablbaaWInvWords
import Derived.Test.YtjonhedjfablbaaWGuard
import Derived.Test.YtjonhedjfablbaaWNEv
import Derived.Test.YtjonhedjfablbaaWMore
namespace Go.Proofs.Ytjonhedjfablbaa.PFnExactShrinkPlate
open Go.RowKit Go.Proofs.YtjonhedjfablbaaW.PrintWords Go.Proofs.YtjonhedjfablbaaW.PrintLast Go.Proofs.YtjonhedjfablbaaW.PrintMore
attribute [local go_sem] max2_int min2_int max_two min_two max_three min_three max_four min_four   -- for this text's walks alone
set_option linter.unusedVariables false
set_option linter.unusedSimpArgs false



def errW : Option Int → Value
  | none => .nilIface
  | some c => .iface 0 (.int .i64 c)
theorem errW_none : errW none = .nilIface := rfl
theorem errW_some (c : Int) : errW (some c) = .iface 0 (.int .i64 c) := rfl

theorem info3 : (Try.prog.info? 3).map (fun i => (i.zero, i.size, i.bytes)) = some (some (.int .i64 0), 1, 8) := by kernel_rfl
-- the values' own types

end Go.Proofs.Ytjonhedjfablbaa.PFnExactShrinkPlate
