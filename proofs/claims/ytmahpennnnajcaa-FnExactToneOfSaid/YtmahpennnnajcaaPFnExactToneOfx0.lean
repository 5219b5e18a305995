/- Machine side of laws FnExactToneOf: written for this claim by the kit's print program under this session's wip/tools/mp_setup.py (with contracts of the session's own, wip/ext). -/
import Derived.Test.YtmahpennnnajcaaProg
import Derived.Below
import Derived.Deep.Draws
import Derived.Deep.AppendLies
import Derived.Maps.AppendAt
import Derived.OwnWalk
import Derived.Laws.BytesArg
import Derived.Laws.MakeOwn
import Derived.Laws.OwnMore
import Derived.Deep.OwnRows
import Derived.Tactics
import Derived.Lib.ConvBytes
import Derived.Laws.Slices
import Derived.WalkKit
import Derived.Laws.FloatArith
import Derived.KernelRfl
import Derived.RowKit3
import Derived.Deep.LoopGhost
import Derived.Deep.QuietTactic
import Derived.BigQuiet
import Derived.WideLaws
import Derived.Deep.DeepCutAuto
import Derived.Deep.CutBlock
import Derived.Deep.RegionHeld3
import Derived.Laws.Rows
import Derived.Lib.AppendStr
import Derived.ArgAppend
import Derived.Laws.IdiomCopy
import Derived.OrdersHeld
import Derived.Laws.BitsLemmas
import Derived.RowKit
import Derived.Test.YtmahpennnnajcaaExt
import Derived.Test.YtmahpennnnajcaaWWords
import Derived.Test.YtmahpennnnajcaaWLast
import Derived.Test.YtmahpennnnajcaaWTab
import Derived.Test.YtmahpennnnajcaaWFour
import Derived.Test.YtmahpennnnajcaaWQPut
import Derived.Test.YtmahpennnnajcaaWApart
import Derived.Test.YtmahpennnnajcaaWArr
import Derived.Test.YtmahpennnnajcaaWZeros
import Derived.Test.YtmahpennnnajcaaWFoot
import Derived.Test.YtmahpennnnajcaaWKept
import Derived.Test.YtmahpennnnajcaaWShare
import Derived.Test.YtmahpennnnajcaaWN
import Derived.Test.YtmahpennnnajcaaWFootNe
import Derived.Test.YtmahpennnnajcaaWAt
import Derived.Test.YtmahpennnnajcaaWEqStruct
import Derived.Test.YtmahpennnnajcaaWRepsOne
import Derived.Test.YtmahpennnnajcaaWInv
import Derived.Test.YtmahpennnnajcaaWInvWords
import Derived.Test.YtmahpennnnajcaaWGuard
import Derived.Test.YtmahpennnnajcaaWNEv
import Derived.Test.YtmahpennnnajcaaWMore
namespace Go.Proofs.Ytmahpennnnajcaa.PFnExactToneOf
open Go.RowKit Go.Proofs.YtmahpennnnajcaaW.PrintWords Go.Proofs.YtmahpennnnajcaaW.PrintLast Go.Proofs.YtmahpennnnajcaaW.PrintMore
attribute [local go_sem] max2_int min2_int max_two min_two max_three min_three max_four min_four   -- for this text's walks alone
set_option linter.unusedVariables false
set_option linter.unusedSimpArgs false



def errW : Option Int → Value
  | none => .nilIface
  | some c => .iface 0 (.int .i64 c)
theorem errW_none : errW none = .nilIface := rfl
theorem errW_some (c : Int) : errW (some c) = .iface 0 (.int .i64 c) := rfl

theorem info3 : (Try.prog.info? 3).map (fun i => (i.zero, i.size, i.bytes)) = some (some (.int .i64 0), 1, 8) := by kernel_rfl
-- the values' own types

/-- the bits of the quotient of two whole numbers, as floats of 32 bits (none: not a number) -/
def tone32 (s n : Int) : Option Int := (floatBits .quo .f32 (floatOfInt .f32 s) (floatOfInt .f32 n)).map fun b : Nat => (b : Int)
/-- the bits of a float of 32 bits, as one of 64 -/
def cv32 (a : Int) : Nat := (floatToFloatBits .f32 a.toNat .f64).getD 0
/-- a number that is zero or more -/
def good32 (a : Int) : Prop := floatToFloatBits .f32 a.toNat .f64 = some (cv32 a) ∧ (cv32 a = 0 ∨ (FloatKind.f64.format.order (cv32 a) (cv32 a) = some .eq ∧ FloatKind.f64.format.order (cv32 a) 0 = some .gt))
instance (a : Int) : Decidable (good32 a) := inferInstanceAs (Decidable (_ ∧ _))

end Go.Proofs.Ytmahpennnnajcaa.PFnExactToneOf
