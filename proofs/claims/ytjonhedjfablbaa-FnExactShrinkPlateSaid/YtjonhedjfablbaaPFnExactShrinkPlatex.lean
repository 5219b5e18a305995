/- Machine side of laws FnExactShrinkPlate: written for this claim by the kit's print program under this session's wip/tools/mp_setup.py (with contracts of the session's own, wip/ext). -/
import Derived.Test.YtjonhedjfablbaaPFnExactShrinkPlatex0
import Derived.Test.YtjonhedjfablbaaPFnExactShrinkPlatex1
import Derived.Test.YtjonhedjfablbaaPFnExactShrinkPlatex2
import Derived.Test.YtjonhedjfablbaaPFnExactShrinkPlatex3
import Derived.Test.YtjonhedjfablbaaPFnExactShrinkPlatex4
import Derived.Test.YtjonhedjfablbaaPFnExactShrinkPlatex5
namespace Go.Proofs.Ytjonhedjfablbaa.PFnExactShrinkPlate
open Go.RowKit Go.Proofs.YtjonhedjfablbaaW.PrintWords Go.Proofs.YtjonhedjfablbaaW.PrintLast Go.Proofs.YtjonhedjfablbaaW.PrintMore
attribute [local go_sem] max2_int min2_int max_two min_two max_three min_three max_four min_four   -- for this text's walks alone
set_option linter.unusedVariables false
set_option linter.unusedSimpArgs false

end Go.Proofs.Ytjonhedjfablbaa.PFnExactShrinkPlate
