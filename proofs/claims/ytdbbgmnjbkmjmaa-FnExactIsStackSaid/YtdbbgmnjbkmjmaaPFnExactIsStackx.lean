/- Machine side of laws FnExactIsStack: written for this claim by the kit's print program under this session's wip/tools/mp_setup.py (with contracts of the session's own, wip/ext). -/
import Derived.Test.YtdbbgmnjbkmjmaaPFnExactIsStackx0
import Derived.Test.YtdbbgmnjbkmjmaaPFnExactIsStackx1
import Derived.Test.YtdbbgmnjbkmjmaaPFnExactIsStackx2
import Derived.Test.YtdbbgmnjbkmjmaaPFnExactIsStackx3
import Derived.Test.YtdbbgmnjbkmjmaaPFnExactIsStackx4
import Derived.Test.YtdbbgmnjbkmjmaaPFnExactIsStackx5
namespace Go.Proofs.Ytdbbgmnjbkmjmaa.PFnExactIsStack
open Go.RowKit Go.Proofs.YtdbbgmnjbkmjmaaW.PrintWords Go.Proofs.YtdbbgmnjbkmjmaaW.PrintLast Go.Proofs.YtdbbgmnjbkmjmaaW.PrintMore
attribute [local go_sem] max2_int min2_int max_two min_two max_three min_three max_four min_four   -- for this text's walks alone
set_option linter.unusedVariables false
set_option linter.unusedSimpArgs false

end Go.Proofs.Ytdbbgmnjbkmjmaa.PFnExactIsStack
