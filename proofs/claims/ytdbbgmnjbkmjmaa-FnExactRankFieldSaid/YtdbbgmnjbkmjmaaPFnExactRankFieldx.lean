/- Machine side of laws FnExactRankField: written for this claim by the kit's print program under this session's wip/tools/mp_setup.py (with contracts of the session's own, wip/ext). -/
import Derived.Test.YtdbbgmnjbkmjmaaPFnExactRankFieldx0
import Derived.Test.YtdbbgmnjbkmjmaaPFnExactRankFieldx1
import Derived.Test.YtdbbgmnjbkmjmaaPFnExactRankFieldx2
import Derived.Test.YtdbbgmnjbkmjmaaPFnExactRankFieldx3
import Derived.Test.YtdbbgmnjbkmjmaaPFnExactRankFieldx4
import Derived.Test.YtdbbgmnjbkmjmaaPFnExactRankFieldx5
import Derived.Test.YtdbbgmnjbkmjmaaPFnExactRankFieldx6
import Derived.Test.YtdbbgmnjbkmjmaaPFnExactRankFieldx7
import Derived.Test.YtdbbgmnjbkmjmaaPFnExactRankFieldx8
import Derived.Test.YtdbbgmnjbkmjmaaPFnExactRankFieldx9
namespace Go.Proofs.Ytdbbgmnjbkmjmaa.PFnExactRankField
open Go.RowKit Go.Proofs.YtdbbgmnjbkmjmaaW.PrintWords Go.Proofs.YtdbbgmnjbkmjmaaW.PrintLast Go.Proofs.YtdbbgmnjbkmjmaaW.PrintMore
attribute [local go_sem] max2_int min2_int max_two min_two max_three min_three max_four min_four   -- for this text's walks alone
set_option linter.unusedVariables false
set_option linter.unusedSimpArgs false

end Go.Proofs.Ytdbbgmnjbkmjmaa.PFnExactRankField
