/- Machine side of laws FnExactCrossPlates: written for this claim by the kit's print program under this session's wip/tools/mp_setup.py (with contracts of the session's own, wip/ext). -/
import Derived.Test.YtmahpennnnajcaaPFnExactCrossPlatesx0
import Derived.Test.YtmahpennnnajcaaPFnExactCrossPlatesx1
import Derived.Test.YtmahpennnnajcaaPFnExactCrossPlatesx2
import Derived.Test.YtmahpennnnajcaaPFnExactCrossPlatesx3
import Derived.Test.YtmahpennnnajcaaPFnExactCrossPlatesx4
import Derived.Test.YtmahpennnnajcaaPFnExactCrossPlatesx5
import Derived.Test.YtmahpennnnajcaaPFnExactCrossPlatesx6
import Derived.Test.YtmahpennnnajcaaPFnExactCrossPlatesx7
namespace Go.Proofs.Ytmahpennnnajcaa.PFnExactCrossPlates
open Go.RowKit Go.Proofs.YtmahpennnnajcaaW.PrintWords Go.Proofs.YtmahpennnnajcaaW.PrintLast Go.Proofs.YtmahpennnnajcaaW.PrintMore
attribute [local go_sem] max2_int min2_int max_two min_two max_three min_three max_four min_four   -- for this text's walks alone
set_option linter.unusedVariables false
set_option linter.unusedSimpArgs false

end Go.Proofs.Ytmahpennnnajcaa.PFnExactCrossPlates
