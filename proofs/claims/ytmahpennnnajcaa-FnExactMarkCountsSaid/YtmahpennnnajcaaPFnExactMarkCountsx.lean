/- Machine side of laws FnExactMarkCounts: written for this claim by the kit's print program under this session's wip/tools/mp_setup.py (with contracts of the session's own, wip/ext). -/
import Derived.Test.YtmahpennnnajcaaPFnExactMarkCountsx0
import Derived.Test.YtmahpennnnajcaaPFnExactMarkCountsx1
import Derived.Test.YtmahpennnnajcaaPFnExactMarkCountsx2
import Derived.Test.YtmahpennnnajcaaPFnExactMarkCountsx3
import Derived.Test.YtmahpennnnajcaaPFnExactMarkCountsx4
import Derived.Test.YtmahpennnnajcaaPFnExactMarkCountsx5
import Derived.Test.YtmahpennnnajcaaPFnExactMarkCountsx6
namespace Go.Proofs.Ytmahpennnnajcaa.PFnExactMarkCounts
open Go.RowKit Go.Proofs.YtmahpennnnajcaaW.PrintWords Go.Proofs.YtmahpennnnajcaaW.PrintLast Go.Proofs.YtmahpennnnajcaaW.PrintMore
attribute [local go_sem] max2_int min2_int max_two min_two max_three min_three max_four min_four   -- for this text's walks alone
set_option linter.unusedVariables false
set_option linter.unusedSimpArgs false

end Go.Proofs.Ytmahpennnnajcaa.PFnExactMarkCounts
