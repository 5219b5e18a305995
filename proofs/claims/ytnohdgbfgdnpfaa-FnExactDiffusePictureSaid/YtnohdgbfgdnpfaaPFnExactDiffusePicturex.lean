/- Machine side of laws FnExactDiffusePicture: written for this claim by the kit's print program under this session's wip/tools/mp_setup.py (with contracts of the session's own, wip/ext). -/
import Derived.Test.YtnohdgbfgdnpfaaPFnExactDiffusePicturex0
import Derived.Test.YtnohdgbfgdnpfaaPFnExactDiffusePicturex1
import Derived.Test.YtnohdgbfgdnpfaaPFnExactDiffusePicturex2
import Derived.Test.YtnohdgbfgdnpfaaPFnExactDiffusePicturex3
import Derived.Test.YtnohdgbfgdnpfaaPFnExactDiffusePicturex4
import Derived.Test.YtnohdgbfgdnpfaaPFnExactDiffusePicturex5
import Derived.Test.YtnohdgbfgdnpfaaPFnExactDiffusePicturex6
import Derived.Test.YtnohdgbfgdnpfaaPFnExactDiffusePicturex7
import Derived.Test.YtnohdgbfgdnpfaaPFnExactDiffusePicturex8
import Derived.Test.YtnohdgbfgdnpfaaPFnExactDiffusePicturex9
import Derived.Test.YtnohdgbfgdnpfaaPFnExactDiffusePicturex10
namespace Go.Proofs.Ytnohdgbfgdnpfaa.PFnExactDiffusePicture
open Go.RowKit Go.Proofs.YtnohdgbfgdnpfaaW.PrintWords Go.Proofs.YtnohdgbfgdnpfaaW.PrintLast Go.Proofs.YtnohdgbfgdnpfaaW.PrintMore
attribute [local go_sem] max2_int min2_int max_two min_two max_three min_three max_four min_four   -- for this text's walks alone
set_option linter.unusedVariables false
set_option linter.unusedSimpArgs false

end Go.Proofs.Ytnohdgbfgdnpfaa.PFnExactDiffusePicture
