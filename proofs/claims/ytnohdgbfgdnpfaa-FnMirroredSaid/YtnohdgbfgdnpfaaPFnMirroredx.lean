/- Machine side of laws FnMirrored: written for this claim by the kit's print program under this session's wip/tools/mp_setup.py (with contracts of the session's own, wip/ext). -/
import Derived.Test.YtnohdgbfgdnpfaaPFnMirroredx0
import Derived.Test.YtnohdgbfgdnpfaaPFnMirroredx1
import Derived.Test.YtnohdgbfgdnpfaaPFnMirroredx2
import Derived.Test.YtnohdgbfgdnpfaaPFnMirroredx3
import Derived.Test.YtnohdgbfgdnpfaaPFnMirroredx4
import Derived.Test.YtnohdgbfgdnpfaaPFnMirroredx5
import Derived.Test.YtnohdgbfgdnpfaaPFnMirroredx6
import Derived.Test.YtnohdgbfgdnpfaaPFnMirroredx7
import Derived.Test.YtnohdgbfgdnpfaaPFnMirroredx8
import Derived.Test.YtnohdgbfgdnpfaaPFnMirroredx9
import Derived.Test.YtnohdgbfgdnpfaaPFnMirroredx10
import Derived.Test.YtnohdgbfgdnpfaaPFnMirroredx11
namespace Go.Proofs.Ytnohdgbfgdnpfaa.PFnMirrored
open Go.RowKit Go.Proofs.YtnohdgbfgdnpfaaW.PrintWords Go.Proofs.YtnohdgbfgdnpfaaW.PrintLast Go.Proofs.YtnohdgbfgdnpfaaW.PrintMore
attribute [local go_sem] max2_int min2_int max_two min_two max_three min_three max_four min_four   -- for this text's walks alone
set_option linter.unusedVariables false
set_option linter.unusedSimpArgs false

end Go.Proofs.Ytnohdgbfgdnpfaa.PFnMirrored
