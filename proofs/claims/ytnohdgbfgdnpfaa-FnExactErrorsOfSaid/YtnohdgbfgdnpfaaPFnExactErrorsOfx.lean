/- Machine side of laws FnExactErrorsOf: written for this claim by the kit's print program under this session's wip/tools/mp_setup.py (with contracts of the session's own, wip/ext). -/
import Derived.Test.YtnohdgbfgdnpfaaPFnExactErrorsOfx0
import Derived.Test.YtnohdgbfgdnpfaaPFnExactErrorsOfx1
import Derived.Test.YtnohdgbfgdnpfaaPFnExactErrorsOfx2
import Derived.Test.YtnohdgbfgdnpfaaPFnExactErrorsOfx3
import Derived.Test.YtnohdgbfgdnpfaaPFnExactErrorsOfx4
import Derived.Test.YtnohdgbfgdnpfaaPFnExactErrorsOfx5
import Derived.Test.YtnohdgbfgdnpfaaPFnExactErrorsOfx6
import Derived.Test.YtnohdgbfgdnpfaaPFnExactErrorsOfx7
import Derived.Test.YtnohdgbfgdnpfaaPFnExactErrorsOfx8
import Derived.Test.YtnohdgbfgdnpfaaPFnExactErrorsOfx9
import Derived.Test.YtnohdgbfgdnpfaaPFnExactErrorsOfx10
namespace Go.Proofs.Ytnohdgbfgdnpfaa.PFnExactErrorsOf
open Go.RowKit Go.Proofs.YtnohdgbfgdnpfaaW.PrintWords Go.Proofs.YtnohdgbfgdnpfaaW.PrintLast Go.Proofs.YtnohdgbfgdnpfaaW.PrintMore
attribute [local go_sem] max2_int min2_int max_two min_two max_three min_three max_four min_four   -- for this text's walks alone
set_option linter.unusedVariables false
set_option linter.unusedSimpArgs false

end Go.Proofs.Ytnohdgbfgdnpfaa.PFnExactErrorsOf
