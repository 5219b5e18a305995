/- Machine side of laws FnCausal: written for this claim by the kit's print program under this session's wip/tools/mp_setup.py (with contracts of the session's own, wip/ext). -/
import Derived.Test.YtnohdgbfgdnpfaaPFnCausalx0
import Derived.Test.YtnohdgbfgdnpfaaPFnCausalx1
import Derived.Test.YtnohdgbfgdnpfaaPFnCausalx2
import Derived.Test.YtnohdgbfgdnpfaaPFnCausalx3
import Derived.Test.YtnohdgbfgdnpfaaPFnCausalx4
import Derived.Test.YtnohdgbfgdnpfaaPFnCausalx5
import Derived.Test.YtnohdgbfgdnpfaaPFnCausalx6
import Derived.Test.YtnohdgbfgdnpfaaPFnCausalx7
import Derived.Test.YtnohdgbfgdnpfaaPFnCausalx8
import Derived.Test.YtnohdgbfgdnpfaaPFnCausalx9
import Derived.Test.YtnohdgbfgdnpfaaPFnCausalx10
import Derived.Test.YtnohdgbfgdnpfaaPFnCausalx11
import Derived.Test.YtnohdgbfgdnpfaaPFnCausalx12
namespace Go.Proofs.Ytnohdgbfgdnpfaa.PFnCausal
open Go.RowKit Go.Proofs.YtnohdgbfgdnpfaaW.PrintWords Go.Proofs.YtnohdgbfgdnpfaaW.PrintLast Go.Proofs.YtnohdgbfgdnpfaaW.PrintMore
attribute [local go_sem] max2_int min2_int max_two min_two max_three min_three max_four min_four   -- for this text's walks alone
set_option linter.unusedVariables false
set_option linter.unusedSimpArgs false

end Go.Proofs.Ytnohdgbfgdnpfaa.PFnCausal
