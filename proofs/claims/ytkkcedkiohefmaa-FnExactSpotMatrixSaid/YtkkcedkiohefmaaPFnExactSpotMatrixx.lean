/- Machine side of laws FnExactSpotMatrix: written for this claim by the kit's print program under this session's wip/tools/mp_setup.py (with contracts of the session's own, wip/ext). -/
import Derived.Test.YtkkcedkiohefmaaPFnExactSpotMatrixx0
import Derived.Test.YtkkcedkiohefmaaPFnExactSpotMatrixx1
import Derived.Test.YtkkcedkiohefmaaPFnExactSpotMatrixx2
import Derived.Test.YtkkcedkiohefmaaPFnExactSpotMatrixx3
import Derived.Test.YtkkcedkiohefmaaPFnExactSpotMatrixx4
import Derived.Test.YtkkcedkiohefmaaPFnExactSpotMatrixx5
import Derived.Test.YtkkcedkiohefmaaPFnExactSpotMatrixx6
import Derived.Test.YtkkcedkiohefmaaPFnExactSpotMatrixx7
import Derived.Test.YtkkcedkiohefmaaPFnExactSpotMatrixx8
import Derived.Test.YtkkcedkiohefmaaPFnExactSpotMatrixx9
import Derived.Test.YtkkcedkiohefmaaPFnExactSpotMatrixx10
import Derived.Test.YtkkcedkiohefmaaPFnExactSpotMatrixx11
import Derived.Test.YtkkcedkiohefmaaPFnExactSpotMatrixx12
namespace Go.Proofs.Ytkkcedkiohefmaa.PFnExactSpotMatrix
open Go.RowKit Go.Proofs.YtkkcedkiohefmaaW.PrintWords Go.Proofs.YtkkcedkiohefmaaW.PrintLast Go.Proofs.YtkkcedkiohefmaaW.PrintMore
attribute [local go_sem] max2_int min2_int max_two min_two max_three min_three max_four min_four   -- for this text's walks alone
set_option linter.unusedVariables false
set_option linter.unusedSimpArgs false

end Go.Proofs.Ytkkcedkiohefmaa.PFnExactSpotMatrix
