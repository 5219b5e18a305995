/- Machine side of laws FnSpotMatrix: written for this claim by the kit's print program under this session's wip/tools/mp_setup.py (with contracts of the session's own, wip/ext). -/
import Derived.Test.YtkkcedkiohefmaaPFnSpotMatrixx0
import Derived.Test.YtkkcedkiohefmaaPFnSpotMatrixx1
import Derived.Test.YtkkcedkiohefmaaPFnSpotMatrixx2
import Derived.Test.YtkkcedkiohefmaaPFnSpotMatrixx3
import Derived.Test.YtkkcedkiohefmaaPFnSpotMatrixx4
import Derived.Test.YtkkcedkiohefmaaPFnSpotMatrixx5
import Derived.Test.YtkkcedkiohefmaaPFnSpotMatrixx6
import Derived.Test.YtkkcedkiohefmaaPFnSpotMatrixx7
import Derived.Test.YtkkcedkiohefmaaPFnSpotMatrixx8
import Derived.Test.YtkkcedkiohefmaaPFnSpotMatrixx9
import Derived.Test.YtkkcedkiohefmaaPFnSpotMatrixx10
import Derived.Test.YtkkcedkiohefmaaPFnSpotMatrixx11
import Derived.Test.YtkkcedkiohefmaaPFnSpotMatrixx12
import Derived.Test.YtkkcedkiohefmaaPFnSpotMatrixx13
namespace Go.Proofs.Ytkkcedkiohefmaa.PFnSpotMatrix
open Go.RowKit Go.Proofs.YtkkcedkiohefmaaW.PrintWords Go.Proofs.YtkkcedkiohefmaaW.PrintLast Go.Proofs.YtkkcedkiohefmaaW.PrintMore
attribute [local go_sem] max2_int min2_int max_two min_two max_three min_three max_four min_four   -- for this text's walks alone
set_option linter.unusedVariables false
set_option linter.unusedSimpArgs false

end Go.Proofs.Ytkkcedkiohefmaa.PFnSpotMatrix
