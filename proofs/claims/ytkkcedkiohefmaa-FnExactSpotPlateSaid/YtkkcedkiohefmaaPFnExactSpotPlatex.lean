/- Machine side of laws FnExactSpotPlate: written for this claim by the kit's print program under this session's wip/tools/mp_setup.py (with contracts of the session's own, wip/ext). -/
import Derived.Test.YtkkcedkiohefmaaPFnExactSpotPlatex0
import Derived.Test.YtkkcedkiohefmaaPFnExactSpotPlatex1
import Derived.Test.YtkkcedkiohefmaaPFnExactSpotPlatex2
import Derived.Test.YtkkcedkiohefmaaPFnExactSpotPlatex3
import Derived.Test.YtkkcedkiohefmaaPFnExactSpotPlatex4
import Derived.Test.YtkkcedkiohefmaaPFnExactSpotPlatex5
import Derived.Test.YtkkcedkiohefmaaPFnExactSpotPlatex6
import Derived.Test.YtkkcedkiohefmaaPFnExactSpotPlatex7
import Derived.Test.YtkkcedkiohefmaaPFnExactSpotPlatex8
import Derived.Test.YtkkcedkiohefmaaPFnExactSpotPlatex9
import Derived.Test.YtkkcedkiohefmaaPFnExactSpotPlatex10
import Derived.Test.YtkkcedkiohefmaaPFnExactSpotPlatex11
import Derived.Test.YtkkcedkiohefmaaPFnExactSpotPlatex12
import Derived.Test.YtkkcedkiohefmaaPFnExactSpotPlatex13
import Derived.Test.YtkkcedkiohefmaaPFnExactSpotPlatex14
namespace Go.Proofs.Ytkkcedkiohefmaa.PFnExactSpotPlate
open Go.RowKit Go.Proofs.YtkkcedkiohefmaaW.PrintWords Go.Proofs.YtkkcedkiohefmaaW.PrintLast Go.Proofs.YtkkcedkiohefmaaW.PrintMore
attribute [local go_sem] max2_int min2_int max_two min_two max_three min_three max_four min_four   -- for this text's walks alone
set_option linter.unusedVariables false
set_option linter.unusedSimpArgs false

end Go.Proofs.Ytkkcedkiohefmaa.PFnExactSpotPlate
