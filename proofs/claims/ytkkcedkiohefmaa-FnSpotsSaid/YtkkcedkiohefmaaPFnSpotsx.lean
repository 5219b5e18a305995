/- Machine side of laws FnSpots: written for this claim by the kit's print program under this session's wip/tools/mp_setup.py (with contracts of the session's own, wip/ext). -/
import Derived.Test.YtkkcedkiohefmaaPFnSpotsx0
import Derived.Test.YtkkcedkiohefmaaPFnSpotsx1
import Derived.Test.YtkkcedkiohefmaaPFnSpotsx2
import Derived.Test.YtkkcedkiohefmaaPFnSpotsx3
import Derived.Test.YtkkcedkiohefmaaPFnSpotsx4
import Derived.Test.YtkkcedkiohefmaaPFnSpotsx5
import Derived.Test.YtkkcedkiohefmaaPFnSpotsx6
import Derived.Test.YtkkcedkiohefmaaPFnSpotsx7
import Derived.Test.YtkkcedkiohefmaaPFnSpotsx8
import Derived.Test.YtkkcedkiohefmaaPFnSpotsx9
import Derived.Test.YtkkcedkiohefmaaPFnSpotsx10
import Derived.Test.YtkkcedkiohefmaaPFnSpotsx11
namespace Go.Proofs.Ytkkcedkiohefmaa.PFnSpots
open Go.RowKit Go.Proofs.YtkkcedkiohefmaaW.PrintWords Go.Proofs.YtkkcedkiohefmaaW.PrintLast Go.Proofs.YtkkcedkiohefmaaW.PrintMore
attribute [local go_sem] max2_int min2_int max_two min_two max_three min_three max_four min_four   -- for this text's walks alone
set_option linter.unusedVariables false
set_option linter.unusedSimpArgs false

end Go.Proofs.Ytkkcedkiohefmaa.PFnSpots
