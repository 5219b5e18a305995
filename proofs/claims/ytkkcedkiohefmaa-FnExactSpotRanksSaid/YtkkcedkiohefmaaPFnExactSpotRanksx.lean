/- Machine side of laws FnExactSpotRanks: written for this claim by the kit's print program under this session's wip/tools/mp_setup.py (with contracts of the session's own, wip/ext). -/
import Derived.Test.YtkkcedkiohefmaaPFnExactSpotRanksx0
import Derived.Test.YtkkcedkiohefmaaPFnExactSpotRanksx1
import Derived.Test.YtkkcedkiohefmaaPFnExactSpotRanksx2
import Derived.Test.YtkkcedkiohefmaaPFnExactSpotRanksx3
import Derived.Test.YtkkcedkiohefmaaPFnExactSpotRanksx4
import Derived.Test.YtkkcedkiohefmaaPFnExactSpotRanksx5
import Derived.Test.YtkkcedkiohefmaaPFnExactSpotRanksx6
import Derived.Test.YtkkcedkiohefmaaPFnExactSpotRanksx7
namespace Go.Proofs.Ytkkcedkiohefmaa.PFnExactSpotRanks
open Go.RowKit Go.Proofs.YtkkcedkiohefmaaW.PrintWords Go.Proofs.YtkkcedkiohefmaaW.PrintLast Go.Proofs.YtkkcedkiohefmaaW.PrintMore
attribute [local go_sem] max2_int min2_int max_two min_two max_three min_three max_four min_four   -- for this text's walks alone
set_option linter.unusedVariables false
set_option linter.unusedSimpArgs false

end Go.Proofs.Ytkkcedkiohefmaa.PFnExactSpotRanks
