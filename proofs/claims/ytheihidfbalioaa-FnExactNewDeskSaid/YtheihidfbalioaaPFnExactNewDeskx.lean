/- Machine side of laws FnExactNewDesk: written for this claim by the kit's print program under this session's wip/tools/mp_setup.py (with contracts of the session's own, wip/ext). -/
import Derived.Test.YtheihidfbalioaaPFnExactNewDeskx0
import Derived.Test.YtheihidfbalioaaPFnExactNewDeskx1
import Derived.Test.YtheihidfbalioaaPFnExactNewDeskx2
import Derived.Test.YtheihidfbalioaaPFnExactNewDeskx3
import Derived.Test.YtheihidfbalioaaPFnExactNewDeskx4
namespace Go.Proofs.Ytheihidfbalioaa.PFnExactNewDesk
open Go.RowKit Go.Proofs.YtheihidfbalioaaW.PrintWords Go.Proofs.YtheihidfbalioaaW.PrintLast Go.Proofs.YtheihidfbalioaaW.PrintMore
attribute [local go_sem] max2_int min2_int max_two min_two max_three min_three max_four min_four   -- for this text's walks alone
set_option linter.unusedVariables false
set_option linter.unusedSimpArgs false

end Go.Proofs.Ytheihidfbalioaa.PFnExactNewDesk
