/- Machine side of laws FnExactDeskOk: written for this claim by the kit's print program under this session's wip/tools/mp_setup.py (with contracts of the session's own, wip/ext). -/
import Derived.Test.YtheihidfbalioaaPFnExactDeskOkx0
import Derived.Test.YtheihidfbalioaaPFnExactDeskOkx1
import Derived.Test.YtheihidfbalioaaPFnExactDeskOkx2
import Derived.Test.YtheihidfbalioaaPFnExactDeskOkx3
import Derived.Test.YtheihidfbalioaaPFnExactDeskOkx4
import Derived.Test.YtheihidfbalioaaPFnExactDeskOkx5
import Derived.Test.YtheihidfbalioaaPFnExactDeskOkx6
import Derived.Test.YtheihidfbalioaaPFnExactDeskOkx7
import Derived.Test.YtheihidfbalioaaPFnExactDeskOkx8
import Derived.Test.YtheihidfbalioaaPFnExactDeskOkx9
namespace Go.Proofs.Ytheihidfbalioaa.PFnExactDeskOk
open Go.RowKit Go.Proofs.YtheihidfbalioaaW.PrintWords Go.Proofs.YtheihidfbalioaaW.PrintLast Go.Proofs.YtheihidfbalioaaW.PrintMore
attribute [local go_sem] max2_int min2_int max_two min_two max_three min_three max_four min_four   -- for this text's walks alone
set_option linter.unusedVariables false
set_option linter.unusedSimpArgs false

end Go.Proofs.Ytheihidfbalioaa.PFnExactDeskOk
