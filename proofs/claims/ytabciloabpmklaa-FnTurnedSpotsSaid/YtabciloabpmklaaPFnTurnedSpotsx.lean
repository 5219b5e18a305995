/- Machine side of laws FnTurnedSpots: written for this claim by the kit's print program under this session's wip/tools/mp_setup.py (with contracts of the session's own, wip/ext). -/
import Derived.Test.YtabciloabpmklaaPFnTurnedSpotsx0
import Derived.Test.YtabciloabpmklaaPFnTurnedSpotsx1
import Derived.Test.YtabciloabpmklaaPFnTurnedSpotsx2
import Derived.Test.YtabciloabpmklaaPFnTurnedSpotsx3
import Derived.Test.YtabciloabpmklaaPFnTurnedSpotsx4
namespace Go.Proofs.Ytabciloabpmklaa.PFnTurnedSpots
open Go.RowKit Go.Proofs.YtabciloabpmklaaW.PrintWords Go.Proofs.YtabciloabpmklaaW.PrintLast Go.Proofs.YtabciloabpmklaaW.PrintMore
attribute [local go_sem] max2_int min2_int max_two min_two max_three min_three max_four min_four   -- for this text's walks alone
set_option linter.unusedVariables false
set_option linter.unusedSimpArgs false

end Go.Proofs.Ytabciloabpmklaa.PFnTurnedSpots
