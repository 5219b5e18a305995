-- out of what the kit's print.sh lays; theorems that this claim does not reach left out
import Derived.Test.YtnohdgbfgdnpfaaWInv
import Derived.Test.YtnohdgbfgdnpfaaWFootNe
namespace Go.Proofs.YtnohdgbfgdnpfaaW.PrintWords
open Go.RowKit
end Go.Proofs.YtnohdgbfgdnpfaaW.PrintWords
namespace Go.Proofs.YtnohdgbfgdnpfaaW.PrintLast
section
variable {ops : Array Oper} {a : Act} {o og : Oper} {g : Nat} {t : Tmp} {u : Bool}
end
end Go.Proofs.YtnohdgbfgdnpfaaW.PrintLast
