-- out of what the kit's print.sh lays; theorems that this claim does not reach left out
import Derived.Test.YtkkcedkiohefmaaWInv
import Derived.Test.YtkkcedkiohefmaaWFootNe
namespace Go.Proofs.YtkkcedkiohefmaaW.PrintWords
open Go.RowKit
end Go.Proofs.YtkkcedkiohefmaaW.PrintWords
namespace Go.Proofs.YtkkcedkiohefmaaW.PrintLast
section
variable {ops : Array Oper} {a : Act} {o og : Oper} {g : Nat} {t : Tmp} {u : Bool}
end
end Go.Proofs.YtkkcedkiohefmaaW.PrintLast
