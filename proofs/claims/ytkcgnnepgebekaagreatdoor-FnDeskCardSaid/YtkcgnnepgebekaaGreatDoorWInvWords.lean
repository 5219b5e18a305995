-- out of what the kit's print.sh lays; theorems that this claim does not reach left out
import Derived.Test.YtkcgnnepgebekaaGreatDoorWInv
import Derived.Test.YtkcgnnepgebekaaGreatDoorWFootNe
namespace Go.Proofs.YtkcgnnepgebekaaGreatDoorW.PrintWords
open Go.RowKit
end Go.Proofs.YtkcgnnepgebekaaGreatDoorW.PrintWords
namespace Go.Proofs.YtkcgnnepgebekaaGreatDoorW.PrintLast
section
variable {ops : Array Oper} {a : Act} {o og : Oper} {g : Nat} {t : Tmp} {u : Bool}
end
end Go.Proofs.YtkcgnnepgebekaaGreatDoorW.PrintLast
