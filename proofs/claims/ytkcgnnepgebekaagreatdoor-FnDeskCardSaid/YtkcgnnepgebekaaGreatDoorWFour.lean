-- out of what the kit's print.sh lays; theorems that this claim does not reach left out
import Derived.Test.YtkcgnnepgebekaaGreatDoorWTab
namespace Go.Proofs.YtkcgnnepgebekaaGreatDoorW.PrintLast
section
variable {P : Program} {ops : Array Oper} {Q : Exit → Act → World → Prop} {md : Region.Mode} {S : World → Prop} {ds : List Nat} {T : Bool × List (List Nat × List Nat)}
end
end Go.Proofs.YtkcgnnepgebekaaGreatDoorW.PrintLast
