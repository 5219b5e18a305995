-- out of what the kit's print.sh lays; theorems that this claim does not reach left out
import Derived.Test.YtkkcedkiohefmaaWWords
namespace Go.Proofs.YtkkcedkiohefmaaW.PrintWords
open Go.RowKit
section
variable {P : Program} {ops : Array Oper} {rest : List Oper} {o : Oper} {a : Act} {Q : Exit → Act → World → Prop} {W : World}
end
end Go.Proofs.YtkkcedkiohefmaaW.PrintWords
