-- out of what the kit's print.sh lays; theorems that this claim does not reach left out
import Derived.Test.YtkkcedkiohefmaaWWords
import Derived.Laws.StructEq
namespace Go.Proofs.YtkkcedkiohefmaaW.PrintWords
open Go.RowKit
section
variable {P : Program} {d : Nat} {xs ys : Array Value} {f : Field} {fs : List Field} {a b : Value} {r s : Bool} {w : World}
end
end Go.Proofs.YtkkcedkiohefmaaW.PrintWords
