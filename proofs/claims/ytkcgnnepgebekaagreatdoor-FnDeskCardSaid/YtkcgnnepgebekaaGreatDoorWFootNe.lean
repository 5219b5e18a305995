-- out of what the kit's print.sh lays; theorems that this claim does not reach left out
import Derived.Test.YtkcgnnepgebekaaGreatDoorWN
namespace Go.Proofs.YtkcgnnepgebekaaGreatDoorW.PrintWords
open Go.RowKit
namespace Kd
section
variable {α : Type} {d : Kd α} {W : World} {g n : Nat} {S ok : Nat → Prop} {A : Option Addr} {ad : Addr} {xs : List α}
end
end Kd
end Go.Proofs.YtkcgnnepgebekaaGreatDoorW.PrintWords
