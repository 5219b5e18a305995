/- The law laws.FnEvened over numbers: a field that is evened out keeps its dots, and a further step changes nothing if the steps ended early. No further condition. -/
import Derived.Test.YtheihidfbalioaaFFnEvened
namespace Go.Proofs.Ytheihidfbalioaa.Pure
open Go.Proofs.Ytheihidfbalioaa.PFnEvened
theorem FnEvened : laws_FnEvened.Pure := pure_FnEvened
end Go.Proofs.Ytheihidfbalioaa.Pure
