/- The law laws.FnCrowds over numbers: the crowds at all points add up to the dots times the weights of one point, and weights do not depend on the order. No further condition. -/
import Derived.Test.YtheihidfbalioaaFFnCrowds
namespace Go.Proofs.Ytheihidfbalioaa.Pure
open Go.Proofs.Ytheihidfbalioaa.PFnCrowds
theorem FnCrowds : laws_FnCrowds.Pure := pure_FnCrowds
end Go.Proofs.Ytheihidfbalioaa.Pure
