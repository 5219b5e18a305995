/- The law laws.FnGrown over numbers: a plate lies between its shrunk and its grown one, shrinking it grows its negative, and the gain is bounded. No further condition. -/
import Derived.Test.YtheihidfbalioaaFFnGrown
namespace Go.Proofs.Ytheihidfbalioaa.Pure
open Go.Proofs.Ytheihidfbalioaa.PFnGrown
theorem FnGrown : laws_FnGrown.Pure := pure_FnGrown
end Go.Proofs.Ytheihidfbalioaa.Pure
