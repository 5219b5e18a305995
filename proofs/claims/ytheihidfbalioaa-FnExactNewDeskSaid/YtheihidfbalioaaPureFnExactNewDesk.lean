/- The law laws.FnExactNewDesk over numbers: it is computed. No further condition. -/
import Derived.Test.YtheihidfbalioaaFFnExactNewDesk
namespace Go.Proofs.Ytheihidfbalioaa.Pure
open Go.Proofs.Ytheihidfbalioaa.PFnExactNewDesk
theorem FnExactNewDesk : laws_FnExactNewDesk.Pure := pure_FnExactNewDesk
end Go.Proofs.Ytheihidfbalioaa.Pure
