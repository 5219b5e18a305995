/- The law laws.FnDots over numbers: the text of a plate is read back, and a text that is cut is read only if it is one of a plate. No further condition. -/
import Derived.Test.YtheihidfbalioaaFFnDots
namespace Go.Proofs.Ytheihidfbalioaa.Pure
open Go.Proofs.Ytheihidfbalioaa.PFnDots
theorem FnDots : laws_FnDots.Pure := pure_FnDots
end Go.Proofs.Ytheihidfbalioaa.Pure
