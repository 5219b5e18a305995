/- The law laws.FnOverprint over numbers: plates of columns and rows share their dots as the product of their shares. No further condition. -/
import Derived.Test.YtheihidfbalioaaFFnOverprint
namespace Go.Proofs.Ytheihidfbalioaa.Pure
open Go.Proofs.Ytheihidfbalioaa.PFnOverprint
theorem FnOverprint : laws_FnOverprint.Pure := pure_FnOverprint
end Go.Proofs.Ytheihidfbalioaa.Pure
