/- The law laws.FnPlaced over numbers: each rank of a field is where the tightest dot, or the widest void, of the cells below it is. No further condition. -/
import Derived.Test.YtheihidfbalioaaFFnPlaced
namespace Go.Proofs.Ytheihidfbalioaa.Pure
open Go.Proofs.Ytheihidfbalioaa.PFnPlaced
theorem FnPlaced : laws_FnPlaced.Pure := pure_FnPlaced
end Go.Proofs.Ytheihidfbalioaa.Pure
