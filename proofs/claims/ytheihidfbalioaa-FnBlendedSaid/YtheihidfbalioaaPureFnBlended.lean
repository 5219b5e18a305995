/- The law laws.FnBlended over numbers: the blend of colors that are sums over the plates is the sum of the shares of the plates. No further condition. -/
import Derived.Test.YtheihidfbalioaaFFnBlended
namespace Go.Proofs.Ytheihidfbalioaa.Pure
open Go.Proofs.Ytheihidfbalioaa.PFnBlended
theorem FnBlended : laws_FnBlended.Pure := pure_FnBlended
end Go.Proofs.Ytheihidfbalioaa.Pure
