/- The law laws.FnRanked over numbers: the ranks that are made from a field are a matrix, whose cells below the number of dots are the field. No further condition. -/
import Derived.Test.YtheihidfbalioaaFFnRanked
namespace Go.Proofs.Ytheihidfbalioaa.Pure
open Go.Proofs.Ytheihidfbalioaa.PFnRanked
theorem FnRanked : laws_FnRanked.Pure := pure_FnRanked
end Go.Proofs.Ytheihidfbalioaa.Pure
