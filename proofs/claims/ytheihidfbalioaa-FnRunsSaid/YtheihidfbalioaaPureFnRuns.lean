/- The law laws.FnRuns over numbers: the runs of a plate give it back and add up to its points, and every second one is a run of dots. No further condition. -/
import Derived.Test.YtheihidfbalioaaFFnRuns
namespace Go.Proofs.Ytheihidfbalioaa.Pure
open Go.Proofs.Ytheihidfbalioaa.PFnRuns
theorem FnRuns : laws_FnRuns.Pure := pure_FnRuns
end Go.Proofs.Ytheihidfbalioaa.Pure
