/- The law laws.FnMarks over numbers: the marks of a stack count every point once, and those with a plate in them count its dots. No further condition. -/
import Derived.Test.YtheihidfbalioaaFFnMarks
namespace Go.Proofs.Ytheihidfbalioaa.Pure
open Go.Proofs.Ytheihidfbalioaa.PFnMarks
theorem FnMarks : laws_FnMarks.Pure := pure_FnMarks
end Go.Proofs.Ytheihidfbalioaa.Pure
