/- The law laws.FnNames returns true for every list of bytes (of at most 2^47 bytes, as the reading has it). -/
import Derived.Test.YtabciloabpmklaaFFnNames
namespace Go.Proofs.Ytabciloabpmklaa.Pure
open Go.Proofs.Ytabciloabpmklaa.PFnNames
theorem FnNames : laws_FnNames.Pure := pure_FnNames
end Go.Proofs.Ytabciloabpmklaa.Pure
