/- The law laws.FnLattice returns true for every list of bytes (of at most 2^47 bytes, as the reading has it). -/
import Derived.Test.YtabciloabpmklaaFFnLattice
namespace Go.Proofs.Ytabciloabpmklaa.Pure
open Go.Proofs.Ytabciloabpmklaa.PFnLattice
theorem FnLattice : laws_FnLattice.Pure := pure_FnLattice
end Go.Proofs.Ytabciloabpmklaa.Pure
