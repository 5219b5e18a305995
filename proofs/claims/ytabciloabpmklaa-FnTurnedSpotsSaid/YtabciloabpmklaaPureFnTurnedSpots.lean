/- The law laws.FnTurnedSpots returns true for every list of bytes (of at most 2^47 bytes, as the reading has it). -/
import Derived.Test.YtabciloabpmklaaFFnTurnedSpots
namespace Go.Proofs.Ytabciloabpmklaa.Pure
open Go.Proofs.Ytabciloabpmklaa.PFnTurnedSpots
theorem FnTurnedSpots : laws_FnTurnedSpots.Pure := pure_FnTurnedSpots
end Go.Proofs.Ytabciloabpmklaa.Pure
