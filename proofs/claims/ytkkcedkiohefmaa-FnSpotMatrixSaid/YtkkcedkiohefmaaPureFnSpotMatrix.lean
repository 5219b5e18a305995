/- The law FnSpotMatrix over numbers alone: it answers true. No further condition. -/
import Derived.Test.YtkkcedkiohefmaaFFnSpotMatrix
namespace Go.Proofs.Ytkkcedkiohefmaa.Pure
open Go.Proofs.Ytkkcedkiohefmaa.PFnSpotMatrix
theorem FnSpotMatrix : laws_FnSpotMatrix.Pure := pure_FnSpotMatrix
end Go.Proofs.Ytkkcedkiohefmaa.Pure
