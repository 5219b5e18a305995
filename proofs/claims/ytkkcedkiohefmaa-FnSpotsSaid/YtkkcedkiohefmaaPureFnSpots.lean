/- The law FnSpots over numbers alone: it answers true. No further condition. -/
import Derived.Test.YtkkcedkiohefmaaFFnSpots
namespace Go.Proofs.Ytkkcedkiohefmaa.Pure
open Go.Proofs.Ytkkcedkiohefmaa.PFnSpots
theorem FnSpots : laws_FnSpots.Pure := pure_FnSpots
end Go.Proofs.Ytkkcedkiohefmaa.Pure
