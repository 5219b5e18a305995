/- The law FnExactCrossPlates over numbers alone: it answers true. No further condition. -/
import Derived.Test.YtmahpennnnajcaaFFnExactCrossPlates
namespace Go.Proofs.Ytmahpennnnajcaa.Pure
open Go.Proofs.Ytmahpennnnajcaa.PFnExactCrossPlates
theorem FnExactCrossPlates : laws_FnExactCrossPlates.Pure := pure_FnExactCrossPlates
end Go.Proofs.Ytmahpennnnajcaa.Pure
