/- The upper rows of a diffused picture are those of its upper rows diffused, and a picture of one row is the same whether it alternates or not: over numbers alone. -/
import Derived.Test.YtnohdgbfgdnpfaaFFnCausal
namespace Go.Proofs.Ytnohdgbfgdnpfaa.Pure
open Go.Proofs.Ytnohdgbfgdnpfaa.PFnCausal
theorem FnCausal : laws_FnCausal.Pure := pure_FnCausal
end Go.Proofs.Ytnohdgbfgdnpfaa.Pure
