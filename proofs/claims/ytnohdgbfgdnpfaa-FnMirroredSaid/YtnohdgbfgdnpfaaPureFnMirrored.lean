/- A mirrored picture diffused by a mirrored kernel is the diffused picture mirrored, and as much is lost: over numbers alone. -/
import Derived.Test.YtnohdgbfgdnpfaaFFnMirrored
namespace Go.Proofs.Ytnohdgbfgdnpfaa.Pure
open Go.Proofs.Ytnohdgbfgdnpfaa.PFnMirrored
theorem FnMirrored : laws_FnMirrored.Pure := pure_FnMirrored
end Go.Proofs.Ytnohdgbfgdnpfaa.Pure
