/- The law laws.FnExchanged returns true for every list of bytes (of at most 2^47 bytes, as the reading has it). -/
import Derived.Test.YtabciloabpmklaaFFnExchanged
namespace Go.Proofs.Ytabciloabpmklaa.Pure
open Go.Proofs.Ytabciloabpmklaa.PFnExchanged
theorem FnExchanged : laws_FnExchanged.Pure := pure_FnExchanged
end Go.Proofs.Ytabciloabpmklaa.Pure
