/- The law FnExactParseDots over numbers and bytes: handed on to its row. -/
import Derived.Test.YtjonhedjfablbaaFFnExactParseDots
namespace Go.Proofs.Ytjonhedjfablbaa.Pure
open Go.Proofs.Ytjonhedjfablbaa.PFnExactParseDots
theorem FnExactParseDots : laws_FnExactParseDots.Pure := pure_FnExactParseDots
end Go.Proofs.Ytjonhedjfablbaa.Pure
