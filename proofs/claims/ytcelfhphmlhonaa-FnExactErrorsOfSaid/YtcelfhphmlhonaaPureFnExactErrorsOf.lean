/- The plain law of FnExactErrorsOf, joined from its facts. -/
import Derived.Test.YtcelfhphmlhonaaKExactErrorsOfFall
namespace Go.Proofs.Ytcelfhphmlhonaa.Pure
theorem FnExactErrorsOf : Go.Proofs.Ytcelfhphmlhonaa.Print.laws_FnExactErrorsOf.Pure := Go.Proofs.Ytcelfhphmlhonaa.Print.laws_FnExactErrorsOf.pure_
end Go.Proofs.Ytcelfhphmlhonaa.Pure
