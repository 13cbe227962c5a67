/- The plain law of FnExactHasHazard, joined from its facts. -/
import Derived.Test.YtcelfhphmlhonaaKExactHasHazardFall
namespace Go.Proofs.Ytcelfhphmlhonaa.Pure
theorem FnExactHasHazard : Go.Proofs.Ytcelfhphmlhonaa.Print.laws_FnExactHasHazard.Pure := Go.Proofs.Ytcelfhphmlhonaa.Print.laws_FnExactHasHazard.pure_
end Go.Proofs.Ytcelfhphmlhonaa.Pure
