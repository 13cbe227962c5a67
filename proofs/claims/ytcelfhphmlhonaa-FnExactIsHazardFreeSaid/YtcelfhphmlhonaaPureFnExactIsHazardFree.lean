/- The plain law of FnExactIsHazardFree, joined from its facts. -/
import Derived.Test.YtcelfhphmlhonaaKExactIsHazardFreeFall
namespace Go.Proofs.Ytcelfhphmlhonaa.Pure
theorem FnExactIsHazardFree : Go.Proofs.Ytcelfhphmlhonaa.Print.laws_FnExactIsHazardFree.Pure := Go.Proofs.Ytcelfhphmlhonaa.Print.laws_FnExactIsHazardFree.pure_
end Go.Proofs.Ytcelfhphmlhonaa.Pure
