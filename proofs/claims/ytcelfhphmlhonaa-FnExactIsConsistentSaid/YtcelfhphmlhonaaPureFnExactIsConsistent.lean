/- The plain law of FnExactIsConsistent, joined from its facts. -/
import Derived.Test.YtcelfhphmlhonaaKExactIsConsistentFall
namespace Go.Proofs.Ytcelfhphmlhonaa.Pure
theorem FnExactIsConsistent : Go.Proofs.Ytcelfhphmlhonaa.Print.laws_FnExactIsConsistent.Pure := Go.Proofs.Ytcelfhphmlhonaa.Print.laws_FnExactIsConsistent.pure_
end Go.Proofs.Ytcelfhphmlhonaa.Pure
