/- The plain law of FnExactConsistentSets, joined from its facts. -/
import Derived.Test.YtcelfhphmlhonaaKExactConsistentSetsFall
namespace Go.Proofs.Ytcelfhphmlhonaa.Pure
theorem FnExactConsistentSets : Go.Proofs.Ytcelfhphmlhonaa.Print.laws_FnExactConsistentSets.Pure := Go.Proofs.Ytcelfhphmlhonaa.Print.laws_FnExactConsistentSets.pure_
end Go.Proofs.Ytcelfhphmlhonaa.Pure
