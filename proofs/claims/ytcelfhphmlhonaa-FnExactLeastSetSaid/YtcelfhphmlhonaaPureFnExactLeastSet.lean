/- The plain law of FnExactLeastSet, joined from its facts. -/
import Derived.Test.YtcelfhphmlhonaaKExactLeastSetFall
namespace Go.Proofs.Ytcelfhphmlhonaa.Pure
theorem FnExactLeastSet : Go.Proofs.Ytcelfhphmlhonaa.Print.laws_FnExactLeastSet.Pure := Go.Proofs.Ytcelfhphmlhonaa.Print.laws_FnExactLeastSet.pure_
end Go.Proofs.Ytcelfhphmlhonaa.Pure
