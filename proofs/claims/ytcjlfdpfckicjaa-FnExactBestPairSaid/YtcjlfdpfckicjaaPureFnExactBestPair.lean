/- The plain law of FnExactBestPair, joined from its facts. -/
import Derived.Test.YtcjlfdpfckicjaaKExactBestPairFall
namespace Go.Proofs.Ytcjlfdpfckicjaa.Pure
theorem FnExactBestPair : Go.Proofs.Ytcjlfdpfckicjaa.Print.laws_FnExactBestPair.Pure := Go.Proofs.Ytcjlfdpfckicjaa.Print.laws_FnExactBestPair.pure_
end Go.Proofs.Ytcjlfdpfckicjaa.Pure
