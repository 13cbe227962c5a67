/- The plain law of FnExactTableBound, joined from its facts. -/
import Derived.Test.YtcjlfdpfckicjaaKExactTableBoundFall
namespace Go.Proofs.Ytcjlfdpfckicjaa.Pure
theorem FnExactTableBound : Go.Proofs.Ytcjlfdpfckicjaa.Print.laws_FnExactTableBound.Pure := Go.Proofs.Ytcjlfdpfckicjaa.Print.laws_FnExactTableBound.pure_
end Go.Proofs.Ytcjlfdpfckicjaa.Pure
