/- The plain law of FnExactIsUnate, joined from its facts. -/
import Derived.Test.YtcjlfdpfckicjaaKExactIsUnateFall
namespace Go.Proofs.Ytcjlfdpfckicjaa.Pure
theorem FnExactIsUnate : Go.Proofs.Ytcjlfdpfckicjaa.Print.laws_FnExactIsUnate.Pure := Go.Proofs.Ytcjlfdpfckicjaa.Print.laws_FnExactIsUnate.pure_
end Go.Proofs.Ytcjlfdpfckicjaa.Pure
