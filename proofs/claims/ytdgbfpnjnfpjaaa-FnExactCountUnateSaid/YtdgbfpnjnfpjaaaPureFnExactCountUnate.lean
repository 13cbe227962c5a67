/- The plain law of FnExactCountUnate, joined from its facts. -/
import Derived.Test.YtdgbfpnjnfpjaaaKExactCountUnateFall
namespace Go.Proofs.Ytdgbfpnjnfpjaaa.Pure
theorem FnExactCountUnate : Go.Proofs.Ytdgbfpnjnfpjaaa.Print.laws_FnExactCountUnate.Pure := Go.Proofs.Ytdgbfpnjnfpjaaa.Print.laws_FnExactCountUnate.pure_
end Go.Proofs.Ytdgbfpnjnfpjaaa.Pure
