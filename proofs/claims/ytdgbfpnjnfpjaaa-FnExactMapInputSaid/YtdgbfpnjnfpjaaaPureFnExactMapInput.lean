/- The plain law of FnExactMapInput, joined from its facts. -/
import Derived.Test.YtdgbfpnjnfpjaaaKExactMapInputFall
namespace Go.Proofs.Ytdgbfpnjnfpjaaa.Pure
theorem FnExactMapInput : Go.Proofs.Ytdgbfpnjnfpjaaa.Print.laws_FnExactMapInput.Pure := Go.Proofs.Ytdgbfpnjnfpjaaa.Print.laws_FnExactMapInput.pure_
end Go.Proofs.Ytdgbfpnjnfpjaaa.Pure
