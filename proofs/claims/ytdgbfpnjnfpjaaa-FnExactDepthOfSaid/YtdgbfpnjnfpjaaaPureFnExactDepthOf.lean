/- The plain law of FnExactDepthOf, joined from its facts. -/
import Derived.Test.YtdgbfpnjnfpjaaaKExactDepthOfFall
namespace Go.Proofs.Ytdgbfpnjnfpjaaa.Pure
theorem FnExactDepthOf : Go.Proofs.Ytdgbfpnjnfpjaaa.Print.laws_FnExactDepthOf.Pure := Go.Proofs.Ytdgbfpnjnfpjaaa.Print.laws_FnExactDepthOf.pure_
end Go.Proofs.Ytdgbfpnjnfpjaaa.Pure
