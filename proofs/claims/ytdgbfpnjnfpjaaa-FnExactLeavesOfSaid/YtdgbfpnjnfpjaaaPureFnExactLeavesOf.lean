/- The plain law of FnExactLeavesOf, joined from its facts. -/
import Derived.Test.YtdgbfpnjnfpjaaaKExactLeavesOfFall
namespace Go.Proofs.Ytdgbfpnjnfpjaaa.Pure
theorem FnExactLeavesOf : Go.Proofs.Ytdgbfpnjnfpjaaa.Print.laws_FnExactLeavesOf.Pure := Go.Proofs.Ytdgbfpnjnfpjaaa.Print.laws_FnExactLeavesOf.pure_
end Go.Proofs.Ytdgbfpnjnfpjaaa.Pure
