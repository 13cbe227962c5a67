/- The plain law of FnExactIsInvertible, joined from its facts. -/
import Derived.Test.YtdgbfpnjnfpjaaaKExactIsInvertibleFall
namespace Go.Proofs.Ytdgbfpnjnfpjaaa.Pure
theorem FnExactIsInvertible : Go.Proofs.Ytdgbfpnjnfpjaaa.Print.laws_FnExactIsInvertible.Pure := Go.Proofs.Ytdgbfpnjnfpjaaa.Print.laws_FnExactIsInvertible.pure_
end Go.Proofs.Ytdgbfpnjnfpjaaa.Pure
