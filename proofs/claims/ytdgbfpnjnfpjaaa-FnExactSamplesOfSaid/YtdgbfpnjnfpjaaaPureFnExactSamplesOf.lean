/- The plain law of FnExactSamplesOf, joined from its facts. -/
import Derived.Test.YtdgbfpnjnfpjaaaKExactSamplesOfFall
namespace Go.Proofs.Ytdgbfpnjnfpjaaa.Pure
theorem FnExactSamplesOf : Go.Proofs.Ytdgbfpnjnfpjaaa.Print.laws_FnExactSamplesOf.Pure := Go.Proofs.Ytdgbfpnjnfpjaaa.Print.laws_FnExactSamplesOf.pure_
end Go.Proofs.Ytdgbfpnjnfpjaaa.Pure
