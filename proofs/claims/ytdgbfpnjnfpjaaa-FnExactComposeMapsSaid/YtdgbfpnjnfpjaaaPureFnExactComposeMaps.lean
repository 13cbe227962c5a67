/- The plain law of FnExactComposeMaps, joined from its facts. -/
import Derived.Test.YtdgbfpnjnfpjaaaKExactComposeMapsFall
namespace Go.Proofs.Ytdgbfpnjnfpjaaa.Pure
theorem FnExactComposeMaps : Go.Proofs.Ytdgbfpnjnfpjaaa.Print.laws_FnExactComposeMaps.Pure := Go.Proofs.Ytdgbfpnjnfpjaaa.Print.laws_FnExactComposeMaps.pure_
end Go.Proofs.Ytdgbfpnjnfpjaaa.Pure
