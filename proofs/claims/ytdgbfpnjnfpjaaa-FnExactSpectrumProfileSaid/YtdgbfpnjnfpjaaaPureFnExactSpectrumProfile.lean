/- The plain law of FnExactSpectrumProfile, joined from its facts. -/
import Derived.Test.YtdgbfpnjnfpjaaaKExactSpectrumProfileFall
namespace Go.Proofs.Ytdgbfpnjnfpjaaa.Pure
theorem FnExactSpectrumProfile : Go.Proofs.Ytdgbfpnjnfpjaaa.Print.laws_FnExactSpectrumProfile.Pure := Go.Proofs.Ytdgbfpnjnfpjaaa.Print.laws_FnExactSpectrumProfile.pure_
end Go.Proofs.Ytdgbfpnjnfpjaaa.Pure
