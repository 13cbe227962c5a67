/- The plain law of FnExactAffineImage, joined from its facts. -/
import Derived.Test.YtdgbfpnjnfpjaaaKExactAffineImageFall
namespace Go.Proofs.Ytdgbfpnjnfpjaaa.Pure
theorem FnExactAffineImage : Go.Proofs.Ytdgbfpnjnfpjaaa.Print.laws_FnExactAffineImage.Pure := Go.Proofs.Ytdgbfpnjnfpjaaa.Print.laws_FnExactAffineImage.pure_
end Go.Proofs.Ytdgbfpnjnfpjaaa.Pure
