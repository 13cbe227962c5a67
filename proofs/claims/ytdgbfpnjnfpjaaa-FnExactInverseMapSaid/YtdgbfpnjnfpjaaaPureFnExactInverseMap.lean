/- The plain law of FnExactInverseMap, joined from its facts. -/
import Derived.Test.YtdgbfpnjnfpjaaaKExactInverseMapFall
namespace Go.Proofs.Ytdgbfpnjnfpjaaa.Pure
theorem FnExactInverseMap : Go.Proofs.Ytdgbfpnjnfpjaaa.Print.laws_FnExactInverseMap.Pure := Go.Proofs.Ytdgbfpnjnfpjaaa.Print.laws_FnExactInverseMap.pure_
end Go.Proofs.Ytdgbfpnjnfpjaaa.Pure
