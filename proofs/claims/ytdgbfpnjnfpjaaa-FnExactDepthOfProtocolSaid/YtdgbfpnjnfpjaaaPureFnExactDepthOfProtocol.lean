/- The plain law of FnExactDepthOfProtocol, joined from its facts. -/
import Derived.Test.YtdgbfpnjnfpjaaaKExactDepthOfProtocolFall
namespace Go.Proofs.Ytdgbfpnjnfpjaaa.Pure
theorem FnExactDepthOfProtocol : Go.Proofs.Ytdgbfpnjnfpjaaa.Print.laws_FnExactDepthOfProtocol.Pure := Go.Proofs.Ytdgbfpnjnfpjaaa.Print.laws_FnExactDepthOfProtocol.pure_
end Go.Proofs.Ytdgbfpnjnfpjaaa.Pure
