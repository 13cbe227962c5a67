/- The plain law of FnExactLeavesOfProtocol, joined from its facts. -/
import Derived.Test.YtlcgappojmdgfaaKExactLeavesOfProtocolFall
namespace Go.Proofs.Ytlcgappojmdgfaa.Pure
theorem FnExactLeavesOfProtocol : Go.Proofs.Ytlcgappojmdgfaa.Print.laws_FnExactLeavesOfProtocol.Pure := Go.Proofs.Ytlcgappojmdgfaa.Print.laws_FnExactLeavesOfProtocol.pure_
end Go.Proofs.Ytlcgappojmdgfaa.Pure
