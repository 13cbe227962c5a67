/- The plain law of FnExactRunProtocol, joined from its facts. -/
import Derived.Test.YtlcgappojmdgfaaKExactRunProtocolFall
namespace Go.Proofs.Ytlcgappojmdgfaa.Pure
theorem FnExactRunProtocol : Go.Proofs.Ytlcgappojmdgfaa.Print.laws_FnExactRunProtocol.Pure := Go.Proofs.Ytlcgappojmdgfaa.Print.laws_FnExactRunProtocol.pure_
end Go.Proofs.Ytlcgappojmdgfaa.Pure
