/- The plain law of FnExactCountOfSize, joined from its facts. -/
import Derived.Test.YtpnbeonpicekhaaKExactCountOfSizeFall
namespace Go.Proofs.Ytpnbeonpicekhaa.Pure
theorem FnExactCountOfSize : Go.Proofs.Ytpnbeonpicekhaa.Print.laws_FnExactCountOfSize.Pure := Go.Proofs.Ytpnbeonpicekhaa.Print.laws_FnExactCountOfSize.pure_
end Go.Proofs.Ytpnbeonpicekhaa.Pure
