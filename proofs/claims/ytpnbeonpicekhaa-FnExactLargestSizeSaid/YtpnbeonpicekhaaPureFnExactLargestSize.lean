/- The plain law of FnExactLargestSize, joined from its facts. -/
import Derived.Test.YtpnbeonpicekhaaKExactLargestSizeFall
namespace Go.Proofs.Ytpnbeonpicekhaa.Pure
theorem FnExactLargestSize : Go.Proofs.Ytpnbeonpicekhaa.Print.laws_FnExactLargestSize.Pure := Go.Proofs.Ytpnbeonpicekhaa.Print.laws_FnExactLargestSize.pure_
end Go.Proofs.Ytpnbeonpicekhaa.Pure
