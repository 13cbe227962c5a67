/- The plain law of FnExactSizesOf, joined from its facts. -/
import Derived.Test.YtpnbeonpicekhaaKExactSizesOfFall
namespace Go.Proofs.Ytpnbeonpicekhaa.Pure
theorem FnExactSizesOf : Go.Proofs.Ytpnbeonpicekhaa.Print.laws_FnExactSizesOf.Pure := Go.Proofs.Ytpnbeonpicekhaa.Print.laws_FnExactSizesOf.pure_
end Go.Proofs.Ytpnbeonpicekhaa.Pure
