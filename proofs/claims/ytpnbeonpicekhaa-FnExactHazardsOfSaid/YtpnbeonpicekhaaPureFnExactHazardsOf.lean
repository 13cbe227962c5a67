/- The plain law of FnExactHazardsOf, joined from its facts. -/
import Derived.Test.YtpnbeonpicekhaaKExactHazardsOfFall
namespace Go.Proofs.Ytpnbeonpicekhaa.Pure
theorem FnExactHazardsOf : Go.Proofs.Ytpnbeonpicekhaa.Print.laws_FnExactHazardsOf.Pure := Go.Proofs.Ytpnbeonpicekhaa.Print.laws_FnExactHazardsOf.pure_
end Go.Proofs.Ytpnbeonpicekhaa.Pure
