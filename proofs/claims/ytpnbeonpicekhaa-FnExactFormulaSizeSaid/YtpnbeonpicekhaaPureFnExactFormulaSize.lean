/- The plain law of FnExactFormulaSize, joined from its facts. -/
import Derived.Test.YtpnbeonpicekhaaKExactFormulaSizeFall
namespace Go.Proofs.Ytpnbeonpicekhaa.Pure
theorem FnExactFormulaSize : Go.Proofs.Ytpnbeonpicekhaa.Print.laws_FnExactFormulaSize.Pure := Go.Proofs.Ytpnbeonpicekhaa.Print.laws_FnExactFormulaSize.pure_
end Go.Proofs.Ytpnbeonpicekhaa.Pure
