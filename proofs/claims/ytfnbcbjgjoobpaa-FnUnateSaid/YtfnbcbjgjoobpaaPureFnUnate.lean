/- The plain law of FnUnate, joined from its facts. -/
import Derived.Test.YtfnbcbjgjoobpaaKUnateFall
namespace Go.Proofs.Ytfnbcbjgjoobpaa.Pure
theorem FnUnate : Go.Proofs.Ytfnbcbjgjoobpaa.Print.laws_FnUnate.Pure := Go.Proofs.Ytfnbcbjgjoobpaa.Print.laws_FnUnate.pure_
end Go.Proofs.Ytfnbcbjgjoobpaa.Pure
