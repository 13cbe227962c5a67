/- The plain law of FnExactPolarityOf, joined from its facts. -/
import Derived.Test.YteicafpjkbajaaaKExactPolarityOfFall
namespace Go.Proofs.Yteicafpjkbajaaa.Pure
theorem FnExactPolarityOf : Go.Proofs.Yteicafpjkbajaaa.Print.laws_FnExactPolarityOf.Pure := Go.Proofs.Yteicafpjkbajaaa.Print.laws_FnExactPolarityOf.pure_
end Go.Proofs.Yteicafpjkbajaaa.Pure
