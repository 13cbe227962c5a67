/- The plain law of FnExactCountInvertible, joined from its facts. -/
import Derived.Test.YteicafpjkbajaaaQFlawsFnExactCountInvertible
namespace Go.Proofs.Yteicafpjkbajaaa.Pure
theorem FnExactCountInvertible : Go.Proofs.Yteicafpjkbajaaa.Print.laws_FnExactCountInvertible.Pure := Go.Proofs.Yteicafpjkbajaaa.Print.laws_FnExactCountInvertible.pure_
end Go.Proofs.Yteicafpjkbajaaa.Pure
