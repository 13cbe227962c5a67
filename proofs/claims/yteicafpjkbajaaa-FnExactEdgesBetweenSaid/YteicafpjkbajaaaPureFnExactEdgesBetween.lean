/- The plain law of FnExactEdgesBetween, joined from its facts. -/
import Derived.Test.YteicafpjkbajaaaQFlawsFnExactEdgesBetween
namespace Go.Proofs.Yteicafpjkbajaaa.Pure
theorem FnExactEdgesBetween : Go.Proofs.Yteicafpjkbajaaa.Print.laws_FnExactEdgesBetween.Pure := Go.Proofs.Yteicafpjkbajaaa.Print.laws_FnExactEdgesBetween.pure_
end Go.Proofs.Yteicafpjkbajaaa.Pure
