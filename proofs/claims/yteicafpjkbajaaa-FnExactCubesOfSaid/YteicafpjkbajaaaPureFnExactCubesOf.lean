/- The plain law of FnExactCubesOf, joined from its facts. -/
import Derived.Test.YteicafpjkbajaaaQFlawsFnExactCubesOf
namespace Go.Proofs.Yteicafpjkbajaaa.Pure
theorem FnExactCubesOf : Go.Proofs.Yteicafpjkbajaaa.Print.laws_FnExactCubesOf.Pure := Go.Proofs.Yteicafpjkbajaaa.Print.laws_FnExactCubesOf.pure_
end Go.Proofs.Yteicafpjkbajaaa.Pure
