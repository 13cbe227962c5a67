/- The plain law of FnExactPairBound, joined from its facts. -/
import Derived.Test.YteicafpjkbajaaaQFlawsFnExactPairBound
namespace Go.Proofs.Yteicafpjkbajaaa.Pure
theorem FnExactPairBound : Go.Proofs.Yteicafpjkbajaaa.Print.laws_FnExactPairBound.Pure := Go.Proofs.Yteicafpjkbajaaa.Print.laws_FnExactPairBound.pure_
end Go.Proofs.Yteicafpjkbajaaa.Pure
