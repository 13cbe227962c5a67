/- The plain law of FnExactIsSampleList, joined from its facts. -/
import Derived.Test.YteicafpjkbajaaaKExactIsSampleListFall
namespace Go.Proofs.Yteicafpjkbajaaa.Pure
theorem FnExactIsSampleList : Go.Proofs.Yteicafpjkbajaaa.Print.laws_FnExactIsSampleList.Pure := Go.Proofs.Yteicafpjkbajaaa.Print.laws_FnExactIsSampleList.pure_
end Go.Proofs.Yteicafpjkbajaaa.Pure
