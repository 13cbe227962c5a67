/- The plain law of FnExactIsSeparated, joined from its facts. -/
import Derived.Test.YteicafpjkbajaaaQFlawsFnExactIsSeparated
namespace Go.Proofs.Yteicafpjkbajaaa.Pure
theorem FnExactIsSeparated : Go.Proofs.Yteicafpjkbajaaa.Print.laws_FnExactIsSeparated.Pure := Go.Proofs.Yteicafpjkbajaaa.Print.laws_FnExactIsSeparated.pure_
end Go.Proofs.Yteicafpjkbajaaa.Pure
