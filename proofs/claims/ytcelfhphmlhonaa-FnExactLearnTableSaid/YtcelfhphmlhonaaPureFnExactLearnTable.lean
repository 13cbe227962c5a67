/- The plain law of FnExactLearnTable, joined from its facts. -/
import Derived.Test.YtcelfhphmlhonaaKExactLearnTableFall
namespace Go.Proofs.Ytcelfhphmlhonaa.Pure
theorem FnExactLearnTable : Go.Proofs.Ytcelfhphmlhonaa.Print.laws_FnExactLearnTable.Pure := Go.Proofs.Ytcelfhphmlhonaa.Print.laws_FnExactLearnTable.pure_
end Go.Proofs.Ytcelfhphmlhonaa.Pure
