/- The plain law of FnExactRepairSum, joined from its facts. -/
import Derived.Test.YtcelfhphmlhonaaKExactRepairSumFall
namespace Go.Proofs.Ytcelfhphmlhonaa.Pure
theorem FnExactRepairSum : Go.Proofs.Ytcelfhphmlhonaa.Print.laws_FnExactRepairSum.Pure := Go.Proofs.Ytcelfhphmlhonaa.Print.laws_FnExactRepairSum.pure_
end Go.Proofs.Ytcelfhphmlhonaa.Pure
