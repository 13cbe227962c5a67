/- The plain law of FnExactUnateShift, joined from its facts. -/
import Derived.Test.YtcjlfdpfckicjaaKExactUnateShiftFall
namespace Go.Proofs.Ytcjlfdpfckicjaa.Pure
theorem FnExactUnateShift : Go.Proofs.Ytcjlfdpfckicjaa.Print.laws_FnExactUnateShift.Pure := Go.Proofs.Ytcjlfdpfckicjaa.Print.laws_FnExactUnateShift.pure_
end Go.Proofs.Ytcjlfdpfckicjaa.Pure
