/- The plain law of FnLearning, joined from its facts. -/
import Derived.Test.YtonaebjpnmiilaaKLearningFall
namespace Go.Proofs.Ytonaebjpnmiilaa.Pure
theorem FnLearning : Go.Proofs.Ytonaebjpnmiilaa.Print.laws_FnLearning.Pure := Go.Proofs.Ytonaebjpnmiilaa.Print.laws_FnLearning.pure_
end Go.Proofs.Ytonaebjpnmiilaa.Pure
