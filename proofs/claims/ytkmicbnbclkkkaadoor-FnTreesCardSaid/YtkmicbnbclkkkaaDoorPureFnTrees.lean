/- The plain law of FnTrees, joined from its facts. -/
import Derived.Test.YtkmicbnbclkkkaaDoorKTreesFall
namespace Go.Proofs.YtkmicbnbclkkkaaDoor.Pure
theorem FnTrees : Go.Proofs.YtkmicbnbclkkkaaDoor.Print.laws_FnTrees.Pure := Go.Proofs.YtkmicbnbclkkkaaDoor.Print.laws_FnTrees.pure_
end Go.Proofs.YtkmicbnbclkkkaaDoor.Pure
