/- The plain law of FnExactSmallestFormula, joined from its facts. -/
import Derived.Test.YtmdpjmcleckedaaDoorKExactSmallestFormulaFall
namespace Go.Proofs.YtmdpjmcleckedaaDoor.Pure
theorem FnExactSmallestFormula : Go.Proofs.YtmdpjmcleckedaaDoor.Print.laws_FnExactSmallestFormula.Pure := Go.Proofs.YtmdpjmcleckedaaDoor.Print.laws_FnExactSmallestFormula.pure_
end Go.Proofs.YtmdpjmcleckedaaDoor.Pure
