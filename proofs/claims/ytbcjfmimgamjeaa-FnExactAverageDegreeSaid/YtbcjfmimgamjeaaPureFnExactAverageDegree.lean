/- The plain law of FnExactAverageDegree, joined from its facts. -/
import Derived.Test.YtbcjfmimgamjeaaKExactAverageDegreeFall
namespace Go.Proofs.Ytbcjfmimgamjeaa.Pure
theorem FnExactAverageDegree : Go.Proofs.Ytbcjfmimgamjeaa.Print.laws_FnExactAverageDegree.Pure := Go.Proofs.Ytbcjfmimgamjeaa.Print.laws_FnExactAverageDegree.pure_
end Go.Proofs.Ytbcjfmimgamjeaa.Pure
