/- The plain law of FnExactDepthOfTree, joined from its facts. -/
import Derived.Test.YtbcjfmimgamjeaaKExactDepthOfTreeFall
namespace Go.Proofs.Ytbcjfmimgamjeaa.Pure
theorem FnExactDepthOfTree : Go.Proofs.Ytbcjfmimgamjeaa.Print.laws_FnExactDepthOfTree.Pure := Go.Proofs.Ytbcjfmimgamjeaa.Print.laws_FnExactDepthOfTree.pure_
end Go.Proofs.Ytbcjfmimgamjeaa.Pure
