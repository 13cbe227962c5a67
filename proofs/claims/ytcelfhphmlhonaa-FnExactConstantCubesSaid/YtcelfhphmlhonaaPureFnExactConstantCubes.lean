/- The plain law of FnExactConstantCubes, joined from its facts. -/
import Derived.Test.YtcelfhphmlhonaaKExactConstantCubesFall
namespace Go.Proofs.Ytcelfhphmlhonaa.Pure
theorem FnExactConstantCubes : Go.Proofs.Ytcelfhphmlhonaa.Print.laws_FnExactConstantCubes.Pure := Go.Proofs.Ytcelfhphmlhonaa.Print.laws_FnExactConstantCubes.pure_
end Go.Proofs.Ytcelfhphmlhonaa.Pure
