/- The plain law of FnExactOnesInCubes, joined from its facts. -/
import Derived.Test.YtcelfhphmlhonaaKExactOnesInCubesFall
namespace Go.Proofs.Ytcelfhphmlhonaa.Pure
theorem FnExactOnesInCubes : Go.Proofs.Ytcelfhphmlhonaa.Print.laws_FnExactOnesInCubes.Pure := Go.Proofs.Ytcelfhphmlhonaa.Print.laws_FnExactOnesInCubes.pure_
end Go.Proofs.Ytcelfhphmlhonaa.Pure
