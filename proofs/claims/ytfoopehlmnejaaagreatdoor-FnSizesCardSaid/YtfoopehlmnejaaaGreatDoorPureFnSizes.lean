/- The plain law of FnSizes, joined from its facts. -/
import Derived.Test.YtfoopehlmnejaaaGreatDoorKSizesFall
namespace Go.Proofs.YtfoopehlmnejaaaGreatDoor.Pure
theorem FnSizes : Go.Proofs.YtfoopehlmnejaaaGreatDoor.Print.laws_FnSizes.Pure := Go.Proofs.YtfoopehlmnejaaaGreatDoor.Print.laws_FnSizes.pure_
end Go.Proofs.YtfoopehlmnejaaaGreatDoor.Pure
