/- The plain law of FnAffine, joined from its facts. -/
import Derived.Test.YtodfifkgohjpfaaKAffineFall
namespace Go.Proofs.Ytodfifkgohjpfaa.Pure
theorem FnAffine : Go.Proofs.Ytodfifkgohjpfaa.Print.laws_FnAffine.Pure := Go.Proofs.Ytodfifkgohjpfaa.Print.laws_FnAffine.pure_
end Go.Proofs.Ytodfifkgohjpfaa.Pure
