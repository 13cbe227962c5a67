/- The plain law of FnRandom, joined from its facts. -/
import Derived.Test.YthekbiofjhkecaaKRandomFall
namespace Go.Proofs.Ythekbiofjhkecaa.Pure
theorem FnRandom : Go.Proofs.Ythekbiofjhkecaa.Print.laws_FnRandom.Pure := Go.Proofs.Ythekbiofjhkecaa.Print.laws_FnRandom.pure_
end Go.Proofs.Ythekbiofjhkecaa.Pure
