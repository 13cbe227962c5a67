/- The plain law of FnThreshold, joined from its facts. -/
import Derived.Test.YtloekoepknfodaaKThresholdFall
namespace Go.Proofs.Ytloekoepknfodaa.Pure
theorem FnThreshold : Go.Proofs.Ytloekoepknfodaa.Print.laws_FnThreshold.Pure := Go.Proofs.Ytloekoepknfodaa.Print.laws_FnThreshold.pure_
end Go.Proofs.Ytloekoepknfodaa.Pure
