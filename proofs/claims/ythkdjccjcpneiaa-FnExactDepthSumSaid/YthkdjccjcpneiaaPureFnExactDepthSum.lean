/- The plain law of FnExactDepthSum, joined from its facts. -/
import Derived.Test.YthkdjccjcpneiaaKExactDepthSumFall
namespace Go.Proofs.Ythkdjccjcpneiaa.Pure
theorem FnExactDepthSum : Go.Proofs.Ythkdjccjcpneiaa.Print.laws_FnExactDepthSum.Pure := Go.Proofs.Ythkdjccjcpneiaa.Print.laws_FnExactDepthSum.pure_
end Go.Proofs.Ythkdjccjcpneiaa.Pure
