/- The plain law of FnExactFormatSum, joined from its facts. -/
import Derived.Test.YthkdjccjcpneiaaKExactFormatSumFall
namespace Go.Proofs.Ythkdjccjcpneiaa.Pure
theorem FnExactFormatSum : Go.Proofs.Ythkdjccjcpneiaa.Print.laws_FnExactFormatSum.Pure := Go.Proofs.Ythkdjccjcpneiaa.Print.laws_FnExactFormatSum.pure_
end Go.Proofs.Ythkdjccjcpneiaa.Pure
