/- The plain law of FnExactLeastBits, joined from its facts. -/
import Derived.Test.YthkdjccjcpneiaaKExactLeastBitsFall
namespace Go.Proofs.Ythkdjccjcpneiaa.Pure
theorem FnExactLeastBits : Go.Proofs.Ythkdjccjcpneiaa.Print.laws_FnExactLeastBits.Pure := Go.Proofs.Ythkdjccjcpneiaa.Print.laws_FnExactLeastBits.pure_
end Go.Proofs.Ythkdjccjcpneiaa.Pure
