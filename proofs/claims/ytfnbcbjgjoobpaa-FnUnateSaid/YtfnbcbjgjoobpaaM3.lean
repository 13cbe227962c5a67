/- Lists that are copied cell by cell: no program in sight. -/
import Derived.Test.YtfnbcbjgjoobpaaM0
namespace Go.Proofs.Ytfnbcbjgjoobpaa.M
open Go.RowKit Go.Proofs.YtfnbcbjgjoobpaaW.PrintWords Go.Proofs.YtfnbcbjgjoobpaaW.PrintLast
set_option linter.unusedVariables false
set_option linter.unusedSimpArgs false

end Go.Proofs.Ytfnbcbjgjoobpaa.M
