-- PRINTED BY print.sh 35421559b90ae4d0a3588c463048766b98c2df88dd9212a6774a882060cdf62d: not written by this session
import Derived.Test.YtkmicbnbclkkkaaDoorWInv
import Derived.Test.YtkmicbnbclkkkaaDoorWFootNe
namespace Go.Proofs.YtkmicbnbclkkkaaDoorW.PrintWords
open Go.RowKit
end Go.Proofs.YtkmicbnbclkkkaaDoorW.PrintWords
namespace Go.Proofs.YtkmicbnbclkkkaaDoorW.PrintLast
section
variable {ops : Array Oper} {a : Act} {o og : Oper} {g : Nat} {t : Tmp} {u : Bool}
end
end Go.Proofs.YtkmicbnbclkkkaaDoorW.PrintLast
