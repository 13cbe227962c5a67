/- Functions of the given program as plain Lean functions, with proofs that their calls compute them, or lemmas on these. Laid by a program of this repo for the seat Ytfnbcbjgjoobpaa; Lean checks it. -/
import Derived.Test.YtfnbcbjgjoobpaaProg
import Derived.Below
import Derived.Deep.Draws
import Derived.Deep.AppendLies
import Derived.Maps.AppendAt
import Derived.OwnWalk
import Derived.Laws.BytesArg
import Derived.Laws.MakeOwn
import Derived.Laws.OwnMore
import Derived.Deep.OwnRows
import Derived.Tactics
import Derived.Lib.ConvBytes
import Derived.Laws.Slices
import Derived.WalkKit
import Derived.KernelRfl
import Derived.RowKit3
import Derived.Deep.LoopGhost
import Derived.Deep.QuietTactic
import Derived.BigQuiet
import Derived.WideLaws
import Derived.Deep.DeepCutAuto
import Derived.Deep.CutBlock
import Derived.Deep.RegionHeld3
import Derived.Laws.Rows
import Derived.Lib.AppendStr
import Derived.ArgAppend
import Derived.Laws.IdiomCopy
import Derived.OrdersHeld
import Derived.Laws.BitsLemmas
import Derived.RowKit
import Derived.Test.YtfnbcbjgjoobpaaWWords
import Derived.Test.YtfnbcbjgjoobpaaWLast
import Derived.Test.YtfnbcbjgjoobpaaWTab
import Derived.Test.YtfnbcbjgjoobpaaWFour
import Derived.Test.YtfnbcbjgjoobpaaWQPut
import Derived.Test.YtfnbcbjgjoobpaaWApart
import Derived.Test.YtfnbcbjgjoobpaaWArr
import Derived.Test.YtfnbcbjgjoobpaaWZeros
import Derived.Test.YtfnbcbjgjoobpaaWFoot
import Derived.Test.YtfnbcbjgjoobpaaWKept
import Derived.Test.YtfnbcbjgjoobpaaWShare
import Derived.Test.YtfnbcbjgjoobpaaWN
import Derived.Test.YtfnbcbjgjoobpaaWFootNe
import Derived.Test.YtfnbcbjgjoobpaaWAt
import Derived.Test.YtfnbcbjgjoobpaaWEqStruct
import Derived.Test.YtfnbcbjgjoobpaaWRepsOne
import Derived.Test.YtfnbcbjgjoobpaaWInv
import Derived.Test.YtfnbcbjgjoobpaaWInvWords
import Derived.Test.YtfnbcbjgjoobpaaWGuard
import Derived.Test.YtfnbcbjgjoobpaaWNEv
import Derived.Test.YtfnbcbjgjoobpaaWMore
namespace Go.Proofs.Ytfnbcbjgjoobpaa.Print
open Go.RowKit Go.Proofs.YtfnbcbjgjoobpaaW.PrintWords Go.Proofs.YtfnbcbjgjoobpaaW.PrintLast Go.Proofs.YtfnbcbjgjoobpaaW.PrintMore
attribute [local go_sem] max2_int min2_int max_two min_two max_three min_three max_four min_four   -- for this text's walks alone
set_option linter.unusedVariables false
set_option linter.unusedSimpArgs false



def errW : Option Int → Value
  | none => .nilIface
  | some c => .iface 0 (.int .i64 c)
theorem errW_none : errW none = .nilIface := rfl
theorem errW_some (c : Int) : errW (some c) = .iface 0 (.int .i64 c) := rfl

theorem shl_u_nn (x y : Int) : 0 ≤ shl .u64 x y := by
  unfold shl
  simp only [IntKind.wrap, IntKind.bits, IntKind.signed]
  exact Int.emod_nonneg _ (by decide)

-- the values' own types
/-! #### struct type 25 -/
structure S25 where
  f0 : Int
  f1 : Int
end Go.Proofs.Ytfnbcbjgjoobpaa.Print
