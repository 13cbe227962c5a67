/- Functions of the given program as plain Lean functions, with proofs that their calls compute them, or lemmas on these. Laid by a program of this repo for the seat Yteicafpjkbajaaa; Lean checks it. -/
import Derived.Test.YteicafpjkbajaaaQ0
import Derived.Test.YteicafpjkbajaaaQ6
import Derived.Test.YteicafpjkbajaaaM0
namespace Go.Proofs.Yteicafpjkbajaaa.Print
open Go.RowKit Go.Proofs.YteicafpjkbajaaaW.PrintWords Go.Proofs.YteicafpjkbajaaaW.PrintLast Go.Proofs.YteicafpjkbajaaaW.PrintMore
attribute [local go_sem] max2_int min2_int max_two min_two max_three min_three max_four min_four   -- for this text's walks alone
set_option linter.unusedVariables false
set_option linter.unusedSimpArgs false

/-! ### facts on spec_l2Full -/
--IMPORT M0
open Go.Proofs.Yteicafpjkbajaaa.M in
theorem spec_l2Full.ev {n : Nat} (h : n ≤ 5) : spec_l2Full.f n = some (((2 ^ 2 ^ n : Nat) : Int) - 1) := by
  unfold spec_l2Full.f
  rw [if_pos (Int.natCast_nonneg n), full_word h]

end Go.Proofs.Yteicafpjkbajaaa.Print
