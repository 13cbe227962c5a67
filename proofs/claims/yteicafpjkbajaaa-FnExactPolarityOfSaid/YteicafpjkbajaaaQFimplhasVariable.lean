/- Functions of the given program as plain Lean functions, with proofs that their calls compute them, or lemmas on these. Laid by a program of this repo for the seat Yteicafpjkbajaaa; Lean checks it. -/
import Derived.Test.YteicafpjkbajaaaQ0
import Derived.Test.YteicafpjkbajaaaQ19
import Derived.Test.YteicafpjkbajaaaQFimplIsTable
import Derived.Test.YteicafpjkbajaaaM0
namespace Go.Proofs.Yteicafpjkbajaaa.Print
open Go.RowKit Go.Proofs.YteicafpjkbajaaaW.PrintWords Go.Proofs.YteicafpjkbajaaaW.PrintLast Go.Proofs.YteicafpjkbajaaaW.PrintMore
attribute [local go_sem] max2_int min2_int max_two min_two max_three min_three max_four min_four   -- for this text's walks alone
set_option linter.unusedVariables false
set_option linter.unusedSimpArgs false

/-! ### facts on impl_hasVariable -/
--IMPORT M0
open Go.Proofs.Yteicafpjkbajaaa.M in
theorem impl_hasVariable.ev (a b i : Int) : impl_hasVariable.f a b i = some (isT a b && decide (0 ≤ i ∧ i < a)) := by
  unfold impl_hasVariable.f
  rw [impl_IsTable.ev, Option.bind_some]
  cases isT a b with
  | false => rfl
  | true =>
    rw [if_pos rfl]
    by_cases h : 0 ≤ i
    · rw [if_pos h]; simp [h]
    · rw [if_neg h]; simp [h]

end Go.Proofs.Yteicafpjkbajaaa.Print
