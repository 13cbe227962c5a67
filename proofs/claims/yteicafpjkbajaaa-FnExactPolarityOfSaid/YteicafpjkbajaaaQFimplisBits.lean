/- Functions of the given program as plain Lean functions, with proofs that their calls compute them, or lemmas on these. Laid by a program of this repo for the seat Yteicafpjkbajaaa; Lean checks it. -/
import Derived.Test.YteicafpjkbajaaaQ0
import Derived.Test.YteicafpjkbajaaaQ1
namespace Go.Proofs.Yteicafpjkbajaaa.Print
open Go.RowKit Go.Proofs.YteicafpjkbajaaaW.PrintWords Go.Proofs.YteicafpjkbajaaaW.PrintLast Go.Proofs.YteicafpjkbajaaaW.PrintMore
attribute [local go_sem] max2_int min2_int max_two min_two max_three min_three max_four min_four   -- for this text's walks alone
set_option linter.unusedVariables false
set_option linter.unusedSimpArgs false

/-! ### facts on impl_isBits -/
theorem impl_isBits.ev (a : Int) : impl_isBits.f a = some (decide (0 ≤ a ∧ a ≤ 5)) := by
  unfold impl_isBits.f
  by_cases h : 0 ≤ a
  · rw [if_pos h]; simp [h]
  · rw [if_neg h]; simp [h]

end Go.Proofs.Yteicafpjkbajaaa.Print
