/- Functions of the given program as plain Lean functions, with proofs that their calls compute them, or lemmas on these. Laid by a program of this repo for the seat Yteicafpjkbajaaa; Lean checks it. -/
import Derived.Test.YteicafpjkbajaaaQ0
import Derived.Test.YteicafpjkbajaaaQ1
import Derived.Test.YteicafpjkbajaaaQFspecl1In
import Derived.Test.YteicafpjkbajaaaQFimplisBits
namespace Go.Proofs.Yteicafpjkbajaaa.Print
open Go.RowKit Go.Proofs.YteicafpjkbajaaaW.PrintWords Go.Proofs.YteicafpjkbajaaaW.PrintLast Go.Proofs.YteicafpjkbajaaaW.PrintMore
attribute [local go_sem] max2_int min2_int max_two min_two max_three min_three max_four min_four   -- for this text's walks alone
set_option linter.unusedVariables false
set_option linter.unusedSimpArgs false

/-! ### facts on laws_FnExactCountInvertible -/
theorem laws_FnExactCountInvertible.pure_ : laws_FnExactCountInvertible.Pure := by
  intro a0 _
  by_cases h : 0 ≤ a0 ∧ a0 ≤ 5
  · have e : a0 = 0 ∨ a0 = 1 ∨ a0 = 2 ∨ a0 = 3 ∨ a0 = 4 ∨ a0 = 5 := by omega
    rcases e with rfl | rfl | rfl | rfl | rfl | rfl <;> exact ⟨60, by decide +kernel⟩
  · refine ⟨0, ?_⟩
    unfold laws_FnExactCountInvertible.f spec_CountInvertible.f impl_CountInvertible.f
    rw [spec_l1In.ev, impl_isBits.ev]
    simp [h]

end Go.Proofs.Yteicafpjkbajaaa.Print
