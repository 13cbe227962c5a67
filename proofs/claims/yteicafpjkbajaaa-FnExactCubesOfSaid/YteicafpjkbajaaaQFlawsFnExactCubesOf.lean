/- Functions of the given program as plain Lean functions, with proofs that their calls compute them, or lemmas on these. Laid by a program of this repo for the seat Yteicafpjkbajaaa; Lean checks it. -/
import Derived.Test.YteicafpjkbajaaaQ0
import Derived.Test.YteicafpjkbajaaaQ2
import Derived.Test.YteicafpjkbajaaaQ3
import Derived.Test.YteicafpjkbajaaaQFspecl1In
import Derived.Test.YteicafpjkbajaaaQFimplisBits
import Derived.Test.YteicafpjkbajaaaM0
namespace Go.Proofs.Yteicafpjkbajaaa.Print
open Go.RowKit Go.Proofs.YteicafpjkbajaaaW.PrintWords Go.Proofs.YteicafpjkbajaaaW.PrintLast Go.Proofs.YteicafpjkbajaaaW.PrintMore
attribute [local go_sem] max2_int min2_int max_two min_two max_three min_three max_four min_four   -- for this text's walks alone
set_option linter.unusedVariables false
set_option linter.unusedSimpArgs false

/-! ### facts on laws_FnExactCubesOf -/
--IMPORT M0
open Go.Proofs.Yteicafpjkbajaaa.M in
theorem laws_FnExactCubesOf.small : ∀ i : Nat, i < 6 → ∀ j : Nat, j < 6 → (j ≤ i → laws_FnExactCubesOf.f 120 (i : Int) (j : Int) = some true) := allB_dec2 (P := fun i j => j ≤ i → laws_FnExactCubesOf.f 120 (i : Int) (j : Int) = some true) (by decide +kernel)
open Go.Proofs.Yteicafpjkbajaaa.M in
theorem laws_FnExactCubesOf.pure_ : laws_FnExactCubesOf.Pure := by
  intro a0 a1 _ _
  by_cases h : 0 ≤ a0 ∧ a0 ≤ 5
  · by_cases h1 : 0 ≤ a1 ∧ a1 ≤ a0
    · obtain ⟨i, rfl⟩ := nat_of h.1
      obtain ⟨j, rfl⟩ := nat_of h1.1
      exact ⟨120, laws_FnExactCubesOf.small i (by omega) j (by omega) (by omega)⟩
    · refine ⟨1, ?_⟩
      unfold laws_FnExactCubesOf.f spec_CubesOf.f impl_CubesOf.f
      rw [spec_l1In.ev, impl_isBits.ev]
      by_cases h2 : a1 < 0
      · simp [h, h1, h2, spec_l1In.ev, spec_CubesOf.j0, impl_CubesOf.j0]
      · have h3 : a0 < a1 := by omega
        simp [h, h1, h2, h3, spec_l1In.ev, spec_CubesOf.j0, impl_CubesOf.j0]
  · refine ⟨1, ?_⟩
    unfold laws_FnExactCubesOf.f spec_CubesOf.f impl_CubesOf.f
    rw [spec_l1In.ev, impl_isBits.ev]
    simp [h, spec_CubesOf.j0, impl_CubesOf.j0]

end Go.Proofs.Yteicafpjkbajaaa.Print
