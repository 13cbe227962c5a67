/- Functions of the given program as plain Lean functions, with proofs that their calls compute them, or lemmas on these. Laid by a program of this repo for the seat Yteicafpjkbajaaa; Lean checks it. -/
import Derived.Test.YteicafpjkbajaaaQ0
import Derived.Test.YteicafpjkbajaaaQ15
import Derived.Test.YteicafpjkbajaaaQ19
import Derived.Test.YteicafpjkbajaaaQ24
import Derived.Test.YteicafpjkbajaaaQFspecl1In
import Derived.Test.YteicafpjkbajaaaQFspecIsTable
import Derived.Test.YteicafpjkbajaaaQFspecl26Polarity
import Derived.Test.YteicafpjkbajaaaQFimplhasVariable
import Derived.Test.YteicafpjkbajaaaQFimplTablepolarity
import Derived.Test.YteicafpjkbajaaaM0
namespace Go.Proofs.Yteicafpjkbajaaa.Print
open Go.RowKit Go.Proofs.YteicafpjkbajaaaW.PrintWords Go.Proofs.YteicafpjkbajaaaW.PrintLast Go.Proofs.YteicafpjkbajaaaW.PrintMore
attribute [local go_sem] max2_int min2_int max_two min_two max_three min_three max_four min_four   -- for this text's walks alone
set_option linter.unusedVariables false
set_option linter.unusedSimpArgs false

/-! ### facts on laws_FnExactPolarityOf -/
--IMPORT M0
open Go.Proofs.Yteicafpjkbajaaa.M in
theorem laws_FnExactPolarityOf.pure_ : laws_FnExactPolarityOf.Pure := by
  intro a b i _ _ _
  unfold laws_FnExactPolarityOf.f laws_toTable.f spec_PolarityOf.f impl_PolarityOf.f
  simp only [Option.bind_some]
  rw [spec_IsTable.ev, impl_hasVariable.ev]
  cases ht : isT a b with
  | false => exact ⟨0, by simp⟩
  | true =>
    obtain ⟨n, v, rfl, rfl, hn, hv⟩ := isT_nat ht
    have h32 := full_lt hn
    simp only [Option.bind_some, if_true, spec_l1In.ev, Bool.true_and]
    have en : wrap64 ((n : Int) - 1) = (n : Int) - 1 := w64 (by omega) (by omega)
    rw [en]
    by_cases hi : 0 ≤ i ∧ i < (n : Int)
    · have hi' : 0 ≤ i ∧ i ≤ (n : Int) - 1 := ⟨hi.1, by omega⟩
      obtain ⟨j, rfl⟩ := nat_of hi.1
      rw [decide_eq_true hi, decide_eq_true hi']
      simp only [if_true]
      refine law2_ev (r := spec_l26Polarity.pol (rstW n v j 0) (rstW n v j 1)) ?_ ?_
      · exact Ev.bind (spec_l26Polarity.ev (by omega) hn (by omega) (by omega)) (Ev.now _)
      · exact Ev.const (by rw [impl_Table_polarity.ev (by omega) hn (by omega) (by omega)]; rfl)
    · have hi' : ¬ (0 ≤ i ∧ i ≤ (n : Int) - 1) := fun e => hi ⟨e.1, by omega⟩
      rw [decide_eq_false hi, decide_eq_false hi']
      exact ⟨0, by simp⟩

end Go.Proofs.Yteicafpjkbajaaa.Print
