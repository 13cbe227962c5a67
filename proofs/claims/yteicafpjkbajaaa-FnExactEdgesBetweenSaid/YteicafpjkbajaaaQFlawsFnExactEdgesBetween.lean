/- Functions of the given program as plain Lean functions, with proofs that their calls compute them, or lemmas on these. Laid by a program of this repo for the seat Yteicafpjkbajaaa; Lean checks it. -/
import Derived.Test.YteicafpjkbajaaaQ0
import Derived.Test.YteicafpjkbajaaaQ7
import Derived.Test.YteicafpjkbajaaaQ8
import Derived.Test.YteicafpjkbajaaaQFspecl23Fine
import Derived.Test.YteicafpjkbajaaaQFspecl23Edges
import Derived.Test.YteicafpjkbajaaaQFimplareSets
import Derived.Test.YteicafpjkbajaaaQFimpledges
import Derived.Test.YteicafpjkbajaaaM2
namespace Go.Proofs.Yteicafpjkbajaaa.Print
open Go.RowKit Go.Proofs.YteicafpjkbajaaaW.PrintWords Go.Proofs.YteicafpjkbajaaaW.PrintLast Go.Proofs.YteicafpjkbajaaaW.PrintMore
attribute [local go_sem] max2_int min2_int max_two min_two max_three min_three max_four min_four   -- for this text's walks alone
set_option linter.unusedVariables false
set_option linter.unusedSimpArgs false

/-! ### facts on laws_FnExactEdgesBetween -/
--IMPORT M2
open Go.Proofs.Yteicafpjkbajaaa.M in
theorem laws_FnExactEdgesBetween.pure_ : laws_FnExactEdgesBetween.Pure := by
  intro n a b _ _ _
  unfold laws_FnExactEdgesBetween.f spec_EdgesBetween.f impl_EdgesBetween.f
  rw [spec_l23Fine.ev, impl_areSets.ev]
  show ∃ k, ((some (spec_l23Fine.is n a b)).bind _).bind _ = _
  cases h : spec_l23Fine.is n a b with
  | false => 
    have h2 : decide (0 ≤ n ∧ n ≤ 4 ∧ 0 ≤ a ∧ a < ((2 ^ 2 ^ n.toNat : Nat) : Int) ∧ 0 ≤ b ∧ b < ((2 ^ 2 ^ n.toNat : Nat) : Int)) = false := h
    exact ⟨0, by rw [h2]; simp⟩
  | true =>
    have h2 : decide (0 ≤ n ∧ n ≤ 4 ∧ 0 ≤ a ∧ a < ((2 ^ 2 ^ n.toNat : Nat) : Int) ∧ 0 ≤ b ∧ b < ((2 ^ 2 ^ n.toNat : Nat) : Int)) = true := h
    obtain ⟨m, x, y, rfl, rfl, rfl, hm, hx, hy⟩ := spec_l23Fine.nat h
    have hf := full_p63 (n := m) (by omega)
    obtain ⟨K1, e1⟩ := spec_l23Edges.ev (n := m) (a := x) (b := y) (by omega) (by omega) (by omega)
    obtain ⟨K2, e2⟩ := impl_edges.ev (n := m) (a := x) (b := y) (by omega) (by omega) (by omega)
    refine ⟨max K1 K2, ?_⟩
    rw [h2]
    simp only [Option.bind_some, if_true, e1 _ (Nat.le_max_left _ _), e2 _ (Nat.le_max_right _ _)]

end Go.Proofs.Yteicafpjkbajaaa.Print
