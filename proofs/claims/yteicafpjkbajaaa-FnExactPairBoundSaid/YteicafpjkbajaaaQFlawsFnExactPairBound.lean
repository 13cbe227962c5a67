/- Functions of the given program as plain Lean functions, with proofs that their calls compute them, or lemmas on these. Laid by a program of this repo for the seat Yteicafpjkbajaaa; Lean checks it. -/
import Derived.Test.YteicafpjkbajaaaQ0
import Derived.Test.YteicafpjkbajaaaQ1
import Derived.Test.YteicafpjkbajaaaQ7
import Derived.Test.YteicafpjkbajaaaQ8
import Derived.Test.YteicafpjkbajaaaQ17
import Derived.Test.YteicafpjkbajaaaQ18
import Derived.Test.YteicafpjkbajaaaQFspecl2Count
import Derived.Test.YteicafpjkbajaaaQFspecl23Fine
import Derived.Test.YteicafpjkbajaaaQFspecl23Edges
import Derived.Test.YteicafpjkbajaaaQFimplareSets
import Derived.Test.YteicafpjkbajaaaQFimpledges
import Derived.Test.YteicafpjkbajaaaQFimplones
import Derived.Test.YteicafpjkbajaaaM2
namespace Go.Proofs.Yteicafpjkbajaaa.Print
open Go.RowKit Go.Proofs.YteicafpjkbajaaaW.PrintWords Go.Proofs.YteicafpjkbajaaaW.PrintLast Go.Proofs.YteicafpjkbajaaaW.PrintMore
attribute [local go_sem] max2_int min2_int max_two min_two max_three min_three max_four min_four   -- for this text's walks alone
set_option linter.unusedVariables false
set_option linter.unusedSimpArgs false

/-! ### facts on laws_FnExactPairBound -/
--IMPORT M2
open Go.Proofs.Yteicafpjkbajaaa.M in
theorem laws_FnExactPairBound.pure_ : laws_FnExactPairBound.Pure := by
  intro n a b _ _ _
  unfold laws_FnExactPairBound.f spec_PairBound.f impl_PairBound.f impl_bound.f
  rw [spec_l23Fine.ev, impl_areSets.ev]
  show ∃ k, ((some (spec_l23Fine.is n a b)).bind _).bind _ = _
  cases h : spec_l23Fine.is n a b with
  | false => 
    have h2 : decide (0 ≤ n ∧ n ≤ 4 ∧ 0 ≤ a ∧ a < ((2 ^ 2 ^ n.toNat : Nat) : Int) ∧ 0 ≤ b ∧ b < ((2 ^ 2 ^ n.toNat : Nat) : Int)) = false := h
    exact ⟨0, by rw [h2]; simp⟩
  | true =>
    have h2 : decide (0 ≤ n ∧ n ≤ 4 ∧ 0 ≤ a ∧ a < ((2 ^ 2 ^ n.toNat : Nat) : Int) ∧ 0 ≤ b ∧ b < ((2 ^ 2 ^ n.toNat : Nat) : Int)) = true := h
    obtain ⟨m, x, y, rfl, rfl, rfl, hm, hx, hy⟩ := spec_l23Fine.nat h
    have hf := full_p63 (n := m) (by omega)
    have h32 := full_lt (n := m) (by omega)
    obtain ⟨K1, e1⟩ := spec_l23Edges.ev (n := m) (a := x) (b := y) (by omega) (by omega) (by omega)
    obtain ⟨K2, e2⟩ := impl_edges.ev (n := m) (a := x) (b := y) (by omega) (by omega) (by omega)
    obtain ⟨K3, e3⟩ := spec_l2Count.ev (w := x) (by omega)
    obtain ⟨K4, e4⟩ := spec_l2Count.ev (w := y) (by omega)
    obtain ⟨K, k1, k2, k3, k4⟩ : ∃ K, K1 ≤ K ∧ K2 ≤ K ∧ K3 ≤ K ∧ K4 ≤ K := ⟨max (max K1 K2) (max K3 K4), by omega, by omega, by omega, by omega⟩
    have q1 : spec_l23Edges.f K m x y = some _ := e1 K k1
    have q2 : impl_edges.f K m x y = some _ := e2 K k2
    have q3 : spec_l2Count.f K x = some _ := e3 K k3
    have q4 : spec_l2Count.f K y = some _ := e4 K k4
    obtain ⟨r, hr⟩ := ite_some (wrap64 (((pc x : Nat) : Int) * ((pc y : Nat) : Int))) 0 (wrap64 (Int.tdiv (wrap64 ((wrap64 ((wrap64 (((edgesN m x y : Nat) : Int) * ((edgesN m x y : Nat) : Int))) + (wrap64 (((pc x : Nat) : Int) * ((pc y : Nat) : Int))))) - 1)) (wrap64 (((pc x : Nat) : Int) * ((pc y : Nat) : Int)))))
    refine ⟨K, law2 (r := r) ?_ ?_⟩
    · rw [Option.bind_some, if_pos rfl, q3, Option.bind_some, q4, Option.bind_some, q1]
      exact hr
    · rw [h2, impl_ones.ev (w := x) (by omega), impl_ones.ev (w := y) (by omega), q2, Option.bind_some, if_pos rfl, Option.bind_some, Option.bind_some, Option.bind_some]
      rw [hr, Option.bind_some]

end Go.Proofs.Yteicafpjkbajaaa.Print
