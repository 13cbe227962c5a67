/- Functions of the given program as plain Lean functions, with proofs that their calls compute them, or lemmas on these. Laid by a program of this repo for the seat Yteicafpjkbajaaa; Lean checks it. -/
import Derived.Test.YteicafpjkbajaaaQ0
import Derived.Test.YteicafpjkbajaaaQ6
import Derived.Test.YteicafpjkbajaaaQFspecl1In
import Derived.Test.YteicafpjkbajaaaQFspecl2Full
import Derived.Test.YteicafpjkbajaaaM0
namespace Go.Proofs.Yteicafpjkbajaaa.Print
open Go.RowKit Go.Proofs.YteicafpjkbajaaaW.PrintWords Go.Proofs.YteicafpjkbajaaaW.PrintLast Go.Proofs.YteicafpjkbajaaaW.PrintMore
attribute [local go_sem] max2_int min2_int max_two min_two max_three min_three max_four min_four   -- for this text's walks alone
set_option linter.unusedVariables false
set_option linter.unusedSimpArgs false

/-! ### facts on spec_l23Fine -/
--IMPORT M0
open Go.Proofs.Yteicafpjkbajaaa.M in
/-- two sets of inputs of at most four variables -/
def spec_l23Fine.is (n a b : Int) : Bool := decide (0 ≤ n ∧ n ≤ 4 ∧ 0 ≤ a ∧ a < ((2 ^ 2 ^ n.toNat : Nat) : Int) ∧ 0 ≤ b ∧ b < ((2 ^ 2 ^ n.toNat : Nat) : Int))
open Go.Proofs.Yteicafpjkbajaaa.M in
theorem spec_l23Fine.nat {n a b : Int} (h : spec_l23Fine.is n a b = true) : ∃ m x y : Nat, n = (m : Int) ∧ a = (x : Int) ∧ b = (y : Int) ∧ m ≤ 4 ∧ x < 2 ^ 2 ^ m ∧ y < 2 ^ 2 ^ m := by
  obtain ⟨h1, h2, h3, h4, h5, h6⟩ := of_decide_eq_true h
  obtain ⟨m, rfl⟩ := nat_of h1
  obtain ⟨x, rfl⟩ := nat_of h3
  obtain ⟨y, rfl⟩ := nat_of h5
  rw [Int.toNat_natCast] at h4 h6
  exact ⟨m, x, y, rfl, rfl, rfl, by omega, by exact_mod_cast h4, by exact_mod_cast h6⟩
open Go.Proofs.Yteicafpjkbajaaa.M in
theorem spec_l23Fine.ev (n a b : Int) : spec_l23Fine.f n a b = some (spec_l23Fine.is n a b) := by
  unfold spec_l23Fine.f spec_l23Fine.is
  rw [spec_l1In.ev]
  by_cases h : 0 ≤ n ∧ n ≤ 4
  · obtain ⟨m, rfl⟩ := nat_of h.1
    have hm : m ≤ 5 := by omega
    rw [decide_eq_true h]
    simp only [Option.bind_some, if_true, spec_l2Full.ev hm, spec_l1In.ev, Int.toNat_natCast]
    have P1 : ∀ z : Int, z ≤ ((2 ^ 2 ^ m : Nat) : Int) - 1 ↔ z < ((2 ^ 2 ^ m : Nat) : Int) := fun z => by omega
    by_cases ha : 0 ≤ a ∧ a ≤ ((2 ^ 2 ^ m : Nat) : Int) - 1
    · rw [decide_eq_true ha, if_pos rfl]
      congr 1
      apply decide_eq_decide.mpr
      exact ⟨fun e => ⟨h.1, h.2, ha.1, (P1 _).mp ha.2, e.1, (P1 _).mp e.2⟩, fun e => ⟨e.2.2.2.2.1, (P1 _).mpr e.2.2.2.2.2⟩⟩
    · rw [decide_eq_false ha, if_neg (by decide)]
      congr 1; symm
      exact decide_eq_false (fun e => ha ⟨e.2.2.1, (P1 _).mpr e.2.2.2.1⟩)
  · have h' : ¬ (0 ≤ n ∧ n ≤ 4 ∧ 0 ≤ a ∧ a < ((2 ^ 2 ^ n.toNat : Nat) : Int) ∧ 0 ≤ b ∧ b < ((2 ^ 2 ^ n.toNat : Nat) : Int)) := fun e => h ⟨e.1, e.2.1⟩
    simp only [h, h', decide_false, Option.bind_some, Bool.false_eq_true, if_false]

end Go.Proofs.Yteicafpjkbajaaa.Print
