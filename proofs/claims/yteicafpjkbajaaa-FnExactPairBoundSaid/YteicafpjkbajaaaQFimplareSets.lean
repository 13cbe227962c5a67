/- Functions of the given program as plain Lean functions, with proofs that their calls compute them, or lemmas on these. Laid by a program of this repo for the seat Yteicafpjkbajaaa; Lean checks it. -/
import Derived.Test.YteicafpjkbajaaaQ0
import Derived.Test.YteicafpjkbajaaaQ7
import Derived.Test.YteicafpjkbajaaaM0
namespace Go.Proofs.Yteicafpjkbajaaa.Print
open Go.RowKit Go.Proofs.YteicafpjkbajaaaW.PrintWords Go.Proofs.YteicafpjkbajaaaW.PrintLast Go.Proofs.YteicafpjkbajaaaW.PrintMore
attribute [local go_sem] max2_int min2_int max_two min_two max_three min_three max_four min_four   -- for this text's walks alone
set_option linter.unusedVariables false
set_option linter.unusedSimpArgs false

/-! ### facts on impl_areSets -/
--IMPORT M0
open Go.Proofs.Yteicafpjkbajaaa.M in
theorem impl_areSets.set {m : Nat} (hm : m ≤ 5) (a : Int) : impl_isSet.f m a = some (decide (0 ≤ a ∧ a < ((2 ^ 2 ^ m : Nat) : Int))) := by
  have h5 := pow_le_5 hm
  unfold impl_isSet.f
  by_cases h : a ≥ 0
  · obtain ⟨v, rfl⟩ := nat_of h
    rw [if_pos h, if_pos (Int.natCast_nonneg m), shlu_one (by omega), shr_nat (by omega)]
    congr 1
    rw [Bool.eq_iff_iff]
    simp only [beq_iff_eq, decide_eq_true_eq]
    have hz : v / 2 ^ 2 ^ m = 0 ↔ v < 2 ^ 2 ^ m := Nat.div_eq_zero_iff_lt (Nat.two_pow_pos _)
    rw [show (((v / 2 ^ 2 ^ m : Nat) : Int) = 0 ↔ v / 2 ^ 2 ^ m = 0) from by omega, hz]
    generalize 2 ^ 2 ^ m = P
    omega
  · rw [if_neg h]
    congr 1; symm
    apply decide_eq_false; omega
open Go.Proofs.Yteicafpjkbajaaa.M in
theorem impl_areSets.ev (n a b : Int) : impl_areSets.f n a b = some (decide (0 ≤ n ∧ n ≤ 4 ∧ 0 ≤ a ∧ a < ((2 ^ 2 ^ n.toNat : Nat) : Int) ∧ 0 ≤ b ∧ b < ((2 ^ 2 ^ n.toNat : Nat) : Int))) := by
  unfold impl_areSets.f
  by_cases h : 0 ≤ n
  · rw [if_pos h]
    by_cases h4 : n ≤ 4
    · rw [if_pos h4]
      obtain ⟨m, rfl⟩ := nat_of h
      rw [impl_areSets.set (by omega), impl_areSets.set (by omega)]
      simp only [Option.bind_some, Int.toNat_natCast]
      by_cases ha : 0 ≤ a ∧ a < ((2 ^ 2 ^ m : Nat) : Int)
      · rw [decide_eq_true ha, if_pos rfl]
        congr 1
        apply decide_eq_decide.mpr
        exact ⟨fun e => ⟨h, h4, ha.1, ha.2, e.1, e.2⟩, fun e => ⟨e.2.2.2.2.1, e.2.2.2.2.2⟩⟩
      · rw [decide_eq_false ha, if_neg (by decide)]
        congr 1; symm
        exact decide_eq_false (fun e => ha ⟨e.2.2.1, e.2.2.2.1⟩)
    · rw [if_neg h4]
      congr 1; symm
      apply decide_eq_false; omega
  · rw [if_neg h]
    congr 1; symm
    apply decide_eq_false; omega

end Go.Proofs.Yteicafpjkbajaaa.Print
