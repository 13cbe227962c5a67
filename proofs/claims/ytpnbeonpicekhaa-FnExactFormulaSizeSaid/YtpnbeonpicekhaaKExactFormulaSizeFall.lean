/- Functions of the given program as plain Lean functions, with proofs that their calls compute them, or lemmas on these. Laid by a program of this repo for the seat Ytpnbeonpicekhaa; Lean checks it. -/
import Derived.Test.YtpnbeonpicekhaaKExactFormulaSize0
import Derived.Test.YtpnbeonpicekhaaKExactFormulaSize1
import Derived.Test.YtpnbeonpicekhaaKExactFormulaSize2
import Derived.Test.YtpnbeonpicekhaaKExactFormulaSize3
import Derived.Test.YtpnbeonpicekhaaKExactFormulaSize4
import Derived.Test.YtpnbeonpicekhaaKExactFormulaSize11
import Derived.Test.YtpnbeonpicekhaaKExactFormulaSize12
import Derived.Test.YtpnbeonpicekhaaKExactFormulaSize13
import Derived.Test.YtpnbeonpicekhaaM0
import Derived.Test.YtpnbeonpicekhaaM15
import Derived.Test.YtpnbeonpicekhaaM5
namespace Go.Proofs.Ytpnbeonpicekhaa.Print
open Go.RowKit Go.Proofs.YtpnbeonpicekhaaW.PrintWords Go.Proofs.YtpnbeonpicekhaaW.PrintLast Go.Proofs.YtpnbeonpicekhaaW.PrintMore
attribute [local go_sem] max2_int min2_int max_two min_two max_three min_three max_four min_four   -- for this text's walks alone
set_option linter.unusedVariables false
set_option linter.unusedSimpArgs false

/-! ### facts on spec_l1In -/
theorem spec_l1In.ev (a b c : Int) : spec_l1In.f a b c = some (decide (b ≤ a ∧ a ≤ c)) := by
  unfold spec_l1In.f
  by_cases h : b ≤ a
  · rw [if_pos h]; simp [h]
  · rw [if_neg h]; simp [h]

/-! ### facts on spec_IsTable -/
--IMPORT M0
open Go.Proofs.Ytpnbeonpicekhaa.M in
theorem spec_IsTable.ev (a b : Int) : spec_IsTable.f a b = some (isT a b) := by
  unfold spec_IsTable.f isT
  rw [spec_l1In.ev]
  by_cases h : 0 ≤ a ∧ a ≤ 5
  · obtain ⟨n, rfl⟩ := nat_of h.1
    have hn : n ≤ 5 := by omega
    simp only [Option.bind_some, h, and_self, decide_true, if_true]
    rw [full_word hn, spec_l1In.ev]
    simp only [Option.bind_some, Int.toNat_natCast, h, true_and]
    congr 1
    apply decide_eq_decide.mpr
    omega
  · have h' : ¬ (0 ≤ a ∧ a ≤ 5 ∧ 0 ≤ b ∧ b < ((2 ^ 2 ^ a.toNat : Nat) : Int)) := fun e => h ⟨e.1, e.2.1⟩
    simp only [h, h', decide_false, Option.bind_some, Bool.false_eq_true, if_false]

/-! ### facts on spec_l2Full -/
--IMPORT M0
open Go.Proofs.Ytpnbeonpicekhaa.M in
theorem spec_l2Full.ev {n : Nat} (h : n ≤ 5) : spec_l2Full.f n = some (((2 ^ 2 ^ n : Nat) : Int) - 1) := by
  unfold spec_l2Full.f
  rw [if_pos (Int.natCast_nonneg n), full_word h]

/-! ### facts on spec_FormulaSize -/
--IMPORT M15
open Go.Proofs.Ytpnbeonpicekhaa.M in
/-- the size of a table -/
def spec_FormulaSize.r (a b : Int) : Int := if isT a b = true ∧ a ≤ 3 then rd (szL a.toNat) b else -1
open Go.Proofs.Ytpnbeonpicekhaa.M in
theorem spec_FormulaSize.ev (a b : Int) : spec_FormulaSize.f a b = some (spec_FormulaSize.r a b) := by
  unfold spec_FormulaSize.f spec_FormulaSize.r
  rw [spec_IsTable.ev, Option.bind_some]
  cases ht : isT a b with
  | false => rw [if_neg (by simp), if_neg (by simp)]
  | true =>
    obtain ⟨n, v, rfl, rfl, hn, hv⟩ := isT_nat ht
    by_cases h : (n : Int) ≤ 3
    · rw [if_pos ⟨rfl, h⟩, if_pos ⟨rfl, h⟩]
      unfold spec_l22Sizes.f
      rw [if_pos (by omega), Option.bind_some, Int.toNat_natCast, szL_len, if_pos ⟨by omega, by show (v : Int) < ((2 ^ 2 ^ n : Nat) : Int); exact_mod_cast hv⟩]
    · rw [if_neg (fun e => h e.2), if_neg (fun e => h e.2)]

/-! ### facts on impl_isBits -/
theorem impl_isBits.ev (a : Int) : impl_isBits.f a = some (decide (0 ≤ a ∧ a ≤ 5)) := by
  unfold impl_isBits.f
  by_cases h : 0 ≤ a
  · rw [if_pos h]; simp [h]
  · rw [if_neg h]; simp [h]

/-! ### facts on impl_IsTable -/
--IMPORT M0
open Go.Proofs.Ytpnbeonpicekhaa.M in
theorem impl_IsTable.ev (a b : Int) : impl_IsTable.f a b = some (isT a b) := by
  unfold impl_IsTable.f isT
  rw [impl_isBits.ev]
  by_cases h : 0 ≤ a ∧ a ≤ 5
  · obtain ⟨n, rfl⟩ := nat_of h.1
    have hn : n ≤ 5 := by omega
    simp only [Option.bind_some, h, and_self, decide_true, if_true]
    by_cases hb : b ≥ 0
    · obtain ⟨v, rfl⟩ := nat_of hb
      have h5 := pow_le_5 hn
      rw [if_pos hb]
      unfold impl_Table_size.f
      rw [if_pos (Int.natCast_nonneg n), shl_one (by omega)]
      simp only [Option.bind_some]
      rw [if_pos (Int.natCast_nonneg _), shr_nat (by omega)]
      congr 1
      rw [Bool.eq_iff_iff]
      simp only [beq_iff_eq, decide_eq_true_eq, Int.toNat_natCast]
      have hz : v / 2 ^ 2 ^ n = 0 ↔ v < 2 ^ 2 ^ n := Nat.div_eq_zero_iff_lt (Nat.two_pow_pos _)
      rw [show (((v / 2 ^ 2 ^ n : Nat) : Int) = 0 ↔ v / 2 ^ 2 ^ n = 0) from by omega, hz]
      obtain ⟨P, hP⟩ : ∃ P, P = 2 ^ 2 ^ n := ⟨_, rfl⟩
      rw [← hP]
      simp only [h, true_and]
      omega
    · rw [if_neg hb]
      congr 1
      symm
      apply decide_eq_false
      omega
  · have h' : ¬ (0 ≤ a ∧ a ≤ 5 ∧ 0 ≤ b ∧ b < ((2 ^ 2 ^ a.toNat : Nat) : Int)) := fun e => h ⟨e.1, e.2.1⟩
    simp only [h, h', decide_false, Option.bind_some, Bool.false_eq_true, if_false]

/-! ### facts on impl_isSmall -/
--IMPORT M5
open Go.Proofs.Ytpnbeonpicekhaa.M in
theorem impl_isSmall.ev (a b m : Int) : impl_isSmall.f a b m = some (isT a b && decide (a ≤ m)) := by
  unfold impl_isSmall.f
  rw [impl_IsTable.ev, Option.bind_some]
  cases isT a b <;> simp

/-! ### facts on impl_FormulaSize -/
--IMPORT M15
open Go.Proofs.Ytpnbeonpicekhaa.M in
theorem impl_FormulaSize.ev (a b : Int) : impl_FormulaSize.f a b = some (spec_FormulaSize.r a b) := by
  unfold impl_FormulaSize.f spec_FormulaSize.r
  rw [impl_isSmall.ev, Option.bind_some]
  cases ht : isT a b with
  | false => rw [Bool.false_and, if_neg (by decide), if_neg (by simp)]
  | true =>
    obtain ⟨n, v, rfl, rfl, hn, hv⟩ := isT_nat ht
    rw [Bool.true_and]
    by_cases h : (n : Int) ≤ 3
    · rw [decide_eq_true h, if_pos rfl, if_pos ⟨rfl, h⟩]
      unfold impl_sizes.f
      rw [if_pos (by omega), Option.bind_some, Int.toNat_natCast, szL_len, if_pos ⟨by omega, by show (v : Int) < ((2 ^ 2 ^ n : Nat) : Int); exact_mod_cast hv⟩]
    · rw [decide_eq_false h, if_neg (by decide), if_neg (by omega)]

/-! ### facts on laws_FnExactFormulaSize -/
--IMPORT M15
open Go.Proofs.Ytpnbeonpicekhaa.M in
theorem laws_FnExactFormulaSize.pure_ : laws_FnExactFormulaSize.Pure := by
  intro a b _ _
  unfold laws_FnExactFormulaSize.f
  unfold laws_toTable.f
  rw [Option.bind_some, spec_FormulaSize.ev, Option.bind_some, Option.bind_some, impl_FormulaSize.ev, Option.bind_some, if_pos rfl]

end Go.Proofs.Ytpnbeonpicekhaa.Print
