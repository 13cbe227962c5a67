/- Functions of the given program as plain Lean functions, with proofs that their calls compute them, or lemmas on these. Laid by a program of this repo for the seat Yteicafpjkbajaaa; Lean checks it. -/
import Derived.Test.YteicafpjkbajaaaQ0
import Derived.Test.YteicafpjkbajaaaQ14
import Derived.Test.YteicafpjkbajaaaQ16
import Derived.Test.YteicafpjkbajaaaQFspecl1In
import Derived.Test.YteicafpjkbajaaaQFspecl2Full
import Derived.Test.YteicafpjkbajaaaQFspecIsTable
import Derived.Test.YteicafpjkbajaaaQFimplIsTable
import Derived.Test.YteicafpjkbajaaaQFimplTablenot
import Derived.Test.YteicafpjkbajaaaM0
namespace Go.Proofs.Yteicafpjkbajaaa.Print
open Go.RowKit Go.Proofs.YteicafpjkbajaaaW.PrintWords Go.Proofs.YteicafpjkbajaaaW.PrintLast Go.Proofs.YteicafpjkbajaaaW.PrintMore
attribute [local go_sem] max2_int min2_int max_two min_two max_three min_three max_four min_four   -- for this text's walks alone
set_option linter.unusedVariables false
set_option linter.unusedSimpArgs false

/-! ### facts on laws_FnExactIsSeparated -/
--IMPORT M0
open Go.Proofs.Yteicafpjkbajaaa.M in
theorem laws_FnExactIsSeparated.pure_ : laws_FnExactIsSeparated.Pure := by
  intro a0 a1 b c _ _ wb wc
  have hb2 : b ≤ 9223372036854775807 := by simp [Lit.wf, IntKind.min, IntKind.max, IntKind.signed, IntKind.bits] at wb; omega
  have hc2 : c ≤ 9223372036854775807 := by simp [Lit.wf, IntKind.min, IntKind.max, IntKind.signed, IntKind.bits] at wc; omega
  unfold laws_FnExactIsSeparated.f laws_toTable.f spec_IsSeparated.f impl_IsSeparated.f
  simp only [Option.bind_some]
  rw [spec_IsTable.ev, impl_IsTable.ev]
  cases ht : isT a0 a1 with
  | false => simp
  | true =>
    obtain ⟨n, v, rfl, rfl, hn, hv⟩ := isT_nat ht
    have h5 := pow_le_5 hn
    have hf := full_p63 hn
    have hp := Nat.two_pow_pos (2 ^ n)
    simp only [Option.bind_some, if_true, spec_l2Full.ev hn, spec_l1In.ev, impl_Table_not.ev hn hv]
    by_cases hb : 0 ≤ b
    · obtain ⟨x, rfl⟩ := nat_of hb
      by_cases hc : 0 ≤ c
      · obtain ⟨y, rfl⟩ := nat_of hc
        rw [and_nat (by omega) (by omega), and_nat (by omega) (by omega), andNot_nat (by omega) (by omega), andNot_nat (by omega) (Nat.lt_of_lt_of_le (notW_lt hv) (by omega))]
        have s1 := subset_iff (a := x) (v := v)
        have s2 : andn y (notW (2 ^ n) v) = 0 ↔ y < 2 ^ 2 ^ n ∧ y &&& v = 0 := apart_iff (b := y) hv
        have s3 : x &&& v = x → x < 2 ^ 2 ^ n := fun e => by rw [← e]; exact Nat.lt_of_le_of_lt Nat.and_le_right hv
        generalize hP : 2 ^ 2 ^ n = P at *
        generalize notW (2 ^ n) v = u at *
        by_cases e1 : x &&& v = x
        · have e2 := s1.mp e1
          have e3 := s3 e1
          by_cases e4 : y < P
          · have e5 : (andn y (u) = 0) ↔ y &&& v = 0 := ⟨fun e => (s2.mp e).2, fun e => s2.mpr ⟨e4, e⟩⟩
            have i1 : ((x : Int)) ≤ (P : Int) - 1 := by omega
            have i2 : ((y : Int)) ≤ (P : Int) - 1 := by omega
            by_cases e6 : y &&& v = 0
            · simp [e1, e2, i1, i2, e6, e5.mpr e6]
            · have e7 := fun e => e6 (e5.mp e)
              have z1 : (((andn y u : Nat) : Int) == 0) = false := beq_eq_false_iff_ne.mpr (by omega)
              have z2 : (((y &&& v : Nat) : Int) == 0) = false := beq_eq_false_iff_ne.mpr (by omega)
              simp [e1, e2, i1, i2, z1, z2]
          · have i1 : ((x : Int)) ≤ (P : Int) - 1 := by omega
            have i2 : ¬ ((y : Int)) ≤ (P : Int) - 1 := by omega
            have e7 : ¬ andn y u = 0 := fun e => e4 (s2.mp e).1
            simp [e1, e2, i1, i2, e7]
        · have e2 : ¬ andn x v = 0 := fun e => e1 (s1.mpr e)
          have e3 : ¬ ((x &&& v : Nat) : Int) = (x : Int) := by omega
          by_cases i1 : ((x : Int)) ≤ (P : Int) - 1 <;> by_cases i2 : ((y : Int)) ≤ (P : Int) - 1 <;> simp [e1, e2, e3, i1, i2]
      · generalize hP : 2 ^ 2 ^ n = P at *
        by_cases i1 : ((x : Int)) ≤ (P : Int) - 1 <;> simp [hc, i1]
    · simp [hb]

end Go.Proofs.Yteicafpjkbajaaa.Print
