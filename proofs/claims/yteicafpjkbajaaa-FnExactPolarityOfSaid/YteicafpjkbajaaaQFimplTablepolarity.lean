/- Functions of the given program as plain Lean functions, with proofs that their calls compute them, or lemmas on these. Laid by a program of this repo for the seat Yteicafpjkbajaaa; Lean checks it. -/
import Derived.Test.YteicafpjkbajaaaQ0
import Derived.Test.YteicafpjkbajaaaQ22
import Derived.Test.YteicafpjkbajaaaQ23
import Derived.Test.YteicafpjkbajaaaQFspecl26Polarity
import Derived.Test.YteicafpjkbajaaaQFimplTablerestrict
import Derived.Test.YteicafpjkbajaaaM0
namespace Go.Proofs.Yteicafpjkbajaaa.Print
open Go.RowKit Go.Proofs.YteicafpjkbajaaaW.PrintWords Go.Proofs.YteicafpjkbajaaaW.PrintLast Go.Proofs.YteicafpjkbajaaaW.PrintMore
attribute [local go_sem] max2_int min2_int max_two min_two max_three min_three max_four min_four   -- for this text's walks alone
set_option linter.unusedVariables false
set_option linter.unusedSimpArgs false

/-! ### facts on impl_Table_polarity -/
--IMPORT M0
open Go.Proofs.Yteicafpjkbajaaa.M in
theorem impl_Table_polarity.ev {n v i : Nat} (h1 : 1 ≤ n) (hn : n ≤ 5) (hv : v < 2 ^ 32) (hi : i < n) : impl_Table_polarity.f n v i = some (spec_l26Polarity.pol (rstW n v i 0) (rstW n v i 1)) := by
  have r0 := rstW_lt hn v i 0
  have r1 := rstW_lt hn v i 1
  unfold impl_Table_polarity.f
  have q0 := impl_Table_restrict.ev (b := 0) h1 hn hv hi (by omega)
  have q1 := impl_Table_restrict.ev (b := 1) h1 hn hv hi (by omega)
  have q0' : impl_Table_restrict.f n v i 0 = _ := q0
  have q1' : impl_Table_restrict.f n v i 1 = _ := q1
  rw [q0', Option.bind_some, q1', Option.bind_some]
  rw [andNot_nat (by omega) (by omega), andNot_nat (by omega) (by omega)]
  unfold spec_l26Polarity.pol
  have s1 := subset_iff (a := rstW n v i 0) (v := rstW n v i 1)
  have s2 := subset_iff (a := rstW n v i 1) (v := rstW n v i 0)
  generalize rstW n v i 0 = a at *
  generalize rstW n v i 1 = b at *
  by_cases e1 : a = b
  · rw [if_pos e1, if_pos (by omega)]
  · rw [if_neg e1, if_neg (by omega)]
    by_cases e2 : a &&& b = a
    · rw [if_pos e2, if_pos (by rw [s1.mp e2]; rfl)]
    · have z := fun e => e2 (s1.mpr e)
      rw [if_neg e2, if_neg (by omega)]
      by_cases e3 : b &&& a = b
      · rw [if_pos e3, if_pos (by rw [s2.mp e3]; rfl)]
      · have z := fun e => e3 (s2.mpr e)
        rw [if_neg e3, if_neg (by omega)]

end Go.Proofs.Yteicafpjkbajaaa.Print
