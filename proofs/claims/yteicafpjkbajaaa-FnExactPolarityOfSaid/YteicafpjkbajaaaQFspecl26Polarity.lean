/- Functions of the given program as plain Lean functions, with proofs that their calls compute them, or lemmas on these. Laid by a program of this repo for the seat Yteicafpjkbajaaa; Lean checks it. -/
import Derived.Test.YteicafpjkbajaaaQ0
import Derived.Test.YteicafpjkbajaaaQ19
import Derived.Test.YteicafpjkbajaaaQFspecl3Restrict
import Derived.Test.YteicafpjkbajaaaM0
namespace Go.Proofs.Yteicafpjkbajaaa.Print
open Go.RowKit Go.Proofs.YteicafpjkbajaaaW.PrintWords Go.Proofs.YteicafpjkbajaaaW.PrintLast Go.Proofs.YteicafpjkbajaaaW.PrintMore
attribute [local go_sem] max2_int min2_int max_two min_two max_three min_three max_four min_four   -- for this text's walks alone
set_option linter.unusedVariables false
set_option linter.unusedSimpArgs false

/-! ### facts on spec_l26Polarity -/
--IMPORT M0
open Go.Proofs.Yteicafpjkbajaaa.M in
/-- how a table turns with a variable, of its two halves -/
def spec_l26Polarity.pol (low high : Nat) : Int := if low = high then 0 else if low &&& high = low then 1 else if high &&& low = high then -1 else 2
open Go.Proofs.Yteicafpjkbajaaa.M in
theorem spec_l26Polarity.ev {n v i : Nat} (h1 : 1 ≤ n) (hn : n ≤ 5) (hv : v < 2 ^ 63) (hi : i < n) : Ev (fun k => spec_l26Polarity.f k n v i) (spec_l26Polarity.pol (rstW n v i 0) (rstW n v i 1)) := by
  have r0 := rstW_lt hn v i 0
  have r1 := rstW_lt hn v i 1
  refine Ev.bind (spec_l3Restrict.ev (b := 0) h1 hn hv hi (by omega)) (Ev.bind (spec_l3Restrict.ev (b := 1) h1 hn hv hi (by omega)) (Ev.of_some (fun k => ?_)))
  show (if ((rstW n v i 0 : Nat) : Int) = ((rstW n v i 1 : Nat) : Int) then _ else _) = _
  unfold spec_l26Polarity.pol
  rw [and_nat (by omega) (by omega)]
  generalize rstW n v i 0 = a at *
  generalize rstW n v i 1 = b at *
  by_cases e1 : a = b
  · rw [if_pos e1, if_pos (by omega)]
  · rw [if_neg e1, if_neg (by omega)]
    by_cases e2 : a &&& b = a
    · rw [if_pos e2, if_pos (by rw [e2])]
    · rw [if_neg e2, if_neg (by omega)]
      rw [Nat.and_comm b a]
      by_cases e3 : a &&& b = b
      · rw [if_pos e3, if_pos (by rw [e3])]
      · rw [if_neg e3, if_neg (by omega)]

end Go.Proofs.Yteicafpjkbajaaa.Print
