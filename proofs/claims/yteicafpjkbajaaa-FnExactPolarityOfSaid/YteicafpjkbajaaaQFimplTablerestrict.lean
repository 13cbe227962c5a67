/- Functions of the given program as plain Lean functions, with proofs that their calls compute them, or lemmas on these. Laid by a program of this repo for the seat Yteicafpjkbajaaa; Lean checks it. -/
import Derived.Test.YteicafpjkbajaaaQ0
import Derived.Test.YteicafpjkbajaaaQ22
import Derived.Test.YteicafpjkbajaaaM0
namespace Go.Proofs.Yteicafpjkbajaaa.Print
open Go.RowKit Go.Proofs.YteicafpjkbajaaaW.PrintWords Go.Proofs.YteicafpjkbajaaaW.PrintLast Go.Proofs.YteicafpjkbajaaaW.PrintMore
attribute [local go_sem] max2_int min2_int max_two min_two max_three min_three max_four min_four   -- for this text's walks alone
set_option linter.unusedVariables false
set_option linter.unusedSimpArgs false

/-! ### facts on impl_Table_restrict -/
--IMPORT M0
open Go.Proofs.Yteicafpjkbajaaa.M in
theorem impl_Table_restrict.ev {n v i b : Nat} (h1 : 1 ≤ n) (hn : n ≤ 5) (hv : v < 2 ^ 32) (hi : i < n) (hb : b ≤ 1) : impl_Table_restrict.f n v i b = some (((n - 1 : Nat) : Int), ((rstW n v i b : Nat) : Int)) := by
  unfold impl_Table_restrict.f
  rw [if_pos ⟨by omega, by omega, by omega, by omega, by omega, by omega, by omega, by omega⟩]
  simp only [Int.toNat_natCast]
  rw [show ((n : Int) - 1) = ((n - 1 : Nat) : Int) by omega]; rfl

end Go.Proofs.Yteicafpjkbajaaa.Print
