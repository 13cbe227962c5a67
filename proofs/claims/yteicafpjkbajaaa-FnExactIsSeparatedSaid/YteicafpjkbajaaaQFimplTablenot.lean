/- Functions of the given program as plain Lean functions, with proofs that their calls compute them, or lemmas on these. Laid by a program of this repo for the seat Yteicafpjkbajaaa; Lean checks it. -/
import Derived.Test.YteicafpjkbajaaaQ0
import Derived.Test.YteicafpjkbajaaaQ14
import Derived.Test.YteicafpjkbajaaaQ16
import Derived.Test.YteicafpjkbajaaaM0
namespace Go.Proofs.Yteicafpjkbajaaa.Print
open Go.RowKit Go.Proofs.YteicafpjkbajaaaW.PrintWords Go.Proofs.YteicafpjkbajaaaW.PrintLast Go.Proofs.YteicafpjkbajaaaW.PrintMore
attribute [local go_sem] max2_int min2_int max_two min_two max_three min_three max_four min_four   -- for this text's walks alone
set_option linter.unusedVariables false
set_option linter.unusedSimpArgs false

/-! ### facts on impl_Table_not -/
--IMPORT M0
open Go.Proofs.Yteicafpjkbajaaa.M in
theorem impl_Table_not.ev {n v : Nat} (hn : n ≤ 5) (hv : v < 2 ^ 2 ^ n) : impl_Table_not.f n v = some ((n : Int), ((notW (2 ^ n) v : Nat) : Int)) := by
  have h5 := pow_le_5 hn
  have hf := full_p63 hn
  have hp := Nat.two_pow_pos (2 ^ n)
  unfold impl_Table_not.f impl_Table_size.f
  rw [if_pos (Int.natCast_nonneg n)]
  simp only [Option.bind_some]
  have hs : 0 ≤ shl .i64 1 (n : Int) := by rw [shl_one (by omega)]; exact Int.natCast_nonneg _
  rw [if_pos hs, full_word' hn]
  have e : ((2 ^ 2 ^ n : Nat) : Int) - 1 = ((2 ^ 2 ^ n - 1 : Nat) : Int) := by omega
  rw [e, xor_nat (by omega) (by omega)]; rfl

end Go.Proofs.Yteicafpjkbajaaa.Print
