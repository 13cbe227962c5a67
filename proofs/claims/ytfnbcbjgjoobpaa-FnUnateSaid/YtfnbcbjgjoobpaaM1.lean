/- How many ones a number of 32 bits has, by the sums of parts of words: no program in sight. -/
import Derived.Test.YtfnbcbjgjoobpaaM0
import Derived.Laws.BitsAllLaws
namespace Go.Proofs.Ytfnbcbjgjoobpaa.M
open Go.RowKit Go.Proofs.YtfnbcbjgjoobpaaW.PrintWords Go.Proofs.YtfnbcbjgjoobpaaW.PrintLast
set_option linter.unusedVariables false
set_option linter.unusedSimpArgs false

def repB (d : Nat) : Nat → Nat
  | 0 => 0
  | k + 1 => d + 256 * repB d k
def sA (k x : Nat) : Nat := (x / 2 &&& repB 85 k) + (x &&& repB 85 k)
def sB (k x : Nat) : Nat := (x / 4 &&& repB 51 k) + (x &&& repB 51 k)
def sC (k x : Nat) : Nat := (x / 16 + x) &&& repB 15 k
theorem s0 (k : Nat) : sA k 0 = 0 ∧ sB k 0 = 0 ∧ sC k 0 = 0 := by simp [sA, sB, sC]
/-- how many ones -/
def pc (w : Nat) : Nat := cnt w.testBit 32
theorem cnt_zero : ∀ m, cnt (0 : Nat).testBit m = 0
  | 0 => rfl
  | m + 1 => by rw [cnt, cnt_zero m, Nat.zero_testBit]; rfl
theorem cnt_head (g : Nat → Bool) : ∀ m, cnt g (m + 1) = (g 0).toNat + cnt (fun i => g (i + 1)) m
  | 0 => by simp [cnt]
  | m + 1 => by rw [cnt, cnt_head g m, cnt]; omega
theorem cnt_half (w m : Nat) : cnt w.testBit (m + 1) = w % 2 + cnt (w / 2).testBit m := by
  rw [cnt_head]
  have e : (w.testBit 0).toNat = w % 2 := by rw [Nat.toNat_testBit]; simp
  rw [e]
  congr 1
  exact cnt_congr (fun i _ => by rw [Nat.testBit_succ])
end Go.Proofs.Ytfnbcbjgjoobpaa.M
