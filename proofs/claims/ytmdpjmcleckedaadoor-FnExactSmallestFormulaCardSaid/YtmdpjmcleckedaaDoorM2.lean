/- Sums, and the pairs of inputs that differ in one variable: no program in sight. -/
import Derived.Test.YtmdpjmcleckedaaDoorM1
namespace Go.Proofs.YtmdpjmcleckedaaDoor.M
open Go.RowKit Go.Proofs.YtmdpjmcleckedaaDoorW.PrintWords Go.Proofs.YtmdpjmcleckedaaDoorW.PrintLast
set_option linter.unusedVariables false
set_option linter.unusedSimpArgs false

def sumN (g : Nat → Nat) : Nat → Nat
  | 0 => 0
  | m + 1 => sumN g m + g m
theorem sumN_le {g : Nat → Nat} {B : Nat} (h : ∀ i, g i ≤ B) : ∀ m, sumN g m ≤ m * B
  | 0 => by simp [sumN]
  | m + 1 => by have := sumN_le h m; have := h m; rw [sumN, Nat.succ_mul]; omega
theorem sumN_congr {g g' : Nat → Nat} : ∀ {m : Nat}, (∀ i, i < m → g i = g' i) → sumN g m = sumN g' m
  | 0, _ => rfl
  | m + 1, h => by rw [sumN, sumN, sumN_congr (fun i hi => h i (by omega)), h m (by omega)]
/-- does an input of one word and one of the other differ in variable i -/
def edgeB (a b x i : Nat) : Nat := (a.testBit x && b.testBit (x ^^^ 2 ^ i)).toNat
def edgesAt (n a b x : Nat) : Nat := sumN (edgeB a b x) n
def edgesN (n a b : Nat) : Nat := sumN (edgesAt n a b) (2 ^ n)
theorem edgeB_le (a b x i : Nat) : edgeB a b x i ≤ 1 := toNat_le _
theorem edgesAt_le (n a b x : Nat) : edgesAt n a b x ≤ n := by have := sumN_le (edgeB_le a b x) n; unfold edgesAt; omega
theorem edgesUp_le (n a b m : Nat) : sumN (edgesAt n a b) m ≤ m * n := sumN_le (edgesAt_le n a b) m
theorem edgesN_le {n : Nat} (h : n ≤ 5) (a b : Nat) : edgesN n a b ≤ 160 := by
  have h1 := edgesUp_le n a b (2 ^ n)
  have h2 := pow_le_5 h
  have h3 : 2 ^ n * n ≤ 32 * 5 := Nat.mul_le_mul h2 h
  unfold edgesN; omega
theorem flip_lt {x i m : Nat} (hx : x < 2 ^ m) (hi : i < m) : x ^^^ 2 ^ i < 2 ^ m := Nat.xor_lt_two_pow hx (Nat.pow_lt_pow_right (by decide) hi)
theorem flip_int {x i : Nat} (hx : x < 2 ^ 5) (hi : i < 5) : Go.bits .xor .i64 (x : Int) (shl .i64 1 (i : Int)) = ((x ^^^ 2 ^ i : Nat) : Int) := by
  rw [shl_one (by omega), xor_nat (by omega) (Nat.lt_trans (Nat.pow_lt_pow_right (show 1 < 2 by decide) hi) (by decide))]
theorem lt_pow5 {x n : Nat} (hx : x < 2 ^ n) (hn : n ≤ 5) : x < 2 ^ 5 := Nat.lt_of_lt_of_le hx (Nat.pow_le_pow_right (by decide) hn)
theorem up1 {x : Nat} (h : x ≤ 1000000000000) : wrap64 ((x : Int) + 1) = ((x + 1 : Nat) : Int) := by rw [w64 (by omega) (by omega)]; omega

end Go.Proofs.YtmdpjmcleckedaaDoor.M
