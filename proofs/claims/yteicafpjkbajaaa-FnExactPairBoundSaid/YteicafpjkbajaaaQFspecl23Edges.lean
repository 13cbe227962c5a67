/- Functions of the given program as plain Lean functions, with proofs that their calls compute them, or lemmas on these. Laid by a program of this repo for the seat Yteicafpjkbajaaa; Lean checks it. -/
import Derived.Test.YteicafpjkbajaaaQ0
import Derived.Test.YteicafpjkbajaaaQ7
import Derived.Test.YteicafpjkbajaaaM2
namespace Go.Proofs.Yteicafpjkbajaaa.Print
open Go.RowKit Go.Proofs.YteicafpjkbajaaaW.PrintWords Go.Proofs.YteicafpjkbajaaaW.PrintLast Go.Proofs.YteicafpjkbajaaaW.PrintMore
attribute [local go_sem] max2_int min2_int max_two min_two max_three min_three max_four min_four   -- for this text's walks alone
set_option linter.unusedVariables false
set_option linter.unusedSimpArgs false

/-! ### facts on spec_l23Edges -/
--IMPORT M2
open Go.Proofs.Yteicafpjkbajaaa.M in
theorem spec_l23Edges.inner {n a b : Nat} (hn : n ≤ 5) (ha : a < 2 ^ 63) (hb : b < 2 ^ 63) {x : Nat} (hx : x < 2 ^ n) {S : Nat} (hS : S ≤ 1000) {r : Int}
    (he : Ev (fun k => spec_l23Edges.l0 k n a b ((S + edgesAt n a b x : Nat) : Int) ((x + 1 : Nat) : Int)) r) :
    ∀ d i, i + d = n → Ev (fun k => spec_l23Edges.l1 k n a b ((S + sumN (edgeB a b x) i : Nat) : Int) (x : Int) (i : Int)) r := by
  have h5 := pow_le_5 hn
  refine Ev.count (fun k i => spec_l23Edges.l1 k n a b ((S + sumN (edgeB a b x) i : Nat) : Int) (x : Int) (i : Int)) n r ?_ ?_
  · intro i hi h
    refine Ev.step (fun k => ?_) h
    have hle := sumN_le (edgeB_le a b x) i
    have hf := flip_lt (lt_pow5 hx hn) (show i < 5 by omega)
    simp only [spec_l23Edges.l1]
    rw [if_pos (by omega), if_pos (by omega), bit_nat ha (by omega)]
    have eb : edgeB a b x i = (a.testBit x && b.testBit (x ^^^ 2 ^ i)).toNat := rfl
    show _ = spec_l23Edges.l1 k n a b ((S + (sumN (edgeB a b x) i + edgeB a b x i) : Nat) : Int) (x : Int) ((i + 1 : Nat) : Int)
    rw [eb]
    cases a.testBit x
    · rw [if_neg (by decide), up1 (by omega)]; rfl
    · rw [if_pos (by rfl), if_pos (by omega), flip_int (lt_pow5 hx hn) (by omega), if_pos (Int.natCast_nonneg _), bit_nat hb (by omega)]
      cases b.testBit (x ^^^ 2 ^ i)
      · rw [if_neg (by decide), up1 (by omega)]; rfl
      · rw [if_pos (by rfl), up1 (by omega), up1 (by omega)]; rfl
  · refine Ev.step (fun k => ?_) he
    simp only [spec_l23Edges.l1]
    rw [if_neg (by omega), up1 (by omega)]; rfl
open Go.Proofs.Yteicafpjkbajaaa.M in
theorem spec_l23Edges.ev {n a b : Nat} (hn : n ≤ 5) (ha : a < 2 ^ 63) (hb : b < 2 ^ 63) : Ev (fun k => spec_l23Edges.f k n a b) ((edgesN n a b : Nat) : Int) := by
  have h5 := pow_le_5 hn
  have key : ∀ d x, x + d = 2 ^ n → Ev (fun k => spec_l23Edges.l0 k n a b ((sumN (edgesAt n a b) x : Nat) : Int) (x : Int)) ((edgesN n a b : Nat) : Int) := by
    refine Ev.count (fun k x => spec_l23Edges.l0 k n a b ((sumN (edgesAt n a b) x : Nat) : Int) (x : Int)) (2 ^ n) _ ?_ ?_
    · intro x hx h
      have hS := edgesUp_le n a b x
      have hS2 : x * n ≤ 32 * 5 := Nat.mul_le_mul (by omega) hn
      refine Ev.step (f := fun k => spec_l23Edges.l1 k n a b ((sumN (edgesAt n a b) x + sumN (edgeB a b x) 0 : Nat) : Int) (x : Int) ((0 : Nat) : Int)) (fun k => ?_) (spec_l23Edges.inner hn ha hb hx (by omega) h n 0 (by omega))
      simp only [spec_l23Edges.l0]
      rw [if_pos (Int.natCast_nonneg _), shl_one (by omega), if_pos (by omega)]; rfl
    · refine Ev.end (fun k => ?_)
      simp only [spec_l23Edges.l0]
      rw [if_pos (Int.natCast_nonneg _), shl_one (by omega), if_neg (by omega)]; rfl
  exact key (2 ^ n) 0 (by omega)

end Go.Proofs.Yteicafpjkbajaaa.Print
