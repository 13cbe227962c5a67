/- Functions of the given program as plain Lean functions, with proofs that their calls compute them, or lemmas on these. Laid by a program of this repo for the seat Yteicafpjkbajaaa; Lean checks it. -/
import Derived.Test.YteicafpjkbajaaaQ0
import Derived.Test.YteicafpjkbajaaaQ8
import Derived.Test.YteicafpjkbajaaaM2
namespace Go.Proofs.Yteicafpjkbajaaa.Print
open Go.RowKit Go.Proofs.YteicafpjkbajaaaW.PrintWords Go.Proofs.YteicafpjkbajaaaW.PrintLast Go.Proofs.YteicafpjkbajaaaW.PrintMore
attribute [local go_sem] max2_int min2_int max_two min_two max_three min_three max_four min_four   -- for this text's walks alone
set_option linter.unusedVariables false
set_option linter.unusedSimpArgs false

/-! ### facts on impl_edges -/
--IMPORT M2
open Go.Proofs.Yteicafpjkbajaaa.M in
theorem impl_edges.inner {n a b : Nat} (hn : n ≤ 5) (ha : a < 2 ^ 63) (hb : b < 2 ^ 63) {x : Nat} (hx : x < 2 ^ n) {S : Nat} (hS : S ≤ 1000) {r : Int}
    (he : Ev (fun k => impl_edges.l0 k n a b ((S + edgesAt n a b x : Nat) : Int) ((2 ^ n : Nat) : Int) ((x + 1 : Nat) : Int)) r) :
    ∀ d i, i + d = n → Ev (fun k => impl_edges.l1 k n a b ((S + sumN (edgeB a b x) i : Nat) : Int) (x : Int) ((2 ^ n : Nat) : Int) (x : Int) (n : Int) (i : Int)) r := by
  have h5 := pow_le_5 hn
  refine Ev.count (fun k i => impl_edges.l1 k n a b ((S + sumN (edgeB a b x) i : Nat) : Int) (x : Int) ((2 ^ n : Nat) : Int) (x : Int) (n : Int) (i : Int)) n r ?_ ?_
  · intro i hi h
    refine Ev.step (fun k => ?_) h
    have hle := sumN_le (edgeB_le a b x) i
    have hf := flip_lt (lt_pow5 hx hn) (show i < 5 by omega)
    simp only [impl_edges.l1]
    have e1 : Go.bits .and .i64 (Go.bits .and .i64 (shr .i64 (a : Int) (x : Int)) 1) (shr .i64 (b : Int) ((x ^^^ 2 ^ i : Nat) : Int)) = ((edgeB a b x i : Nat) : Int) := by
      rw [bit_nat ha (by omega), shr_nat (by omega), and_nat (Nat.lt_trans (toNat_lt _) (by decide)) (Nat.lt_of_le_of_lt (Nat.div_le_self _ _) hb)]
      unfold edgeB
      cases a.testBit x
      · simp
      · rw [show (true).toNat = 1 from rfl, Nat.and_comm, bit_of]; rfl
    rw [if_pos (by omega), if_pos (by omega), if_pos (by omega), flip_int (lt_pow5 hx hn) (by omega), if_pos (Int.natCast_nonneg _), e1, up1 (by omega)]
    have e2 := edgeB_le a b x i
    rw [w64 (by omega) (by omega)]
    show _ = impl_edges.l1 k n a b ((S + (sumN (edgeB a b x) i + edgeB a b x i) : Nat) : Int) _ _ _ _ _
    congr 1; omega
  · refine Ev.step (fun k => ?_) he
    simp only [impl_edges.l1]
    rw [if_neg (by omega), up1 (by omega)]; rfl
open Go.Proofs.Yteicafpjkbajaaa.M in
theorem impl_edges.ev {n a b : Nat} (hn : n ≤ 5) (ha : a < 2 ^ 63) (hb : b < 2 ^ 63) : Ev (fun k => impl_edges.f k n a b) ((edgesN n a b : Nat) : Int) := by
  have h5 := pow_le_5 hn
  have key : ∀ d x, x + d = 2 ^ n → Ev (fun k => impl_edges.l0 k n a b ((sumN (edgesAt n a b) x : Nat) : Int) ((2 ^ n : Nat) : Int) (x : Int)) ((edgesN n a b : Nat) : Int) := by
    refine Ev.count (fun k x => impl_edges.l0 k n a b ((sumN (edgesAt n a b) x : Nat) : Int) ((2 ^ n : Nat) : Int) (x : Int)) (2 ^ n) _ ?_ ?_
    · intro x hx h
      have hS := edgesUp_le n a b x
      have hS2 : x * n ≤ 32 * 5 := Nat.mul_le_mul (by omega) hn
      refine Ev.step (f := fun k => impl_edges.l1 k n a b ((sumN (edgesAt n a b) x + sumN (edgeB a b x) 0 : Nat) : Int) (x : Int) ((2 ^ n : Nat) : Int) (x : Int) (n : Int) ((0 : Nat) : Int)) (fun k => ?_) (impl_edges.inner hn ha hb hx (by omega) h n 0 (by omega))
      simp only [impl_edges.l0]
      rw [if_pos (by omega)]; rfl
    · refine Ev.end (fun k => ?_)
      simp only [impl_edges.l0]
      rw [if_neg (by omega)]; rfl
  refine Ev.congr (fun k => ?_) (key (2 ^ n) 0 (by omega))
  unfold impl_edges.f
  rw [if_pos (Int.natCast_nonneg _), shl_one (by omega)]; rfl

end Go.Proofs.Yteicafpjkbajaaa.Print
