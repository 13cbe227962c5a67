/- Functions of the given program as plain Lean functions, with proofs that their calls compute them, or lemmas on these. Laid by a program of this repo for the seat Ytpnbeonpicekhaa; Lean checks it. -/
import Derived.Test.YtpnbeonpicekhaaKExactLargestSize0
import Derived.Test.YtpnbeonpicekhaaKExactLargestSize1
import Derived.Test.YtpnbeonpicekhaaKExactLargestSize2
import Derived.Test.YtpnbeonpicekhaaKExactLargestSize3
import Derived.Test.YtpnbeonpicekhaaKExactLargestSize10
import Derived.Test.YtpnbeonpicekhaaKExactLargestSize11
import Derived.Test.YtpnbeonpicekhaaKExactLargestSize12
import Derived.Test.YtpnbeonpicekhaaKExactLargestSize13
import Derived.Test.YtpnbeonpicekhaaM0
import Derived.Test.YtpnbeonpicekhaaM15
namespace Go.Proofs.Ytpnbeonpicekhaa.Print
open Go.RowKit Go.Proofs.YtpnbeonpicekhaaW.PrintWords Go.Proofs.YtpnbeonpicekhaaW.PrintLast Go.Proofs.YtpnbeonpicekhaaW.PrintMore
attribute [local go_sem] max2_int min2_int max_two min_two max_three min_three max_four min_four   -- for this text's walks alone
set_option linter.unusedVariables false
set_option linter.unusedSimpArgs false

/-! ### facts on spec_l2Full -/
--IMPORT M0
open Go.Proofs.Ytpnbeonpicekhaa.M in
theorem spec_l2Full.ev {n : Nat} (h : n ≤ 5) : spec_l2Full.f n = some (((2 ^ 2 ^ n : Nat) : Int) - 1) := by
  unfold spec_l2Full.f
  rw [if_pos (Int.natCast_nonneg n), full_word h]

/-! ### facts on spec_l1In -/
theorem spec_l1In.ev (a b c : Int) : spec_l1In.f a b c = some (decide (b ≤ a ∧ a ≤ c)) := by
  unfold spec_l1In.f
  by_cases h : b ≤ a
  · rw [if_pos h]; simp [h]
  · rw [if_neg h]; simp [h]

/-! ### facts on spec_SizesOf -/
--IMPORT M15
open Go.Proofs.Ytpnbeonpicekhaa.M in
/-- the sizes of all tables of so many variables -/
def spec_SizesOf.r (a : Int) : List Int × Bool := if 0 ≤ a ∧ a ≤ 3 then (szL a.toNat, true) else ([], false)
open Go.Proofs.Ytpnbeonpicekhaa.M in
theorem spec_SizesOf.ev (a : Int) : spec_SizesOf.f a = some (spec_SizesOf.r a) := by
  unfold spec_SizesOf.f spec_SizesOf.r
  rw [spec_l1In.ev, Option.bind_some]
  by_cases h : 0 ≤ a ∧ a ≤ 3
  · rw [decide_eq_true h, if_pos rfl, if_pos h]
    unfold spec_l22Sizes.f
    rw [if_pos h]; rfl
  · rw [decide_eq_false h, if_neg (by decide), if_neg h]
open Go.Proofs.Ytpnbeonpicekhaa.M in
theorem spec_SizesOf.len (a : Int) : (spec_SizesOf.r a).1.length ≤ 256 := by
  unfold spec_SizesOf.r
  by_cases h : 0 ≤ a ∧ a ≤ 3
  · rw [if_pos h]
    show (szL a.toNat).length ≤ 256
    rw [szL_len]
    have h8 := Nat.pow_le_pow_right (show 0 < 2 by decide) (show a.toNat ≤ 3 by omega)
    have := Nat.pow_le_pow_right (show 0 < 2 by decide) (show 2 ^ a.toNat ≤ 8 by simpa using h8)
    simpa [szN] using this
  · rw [if_neg h]; exact Nat.zero_le _

/-! ### facts on spec_LargestSize -/
--IMPORT M15
open Go.Proofs.Ytpnbeonpicekhaa.M in
/-- the greatest of 0 and the first ones -/
def spec_LargestSize.top (l : List Int) : Nat → Int
  | 0 => 0
  | i + 1 => mx (spec_LargestSize.top l i) (rd l (i : Int))
open Go.Proofs.Ytpnbeonpicekhaa.M in
def spec_LargestSize.r (a : Int) : Int := if (spec_SizesOf.r a).2 = true then spec_LargestSize.top (spec_SizesOf.r a).1 (spec_SizesOf.r a).1.length else -1
open Go.Proofs.Ytpnbeonpicekhaa.M in
theorem spec_LargestSize.ev (a : Int) : Ev (fun k => spec_LargestSize.f k a) (spec_LargestSize.r a) := by
  have hlen := spec_SizesOf.len a
  have hs := spec_SizesOf.ev a
  unfold spec_LargestSize.r
  generalize spec_SizesOf.r a = q at *
  obtain ⟨l, b⟩ := q
  simp only [] at hlen
  cases b with
  | false =>
    refine Ev.of_some (fun k => ?_)
    unfold spec_LargestSize.f
    rw [hs]; rfl
  | true =>
    have key : ∀ d i, i + d = l.length → Ev (fun k => spec_LargestSize.l0 k l (spec_LargestSize.top l i) (i : Int)) (spec_LargestSize.top l l.length) := by
      refine Ev.count (fun k i => spec_LargestSize.l0 k l (spec_LargestSize.top l i) (i : Int)) l.length _ ?_ ?_
      · intro i hi hn
        refine Ev.step (fun k => ?_) hn
        simp only [spec_LargestSize.l0]
        rw [if_pos (by omega), if_pos (by omega), w64 (by omega) (by omega)]; rfl
      · refine Ev.end (fun k => ?_)
        simp only [spec_LargestSize.l0]
        rw [if_neg (by omega)]
    refine Ev.congr (fun k => ?_) (key l.length 0 (by omega))
    unfold spec_LargestSize.f
    rw [hs]; rfl

/-! ### facts on impl_SizesOf -/
--IMPORT M15
open Go.Proofs.Ytpnbeonpicekhaa.M in
theorem impl_SizesOf.ev (a : Int) : impl_SizesOf.f a = some (spec_SizesOf.r a) := by
  unfold impl_SizesOf.f spec_SizesOf.r
  by_cases h1 : a < 0
  · rw [if_pos h1, if_neg (by omega)]
  · rw [if_neg h1]
    by_cases h2 : a > 3
    · rw [if_pos h2, if_neg (by omega)]
    · rw [if_neg h2, if_pos (by omega)]
      unfold impl_sizes.f
      rw [if_pos (by omega)]; rfl

/-! ### facts on impl_LargestSize -/
--IMPORT M15
open Go.Proofs.Ytpnbeonpicekhaa.M in
theorem impl_LargestSize.best (l : List Int) (h0 : rd l 0 = 0) : ∀ i, slices_Max_int_int.best l i = spec_LargestSize.top l (i + 1)
  | 0 => by
    have e : l.getD 0 0 = 0 := h0
    rw [slices_Max_int_int.best, e]
    show (0 : Int) = mx 0 (rd l ((0 : Nat) : Int))
    rw [show ((0 : Nat) : Int) = 0 from rfl, h0]; rfl
  | i + 1 => by
    have e : l.getD (i + 1) 0 = rd l ((i + 1 : Nat) : Int) := by unfold rd; rw [Int.toNat_natCast]
    rw [slices_Max_int_int.best, impl_LargestSize.best l h0 i, e]
    rfl
open Go.Proofs.Ytpnbeonpicekhaa.M in
theorem impl_LargestSize.ev (a : Int) : impl_LargestSize.f a = some (spec_LargestSize.r a) := by
  unfold impl_LargestSize.f spec_LargestSize.r
  rw [impl_SizesOf.ev, Option.bind_some]
  unfold spec_SizesOf.r
  by_cases h : 0 ≤ a ∧ a ≤ 3
  · rw [if_pos h, if_pos rfl, if_pos rfl]
    have hp := szN_pos (n := a.toNat)
    have hl := szL_len a.toNat
    have h0 : rd (szL a.toNat) ((0 : Nat) : Int) = 0 := by
      rw [rd_szL (by omega), (szT_zero (by omega) (by omega)).mpr (.inl rfl)]; rfl
    unfold slices_Max_int_int.f
    show (if 0 < (szL a.toNat).length then _ else _ : Option Int).bind _ = _
    rw [if_pos (by omega), Option.bind_some, impl_LargestSize.best _ h0]
    show some _ = some (spec_LargestSize.top (szL a.toNat) (szL a.toNat).length)
    rw [show (szL a.toNat).length - 1 + 1 = (szL a.toNat).length by omega]
  · rw [if_neg h]; rfl

/-! ### facts on laws_FnExactLargestSize -/
--IMPORT M15
open Go.Proofs.Ytpnbeonpicekhaa.M in
theorem laws_FnExactLargestSize.pure_ : laws_FnExactLargestSize.Pure := by
  intro a _
  exact law2_ev (spec_LargestSize.ev a) (Ev.of_some (fun _ => impl_LargestSize.ev a))

end Go.Proofs.Ytpnbeonpicekhaa.Print
