/- Functions of the given program as plain Lean functions, with proofs that their calls compute them, or lemmas on these. Laid by a program of this repo for the seat Ytpnbeonpicekhaa; Lean checks it. -/
import Derived.Test.YtpnbeonpicekhaaKExactCountOfSize0
import Derived.Test.YtpnbeonpicekhaaKExactCountOfSize1
import Derived.Test.YtpnbeonpicekhaaKExactCountOfSize2
import Derived.Test.YtpnbeonpicekhaaKExactCountOfSize3
import Derived.Test.YtpnbeonpicekhaaKExactCountOfSize10
import Derived.Test.YtpnbeonpicekhaaKExactCountOfSize11
import Derived.Test.YtpnbeonpicekhaaM0
import Derived.Test.YtpnbeonpicekhaaM15
namespace Go.Proofs.Ytpnbeonpicekhaa.Print
open Go.RowKit Go.Proofs.YtpnbeonpicekhaaW.PrintWords Go.Proofs.YtpnbeonpicekhaaW.PrintLast Go.Proofs.YtpnbeonpicekhaaW.PrintMore
attribute [local go_sem] max2_int min2_int max_two min_two max_three min_three max_four min_four   -- for this text's walks alone
set_option linter.unusedVariables false
set_option linter.unusedSimpArgs false

/-! ### facts on spec_l2Full -/
--IMPORT M0
open Go.Proofs.Ytpnbeonpicekhaa.M in
theorem spec_l2Full.ev {n : Nat} (h : n ≤ 5) : spec_l2Full.f n = some (((2 ^ 2 ^ n : Nat) : Int) - 1) := by
  unfold spec_l2Full.f
  rw [if_pos (Int.natCast_nonneg n), full_word h]

/-! ### facts on spec_l1In -/
theorem spec_l1In.ev (a b c : Int) : spec_l1In.f a b c = some (decide (b ≤ a ∧ a ≤ c)) := by
  unfold spec_l1In.f
  by_cases h : b ≤ a
  · rw [if_pos h]; simp [h]
  · rw [if_neg h]; simp [h]

/-! ### facts on spec_SizesOf -/
--IMPORT M15
open Go.Proofs.Ytpnbeonpicekhaa.M in
/-- the sizes of all tables of so many variables -/
def spec_SizesOf.r (a : Int) : List Int × Bool := if 0 ≤ a ∧ a ≤ 3 then (szL a.toNat, true) else ([], false)
open Go.Proofs.Ytpnbeonpicekhaa.M in
theorem spec_SizesOf.ev (a : Int) : spec_SizesOf.f a = some (spec_SizesOf.r a) := by
  unfold spec_SizesOf.f spec_SizesOf.r
  rw [spec_l1In.ev, Option.bind_some]
  by_cases h : 0 ≤ a ∧ a ≤ 3
  · rw [decide_eq_true h, if_pos rfl, if_pos h]
    unfold spec_l22Sizes.f
    rw [if_pos h]; rfl
  · rw [decide_eq_false h, if_neg (by decide), if_neg h]
open Go.Proofs.Ytpnbeonpicekhaa.M in
theorem spec_SizesOf.len (a : Int) : (spec_SizesOf.r a).1.length ≤ 256 := by
  unfold spec_SizesOf.r
  by_cases h : 0 ≤ a ∧ a ≤ 3
  · rw [if_pos h]
    show (szL a.toNat).length ≤ 256
    rw [szL_len]
    have h8 := Nat.pow_le_pow_right (show 0 < 2 by decide) (show a.toNat ≤ 3 by omega)
    have := Nat.pow_le_pow_right (show 0 < 2 by decide) (show 2 ^ a.toNat ≤ 8 by simpa using h8)
    simpa [szN] using this
  · rw [if_neg h]; exact Nat.zero_le _

/-! ### facts on spec_CountOfSize -/
--IMPORT M15
open Go.Proofs.Ytpnbeonpicekhaa.M in
/-- how many sizes are s -/
def spec_CountOfSize.r (a s : Int) : Int := if (spec_SizesOf.r a).2 = true then ((cnt (fun j => rd (spec_SizesOf.r a).1 (j : Int) == s) (spec_SizesOf.r a).1.length : Nat) : Int) else -1
open Go.Proofs.Ytpnbeonpicekhaa.M in
theorem spec_CountOfSize.ev (a s : Int) : Ev (fun k => spec_CountOfSize.f k a s) (spec_CountOfSize.r a s) := by
  have hlen := spec_SizesOf.len a
  have hs := spec_SizesOf.ev a
  unfold spec_CountOfSize.r
  generalize spec_SizesOf.r a = q at *
  obtain ⟨l, b⟩ := q
  simp only [] at hlen
  cases b with
  | false =>
    refine Ev.of_some (fun k => ?_)
    unfold spec_CountOfSize.f
    rw [hs]; rfl
  | true =>
    have key : ∀ d i, i + d = l.length → Ev (fun k => spec_CountOfSize.l0 k s l ((cnt (fun j => rd l (j : Int) == s) i : Nat) : Int) (i : Int)) ((cnt (fun j => rd l (j : Int) == s) l.length : Nat) : Int) := by
      refine Ev.count (fun k i => spec_CountOfSize.l0 k s l ((cnt (fun j => rd l (j : Int) == s) i : Nat) : Int) (i : Int)) l.length _ ?_ ?_
      · intro i hi hn
        have hle := cnt_le (fun j => rd l (j : Int) == s) i
        refine Ev.step (fun k => ?_) hn
        simp only [spec_CountOfSize.l0]
        rw [if_pos (by omega), if_pos (by omega), cnt]
        by_cases e : rd l (i : Int) = s
        · rw [if_pos e, beq_iff_eq.mpr e, w64 (by omega) (by omega), w64 (by omega) (by omega)]; rfl
        · rw [if_neg e, beq_eq_false_iff_ne.mpr e, w64 (by omega) (by omega)]; rfl
      · refine Ev.end (fun k => ?_)
        simp only [spec_CountOfSize.l0]
        rw [if_neg (by omega)]
    refine Ev.congr (fun k => ?_) (key l.length 0 (by omega))
    unfold spec_CountOfSize.f
    rw [hs]; rfl

/-! ### facts on impl_SizesOf -/
--IMPORT M15
open Go.Proofs.Ytpnbeonpicekhaa.M in
theorem impl_SizesOf.ev (a : Int) : impl_SizesOf.f a = some (spec_SizesOf.r a) := by
  unfold impl_SizesOf.f spec_SizesOf.r
  by_cases h1 : a < 0
  · rw [if_pos h1, if_neg (by omega)]
  · rw [if_neg h1]
    by_cases h2 : a > 3
    · rw [if_pos h2, if_neg (by omega)]
    · rw [if_neg h2, if_pos (by omega)]
      unfold impl_sizes.f
      rw [if_pos (by omega)]; rfl

/-! ### facts on impl_CountOfSize -/
--IMPORT M15
open Go.Proofs.Ytpnbeonpicekhaa.M in
theorem impl_CountOfSize.ev (a s : Int) : Ev (fun k => impl_CountOfSize.f k a s) (spec_CountOfSize.r a s) := by
  have hlen := spec_SizesOf.len a
  have hs := impl_SizesOf.ev a
  unfold spec_CountOfSize.r
  generalize spec_SizesOf.r a = q at *
  obtain ⟨l, b⟩ := q
  simp only [] at hlen
  cases b with
  | false =>
    refine Ev.of_some (fun k => ?_)
    unfold impl_CountOfSize.f
    rw [hs]; rfl
  | true =>
    have key : ∀ d i, i + d = l.length → Ev (fun k => impl_CountOfSize.l0 k s ((cnt (fun j => rd l (j : Int) == s) i : Nat) : Int) l (l.length : Int) (i : Int)) ((cnt (fun j => rd l (j : Int) == s) l.length : Nat) : Int) := by
      refine Ev.count (fun k i => impl_CountOfSize.l0 k s ((cnt (fun j => rd l (j : Int) == s) i : Nat) : Int) l (l.length : Int) (i : Int)) l.length _ ?_ ?_
      · intro i hi hn
        have hle := cnt_le (fun j => rd l (j : Int) == s) i
        refine Ev.step (fun k => ?_) hn
        simp only [impl_CountOfSize.l0]
        rw [if_pos (by omega), if_pos (by omega), if_pos (by omega), cnt]
        by_cases e : rd l (i : Int) = s
        · rw [if_pos e, beq_iff_eq.mpr e, w64 (by omega) (by omega), w64 (by omega) (by omega)]; rfl
        · rw [if_neg e, beq_eq_false_iff_ne.mpr e, w64 (by omega) (by omega)]; rfl
      · refine Ev.end (fun k => ?_)
        simp only [impl_CountOfSize.l0]
        rw [if_neg (by omega)]
    refine Ev.congr (fun k => ?_) (key l.length 0 (by omega))
    unfold impl_CountOfSize.f
    rw [hs]; rfl

/-! ### facts on laws_FnExactCountOfSize -/
--IMPORT M15
open Go.Proofs.Ytpnbeonpicekhaa.M in
theorem laws_FnExactCountOfSize.pure_ : laws_FnExactCountOfSize.Pure := by
  intro a s _ _
  exact law2_ev (spec_CountOfSize.ev a s) (impl_CountOfSize.ev a s)

end Go.Proofs.Ytpnbeonpicekhaa.Print
