/- Functions of the given program as plain Lean functions, with proofs that their calls compute them, or lemmas on these. Laid by a program of this repo for the seat Ytpnbeonpicekhaa; Lean checks it. -/
import Derived.Test.YtpnbeonpicekhaaKExactSizesOf0
import Derived.Test.YtpnbeonpicekhaaKExactSizesOf1
import Derived.Test.YtpnbeonpicekhaaKExactSizesOf2
import Derived.Test.YtpnbeonpicekhaaKExactSizesOf3
import Derived.Test.YtpnbeonpicekhaaKExactSizesOf10
import Derived.Test.YtpnbeonpicekhaaKExactSizesOf11
import Derived.Test.YtpnbeonpicekhaaM0
import Derived.Test.YtpnbeonpicekhaaM15
import Derived.Test.YtpnbeonpicekhaaM5
import Derived.Test.YtpnbeonpicekhaaM8
namespace Go.Proofs.Ytpnbeonpicekhaa.Print
open Go.RowKit Go.Proofs.YtpnbeonpicekhaaW.PrintWords Go.Proofs.YtpnbeonpicekhaaW.PrintLast Go.Proofs.YtpnbeonpicekhaaW.PrintMore
attribute [local go_sem] max2_int min2_int max_two min_two max_three min_three max_four min_four   -- for this text's walks alone
set_option linter.unusedVariables false
set_option linter.unusedSimpArgs false

/-! ### facts on spec_l2Full -/
--IMPORT M0
open Go.Proofs.Ytpnbeonpicekhaa.M in
theorem spec_l2Full.ev {n : Nat} (h : n ≤ 5) : spec_l2Full.f n = some (((2 ^ 2 ^ n : Nat) : Int) - 1) := by
  unfold spec_l2Full.f
  rw [if_pos (Int.natCast_nonneg n), full_word h]

/-! ### facts on spec_l1In -/
theorem spec_l1In.ev (a b c : Int) : spec_l1In.f a b c = some (decide (b ≤ a ∧ a ≤ c)) := by
  unfold spec_l1In.f
  by_cases h : b ≤ a
  · rw [if_pos h]; simp [h]
  · rw [if_neg h]; simp [h]

/-! ### facts on spec_SizesOf -/
--IMPORT M15
open Go.Proofs.Ytpnbeonpicekhaa.M in
/-- the sizes of all tables of so many variables -/
def spec_SizesOf.r (a : Int) : List Int × Bool := if 0 ≤ a ∧ a ≤ 3 then (szL a.toNat, true) else ([], false)
open Go.Proofs.Ytpnbeonpicekhaa.M in
theorem spec_SizesOf.ev (a : Int) : spec_SizesOf.f a = some (spec_SizesOf.r a) := by
  unfold spec_SizesOf.f spec_SizesOf.r
  rw [spec_l1In.ev, Option.bind_some]
  by_cases h : 0 ≤ a ∧ a ≤ 3
  · rw [decide_eq_true h, if_pos rfl, if_pos h]
    unfold spec_l22Sizes.f
    rw [if_pos h]; rfl
  · rw [decide_eq_false h, if_neg (by decide), if_neg h]
open Go.Proofs.Ytpnbeonpicekhaa.M in
theorem spec_SizesOf.len (a : Int) : (spec_SizesOf.r a).1.length ≤ 256 := by
  unfold spec_SizesOf.r
  by_cases h : 0 ≤ a ∧ a ≤ 3
  · rw [if_pos h]
    show (szL a.toNat).length ≤ 256
    rw [szL_len]
    have h8 := Nat.pow_le_pow_right (show 0 < 2 by decide) (show a.toNat ≤ 3 by omega)
    have := Nat.pow_le_pow_right (show 0 < 2 by decide) (show 2 ^ a.toNat ≤ 8 by simpa using h8)
    simpa [szN] using this
  · rw [if_neg h]; exact Nat.zero_le _

/-! ### facts on impl_SizesOf -/
--IMPORT M15
open Go.Proofs.Ytpnbeonpicekhaa.M in
theorem impl_SizesOf.ev (a : Int) : impl_SizesOf.f a = some (spec_SizesOf.r a) := by
  unfold impl_SizesOf.f spec_SizesOf.r
  by_cases h1 : a < 0
  · rw [if_pos h1, if_neg (by omega)]
  · rw [if_neg h1]
    by_cases h2 : a > 3
    · rw [if_pos h2, if_neg (by omega)]
    · rw [if_neg h2, if_pos (by omega)]
      unfold impl_sizes.f
      rw [if_pos (by omega)]; rfl

/-! ### facts on laws_eqIntS -/
--IMPORT M5
open Go.Proofs.Ytpnbeonpicekhaa.M in
theorem laws_eqIntS.ev (l : List Int) (h : l.length ≤ 1048576) : Ev (fun k => laws_eqIntS.f k l l) true := by
  have key : ∀ d i, i + d = l.length → Ev (fun k => laws_eqIntS.l0 k l l (i : Int)) true := by
    refine Ev.count (fun k i => laws_eqIntS.l0 k l l (i : Int)) l.length _ ?_ ?_
    · intro i hi hn
      refine Ev.step (fun k => ?_) hn
      simp only [laws_eqIntS.l0, if_true]
      rw [if_pos (by omega), if_pos (by omega), if_pos (by omega), w64 (by omega) (by omega)]; rfl
    · refine Ev.end (fun k => ?_)
      simp only [laws_eqIntS.l0]
      rw [if_neg (by omega)]
  refine Ev.congr (fun k => ?_) (key l.length 0 (by omega))
  unfold laws_eqIntS.f
  rw [if_pos rfl]; rfl

/-! ### facts on laws_markIntS -/
--IMPORT M5
open Go.Proofs.Ytpnbeonpicekhaa.M in
theorem laws_markIntS.ev (l : List Int) (a : Int) (h : l.length ≤ 1048576) (ha : 0 ≤ a) (hb : a ≤ 1000000000000) : Ev (fun k => laws_markIntS.f k l a) (a + (l.length : Int), upTo a l.length) := by
  have key : ∀ d i, i + d = l.length → Ev (fun k => laws_markIntS.l0 k (upTo a i ++ l.drop i) (a + (i : Int)) (i : Int)) (a + (l.length : Int), upTo a l.length) := by
    refine Ev.count (fun k i => laws_markIntS.l0 k (upTo a i ++ l.drop i) (a + (i : Int)) (i : Int)) l.length _ ?_ ?_
    · intro i hi hn
      refine Ev.step (fun k => ?_) hn
      simp only [laws_markIntS.l0]
      rw [if_pos (by rw [upTo_len (by omega)]; omega), if_pos (by omega), Int.toNat_natCast, upTo_set hi, w64 (by omega) (by omega), w64 (by omega) (by omega)]
      congr 1; omega
    · refine Ev.end (fun k => ?_)
      simp only [laws_markIntS.l0]
      rw [upTo_all, if_neg (by rw [upTo_length]; omega)]
  have h0 := key l.length 0 (by omega)
  rw [upTo_zero] at h0
  refine Ev.congr (fun k => ?_) h0
  unfold laws_markIntS.f
  simp

/-! ### facts on laws_heldIntS -/
--IMPORT M5
open Go.Proofs.Ytpnbeonpicekhaa.M in
theorem laws_heldIntS.ev (n : Nat) (a : Int) (h : n ≤ 1048576) (ha : 0 ≤ a) (hb : a ≤ 1000000000000) : Ev (fun k => laws_heldIntS.f k (upTo a n) a) (a + (n : Int)) := by
  have key : ∀ d i, i + d = n → Ev (fun k => laws_heldIntS.l0 k (upTo a n) (a + (i : Int)) (i : Int)) (a + (n : Int)) := by
    refine Ev.count (fun k i => laws_heldIntS.l0 k (upTo a n) (a + (i : Int)) (i : Int)) n _ ?_ ?_
    · intro i hi hn
      refine Ev.step (fun k => ?_) hn
      simp only [laws_heldIntS.l0]
      rw [if_pos (by rw [upTo_length]; omega), if_pos (by omega), upTo_rd hi, if_pos rfl, w64 (by omega) (by omega), w64 (by omega) (by omega)]
      congr 1; omega
    · refine Ev.end (fun k => ?_)
      simp only [laws_heldIntS.l0]
      rw [if_neg (by rw [upTo_length]; omega)]
  refine Ev.congr (fun k => ?_) (key n 0 (by omega))
  unfold laws_heldIntS.f
  simp

/-! ### facts on laws_FnExactSizesOf -/
--IMPORT M8
open Go.Proofs.Ytpnbeonpicekhaa.M in
theorem laws_FnExactSizesOf.pure_ : laws_FnExactSizesOf.Pure := by
  intro a _
  have hs := spec_SizesOf.ev a
  have hi := impl_SizesOf.ev a
  have hr : (spec_SizesOf.r a).1.length ≤ 1048576 := Nat.le_trans (spec_SizesOf.len a) (by decide)
  generalize spec_SizesOf.r a = q at *
  obtain ⟨r, b⟩ := q
  obtain ⟨K7, h7⟩ : ∃ K, ∀ k, K ≤ k → laws_eqIntS.f k r r = some true := laws_eqIntS.ev r hr
  obtain ⟨K10, h10⟩ : ∃ K, ∀ k, K ≤ k → laws_markIntS.f k r 1 = some (1 + (r.length : Int), upTo 1 r.length) := laws_markIntS.ev r 1 hr (by decide) (by decide)
  obtain ⟨K11, h11⟩ : ∃ K, ∀ k, K ≤ k → laws_heldIntS.f k (upTo 1 r.length) 1 = some (1 + (r.length : Int)) := laws_heldIntS.ev r.length 1 hr (by decide) (by decide)
  have n4 : ¬ (1 + (r.length : Int) < 0) := by omega
  obtain ⟨k, hk⟩ : ∃ k, k = K7 + K10 + K11 := ⟨_, rfl⟩
  refine ⟨k + 2, ?_⟩
  simp (disch := omega) only [laws_FnExactSizesOf.f, laws_FnExactSizesOf.j0, laws_FnExactSizesOf.j1, hs, hi, h7, h10, h11, n4, ↓reduceIte, Option.bind_some, bne_self_eq_false, Bool.false_eq_true]

end Go.Proofs.Ytpnbeonpicekhaa.Print
