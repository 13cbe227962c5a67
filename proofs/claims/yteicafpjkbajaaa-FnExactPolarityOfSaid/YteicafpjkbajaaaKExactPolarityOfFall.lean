/- Functions of the given program as plain Lean functions, with proofs that their calls compute them, or lemmas on these. Laid by a program of this repo for the seat Yteicafpjkbajaaa; Lean checks it. -/
import Derived.Test.YteicafpjkbajaaaKExactPolarityOf0
import Derived.Test.YteicafpjkbajaaaKExactPolarityOf1
import Derived.Test.YteicafpjkbajaaaKExactPolarityOf4
import Derived.Test.YteicafpjkbajaaaKExactPolarityOf5
import Derived.Test.YteicafpjkbajaaaM0
namespace Go.Proofs.Yteicafpjkbajaaa.Print
open Go.RowKit Go.Proofs.YteicafpjkbajaaaW.PrintWords Go.Proofs.YteicafpjkbajaaaW.PrintLast Go.Proofs.YteicafpjkbajaaaW.PrintMore
attribute [local go_sem] max2_int min2_int max_two min_two max_three min_three max_four min_four   -- for this text's walks alone
set_option linter.unusedVariables false
set_option linter.unusedSimpArgs false

/-! ### facts on spec_l1In -/
theorem spec_l1In.ev (a b c : Int) : spec_l1In.f a b c = some (decide (b ≤ a ∧ a ≤ c)) := by
  unfold spec_l1In.f
  by_cases h : b ≤ a
  · rw [if_pos h]; simp [h]
  · rw [if_neg h]; simp [h]

/-! ### facts on spec_IsTable -/
--IMPORT M0
open Go.Proofs.Yteicafpjkbajaaa.M in
theorem spec_IsTable.ev (a b : Int) : spec_IsTable.f a b = some (isT a b) := by
  unfold spec_IsTable.f isT
  rw [spec_l1In.ev]
  by_cases h : 0 ≤ a ∧ a ≤ 5
  · obtain ⟨n, rfl⟩ := nat_of h.1
    have hn : n ≤ 5 := by omega
    simp only [Option.bind_some, h, and_self, decide_true, if_true]
    rw [full_word hn, spec_l1In.ev]
    simp only [Option.bind_some, Int.toNat_natCast, h, true_and]
    congr 1
    apply decide_eq_decide.mpr
    omega
  · have h' : ¬ (0 ≤ a ∧ a ≤ 5 ∧ 0 ≤ b ∧ b < ((2 ^ 2 ^ a.toNat : Nat) : Int)) := fun e => h ⟨e.1, e.2.1⟩
    simp only [h, h', decide_false, Option.bind_some, Bool.false_eq_true, if_false]

/-! ### facts on spec_l3Restrict -/
--IMPORT M0
open Go.Proofs.Yteicafpjkbajaaa.M in
theorem spec_l3Restrict.ins_ev : ∀ x : Nat, x < 16 → ∀ i : Nat, i < 5 → ∀ b : Nat, b < 2 → (spec_l3Insert.f (x : Int) (i : Int) (b : Int) = some ((ins x i b : Nat) : Int) ∧ ins x i b < 32) :=
  allB_dec3 (P := fun x i b => spec_l3Insert.f (x : Int) (i : Int) (b : Int) = some ((ins x i b : Nat) : Int) ∧ ins x i b < 32) (by decide +kernel)
open Go.Proofs.Yteicafpjkbajaaa.M in
theorem spec_l3Restrict.ev {n v i b : Nat} (h1 : 1 ≤ n) (hn : n ≤ 5) (hv : v < 2 ^ 63) (hi : i < n) (hb : b ≤ 1) : Ev (fun k => spec_l3Restrict.f k n v i b) (((n - 1 : Nat) : Int), ((rstW n v i b : Nat) : Int)) := by
  have h16 := half16 hn
  have en : wrap64 ((n : Int) - 1) = ((n - 1 : Nat) : Int) := by rw [w64 (by omega) (by omega)]; omega
  have key : ∀ d x, x + d = 2 ^ (n - 1) → Ev (fun k => spec_l3Restrict.l0 k i b ((prefW (fun x => v.testBit (ins x i b)) x : Nat) : Int) (x : Int) n v) (((n - 1 : Nat) : Int), ((rstW n v i b : Nat) : Int)) := by
    refine Ev.count (fun k x => spec_l3Restrict.l0 k i b ((prefW (fun x => v.testBit (ins x i b)) x : Nat) : Int) (x : Int) n v) (2 ^ (n - 1)) _ ?_ ?_
    · intro x hx h
      refine Ev.step (fun k => ?_) h
      obtain ⟨e1, e2⟩ := spec_l3Restrict.ins_ev x (by omega) i (by omega) b (by omega)
      simp only [spec_l3Restrict.l0]
      rw [en, if_pos (Int.natCast_nonneg _), shl_one (by omega), if_pos (by omega), e1, Option.bind_some, if_pos (Int.natCast_nonneg _), if_pos (Int.natCast_nonneg _), bit_nat hv (by omega), prefW_step (g := fun x => v.testBit (ins x i b)) (by omega), w64 (by omega) (by omega)]
      rfl
    · refine Ev.end (fun k => ?_)
      simp only [spec_l3Restrict.l0]
      rw [en, if_pos (Int.natCast_nonneg _), shl_one (by omega), if_neg (by omega)]; rfl
  exact key (2 ^ (n - 1)) 0 (by omega)

/-! ### facts on spec_l26Polarity -/
--IMPORT M0
open Go.Proofs.Yteicafpjkbajaaa.M in
/-- how a table turns with a variable, of its two halves -/
def spec_l26Polarity.pol (low high : Nat) : Int := if low = high then 0 else if low &&& high = low then 1 else if high &&& low = high then -1 else 2
open Go.Proofs.Yteicafpjkbajaaa.M in
theorem spec_l26Polarity.ev {n v i : Nat} (h1 : 1 ≤ n) (hn : n ≤ 5) (hv : v < 2 ^ 63) (hi : i < n) : Ev (fun k => spec_l26Polarity.f k n v i) (spec_l26Polarity.pol (rstW n v i 0) (rstW n v i 1)) := by
  have r0 := rstW_lt hn v i 0
  have r1 := rstW_lt hn v i 1
  refine Ev.bind (spec_l3Restrict.ev (b := 0) h1 hn hv hi (by omega)) (Ev.bind (spec_l3Restrict.ev (b := 1) h1 hn hv hi (by omega)) (Ev.of_some (fun k => ?_)))
  show (if ((rstW n v i 0 : Nat) : Int) = ((rstW n v i 1 : Nat) : Int) then _ else _) = _
  unfold spec_l26Polarity.pol
  rw [and_nat (by omega) (by omega)]
  generalize rstW n v i 0 = a at *
  generalize rstW n v i 1 = b at *
  by_cases e1 : a = b
  · rw [if_pos e1, if_pos (by omega)]
  · rw [if_neg e1, if_neg (by omega)]
    by_cases e2 : a &&& b = a
    · rw [if_pos e2, if_pos (by rw [e2])]
    · rw [if_neg e2, if_neg (by omega)]
      rw [Nat.and_comm b a]
      by_cases e3 : a &&& b = b
      · rw [if_pos e3, if_pos (by rw [e3])]
      · rw [if_neg e3, if_neg (by omega)]

/-! ### facts on impl_isBits -/
theorem impl_isBits.ev (a : Int) : impl_isBits.f a = some (decide (0 ≤ a ∧ a ≤ 5)) := by
  unfold impl_isBits.f
  by_cases h : 0 ≤ a
  · rw [if_pos h]; simp [h]
  · rw [if_neg h]; simp [h]

/-! ### facts on impl_IsTable -/
--IMPORT M0
open Go.Proofs.Yteicafpjkbajaaa.M in
theorem impl_IsTable.ev (a b : Int) : impl_IsTable.f a b = some (isT a b) := by
  unfold impl_IsTable.f isT
  rw [impl_isBits.ev]
  by_cases h : 0 ≤ a ∧ a ≤ 5
  · obtain ⟨n, rfl⟩ := nat_of h.1
    have hn : n ≤ 5 := by omega
    simp only [Option.bind_some, h, and_self, decide_true, if_true]
    by_cases hb : b ≥ 0
    · obtain ⟨v, rfl⟩ := nat_of hb
      have h5 := pow_le_5 hn
      rw [if_pos hb]
      unfold impl_Table_size.f
      rw [if_pos (Int.natCast_nonneg n), shl_one (by omega)]
      simp only [Option.bind_some]
      rw [if_pos (Int.natCast_nonneg _), shr_nat (by omega)]
      congr 1
      rw [Bool.eq_iff_iff]
      simp only [beq_iff_eq, decide_eq_true_eq, Int.toNat_natCast]
      have hz : v / 2 ^ 2 ^ n = 0 ↔ v < 2 ^ 2 ^ n := Nat.div_eq_zero_iff_lt (Nat.two_pow_pos _)
      rw [show (((v / 2 ^ 2 ^ n : Nat) : Int) = 0 ↔ v / 2 ^ 2 ^ n = 0) from by omega, hz]
      obtain ⟨P, hP⟩ : ∃ P, P = 2 ^ 2 ^ n := ⟨_, rfl⟩
      rw [← hP]
      simp only [h, true_and]
      omega
    · rw [if_neg hb]
      congr 1
      symm
      apply decide_eq_false
      omega
  · have h' : ¬ (0 ≤ a ∧ a ≤ 5 ∧ 0 ≤ b ∧ b < ((2 ^ 2 ^ a.toNat : Nat) : Int)) := fun e => h ⟨e.1, e.2.1⟩
    simp only [h, h', decide_false, Option.bind_some, Bool.false_eq_true, if_false]

/-! ### facts on impl_hasVariable -/
--IMPORT M0
open Go.Proofs.Yteicafpjkbajaaa.M in
theorem impl_hasVariable.ev (a b i : Int) : impl_hasVariable.f a b i = some (isT a b && decide (0 ≤ i ∧ i < a)) := by
  unfold impl_hasVariable.f
  rw [impl_IsTable.ev, Option.bind_some]
  cases isT a b with
  | false => rfl
  | true =>
    rw [if_pos rfl]
    by_cases h : 0 ≤ i
    · rw [if_pos h]; simp [h]
    · rw [if_neg h]; simp [h]

/-! ### facts on impl_Table_restrict -/
--IMPORT M0
open Go.Proofs.Yteicafpjkbajaaa.M in
theorem impl_Table_restrict.ev {n v i b : Nat} (h1 : 1 ≤ n) (hn : n ≤ 5) (hv : v < 2 ^ 32) (hi : i < n) (hb : b ≤ 1) : impl_Table_restrict.f n v i b = some (((n - 1 : Nat) : Int), ((rstW n v i b : Nat) : Int)) := by
  unfold impl_Table_restrict.f
  rw [if_pos ⟨by omega, by omega, by omega, by omega, by omega, by omega, by omega, by omega⟩]
  simp only [Int.toNat_natCast]
  rw [show ((n : Int) - 1) = ((n - 1 : Nat) : Int) by omega]; rfl

/-! ### facts on impl_Table_polarity -/
--IMPORT M0
open Go.Proofs.Yteicafpjkbajaaa.M in
theorem impl_Table_polarity.ev {n v i : Nat} (h1 : 1 ≤ n) (hn : n ≤ 5) (hv : v < 2 ^ 32) (hi : i < n) : impl_Table_polarity.f n v i = some (spec_l26Polarity.pol (rstW n v i 0) (rstW n v i 1)) := by
  have r0 := rstW_lt hn v i 0
  have r1 := rstW_lt hn v i 1
  unfold impl_Table_polarity.f
  have q0 := impl_Table_restrict.ev (b := 0) h1 hn hv hi (by omega)
  have q1 := impl_Table_restrict.ev (b := 1) h1 hn hv hi (by omega)
  have q0' : impl_Table_restrict.f n v i 0 = _ := q0
  have q1' : impl_Table_restrict.f n v i 1 = _ := q1
  rw [q0', Option.bind_some, q1', Option.bind_some]
  rw [andNot_nat (by omega) (by omega), andNot_nat (by omega) (by omega)]
  unfold spec_l26Polarity.pol
  have s1 := subset_iff (a := rstW n v i 0) (v := rstW n v i 1)
  have s2 := subset_iff (a := rstW n v i 1) (v := rstW n v i 0)
  generalize rstW n v i 0 = a at *
  generalize rstW n v i 1 = b at *
  by_cases e1 : a = b
  · rw [if_pos e1, if_pos (by omega)]
  · rw [if_neg e1, if_neg (by omega)]
    by_cases e2 : a &&& b = a
    · rw [if_pos e2, if_pos (by rw [s1.mp e2]; rfl)]
    · have z := fun e => e2 (s1.mpr e)
      rw [if_neg e2, if_neg (by omega)]
      by_cases e3 : b &&& a = b
      · rw [if_pos e3, if_pos (by rw [s2.mp e3]; rfl)]
      · have z := fun e => e3 (s2.mpr e)
        rw [if_neg e3, if_neg (by omega)]

/-! ### facts on laws_FnExactPolarityOf -/
--IMPORT M0
open Go.Proofs.Yteicafpjkbajaaa.M in
theorem laws_FnExactPolarityOf.pure_ : laws_FnExactPolarityOf.Pure := by
  intro a b i _ _ _
  unfold laws_FnExactPolarityOf.f laws_toTable.f spec_PolarityOf.f impl_PolarityOf.f
  simp only [Option.bind_some]
  rw [spec_IsTable.ev, impl_hasVariable.ev]
  cases ht : isT a b with
  | false => exact ⟨0, by simp⟩
  | true =>
    obtain ⟨n, v, rfl, rfl, hn, hv⟩ := isT_nat ht
    have h32 := full_lt hn
    simp only [Option.bind_some, if_true, spec_l1In.ev, Bool.true_and]
    have en : wrap64 ((n : Int) - 1) = (n : Int) - 1 := w64 (by omega) (by omega)
    rw [en]
    by_cases hi : 0 ≤ i ∧ i < (n : Int)
    · have hi' : 0 ≤ i ∧ i ≤ (n : Int) - 1 := ⟨hi.1, by omega⟩
      obtain ⟨j, rfl⟩ := nat_of hi.1
      rw [decide_eq_true hi, decide_eq_true hi']
      simp only [if_true]
      refine law2_ev (r := spec_l26Polarity.pol (rstW n v j 0) (rstW n v j 1)) ?_ ?_
      · exact Ev.bind (spec_l26Polarity.ev (by omega) hn (by omega) (by omega)) (Ev.now _)
      · exact Ev.const (by rw [impl_Table_polarity.ev (by omega) hn (by omega) (by omega)]; rfl)
    · have hi' : ¬ (0 ≤ i ∧ i ≤ (n : Int) - 1) := fun e => hi ⟨e.1, by omega⟩
      rw [decide_eq_false hi, decide_eq_false hi']
      exact ⟨0, by simp⟩

end Go.Proofs.Yteicafpjkbajaaa.Print
