/- Functions of the given program as plain Lean functions, with proofs that their calls compute them, or lemmas on these. Laid by a program of this repo for the seat Ytcjlfdpfckicjaa; Lean checks it. -/
import Derived.Test.YtcjlfdpfckicjaaKExactOrientedTable0
import Derived.Test.YtcjlfdpfckicjaaKExactOrientedTable1
import Derived.Test.YtcjlfdpfckicjaaKExactOrientedTable4
import Derived.Test.YtcjlfdpfckicjaaKExactOrientedTable5
import Derived.Test.YtcjlfdpfckicjaaKExactOrientedTable6
import Derived.Test.YtcjlfdpfckicjaaKExactOrientedTable7
import Derived.Test.YtcjlfdpfckicjaaM0
import Derived.Test.YtcjlfdpfckicjaaM2
namespace Go.Proofs.Ytcjlfdpfckicjaa.Print
open Go.RowKit Go.Proofs.YtcjlfdpfckicjaaW.PrintWords Go.Proofs.YtcjlfdpfckicjaaW.PrintLast Go.Proofs.YtcjlfdpfckicjaaW.PrintMore
attribute [local go_sem] max2_int min2_int max_two min_two max_three min_three max_four min_four   -- for this text's walks alone
set_option linter.unusedVariables false
set_option linter.unusedSimpArgs false

/-! ### facts on spec_l1In -/
theorem spec_l1In.ev (a b c : Int) : spec_l1In.f a b c = some (decide (b ≤ a ∧ a ≤ c)) := by
  unfold spec_l1In.f
  by_cases h : b ≤ a
  · rw [if_pos h]; simp [h]
  · rw [if_neg h]; simp [h]

/-! ### facts on spec_IsTable -/
--IMPORT M0
open Go.Proofs.Ytcjlfdpfckicjaa.M in
theorem spec_IsTable.ev (a b : Int) : spec_IsTable.f a b = some (isT a b) := by
  unfold spec_IsTable.f isT
  rw [spec_l1In.ev]
  by_cases h : 0 ≤ a ∧ a ≤ 5
  · obtain ⟨n, rfl⟩ := nat_of h.1
    have hn : n ≤ 5 := by omega
    simp only [Option.bind_some, h, and_self, decide_true, if_true]
    rw [full_word hn, spec_l1In.ev]
    simp only [Option.bind_some, Int.toNat_natCast, h, true_and]
    congr 1
    apply decide_eq_decide.mpr
    omega
  · have h' : ¬ (0 ≤ a ∧ a ≤ 5 ∧ 0 ≤ b ∧ b < ((2 ^ 2 ^ a.toNat : Nat) : Int)) := fun e => h ⟨e.1, e.2.1⟩
    simp only [h, h', decide_false, Option.bind_some, Bool.false_eq_true, if_false]

/-! ### facts on spec_l3Restrict -/
--IMPORT M0
open Go.Proofs.Ytcjlfdpfckicjaa.M in
theorem spec_l3Restrict.ins_ev : ∀ x : Nat, x < 16 → ∀ i : Nat, i < 5 → ∀ b : Nat, b < 2 → (spec_l3Insert.f (x : Int) (i : Int) (b : Int) = some ((ins x i b : Nat) : Int) ∧ ins x i b < 32) :=
  allB_dec3 (P := fun x i b => spec_l3Insert.f (x : Int) (i : Int) (b : Int) = some ((ins x i b : Nat) : Int) ∧ ins x i b < 32) (by decide +kernel)
open Go.Proofs.Ytcjlfdpfckicjaa.M in
theorem spec_l3Restrict.ev {n v i b : Nat} (h1 : 1 ≤ n) (hn : n ≤ 5) (hv : v < 2 ^ 63) (hi : i < n) (hb : b ≤ 1) : Ev (fun k => spec_l3Restrict.f k n v i b) (((n - 1 : Nat) : Int), ((rstW n v i b : Nat) : Int)) := by
  have h16 := half16 hn
  have en : wrap64 ((n : Int) - 1) = ((n - 1 : Nat) : Int) := by rw [w64 (by omega) (by omega)]; omega
  have key : ∀ d x, x + d = 2 ^ (n - 1) → Ev (fun k => spec_l3Restrict.l0 k i b ((prefW (fun x => v.testBit (ins x i b)) x : Nat) : Int) (x : Int) n v) (((n - 1 : Nat) : Int), ((rstW n v i b : Nat) : Int)) := by
    refine Ev.count (fun k x => spec_l3Restrict.l0 k i b ((prefW (fun x => v.testBit (ins x i b)) x : Nat) : Int) (x : Int) n v) (2 ^ (n - 1)) _ ?_ ?_
    · intro x hx h
      refine Ev.step (fun k => ?_) h
      obtain ⟨e1, e2⟩ := spec_l3Restrict.ins_ev x (by omega) i (by omega) b (by omega)
      simp only [spec_l3Restrict.l0]
      rw [en, if_pos (Int.natCast_nonneg _), shl_one (by omega), if_pos (by omega), e1, Option.bind_some, if_pos (Int.natCast_nonneg _), if_pos (Int.natCast_nonneg _), bit_nat hv (by omega), prefW_step (g := fun x => v.testBit (ins x i b)) (by omega), w64 (by omega) (by omega)]
      rfl
    · refine Ev.end (fun k => ?_)
      simp only [spec_l3Restrict.l0]
      rw [en, if_pos (Int.natCast_nonneg _), shl_one (by omega), if_neg (by omega)]; rfl
  exact key (2 ^ (n - 1)) 0 (by omega)

/-! ### facts on spec_l26Polarity -/
--IMPORT M0
open Go.Proofs.Ytcjlfdpfckicjaa.M in
theorem spec_l26Polarity.ev {n v i : Nat} (h1 : 1 ≤ n) (hn : n ≤ 5) (hv : v < 2 ^ 63) (hi : i < n) : Ev (fun k => spec_l26Polarity.f k n v i) (polV n v i) := by
  have r0 := rstW_lt hn v i 0
  have r1 := rstW_lt hn v i 1
  refine Ev.bind (spec_l3Restrict.ev (b := 0) h1 hn hv hi (by omega)) (Ev.bind (spec_l3Restrict.ev (b := 1) h1 hn hv hi (by omega)) (Ev.of_some (fun k => ?_)))
  show (if ((rstW n v i 0 : Nat) : Int) = ((rstW n v i 1 : Nat) : Int) then _ else _) = _
  unfold polV pol
  rw [and_nat (by omega) (by omega)]
  generalize rstW n v i 0 = a at *
  generalize rstW n v i 1 = b at *
  by_cases e1 : a = b
  · rw [if_pos e1, if_pos (by omega)]
  · rw [if_neg e1, if_neg (by omega)]
    by_cases e2 : a &&& b = a
    · rw [if_pos e2, if_pos (by rw [e2])]
    · rw [if_neg e2, if_neg (by omega)]
      rw [Nat.and_comm b a]
      by_cases e3 : a &&& b = b
      · rw [if_pos e3, if_pos (by rw [e3])]
      · rw [if_neg e3, if_neg (by omega)]

/-! ### facts on spec_IsUnate -/
--IMPORT M0
open Go.Proofs.Ytcjlfdpfckicjaa.M in
theorem spec_IsUnate.evT {n v : Nat} (hn : n ≤ 5) (hv : v < 2 ^ 2 ^ n) : Ev (fun k => spec_IsUnate.f k n v) (noTwo (polV n v) n) := by
  have h32 := full_lt hn
  have ht := isT_mk hn hv
  have key : ∀ d i, i + d = n → (∀ j, j < i → polV n v j ≠ 2) → Ev (fun k => spec_IsUnate.l0 k (i : Int) n v) (noTwo (polV n v) n) := by
    intro d
    induction d with
    | zero =>
      intro i hi hj
      obtain rfl : i = n := by omega
      rw [noTwo_true hj]
      refine Ev.step (f := fun k => spec_IsUnate.j1 k (i : Int) false i v) (fun k => ?_) ?_
      · simp only [spec_IsUnate.l0]
        rw [spec_IsTable.ev, ht, Option.bind_some, if_pos rfl, decide_eq_false (by omega)]
      · refine Ev.end (fun k => ?_)
        simp only [spec_IsUnate.j1, Bool.false_eq_true, if_false]
        rw [spec_IsTable.ev, ht, Option.bind_some]
    | succ d ih =>
      intro i hi hj
      refine Ev.step (f := fun k => spec_IsUnate.j1 k (i : Int) true n v) (fun k => ?_) ?_
      · simp only [spec_IsUnate.l0]
        rw [spec_IsTable.ev, ht, Option.bind_some, if_pos rfl, decide_eq_true (by omega)]
      · refine Ev.step (f := fun k => (spec_l26Polarity.f k n v i).bind fun t => if t = 2 then some false else spec_IsUnate.l0 k (wrap64 ((i : Int) + 1)) n v) (fun k => ?_) ?_
        · simp only [spec_IsUnate.j1, if_true]
        · refine Ev.bind (spec_l26Polarity.ev (by omega) hn (by omega) (by omega)) ?_
          by_cases h2 : polV n v i = 2
          · rw [noTwo_false h2 (by omega)]
            exact Ev.of_some (fun k => if_pos h2)
          · have hnext := ih (i + 1) (by omega) (fun j hj' => by
              by_cases e : j = i
              · rw [e]; exact h2
              · exact hj j (by omega))
            refine Ev.congr (fun k => ?_) hnext
            rw [if_neg h2, w64 (by omega) (by omega)]; rfl
  exact key n 0 (by omega) (fun j hj => by omega)
open Go.Proofs.Ytcjlfdpfckicjaa.M in
theorem spec_IsUnate.evF {a b : Int} (ht : isT a b = false) : Ev (fun k => spec_IsUnate.f k a b) false := by
  refine Ev.step (f := fun k => spec_IsUnate.j1 k 0 false a b) (fun k => ?_) ?_
  · unfold spec_IsUnate.f
    simp only [spec_IsUnate.l0]
    rw [spec_IsTable.ev, ht, Option.bind_some, if_neg (by decide)]
  · refine Ev.end (fun k => ?_)
    simp only [spec_IsUnate.j1, Bool.false_eq_true, if_false]
    rw [spec_IsTable.ev, ht, Option.bind_some]

/-! ### facts on spec_UnateShift -/
--IMPORT M0
open Go.Proofs.Ytcjlfdpfckicjaa.M in
theorem spec_UnateShift.evT {n v : Nat} (hn : n ≤ 5) (hv : v < 2 ^ 2 ^ n) : Ev (fun k => spec_UnateShift.f k n v) (if noTwo (polV n v) n = true then (((prefW (fun i => polV n v i == -1) n : Nat) : Int), true) else (0, false)) := by
  have h32 := full_lt hn
  refine Ev.bind (spec_IsUnate.evT hn hv) ?_
  cases noTwo (polV n v) n with
  | false => exact Ev.now _
  | true =>
    simp only [if_true]
    have key : ∀ d i, i + d = n → Ev (fun k => spec_UnateShift.l0 k ((prefW (fun i => polV n v i == -1) i : Nat) : Int) (i : Int) n v) (((prefW (fun i => polV n v i == -1) n : Nat) : Int), true) := by
      refine Ev.count (fun k i => spec_UnateShift.l0 k ((prefW (fun i => polV n v i == -1) i : Nat) : Int) (i : Int) n v) n _ ?_ ?_
      · intro i hi hnext
        refine Ev.step (f := fun k => (spec_l26Polarity.f k n v i).bind fun t => if t = -1 then (if 0 ≤ (i : Int) then spec_UnateShift.l0 k (Go.bits .or .i64 ((prefW (fun i => polV n v i == -1) i : Nat) : Int) (shl .i64 1 (i : Int))) (wrap64 ((i : Int) + 1)) n v else none) else spec_UnateShift.l0 k ((prefW (fun i => polV n v i == -1) i : Nat) : Int) (wrap64 ((i : Int) + 1)) n v) (fun k => ?_) ?_
        · simp only [spec_UnateShift.l0]
          rw [if_pos (by omega)]
        · refine Ev.bind (spec_l26Polarity.ev (by omega) hn (by omega) hi) (Ev.congr (fun k => ?_) hnext)
          rw [w64 (by omega) (by omega)]
          by_cases h1 : polV n v i = -1
          · rw [if_pos h1, if_pos (by omega), prefW_step_one (g := fun i => polV n v i == -1) (by omega) (by rw [h1]; rfl)]; rfl
          · rw [if_neg h1, prefW_skip (g := fun i => polV n v i == -1) (beq_eq_false_iff_ne.mpr h1)]; rfl
      · refine Ev.end (fun k => ?_)
        simp only [spec_UnateShift.l0]
        rw [if_neg (by omega)]
    exact key n 0 (by omega)
open Go.Proofs.Ytcjlfdpfckicjaa.M in
theorem spec_UnateShift.evF {a b : Int} (ht : isT a b = false) : Ev (fun k => spec_UnateShift.f k a b) (0, false) := Ev.bind (spec_IsUnate.evF ht) (Ev.now _)

/-! ### facts on spec_l3Shift -/
--IMPORT M2
open Go.Proofs.Ytcjlfdpfckicjaa.M in
/-- the word after m rounds: each input's bit at the place with s turned -/
def spec_l3Shift.sh (v s : Nat) : Nat → Nat
  | 0 => 0
  | m + 1 => spec_l3Shift.sh v s m ||| (v.testBit m).toNat * 2 ^ (m ^^^ s)
theorem spec_l3Shift.one_bit (b : Bool) (p j : Nat) : (b.toNat * 2 ^ p).testBit j = (b && decide (j = p)) := by
  cases b
  · simp
  · rw [show true.toNat = 1 from rfl, Nat.one_mul, Nat.testBit_two_pow, Bool.true_and]
    exact decide_eq_decide.mpr ⟨fun e => e.symm, fun e => e.symm⟩
theorem spec_l3Shift.back {a b s : Nat} : a = b ^^^ s ↔ a ^^^ s = b := by
  constructor
  · rintro rfl; rw [Nat.xor_assoc, Nat.xor_self, Nat.xor_zero]
  · rintro rfl; rw [Nat.xor_assoc, Nat.xor_self, Nat.xor_zero]
theorem spec_l3Shift.sh_bit (v s j : Nat) : ∀ m, (spec_l3Shift.sh v s m).testBit j = (decide (j ^^^ s < m) && v.testBit (j ^^^ s))
  | 0 => by simp [spec_l3Shift.sh]
  | m + 1 => by
    rw [spec_l3Shift.sh, Nat.testBit_or, spec_l3Shift.sh_bit v s j m, spec_l3Shift.one_bit]
    by_cases h : j ^^^ s = m
    · have h2 : j = m ^^^ s := spec_l3Shift.back.mpr h
      rw [decide_eq_true h2, decide_eq_false (show ¬ j ^^^ s < m from by omega), decide_eq_true (show j ^^^ s < m + 1 from by omega), h]; simp
    · have h2 : ¬ j = m ^^^ s := fun e => h (spec_l3Shift.back.mp e)
      rw [decide_eq_false h2, Bool.and_false, Bool.or_false]
      congr 1
      exact decide_eq_decide.mpr ⟨fun e => by omega, fun e => by omega⟩
open Go.Proofs.Ytcjlfdpfckicjaa.M in
theorem spec_l3Shift.sh_all {n v s : Nat} (hs : s < 2 ^ n) : spec_l3Shift.sh v s (2 ^ n) = prefW (fun x => v.testBit (x ^^^ s)) (2 ^ n) := by
  apply Nat.eq_of_testBit_eq; intro j
  rw [spec_l3Shift.sh_bit, testBit_prefW]
  by_cases hj : j < 2 ^ n
  · rw [decide_eq_true hj, decide_eq_true (Nat.xor_lt_two_pow hj hs)]
  · rw [decide_eq_false hj, decide_eq_false (fun e => hj (by have := Nat.xor_lt_two_pow e hs; rwa [Nat.xor_assoc, Nat.xor_self, Nat.xor_zero] at this))]
open Go.Proofs.Ytcjlfdpfckicjaa.M in
theorem spec_l3Shift.sh_lt {v s : Nat} (hs : s < 2 ^ 5) : ∀ m, m ≤ 32 → spec_l3Shift.sh v s m < 2 ^ 32
  | 0, _ => by simp [spec_l3Shift.sh]
  | m + 1, h => by
    have hx : m ^^^ s < 2 ^ 5 := Nat.xor_lt_two_pow (by omega) hs
    have h1 : 2 ^ (m ^^^ s) < 2 ^ 32 := Nat.pow_lt_pow_right (by decide) (by omega)
    refine Nat.or_lt_two_pow (spec_l3Shift.sh_lt hs m (by omega)) ?_
    cases v.testBit m <;> simp <;> omega
open Go.Proofs.Ytcjlfdpfckicjaa.M in
theorem spec_l3Shift.ev {n v s : Nat} (hn : n ≤ 5) (hv : v < 2 ^ 63) (hs : s < 2 ^ n) : Ev (fun k => spec_l3Shift.f k n v s) ((n : Int), ((prefW (fun x => v.testBit (x ^^^ s)) (2 ^ n) : Nat) : Int)) := by
  have h5 := pow_le_5 hn
  rw [← spec_l3Shift.sh_all hs]
  have hs5 : s < 2 ^ 5 := by omega
  have key : ∀ d x, x + d = 2 ^ n → Ev (fun k => spec_l3Shift.l0 k s ((spec_l3Shift.sh v s x : Nat) : Int) (x : Int) n v) ((n : Int), ((spec_l3Shift.sh v s (2 ^ n) : Nat) : Int)) := by
    refine Ev.count (fun k x => spec_l3Shift.l0 k s ((spec_l3Shift.sh v s x : Nat) : Int) (x : Int) n v) (2 ^ n) _ ?_ ?_
    · intro x hx h
      refine Ev.step (fun k => ?_) h
      have hy : x ^^^ s < 2 ^ 5 := Nat.xor_lt_two_pow (by omega) hs5
      have h1 : 2 ^ (x ^^^ s) < 2 ^ 32 := Nat.pow_lt_pow_right (by decide) (by omega)
      have h2 : (v.testBit x).toNat * 2 ^ (x ^^^ s) < 2 ^ 63 := by cases v.testBit x <;> simp <;> omega
      have h3 := spec_l3Shift.sh_lt (v := v) hs5 x (by omega)
      simp only [spec_l3Shift.l0]
      rw [if_pos (Int.natCast_nonneg _), shl_one (by omega), if_pos (by omega), if_pos (Int.natCast_nonneg _), xor_nat (by omega) (by omega), if_pos (Int.natCast_nonneg _), bit_nat hv (by omega), shl_nat (by omega) h2, or_nat (by omega) h2, up1 (by omega)]
      rfl
    · refine Ev.end (fun k => ?_)
      simp only [spec_l3Shift.l0]
      rw [if_pos (Int.natCast_nonneg _), shl_one (by omega), if_neg (by omega)]
  exact key (2 ^ n) 0 (by omega)

/-! ### facts on impl_isBits -/
theorem impl_isBits.ev (a : Int) : impl_isBits.f a = some (decide (0 ≤ a ∧ a ≤ 5)) := by
  unfold impl_isBits.f
  by_cases h : 0 ≤ a
  · rw [if_pos h]; simp [h]
  · rw [if_neg h]; simp [h]

/-! ### facts on impl_IsTable -/
--IMPORT M0
open Go.Proofs.Ytcjlfdpfckicjaa.M in
theorem impl_IsTable.ev (a b : Int) : impl_IsTable.f a b = some (isT a b) := by
  unfold impl_IsTable.f isT
  rw [impl_isBits.ev]
  by_cases h : 0 ≤ a ∧ a ≤ 5
  · obtain ⟨n, rfl⟩ := nat_of h.1
    have hn : n ≤ 5 := by omega
    simp only [Option.bind_some, h, and_self, decide_true, if_true]
    by_cases hb : b ≥ 0
    · obtain ⟨v, rfl⟩ := nat_of hb
      have h5 := pow_le_5 hn
      rw [if_pos hb]
      unfold impl_Table_size.f
      rw [if_pos (Int.natCast_nonneg n), shl_one (by omega)]
      simp only [Option.bind_some]
      rw [if_pos (Int.natCast_nonneg _), shr_nat (by omega)]
      congr 1
      rw [Bool.eq_iff_iff]
      simp only [beq_iff_eq, decide_eq_true_eq, Int.toNat_natCast]
      have hz : v / 2 ^ 2 ^ n = 0 ↔ v < 2 ^ 2 ^ n := Nat.div_eq_zero_iff_lt (Nat.two_pow_pos _)
      rw [show (((v / 2 ^ 2 ^ n : Nat) : Int) = 0 ↔ v / 2 ^ 2 ^ n = 0) from by omega, hz]
      obtain ⟨P, hP⟩ : ∃ P, P = 2 ^ 2 ^ n := ⟨_, rfl⟩
      rw [← hP]
      simp only [h, true_and]
      omega
    · rw [if_neg hb]
      congr 1
      symm
      apply decide_eq_false
      omega
  · have h' : ¬ (0 ≤ a ∧ a ≤ 5 ∧ 0 ≤ b ∧ b < ((2 ^ 2 ^ a.toNat : Nat) : Int)) := fun e => h ⟨e.1, e.2.1⟩
    simp only [h, h', decide_false, Option.bind_some, Bool.false_eq_true, if_false]

/-! ### facts on impl_Table_restrict -/
--IMPORT M0
open Go.Proofs.Ytcjlfdpfckicjaa.M in
theorem impl_Table_restrict.ev {n v i b : Nat} (h1 : 1 ≤ n) (hn : n ≤ 5) (hv : v < 2 ^ 32) (hi : i < n) (hb : b ≤ 1) : impl_Table_restrict.f n v i b = some (((n - 1 : Nat) : Int), ((rstW n v i b : Nat) : Int)) := by
  unfold impl_Table_restrict.f
  rw [if_pos ⟨by omega, by omega, by omega, by omega, by omega, by omega, by omega, by omega⟩]
  simp only [Int.toNat_natCast]
  rw [show ((n : Int) - 1) = ((n - 1 : Nat) : Int) by omega]; rfl

/-! ### facts on impl_Table_polarity -/
--IMPORT M0
open Go.Proofs.Ytcjlfdpfckicjaa.M in
theorem impl_Table_polarity.ev {n v i : Nat} (h1 : 1 ≤ n) (hn : n ≤ 5) (hv : v < 2 ^ 32) (hi : i < n) : impl_Table_polarity.f n v i = some (polV n v i) := by
  have r0 := rstW_lt hn v i 0
  have r1 := rstW_lt hn v i 1
  unfold impl_Table_polarity.f
  have q0 := impl_Table_restrict.ev (b := 0) h1 hn hv hi (by omega)
  have q1 := impl_Table_restrict.ev (b := 1) h1 hn hv hi (by omega)
  have q0' : impl_Table_restrict.f n v i 0 = _ := q0
  have q1' : impl_Table_restrict.f n v i 1 = _ := q1
  rw [q0', Option.bind_some, q1', Option.bind_some]
  rw [andNot_nat (by omega) (by omega), andNot_nat (by omega) (by omega)]
  unfold polV pol
  have s1 := subset_iff (a := rstW n v i 0) (v := rstW n v i 1)
  have s2 := subset_iff (a := rstW n v i 1) (v := rstW n v i 0)
  generalize rstW n v i 0 = a at *
  generalize rstW n v i 1 = b at *
  by_cases e1 : a = b
  · rw [if_pos e1, if_pos (by omega)]
  · rw [if_neg e1, if_neg (by omega)]
    by_cases e2 : a &&& b = a
    · rw [if_pos e2, if_pos (by rw [s1.mp e2]; rfl)]
    · have z := fun e => e2 (s1.mpr e)
      rw [if_neg e2, if_neg (by omega)]
      by_cases e3 : b &&& a = b
      · rw [if_pos e3, if_pos (by rw [s2.mp e3]; rfl)]
      · have z := fun e => e3 (s2.mpr e)
        rw [if_neg e3, if_neg (by omega)]

/-! ### facts on impl_Table_unateShift -/
--IMPORT M0
open Go.Proofs.Ytcjlfdpfckicjaa.M in
theorem impl_Table_unateShift.ev {n v : Nat} (hn : n ≤ 5) (hv : v < 2 ^ 2 ^ n) : Ev (fun k => impl_Table_unateShift.f k n v) (if noTwo (polV n v) n = true then (((prefW (fun i => polV n v i == -1) n : Nat) : Int), true) else (0, false)) := by
  have h32 := full_lt hn
  have key : ∀ d i, i + d = n → (∀ j, j < i → polV n v j ≠ 2) → Ev (fun k => impl_Table_unateShift.l0 k ((prefW (fun i => polV n v i == -1) i : Nat) : Int) n (i : Int) n v) (if noTwo (polV n v) n = true then (((prefW (fun i => polV n v i == -1) n : Nat) : Int), true) else (0, false)) := by
    intro d
    induction d with
    | zero =>
      intro i hi hj
      obtain rfl : i = n := by omega
      rw [noTwo_true hj, if_pos rfl]
      refine Ev.end (fun k => ?_)
      simp only [impl_Table_unateShift.l0]
      rw [if_neg (by omega)]
    | succ d ih =>
      intro i hi hj
      have hp := impl_Table_polarity.ev (n := n) (v := v) (i := i) (by omega) hn (by omega) (by omega)
      by_cases h2 : polV n v i = 2
      · rw [noTwo_false h2 (by omega), if_neg (by decide)]
        refine Ev.end (fun k => ?_)
        simp only [impl_Table_unateShift.l0]
        rw [if_pos (by omega), hp, Option.bind_some, if_neg (by rw [h2]; decide), if_pos h2]
      · have hnext := ih (i + 1) (by omega) (fun j hj' => by
          by_cases e : j = i
          · rw [e]; exact h2
          · exact hj j (by omega))
        refine Ev.step (fun k => ?_) hnext
        simp only [impl_Table_unateShift.l0]
        rw [if_pos (by omega), hp, Option.bind_some, w64 (by omega) (by omega)]
        by_cases h1 : polV n v i = -1
        · rw [if_pos h1, if_pos (by omega), prefW_step_one (g := fun i => polV n v i == -1) (by omega) (by rw [h1]; rfl)]; rfl
        · rw [if_neg h1, if_neg h2, prefW_skip (g := fun i => polV n v i == -1) (beq_eq_false_iff_ne.mpr h1)]; rfl
  exact key n 0 (by omega) (fun j hj => by omega)

/-! ### facts on impl_UnateShift -/
--IMPORT M0
open Go.Proofs.Ytcjlfdpfckicjaa.M in
theorem impl_UnateShift.evT {n v : Nat} (hn : n ≤ 5) (hv : v < 2 ^ 2 ^ n) : Ev (fun k => impl_UnateShift.f k n v) (if noTwo (polV n v) n = true then (((prefW (fun i => polV n v i == -1) n : Nat) : Int), true) else (0, false)) := by
  unfold impl_UnateShift.f
  rw [impl_IsTable.ev, isT_mk hn hv]
  simp only [Option.bind_some, if_true]
  exact Ev.bind (impl_Table_unateShift.ev hn hv) (Ev.now _)
open Go.Proofs.Ytcjlfdpfckicjaa.M in
theorem impl_UnateShift.evF {a b : Int} (ht : isT a b = false) : Ev (fun k => impl_UnateShift.f k a b) (0, false) := by
  unfold impl_UnateShift.f
  rw [impl_IsTable.ev, ht]
  simp only [Option.bind_some, Bool.false_eq_true, if_false]
  exact Ev.now _

/-! ### facts on impl_Table_shift -/
--IMPORT M2
open Go.Proofs.Ytcjlfdpfckicjaa.M in
theorem impl_Table_shift.ev {n v s : Nat} (hn : n ≤ 5) (hv : v < 2 ^ 32) (hs : s < 2 ^ n) : impl_Table_shift.f n v s = some ((n : Int), ((prefW (fun x => v.testBit (x ^^^ s)) (2 ^ n) : Nat) : Int)) := by
  have h5 := pow_le_5 hn
  unfold impl_Table_shift.f
  rw [if_pos ⟨by omega, by omega, by omega, by omega, by omega, by omega⟩]
  simp only [Int.toNat_natCast]

/-! ### facts on laws_FnExactOrientedTable -/
--IMPORT M2
open Go.Proofs.Ytcjlfdpfckicjaa.M in
theorem laws_FnExactOrientedTable.same {S I : Nat → Option (Int × Int × Bool)} {r : Int × Int × Bool} (hs : Ev S r) (hi : Ev I r) :
    ∃ k, ((S k).bind fun t => (I k).bind fun u => (laws_eqTable.f u.1 u.2.1 t.1 t.2.1).bind fun q => if q = true then (if (u.2.2 != t.2.2) = true then some false else some true) else some false) = some true := by
  obtain ⟨K1, h1⟩ := hs
  obtain ⟨K2, h2⟩ := hi
  refine ⟨max K1 K2, ?_⟩
  rw [h1 _ (Nat.le_max_left _ _), h2 _ (Nat.le_max_right _ _)]
  simp [laws_eqTable.f]
open Go.Proofs.Ytcjlfdpfckicjaa.M in
theorem laws_FnExactOrientedTable.pure_ : laws_FnExactOrientedTable.Pure := by
  intro a b _ _
  unfold laws_FnExactOrientedTable.f laws_toTable.f
  simp only [Option.bind_some]
  cases ht : isT a b with
  | false =>
    exact laws_FnExactOrientedTable.same (r := (0, 0, false)) (Ev.bind (spec_UnateShift.evF ht) (Ev.now _)) (Ev.bind (impl_UnateShift.evF ht) (Ev.now _))
  | true =>
    obtain ⟨n, v, rfl, rfl, hn, hv⟩ := isT_nat ht
    have h32 := full_lt hn
    have hs := spec_UnateShift.evT hn hv
    have hi := impl_UnateShift.evT hn hv
    have hp := prefW_lt (fun i => polV n v i == -1) n
    generalize prefW (fun i => polV n v i == -1) n = p at hs hi hp
    by_cases h : noTwo (polV n v) n = true
    · rw [if_pos h] at hs hi
      exact laws_FnExactOrientedTable.same (r := ((n : Int), ((prefW (fun x => v.testBit (x ^^^ p)) (2 ^ n) : Nat) : Int), true))
        (Ev.bind hs (Ev.congr (fun k => if_pos rfl) (Ev.bind (spec_l3Shift.ev hn (by omega) hp) (Ev.now _))))
        (Ev.bind hi (Ev.congr (fun k => if_pos rfl) (Ev.bind (Ev.const (impl_Table_shift.ev hn (by omega) hp)) (Ev.now _))))
    · rw [if_neg h] at hs hi
      exact laws_FnExactOrientedTable.same (r := (0, 0, false)) (Ev.bind hs (Ev.now _)) (Ev.bind hi (Ev.now _))

end Go.Proofs.Ytcjlfdpfckicjaa.Print
