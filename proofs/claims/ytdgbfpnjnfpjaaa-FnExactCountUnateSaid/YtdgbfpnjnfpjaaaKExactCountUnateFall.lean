/- Functions of the given program as plain Lean functions, with proofs that their calls compute them, or lemmas on these. Laid by a program of this repo for the seat Ytdgbfpnjnfpjaaa; Lean checks it. -/
import Derived.Test.YtdgbfpnjnfpjaaaKExactCountUnate0
import Derived.Test.YtdgbfpnjnfpjaaaKExactCountUnate1
import Derived.Test.YtdgbfpnjnfpjaaaKExactCountUnate5
import Derived.Test.YtdgbfpnjnfpjaaaKExactCountUnate8
import Derived.Test.YtdgbfpnjnfpjaaaKExactCountUnate9
import Derived.Test.YtdgbfpnjnfpjaaaKExactCountUnate10
import Derived.Test.YtdgbfpnjnfpjaaaKExactCountUnate11
import Derived.Test.YtdgbfpnjnfpjaaaM0
import Derived.Test.YtdgbfpnjnfpjaaaM7
namespace Go.Proofs.Ytdgbfpnjnfpjaaa.Print
open Go.RowKit Go.Proofs.YtdgbfpnjnfpjaaaW.PrintWords Go.Proofs.YtdgbfpnjnfpjaaaW.PrintLast Go.Proofs.YtdgbfpnjnfpjaaaW.PrintMore
attribute [local go_sem] max2_int min2_int max_two min_two max_three min_three max_four min_four   -- for this text's walks alone
set_option linter.unusedVariables false
set_option linter.unusedSimpArgs false

/-! ### facts on spec_l1In -/
theorem spec_l1In.ev (a b c : Int) : spec_l1In.f a b c = some (decide (b ≤ a ∧ a ≤ c)) := by
  unfold spec_l1In.f
  by_cases h : b ≤ a
  · rw [if_pos h]; simp [h]
  · rw [if_neg h]; simp [h]

/-! ### facts on spec_l2Full -/
--IMPORT M0
open Go.Proofs.Ytdgbfpnjnfpjaaa.M in
theorem spec_l2Full.ev {n : Nat} (h : n ≤ 5) : spec_l2Full.f n = some (((2 ^ 2 ^ n : Nat) : Int) - 1) := by
  unfold spec_l2Full.f
  rw [if_pos (Int.natCast_nonneg n), full_word h]

/-! ### facts on spec_IsTable -/
--IMPORT M0
open Go.Proofs.Ytdgbfpnjnfpjaaa.M in
theorem spec_IsTable.ev (a b : Int) : spec_IsTable.f a b = some (isT a b) := by
  unfold spec_IsTable.f isT
  rw [spec_l1In.ev]
  by_cases h : 0 ≤ a ∧ a ≤ 5
  · obtain ⟨n, rfl⟩ := nat_of h.1
    have hn : n ≤ 5 := by omega
    simp only [Option.bind_some, h, and_self, decide_true, if_true]
    rw [full_word hn, spec_l1In.ev]
    simp only [Option.bind_some, Int.toNat_natCast, h, true_and]
    congr 1
    apply decide_eq_decide.mpr
    omega
  · have h' : ¬ (0 ≤ a ∧ a ≤ 5 ∧ 0 ≤ b ∧ b < ((2 ^ 2 ^ a.toNat : Nat) : Int)) := fun e => h ⟨e.1, e.2.1⟩
    simp only [h, h', decide_false, Option.bind_some, Bool.false_eq_true, if_false]

/-! ### facts on spec_l3Restrict -/
--IMPORT M0
open Go.Proofs.Ytdgbfpnjnfpjaaa.M in
theorem spec_l3Restrict.ins_ev : ∀ x : Nat, x < 16 → ∀ i : Nat, i < 5 → ∀ b : Nat, b < 2 → (spec_l3Insert.f (x : Int) (i : Int) (b : Int) = some ((ins x i b : Nat) : Int) ∧ ins x i b < 32) :=
  allB_dec3 (P := fun x i b => spec_l3Insert.f (x : Int) (i : Int) (b : Int) = some ((ins x i b : Nat) : Int) ∧ ins x i b < 32) (by decide +kernel)
open Go.Proofs.Ytdgbfpnjnfpjaaa.M in
theorem spec_l3Restrict.ev {n v i b : Nat} (h1 : 1 ≤ n) (hn : n ≤ 5) (hv : v < 2 ^ 63) (hi : i < n) (hb : b ≤ 1) : Ev (fun k => spec_l3Restrict.f k n v i b) (((n - 1 : Nat) : Int), ((rstW n v i b : Nat) : Int)) := by
  have h16 := half16 hn
  have en : wrap64 ((n : Int) - 1) = ((n - 1 : Nat) : Int) := by rw [w64 (by omega) (by omega)]; omega
  have key : ∀ d x, x + d = 2 ^ (n - 1) → Ev (fun k => spec_l3Restrict.l0 k i b ((prefW (fun x => v.testBit (ins x i b)) x : Nat) : Int) (x : Int) n v) (((n - 1 : Nat) : Int), ((rstW n v i b : Nat) : Int)) := by
    refine Ev.count (fun k x => spec_l3Restrict.l0 k i b ((prefW (fun x => v.testBit (ins x i b)) x : Nat) : Int) (x : Int) n v) (2 ^ (n - 1)) _ ?_ ?_
    · intro x hx h
      refine Ev.step (fun k => ?_) h
      obtain ⟨e1, e2⟩ := spec_l3Restrict.ins_ev x (by omega) i (by omega) b (by omega)
      simp only [spec_l3Restrict.l0]
      rw [en, if_pos (Int.natCast_nonneg _), shl_one (by omega), if_pos (by omega), e1, Option.bind_some, if_pos (Int.natCast_nonneg _), if_pos (Int.natCast_nonneg _), bit_nat hv (by omega), prefW_step (g := fun x => v.testBit (ins x i b)) (by omega), w64 (by omega) (by omega)]
      rfl
    · refine Ev.end (fun k => ?_)
      simp only [spec_l3Restrict.l0]
      rw [en, if_pos (Int.natCast_nonneg _), shl_one (by omega), if_neg (by omega)]; rfl
  exact key (2 ^ (n - 1)) 0 (by omega)

/-! ### facts on spec_l26Polarity -/
--IMPORT M0
open Go.Proofs.Ytdgbfpnjnfpjaaa.M in
theorem spec_l26Polarity.ev {n v i : Nat} (h1 : 1 ≤ n) (hn : n ≤ 5) (hv : v < 2 ^ 63) (hi : i < n) : Ev (fun k => spec_l26Polarity.f k n v i) (polV n v i) := by
  have r0 := rstW_lt hn v i 0
  have r1 := rstW_lt hn v i 1
  refine Ev.bind (spec_l3Restrict.ev (b := 0) h1 hn hv hi (by omega)) (Ev.bind (spec_l3Restrict.ev (b := 1) h1 hn hv hi (by omega)) (Ev.of_some (fun k => ?_)))
  show (if ((rstW n v i 0 : Nat) : Int) = ((rstW n v i 1 : Nat) : Int) then _ else _) = _
  unfold polV pol
  rw [and_nat (by omega) (by omega)]
  generalize rstW n v i 0 = a at *
  generalize rstW n v i 1 = b at *
  by_cases e1 : a = b
  · rw [if_pos e1, if_pos (by omega)]
  · rw [if_neg e1, if_neg (by omega)]
    by_cases e2 : a &&& b = a
    · rw [if_pos e2, if_pos (by rw [e2])]
    · rw [if_neg e2, if_neg (by omega)]
      rw [Nat.and_comm b a]
      by_cases e3 : a &&& b = b
      · rw [if_pos e3, if_pos (by rw [e3])]
      · rw [if_neg e3, if_neg (by omega)]

/-! ### facts on spec_IsUnate -/
--IMPORT M0
open Go.Proofs.Ytdgbfpnjnfpjaaa.M in
theorem spec_IsUnate.evT {n v : Nat} (hn : n ≤ 5) (hv : v < 2 ^ 2 ^ n) : Ev (fun k => spec_IsUnate.f k n v) (noTwo (polV n v) n) := by
  have h32 := full_lt hn
  have ht := isT_mk hn hv
  have key : ∀ d i, i + d = n → (∀ j, j < i → polV n v j ≠ 2) → Ev (fun k => spec_IsUnate.l0 k (i : Int) n v) (noTwo (polV n v) n) := by
    intro d
    induction d with
    | zero =>
      intro i hi hj
      obtain rfl : i = n := by omega
      rw [noTwo_true hj]
      refine Ev.step (f := fun k => spec_IsUnate.j1 k (i : Int) false i v) (fun k => ?_) ?_
      · simp only [spec_IsUnate.l0]
        rw [spec_IsTable.ev, ht, Option.bind_some, if_pos rfl, decide_eq_false (by omega)]
      · refine Ev.end (fun k => ?_)
        simp only [spec_IsUnate.j1, Bool.false_eq_true, if_false]
        rw [spec_IsTable.ev, ht, Option.bind_some]
    | succ d ih =>
      intro i hi hj
      refine Ev.step (f := fun k => spec_IsUnate.j1 k (i : Int) true n v) (fun k => ?_) ?_
      · simp only [spec_IsUnate.l0]
        rw [spec_IsTable.ev, ht, Option.bind_some, if_pos rfl, decide_eq_true (by omega)]
      · refine Ev.step (f := fun k => (spec_l26Polarity.f k n v i).bind fun t => if t = 2 then some false else spec_IsUnate.l0 k (wrap64 ((i : Int) + 1)) n v) (fun k => ?_) ?_
        · simp only [spec_IsUnate.j1, if_true]
        · refine Ev.bind (spec_l26Polarity.ev (by omega) hn (by omega) (by omega)) ?_
          by_cases h2 : polV n v i = 2
          · rw [noTwo_false h2 (by omega)]
            exact Ev.of_some (fun k => if_pos h2)
          · have hnext := ih (i + 1) (by omega) (fun j hj' => by
              by_cases e : j = i
              · rw [e]; exact h2
              · exact hj j (by omega))
            refine Ev.congr (fun k => ?_) hnext
            rw [if_neg h2, w64 (by omega) (by omega)]; rfl
  exact key n 0 (by omega) (fun j hj => by omega)
open Go.Proofs.Ytdgbfpnjnfpjaaa.M in
theorem spec_IsUnate.evF {a b : Int} (ht : isT a b = false) : Ev (fun k => spec_IsUnate.f k a b) false := by
  refine Ev.step (f := fun k => spec_IsUnate.j1 k 0 false a b) (fun k => ?_) ?_
  · unfold spec_IsUnate.f
    simp only [spec_IsUnate.l0]
    rw [spec_IsTable.ev, ht, Option.bind_some, if_neg (by decide)]
  · refine Ev.end (fun k => ?_)
    simp only [spec_IsUnate.j1, Bool.false_eq_true, if_false]
    rw [spec_IsTable.ev, ht, Option.bind_some]

/-! ### facts on spec_CountUnate -/
--IMPORT M7
open Go.Proofs.Ytdgbfpnjnfpjaaa.M in
theorem spec_CountUnate.evT {n : Nat} (hn : n ≤ 4) : Ev (fun k => spec_CountUnate.f k n) ((cnt (fun i => noTwo (polV n i) n) (2 ^ 2 ^ n) : Nat) : Int) := by
  have h16 : 2 ^ n ≤ 16 := Nat.pow_le_pow_right (n := 2) (by decide) hn
  have hfl := spec_l2Full.ev (n := n) (by omega)
  have hu : ∀ x : Nat, x < 2 ^ 2 ^ n → Ev (fun k => spec_IsUnate.f k (n : Int) (x : Int)) (noTwo (polV n x) n) := fun x hx => spec_IsUnate.evT (by omega) hx
  have hM2 : 2 ^ 2 ^ n ≤ 65536 := Nat.pow_le_pow_right (n := 2) (by decide) h16
  generalize 2 ^ 2 ^ n = M at *
  clear h16
  have key : ∀ d x, x + d = M → Ev (fun k => spec_CountUnate.l0 k n ((cnt (fun i => noTwo (polV n i) n) x : Nat) : Int) (x : Int)) ((cnt (fun i => noTwo (polV n i) n) M : Nat) : Int) := by
    refine Ev.count (fun k x => spec_CountUnate.l0 k n ((cnt (fun i => noTwo (polV n i) n) x : Nat) : Int) (x : Int)) M _ ?_ ?_
    · intro x hx h
      have hle := cnt_le (fun i => noTwo (polV n i) n) x
      refine Ev.step (f := fun k => (spec_IsUnate.f k n x).bind fun t => if t = true then spec_CountUnate.l0 k n (((cnt (fun i => noTwo (polV n i) n) x + 1 : Nat)) : Int) ((x + 1 : Nat) : Int) else spec_CountUnate.l0 k n ((cnt (fun i => noTwo (polV n i) n) x : Nat) : Int) ((x + 1 : Nat) : Int)) (fun k => ?_) (Ev.bind (hu x hx) ?_)
      · simp only [spec_CountUnate.l0]
        rw [hfl, Option.bind_some, if_pos (by omega), up1 (by omega), up1 (by omega)]
      · cases hb : noTwo (polV n x) n with
        | true =>
          refine Ev.congr (fun k => if_pos rfl) ?_
          rw [cnt, hb] at h; exact h
        | false =>
          refine Ev.congr (fun k => if_neg (by decide)) ?_
          rw [cnt, hb] at h; exact h
    · refine Ev.end (fun k => ?_)
      simp only [spec_CountUnate.l0]
      rw [hfl, Option.bind_some, if_neg (by omega)]
  refine Ev.congr (fun k => ?_) (key M 0 (by omega))
  unfold spec_CountUnate.f
  rw [spec_l1In.ev, decide_eq_true (by omega)]; rfl
open Go.Proofs.Ytdgbfpnjnfpjaaa.M in
theorem spec_CountUnate.evF {a : Int} (h : ¬ (0 ≤ a ∧ a ≤ 4)) : Ev (fun k => spec_CountUnate.f k a) (-1) := by
  refine Ev.of_some (fun k => ?_)
  unfold spec_CountUnate.f
  rw [spec_l1In.ev, decide_eq_false h]; rfl

/-! ### facts on impl_isBits -/
theorem impl_isBits.ev (a : Int) : impl_isBits.f a = some (decide (0 ≤ a ∧ a ≤ 5)) := by
  unfold impl_isBits.f
  by_cases h : 0 ≤ a
  · rw [if_pos h]; simp [h]
  · rw [if_neg h]; simp [h]

/-! ### facts on impl_IsTable -/
--IMPORT M0
open Go.Proofs.Ytdgbfpnjnfpjaaa.M in
theorem impl_IsTable.ev (a b : Int) : impl_IsTable.f a b = some (isT a b) := by
  unfold impl_IsTable.f isT
  rw [impl_isBits.ev]
  by_cases h : 0 ≤ a ∧ a ≤ 5
  · obtain ⟨n, rfl⟩ := nat_of h.1
    have hn : n ≤ 5 := by omega
    simp only [Option.bind_some, h, and_self, decide_true, if_true]
    by_cases hb : b ≥ 0
    · obtain ⟨v, rfl⟩ := nat_of hb
      have h5 := pow_le_5 hn
      rw [if_pos hb]
      unfold impl_Table_size.f
      rw [if_pos (Int.natCast_nonneg n), shl_one (by omega)]
      simp only [Option.bind_some]
      rw [if_pos (Int.natCast_nonneg _), shr_nat (by omega)]
      congr 1
      rw [Bool.eq_iff_iff]
      simp only [beq_iff_eq, decide_eq_true_eq, Int.toNat_natCast]
      have hz : v / 2 ^ 2 ^ n = 0 ↔ v < 2 ^ 2 ^ n := Nat.div_eq_zero_iff_lt (Nat.two_pow_pos _)
      rw [show (((v / 2 ^ 2 ^ n : Nat) : Int) = 0 ↔ v / 2 ^ 2 ^ n = 0) from by omega, hz]
      obtain ⟨P, hP⟩ : ∃ P, P = 2 ^ 2 ^ n := ⟨_, rfl⟩
      rw [← hP]
      simp only [h, true_and]
      omega
    · rw [if_neg hb]
      congr 1
      symm
      apply decide_eq_false
      omega
  · have h' : ¬ (0 ≤ a ∧ a ≤ 5 ∧ 0 ≤ b ∧ b < ((2 ^ 2 ^ a.toNat : Nat) : Int)) := fun e => h ⟨e.1, e.2.1⟩
    simp only [h, h', decide_false, Option.bind_some, Bool.false_eq_true, if_false]

/-! ### facts on impl_Table_restrict -/
--IMPORT M0
open Go.Proofs.Ytdgbfpnjnfpjaaa.M in
theorem impl_Table_restrict.ev {n v i b : Nat} (h1 : 1 ≤ n) (hn : n ≤ 5) (hv : v < 2 ^ 32) (hi : i < n) (hb : b ≤ 1) : impl_Table_restrict.f n v i b = some (((n - 1 : Nat) : Int), ((rstW n v i b : Nat) : Int)) := by
  unfold impl_Table_restrict.f
  rw [if_pos ⟨by omega, by omega, by omega, by omega, by omega, by omega, by omega, by omega⟩]
  simp only [Int.toNat_natCast]
  rw [show ((n : Int) - 1) = ((n - 1 : Nat) : Int) by omega]; rfl

/-! ### facts on impl_Table_polarity -/
--IMPORT M0
open Go.Proofs.Ytdgbfpnjnfpjaaa.M in
theorem impl_Table_polarity.ev {n v i : Nat} (h1 : 1 ≤ n) (hn : n ≤ 5) (hv : v < 2 ^ 32) (hi : i < n) : impl_Table_polarity.f n v i = some (polV n v i) := by
  have r0 := rstW_lt hn v i 0
  have r1 := rstW_lt hn v i 1
  unfold impl_Table_polarity.f
  have q0 := impl_Table_restrict.ev (b := 0) h1 hn hv hi (by omega)
  have q1 := impl_Table_restrict.ev (b := 1) h1 hn hv hi (by omega)
  have q0' : impl_Table_restrict.f n v i 0 = _ := q0
  have q1' : impl_Table_restrict.f n v i 1 = _ := q1
  rw [q0', Option.bind_some, q1', Option.bind_some]
  rw [andNot_nat (by omega) (by omega), andNot_nat (by omega) (by omega)]
  unfold polV pol
  have s1 := subset_iff (a := rstW n v i 0) (v := rstW n v i 1)
  have s2 := subset_iff (a := rstW n v i 1) (v := rstW n v i 0)
  generalize rstW n v i 0 = a at *
  generalize rstW n v i 1 = b at *
  by_cases e1 : a = b
  · rw [if_pos e1, if_pos (by omega)]
  · rw [if_neg e1, if_neg (by omega)]
    by_cases e2 : a &&& b = a
    · rw [if_pos e2, if_pos (by rw [s1.mp e2]; rfl)]
    · have z := fun e => e2 (s1.mpr e)
      rw [if_neg e2, if_neg (by omega)]
      by_cases e3 : b &&& a = b
      · rw [if_pos e3, if_pos (by rw [s2.mp e3]; rfl)]
      · have z := fun e => e3 (s2.mpr e)
        rw [if_neg e3, if_neg (by omega)]

/-! ### facts on impl_Table_unateShift -/
--IMPORT M0
open Go.Proofs.Ytdgbfpnjnfpjaaa.M in
theorem impl_Table_unateShift.ev {n v : Nat} (hn : n ≤ 5) (hv : v < 2 ^ 2 ^ n) : Ev (fun k => impl_Table_unateShift.f k n v) (if noTwo (polV n v) n = true then (((prefW (fun i => polV n v i == -1) n : Nat) : Int), true) else (0, false)) := by
  have h32 := full_lt hn
  have key : ∀ d i, i + d = n → (∀ j, j < i → polV n v j ≠ 2) → Ev (fun k => impl_Table_unateShift.l0 k ((prefW (fun i => polV n v i == -1) i : Nat) : Int) n (i : Int) n v) (if noTwo (polV n v) n = true then (((prefW (fun i => polV n v i == -1) n : Nat) : Int), true) else (0, false)) := by
    intro d
    induction d with
    | zero =>
      intro i hi hj
      obtain rfl : i = n := by omega
      rw [noTwo_true hj, if_pos rfl]
      refine Ev.end (fun k => ?_)
      simp only [impl_Table_unateShift.l0]
      rw [if_neg (by omega)]
    | succ d ih =>
      intro i hi hj
      have hp := impl_Table_polarity.ev (n := n) (v := v) (i := i) (by omega) hn (by omega) (by omega)
      by_cases h2 : polV n v i = 2
      · rw [noTwo_false h2 (by omega), if_neg (by decide)]
        refine Ev.end (fun k => ?_)
        simp only [impl_Table_unateShift.l0]
        rw [if_pos (by omega), hp, Option.bind_some, if_neg (by rw [h2]; decide), if_pos h2]
      · have hnext := ih (i + 1) (by omega) (fun j hj' => by
          by_cases e : j = i
          · rw [e]; exact h2
          · exact hj j (by omega))
        refine Ev.step (fun k => ?_) hnext
        simp only [impl_Table_unateShift.l0]
        rw [if_pos (by omega), hp, Option.bind_some, w64 (by omega) (by omega)]
        by_cases h1 : polV n v i = -1
        · rw [if_pos h1, if_pos (by omega), prefW_step_one (g := fun i => polV n v i == -1) (by omega) (by rw [h1]; rfl)]; rfl
        · rw [if_neg h1, if_neg h2, prefW_skip (g := fun i => polV n v i == -1) (beq_eq_false_iff_ne.mpr h1)]; rfl
  exact key n 0 (by omega) (fun j hj => by omega)

/-! ### facts on impl_UnateShift -/
--IMPORT M0
open Go.Proofs.Ytdgbfpnjnfpjaaa.M in
theorem impl_UnateShift.evT {n v : Nat} (hn : n ≤ 5) (hv : v < 2 ^ 2 ^ n) : Ev (fun k => impl_UnateShift.f k n v) (if noTwo (polV n v) n = true then (((prefW (fun i => polV n v i == -1) n : Nat) : Int), true) else (0, false)) := by
  unfold impl_UnateShift.f
  rw [impl_IsTable.ev, isT_mk hn hv]
  simp only [Option.bind_some, if_true]
  exact Ev.bind (impl_Table_unateShift.ev hn hv) (Ev.now _)
open Go.Proofs.Ytdgbfpnjnfpjaaa.M in
theorem impl_UnateShift.evF {a b : Int} (ht : isT a b = false) : Ev (fun k => impl_UnateShift.f k a b) (0, false) := by
  unfold impl_UnateShift.f
  rw [impl_IsTable.ev, ht]
  simp only [Option.bind_some, Bool.false_eq_true, if_false]
  exact Ev.now _

/-! ### facts on impl_IsUnate -/
--IMPORT M0
open Go.Proofs.Ytdgbfpnjnfpjaaa.M in
theorem impl_IsUnate.evT {n v : Nat} (hn : n ≤ 5) (hv : v < 2 ^ 2 ^ n) : Ev (fun k => impl_IsUnate.f k n v) (noTwo (polV n v) n) := by
  refine Ev.bind (impl_UnateShift.evT hn hv) ?_
  cases noTwo (polV n v) n
  · exact Ev.now _
  · exact Ev.now _
open Go.Proofs.Ytdgbfpnjnfpjaaa.M in
theorem impl_IsUnate.evF {a b : Int} (ht : isT a b = false) : Ev (fun k => impl_IsUnate.f k a b) false := Ev.bind (impl_UnateShift.evF ht) (Ev.now _)

/-! ### facts on impl_CountUnate -/
--IMPORT M7
open Go.Proofs.Ytdgbfpnjnfpjaaa.M in
theorem impl_CountUnate.evT {n : Nat} (hn : n ≤ 4) : Ev (fun k => impl_CountUnate.f k n) ((cnt (fun i => noTwo (polV n i) n) (2 ^ 2 ^ n) : Nat) : Int) := by
  have h := cntO_ev (g := fun k i => impl_IsUnate.f k (n : Int) (i : Int)) (p := fun i => noTwo (polV n i) n) (m := 2 ^ 2 ^ n) (fun i hi => impl_IsUnate.evT (by omega) hi)
  refine Ev.congr (fun k => ?_) (Ev.bind (f := fun _ (c : Nat) => some ((c : Nat) : Int)) h (Ev.now _))
  unfold impl_CountUnate.f
  rw [if_pos (by omega), Int.toNat_natCast]
open Go.Proofs.Ytdgbfpnjnfpjaaa.M in
theorem impl_CountUnate.evF {a : Int} (h : ¬ (0 ≤ a ∧ a ≤ 4)) : Ev (fun k => impl_CountUnate.f k a) (-1) := by
  refine Ev.of_some (fun k => ?_)
  unfold impl_CountUnate.f
  rw [if_neg h]

/-! ### facts on laws_FnExactCountUnate -/
--IMPORT M7
open Go.Proofs.Ytdgbfpnjnfpjaaa.M in
theorem laws_FnExactCountUnate.pure_ : laws_FnExactCountUnate.Pure := by
  intro a _
  by_cases h : 0 ≤ a ∧ a ≤ 4
  · obtain ⟨n, rfl⟩ := nat_of h.1
    have hs := spec_CountUnate.evT (n := n) (by omega)
    have hi := impl_CountUnate.evT (n := n) (by omega)
    generalize ((cnt (fun i => noTwo (polV n i) n) (2 ^ 2 ^ n) : Nat) : Int) = r at hs hi
    exact law2_ev hs hi
  · exact law2_ev (spec_CountUnate.evF h) (impl_CountUnate.evF h)

end Go.Proofs.Ytdgbfpnjnfpjaaa.Print
