/- Unate tables and shifts of inputs: no program in sight. -/
import Derived.Test.YtfnbcbjgjoobpaaM5
namespace Go.Proofs.Ytfnbcbjgjoobpaa.M
open Go.RowKit Go.Proofs.YtfnbcbjgjoobpaaW.PrintWords Go.Proofs.YtfnbcbjgjoobpaaW.PrintLast
set_option linter.unusedVariables false
set_option linter.unusedSimpArgs false

/-- an input without bit i -/
def del (s i : Nat) : Nat := s / 2 ^ (i + 1) * 2 ^ i + s % 2 ^ i
theorem ins_xor : ∀ x, x < 16 → ∀ i, i < 5 → ∀ s, s < 32 → (ins x i 0 ^^^ s = ins (x ^^^ del s i) i (s.testBit i).toNat ∧ ins x i 1 ^^^ s = ins (x ^^^ del s i) i (!s.testBit i).toNat) :=
  allB_dec3 (P := fun x i s => (ins x i 0 ^^^ s = ins (x ^^^ del s i) i (s.testBit i).toNat ∧ ins x i 1 ^^^ s = ins (x ^^^ del s i) i (!s.testBit i).toNat)) (by decide +kernel)
theorem del_lt : ∀ n, n < 6 → ∀ i, i < 5 → ∀ s, s < 32 → (i < n → s < 2 ^ n → del s i < 2 ^ (n - 1)) :=
  allB_dec3 (P := fun n i s => (i < n → s < 2 ^ n → del s i < 2 ^ (n - 1))) (by decide +kernel)
theorem ins_in : ∀ n, n < 6 → ∀ i, i < 5 → ∀ x, x < 16 → (i < n → x < 2 ^ (n - 1) → ins x i 0 < 2 ^ n ∧ ins x i 1 < 2 ^ n) :=
  allB_dec3 (P := fun n i x => (i < n → x < 2 ^ (n - 1) → ins x i 0 < 2 ^ n ∧ ins x i 1 < 2 ^ n)) (by decide +kernel)
/-- a table with its inputs shifted -/
def shW (n v s : Nat) : Nat := prefW (fun x => v.testBit (x ^^^ s)) (2 ^ n)
theorem shW_lt (n v s : Nat) : shW n v s < 2 ^ 2 ^ n := prefW_lt _ _
theorem shW_twice {n v s : Nat} (hv : v < 2 ^ 2 ^ n) (hs : s < 2 ^ n) : shW n (shW n v s) s = v := by
  refine (word_eq_prefW hv fun i hi => ?_).symm
  have h : i ^^^ s < 2 ^ n := Nat.xor_lt_two_pow hi hs
  unfold shW
  rw [testBit_prefW, decide_eq_true h, Bool.true_and, Nat.xor_assoc, Nat.xor_self, Nat.xor_zero]
/-- no value falls with a variable -/
def monW (n v : Nat) : Nat → Bool
  | 0 => true
  | m + 1 => monW n v m && decide (andn (rstW n v m 0) (rstW n v m 1) = 0)
theorem monW_iff {n v : Nat} : ∀ {m : Nat}, monW n v m = true ↔ ∀ i, i < m → andn (rstW n v i 0) (rstW n v i 1) = 0
  | 0 => by simp [monW]
  | m + 1 => by
    rw [monW, Bool.and_eq_true, monW_iff (m := m), decide_eq_true_eq]
    constructor
    · intro h i hi
      by_cases e : i = m
      · rw [e]; exact h.2
      · exact h.1 i (by omega)
    · intro h
      exact ⟨fun i hi => h i (by omega), h m (by omega)⟩
theorem andn_zero_iff {a b : Nat} : andn a b = 0 ↔ ∀ j, a.testBit j = true → b.testBit j = true := by
  rw [← subset_iff]
  constructor
  · intro h j hj
    have h1 : (a &&& b).testBit j = a.testBit j := by rw [h]
    rw [Nat.testBit_and, hj, Bool.true_and] at h1
    exact h1
  · intro h
    apply Nat.eq_of_testBit_eq; intro j
    rw [Nat.testBit_and]
    cases hj : a.testBit j with
    | false => rfl
    | true => rw [h j hj]; rfl
theorem rstW_bit (n v i b j : Nat) : (rstW n v i b).testBit j = (decide (j < 2 ^ (n - 1)) && v.testBit (ins j i b)) := testBit_prefW _ _ _
theorem pol_ne_two {a b : Nat} (h : pol a b ≠ 2) (h1 : pol a b ≠ -1) : andn a b = 0 := by
  unfold pol at h h1
  rw [← subset_iff]
  by_cases e : a = b
  · rw [e, Nat.and_self]
  · rw [if_neg e] at h h1
    by_cases e2 : a &&& b = a
    · exact e2
    · rw [if_neg e2] at h h1
      by_cases e3 : b &&& a = b
      · rw [if_pos e3] at h1; exact absurd rfl h1
      · rw [if_neg e3] at h; exact absurd rfl h
theorem pol_neg {a b : Nat} (h1 : pol a b = -1) : andn b a = 0 := by
  unfold pol at h1
  rw [← subset_iff]
  by_cases e : a = b
  · rw [e, Nat.and_self]
  · rw [if_neg e] at h1
    by_cases e2 : a &&& b = a
    · rw [if_pos e2] at h1; cases h1
    · rw [if_neg e2] at h1
      by_cases e3 : b &&& a = b
      · exact e3
      · rw [if_neg e3] at h1; cases h1
theorem pol_mono {a b : Nat} (h : andn a b = 0) : pol a b = 0 ∨ pol a b = 1 := by
  unfold pol
  by_cases e : a = b
  · rw [if_pos e]; exact .inl rfl
  · rw [if_neg e, if_pos (subset_iff.mpr h)]; exact .inr rfl
theorem pol_zero {a b : Nat} : pol a b = 0 ↔ a = b := by
  unfold pol
  by_cases e : a = b
  · rw [if_pos e]; exact ⟨fun _ => e, fun _ => rfl⟩
  · rw [if_neg e]
    constructor
    · intro h
      split at h
      · cases h
      · split at h <;> cases h
    · intro h; exact absurd h e
theorem noTwo_all {g : Nat → Int} : ∀ {m : Nat}, noTwo g m = true → ∀ i, i < m → g i ≠ 2
  | 0, _, i, hi => absurd hi (Nat.not_lt_zero i)
  | m + 1, h, i, hi => by
    rw [noTwo, Bool.and_eq_true] at h
    by_cases e : i = m
    · rw [e]; exact bne_iff_ne.mp h.2
    · exact noTwo_all h.1 i (by omega)
/-- the variables that fall -/
def fallW (n v : Nat) : Nat := prefW (fun i => polV n v i == -1) n
theorem fallW_lt (n v : Nat) : fallW n v < 2 ^ n := prefW_lt _ _
theorem unate_mono {n v : Nat} (hn : n ≤ 5) (h : noTwo (polV n v) n = true) : monW n (shW n v (fallW n v)) n = true := by
  rw [monW_iff]
  intro i hi
  have hs := fallW_lt n v
  have h32 : 2 ^ n ≤ 32 := pow_le_5 hn
  have hsi : (fallW n v).testBit i = (polV n v i == -1) := by unfold fallW; rw [testBit_prefW, decide_eq_true hi, Bool.true_and]
  have hne := noTwo_all h i hi
  generalize fallW n v = s at hs hsi ⊢
  have hd := del_lt n (by omega) i (by omega) s (by omega) hi hs
  rw [andn_zero_iff]
  intro j hj
  rw [rstW_bit, Bool.and_eq_true] at hj ⊢
  refine ⟨hj.1, ?_⟩
  have hj1 := of_decide_eq_true hj.1
  have h16 := half16 hn
  have hx := ins_xor j (by omega) i (by omega) s (by omega)
  have hin := ins_in n (by omega) i (by omega) j (by omega) hi hj1
  have hx1 : j ^^^ del s i < 2 ^ (n - 1) := Nat.xor_lt_two_pow hj1 hd
  have hj2 := hj.2
  unfold shW at hj2 ⊢
  rw [testBit_prefW, decide_eq_true hin.1, Bool.true_and, hx.1, hsi] at hj2
  rw [testBit_prefW, decide_eq_true hin.2, Bool.true_and, hx.2, hsi]
  by_cases hp : polV n v i = -1
  · have e : (polV n v i == -1) = true := beq_iff_eq.mpr hp
    rw [e] at hj2 ⊢
    have hz := andn_zero_iff.mp (pol_neg hp) (j ^^^ del s i)
    rw [rstW_bit, rstW_bit, decide_eq_true hx1, Bool.true_and, Bool.true_and] at hz
    exact hz hj2
  · have e : (polV n v i == -1) = false := beq_eq_false_iff_ne.mpr hp
    rw [e] at hj2 ⊢
    have hz := andn_zero_iff.mp (pol_ne_two hne hp) (j ^^^ del s i)
    rw [rstW_bit, rstW_bit, decide_eq_true hx1, Bool.true_and, Bool.true_and] at hz
    exact hz hj2
theorem mono_unate {n v : Nat} (h : monW n v n = true) : noTwo (polV n v) n = true ∧ fallW n v = 0 := by
  rw [monW_iff] at h
  constructor
  · refine noTwo_true fun i hi => ?_
    rcases pol_mono (h i hi) with e | e
    · show pol _ _ ≠ 2; rw [e]; decide
    · show pol _ _ ≠ 2; rw [e]; decide
  · apply Nat.eq_of_testBit_eq; intro i
    unfold fallW
    rw [testBit_prefW, Nat.zero_testBit]
    by_cases hi : i < n
    · rw [decide_eq_true hi, Bool.true_and]
      refine beq_eq_false_iff_ne.mpr ?_
      rcases pol_mono (h i hi) with e | e
      · show pol _ _ ≠ -1; rw [e]; decide
      · show pol _ _ ≠ -1; rw [e]; decide
    · rw [decide_eq_false hi]; rfl
end Go.Proofs.Ytfnbcbjgjoobpaa.M
