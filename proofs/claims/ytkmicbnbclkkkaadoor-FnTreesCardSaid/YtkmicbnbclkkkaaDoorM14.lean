/- Several texts of this repo's programs in one: plain lemmas, or functions of the given program as plain Lean functions with proofs that their calls compute them. -/
import Derived.Test.YtkmicbnbclkkkaaDoorWMore
import Derived.Test.YtkmicbnbclkkkaaDoorWLast
import Derived.Laws.BitsLemmas
import Derived.Laws.Bits64
import Derived.Laws.BitsAllLaws
import Derived.Maps.OwnSet
namespace Go.Proofs.YtkmicbnbclkkkaaDoor.M
open Go.RowKit Go.Proofs.YtkmicbnbclkkkaaDoorW.PrintWords Go.Proofs.YtkmicbnbclkkkaaDoorW.PrintLast
set_option linter.unusedVariables false
set_option linter.unusedSimpArgs false

theorem w64 {x : Int} (h : -9223372036854775808 ≤ x) (h2 : x ≤ 9223372036854775807) : wrap64 x = x := by unfold wrap64; omega
theorem wi64 (n : Int) (h0 : 0 ≤ n) (h1 : n < 2 ^ 63) : Go.IntKind.i64.wrap n = n := by rw [Go.IntKind.wrap_i64]; omega
theorem p63 {n : Nat} (h : n ≤ 62) : 2 ^ n < 2 ^ 63 := Nat.pow_lt_pow_right (by decide) (by omega)
theorem and_nat {a b : Nat} (ha : a < 2 ^ 63) (hb : b < 2 ^ 63) : Go.bits .and .i64 (a : Int) (b : Int) = ((a &&& b : Nat) : Int) := (Go.bits_nat .i64 63 (by decide) wi64 a b ha hb).1
theorem or_nat {a b : Nat} (ha : a < 2 ^ 63) (hb : b < 2 ^ 63) : Go.bits .or .i64 (a : Int) (b : Int) = ((a ||| b : Nat) : Int) := (Go.bits_nat .i64 63 (by decide) wi64 a b ha hb).2
theorem mod_bits {a : Nat} (ha : a < 2 ^ 63) : a % 2 ^ Go.IntKind.i64.bits = a := Nat.mod_eq_of_lt (by show a < 2 ^ 64; omega)
theorem cast_lt {a j : Nat} (h : a < 2 ^ j) : ((a : Nat) : Int) < 2 ^ j := by exact_mod_cast h
/-- a without the bits of b -/
def andn (a b : Nat) : Nat := a &&& (a ^^^ b)
theorem min_bits {n : Nat} (h : n ≤ 64) : min (n : Int).toNat Go.IntKind.i64.bits = n := by simp [Go.IntKind.bits]; omega
theorem min_bitsu {n : Nat} (h : n ≤ 64) : min (n : Int).toNat Go.IntKind.u64.bits = n := by simp [Go.IntKind.bits]; omega
theorem shl_nat {x n : Nat} (hn : n ≤ 64) (h : x * 2 ^ n < 2 ^ 63) : shl .i64 (x : Int) (n : Int) = ((x * 2 ^ n : Nat) : Int) := by
  have h' : ((x * 2 ^ n : Nat) : Int) < 2 ^ 63 := by exact_mod_cast h
  have e : (x : Int) * 2 ^ n = ((x * 2 ^ n : Nat) : Int) := by push_cast; rfl
  unfold shl
  rw [min_bits hn, e, wi64 _ (Int.natCast_nonneg _) h']
theorem shl_one {n : Nat} (h : n ≤ 62) : shl .i64 1 (n : Int) = ((2 ^ n : Nat) : Int) := by
  have := shl_nat (x := 1) (n := n) (by omega) (by rw [Nat.one_mul]; exact p63 h)
  rw [Nat.one_mul] at this; exact this
theorem shlu_one {n : Nat} (h : n ≤ 63) : shl .u64 1 (n : Int) = ((2 ^ n : Nat) : Int) := by
  have h1 : 2 ^ n < 2 ^ 64 := Nat.pow_lt_pow_right (by decide) (by omega)
  have e : (2 : Int) ^ n = ((2 ^ n : Nat) : Int) := by push_cast; rfl
  unfold shl
  rw [min_bitsu (by omega), Int.one_mul, Go.IntKind.wrap_u64, e]
  obtain ⟨v, hv⟩ : ∃ v, v = 2 ^ n := ⟨_, rfl⟩
  rw [← hv] at h1 ⊢
  omega
theorem shr_nat {a n : Nat} (h : n ≤ 64) : shr .i64 (a : Int) (n : Int) = ((a / 2 ^ n : Nat) : Int) := by
  unfold shr; rw [min_bits h]; push_cast; rfl
theorem bit_of (a n : Nat) : (a / 2 ^ n) &&& 1 = (a.testBit n).toNat := by
  rw [Nat.and_one_is_mod, Nat.toNat_testBit]
theorem bit_nat {a n : Nat} (ha : a < 2 ^ 63) (h : n ≤ 64) : Go.bits .and .i64 (shr .i64 (a : Int) (n : Int)) 1 = (((a.testBit n).toNat : Nat) : Int) := by
  rw [shr_nat h, ← bit_of]
  exact and_nat (b := 1) (Nat.lt_of_le_of_lt (Nat.div_le_self _ _) ha) (by decide)
theorem toNat_lt (b : Bool) : b.toNat < 2 := by cases b <;> decide
theorem toNat_le (b : Bool) : b.toNat ≤ 1 := by cases b <;> decide

/-! what holds of all numbers below n, by reckoning -/
def allB (n : Nat) (p : Nat → Bool) : Bool := match n with | 0 => true | n + 1 => p n && allB n p
theorem allB_of {n : Nat} {p : Nat → Bool} (h : allB n p = true) : ∀ i, i < n → p i = true := by
  induction n with
  | zero => intro i hi; omega
  | succ n ih =>
    intro i hi
    rw [allB, Bool.and_eq_true] at h
    by_cases e : i = n
    · rw [e]; exact h.1
    · exact ih h.2 i (by omega)
theorem allB_dec {n : Nat} {P : Nat → Prop} [DecidablePred P] (h : allB n (fun i => decide (P i)) = true) : ∀ i, i < n → P i := fun i hi => of_decide_eq_true (allB_of h i hi)
theorem allB_dec2 {n m : Nat} {P : Nat → Nat → Prop} [∀ i j, Decidable (P i j)] (h : allB n (fun i => allB m (fun j => decide (P i j))) = true) : ∀ i, i < n → ∀ j, j < m → P i j := fun i hi j hj => of_decide_eq_true (allB_of (allB_of h i hi) j hj)
theorem allB_dec3 {n m l : Nat} {P : Nat → Nat → Nat → Prop} [∀ i j k, Decidable (P i j k)] (h : allB n (fun i => allB m (fun j => allB l (fun k => decide (P i j k)))) = true) : ∀ i, i < n → ∀ j, j < m → ∀ k, k < l → P i j k := fun i hi j hj k hk => of_decide_eq_true (allB_of (allB_of (allB_of h i hi) j hj) k hk)

/-! words: the number whose bits below m are told by g -/
def prefW (g : Nat → Bool) : Nat → Nat
  | 0 => 0
  | m + 1 => prefW g m ||| (g m).toNat * 2 ^ m
theorem prefW_lt (g : Nat → Bool) : ∀ m, prefW g m < 2 ^ m
  | 0 => by simp [prefW]
  | m + 1 => by
    have h := prefW_lt g m
    have h1 : (g m).toNat * 2 ^ m < 2 ^ (m + 1) := by
      rw [Nat.pow_succ]; have := Nat.two_pow_pos m
      cases g m <;> simp <;> omega
    exact Nat.or_lt_two_pow (Nat.lt_of_lt_of_le h (Nat.pow_le_pow_right (by decide) (by omega))) h1
theorem testBit_prefW (g : Nat → Bool) (i : Nat) : ∀ m, (prefW g m).testBit i = (decide (i < m) && g i)
  | 0 => by simp [prefW]
  | m + 1 => by
    rw [prefW, Nat.testBit_or, testBit_prefW g i m, Nat.testBit_mul_two_pow]
    rcases Nat.lt_trichotomy i m with h | h | h
    · have h1 : decide (m ≤ i) = false := by simpa using h
      have h2 : decide (i < m + 1) = true := by simp; omega
      have h3 : decide (i < m) = true := by simpa using h
      rw [h1, h2, h3]; simp
    · subst h
      cases g i <;> simp
    · have h2 : decide (i < m + 1) = false := by simp; omega
      have h3 : decide (i < m) = false := by simp; omega
      rw [h2, h3]
      have : ((g m).toNat).testBit (i - m) = false := Nat.testBit_lt_two_pow (Nat.lt_of_lt_of_le (toNat_lt _) (by
        have : 2 ^ 1 ≤ 2 ^ (i - m) := Nat.pow_le_pow_right (by decide) (by omega)
        omega))
      simp [this]
theorem prefW_congr {g g' : Nat → Bool} : ∀ {m : Nat}, (∀ i, i < m → g i = g' i) → prefW g m = prefW g' m
  | 0, _ => rfl
  | m + 1, h => by rw [prefW, prefW, prefW_congr (fun i hi => h i (by omega)), h m (by omega)]
theorem testBit_of_ge {w m i : Nat} (h : w < 2 ^ m) (hi : m ≤ i) : w.testBit i = false := Nat.testBit_lt_two_pow (Nat.lt_of_lt_of_le h (Nat.pow_le_pow_right (by decide) hi))
theorem prefW_testBit {w m : Nat} (h : w < 2 ^ m) : prefW w.testBit m = w := by
  apply Nat.eq_of_testBit_eq; intro i
  rw [testBit_prefW]
  by_cases hi : i < m
  · simp [hi]
  · rw [testBit_of_ge h (by omega)]; simp
theorem word_eq_prefW {w m : Nat} {g : Nat → Bool} (hw : w < 2 ^ m) (h : ∀ i, i < m → w.testBit i = g i) : w = prefW g m := by
  rw [← prefW_testBit hw]; exact prefW_congr h
/-- one step of a loop that collects bits -/
theorem prefW_step {g : Nat → Bool} {x : Nat} (hx : x ≤ 61) : Go.bits .or .i64 ((prefW g x : Nat) : Int) (shl .i64 (((g x).toNat : Nat) : Int) (x : Int)) = ((prefW g (x + 1) : Nat) : Int) := by
  have h1 := prefW_lt g x
  have hp := p63 (n := x) (by omega)
  have h2 : (g x).toNat * 2 ^ x < 2 ^ 63 := by cases g x <;> simp; omega
  rw [shl_nat (by omega) h2, or_nat (by omega) h2]; rfl
theorem prefW_step_one {g : Nat → Bool} {x : Nat} (hx : x ≤ 61) (h : g x = true) : Go.bits .or .i64 ((prefW g x : Nat) : Int) (shl .i64 1 (x : Int)) = ((prefW g (x + 1) : Nat) : Int) := by
  have := prefW_step (g := g) hx
  rw [h] at this; exact this
theorem prefW_skip {g : Nat → Bool} {x : Nat} (h : g x = false) : prefW g (x + 1) = prefW g x := by rw [prefW, h]; simp

/-! counting -/
def cnt (g : Nat → Bool) : Nat → Nat
  | 0 => 0
  | m + 1 => cnt g m + (g m).toNat
theorem cnt_congr {g g' : Nat → Bool} : ∀ {m : Nat}, (∀ i, i < m → g i = g' i) → cnt g m = cnt g' m
  | 0, _ => rfl
  | m + 1, h => by rw [cnt, cnt, cnt_congr (fun i hi => h i (by omega)), h m (by omega)]
theorem cnt_le (g : Nat → Bool) : ∀ m, cnt g m ≤ m
  | 0 => Nat.le_refl _
  | m + 1 => by have := cnt_le g m; have := toNat_le (g m); rw [cnt]; omega

/-! from numbers to their natural numbers -/
theorem nat_of {x : Int} (h : 0 ≤ x) : ∃ n : Nat, x = (n : Int) := ⟨x.toNat, by omega⟩
theorem pow_le_5 {n : Nat} (h : n ≤ 5) : 2 ^ n ≤ 32 := by
  have := Nat.pow_le_pow_right (show 0 < 2 by decide) h; simpa using this
theorem full_lt {n : Nat} (h : n ≤ 5) : 2 ^ (2 ^ n) ≤ 2 ^ 32 := Nat.pow_le_pow_right (by decide) (pow_le_5 h)
theorem full_p63 {n : Nat} (h : n ≤ 5) : 2 ^ (2 ^ n) < 2 ^ 63 := Nat.lt_of_le_of_lt (full_lt h) (by decide)

/-- is it a table: at most five variables, a word of as many bits as there are inputs -/
def isT (n w : Int) : Bool := decide (0 ≤ n ∧ n ≤ 5 ∧ 0 ≤ w ∧ w < ((2 ^ 2 ^ n.toNat : Nat) : Int))
theorem isT_nat {a b : Int} (h : isT a b = true) : ∃ n v : Nat, a = (n : Int) ∧ b = (v : Int) ∧ n ≤ 5 ∧ v < 2 ^ 2 ^ n := by
  have h' := of_decide_eq_true h
  obtain ⟨h1, h2, h3, h4⟩ := h'
  obtain ⟨n, rfl⟩ := nat_of h1
  obtain ⟨v, rfl⟩ := nat_of h3
  rw [Int.toNat_natCast] at h4
  exact ⟨n, v, rfl, rfl, by omega, by exact_mod_cast h4⟩
theorem isT_mk {n v : Nat} (hn : n ≤ 5) (hv : v < 2 ^ 2 ^ n) : isT (n : Int) (v : Int) = true := by
  have h : (v : Int) < ((2 ^ 2 ^ n : Nat) : Int) := by exact_mod_cast hv
  simp only [isT, decide_eq_true_eq, Int.toNat_natCast]
  exact ⟨by omega, by omega, by omega, h⟩
theorem full_word {n : Nat} (h : n ≤ 5) : wrap64 ((shl .i64 1 (shl .u64 1 (n : Int))) - 1) = ((2 ^ 2 ^ n : Nat) : Int) - 1 := by
  have h5 := pow_le_5 h
  have hf := full_p63 h
  have hp := Nat.two_pow_pos (2 ^ n)
  rw [shlu_one (by omega), shl_one (by omega), w64 (by omega) (by omega)]
/-! both sides of a law come to one answer -/
/-! loops that go up by one, told from some number of rounds on -/
/-- what a loop's state is, from i on, after d rounds -/
def iter {S : Type} (step : Nat → S → S) : Nat → Nat → S → S
  | _, 0, s => s
  | i, d + 1, s => iter step (i + 1) d (step i s)
theorem Ev.up {S α : Type} (F : Nat → S → Nat → Option α) (N : Nat) (I : Nat → S → Prop) (step : Nat → S → S) (r : α)
    (hI : ∀ i s, i < N → I i s → I (i + 1) (step i s))
    (hs : ∀ i s, i < N → I i s → Ev (fun k => F k (step i s) (i + 1)) r → Ev (fun k => F k s i) r) :
    ∀ d i s, i + d = N → I i s → (I N (iter step i d s) → Ev (fun k => F k (iter step i d s) N) r) → Ev (fun k => F k s i) r := by
  intro d
  induction d with
  | zero => intro i s hi h k; obtain rfl : i = N := by omega
            exact k h
  | succ d ih => intro i s hi h k; exact hs i s (by omega) h (ih (i + 1) (step i s) (by omega) (hI i s (by omega) h) k)
/-- the state at i is told by a function of i: each round leads from st i to st (i+1) -/
theorem Ev.count {α : Type} (F : Nat → Nat → Option α) (N : Nat) (r : α)
    (hs : ∀ i, i < N → Ev (fun k => F k (i + 1)) r → Ev (fun k => F k i) r) (he : Ev (fun k => F k N) r) : ∀ d i, i + d = N → Ev (fun k => F k i) r := by
  intro d
  induction d with
  | zero => intro i hi; obtain rfl : i = N := by omega
            exact he
  | succ d ih => intro i hi; exact hs i (by omega) (ih (i + 1) (by omega))
theorem Ev.of_some {α : Type} {g : Nat → Option α} {r : α} (h : ∀ k, g k = some r) : Ev g r := ⟨0, fun k _ => h k⟩
theorem Ev.end {α : Type} {g : Nat → Option α} {r : α} (h : ∀ k, g (k + 1) = some r) : Ev g r := Ev.step h (Ev.now r)

end Go.Proofs.YtkmicbnbclkkkaaDoor.M
namespace Go.Proofs.YtkmicbnbclkkkaaDoor.M
open Go.RowKit Go.Proofs.YtkmicbnbclkkkaaDoorW.PrintWords Go.Proofs.YtkmicbnbclkkkaaDoorW.PrintLast
set_option linter.unusedVariables false
set_option linter.unusedSimpArgs false

end Go.Proofs.YtkmicbnbclkkkaaDoor.M
namespace Go.Proofs.YtkmicbnbclkkkaaDoor.M
open Go.RowKit Go.Proofs.YtkmicbnbclkkkaaDoorW.PrintWords Go.Proofs.YtkmicbnbclkkkaaDoorW.PrintLast
set_option linter.unusedVariables false
set_option linter.unusedSimpArgs false

theorem tb_cat {c y : Nat} (hc : c < 256) (j : Nat) : (c + 256 * y).testBit j = if j < 8 then c.testBit j else y.testBit (j - 8) := by
  rw [Nat.add_comm]; exact Nat.testBit_two_pow_mul_add (i := 8) y hc j
theorem and_cat {c d y z : Nat} (hc : c < 256) (hd : d < 256) : (c + 256 * y) &&& (d + 256 * z) = (c &&& d) + 256 * (y &&& z) := by
  have h : c &&& d < 256 := Nat.lt_of_le_of_lt Nat.and_le_left hc
  apply Nat.eq_of_testBit_eq; intro i
  rw [Nat.testBit_and, tb_cat hc, tb_cat hd, tb_cat h]
  split <;> rw [Nat.testBit_and]
def repB (d : Nat) : Nat → Nat
  | 0 => 0
  | k + 1 => d + 256 * repB d k
def sA (k x : Nat) : Nat := (x / 2 &&& repB 85 k) + (x &&& repB 85 k)
def sB (k x : Nat) : Nat := (x / 4 &&& repB 51 k) + (x &&& repB 51 k)
def sC (k x : Nat) : Nat := (x / 16 + x) &&& repB 15 k
def bA (c : Nat) : Nat := (c / 2 &&& 85) + (c &&& 85)
def bB (c : Nat) : Nat := (c / 4 &&& 51) + (c &&& 51)
def bP (c : Nat) : Nat := cnt c.testBit 8
theorem bA_lt : ∀ c, c < 256 → bA c < 256 := allB_dec (by decide +kernel)
theorem bB_lt : ∀ c, c < 256 → bB (bA c) ≤ 68 ∧ bB (bA c) % 16 ≤ 4 ∧ (bB (bA c) / 16 + bB (bA c)) % 16 = bP c ∧ bP c ≤ 8 := allB_dec (by decide +kernel)
theorem hA1 : ∀ c, c < 256 → ∀ t, t < 2 → (c / 2 + 128 * t) &&& 85 = c / 2 &&& 85 := allB_dec2 (by decide +kernel)
theorem hB1 : ∀ c, c < 256 → ∀ t, t < 4 → (c / 4 + 64 * t) &&& 51 = c / 4 &&& 51 := allB_dec2 (by decide +kernel)
theorem sA_step {c y : Nat} (hc : c < 256) (k : Nat) : sA (k + 1) (c + 256 * y) = bA c + 256 * sA k y := by
  have e : (c + 256 * y) / 2 = (c / 2 + 128 * (y % 2)) + 256 * (y / 2) := by omega
  simp only [sA, repB, bA]
  rw [e, and_cat (by omega) (by omega), and_cat hc (by omega), hA1 c hc _ (by omega)]
  omega
theorem sB_step {c y : Nat} (hc : c < 256) (k : Nat) : sB (k + 1) (c + 256 * y) = bB c + 256 * sB k y := by
  have e : (c + 256 * y) / 4 = (c / 4 + 64 * (y % 4)) + 256 * (y / 4) := by omega
  simp only [sB, repB, bB]
  rw [e, and_cat (by omega) (by omega), and_cat hc (by omega), hB1 c hc _ (by omega)]
  omega
theorem sC_step {c y : Nat} (hc : c ≤ 68) (hy : y % 16 ≤ 4) (k : Nat) : sC (k + 1) (c + 256 * y) = (c / 16 + c) % 16 + 256 * sC k y := by
  have e : (c + 256 * y) / 16 + (c + 256 * y) = (c / 16 + 16 * (y % 16) + c) + 256 * (y / 16 + y) := by omega
  simp only [sC, repB]
  rw [e, and_cat (by omega) (by omega)]
  have : (c / 16 + 16 * (y % 16) + c) &&& 15 = (c / 16 + c) % 16 := by
    rw [show 15 = 2 ^ 4 - 1 from rfl, Nat.and_two_pow_sub_one_eq_mod]; omega
  rw [this]
theorem s0 (k : Nat) : sA k 0 = 0 ∧ sB k 0 = 0 ∧ sC k 0 = 0 := by simp [sA, sB, sC]
/-- the bytes' own counts, side by side -/
theorem swar {c0 c1 c2 c3 : Nat} (h0 : c0 < 256) (h1 : c1 < 256) (h2 : c2 < 256) (h3 : c3 < 256) :
    sC 8 (sB 8 (sA 8 (c0 + 256 * (c1 + 256 * (c2 + 256 * (c3 + 256 * 0)))))) = bP c0 + 256 * (bP c1 + 256 * (bP c2 + 256 * (bP c3 + 256 * 0))) := by
  rw [sA_step h0, sA_step h1, sA_step h2, sA_step h3, (s0 4).1, sB_step (bA_lt _ h0), sB_step (bA_lt _ h1), sB_step (bA_lt _ h2), sB_step (bA_lt _ h3), (s0 4).2.1]
  obtain ⟨a0, b0, e0, _⟩ := bB_lt c0 h0
  obtain ⟨a1, b1, e1, _⟩ := bB_lt c1 h1
  obtain ⟨a2, b2, e2, _⟩ := bB_lt c2 h2
  obtain ⟨a3, b3, e3, _⟩ := bB_lt c3 h3
  rw [sC_step a0 (by omega), sC_step a1 (by omega), sC_step a2 (by omega), sC_step a3 (by omega), (s0 4).2.2, e0, e1, e2, e3]
theorem cnt_cat {c y : Nat} (hc : c < 256) : ∀ m, cnt (c + 256 * y).testBit (8 + m) = bP c + cnt y.testBit m
  | 0 => by rw [Nat.add_zero, cnt, Nat.add_zero]; exact cnt_congr (fun i hi => by rw [tb_cat hc, if_pos hi])
  | m + 1 => by
    rw [← Nat.add_assoc, cnt, cnt_cat hc m, cnt, tb_cat hc, if_neg (by omega), show 8 + m - 8 = m by omega]; omega
/-- how many ones -/
def pc (w : Nat) : Nat := cnt w.testBit 32
theorem pc_bytes {c0 c1 c2 c3 : Nat} (h0 : c0 < 256) (h1 : c1 < 256) (h2 : c2 < 256) (h3 : c3 < 256) :
    pc (c0 + 256 * (c1 + 256 * (c2 + 256 * (c3 + 256 * 0)))) = bP c0 + bP c1 + bP c2 + bP c3 := by
  unfold pc
  rw [show 32 = 8 + (8 + (8 + (8 + 0))) from rfl, cnt_cat h0, cnt_cat h1, cnt_cat h2, cnt_cat h3]; simp [cnt]; omega
theorem bytes_of {w : Nat} (h : w < 2 ^ 32) : ∃ c0 c1 c2 c3 : Nat, c0 < 256 ∧ c1 < 256 ∧ c2 < 256 ∧ c3 < 256 ∧ w = c0 + 256 * (c1 + 256 * (c2 + 256 * (c3 + 256 * 0))) :=
  ⟨w % 256, w / 256 % 256, w / 65536 % 256, w / 16777216, by omega, by omega, by omega, by omega, by omega⟩
theorem cnt_zero : ∀ m, cnt (0 : Nat).testBit m = 0
  | 0 => rfl
  | m + 1 => by rw [cnt, cnt_zero m, Nat.zero_testBit]; rfl
theorem cnt_head (g : Nat → Bool) : ∀ m, cnt g (m + 1) = (g 0).toNat + cnt (fun i => g (i + 1)) m
  | 0 => by simp [cnt]
  | m + 1 => by rw [cnt, cnt_head g m, cnt]; omega
theorem cnt_half (w m : Nat) : cnt w.testBit (m + 1) = w % 2 + cnt (w / 2).testBit m := by
  rw [cnt_head]
  have e : (w.testBit 0).toNat = w % 2 := by rw [Nat.toNat_testBit]; simp
  rw [e]
  congr 1
  exact cnt_congr (fun i _ => by rw [Nat.testBit_succ])
theorem pc_le (w : Nat) : pc w ≤ 32 := cnt_le _ _

theorem u64n {n : Nat} (h : n < 2 ^ 64) : Go.IntKind.u64.wrap (n : Int) = (n : Int) := by rw [Go.IntKind.wrap_u64]; omega
theorem u64and {a b : Nat} (ha : a < 2 ^ 64) (hb : b < 2 ^ 64) : Go.bits .and .u64 (a : Int) (b : Int) = ((a &&& b : Nat) : Int) := Go.u64_and_nat a b ha hb
theorem sA_eq {x : Nat} (hx : x < 2 ^ 32) : Go.IntKind.u64.wrap (Go.bits .and .u64 ((x : Int) / 2) 6148914691236517205 + Go.bits .and .u64 (x : Int) 6148914691236517205) = ((sA 8 x : Nat) : Int) := by
  have e : ((x : Int) / 2) = ((x / 2 : Nat) : Int) := by omega
  have e2 : (6148914691236517205 : Int) = ((repB 85 8 : Nat) : Int) := by decide
  have l1 : x / 2 &&& repB 85 8 ≤ x / 2 := Nat.and_le_left
  have l2 : x &&& repB 85 8 ≤ x := Nat.and_le_left
  rw [e, e2, u64and (by omega) (by decide), u64and (by omega) (by decide), ← Int.natCast_add, u64n (by omega)]; rfl
theorem sB_eq {x : Nat} (hx : x < 2 ^ 33) : Go.IntKind.u64.wrap (Go.bits .and .u64 ((x : Int) / 4) 3689348814741910323 + Go.bits .and .u64 (x : Int) 3689348814741910323) = ((sB 8 x : Nat) : Int) := by
  have e : ((x : Int) / 4) = ((x / 4 : Nat) : Int) := by omega
  have e2 : (3689348814741910323 : Int) = ((repB 51 8 : Nat) : Int) := by decide
  have l1 : x / 4 &&& repB 51 8 ≤ x / 4 := Nat.and_le_left
  have l2 : x &&& repB 51 8 ≤ x := Nat.and_le_left
  rw [e, e2, u64and (by omega) (by decide), u64and (by omega) (by decide), ← Int.natCast_add, u64n (by omega)]; rfl
theorem sC_eq {x : Nat} (hx : x < 2 ^ 34) : Go.bits .and .u64 (Go.IntKind.u64.wrap ((x : Int) / 16 + (x : Int))) 1085102592571150095 = ((sC 8 x : Nat) : Int) := by
  have e : ((x : Int) / 16) = ((x / 16 : Nat) : Int) := by omega
  have e2 : (1085102592571150095 : Int) = ((repB 15 8 : Nat) : Int) := by decide
  rw [e, e2, ← Int.natCast_add, u64n (by omega), u64and (by omega) (by decide)]; rfl
theorem sA_lt {x : Nat} (hx : x < 2 ^ 32) : sA 8 x < 2 ^ 33 := by
  have l1 : x / 2 &&& repB 85 8 ≤ x / 2 := Nat.and_le_left
  have l2 : x &&& repB 85 8 ≤ x := Nat.and_le_left
  unfold sA; omega
theorem sB_lt {x : Nat} (hx : x < 2 ^ 33) : sB 8 x < 2 ^ 34 := by
  have l1 : x / 4 &&& repB 51 8 ≤ x / 4 := Nat.and_le_left
  have l2 : x &&& repB 51 8 ≤ x := Nat.and_le_left
  unfold sB; omega
theorem last_sums {p0 p1 p2 p3 : Nat} (h0 : p0 ≤ 8) (h1 : p1 ≤ 8) (h2 : p2 ≤ 8) (h3 : p3 ≤ 8) (T U V : Nat) (hT : T = p0 + 256 * (p1 + 256 * (p2 + 256 * (p3 + 256 * 0)))) (hU : U = T + T / 256) (hV : V = U + U / 65536) :
    T < 2 ^ 32 ∧ U < 2 ^ 33 ∧ V < 2 ^ 34 ∧ (V + V / 4294967296) % 128 = p0 + p1 + p2 + p3 := by
  have bT : T < 2 ^ 32 := by omega
  have a1 : T / 256 = p1 + 256 * p2 + 65536 * p3 := by omega
  have a2 : U = (p0 + p1) + 256 * (p1 + p2) + 65536 * (p2 + p3) + 16777216 * p3 := by omega
  have bU : U < 2 ^ 33 := by omega
  clear hU a1 hT
  have a3 : U / 65536 = (p2 + p3) + 256 * p3 := by omega
  have a4 : V = (p0 + p1 + p2 + p3) + 256 * (p1 + p2 + p3) + 65536 * (p2 + p3) + 16777216 * p3 := by omega
  clear a3 hV
  have a5 : V / 4294967296 = 0 := by omega
  exact ⟨bT, bU, by omega, by omega⟩
theorem uw1 {T U : Nat} (hU : U = T + T / 256) (h : T < 2 ^ 32) : Go.IntKind.u64.wrap ((T : Int) + (T : Int) / 256) = (U : Int) := by rw [Go.IntKind.wrap_u64]; omega
theorem uw2 {T U : Nat} (hU : U = T + T / 65536) (h : T < 2 ^ 33) : Go.IntKind.u64.wrap ((T : Int) + (T : Int) / 65536) = (U : Int) := by rw [Go.IntKind.wrap_u64]; omega
theorem uw3 {V : Nat} (h : V < 2 ^ 34) : Go.IntKind.u64.wrap ((V : Int) + (V : Int) / 4294967296) = ((V + V / 4294967296 : Nat) : Int) := by rw [Go.IntKind.wrap_u64]; omega
theorem uw4 {X : Nat} (h : X < 2 ^ 36) : Go.bits .and .i64 (wrap64 (X : Int)) 127 = ((X % 128 : Nat) : Int) := by
  have e127 : (127 : Int) = ((127 : Nat) : Int) := rfl
  rw [w64 (by omega) (by omega), e127, and_nat (by omega) (by decide)]
  congr 1
  exact Nat.and_two_pow_sub_one_eq_mod X 7
/-- the last sums -/
theorem swar_end {w T : Nat} (h : w < 2 ^ 32) (hT : T = sC 8 (sB 8 (sA 8 w))) (r : Int)
    (hr : r = Go.bits .and .i64 (wrap64 (Go.IntKind.u64.wrap (Go.IntKind.u64.wrap (Go.IntKind.u64.wrap ((T : Int) + (T : Int) / 256) + Go.IntKind.u64.wrap ((T : Int) + (T : Int) / 256) / 65536) + Go.IntKind.u64.wrap (Go.IntKind.u64.wrap ((T : Int) + (T : Int) / 256) + Go.IntKind.u64.wrap ((T : Int) + (T : Int) / 256) / 65536) / 4294967296))) 127) : r = ((pc w : Nat) : Int) := by
  obtain ⟨c0, c1, c2, c3, h0, h1, h2, h3, rfl⟩ := bytes_of h
  rw [swar h0 h1 h2 h3] at hT
  rw [pc_bytes h0 h1 h2 h3]
  obtain ⟨_, _, _, p0⟩ := bB_lt c0 h0
  obtain ⟨_, _, _, p1⟩ := bB_lt c1 h1
  obtain ⟨_, _, _, p2⟩ := bB_lt c2 h2
  obtain ⟨_, _, _, p3⟩ := bB_lt c3 h3
  obtain ⟨U, hU⟩ : ∃ U, U = T + T / 256 := ⟨_, rfl⟩
  obtain ⟨V, hV⟩ : ∃ V, V = U + U / 65536 := ⟨_, rfl⟩
  obtain ⟨b1, b2, b3, b4⟩ := last_sums p0 p1 p2 p3 T U V hT hU hV
  rw [uw1 hU b1, uw2 hV b2, uw3 b3] at hr
  have b5 : V + V / 4294967296 < 2 ^ 36 := by clear hr; omega
  rw [uw4 b5, b4] at hr
  exact hr

end Go.Proofs.YtkmicbnbclkkkaaDoor.M
namespace Go.Proofs.YtkmicbnbclkkkaaDoor.M
open Go.RowKit Go.Proofs.YtkmicbnbclkkkaaDoorW.PrintWords Go.Proofs.YtkmicbnbclkkkaaDoorW.PrintLast
set_option linter.unusedVariables false
set_option linter.unusedSimpArgs false

theorem up1 {x : Nat} (h : x ≤ 1000000000000) : wrap64 ((x : Int) + 1) = ((x + 1 : Nat) : Int) := by rw [w64 (by omega) (by omega)]; omega

end Go.Proofs.YtkmicbnbclkkkaaDoor.M
namespace Go.Proofs.YtkmicbnbclkkkaaDoor.M
open Go.RowKit Go.Proofs.YtkmicbnbclkkkaaDoorW.PrintWords Go.Proofs.YtkmicbnbclkkkaaDoorW.PrintLast
set_option linter.unusedVariables false
set_option linter.unusedSimpArgs false

/-- the sum of those of the first i columns whose variables are 1 -/
def img (g : Nat → Nat) (x : Nat) : Nat → Nat
  | 0 => 0
  | i + 1 => if x.testBit i = true then img g x i ^^^ g i else img g x i
theorem img_congr_x {g : Nat → Nat} {x y : Nat} : ∀ {i : Nat}, (∀ j, j < i → x.testBit j = y.testBit j) → img g x i = img g y i
  | 0, _ => rfl
  | i + 1, h => by rw [img, img, img_congr_x (fun j hj => h j (by omega)), h i (by omega)]
theorem img_xor (g : Nat → Nat) (x y : Nat) : ∀ i, img g (x ^^^ y) i = img g x i ^^^ img g y i
  | 0 => by simp [img]
  | i + 1 => by
    have ih := img_xor g x y i
    simp only [img, Nat.testBit_xor, ih]
    cases x.testBit i <;> cases y.testBit i <;> simp
    · rw [Nat.xor_assoc]
    · rw [Nat.xor_assoc, Nat.xor_comm (img g y i) (g i), ← Nat.xor_assoc]
    · rw [Nat.xor_assoc, Nat.xor_comm (g i), Nat.xor_assoc, Nat.xor_self, Nat.xor_zero]
theorem img_zero (g : Nat → Nat) : ∀ i, img g 0 i = 0
  | 0 => rfl
  | i + 1 => by rw [img, img_zero g i]; simp
theorem img_low {g : Nat → Nat} {x i : Nat} (h : x < 2 ^ i) : ∀ d, img g x (i + d) = img g x i
  | 0 => rfl
  | d + 1 => by rw [← Nat.add_assoc, img, testBit_of_ge h (by omega), img_low h d]; simp
theorem img_top {g : Nat → Nat} {x i : Nat} (h : x < 2 ^ i) : img g (2 ^ i + x) (i + 1) = img g x i ^^^ g i := by
  have e : (2 ^ i + x).testBit i = true := by rw [Nat.testBit_two_pow_add_eq, testBit_of_ge h (Nat.le_refl _)]; rfl
  rw [img, e, if_pos rfl]
  congr 1
  exact img_congr_x (fun j hj => by rw [Nat.testBit_two_pow_add_gt hj])
/-! a list of numbers, each made less by those before it -/
def red : List Nat → Nat → Nat
  | [], x => x
  | b :: t, x => red t (min x (x ^^^ b))
/-- c has not the leading bit of b -/
def Clear (b c : Nat) : Prop := min c (c ^^^ b) = c
theorem min_lt {x b : Nat} (hx : x < 32) (hb : b < 32) : min x (x ^^^ b) < 32 := Nat.lt_of_le_of_lt (Nat.min_le_left _ _) hx
theorem clear_xor : ∀ b, b < 32 → ∀ x, x < 32 → ∀ c, c < 32 → (min c (c ^^^ b) = c → min (x ^^^ c) ((x ^^^ c) ^^^ b) = min x (x ^^^ b) ^^^ c) :=
  allB_dec3 (P := fun b x c => min c (c ^^^ b) = c → min (x ^^^ c) ((x ^^^ c) ^^^ b) = min x (x ^^^ b) ^^^ c) (by decide +kernel)
theorem clear_self : ∀ b, b < 32 → ∀ x, x < 32 → (min (min x (x ^^^ b)) (min x (x ^^^ b) ^^^ b) = min x (x ^^^ b) ∧ min (x ^^^ b) ((x ^^^ b) ^^^ b) = min x (x ^^^ b)) :=
  allB_dec2 (P := fun b x => min (min x (x ^^^ b)) (min x (x ^^^ b) ^^^ b) = min x (x ^^^ b) ∧ min (x ^^^ b) ((x ^^^ b) ^^^ b) = min x (x ^^^ b)) (by decide +kernel)
theorem x32 {a b : Nat} (ha : a < 32) (hb : b < 32) : a ^^^ b < 32 := Nat.xor_lt_two_pow (n := 5) ha hb
theorem red_lt : ∀ {l : List Nat} {x : Nat}, (∀ b ∈ l, b < 32) → x < 32 → red l x < 32
  | [], _, _, hx => hx
  | b :: t, x, h, hx => red_lt (l := t) (fun c hc => h c (List.mem_cons_of_mem _ hc)) (min_lt hx (h b List.mem_cons_self))
theorem red_append : ∀ (l : List Nat) (r x : Nat), red (l ++ [r]) x = min (red l x) (red l x ^^^ r)
  | [], _, _ => rfl
  | b :: t, r, x => by rw [List.cons_append, red, red_append t r]; rfl
/-- what a list takes away is a sum of the list's own -/
theorem red_diff {P : Nat → Prop} (hz : P 0) (hx : ∀ a b, P a → P b → P (a ^^^ b)) : ∀ {l : List Nat} {x : Nat}, (∀ b ∈ l, P b) → P (red l x ^^^ x)
  | [], x, _ => by rw [red, Nat.xor_self]; exact hz
  | b :: t, x, h => by
    have ih := red_diff hz hx (l := t) (x := min x (x ^^^ b)) (fun c hc => h c (List.mem_cons_of_mem _ hc))
    rw [red]
    by_cases e : x ≤ x ^^^ b
    · rw [Nat.min_eq_left e] at ih ⊢; exact ih
    · rw [Nat.min_eq_right (by omega)] at ih ⊢
      have := hx _ _ ih (h b List.mem_cons_self)
      rw [Nat.xor_assoc, Nat.xor_assoc, Nat.xor_self, Nat.xor_zero] at this
      exact this
theorem red_inv : ∀ {l : List Nat} {c y : Nat}, (∀ b ∈ l, b < 32) → l.Pairwise Clear → c ∈ l → y < 32 → red l (y ^^^ c) = red l y
  | b :: t, c, y, hl, hp, hc, hy => by
    have hb := hl b List.mem_cons_self
    have ht : ∀ c ∈ t, c < 32 := fun c hc => hl c (List.mem_cons_of_mem _ hc)
    obtain ⟨hp1, hp2⟩ := List.pairwise_cons.mp hp
    rw [red, red]
    rcases List.mem_cons.mp hc with rfl | hc'
    · rw [(clear_self _ hb _ hy).2]
    · rw [clear_xor _ hb _ hy _ (ht _ hc') (hp1 _ hc')]
      exact red_inv ht hp2 hc' (min_lt hy hb)
theorem red_keeps : ∀ {l : List Nat} {b y : Nat}, b < 32 → y < 32 → (∀ c ∈ l, c < 32) → (∀ c ∈ l, Clear b c) → Clear b y → Clear b (red l y)
  | [], _, _, _, _, _, _, h => h
  | c :: t, b, y, hb, hy, hl, hc, h => by
    have hc32 := hl c List.mem_cons_self
    rw [red]
    refine red_keeps hb (min_lt hy hc32) (fun d hd => hl d (List.mem_cons_of_mem _ hd)) (fun d hd => hc d (List.mem_cons_of_mem _ hd)) ?_
    by_cases e : y ≤ y ^^^ c
    · rw [Nat.min_eq_left e]; exact h
    · rw [Nat.min_eq_right (by omega)]
      unfold Clear
      rw [clear_xor _ hb _ hy _ hc32 (hc c List.mem_cons_self), h]
theorem red_clear : ∀ {l : List Nat} {y : Nat}, (∀ b ∈ l, b < 32) → l.Pairwise Clear → y < 32 → ∀ b ∈ l, Clear b (red l y)
  | b :: t, y, hl, hp, hy, c, hc => by
    have hb := hl b List.mem_cons_self
    have ht : ∀ c ∈ t, c < 32 := fun c hc => hl c (List.mem_cons_of_mem _ hc)
    obtain ⟨hp1, hp2⟩ := List.pairwise_cons.mp hp
    rw [red]
    rcases List.mem_cons.mp hc with rfl | hc'
    · exact red_keeps hb (min_lt hy hb) ht hp1 (clear_self _ hb _ hy).1
    · exact red_clear ht hp2 (min_lt hy hb) c hc'

/-- the list after i columns -/
def basis (g : Nat → Nat) : Nat → List Nat
  | 0 => []
  | i + 1 => if red (basis g i) (g i) > 0 then basis g i ++ [red (basis g i) (g i)] else basis g i
theorem basis_le (g : Nat → Nat) : ∀ i, (basis g i).length ≤ i
  | 0 => Nat.le_refl _
  | i + 1 => by have := basis_le g i; rw [basis]; split <;> simp <;> omega
theorem basis_step {g : Nat → Nat} {i : Nat} (h : (basis g (i + 1)).length = i + 1) : (basis g i).length = i ∧ red (basis g i) (g i) > 0 := by
  have h1 := basis_le g i
  rw [basis] at h
  by_cases hr : red (basis g i) (g i) > 0
  · rw [if_pos hr] at h; simp at h; exact ⟨h, hr⟩
  · rw [if_neg hr] at h; omega
/-- what the list after i columns is, if each of them gave one -/
structure Tri (g : Nat → Nat) (i : Nat) : Prop where
  lt : ∀ b ∈ basis g i, b < 32
  pw : (basis g i).Pairwise Clear
  inn : ∀ b ∈ basis g i, ∃ x, x < 2 ^ i ∧ b = img g x i
  same : ∀ j, j < i → ∀ y, y < 32 → red (basis g i) (y ^^^ g j) = red (basis g i) y
theorem xor_mid (a b c : Nat) : a ^^^ (b ^^^ c) = a ^^^ b ^^^ c := (Nat.xor_assoc a b c).symm
theorem xor_back (a b : Nat) : a ^^^ (a ^^^ b) = b := by rw [← Nat.xor_assoc, Nat.xor_self, Nat.zero_xor]
theorem Tri.step {g : Nat → Nat} {i : Nat} (hg : ∀ j, j ≤ i → g j < 32) (T : Tri g i) (hr : red (basis g i) (g i) > 0) : Tri g (i + 1) := by
  have hgi := hg i (Nat.le_refl _)
  have hrl := red_lt T.lt hgi
  have hb : basis g (i + 1) = basis g i ++ [red (basis g i) (g i)] := by rw [basis, if_pos hr]
  have hcl := red_clear T.lt T.pw hgi
  have hd := red_diff (P := fun v => ∃ x, x < 2 ^ i ∧ v = img g x i) ⟨0, Nat.two_pow_pos _, (img_zero g i).symm⟩ (fun a b ⟨x, hx, ea⟩ ⟨y, hy, eb⟩ => ⟨x ^^^ y, Nat.xor_lt_two_pow hx hy, by rw [img_xor, ← ea, ← eb]⟩) (l := basis g i) (x := g i) T.inn
  have hlt : ∀ b ∈ basis g (i + 1), b < 32 := fun b hb' => by
    rw [hb] at hb'
    rcases List.mem_append.mp hb' with h | h
    · exact T.lt b h
    · rw [List.mem_singleton.mp h]; exact hrl
  have hpw : (basis g (i + 1)).Pairwise Clear := by
    rw [hb, List.pairwise_append]
    exact ⟨T.pw, List.pairwise_singleton _ _, fun b hb' c hc => by rw [List.mem_singleton.mp hc]; exact hcl b hb'⟩
  refine ⟨hlt, hpw, ?_, ?_⟩
  · intro b hb'
    rw [hb] at hb'
    rcases List.mem_append.mp hb' with h | h
    · obtain ⟨x, hx, e⟩ := T.inn b h
      exact ⟨x, Nat.lt_of_lt_of_le hx (Nat.pow_le_pow_right (by decide) (by omega)), by rw [e, img_low hx 1]⟩
    · rw [List.mem_singleton.mp h]
      obtain ⟨x, hx, e⟩ := hd
      refine ⟨2 ^ i + x, by rw [Nat.pow_succ]; omega, ?_⟩
      rw [img_top hx, ← e, Nat.xor_assoc, Nat.xor_self, Nat.xor_zero]
  · intro j hj y hy
    by_cases e : j = i
    · subst e
      have hq := red_diff (P := fun v => v < 32 ∧ ∀ y, y < 32 → red (basis g (j + 1)) (y ^^^ v) = red (basis g (j + 1)) y) ⟨by decide, fun y _ => by rw [Nat.xor_zero]⟩
        (fun a b ⟨ha, h1⟩ ⟨hb, h2⟩ => ⟨x32 ha hb, fun y hy => by rw [xor_mid, h2 _ (x32 hy ha), h1 _ hy]⟩) (l := basis g j) (x := g j)
        (fun b hb' => ⟨T.lt b hb', fun y hy => red_inv hlt hpw (by rw [hb]; exact List.mem_append_left _ hb') hy⟩)
      obtain ⟨q1, q2⟩ := hq
      have hrr : red (basis g (j + 1)) (y ^^^ red (basis g j) (g j)) = red (basis g (j + 1)) y := red_inv hlt hpw (by rw [hb]; exact List.mem_append_right _ List.mem_cons_self) hy
      rw [← hrr, ← q2 _ (x32 hy hrl)]
      congr 1
      rw [Nat.xor_assoc, xor_back]
    · rw [hb, red_append, red_append, T.same j (by omega) y hy]
theorem Tri.of {g : Nat → Nat} : ∀ {i : Nat}, (∀ j, j < i → g j < 32) → (basis g i).length = i → Tri g i
  | 0, _, _ => ⟨by simp [basis], by simp [basis], by simp [basis], fun j hj => by omega⟩
  | i + 1, hg, h => by
    obtain ⟨h1, h2⟩ := basis_step h
    exact (Tri.of (fun j hj => hg j (by omega)) h1).step (fun j hj => hg j (by omega)) h2
/-- columns are independent: no sum of some of them is 0 -/
def Indep (g : Nat → Nat) (n : Nat) : Prop := ∀ x, 1 ≤ x → x < 2 ^ n → img g x n ≠ 0
theorem Indep.inj {g : Nat → Nat} {n x y : Nat} (h : Indep g n) (hx : x < 2 ^ n) (hy : y < 2 ^ n) (e : img g x n = img g y n) : x = y := by
  have h1 : img g (x ^^^ y) n = 0 := by rw [img_xor, e, Nat.xor_self]
  by_cases hz : x ^^^ y = 0
  · have := congrArg (fun v => x ^^^ v) hz
    simp only [xor_back, Nat.xor_zero] at this
    exact this.symm
  · exact absurd h1 (h _ (by omega) (Nat.xor_lt_two_pow hx hy))

end Go.Proofs.YtkmicbnbclkkkaaDoor.M
namespace Go.Proofs.YtkmicbnbclkkkaaDoor.M
open Go.RowKit Go.Proofs.YtkmicbnbclkkkaaDoorW.PrintWords Go.Proofs.YtkmicbnbclkkkaaDoorW.PrintLast Go.Proofs.YtkmicbnbclkkkaaDoorW.PrintMore
set_option linter.unusedVariables false
set_option linter.unusedSimpArgs false

theorem Ev.since {α : Type} {g : Nat → Option α} {r : α} (K : Nat) (h : ∀ k, K ≤ k → g k = some r) : Ev g r := ⟨K, h⟩
/-- a loop that ends with r at a bad place, of which there is one -/
theorem Ev.bad {α : Type} (F : Nat → Nat → Option α) (N : Nat) (r : α) (ok : Nat → Bool)
    (hs : ∀ i, i < N → ok i = true → Ev (fun k => F k (i + 1)) r → Ev (fun k => F k i) r) (hb : ∀ i, i < N → ok i = false → Ev (fun k => F k i) r) :
    ∀ d i, i + d = N → (∃ j, i ≤ j ∧ j < N ∧ ok j = false) → Ev (fun k => F k i) r := by
  intro d
  induction d with
  | zero => intro i hi ⟨j, h1, h2, _⟩; omega
  | succ d ih =>
    intro i hi ⟨j, h1, h2, h3⟩
    cases e : ok i with
    | false => exact hb i (by omega) e
    | true =>
      refine hs i (by omega) e (ih (i + 1) (by omega) ⟨j, ?_, h2, h3⟩)
      by_cases h : j = i
      · subst h; rw [h3] at e; cases e
      · omega
theorem mx_nat (a b : Nat) : mx (a : Int) (b : Int) = ((max a b : Nat) : Int) := by unfold mx; split <;> omega
end Go.Proofs.YtkmicbnbclkkkaaDoor.M
namespace Go.Proofs.YtkmicbnbclkkkaaDoor.M
open Go.RowKit Go.Proofs.YtkmicbnbclkkkaaDoorW.PrintWords Go.Proofs.YtkmicbnbclkkkaaDoorW.PrintLast
set_option linter.unusedVariables false
set_option linter.unusedSimpArgs false

theorem allB_ex {p : Nat → Bool} : ∀ {n : Nat}, allB n p = false → ∃ j, j < n ∧ p j = false
  | 0, h => by cases h
  | n + 1, h => by
    rw [allB] at h
    cases e : p n with
    | false => exact ⟨n, by omega, e⟩
    | true =>
      rw [e, Bool.true_and] at h
      obtain ⟨j, h1, h2⟩ := allB_ex h
      exact ⟨j, by omega, h2⟩
/-- a loop that goes on where ok holds and answers bad where not -/
theorem Ev.all {α : Type} (F : Nat → Nat → Option α) (N : Nat) (ok : Nat → Bool) (good bad : α)
    (hs : ∀ i, i < N → ok i = true → ∀ r, Ev (fun k => F k (i + 1)) r → Ev (fun k => F k i) r) (hb : ∀ i, i < N → ok i = false → Ev (fun k => F k i) bad) (he : Ev (fun k => F k N) good) :
    Ev (fun k => F k 0) (if allB N ok = true then good else bad) := by
  cases h : allB N ok with
  | true =>
    exact Ev.count F N good (fun i hi hn => hs i hi (allB_of h i hi) good hn) he N 0 (by omega)
  | false =>
    obtain ⟨j, h1, h2⟩ := allB_ex h
    exact Ev.bad F N bad ok (fun i hi ho hn => hs i hi ho bad hn) hb N 0 (by omega) ⟨j, by omega, h1, h2⟩
end Go.Proofs.YtkmicbnbclkkkaaDoor.M
namespace Go.Proofs.YtkmicbnbclkkkaaDoor.M
open Go.RowKit Go.Proofs.YtkmicbnbclkkkaaDoorW.PrintWords Go.Proofs.YtkmicbnbclkkkaaDoorW.PrintLast
set_option linter.unusedVariables false
set_option linter.unusedSimpArgs false

/-- how many variables are left -/
def cutLeft (n m : Nat) : Nat → Nat
  | 0 => n
  | d + 1 => if m.testBit (n - 1 - d) = true then cutLeft n m d - 1 else cutLeft n m d
theorem left_all : ∀ n, n < 5 → ∀ m, m < 16 → m < 2 ^ n → cutLeft n m n + pc m = n :=
  allB_dec2 (P := fun n m => m < 2 ^ n → cutLeft n m n + pc m = n) (by decide +kernel)
theorem pow16 {n : Nat} (h : n ≤ 4) : 2 ^ n ≤ 16 := Nat.pow_le_pow_right (n := 2) (by decide) h
/-! the same from the first variable on -/
/-! lists of values -/
/-- the value of a list, 2 if there are two, behind a first one -/
def cubeGo (first : Int) : List Bool → Int
  | [] => first
  | b :: t => if first ≥ 0 then (if first = ((b.toNat : Nat) : Int) then cubeGo ((b.toNat : Nat) : Int) t else 2) else cubeGo ((b.toNat : Nat) : Int) t
theorem cubeGo_nat (c : Bool) : ∀ l : List Bool, cubeGo ((c.toNat : Nat) : Int) l = if l.all (· == c) = true then ((c.toNat : Nat) : Int) else 2
  | [] => rfl
  | b :: t => by
    have ih := cubeGo_nat b t
    rw [cubeGo, if_pos (Int.natCast_nonneg _), List.all_cons]
    by_cases h : b = c
    · subst h
      rw [if_pos rfl, ih]; simp
    · rw [if_neg (by cases b <;> cases c <;> simp_all)]
      have : (b == c) = false := beq_eq_false_iff_ne.mpr h
      rw [this, Bool.false_and, if_neg (by decide)]
theorem cubeGo_lt (l : List Bool) (hl : l ≠ []) : (cubeGo (-1) l < 2) ↔ (l.all (· == true) = true ∨ l.all (· == false) = true) := by
  cases l with
  | nil => exact absurd rfl hl
  | cons b t =>
    rw [cubeGo, if_neg (by decide), cubeGo_nat, List.all_cons, List.all_cons]
    cases b
    · show _ ↔ (false && _) = true ∨ (true && _) = true
      rw [Bool.false_and, Bool.true_and]
      by_cases h : t.all (· == false) = true
      · rw [if_pos h]; exact ⟨fun _ => .inr h, fun _ => by decide⟩
      · rw [if_neg h]; exact ⟨fun e => absurd e (by decide), fun e => absurd (e.resolve_left (by decide)) h⟩
    · show _ ↔ (true && _) = true ∨ (false && _) = true
      rw [Bool.false_and, Bool.true_and]
      by_cases h : t.all (· == true) = true
      · rw [if_pos h]; exact ⟨fun _ => .inl h, fun _ => by decide⟩
      · rw [if_neg h]; exact ⟨fun e => absurd e (by decide), fun e => absurd (e.resolve_right (by decide)) h⟩
end Go.Proofs.YtkmicbnbclkkkaaDoor.M
namespace Go.Proofs.YtkmicbnbclkkkaaDoor.M
open Go.RowKit Go.Proofs.YtkmicbnbclkkkaaDoorW.PrintWords Go.Proofs.YtkmicbnbclkkkaaDoorW.PrintLast
set_option linter.unusedVariables false
set_option linter.unusedSimpArgs false

/-- the inputs of a subcube -/
def inX (n m u : Nat) : List Nat := (List.range (2 ^ n)).filter (fun x => x &&& m == u)
/-- is a table constant on a list of inputs -/
def conL (v : Nat) (l : List Nat) : Bool := decide (cubeGo (-1) (l.map v.testBit) < 2)
/-- the variables below i that m does not hold -/
def frL (i m : Nat) : List Nat := (List.range i).filter (fun i => !m.testBit i)
theorem frL_succ_free {i m : Nat} (h : m.testBit i = false) : frL (i + 1) m = frL i m ++ [i] := by
  unfold frL; rw [List.range_succ, List.filter_append]; simp [h]
theorem frL_succ_held {i m : Nat} (h : m.testBit i = true) : frL (i + 1) m = frL i m := by
  unfold frL; rw [List.range_succ, List.filter_append]; simp [h]
def bestOf (g : Nat → Nat) (b : Nat) (l : List Nat) : Nat := l.foldl (fun b i => min b (1 + g i)) b
theorem bestOf_snoc (g : Nat → Nat) (b : Nat) (l : List Nat) (i : Nat) : bestOf g b (l ++ [i]) = min (bestOf g b l) (1 + g i) := by
  unfold bestOf; rw [List.foldl_append]; rfl
theorem bestOf_le (g : Nat → Nat) : ∀ (l : List Nat) (b : Nat), bestOf g b l ≤ b ∧ ∀ i ∈ l, bestOf g b l ≤ 1 + g i
  | [], b => ⟨Nat.le_refl _, fun i h => by cases h⟩
  | x :: t, b => by
    obtain ⟨h1, h2⟩ := bestOf_le g t (min b (1 + g x))
    have e : bestOf g b (x :: t) = bestOf g (min b (1 + g x)) t := rfl
    rw [e]
    refine ⟨by omega, fun i hi => ?_⟩
    rcases List.mem_cons.mp hi with rfl | hi
    · omega
    · exact h2 i hi
theorem bestOf_init (g : Nat → Nat) : ∀ (l : List Nat) (b c : Nat), b ≤ c → bestOf g b l = min b (bestOf g c l)
  | [], b, c, h => by show b = min b c; omega
  | x :: t, b, c, h => by
    have e : ∀ b, bestOf g b (x :: t) = bestOf g (min b (1 + g x)) t := fun _ => rfl
    rw [e, e, bestOf_init g t (min b (1 + g x)) (min c (1 + g x)) (by omega)]
    have := (bestOf_le g t (min c (1 + g x))).1
    omega
theorem bestOf_two {g : Nat → Nat} {l : List Nat} {b c i : Nat} (hi : i ∈ l) (hb : 1 + g i ≤ b) (hc : 1 + g i ≤ c) : bestOf g b l = bestOf g c l := by
  have h1 := (bestOf_le g l b).2 i hi
  have h2 := (bestOf_le g l c).2 i hi
  rcases Nat.le_total b c with h | h
  · rw [bestOf_init g l b c h]; omega
  · rw [bestOf_init g l c b h]; omega
theorem bestOf_congr {g g' : Nat → Nat} : ∀ (l : List Nat) (b : Nat), (∀ i ∈ l, g i = g' i) → bestOf g b l = bestOf g' b l
  | [], b, h => rfl
  | x :: t, b, h => by
    have e : ∀ g : Nat → Nat, bestOf g b (x :: t) = bestOf g (min b (1 + g x)) t := fun _ => rfl
    rw [e, e, h x (List.mem_cons_self ..)]
    exact bestOf_congr t _ (fun i hi => h i (List.mem_cons_of_mem _ hi))
/-- the least depth on a subcube: b where nothing is known, d: how many variables are left -/
def ldC (b n v : Nat) : Nat → Nat → Nat → Nat
  | 0, m, u => 0
  | d + 1, m, u => if conL v (inX n m u) = true then 0 else bestOf (fun i => max (ldC b n v d (m ||| 2 ^ i) u) (ldC b n v d (m ||| 2 ^ i) (u ||| 2 ^ i))) b (frL n m)

/-! what is checked of all subcubes of at most four variables -/
def subsOf (n m : Nat) : List Nat := (List.range (2 ^ n)).filter (fun u => andn u m == 0)
theorem mem_subs {n m u : Nat} : u ∈ subsOf n m ↔ u < 2 ^ n ∧ andn u m = 0 := by
  unfold subsOf; rw [List.mem_filter, List.mem_range, beq_iff_eq]
/-- the x-th input of the variables that m does not hold -/
def dpX (n m x : Nat) : Nat := (inX n m 0).getD x 0
def allCubes (p : Nat → Nat → Nat → Bool) : Bool := (List.range 5).all fun n => (List.range (2 ^ n)).all fun m => (subsOf n m).all fun u => p n m u
theorem allCubes_of {p : Nat → Nat → Nat → Bool} (h : allCubes p = true) {n m u : Nat} (hn : n ≤ 4) (hm : m < 2 ^ n) (hu : u < 2 ^ n) (hum : andn u m = 0) : p n m u = true := by
  unfold allCubes at h
  have h1 := List.all_eq_true.mp h n (List.mem_range.mpr (by omega))
  have h2 := List.all_eq_true.mp h1 m (List.mem_range.mpr hm)
  exact List.all_eq_true.mp h2 u (mem_subs.mpr ⟨hu, hum⟩)
/-- a free variable's step leads to a subcube with one variable less -/
def stepOk (n m u : Nat) : Bool := ((frL n m).length == n - pc m) && (frL n m).all fun i => decide (m ||| 2 ^ i < 2 ^ n) && (pc (m ||| 2 ^ i) == pc m + 1) && (andn u (m ||| 2 ^ i) == 0) && decide (u ||| 2 ^ i < 2 ^ n) && (andn (u ||| 2 ^ i) (m ||| 2 ^ i) == 0)
theorem stepOk_all : allCubes stepOk = true := by decide +kernel
/-- a full subcube has one input -/
def oneOk (n m u : Nat) : Bool := (pc m != n) || ((inX n m u).length == 1)
theorem oneOk_all : allCubes oneOk = true := by decide +kernel
/-- a subcube of a subcube -/
def inOk (n m u : Nat) : Bool := (List.range (2 ^ (n - pc m))).all fun m' => (subsOf (n - pc m) m').all fun u' =>
  ((inX (n - pc m) m' u').map (fun j => dpX n m j ||| u) == inX n (m ||| dpX n m m') (u ||| dpX n m u')) && decide (m ||| dpX n m m' < 2 ^ n) && decide (u ||| dpX n m u' < 2 ^ n) && (andn (u ||| dpX n m u') (m ||| dpX n m m') == 0) && (pc (m ||| dpX n m m') == pc m + pc m')
theorem inOk_all : allCubes inOk = true := by decide +kernel
def neOk (n m u : Nat) : Bool := !(inX n m u).isEmpty
theorem neOk_all : allCubes neOk = true := by decide +kernel
structure Cb (n m u : Nat) : Prop where
  hn : n ≤ 4
  hm : m < 2 ^ n
  hu : u < 2 ^ n
  hum : andn u m = 0
theorem Cb.step {n m u i : Nat} (h : Cb n m u) (hi : i ∈ frL n m) : Cb n (m ||| 2 ^ i) u ∧ Cb n (m ||| 2 ^ i) (u ||| 2 ^ i) ∧ pc (m ||| 2 ^ i) = pc m + 1 := by
  have h1 := allCubes_of stepOk_all h.hn h.hm h.hu h.hum
  unfold stepOk at h1
  rw [Bool.and_eq_true] at h1
  have h2 := List.all_eq_true.mp h1.2 i hi
  simp only [Bool.and_eq_true, beq_iff_eq, decide_eq_true_eq] at h2
  obtain ⟨⟨⟨⟨a, b⟩, c⟩, d⟩, e⟩ := h2
  exact ⟨⟨h.hn, a, h.hu, c⟩, ⟨h.hn, a, d, e⟩, b⟩
theorem Cb.frees {n m u : Nat} (h : Cb n m u) : (frL n m).length = n - pc m := by
  have h1 := allCubes_of stepOk_all h.hn h.hm h.hu h.hum
  unfold stepOk at h1
  rw [Bool.and_eq_true] at h1
  exact beq_iff_eq.mp h1.1
theorem Cb.pc_le {n m u : Nat} (h : Cb n m u) : pc m ≤ n := by
  have := pow16 h.hn; have := left_all n (by have := h.hn; omega) m (by have := h.hm; omega) h.hm; omega
theorem Cb.ne {n m u : Nat} (h : Cb n m u) : inX n m u ≠ [] := by
  have h1 := allCubes_of neOk_all h.hn h.hm h.hu h.hum
  unfold neOk at h1
  intro e
  rw [e] at h1
  cases h1
theorem Cb.con {n m u v : Nat} (h : Cb n m u) (hp : pc m = n) : conL v (inX n m u) = true := by
  have h1 := allCubes_of oneOk_all h.hn h.hm h.hu h.hum
  unfold oneOk at h1
  rw [hp] at h1
  simp only [bne_self_eq_false, Bool.false_or, beq_iff_eq] at h1
  obtain ⟨x, hx⟩ := List.length_eq_one_iff.mp h1
  unfold conL
  rw [hx]
  show decide (cubeGo (-1) [v.testBit x] < 2) = true
  rw [cubeGo, if_neg (by decide), cubeGo]
  cases v.testBit x <;> decide
theorem ldC_le {b n v : Nat} (hb : n ≤ b) : ∀ {d m u : Nat}, Cb n m u → pc m + d = n → ldC b n v d m u ≤ d
  | 0, m, u, _, _ => Nat.le_refl _
  | d + 1, m, u, h, hp => by
    rw [ldC]
    split
    · omega
    · have hf := h.frees
      obtain ⟨i, hi⟩ : ∃ i, i ∈ frL n m := by
        cases hl : frL n m with
        | nil => rw [hl] at hf; simp at hf; omega
        | cons x t => exact ⟨x, List.mem_cons_self ..⟩
      obtain ⟨h1, h2, h3⟩ := h.step hi
      have a1 := ldC_le (v := v) hb (d := d) h1 (by omega)
      have a2 := ldC_le (v := v) hb (d := d) h2 (by omega)
      have := (bestOf_le (fun i => max (ldC b n v d (m ||| 2 ^ i) u) (ldC b n v d (m ||| 2 ^ i) (u ||| 2 ^ i))) (frL n m) b).2 i hi
      omega
/-- what is known of nothing does not matter -/
theorem ldC_init {b c n v : Nat} (hb : n ≤ b) (hc : n ≤ c) : ∀ {d m u : Nat}, Cb n m u → pc m + d = n → ldC b n v d m u = ldC c n v d m u
  | 0, m, u, _, _ => rfl
  | d + 1, m, u, h, hp => by
    rw [ldC, ldC]
    split
    · rfl
    · have hf := h.frees
      obtain ⟨i, hi⟩ : ∃ i, i ∈ frL n m := by
        cases hl : frL n m with
        | nil => rw [hl] at hf; simp at hf; omega
        | cons x t => exact ⟨x, List.mem_cons_self ..⟩
      have e : ∀ i ∈ frL n m, max (ldC b n v d (m ||| 2 ^ i) u) (ldC b n v d (m ||| 2 ^ i) (u ||| 2 ^ i)) = max (ldC c n v d (m ||| 2 ^ i) u) (ldC c n v d (m ||| 2 ^ i) (u ||| 2 ^ i)) := fun i hi => by
        obtain ⟨h1, h2, h3⟩ := h.step hi
        rw [ldC_init hb hc h1 (by omega), ldC_init hb hc h2 (by omega)]
      rw [bestOf_congr _ _ e]
      obtain ⟨h1, h2, h3⟩ := h.step hi
      have a1 := ldC_le (v := v) hc (d := d) h1 (by omega)
      have a2 := ldC_le (v := v) hc (d := d) h2 (by omega)
      exact bestOf_two hi (by omega) (by omega)
theorem Cb.sub {n m u k m' u' : Nat} (h : Cb n m u) (hk : pc m + k = n) (h' : Cb k m' u') :
    (inX k m' u').map (fun j => dpX n m j ||| u) = inX n (m ||| dpX n m m') (u ||| dpX n m u') ∧ Cb n (m ||| dpX n m m') (u ||| dpX n m u') ∧ pc (m ||| dpX n m m') = pc m + pc m' := by
  have h1 := allCubes_of inOk_all h.hn h.hm h.hu h.hum
  unfold inOk at h1
  rw [show n - pc m = k by omega] at h1
  have h2 := List.all_eq_true.mp h1 m' (List.mem_range.mpr h'.hm)
  have h3 := List.all_eq_true.mp h2 u' (mem_subs.mpr ⟨h'.hu, h'.hum⟩)
  simp only [Bool.and_eq_true, beq_iff_eq, decide_eq_true_eq] at h3
  obtain ⟨⟨⟨⟨a, b⟩, c⟩, d⟩, e⟩ := h3
  exact ⟨a, ⟨h.hn, b, c, d⟩, e⟩
theorem pc_zero : pc 0 = 0 := by decide
theorem Cb.zero {k : Nat} (hk : k ≤ 4) : Cb k 0 0 := ⟨hk, Nat.two_pow_pos _, Nat.two_pow_pos _, rfl⟩
end Go.Proofs.YtkmicbnbclkkkaaDoor.M
namespace Go.Proofs.YtkmicbnbclkkkaaDoor.M
open Go Go.ChangeMaps Go.MapKept Go.RowKit Go.Proofs.YtkmicbnbclkkkaaDoorW.PrintWords Go.Proofs.YtkmicbnbclkkkaaDoorW.PrintLast
open Go.WideElems (Fit rd rg pl rd_val elemAt)
open Go.Maps (Keyed)
set_option linter.unusedVariables false

/-- block b is a map each of whose entries bears what G asks of it -/
def Memo (P : Program) (k e : TypeId) (G : Value → Value → Prop) (w : World) (b : Nat) : Prop :=
  ∃ es clock, w.heap[b]? = some (.map es clock) ∧ Fit P k (plainElem (H := Unit) P e) es clock ∧ ∀ x ∈ es.toList, G x.key x.val

variable {P : Program} {k e t : TypeId} {G : Value → Value → Prop} {w w' : World} {b : Nat}

theorem Memo.made (w : World) (P : Program) (k e : TypeId) (G : Value → Value → Prop) : Memo P k e G (w.alloc (.map #[] 0)) w.heap.size :=
  ⟨#[], 0, (MapKept.heap_alloc w _).1, ⟨by simp, stamped_empty 0, by simp⟩, fun x hx => by simp at hx⟩
theorem Memo.empty (h : w.heap[b]? = some (.map #[] 0)) : Memo P k e G w b := ⟨#[], 0, h, ⟨by simp, stamped_empty 0, by simp⟩, fun x hx => by simp at hx⟩
theorem Memo.blk (h : Memo P k e G w b) (hb : w'.heap[b]? = w.heap[b]?) : Memo P k e G w' b := by
  obtain ⟨es, clock, hb', F, hG⟩ := h
  exact ⟨es, clock, hb.trans hb', F, hG⟩
theorem Memo.lt (h : Memo P k e G w b) : b < w.heap.size := by
  obtain ⟨es, clock, hb, _⟩ := h
  exact (Array.getElem?_eq_some_iff.1 hb).1
theorem Memo.drewN (h : Memo P k e G w b) (d : Nat) : Memo P k e G (w.drewN d) b := h.blk (by simp)
theorem Memo.drew (h : Memo P k e G w b) : Memo P k e G w.drew b := h
theorem Memo.below (h : Memo P k e G w b) (hb : Below w.heap.size w w') : Memo P k e G w' b := h.blk (hb.block b h.lt)
theorem Memo.alloc (h : Memo P k e G w b) (o : Obj) : Memo P k e G (w.alloc o) b := h.blk (Below.heap_alloc w o b h.lt)
theorem Memo.setCell (h : Memo P k e G w b) {p : Addr} (hp : b ≠ p.block) (u : Value) : Memo P k e G (w.setCell p u) b := h.blk (Below.heap_setCell w p u b hp)

theorem one_of_key {es : List MapEntry} (h : es.Pairwise (fun x y => x.key ≠ y.key)) {x y : MapEntry} (hx : x ∈ es) (hy : y ∈ es) (e : x.key = y.key) : x = y := by
  induction es with
  | nil => cases hx
  | cons z t ih =>
    obtain ⟨h1, h2⟩ := List.pairwise_cons.mp h
    rcases List.mem_cons.mp hx with ex | hx2
    · rcases List.mem_cons.mp hy with ey | hy2
      · rw [ex, ey]
      · rw [ex] at e; exact absurd e (h1 y hy2)
    · rcases List.mem_cons.mp hy with ey | hy2
      · rw [ey] at e; exact absurd e.symm (h1 x hx2)
      · exact ih h2 hx2 hy2
/-- .. alike in all worlds with these blocks -/
theorem Memo.look_all (h : Memo P k e G w b) (K : Keyed P k) (ht : P.underlying t = some (.map k e)) {z : Value} (hz : ∀ w, (zeroValue e).run P w = .ok z w) {key : Value} {kl : Lit} (hkey : keyOf P k key = some kl) :
    (∀ W, W.heap[b]? = w.heap[b]? → (Instr.lookup t (.map (some b)) key true).run P W = .ok (.tuple #[z, .bool false]) W) ∨ ∃ v, G key v ∧ ∀ W, W.heap[b]? = w.heap[b]? → (Instr.lookup t (.map (some b)) key true).run P W = .ok (.tuple #[v, .bool true]) W := by
  obtain ⟨es, clock, hb, F, hG⟩ := h
  have hap := ((stamped_iff es clock).1 F.stamped).2.2
  by_cases hx : ∃ x ∈ es.toList, x.key = key
  · obtain ⟨x, hx, hk⟩ := hx
    refine .inr ⟨x.val, by have := hG x hx; rw [hk] at this; exact this, fun W hW => ?_⟩
    rcases Maps.fit_look true K ht (hz W) (hW.trans hb) F hkey with ⟨_, hno, _⟩ | ⟨e0, y, hm, hk0, hrun, _⟩
    · exact absurd hk (hno x hx)
    · rw [one_of_key hap hx hm (hk.trans hk0.symm)]; exact hrun
  · refine .inl fun W hW => ?_
    rcases Maps.fit_look true K ht (hz W) (hW.trans hb) F hkey with ⟨hrun, _, _⟩ | ⟨e0, y, hm, hk0, _⟩
    · exact hrun
    · exact absurd ⟨e0, hm, hk0⟩ hx
/-- apart, and all in a list: not more than the list -/
theorem apart_le {α : Type} : ∀ (l L : List α), l.Pairwise (· ≠ ·) → (∀ x ∈ l, x ∈ L) → l.length ≤ L.length
  | [], L, _, _ => Nat.zero_le _
  | x :: t, L, h, hl => by
    obtain ⟨h1, h2⟩ := List.pairwise_cons.mp h
    obtain ⟨s, r, rfl⟩ := List.append_of_mem (hl x (List.mem_cons_self ..))
    have := apart_le t (s ++ r) h2 (fun y hy => by
      have h3 := hl y (List.mem_cons_of_mem _ hy)
      rcases List.mem_append.mp h3 with h3 | h3
      · exact List.mem_append_left _ h3
      · rcases List.mem_cons.mp h3 with h3 | h3
        · exact absurd h3.symm (h1 y hy)
        · exact List.mem_append_right _ h3)
    simp only [List.length_cons, List.length_append] at this ⊢
    omega
/-- storing what G asks, where G leaves but few keys -/
theorem Memo.store (h : Memo P k e G w b) (K : Keyed P k) (ht : P.underlying t = some (.map k e)) {L : List Value} (hL : ∀ x y, G x y → x ∈ L) (hn : L.length < maxLen) {key : Value} {kl : Lit} {q : IntKind} {a : Int} (he : P.underlying e = some (.int q)) (hw : (Lit.int q a).wf = true) (hkey : keyOf P k key = some kl) (hG' : G key (.int q a)) :
    ∃ w', (Instr.mapUpdate t (.map (some b)) key (.int q a)).run P w = .ok () w' ∧ Memo P k e G w' b ∧ w.mapTurned w' b := by
  obtain ⟨es, clock, hb, F, hG⟩ := h
  have hsz : es.size < maxLen := by
    have hp : (es.toList.map (fun x => x.key)).Pairwise (· ≠ ·) := by
      rw [List.pairwise_map]
      exact ((stamped_iff es clock).1 F.stamped).2.2
    have := apart_le _ L hp (fun x hx => by
      obtain ⟨y, hy, rfl⟩ := List.mem_map.mp hx
      exact hL _ _ (hG y hy))
    simp at this
    omega
  obtain ⟨es', clock', hrun, F', hput, _, _, hwho⟩ := Maps.fit_store (R' := plainElem (H := Unit) P e) K ht hb F hsz (fun _ _ _ _ hz => hz) hkey (plainElem_int he hw)
  refine ⟨_, hrun, ⟨es', clock', heap_setBlock_same hb _, F', ?_⟩, ⟨es, clock, es', clock', hb, rfl⟩⟩
  intro x hx
  rcases hwho x hx with ⟨h1, _⟩ | ⟨h1, h2⟩
  · exact hG x h1
  · rw [h1, h2]; exact hG'
theorem min_val (b R0 R1 : Nat) (h0 : R0 ≤ 100) (h1 : R1 ≤ 100) : (if IntKind.i64.wrap (1 + if R0 < R1 then (R1 : Int) else (R0 : Int)) < (b : Int) then IntKind.i64.wrap (1 + if R0 < R1 then (R1 : Int) else (R0 : Int)) else (b : Int)) = ((min b (1 + max R0 R1) : Nat) : Int) := by
  have e : (if R0 < R1 then (R1 : Int) else (R0 : Int)) = ((max R0 R1 : Nat) : Int) := by split <;> omega
  rw [e, wi64 _ (by omega) (by omega)]
  split <;> omega
theorem wf_nat {a : Nat} (h : a < 2 ^ 63) : (Lit.int .i64 (a : Int)).wf = true := by
  simp only [Lit.wf, Bool.and_eq_true, decide_eq_true_eq]
  have h1 : IntKind.i64.min = -9223372036854775808 := by decide
  have h2 : IntKind.i64.max = 9223372036854775807 := by decide
  rw [h1, h2]; omega
/-- nothing but block b and blocks that are new has turned -/
structure But (b : Nat) (w w' : World) : Prop where
  os : w'.os = w.os
  tape : w'.tape = w.tape
  output : w'.output = w.output
  size : w.heap.size ≤ w'.heap.size
  block : ∀ i, i < w.heap.size → i ≠ b → w'.heap[i]? = w.heap[i]?
theorem But.refl (b : Nat) (w : World) : But b w w := ⟨rfl, rfl, rfl, Nat.le_refl _, fun _ _ _ => rfl⟩
theorem But.trans {w'' : World} (h : But b w w') (h' : But b w' w'') : But b w w'' :=
  ⟨h'.os.trans h.os, h'.tape.trans h.tape, h'.output.trans h.output, Nat.le_trans h.size h'.size, fun i hi hb => (h'.block i (Nat.lt_of_lt_of_le hi h.size) hb).trans (h.block i hi hb)⟩
theorem But.of_below (h : Below w.heap.size w w') : But b w w' := ⟨h.os, h.tape, h.output, h.size, fun i hi _ => h.block i hi⟩
theorem But.of_turned (h : w.mapTurned w' b) : But b w w' := by
  have g := h.grown
  exact ⟨g.os, g.tape, g.output, g.size, fun i hi hb => g.block i hi (fun e => hb (by injection e))⟩
theorem But.below {B : Nat} (h : But b w w') (hB : B ≤ b) (hw : B ≤ w.heap.size) : Below B w w' :=
  ⟨h.os, h.tape, h.output, h.size, fun i hi => h.block i (by omega) (by omega)⟩
theorem But.blk {g : Nat} {o : Obj} (h : But b w w') (hg : g ≠ b) (hb : w.heap[g]? = some o) : w'.heap[g]? = some o := (h.block g (Array.getElem?_eq_some_iff.1 hb).1 hg).trans hb
theorem But.drewN (h : But b w w') (d : Nat) : But b w (w'.drewN d) := h.trans (.of_below (pw_below_drewN (Below.refl _ _) d))
end Go.Proofs.YtkmicbnbclkkkaaDoor.M
namespace Go.Proofs.YtkmicbnbclkkkaaDoor.M
open Go.RowKit Go.Proofs.YtkmicbnbclkkkaaDoorW.PrintWords Go.Proofs.YtkmicbnbclkkkaaDoorW.PrintLast Go.Proofs.YtkmicbnbclkkkaaDoorW.PrintMore
set_option linter.unusedVariables false
set_option linter.unusedSimpArgs false

/-- a tree of signs -/
inductive Sh where
  | nil
  | node (c : Int) (l r : Sh)
def Sh.nodes : Sh → Nat
  | .nil => 0
  | .node _ l r => l.nodes + r.nodes + 1
def isLet (c : Int) : Prop := (97 ≤ c ∧ c < 102) ∨ c = 48 ∨ c = 49
instance (c : Int) : Decidable (isLet c) := by unfold isLet; infer_instance
/-- how the parts of a formula lie: none, one or two -/
inductive Fine : Sh → Prop
  | leaf (c : Int) : Fine (.node c .nil .nil)
  | one (c : Int) (l : Sh) : Fine l → Fine (.node c l .nil)
  | two (c : Int) (l r : Sh) : Fine l → Fine r → Fine (.node c l r)
theorem Fine.ne {T : Sh} (h : Fine T) : T ≠ .nil := by cases h <;> simp
def Sh.depth : Sh → Nat
  | .nil => 0
  | .node _ .nil _ => 0
  | .node _ l .nil => l.depth
  | .node _ l r => 1 + max l.depth r.depth
theorem depth_one (c : Int) {l : Sh} (h : Fine l) : (Sh.node c l .nil).depth = l.depth := by cases h <;> rfl
theorem depth_two (c : Int) {l r : Sh} (h : Fine l) (h2 : Fine r) : (Sh.node c l r).depth = 1 + max l.depth r.depth := by cases h <;> cases h2 <;> rfl
theorem depth_le {T : Sh} (h : Fine T) : T.depth ≤ T.nodes := by
  induction h with
  | leaf c => simp [Sh.depth, Sh.nodes]
  | one c l h ih => rw [depth_one c h, Sh.nodes]; omega
  | two c l r h h2 ih ih2 => rw [depth_two c h h2, Sh.nodes]; omega
theorem toList_len (s : ByteArray) : s.toList.length = s.size := by rw [ByteArray.toList_eq]; simp
theorem bt_extract {S : ByteArray} {i : Nat} (h : i < S.size) : bt (S.extract i S.size) 0 = bt S i := by
  have h1 : (0 : Int).toNat < (S.extract i S.size).size := by simp [ByteArray.size_extract]; omega
  unfold bt
  rw [dif_pos h1, dif_pos (show ((i : Nat) : Int).toNat < S.size by simpa using h)]
  simp [ByteArray.getElem_extract]
theorem extract_extract {S : ByteArray} {i : Nat} (d : Nat) (h : i + d ≤ S.size) : (S.extract i S.size).extract d (S.size - i) = S.extract (i + d) S.size := by
  rw [ByteArray.extract_extract]; congr 1; omega

end Go.Proofs.YtkmicbnbclkkkaaDoor.M
namespace Go.Proofs.YtkmicbnbclkkkaaDoor.M
open Go.RowKit Go.Proofs.YtkmicbnbclkkkaaDoorW.PrintWords Go.Proofs.YtkmicbnbclkkkaaDoorW.PrintLast Go.Proofs.YtkmicbnbclkkkaaDoorW.PrintMore
set_option linter.unusedVariables false
set_option linter.unusedSimpArgs false

/-- a tree: its sign, and what follows 0 and 1 -/
inductive Td where
  | nil
  | node (c : Int) (l r : Td)
/-- how many of five variables are not in a set -/
def fre (a : Nat) : Nat := 5 - cnt a.testBit 5
/-- a set with a variable more -/
def wth (a v : Nat) : Nat := a ||| 2 ^ v
theorem wth_fre : ∀ a, a < 32 → ∀ v, v < 5 → a.testBit v = false → (fre (wth a v) + 1 = fre a ∧ wth a v < 32 ∧ fre a ≤ 5) :=
  allB_dec2 (P := fun a v => a.testBit v = false → (fre (wth a v) + 1 = fre a ∧ wth a v < 32 ∧ fre a ≤ 5)) (by decide +kernel)
theorem fre_le (a : Nat) : fre a ≤ 5 := by unfold fre; omega
theorem wth_bit {a v u : Nat} : (wth a v).testBit u = (a.testBit u || decide (v = u)) := by rw [wth, Nat.testBit_or, Nat.testBit_two_pow]
/-- the variable of a letter -/
def vr (c : Int) : Nat := (c - 97).toNat
/-- the tree that begins at place i of a text, and the place behind it, where the variables of a don't occur -/
def tp (S : ByteArray) : Nat → Nat → Nat → Option (Td × Nat)
  | 0, _, _ => none
  | k + 1, i, a => if S.size ≤ i then none else
    if bt S i = 48 ∨ bt S i = 49 then some (.node (bt S i) .nil .nil, i + 1)
    else if ¬ (97 ≤ bt S i ∧ bt S i < 102) then none
    else if a.testBit (vr (bt S i)) = true then none
    else (tp S k (i + 1) (wth a (vr (bt S i)))).bind fun p => (tp S k p.2 (wth a (vr (bt S i)))).bind fun q => some (.node (bt S i) p.1 q.1, q.2)
/-- a tree that asks none of a, and none twice on a way -/
inductive Dt : Nat → Td → Prop
  | leaf (a : Nat) (c : Int) : c = 48 ∨ c = 49 → Dt a (.node c .nil .nil)
  | ask (a : Nat) (c : Int) (l r : Td) : 97 ≤ c ∧ c < 102 → a.testBit (vr c) = false → Dt (wth a (vr c)) l → Dt (wth a (vr c)) r → Dt a (.node c l r)
theorem tp_some {S : ByteArray} : ∀ {k i a : Nat} {T : Td} {j : Nat}, a < 32 → tp S k i a = some (T, j) → Dt a T ∧ i < j ∧ j ≤ S.size ∧ j + 1 ≤ i + 2 ^ (fre a + 1)
  | 0, i, a, T, j, ha, h => by simp [tp] at h
  | k + 1, i, a, T, j, ha, h => by
    rw [tp] at h
    by_cases h0 : S.size ≤ i
    · rw [if_pos h0] at h; cases h
    · rw [if_neg h0] at h
      have hp : 2 ^ 1 ≤ 2 ^ (fre a + 1) := Nat.pow_le_pow_right (by decide) (by omega)
      by_cases h1 : bt S i = 48 ∨ bt S i = 49
      · rw [if_pos h1] at h
        simp only [Option.some.injEq, Prod.mk.injEq] at h
        obtain ⟨rfl, rfl⟩ := h
        exact ⟨.leaf _ _ h1, by omega, by omega, by omega⟩
      · rw [if_neg h1] at h
        by_cases h2 : 97 ≤ bt S i ∧ bt S i < 102
        · rw [if_neg (fun e => e h2)] at h
          cases h3 : a.testBit (vr (bt S i)) with
          | true => rw [h3, if_pos rfl] at h; cases h
          | false =>
            rw [h3, if_neg (by decide)] at h
            obtain ⟨⟨p1, p2⟩, hp1, h⟩ := Option.bind_eq_some_iff.mp h
            obtain ⟨⟨q1, q2⟩, hq1, h⟩ := Option.bind_eq_some_iff.mp h
            simp only [Option.some.injEq, Prod.mk.injEq] at h
            obtain ⟨rfl, rfl⟩ := h
            obtain ⟨w1, w2, _⟩ := wth_fre a ha (vr (bt S i)) (by unfold vr; omega) h3
            obtain ⟨a1, a2, a3, a4⟩ := tp_some w2 hp1
            obtain ⟨b1, b2, b3, b4⟩ := tp_some w2 hq1
            refine ⟨.ask _ _ _ _ h2 h3 a1 b1, by omega, b3, ?_⟩
            simp only [] at *
            rw [w1] at a4 b4
            rw [Nat.pow_succ]; omega
        · rw [if_pos h2] at h; cases h
/-- how many variables are asked at worst -/
def Td.depth : Td → Nat
  | .nil => 0
  | .node _ .nil _ => 0
  | .node _ (.node c l r) r2 => 1 + max (Td.node c l r).depth r2.depth
/-- how many are asked for an input -/
def Td.path (x : Nat) : Td → Nat
  | .nil => 0
  | .node _ .nil _ => 0
  | .node d (.node c l r) r2 => 1 + (if x.testBit (vr d) = true then r2.path x else (Td.node c l r).path x)
/-- the value for an input -/
def Td.val (x : Nat) : Td → Int
  | .nil => 0
  | .node d .nil _ => d - 48
  | .node d (.node c l r) r2 => if x.testBit (vr d) = true then r2.val x else (Td.node c l r).val x
theorem Dt.ne {a : Nat} {T : Td} (h : Dt a T) : ∃ c l r, T = .node c l r := by cases h <;> exact ⟨_, _, _, rfl⟩
theorem depth_ask {a : Nat} (c : Int) {l : Td} (r : Td) (h : Dt a l) : (Td.node c l r).depth = 1 + max l.depth r.depth := by obtain ⟨_, _, _, rfl⟩ := h.ne; rfl
theorem path_ask {a : Nat} (x : Nat) (c : Int) {l : Td} (r : Td) (h : Dt a l) : (Td.node c l r).path x = 1 + (if x.testBit (vr c) = true then r.path x else l.path x) := by obtain ⟨_, _, _, rfl⟩ := h.ne; rfl
theorem val_ask {a : Nat} (x : Nat) (c : Int) {l : Td} (r : Td) (h : Dt a l) : (Td.node c l r).val x = (if x.testBit (vr c) = true then r.val x else l.val x) := by obtain ⟨_, _, _, rfl⟩ := h.ne; rfl
theorem Dt.depth_le {a : Nat} {T : Td} (h : Dt a T) : a < 32 → T.depth ≤ fre a := by
  induction h with
  | leaf a c h => intro _; exact Nat.zero_le _
  | ask a c l r h2 h3 hl hr ihl ihr =>
    intro ha
    obtain ⟨w1, w2, _⟩ := wth_fre a ha (vr c) (by unfold vr; omega) h3
    have := ihl w2
    have := ihr w2
    rw [depth_ask c r hl]; omega
theorem Dt.path_le {a : Nat} {T : Td} (x : Nat) (h : Dt a T) : T.path x ≤ T.depth := by
  induction h with
  | leaf a c h => exact Nat.zero_le _
  | ask a c l r h2 h3 hl hr ihl ihr =>
    rw [depth_ask c r hl, path_ask x c r hl]
    split <;> omega
theorem set_bit : ∀ y, y < 32 → ∀ v, v < 5 → ∀ b, b < 2 → ∃ z, z < 32 ∧ z.testBit v = decide (b = 1) ∧ ∀ u, u ≠ v → z.testBit u = y.testBit u := by
  intro y hy v hv b hb
  refine ⟨if (y.testBit v) = decide (b = 1) then y else y ^^^ 2 ^ v, ?_, ?_, ?_⟩
  · split
    · exact hy
    · exact Nat.xor_lt_two_pow (n := 5) hy (Nat.pow_lt_pow_right (by decide) hv)
  · split
    · assumption
    · rename_i h
      rw [Nat.testBit_xor, Nat.testBit_two_pow]
      revert h; cases y.testBit v <;> cases decide (b = 1) <;> simp
  · intro u hu
    split
    · rfl
    · rw [Nat.testBit_xor, Nat.testBit_two_pow]
      simp [Ne.symm hu]
theorem Dt.path_hit {a : Nat} {T : Td} (h : Dt a T) : a < 32 → ∀ y, y < 32 → ∃ x, x < 32 ∧ (∀ v, a.testBit v = true → x.testBit v = y.testBit v) ∧ T.path x = T.depth := by
  induction h with
  | leaf a c h => intro _ y hy; exact ⟨y, hy, fun _ _ => rfl, rfl⟩
  | ask a c l r h2 h3 hl hr ihl ihr =>
    intro ha y hy
    have hv : vr c < 5 := by unfold vr; omega
    obtain ⟨w1, w2, _⟩ := wth_fre a ha (vr c) hv h3
    have key : ∀ b, b < 2 → ∀ t : Td, (∀ y, y < 32 → ∃ x, x < 32 ∧ (∀ v, (wth a (vr c)).testBit v = true → x.testBit v = y.testBit v) ∧ t.path x = t.depth) → ∃ x, x < 32 ∧ x.testBit (vr c) = decide (b = 1) ∧ (∀ v, a.testBit v = true → x.testBit v = y.testBit v) ∧ t.path x = t.depth := by
      intro b hb t ih
      obtain ⟨z, hz, z1, z2⟩ := set_bit y hy (vr c) hv b hb
      obtain ⟨x, hx, x1, x2⟩ := ih z hz
      refine ⟨x, hx, ?_, fun v hav => ?_, x2⟩
      · rw [x1 (vr c) (by rw [wth_bit]; simp), z1]
      · rw [x1 v (by rw [wth_bit, hav]; rfl), z2 v (fun e => by subst e; rw [h3] at hav; cases hav)]
    by_cases hd : r.depth ≤ l.depth
    · obtain ⟨x, hx, x0, x1, x2⟩ := key 0 (by decide) l (ihl w2)
      refine ⟨x, hx, x1, ?_⟩
      rw [depth_ask c r hl, path_ask x c r hl, x0, if_neg (by decide), x2]; omega
    · obtain ⟨x, hx, x0, x1, x2⟩ := key 1 (by decide) r (ihr w2)
      refine ⟨x, hx, x1, ?_⟩
      rw [depth_ask c r hl, path_ask x c r hl, x0, if_pos (by decide), x2]; omega
/-- the greatest of the first m numbers, or 0 -/
def maxN (g : Nat → Nat) : Nat → Nat
  | 0 => 0
  | m + 1 => max (maxN g m) (g m)
theorem maxN_le {g : Nat → Nat} {B : Nat} : ∀ {m : Nat}, (∀ i, i < m → g i ≤ B) → maxN g m ≤ B
  | 0, _ => Nat.zero_le _
  | m + 1, h => by have := maxN_le (m := m) (fun i hi => h i (by omega)); have := h m (by omega); rw [maxN]; omega
theorem le_maxN {g : Nat → Nat} {i : Nat} : ∀ {m : Nat}, i < m → g i ≤ maxN g m
  | 0, h => by omega
  | m + 1, h => by
    rw [maxN]
    by_cases e : i = m
    · subst e; omega
    · have := le_maxN (g := g) (m := m) (show i < m by omega); omega
theorem Dt.max_path {T : Td} (h : Dt 0 T) : maxN (fun x => T.path x) 32 = T.depth := by
  obtain ⟨x, hx, _, e⟩ := h.path_hit (by decide) 0 (by decide)
  have h1 := maxN_le (g := fun x => T.path x) (B := T.depth) (m := 32) (fun i _ => h.path_le i)
  have h2 := le_maxN (g := fun x => T.path x) hx
  omega
/-- a text that is one tree -/
def treeOf (S : ByteArray) : Option Td := (tp S 6 0 0).bind fun p => if p.2 = S.size then some p.1 else none
theorem treeOf_some {S : ByteArray} {T : Td} (h : treeOf S = some T) : S.size ≤ 63 ∧ 0 < S.size ∧ tp S 6 0 0 = some (T, S.size) ∧ Dt 0 T := by
  unfold treeOf at h
  obtain ⟨⟨p1, p2⟩, hp, h⟩ := Option.bind_eq_some_iff.mp h
  by_cases e : p2 = S.size
  · rw [if_pos e] at h
    cases Option.some.inj h
    obtain ⟨a1, a2, a3, a4⟩ := tp_some (by decide) hp
    simp only [] at *
    rw [← e]
    have : fre 0 = 5 := by decide
    rw [this] at a4
    exact ⟨by omega, by omega, hp, a1⟩
  · rw [if_neg e] at h; cases h
end Go.Proofs.YtkmicbnbclkkkaaDoor.M
namespace Go.Proofs.YtkmicbnbclkkkaaDoor.M
open Go.RowKit Go.Proofs.YtkmicbnbclkkkaaDoorW.PrintWords Go.Proofs.YtkmicbnbclkkkaaDoorW.PrintLast Go.Proofs.YtkmicbnbclkkkaaDoorW.PrintMore
set_option linter.unusedVariables false
set_option linter.unusedSimpArgs false

/-! texts -/
/-- a tree's text -/
def Td.txt : Td → ByteArray
  | .nil => ⟨#[]⟩
  | .node c l r => ⟨#[UInt8.ofNat c.toNat]⟩ ++ l.txt ++ r.txt
theorem td_mid (pre post : ByteArray) (u : UInt8) : bt (pre ++ (⟨#[u]⟩ ++ post)) ((pre.size : Nat) : Int) = (u.toNat : Int) := by
  have h : pre.size < (pre ++ (⟨#[u]⟩ ++ post)).size := by
    simp only [ByteArray.size_append]
    show pre.size < pre.size + (1 + post.size)
    omega
  unfold bt
  rw [dif_pos (show ((pre.size : Nat) : Int).toNat < _ by simpa using h)]
  simp only [Int.toNat_natCast]
  rw [ByteArray.getElem_append_right (Nat.le_refl _)]
  simp only [Nat.sub_self]
  rw [ByteArray.getElem_append_left (by simp [ByteArray.size])]
  rfl
theorem td_one (u : UInt8) : (⟨#[u]⟩ : ByteArray).size = 1 := rfl
theorem td_u8 {c : Int} (h0 : 0 ≤ c) (h1 : c < 256) : (((UInt8.ofNat c.toNat).toNat : Nat) : Int) = c := by
  simp only [UInt8.toNat_ofNat']
  omega
theorem td_append_nil (x : ByteArray) : x ++ ⟨#[]⟩ = x := by
  apply ByteArray.ext; simp [ByteArray.data_append]
theorem td_nil_append (x : ByteArray) : (⟨#[]⟩ : ByteArray) ++ x = x := by
  apply ByteArray.ext; simp [ByteArray.data_append]
theorem tp_txt {a : Nat} {T : Td} (hT : Dt a T) : a < 32 → ∀ (k : Nat) (pre post : ByteArray), fre a < k → tp (pre ++ (T.txt ++ post)) k pre.size a = some (T, pre.size + T.txt.size) := by
  induction hT with
  | leaf a c hc =>
    intro ha k pre post hk
    have e : (Td.node c .nil .nil).txt = ⟨#[UInt8.ofNat c.toNat]⟩ := by simp only [Td.txt, td_append_nil]
    rw [e]
    obtain ⟨k, rfl⟩ : ∃ j, k = j + 1 := ⟨k - 1, by omega⟩
    rw [tp, if_neg (by simp only [ByteArray.size_append, td_one]; omega), td_mid, td_u8 (by omega) (by omega), if_pos hc]
    rfl
  | ask a c l r hc hv hl hr ih ih2 =>
    intro ha k pre post hk
    have hb : 0 ≤ c ∧ c < 256 := by omega
    obtain ⟨w1, w2, w3⟩ := wth_fre a ha (vr c) (by unfold vr; omega) hv
    have e : (Td.node c l r).txt = ⟨#[UInt8.ofNat c.toNat]⟩ ++ (l.txt ++ r.txt) := by simp only [Td.txt, ByteArray.append_assoc]
    rw [e]
    obtain ⟨k, rfl⟩ : ∃ j, k = j + 1 := ⟨k - 1, by omega⟩
    have a1 := ih w2 k (pre ++ ⟨#[UInt8.ofNat c.toNat]⟩) (r.txt ++ post) (by omega)
    have a2 := ih2 w2 k (pre ++ ⟨#[UInt8.ofNat c.toNat]⟩ ++ l.txt) post (by omega)
    have e2 : pre ++ (⟨#[UInt8.ofNat c.toNat]⟩ ++ (l.txt ++ r.txt) ++ post) = pre ++ ⟨#[UInt8.ofNat c.toNat]⟩ ++ (l.txt ++ (r.txt ++ post)) := by simp only [ByteArray.append_assoc]
    have e4 : pre ++ ⟨#[UInt8.ofNat c.toNat]⟩ ++ l.txt ++ (r.txt ++ post) = pre ++ ⟨#[UInt8.ofNat c.toNat]⟩ ++ (l.txt ++ (r.txt ++ post)) := by simp only [ByteArray.append_assoc]
    rw [e4] at a2
    have e3 : bt (pre ++ (⟨#[UInt8.ofNat c.toNat]⟩ ++ (l.txt ++ r.txt) ++ post)) ((pre.size : Nat) : Int) = c := by rw [ByteArray.append_assoc, td_mid, td_u8 hb.1 hb.2]
    rw [tp, if_neg (by simp only [ByteArray.size_append, td_one]; omega), e3, if_neg (by omega), if_neg (fun e => e hc), hv, if_neg (by decide), e2]
    simp only [ByteArray.size_append, td_one] at a1 a2 ⊢
    rw [a1, Option.bind_some]
    simp only []
    rw [a2, Option.bind_some]
    simp only [Option.some.injEq, Prod.mk.injEq, true_and]
    omega
theorem treeOf_txt {T : Td} (hT : Dt 0 T) : treeOf T.txt = some T := by
  have h1 := tp_txt hT (by decide) 6 ⟨#[]⟩ ⟨#[]⟩ (by decide)
  rw [td_append_nil, td_nil_append] at h1
  have h2 : tp T.txt 6 0 0 = some (T, 0 + T.txt.size) := h1
  unfold treeOf
  rw [h2, Option.bind_some, if_pos (by simp only [Nat.zero_add])]

/-! all letters are below n -/
def Td.within (n : Nat) : Td → Bool
  | .nil => true
  | .node _ .nil _ => true
  | .node d (.node c l r) r2 => decide (vr d < n) && ((Td.node c l r).within n && r2.within n)
theorem within_ask {a : Nat} (n : Nat) (c : Int) {l : Td} (r : Td) (h : Dt a l) : (Td.node c l r).within n = (decide (vr c < n) && (l.within n && r.within n)) := by obtain ⟨_, _, _, rfl⟩ := h.ne; rfl
theorem tp_within {S : ByteArray} (n : Nat) : ∀ {k i a : Nat} {T : Td} {j : Nat}, a < 32 → tp S k i a = some (T, j) → (T.within n = true ↔ ∀ p : Nat, i ≤ p → p < j → 97 ≤ bt S p → bt S p - 97 < n)
  | 0, i, a, T, j, ha, h => by simp [tp] at h
  | k + 1, i, a, T, j, ha, h => by
    rw [tp] at h
    by_cases h0 : S.size ≤ i
    · rw [if_pos h0] at h; cases h
    · rw [if_neg h0] at h
      by_cases h1 : bt S i = 48 ∨ bt S i = 49
      · rw [if_pos h1] at h
        simp only [Option.some.injEq, Prod.mk.injEq] at h
        obtain ⟨rfl, rfl⟩ := h
        refine ⟨fun _ p hp hp2 h97 => ?_, fun _ => rfl⟩
        obtain rfl : p = i := by omega
        omega
      · rw [if_neg h1] at h
        by_cases h2 : 97 ≤ bt S i ∧ bt S i < 102
        · rw [if_neg (fun e => e h2)] at h
          cases h3 : a.testBit (vr (bt S i)) with
          | true => rw [h3, if_pos rfl] at h; cases h
          | false =>
            rw [h3, if_neg (by decide)] at h
            obtain ⟨⟨p1, p2⟩, hp1, h⟩ := Option.bind_eq_some_iff.mp h
            obtain ⟨⟨q1, q2⟩, hq1, h⟩ := Option.bind_eq_some_iff.mp h
            simp only [Option.some.injEq, Prod.mk.injEq] at h
            obtain ⟨rfl, rfl⟩ := h
            obtain ⟨w1, w2, _⟩ := wth_fre a ha (vr (bt S i)) (by unfold vr; omega) h3
            obtain ⟨a1, a2, a3, a4⟩ := tp_some w2 hp1
            obtain ⟨b1, b2, b3, b4⟩ := tp_some w2 hq1
            have i1 := tp_within n w2 hp1
            have i2 := tp_within n w2 hq1
            rw [within_ask n _ _ a1, Bool.and_eq_true, Bool.and_eq_true, decide_eq_true_eq, i1, i2]
            simp only [] at *
            constructor
            · rintro ⟨g1, g2, g3⟩ p hp hp2 h97
              by_cases e1 : p = i
              · subst e1; unfold vr at g1; omega
              · by_cases e2 : p < p2
                · exact g2 p (by omega) e2 h97
                · exact g3 p (by omega) hp2 h97
            · intro g
              refine ⟨?_, fun p hp hp2 h97 => g p (by omega) (by omega) h97, fun p hp hp2 h97 => g p (by omega) hp2 h97⟩
              have := g i (Nat.le_refl _) (by omega) h2.1
              unfold vr; omega
        · rw [if_pos h2] at h; cases h
theorem treeOf_within {S : ByteArray} {T : Td} (h : treeOf S = some T) (n : Nat) : T.within n = allB S.size (fun p => decide (97 ≤ bt S p → bt S p - 97 < n)) := by
  obtain ⟨_, _, h3, _⟩ := treeOf_some h
  have h4 := tp_within n (by decide) h3
  rw [Bool.eq_iff_iff, h4]
  constructor
  · intro g
    cases hb : allB S.size (fun p => decide (97 ≤ bt S p → bt S p - 97 < n)) with
    | true => rfl
    | false =>
      obtain ⟨p, hp, e⟩ := td_ex hb
      exact absurd (g p (Nat.zero_le _) hp) (of_decide_eq_false e)
  · intro g p _ hp
    exact of_decide_eq_true (allB_of g p hp)
where td_ex {p : Nat → Bool} : ∀ {n : Nat}, allB n p = false → ∃ j, j < n ∧ p j = false
  | 0, h => by cases h
  | n + 1, h => by
    rw [allB] at h
    cases e : p n with
    | false => exact ⟨n, by omega, e⟩
    | true =>
      rw [e, Bool.true_and] at h
      obtain ⟨j, h1, h2⟩ := td_ex h
      exact ⟨j, by omega, h2⟩

/-! values and paths -/
theorem Dt.val01 {a : Nat} {T : Td} (x : Nat) (h : Dt a T) : T.val x = 0 ∨ T.val x = 1 := by
  induction h with
  | leaf a c h => rcases h with rfl | rfl; exact .inl rfl; exact .inr rfl
  | ask a c l r h2 h3 hl hr ihl ihr =>
    rw [val_ask x c r hl]
    split
    · exact ihr
    · exact ihl
/-- the word of a tree -/
def Td.word (n : Nat) (T : Td) : Nat := prefW (fun x => T.val x == 1) (2 ^ n)
theorem Td.word_lt (n : Nat) (T : Td) : T.word n < 2 ^ 2 ^ n := prefW_lt _ _
theorem Dt.word_bit {a n : Nat} {T : Td} (h : Dt a T) {x : Nat} (hx : x < 2 ^ n) : T.val x = ((((T.word n).testBit x).toNat : Nat) : Int) := by
  unfold Td.word
  rw [testBit_prefW, decide_eq_true hx, Bool.true_and]
  rcases h.val01 x with e | e <;> rw [e] <;> rfl
/-- the sum over a list -/
def sumX (g : Nat → Nat) : List Nat → Nat
  | [] => 0
  | x :: t => g x + sumX g t
theorem sumX_append (g : Nat → Nat) : ∀ l t, sumX g (l ++ t) = sumX g l + sumX g t
  | [], t => by rw [List.nil_append, sumX]; omega
  | x :: l, t => by rw [List.cons_append, sumX, sumX, sumX_append g l t]; omega
theorem sumX_congr {g g' : Nat → Nat} : ∀ {l : List Nat}, (∀ x ∈ l, g x = g' x) → sumX g l = sumX g' l
  | [], _ => rfl
  | x :: l, h => by rw [sumX, sumX, h x (List.mem_cons_self ..), sumX_congr (fun y hy => h y (List.mem_cons_of_mem _ hy))]
theorem sumX_le {g : Nat → Nat} {B : Nat} : ∀ {l : List Nat}, (∀ x ∈ l, g x ≤ B) → sumX g l ≤ l.length * B
  | [], _ => by rw [sumX]; exact Nat.zero_le _
  | x :: l, h => by
    have h1 := h x (List.mem_cons_self ..)
    have h2 := sumX_le (l := l) (fun y hy => h y (List.mem_cons_of_mem _ hy))
    rw [sumX, List.length_cons, Nat.add_mul]; omega
theorem sumX_split (p : Nat → Bool) (g h : Nat → Nat) : ∀ l, sumX (fun x => 1 + if p x = true then h x else g x) l = l.length + sumX g (l.filter (fun x => !p x)) + sumX h (l.filter p)
  | [] => rfl
  | x :: l => by
    rw [sumX, sumX_split p g h l, List.length_cons]
    cases e : p x
    · rw [if_neg (by decide), List.filter_cons_of_pos (by simp [e]), List.filter_cons_of_neg (by simp [e]), sumX]; omega
    · rw [if_pos rfl, List.filter_cons_of_neg (by simp [e]), List.filter_cons_of_pos (by simp [e]), sumX]; omega
theorem sumX_range (g : Nat → Nat) (n : Nat) : sumX g (List.range (n + 1)) = sumX g (List.range n) + g n := by
  rw [List.range_succ, sumX_append, sumX, sumX]; omega

/-! a subcube and its halves -/
def halfOk (n m u : Nat) : Bool := ((inX n m u).length == 2 ^ (n - pc m)) && (frL n m).all fun i => (inX n (m ||| 2 ^ i) u == (inX n m u).filter (fun x => !x.testBit i)) && (inX n (m ||| 2 ^ i) (u ||| 2 ^ i) == (inX n m u).filter (fun x => x.testBit i))
theorem halfOk_all : allCubes halfOk = true := by decide +kernel
theorem Cb.len {n m u : Nat} (h : Cb n m u) : (inX n m u).length = 2 ^ (n - pc m) := by
  have h1 := allCubes_of halfOk_all h.hn h.hm h.hu h.hum
  unfold halfOk at h1
  rw [Bool.and_eq_true] at h1
  exact beq_iff_eq.mp h1.1
theorem Cb.half {n m u i : Nat} (h : Cb n m u) (hi : i ∈ frL n m) : inX n (m ||| 2 ^ i) u = (inX n m u).filter (fun x => !x.testBit i) ∧ inX n (m ||| 2 ^ i) (u ||| 2 ^ i) = (inX n m u).filter (fun x => x.testBit i) := by
  have h1 := allCubes_of halfOk_all h.hn h.hm h.hu h.hum
  unfold halfOk at h1
  rw [Bool.and_eq_true] at h1
  have h2 := List.all_eq_true.mp h1.2 i hi
  rw [Bool.and_eq_true, beq_iff_eq, beq_iff_eq] at h2
  exact h2
theorem inX_zero (n : Nat) : inX n 0 0 = List.range (2 ^ n) := by
  unfold inX
  apply List.filter_eq_self.mpr
  intro x _
  simp
theorem mem_frL {n m i : Nat} (hi : i < n) (hm : m.testBit i = false) : i ∈ frL n m := by
  unfold frL; exact List.mem_filter.mpr ⟨List.mem_range.mpr hi, by rw [hm]; rfl⟩
theorem of_frL {n m i : Nat} (h : i ∈ frL n m) : i < n ∧ m.testBit i = false := by
  unfold frL at h
  obtain ⟨h1, h2⟩ := List.mem_filter.mp h
  refine ⟨List.mem_range.mp h1, ?_⟩
  revert h2; cases m.testBit i <;> simp
theorem Cb.free {n m u d : Nat} (h : Cb n m u) (hp : pc m + (d + 1) = n) : ∃ i, i ∈ frL n m := by
  have hf := h.frees
  cases hl : frL n m with
  | nil => rw [hl] at hf; simp at hf; omega
  | cons x t => exact ⟨x, List.mem_cons_self ..⟩

/-! constant subcubes -/
/-- the value of a subcube, 2 if it has two -/
def bitC (n v m u : Nat) : Int := cubeGo (-1) ((inX n m u).map v.testBit)
theorem conL_lt {n v m u : Nat} : (conL v (inX n m u) = true) ↔ bitC n v m u < 2 := by unfold conL bitC; rw [decide_eq_true_eq]
theorem bitC_all {n v m u : Nat} (h : conL v (inX n m u) = true) {x : Nat} (hx : x ∈ inX n m u) : bitC n v m u = (((v.testBit x).toNat : Nat) : Int) := by
  unfold conL at h
  have h := of_decide_eq_true h
  unfold bitC
  generalize inX n m u = l at *
  cases l with
  | nil => cases hx
  | cons y t =>
    rw [List.map_cons, cubeGo, if_neg (by decide), cubeGo_nat] at h ⊢
    by_cases e : (t.map v.testBit).all (· == v.testBit y) = true
    · rw [if_pos e]
      rcases List.mem_cons.mp hx with rfl | hx
      · rfl
      · have := List.all_eq_true.mp e (v.testBit x) (List.mem_map.mpr ⟨x, hx, rfl⟩)
        rw [beq_iff_eq.mp this]
    · rw [if_neg e] at h; omega
theorem bitC_val {n v m u : Nat} (h : Cb n m u) (hc : conL v (inX n m u) = true) : bitC n v m u = 0 ∨ bitC n v m u = 1 := by
  obtain ⟨x, hx⟩ : ∃ x, x ∈ inX n m u := List.exists_mem_of_ne_nil _ h.ne
  rw [bitC_all hc hx]
  cases v.testBit x
  · exact .inl rfl
  · exact .inr rfl
theorem con_of {n v m u : Nat} {c : Int} (hn : inX n m u ≠ []) (h : ∀ x ∈ inX n m u, c = (((v.testBit x).toNat : Nat) : Int)) : conL v (inX n m u) = true := by
  unfold conL
  rw [decide_eq_true_eq, cubeGo_lt _ (by simpa using hn), List.all_map, List.all_map, List.all_eq_true, List.all_eq_true]
  obtain ⟨y, hy⟩ : ∃ x, x ∈ inX n m u := List.exists_mem_of_ne_nil _ hn
  have h0 := h y hy
  cases e : v.testBit y with
  | true =>
    refine .inl fun x hx => ?_
    have := h x hx
    rw [h0, e] at this
    show (v.testBit x == true) = true
    revert this; cases v.testBit x <;> simp
  | false =>
    refine .inr fun x hx => ?_
    have := h x hx
    rw [h0, e] at this
    show (v.testBit x == false) = true
    revert this; cases v.testBit x <;> simp

/-! the least average -/
/-- the least sum of questions on a subcube: B where nothing is known -/
def avC (B : Nat → Nat) (n v : Nat) : Nat → Nat → Nat → Nat
  | 0, m, u => 0
  | d + 1, m, u => if conL v (inX n m u) = true then 0 else bestOf (fun i => 2 ^ (d + 1) - 1 + avC B n v d (m ||| 2 ^ i) u + avC B n v d (m ||| 2 ^ i) (u ||| 2 ^ i)) (B (d + 1)) (frL n m)
theorem avC_le {B : Nat → Nat} {n v : Nat} : ∀ {d m u : Nat}, Cb n m u → pc m + d = n → avC B n v d m u ≤ 2 ^ d * d
  | 0, m, u, _, _ => by rw [avC]; exact Nat.zero_le _
  | d + 1, m, u, h, hp => by
    rw [avC]
    split
    · exact Nat.zero_le _
    · obtain ⟨i, hi⟩ := h.free hp
      obtain ⟨h1, h2, h3⟩ := h.step hi
      have a1 := avC_le (B := B) (v := v) (d := d) h1 (by omega)
      have a2 := avC_le (B := B) (v := v) (d := d) h2 (by omega)
      have a3 := (bestOf_le (fun i => 2 ^ (d + 1) - 1 + avC B n v d (m ||| 2 ^ i) u + avC B n v d (m ||| 2 ^ i) (u ||| 2 ^ i)) (frL n m) (B (d + 1))).2 i hi
      have hp2 := Nat.two_pow_pos d
      have e : 2 ^ (d + 1) * (d + 1) = 2 ^ (d + 1) + 2 * (2 ^ d * d) := by rw [Nat.pow_succ, Nat.mul_add, Nat.mul_one]; simp only [Nat.mul_assoc, Nat.mul_left_comm, Nat.mul_comm]; omega
      rw [e]
      rw [Nat.pow_succ] at *
      omega
theorem avC_init {B C : Nat → Nat} {n v : Nat} (hB : ∀ d, d ≤ n → 2 ^ d * d ≤ B d) (hC : ∀ d, d ≤ n → 2 ^ d * d ≤ C d) : ∀ {d m u : Nat}, Cb n m u → pc m + d = n → avC B n v d m u = avC C n v d m u
  | 0, m, u, _, _ => rfl
  | d + 1, m, u, h, hp => by
    rw [avC, avC]
    split
    · rfl
    · obtain ⟨i, hi⟩ := h.free hp
      have e : ∀ i ∈ frL n m, 2 ^ (d + 1) - 1 + avC B n v d (m ||| 2 ^ i) u + avC B n v d (m ||| 2 ^ i) (u ||| 2 ^ i) = 2 ^ (d + 1) - 1 + avC C n v d (m ||| 2 ^ i) u + avC C n v d (m ||| 2 ^ i) (u ||| 2 ^ i) := fun i hi => by
        obtain ⟨h1, h2, h3⟩ := h.step hi
        rw [avC_init hB hC h1 (by omega), avC_init hB hC h2 (by omega)]
      rw [bestOf_congr _ _ e]
      obtain ⟨h1, h2, h3⟩ := h.step hi
      have a1 := avC_le (B := C) (v := v) (d := d) h1 (by omega)
      have a2 := avC_le (B := C) (v := v) (d := d) h2 (by omega)
      have e : 2 ^ (d + 1) * (d + 1) = 2 ^ (d + 1) + 2 * (2 ^ d * d) := by rw [Nat.pow_succ, Nat.mul_add, Nat.mul_one]; simp only [Nat.mul_assoc, Nat.mul_left_comm, Nat.mul_comm]; omega
      have b1 := hB (d + 1) (by omega)
      have b2 := hC (d + 1) (by omega)
      have hp2 := Nat.two_pow_pos d
      rw [e] at b1 b2
      rw [Nat.pow_succ] at *
      exact bestOf_two hi (by omega) (by omega)
/-- the least depth and the least average of a table -/
def avW (n v : Nat) : Nat := avC (fun d => 2 ^ d * n) n v n 0 0
theorem avC_impl (n d : Nat) (h : d ≤ n) : 2 ^ d * d ≤ (fun d => 2 ^ d * n) d := Nat.mul_le_mul (Nat.le_refl _) h
theorem avC_spec {n : Nat} (hn : n ≤ 4) (d : Nat) (h : d ≤ n) : 2 ^ d * d ≤ (fun _ => 1000) d := by
  have h1 := pow16 (n := d) (by omega)
  have h2 : 2 ^ d * d ≤ 16 * 4 := Nat.mul_le_mul h1 (by omega)
  show _ ≤ 1000
  omega

/-- as the program reckons -/
def avI (n v d m u : Nat) : Nat := avC (fun d => 2 ^ d * n) n v d m u
abbrev avG (n v d m u i : Nat) : Nat := 2 ^ (d + 1) - 1 + avI n v d (m ||| 2 ^ i) u + avI n v d (m ||| 2 ^ i) (u ||| 2 ^ i)
theorem avI_con {n v d m u : Nat} (h : conL v (inX n m u) = true) : avI n v d m u = 0 := by
  unfold avI
  cases d with
  | zero => rfl
  | succ d => rw [avC, if_pos h]
theorem avI_succ {n v d m u : Nat} (h : ¬ conL v (inX n m u) = true) : avI n v (d + 1) m u = bestOf (avG n v d m u) (2 ^ (d + 1) * n) (frL n m) := by
  unfold avI
  rw [avC, if_neg h]; rfl
theorem av_min (b I R0 R1 : Nat) (h : 1 ≤ I) (hb : b ≤ 1000) (hI : I ≤ 1000) (h0 : R0 ≤ 1000) (h1 : R1 ≤ 1000) : (if Go.IntKind.i64.wrap (Go.IntKind.i64.wrap ((I : Int) + (R0 : Int)) + (R1 : Int)) < (b : Int) then Go.IntKind.i64.wrap (Go.IntKind.i64.wrap ((I : Int) + (R0 : Int)) + (R1 : Int)) else (b : Int)) = ((min b (1 + (I - 1 + R0 + R1)) : Nat) : Int) := by
  have e : Go.IntKind.i64.wrap ((I : Int) + (R0 : Int)) = (I : Int) + (R0 : Int) := wi64 _ (by omega) (by omega)
  rw [e, wi64 _ (by omega) (by omega)]
  split <;> omega

/-! no tree does better -/
theorem tree_low {B : Nat → Nat} {n v : Nat} {m : Nat} {T : Td} (hT : Dt m T) : ∀ (d u : Nat), Cb n m u → pc m + d = n → T.within n = true → (∀ x ∈ inX n m u, T.val x = (((v.testBit x).toNat : Nat) : Int)) → ldC n n v d m u ≤ T.depth ∧ avC B n v d m u ≤ sumX (fun x => T.path x) (inX n m u) := by
  induction hT with
  | leaf a c h =>
    intro d u hc hp hw hv
    have e := con_of hc.ne hv
    cases d with
    | zero => exact ⟨Nat.zero_le _, Nat.zero_le _⟩
    | succ d => rw [ldC, avC, if_pos e, if_pos e]; exact ⟨Nat.zero_le _, Nat.zero_le _⟩
  | ask a c l r h2 h3 hl hr ihl ihr =>
    intro d u hc hp hw hv
    rw [within_ask n c r hl, Bool.and_eq_true, Bool.and_eq_true, decide_eq_true_eq] at hw
    obtain ⟨hw1, hw2, hw3⟩ := hw
    have hi := mem_frL (n := n) hw1 h3
    obtain ⟨c0, c1, c2⟩ := hc.step hi
    obtain ⟨g0, g1⟩ := hc.half hi
    have hpl := c0.pc_le
    cases d with
    | zero => exact ⟨Nat.zero_le _, Nat.zero_le _⟩
    | succ d =>
      have key0 := ihl d u c0 (by show pc (a ||| 2 ^ vr c) + d = n; omega) hw2 (fun x hx => by
        have hx : x ∈ inX n (a ||| 2 ^ vr c) u := hx
        rw [g0] at hx
        obtain ⟨x1, x2⟩ := List.mem_filter.mp hx
        have := hv x x1
        rw [val_ask x c r hl] at this
        rw [if_neg (by revert x2; cases x.testBit (vr c) <;> simp)] at this
        exact this)
      have key1 := ihr d (u ||| 2 ^ vr c) c1 (by show pc (a ||| 2 ^ vr c) + d = n; omega) hw3 (fun x hx => by
        have hx : x ∈ inX n (a ||| 2 ^ vr c) (u ||| 2 ^ vr c) := hx
        rw [g1] at hx
        obtain ⟨x1, x2⟩ := List.mem_filter.mp hx
        have := hv x x1
        rw [val_ask x c r hl] at this
        rw [if_pos x2] at this
        exact this)
      have key0 : ldC n n v d (a ||| 2 ^ vr c) u ≤ l.depth ∧ avC B n v d (a ||| 2 ^ vr c) u ≤ sumX (fun x => l.path x) (inX n (a ||| 2 ^ vr c) u) := key0
      have key1 : ldC n n v d (a ||| 2 ^ vr c) (u ||| 2 ^ vr c) ≤ r.depth ∧ avC B n v d (a ||| 2 ^ vr c) (u ||| 2 ^ vr c) ≤ sumX (fun x => r.path x) (inX n (a ||| 2 ^ vr c) (u ||| 2 ^ vr c)) := key1
      rw [ldC, avC]
      by_cases e : conL v (inX n a u) = true
      · rw [if_pos e, if_pos e]; exact ⟨Nat.zero_le _, Nat.zero_le _⟩
      · rw [if_neg e, if_neg e, depth_ask c r hl]
        have b1 := (bestOf_le (fun i => max (ldC n n v d (a ||| 2 ^ i) u) (ldC n n v d (a ||| 2 ^ i) (u ||| 2 ^ i))) (frL n a) n).2 (vr c) hi
        have b2 := (bestOf_le (fun i => 2 ^ (d + 1) - 1 + avC B n v d (a ||| 2 ^ i) u + avC B n v d (a ||| 2 ^ i) (u ||| 2 ^ i)) (frL n a) (B (d + 1))).2 (vr c) hi
        refine ⟨by omega, ?_⟩
        have hs := sumX_split (fun x => x.testBit (vr c)) (fun x => l.path x) (fun x => r.path x) (inX n a u)
        rw [← g0, ← g1, hc.len, show n - pc a = d + 1 by omega] at hs
        have hs2 : sumX (fun x => (Td.node c l r).path x) (inX n a u) = sumX (fun x => 1 + if x.testBit (vr c) = true then r.path x else l.path x) (inX n a u) := sumX_congr (fun x _ => path_ask x c r hl)
        have hp2 := Nat.two_pow_pos (d + 1)
        rw [hs2, hs]
        omega

/-! the best tree -/
def findF (p : Nat → Bool) : Nat → Nat → Option Nat
  | _, 0 => none
  | i, d + 1 => if p i = true then some i else findF p (i + 1) d
theorem findF_some {p : Nat → Bool} : ∀ {d i j : Nat}, findF p i d = some j → p j = true ∧ i ≤ j ∧ j < i + d
  | 0, _, _, h => by cases h
  | d + 1, i, j, h => by
    rw [findF] at h
    by_cases e : p i = true
    · rw [if_pos e] at h; cases h; exact ⟨e, by omega, by omega⟩
    · rw [if_neg e] at h; obtain ⟨h1, h2, h3⟩ := findF_some h; exact ⟨h1, by omega, by omega⟩
theorem findF_is {p : Nat → Bool} : ∀ {d i j : Nat}, p j = true → i ≤ j → j < i + d → ∃ y, findF p i d = some y
  | 0, _, _, _, h1, h2 => by omega
  | d + 1, i, j, h, h1, h2 => by
    rw [findF]
    by_cases e : p i = true
    · rw [if_pos e]; exact ⟨_, rfl⟩
    · rw [if_neg e]
      have : i ≠ j := fun e2 => by rw [e2] at e; exact e h
      exact findF_is h (by omega) (by omega)
/-- does variable i lead to the least depth -/
def isBest (n v d m u i : Nat) : Bool := !m.testBit i && decide (1 + max (ldC n n v d (m ||| 2 ^ i) u) (ldC n n v d (m ||| 2 ^ i) (u ||| 2 ^ i)) = ldC n n v (d + 1) m u)
def bestT (n v : Nat) : Nat → Nat → Nat → Td
  | 0, m, u => .node (48 + bitC n v m u) .nil .nil
  | d + 1, m, u => if conL v (inX n m u) = true then .node (48 + bitC n v m u) .nil .nil else
    match findF (isBest n v d m u) 0 n with
    | some i => .node ((97 + i : Nat) : Int) (bestT n v d (m ||| 2 ^ i) u) (bestT n v d (m ||| 2 ^ i) (u ||| 2 ^ i))
    | none => .nil
theorem bestOf_att (g : Nat → Nat) : ∀ (l : List Nat) (b : Nat), bestOf g b l = b ∨ ∃ i ∈ l, bestOf g b l = 1 + g i
  | [], b => .inl rfl
  | x :: t, b => by
    have e : bestOf g b (x :: t) = bestOf g (min b (1 + g x)) t := rfl
    rw [e]
    rcases bestOf_att g t (min b (1 + g x)) with h | ⟨i, hi, h⟩
    · rw [h]
      by_cases hb : b ≤ 1 + g x
      · exact .inl (by omega)
      · exact .inr ⟨x, List.mem_cons_self .., by omega⟩
    · exact .inr ⟨i, List.mem_cons_of_mem _ hi, h⟩
theorem Cb.best {n m u v d : Nat} (h : Cb n m u) (hp : pc m + (d + 1) = n) (hcon : ¬ conL v (inX n m u) = true) : ∃ i, findF (isBest n v d m u) 0 n = some i ∧ i < n ∧ m.testBit i = false ∧ 1 + max (ldC n n v d (m ||| 2 ^ i) u) (ldC n n v d (m ||| 2 ^ i) (u ||| 2 ^ i)) = ldC n n v (d + 1) m u := by
  have hex : ∃ i ∈ frL n m, 1 + max (ldC n n v d (m ||| 2 ^ i) u) (ldC n n v d (m ||| 2 ^ i) (u ||| 2 ^ i)) = ldC n n v (d + 1) m u := by
    rw [ldC, if_neg hcon]
    rcases bestOf_att (fun i => max (ldC n n v d (m ||| 2 ^ i) u) (ldC n n v d (m ||| 2 ^ i) (u ||| 2 ^ i))) (frL n m) n with e | ⟨i, hi, e⟩
    · obtain ⟨i, hi⟩ := h.free hp
      obtain ⟨h1, h2, h3⟩ := h.step hi
      have a1 := ldC_le (v := v) (Nat.le_refl n) (d := d) h1 (by omega)
      have a2 := ldC_le (v := v) (Nat.le_refl n) (d := d) h2 (by omega)
      have a3 := (bestOf_le (fun i => max (ldC n n v d (m ||| 2 ^ i) u) (ldC n n v d (m ||| 2 ^ i) (u ||| 2 ^ i))) (frL n m) n).2 i hi
      exact ⟨i, hi, by omega⟩
    · exact ⟨i, hi, e.symm⟩
  obtain ⟨j, hj, e⟩ := hex
  obtain ⟨j1, j2⟩ := of_frL hj
  obtain ⟨i, hi⟩ := findF_is (p := isBest n v d m u) (i := 0) (d := n) (j := j) (by unfold isBest; rw [j2, decide_eq_true e]; rfl) (Nat.zero_le _) (by omega)
  obtain ⟨q1, q2, q3⟩ := findF_some hi
  unfold isBest at q1
  rw [Bool.and_eq_true, decide_eq_true_eq] at q1
  exact ⟨i, hi, by omega, by revert q1; cases m.testBit i <;> simp, q1.2⟩
theorem bestT_ok {n v : Nat} : ∀ {d m u : Nat}, Cb n m u → pc m + d = n → Dt m (bestT n v d m u) ∧ (bestT n v d m u).within n = true ∧ (bestT n v d m u).depth = ldC n n v d m u ∧ ∀ x ∈ inX n m u, (bestT n v d m u).val x = (((v.testBit x).toNat : Nat) : Int) := by
  intro d
  have leaf : ∀ {m u : Nat}, Cb n m u → conL v (inX n m u) = true → Dt m (.node (48 + bitC n v m u) .nil .nil) ∧ (Td.node (48 + bitC n v m u) .nil .nil).within n = true ∧ ∀ x ∈ inX n m u, (Td.node (48 + bitC n v m u) .nil .nil).val x = (((v.testBit x).toNat : Nat) : Int) := by
    intro m u h hc
    refine ⟨.leaf _ _ ?_, rfl, fun x hx => ?_⟩
    · rcases bitC_val h hc with e | e <;> omega
    · show 48 + bitC n v m u - 48 = _
      rw [← bitC_all hc hx]; omega
  induction d with
  | zero =>
    intro m u h hp
    obtain ⟨l1, l2, l3⟩ := leaf h (h.con (by omega))
    exact ⟨l1, l2, rfl, l3⟩
  | succ d ih =>
    intro m u h hp
    rw [bestT]
    by_cases hcon : conL v (inX n m u) = true
    · rw [if_pos hcon, ldC, if_pos hcon]
      obtain ⟨l1, l2, l3⟩ := leaf h hcon
      exact ⟨l1, l2, rfl, l3⟩
    · rw [if_neg hcon]
      obtain ⟨i, hi, i1, i2, i3⟩ := h.best hp hcon
      rw [hi]
      simp only []
      have hmem := mem_frL i1 i2
      obtain ⟨c0, c1, c2⟩ := h.step hmem
      obtain ⟨g0, g1⟩ := h.half hmem
      obtain ⟨a1, a2, a3, a4⟩ := ih c0 (by omega)
      obtain ⟨b1, b2, b3, b4⟩ := ih c1 (by omega)
      have hn := h.hn
      have ev : vr ((97 + i : Nat) : Int) = i := by unfold vr; omega
      refine ⟨.ask _ _ _ _ (by omega) (by rw [ev]; exact i2) (by rw [ev]; exact a1) (by rw [ev]; exact b1), ?_, ?_, fun x hx => ?_⟩
      · rw [within_ask n _ _ a1, ev, a2, b2, decide_eq_true i1]; rfl
      · rw [depth_ask _ _ a1, a3, b3, i3]
      · rw [val_ask x _ _ a1, ev]
        by_cases e : x.testBit i = true
        · rw [if_pos e]
          exact b4 x (by rw [g1]; exact List.mem_filter.mpr ⟨hx, e⟩)
        · rw [if_neg e]
          exact a4 x (by rw [g0]; exact List.mem_filter.mpr ⟨hx, by revert e; cases x.testBit i <;> simp⟩)
/-- the first variable of the best tree, or -1 -/
def firI (n v : Nat) : Nat → Nat → Nat → Int
  | 0, _, _ => -1
  | d + 1, m, u => if conL v (inX n m u) = true then -1 else match findF (isBest n v d m u) 0 n with | some i => (i : Int) | none => -1
theorem isBest_held {n v d m u i : Nat} (h : m.testBit i = true) : isBest n v d m u i = false := by unfold isBest; rw [h]; rfl
theorem isBest_free {n v d m u i : Nat} (hi : i < n) (hcon : ¬ conL v (inX n m u) = true) (h : m.testBit i = false) : isBest n v d m u i = (decide (ldC n n v d (m ||| 2 ^ i) u < ldC n n v (d + 1) m u) && decide (ldC n n v d (m ||| 2 ^ i) (u ||| 2 ^ i) < ldC n n v (d + 1) m u)) := by
  have h1 := (bestOf_le (fun i => max (ldC n n v d (m ||| 2 ^ i) u) (ldC n n v d (m ||| 2 ^ i) (u ||| 2 ^ i))) (frL n m) n).2 i (mem_frL hi h)
  have e : ldC n n v (d + 1) m u = bestOf (fun i => max (ldC n n v d (m ||| 2 ^ i) u) (ldC n n v d (m ||| 2 ^ i) (u ||| 2 ^ i))) n (frL n m) := by rw [ldC, if_neg hcon]
  rw [← e] at h1
  unfold isBest
  rw [h, Bool.not_false, Bool.true_and, Bool.eq_iff_iff, Bool.and_eq_true, decide_eq_true_eq, decide_eq_true_eq, decide_eq_true_eq]
  generalize ldC n n v (d + 1) m u = N at *
  generalize ldC n n v d (m ||| 2 ^ i) u = a at *
  generalize ldC n n v d (m ||| 2 ^ i) (u ||| 2 ^ i) = b at *
  omega
theorem ldC_pos {n v d m u : Nat} (h : Cb n m u) (hp : pc m + (d + 1) = n) (hcon : ¬ conL v (inX n m u) = true) : 0 < ldC n n v (d + 1) m u := by
  obtain ⟨i, _, _, _, e⟩ := h.best hp hcon
  omega
theorem findF_from {p : Nat → Bool} {i d : Nat} (h : i < d) : findF p i (d - i) = if p i = true then some i else findF p (i + 1) (d - (i + 1)) := by
  rw [show d - i = (d - (i + 1)) + 1 by omega, findF]
theorem findF_end {p : Nat → Bool} {d : Nat} : findF p d (d - d) = none := by rw [Nat.sub_self]; rfl
theorem bestT_size (n v : Nat) : ∀ (d m u : Nat), (bestT n v d m u).txt.size + 1 ≤ 2 ^ (d + 1)
  | 0, m, u => by
    show (Td.node (48 + bitC n v m u) .nil .nil).txt.size + 1 ≤ 2
    simp only [Td.txt, ByteArray.size_append, td_one]; exact Nat.le_refl _
  | d + 1, m, u => by
    have hp := Nat.two_pow_pos (d + 1)
    have e : 2 ^ (d + 1 + 1) = 2 ^ (d + 1) + 2 ^ (d + 1) := by rw [Nat.pow_succ]; omega
    have h2 : 2 ^ 1 ≤ 2 ^ (d + 1) := Nat.pow_le_pow_right (by decide) (by omega)
    rw [bestT, e]
    split
    · simp only [Td.txt, ByteArray.size_append, td_one]
      show 1 + 0 + 0 + 1 ≤ _
      omega
    · split
      · rename_i i _
        have h1 := bestT_size n v d (m ||| 2 ^ i) u
        have h3 := bestT_size n v d (m ||| 2 ^ i) (u ||| 2 ^ i)
        simp only [Td.txt, ByteArray.size_append, td_one]
        omega
      · show 0 + 1 ≤ _
        omega
/-- the text of the best tree of a table -/
def bestS (n v : Nat) : ByteArray := (bestT n v n 0 0).txt
theorem bestS_read {n v : Nat} (hn : n ≤ 4) (hv : v < 2 ^ 2 ^ n) : treeOf (bestS n v) = some (bestT n v n 0 0) ∧ (bestT n v n 0 0).within n = true ∧ (bestT n v n 0 0).depth = ldC n n v n 0 0 ∧ (bestT n v n 0 0).word n = v ∧ Dt 0 (bestT n v n 0 0) := by
  obtain ⟨a1, a2, a3, a4⟩ := bestT_ok (v := v) (Cb.zero hn) (d := n) (by rw [pc_zero]; omega)
  refine ⟨treeOf_txt a1, a2, a3, ?_, a1⟩
  unfold Td.word
  symm
  refine word_eq_prefW hv fun i hi => ?_
  have := a4 i (by rw [inX_zero]; exact List.mem_range.mpr hi)
  rw [this]
  cases v.testBit i <;> rfl
/-- how many questions a tree asks for all inputs -/
def Td.asks (n : Nat) (T : Td) : Nat := sumX (fun x => T.path x) (List.range (2 ^ n))
theorem asks_le {T : Td} (n : Nat) (h : Dt 0 T) : T.asks n ≤ 2 ^ n * T.depth := by
  have := sumX_le (g := fun x => T.path x) (B := T.depth) (l := List.range (2 ^ n)) (fun x _ => h.path_le x)
  rw [List.length_range] at this
  exact this
/-- no tree of a table does better -/
theorem tree_best {n : Nat} {T : Td} (hn : n ≤ 4) (hT : Dt 0 T) (hw : T.within n = true) : ldC n n (T.word n) n 0 0 ≤ T.depth ∧ avW n (T.word n) ≤ T.asks n := by
  have h := tree_low (B := fun d => 2 ^ d * n) (v := T.word n) hT n 0 (Cb.zero hn) (by rw [pc_zero]; omega) hw (fun x hx => by
    rw [inX_zero] at hx
    exact hT.word_bit (List.mem_range.mp hx))
  rw [inX_zero] at h
  exact h
theorem avW_le {n v : Nat} (hn : n ≤ 4) (hv : v < 2 ^ 2 ^ n) : avW n v ≤ (bestT n v n 0 0).asks n ∧ avW n v ≤ 2 ^ n * ldC n n v n 0 0 := by
  obtain ⟨_, b2, b3, b4, b5⟩ := bestS_read hn hv
  have h1 := (tree_best hn b5 b2).2
  rw [b4] at h1
  have h2 := asks_le n b5
  rw [b3] at h2
  exact ⟨h1, Nat.le_trans h1 h2⟩
/-- the tree of a text all of whose letters are below n -/
def tabOf (S : ByteArray) (n : Int) : Option Td := (treeOf S).bind fun T => if 0 ≤ n ∧ n ≤ 5 ∧ T.within n.toNat = true then some T else none
theorem tabOf_some {S : ByteArray} {n : Int} {T : Td} (h : tabOf S n = some T) : ∃ k : Nat, n = (k : Int) ∧ k ≤ 5 ∧ treeOf S = some T ∧ Dt 0 T ∧ T.within k = true := by
  unfold tabOf at h
  obtain ⟨T', h1, h⟩ := Option.bind_eq_some_iff.mp h
  by_cases e : 0 ≤ n ∧ n ≤ 5 ∧ T'.within n.toNat = true
  · rw [if_pos e] at h
    cases Option.some.inj h
    obtain ⟨_, _, _, a4⟩ := treeOf_some h1
    exact ⟨n.toNat, by omega, by omega, h1, a4, e.2.2⟩
  · rw [if_neg e] at h; cases h
theorem Dt.path5 {T : Td} (h : Dt 0 T) (x : Nat) : T.path x ≤ 5 := by
  have h1 := h.path_le x
  have h2 := h.depth_le (by decide)
  have h3 := fre_le 0
  omega
/-- the sum of the questions for the inputs below x -/
def Td.askS (T : Td) (x : Nat) : Nat := sumX (fun x => T.path x) (List.range x)
theorem askS_succ (T : Td) (x : Nat) : T.askS (x + 1) = T.askS x + T.path x := sumX_range _ _
theorem askS_le {T : Td} (h : Dt 0 T) (x : Nat) : T.askS x ≤ x * 5 := by
  have := sumX_le (g := fun x => T.path x) (B := 5) (l := List.range x) (fun y _ => h.path5 y)
  rw [List.length_range] at this
  exact this
end Go.Proofs.YtkmicbnbclkkkaaDoor.M
namespace Go.Proofs.YtkmicbnbclkkkaaDoor.M
open Go Go.RowKit Go.Proofs.YtkmicbnbclkkkaaDoorW.PrintWords Go.Proofs.YtkmicbnbclkkkaaDoorW.PrintLast
set_option linter.unusedVariables false

/-- W is w with more blocks and fewer draws left -/
class Ltr (w W : World) : Prop where
  out : Below w.heap.size w W
instance Ltr.self (w : World) : Ltr w w := ⟨Below.refl _ _⟩
instance Ltr.al {w W : World} {o : Obj} [l : Ltr w W] : Ltr w (W.alloc o) := ⟨below_alloc l.out o⟩
instance Ltr.dn {w W : World} {m : Nat} [l : Ltr w W] : Ltr w (W.drewN m) := ⟨pw_below_drewN l.out m⟩
instance Ltr.dr {w W : World} [l : Ltr w W] : Ltr w W.drew := ⟨below_drew1 l.out⟩
theorem Lb {w W : World} {g : Nat} {o : Obj} (h : Aside0 (w.heap[g]? = some o)) [l : Ltr w W] : W.heap[g]? = some o := blk_below h.out l.out
theorem Lw {w0 w W : World} (h : Aside0 (Below w0.heap.size w0 w)) [l : Ltr w W] : Below w0.heap.size w0 W := below_step h.out l.out
theorem sT_ {α : Type _} (l : List α) (i : Nat) (a : α) : l.toArray.setIfInBounds i a = (l.set i a).toArray := List.setIfInBounds_toArray ..
theorem s0_ {α : Type _} {x y : α} {l : List α} : (x :: l).set 0 y = y :: l := rfl
theorem s1_ {α : Type _} {x y : α} {l : List α} {n : Nat} : (x :: l).set (n + 1) y = x :: l.set n y := rfl
end Go.Proofs.YtkmicbnbclkkkaaDoor.M
namespace Go.Proofs.YtkmicbnbclkkkaaDoor.M
open Go.RowKit Go.Proofs.YtkmicbnbclkkkaaDoorW.PrintWords Go.Proofs.YtkmicbnbclkkkaaDoorW.PrintLast
set_option linter.unusedVariables false
set_option linter.unusedSimpArgs false

/-- from some round on there is one result, and P holds of it -/
def Tot {α : Type} (g : Nat → Option α) (P : α → Prop) : Prop := ∃ r, P r ∧ Ev g r
theorem Tot.ev {α : Type} {g : Nat → Option α} {P : α → Prop} {r : α} (h : Ev g r) (hp : P r) : Tot g P := ⟨r, hp, h⟩
theorem Tot.now {α : Type} {P : α → Prop} (r : α) (hp : P r) : Tot (fun _ => some r) P := ⟨r, hp, Ev.now r⟩
theorem Tot.bind {α β : Type} {g : Nat → Option α} {f : Nat → α → Option β} {P : α → Prop} {Q : β → Prop} (h : Tot g P) (hf : ∀ r, P r → Tot (fun k => f k r) Q) : Tot (fun k => (g k).bind (f k)) Q := by
  obtain ⟨r, hp, he⟩ := h
  obtain ⟨s, hq, hs⟩ := hf r hp
  exact ⟨s, hq, Ev.bind he hs⟩
theorem Tot.congr {α : Type} {g f : Nat → Option α} {P : α → Prop} (h : ∀ k, g k = f k) (hf : Tot f P) : Tot g P := by
  obtain ⟨r, hp, he⟩ := hf
  exact ⟨r, hp, Ev.congr h he⟩
theorem Tot.step {α : Type} {g f : Nat → Option α} {P : α → Prop} (h : ∀ k, g (k + 1) = f k) (hf : Tot f P) : Tot g P := by
  obtain ⟨r, hp, he⟩ := hf
  exact ⟨r, hp, Ev.step h he⟩
theorem Tot.end {α : Type} {g : Nat → Option α} {P : α → Prop} (r : α) (hp : P r) (h : ∀ k, g (k + 1) = some r) : Tot g P := ⟨r, hp, Ev.end h⟩
theorem Tot.mono {α : Type} {g : Nat → Option α} {P Q : α → Prop} (h : Tot g P) (hq : ∀ r, P r → Q r) : Tot g Q := by
  obtain ⟨r, hp, he⟩ := h
  exact ⟨r, hq r hp, he⟩
theorem Tot.ite {α : Type} {g f : Nat → Option α} {P : α → Prop} (c : Prop) [Decidable c] (h : c → Tot g P) (hf : ¬ c → Tot f P) : Tot (fun k => if c then g k else f k) P := by
  by_cases e : c
  · exact Tot.congr (fun k => if_pos e) (h e)
  · exact Tot.congr (fun k => if_neg e) (hf e)
/-- a loop that counts up -/
theorem Tot.up {S α : Type} {P : α → Prop} (F : Nat → S → Nat → Option α) (N : Nat) (I : Nat → S → Prop)
    (hs : ∀ i s, i < N → I i s → (∀ s', I (i + 1) s' → Tot (F (i + 1) s') P) → Tot (F i s) P) (he : ∀ s, I N s → Tot (F N s) P) :
    ∀ d i s, i + d = N → I i s → Tot (F i s) P := by
  intro d
  induction d with
  | zero =>
    intro i s hi h
    obtain rfl : i = N := by omega
    exact he s h
  | succ d ih =>
    intro i s hi h
    exact hs i s (by omega) h (fun s' hs' => ih (i + 1) s' (by omega) hs')
theorem and_mask (a : Int) {m : Nat} (hm : m < 2 ^ 63) : 0 ≤ Go.bits .and .i64 a (m : Int) ∧ Go.bits .and .i64 a (m : Int) ≤ (m : Int) := by
  have e : Go.bits .and .i64 a (m : Int) = (((BitVec.ofInt 64 a).toNat &&& m : Nat) : Int) := by
    simp only [Go.bits, BitVec.ofInt_natCast, BitVec.toNat_and, BitVec.toNat_ofNat, mod_bits hm]
    exact wi64 _ (Int.natCast_nonneg _) (cast_lt (Nat.lt_of_le_of_lt Nat.and_le_right hm))
  rw [e]
  exact ⟨Int.natCast_nonneg _, Int.ofNat_le.mpr Nat.and_le_right⟩
theorem and_255 (a : Int) : 0 ≤ Go.bits .and .i64 a 255 ∧ Go.bits .and .i64 a 255 ≤ 255 := and_mask a (m := 255) (by decide)
end Go.Proofs.YtkmicbnbclkkkaaDoor.M
