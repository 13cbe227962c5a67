/- Several texts of this repo's programs in one: plain lemmas, or functions of the given program as plain Lean functions with proofs that their calls compute them. -/
import Derived.Test.YthekbiofjhkecaaWMore
import Derived.Test.YthekbiofjhkecaaWLast
import Derived.Laws.BitsLemmas
import Derived.Laws.Bits64
import Derived.Laws.BitsAllLaws
import Derived.Maps.OwnSet
namespace Go.Proofs.Ythekbiofjhkecaa.M
open Go.RowKit Go.Proofs.YthekbiofjhkecaaW.PrintWords Go.Proofs.YthekbiofjhkecaaW.PrintLast
set_option linter.unusedVariables false
set_option linter.unusedSimpArgs false

theorem w64 {x : Int} (h : -9223372036854775808 ≤ x) (h2 : x ≤ 9223372036854775807) : wrap64 x = x := by unfold wrap64; omega
theorem wi64 (n : Int) (h0 : 0 ≤ n) (h1 : n < 2 ^ 63) : Go.IntKind.i64.wrap n = n := by rw [Go.IntKind.wrap_i64]; omega
theorem p63 {n : Nat} (h : n ≤ 62) : 2 ^ n < 2 ^ 63 := Nat.pow_lt_pow_right (by decide) (by omega)
theorem and_nat {a b : Nat} (ha : a < 2 ^ 63) (hb : b < 2 ^ 63) : Go.bits .and .i64 (a : Int) (b : Int) = ((a &&& b : Nat) : Int) := (Go.bits_nat .i64 63 (by decide) wi64 a b ha hb).1
theorem or_nat {a b : Nat} (ha : a < 2 ^ 63) (hb : b < 2 ^ 63) : Go.bits .or .i64 (a : Int) (b : Int) = ((a ||| b : Nat) : Int) := (Go.bits_nat .i64 63 (by decide) wi64 a b ha hb).2
theorem mod_bits {a : Nat} (ha : a < 2 ^ 63) : a % 2 ^ Go.IntKind.i64.bits = a := Nat.mod_eq_of_lt (by show a < 2 ^ 64; omega)
theorem cast_lt {a j : Nat} (h : a < 2 ^ j) : ((a : Nat) : Int) < 2 ^ j := by exact_mod_cast h
theorem xor_nat {a b : Nat} (ha : a < 2 ^ 63) (hb : b < 2 ^ 63) : Go.bits .xor .i64 (a : Int) (b : Int) = ((a ^^^ b : Nat) : Int) := by
  simp only [Go.bits, BitVec.ofInt_natCast, BitVec.toNat_xor, BitVec.toNat_ofNat, mod_bits ha, mod_bits hb]
  exact wi64 _ (Int.natCast_nonneg _) (cast_lt (Nat.xor_lt_two_pow ha hb))
/-- a without the bits of b -/
def andn (a b : Nat) : Nat := a &&& (a ^^^ b)
theorem testBit_andn (a b i : Nat) : (andn a b).testBit i = (a.testBit i && !b.testBit i) := by
  simp only [andn, Nat.testBit_and, Nat.testBit_xor]; cases a.testBit i <;> cases b.testBit i <;> rfl
theorem andn_lt {a b k : Nat} (h : a < 2 ^ k) : andn a b < 2 ^ k := Nat.lt_of_le_of_lt Nat.and_le_left h
theorem andNot_nat {a b : Nat} (ha : a < 2 ^ 63) (hb : b < 2 ^ 63) : Go.bits .andNot .i64 (a : Int) (b : Int) = ((andn a b : Nat) : Int) := by
  have e : a &&& (2 ^ Go.IntKind.i64.bits - 1 - b) = andn a b := by
    show a &&& (2 ^ 64 - 1 - b) = andn a b
    apply Nat.eq_of_testBit_eq; intro i
    rw [Nat.testBit_and, testBit_andn, show 2 ^ 64 - 1 - b = 2 ^ 64 - (b + 1) by omega, Nat.testBit_two_pow_sub_succ (by omega)]
    by_cases hi : i < 64
    · simp [hi]
    · have : a.testBit i = false := Nat.testBit_lt_two_pow (Nat.lt_of_lt_of_le (show a < 2 ^ 64 by omega) (Nat.pow_le_pow_right (by decide) (by omega)))
      simp [this]
  simp only [Go.bits, BitVec.ofInt_natCast, BitVec.toNat_and, BitVec.toNat_not, BitVec.toNat_ofNat, mod_bits ha, mod_bits hb, e]
  exact wi64 _ (Int.natCast_nonneg _) (cast_lt (andn_lt ha))

theorem min_bits {n : Nat} (h : n ≤ 64) : min (n : Int).toNat Go.IntKind.i64.bits = n := by simp [Go.IntKind.bits]; omega
theorem min_bitsu {n : Nat} (h : n ≤ 64) : min (n : Int).toNat Go.IntKind.u64.bits = n := by simp [Go.IntKind.bits]; omega
theorem shl_nat {x n : Nat} (hn : n ≤ 64) (h : x * 2 ^ n < 2 ^ 63) : shl .i64 (x : Int) (n : Int) = ((x * 2 ^ n : Nat) : Int) := by
  have h' : ((x * 2 ^ n : Nat) : Int) < 2 ^ 63 := by exact_mod_cast h
  have e : (x : Int) * 2 ^ n = ((x * 2 ^ n : Nat) : Int) := by push_cast; rfl
  unfold shl
  rw [min_bits hn, e, wi64 _ (Int.natCast_nonneg _) h']
theorem shl_one {n : Nat} (h : n ≤ 62) : shl .i64 1 (n : Int) = ((2 ^ n : Nat) : Int) := by
  have := shl_nat (x := 1) (n := n) (by omega) (by rw [Nat.one_mul]; exact p63 h)
  rw [Nat.one_mul] at this; exact this
theorem shlu_one {n : Nat} (h : n ≤ 63) : shl .u64 1 (n : Int) = ((2 ^ n : Nat) : Int) := by
  have h1 : 2 ^ n < 2 ^ 64 := Nat.pow_lt_pow_right (by decide) (by omega)
  have e : (2 : Int) ^ n = ((2 ^ n : Nat) : Int) := by push_cast; rfl
  unfold shl
  rw [min_bitsu (by omega), Int.one_mul, Go.IntKind.wrap_u64, e]
  obtain ⟨v, hv⟩ : ∃ v, v = 2 ^ n := ⟨_, rfl⟩
  rw [← hv] at h1 ⊢
  omega
theorem shr_nat {a n : Nat} (h : n ≤ 64) : shr .i64 (a : Int) (n : Int) = ((a / 2 ^ n : Nat) : Int) := by
  unfold shr; rw [min_bits h]; push_cast; rfl
theorem bit_of (a n : Nat) : (a / 2 ^ n) &&& 1 = (a.testBit n).toNat := by
  rw [Nat.and_one_is_mod, Nat.toNat_testBit]
theorem bit_nat {a n : Nat} (ha : a < 2 ^ 63) (h : n ≤ 64) : Go.bits .and .i64 (shr .i64 (a : Int) (n : Int)) 1 = (((a.testBit n).toNat : Nat) : Int) := by
  rw [shr_nat h, ← bit_of]
  exact and_nat (b := 1) (Nat.lt_of_le_of_lt (Nat.div_le_self _ _) ha) (by decide)
theorem toNat_lt (b : Bool) : b.toNat < 2 := by cases b <;> decide
theorem toNat_le (b : Bool) : b.toNat ≤ 1 := by cases b <;> decide

/-! what holds of all numbers below n, by reckoning -/
def allB (n : Nat) (p : Nat → Bool) : Bool := match n with | 0 => true | n + 1 => p n && allB n p
theorem allB_of {n : Nat} {p : Nat → Bool} (h : allB n p = true) : ∀ i, i < n → p i = true := by
  induction n with
  | zero => intro i hi; omega
  | succ n ih =>
    intro i hi
    rw [allB, Bool.and_eq_true] at h
    by_cases e : i = n
    · rw [e]; exact h.1
    · exact ih h.2 i (by omega)
theorem allB_dec {n : Nat} {P : Nat → Prop} [DecidablePred P] (h : allB n (fun i => decide (P i)) = true) : ∀ i, i < n → P i := fun i hi => of_decide_eq_true (allB_of h i hi)
theorem allB_dec2 {n m : Nat} {P : Nat → Nat → Prop} [∀ i j, Decidable (P i j)] (h : allB n (fun i => allB m (fun j => decide (P i j))) = true) : ∀ i, i < n → ∀ j, j < m → P i j := fun i hi j hj => of_decide_eq_true (allB_of (allB_of h i hi) j hj)
theorem allB_dec3 {n m l : Nat} {P : Nat → Nat → Nat → Prop} [∀ i j k, Decidable (P i j k)] (h : allB n (fun i => allB m (fun j => allB l (fun k => decide (P i j k)))) = true) : ∀ i, i < n → ∀ j, j < m → ∀ k, k < l → P i j k := fun i hi j hj k hk => of_decide_eq_true (allB_of (allB_of (allB_of h i hi) j hj) k hk)

/-! words: the number whose bits below m are told by g -/
def prefW (g : Nat → Bool) : Nat → Nat
  | 0 => 0
  | m + 1 => prefW g m ||| (g m).toNat * 2 ^ m
theorem prefW_lt (g : Nat → Bool) : ∀ m, prefW g m < 2 ^ m
  | 0 => by simp [prefW]
  | m + 1 => by
    have h := prefW_lt g m
    have h1 : (g m).toNat * 2 ^ m < 2 ^ (m + 1) := by
      rw [Nat.pow_succ]; have := Nat.two_pow_pos m
      cases g m <;> simp <;> omega
    exact Nat.or_lt_two_pow (Nat.lt_of_lt_of_le h (Nat.pow_le_pow_right (by decide) (by omega))) h1
theorem testBit_prefW (g : Nat → Bool) (i : Nat) : ∀ m, (prefW g m).testBit i = (decide (i < m) && g i)
  | 0 => by simp [prefW]
  | m + 1 => by
    rw [prefW, Nat.testBit_or, testBit_prefW g i m, Nat.testBit_mul_two_pow]
    rcases Nat.lt_trichotomy i m with h | h | h
    · have h1 : decide (m ≤ i) = false := by simpa using h
      have h2 : decide (i < m + 1) = true := by simp; omega
      have h3 : decide (i < m) = true := by simpa using h
      rw [h1, h2, h3]; simp
    · subst h
      cases g i <;> simp
    · have h2 : decide (i < m + 1) = false := by simp; omega
      have h3 : decide (i < m) = false := by simp; omega
      rw [h2, h3]
      have : ((g m).toNat).testBit (i - m) = false := Nat.testBit_lt_two_pow (Nat.lt_of_lt_of_le (toNat_lt _) (by
        have : 2 ^ 1 ≤ 2 ^ (i - m) := Nat.pow_le_pow_right (by decide) (by omega)
        omega))
      simp [this]
theorem prefW_congr {g g' : Nat → Bool} : ∀ {m : Nat}, (∀ i, i < m → g i = g' i) → prefW g m = prefW g' m
  | 0, _ => rfl
  | m + 1, h => by rw [prefW, prefW, prefW_congr (fun i hi => h i (by omega)), h m (by omega)]
theorem testBit_of_ge {w m i : Nat} (h : w < 2 ^ m) (hi : m ≤ i) : w.testBit i = false := Nat.testBit_lt_two_pow (Nat.lt_of_lt_of_le h (Nat.pow_le_pow_right (by decide) hi))
theorem prefW_testBit {w m : Nat} (h : w < 2 ^ m) : prefW w.testBit m = w := by
  apply Nat.eq_of_testBit_eq; intro i
  rw [testBit_prefW]
  by_cases hi : i < m
  · simp [hi]
  · rw [testBit_of_ge h (by omega)]; simp
/-- words below 2^m are equal if their bits below m are -/
theorem word_ext {w v m : Nat} (hw : w < 2 ^ m) (hv : v < 2 ^ m) (h : ∀ i, i < m → w.testBit i = v.testBit i) : w = v := by
  rw [← prefW_testBit hw, ← prefW_testBit hv]; exact prefW_congr h
/-- one step of a loop that collects bits -/
theorem prefW_step {g : Nat → Bool} {x : Nat} (hx : x ≤ 61) : Go.bits .or .i64 ((prefW g x : Nat) : Int) (shl .i64 (((g x).toNat : Nat) : Int) (x : Int)) = ((prefW g (x + 1) : Nat) : Int) := by
  have h1 := prefW_lt g x
  have hp := p63 (n := x) (by omega)
  have h2 : (g x).toNat * 2 ^ x < 2 ^ 63 := by cases g x <;> simp; omega
  rw [shl_nat (by omega) h2, or_nat (by omega) h2]; rfl
theorem prefW_step_one {g : Nat → Bool} {x : Nat} (hx : x ≤ 61) (h : g x = true) : Go.bits .or .i64 ((prefW g x : Nat) : Int) (shl .i64 1 (x : Int)) = ((prefW g (x + 1) : Nat) : Int) := by
  have := prefW_step (g := g) hx
  rw [h] at this; exact this
theorem prefW_skip {g : Nat → Bool} {x : Nat} (h : g x = false) : prefW g (x + 1) = prefW g x := by rw [prefW, h]; simp

theorem subset_iff {a v : Nat} : a &&& v = a ↔ andn a v = 0 := by
  constructor
  · intro h
    apply Nat.eq_of_testBit_eq; intro i
    rw [testBit_andn, Nat.zero_testBit]
    have h1 : (a &&& v).testBit i = a.testBit i := by rw [h]
    rw [Nat.testBit_and] at h1
    revert h1; cases a.testBit i <;> cases v.testBit i <;> simp
  · intro h
    apply Nat.eq_of_testBit_eq; intro i
    have h1 : (andn a v).testBit i = false := by rw [h, Nat.zero_testBit]
    rw [testBit_andn] at h1
    rw [Nat.testBit_and]
    revert h1; cases a.testBit i <;> cases v.testBit i <;> simp
/-- an input with one bit more, at place i -/
def ins (x i b : Nat) : Nat := x / 2 ^ i * 2 ^ (i + 1) + b * 2 ^ i + x % 2 ^ i
/-- the word with variable i fixed to b -/
def rstW (n v i b : Nat) : Nat := prefW (fun x => v.testBit (ins x i b)) (2 ^ (n - 1))
theorem half16 {n : Nat} (hn : n ≤ 5) : 2 ^ (n - 1) ≤ 16 := by
  have := Nat.pow_le_pow_right (show 0 < 2 by decide) (show n - 1 ≤ 4 by omega)
  simpa using this
theorem toNat_beq1 (b : Bool) : (((b.toNat : Nat) : Int) == 1) = b := by cases b <;> rfl

/-! counting -/
def cnt (g : Nat → Bool) : Nat → Nat
  | 0 => 0
  | m + 1 => cnt g m + (g m).toNat
theorem cnt_congr {g g' : Nat → Bool} : ∀ {m : Nat}, (∀ i, i < m → g i = g' i) → cnt g m = cnt g' m
  | 0, _ => rfl
  | m + 1, h => by rw [cnt, cnt, cnt_congr (fun i hi => h i (by omega)), h m (by omega)]
theorem cnt_le (g : Nat → Bool) : ∀ m, cnt g m ≤ m
  | 0 => Nat.le_refl _
  | m + 1 => by have := cnt_le g m; have := toNat_le (g m); rw [cnt]; omega

/-! from numbers to their natural numbers -/
theorem nat_of {x : Int} (h : 0 ≤ x) : ∃ n : Nat, x = (n : Int) := ⟨x.toNat, by omega⟩
theorem pow_le_5 {n : Nat} (h : n ≤ 5) : 2 ^ n ≤ 32 := by
  have := Nat.pow_le_pow_right (show 0 < 2 by decide) h; simpa using this
theorem full_lt {n : Nat} (h : n ≤ 5) : 2 ^ (2 ^ n) ≤ 2 ^ 32 := Nat.pow_le_pow_right (by decide) (pow_le_5 h)
theorem full_p63 {n : Nat} (h : n ≤ 5) : 2 ^ (2 ^ n) < 2 ^ 63 := Nat.lt_of_le_of_lt (full_lt h) (by decide)

/-- is it a table: at most five variables, a word of as many bits as there are inputs -/
def isT (n w : Int) : Bool := decide (0 ≤ n ∧ n ≤ 5 ∧ 0 ≤ w ∧ w < ((2 ^ 2 ^ n.toNat : Nat) : Int))
theorem isT_nat {a b : Int} (h : isT a b = true) : ∃ n v : Nat, a = (n : Int) ∧ b = (v : Int) ∧ n ≤ 5 ∧ v < 2 ^ 2 ^ n := by
  have h' := of_decide_eq_true h
  obtain ⟨h1, h2, h3, h4⟩ := h'
  obtain ⟨n, rfl⟩ := nat_of h1
  obtain ⟨v, rfl⟩ := nat_of h3
  rw [Int.toNat_natCast] at h4
  exact ⟨n, v, rfl, rfl, by omega, by exact_mod_cast h4⟩
theorem isT_mk {n v : Nat} (hn : n ≤ 5) (hv : v < 2 ^ 2 ^ n) : isT (n : Int) (v : Int) = true := by
  have h : (v : Int) < ((2 ^ 2 ^ n : Nat) : Int) := by exact_mod_cast hv
  simp only [isT, decide_eq_true_eq, Int.toNat_natCast]
  exact ⟨by omega, by omega, by omega, h⟩
theorem full_word {n : Nat} (h : n ≤ 5) : wrap64 ((shl .i64 1 (shl .u64 1 (n : Int))) - 1) = ((2 ^ 2 ^ n : Nat) : Int) - 1 := by
  have h5 := pow_le_5 h
  have hf := full_p63 h
  have hp := Nat.two_pow_pos (2 ^ n)
  rw [shlu_one (by omega), shl_one (by omega), w64 (by omega) (by omega)]
theorem full_word' {n : Nat} (h : n ≤ 5) : wrap64 ((shl .i64 1 (shl .i64 1 (n : Int))) - 1) = ((2 ^ 2 ^ n : Nat) : Int) - 1 := by
  have h5 := pow_le_5 h
  have hf := full_p63 h
  have hp := Nat.two_pow_pos (2 ^ n)
  rw [shl_one (n := n) (by omega), shl_one (by omega), w64 (by omega) (by omega)]

/-! both sides of a law come to one answer -/
theorem Ev.const {α : Type} {o : Option α} {r : α} (h : o = some r) : Ev (fun _ => o) r := ⟨0, fun _ _ => h⟩
/-! loops that go up by one, told from some number of rounds on -/
/-- what a loop's state is, from i on, after d rounds -/
def iter {S : Type} (step : Nat → S → S) : Nat → Nat → S → S
  | _, 0, s => s
  | i, d + 1, s => iter step (i + 1) d (step i s)
theorem Ev.up {S α : Type} (F : Nat → S → Nat → Option α) (N : Nat) (I : Nat → S → Prop) (step : Nat → S → S) (r : α)
    (hI : ∀ i s, i < N → I i s → I (i + 1) (step i s))
    (hs : ∀ i s, i < N → I i s → Ev (fun k => F k (step i s) (i + 1)) r → Ev (fun k => F k s i) r) :
    ∀ d i s, i + d = N → I i s → (I N (iter step i d s) → Ev (fun k => F k (iter step i d s) N) r) → Ev (fun k => F k s i) r := by
  intro d
  induction d with
  | zero => intro i s hi h k; obtain rfl : i = N := by omega
            exact k h
  | succ d ih => intro i s hi h k; exact hs i s (by omega) h (ih (i + 1) (step i s) (by omega) (hI i s (by omega) h) k)
/-- the state at i is told by a function of i: each round leads from st i to st (i+1) -/
theorem Ev.count {α : Type} (F : Nat → Nat → Option α) (N : Nat) (r : α)
    (hs : ∀ i, i < N → Ev (fun k => F k (i + 1)) r → Ev (fun k => F k i) r) (he : Ev (fun k => F k N) r) : ∀ d i, i + d = N → Ev (fun k => F k i) r := by
  intro d
  induction d with
  | zero => intro i hi; obtain rfl : i = N := by omega
            exact he
  | succ d ih => intro i hi; exact hs i (by omega) (ih (i + 1) (by omega))
theorem Ev.of_some {α : Type} {g : Nat → Option α} {r : α} (h : ∀ k, g k = some r) : Ev g r := ⟨0, fun k _ => h k⟩
theorem Ev.end {α : Type} {g : Nat → Option α} {r : α} (h : ∀ k, g (k + 1) = some r) : Ev g r := Ev.step h (Ev.now r)

end Go.Proofs.Ythekbiofjhkecaa.M
namespace Go.Proofs.Ythekbiofjhkecaa.M
open Go.RowKit Go.Proofs.YthekbiofjhkecaaW.PrintWords Go.Proofs.YthekbiofjhkecaaW.PrintLast
set_option linter.unusedVariables false
set_option linter.unusedSimpArgs false

end Go.Proofs.Ythekbiofjhkecaa.M
namespace Go.Proofs.Ythekbiofjhkecaa.M
open Go.RowKit Go.Proofs.YthekbiofjhkecaaW.PrintWords Go.Proofs.YthekbiofjhkecaaW.PrintLast
set_option linter.unusedVariables false
set_option linter.unusedSimpArgs false

theorem tb_cat {c y : Nat} (hc : c < 256) (j : Nat) : (c + 256 * y).testBit j = if j < 8 then c.testBit j else y.testBit (j - 8) := by
  rw [Nat.add_comm]; exact Nat.testBit_two_pow_mul_add (i := 8) y hc j
theorem and_cat {c d y z : Nat} (hc : c < 256) (hd : d < 256) : (c + 256 * y) &&& (d + 256 * z) = (c &&& d) + 256 * (y &&& z) := by
  have h : c &&& d < 256 := Nat.lt_of_le_of_lt Nat.and_le_left hc
  apply Nat.eq_of_testBit_eq; intro i
  rw [Nat.testBit_and, tb_cat hc, tb_cat hd, tb_cat h]
  split <;> rw [Nat.testBit_and]
def repB (d : Nat) : Nat → Nat
  | 0 => 0
  | k + 1 => d + 256 * repB d k
def sA (k x : Nat) : Nat := (x / 2 &&& repB 85 k) + (x &&& repB 85 k)
def sB (k x : Nat) : Nat := (x / 4 &&& repB 51 k) + (x &&& repB 51 k)
def sC (k x : Nat) : Nat := (x / 16 + x) &&& repB 15 k
def bA (c : Nat) : Nat := (c / 2 &&& 85) + (c &&& 85)
def bB (c : Nat) : Nat := (c / 4 &&& 51) + (c &&& 51)
def bP (c : Nat) : Nat := cnt c.testBit 8
theorem bA_lt : ∀ c, c < 256 → bA c < 256 := allB_dec (by decide +kernel)
theorem bB_lt : ∀ c, c < 256 → bB (bA c) ≤ 68 ∧ bB (bA c) % 16 ≤ 4 ∧ (bB (bA c) / 16 + bB (bA c)) % 16 = bP c ∧ bP c ≤ 8 := allB_dec (by decide +kernel)
theorem hA1 : ∀ c, c < 256 → ∀ t, t < 2 → (c / 2 + 128 * t) &&& 85 = c / 2 &&& 85 := allB_dec2 (by decide +kernel)
theorem hB1 : ∀ c, c < 256 → ∀ t, t < 4 → (c / 4 + 64 * t) &&& 51 = c / 4 &&& 51 := allB_dec2 (by decide +kernel)
theorem sA_step {c y : Nat} (hc : c < 256) (k : Nat) : sA (k + 1) (c + 256 * y) = bA c + 256 * sA k y := by
  have e : (c + 256 * y) / 2 = (c / 2 + 128 * (y % 2)) + 256 * (y / 2) := by omega
  simp only [sA, repB, bA]
  rw [e, and_cat (by omega) (by omega), and_cat hc (by omega), hA1 c hc _ (by omega)]
  omega
theorem sB_step {c y : Nat} (hc : c < 256) (k : Nat) : sB (k + 1) (c + 256 * y) = bB c + 256 * sB k y := by
  have e : (c + 256 * y) / 4 = (c / 4 + 64 * (y % 4)) + 256 * (y / 4) := by omega
  simp only [sB, repB, bB]
  rw [e, and_cat (by omega) (by omega), and_cat hc (by omega), hB1 c hc _ (by omega)]
  omega
theorem sC_step {c y : Nat} (hc : c ≤ 68) (hy : y % 16 ≤ 4) (k : Nat) : sC (k + 1) (c + 256 * y) = (c / 16 + c) % 16 + 256 * sC k y := by
  have e : (c + 256 * y) / 16 + (c + 256 * y) = (c / 16 + 16 * (y % 16) + c) + 256 * (y / 16 + y) := by omega
  simp only [sC, repB]
  rw [e, and_cat (by omega) (by omega)]
  have : (c / 16 + 16 * (y % 16) + c) &&& 15 = (c / 16 + c) % 16 := by
    rw [show 15 = 2 ^ 4 - 1 from rfl, Nat.and_two_pow_sub_one_eq_mod]; omega
  rw [this]
theorem s0 (k : Nat) : sA k 0 = 0 ∧ sB k 0 = 0 ∧ sC k 0 = 0 := by simp [sA, sB, sC]
/-- the bytes' own counts, side by side -/
theorem swar {c0 c1 c2 c3 : Nat} (h0 : c0 < 256) (h1 : c1 < 256) (h2 : c2 < 256) (h3 : c3 < 256) :
    sC 8 (sB 8 (sA 8 (c0 + 256 * (c1 + 256 * (c2 + 256 * (c3 + 256 * 0)))))) = bP c0 + 256 * (bP c1 + 256 * (bP c2 + 256 * (bP c3 + 256 * 0))) := by
  rw [sA_step h0, sA_step h1, sA_step h2, sA_step h3, (s0 4).1, sB_step (bA_lt _ h0), sB_step (bA_lt _ h1), sB_step (bA_lt _ h2), sB_step (bA_lt _ h3), (s0 4).2.1]
  obtain ⟨a0, b0, e0, _⟩ := bB_lt c0 h0
  obtain ⟨a1, b1, e1, _⟩ := bB_lt c1 h1
  obtain ⟨a2, b2, e2, _⟩ := bB_lt c2 h2
  obtain ⟨a3, b3, e3, _⟩ := bB_lt c3 h3
  rw [sC_step a0 (by omega), sC_step a1 (by omega), sC_step a2 (by omega), sC_step a3 (by omega), (s0 4).2.2, e0, e1, e2, e3]
theorem cnt_cat {c y : Nat} (hc : c < 256) : ∀ m, cnt (c + 256 * y).testBit (8 + m) = bP c + cnt y.testBit m
  | 0 => by rw [Nat.add_zero, cnt, Nat.add_zero]; exact cnt_congr (fun i hi => by rw [tb_cat hc, if_pos hi])
  | m + 1 => by
    rw [← Nat.add_assoc, cnt, cnt_cat hc m, cnt, tb_cat hc, if_neg (by omega), show 8 + m - 8 = m by omega]; omega
/-- how many ones -/
def pc (w : Nat) : Nat := cnt w.testBit 32
theorem pc_bytes {c0 c1 c2 c3 : Nat} (h0 : c0 < 256) (h1 : c1 < 256) (h2 : c2 < 256) (h3 : c3 < 256) :
    pc (c0 + 256 * (c1 + 256 * (c2 + 256 * (c3 + 256 * 0)))) = bP c0 + bP c1 + bP c2 + bP c3 := by
  unfold pc
  rw [show 32 = 8 + (8 + (8 + (8 + 0))) from rfl, cnt_cat h0, cnt_cat h1, cnt_cat h2, cnt_cat h3]; simp [cnt]; omega
theorem bytes_of {w : Nat} (h : w < 2 ^ 32) : ∃ c0 c1 c2 c3 : Nat, c0 < 256 ∧ c1 < 256 ∧ c2 < 256 ∧ c3 < 256 ∧ w = c0 + 256 * (c1 + 256 * (c2 + 256 * (c3 + 256 * 0))) :=
  ⟨w % 256, w / 256 % 256, w / 65536 % 256, w / 16777216, by omega, by omega, by omega, by omega, by omega⟩
theorem cnt_zero : ∀ m, cnt (0 : Nat).testBit m = 0
  | 0 => rfl
  | m + 1 => by rw [cnt, cnt_zero m, Nat.zero_testBit]; rfl
theorem cnt_head (g : Nat → Bool) : ∀ m, cnt g (m + 1) = (g 0).toNat + cnt (fun i => g (i + 1)) m
  | 0 => by simp [cnt]
  | m + 1 => by rw [cnt, cnt_head g m, cnt]; omega
theorem cnt_half (w m : Nat) : cnt w.testBit (m + 1) = w % 2 + cnt (w / 2).testBit m := by
  rw [cnt_head]
  have e : (w.testBit 0).toNat = w % 2 := by rw [Nat.toNat_testBit]; simp
  rw [e]
  congr 1
  exact cnt_congr (fun i _ => by rw [Nat.testBit_succ])
theorem pc_of_lt {w m : Nat} (h : w < 2 ^ m) : ∀ d, cnt w.testBit (m + d) = cnt w.testBit m
  | 0 => rfl
  | d + 1 => by rw [← Nat.add_assoc, cnt, pc_of_lt h d, testBit_of_ge h (by omega)]; rfl
theorem pc_le (w : Nat) : pc w ≤ 32 := cnt_le _ _

theorem u64n {n : Nat} (h : n < 2 ^ 64) : Go.IntKind.u64.wrap (n : Int) = (n : Int) := by rw [Go.IntKind.wrap_u64]; omega
theorem u64and {a b : Nat} (ha : a < 2 ^ 64) (hb : b < 2 ^ 64) : Go.bits .and .u64 (a : Int) (b : Int) = ((a &&& b : Nat) : Int) := Go.u64_and_nat a b ha hb
theorem sA_eq {x : Nat} (hx : x < 2 ^ 32) : Go.IntKind.u64.wrap (Go.bits .and .u64 ((x : Int) / 2) 6148914691236517205 + Go.bits .and .u64 (x : Int) 6148914691236517205) = ((sA 8 x : Nat) : Int) := by
  have e : ((x : Int) / 2) = ((x / 2 : Nat) : Int) := by omega
  have e2 : (6148914691236517205 : Int) = ((repB 85 8 : Nat) : Int) := by decide
  have l1 : x / 2 &&& repB 85 8 ≤ x / 2 := Nat.and_le_left
  have l2 : x &&& repB 85 8 ≤ x := Nat.and_le_left
  rw [e, e2, u64and (by omega) (by decide), u64and (by omega) (by decide), ← Int.natCast_add, u64n (by omega)]; rfl
theorem sB_eq {x : Nat} (hx : x < 2 ^ 33) : Go.IntKind.u64.wrap (Go.bits .and .u64 ((x : Int) / 4) 3689348814741910323 + Go.bits .and .u64 (x : Int) 3689348814741910323) = ((sB 8 x : Nat) : Int) := by
  have e : ((x : Int) / 4) = ((x / 4 : Nat) : Int) := by omega
  have e2 : (3689348814741910323 : Int) = ((repB 51 8 : Nat) : Int) := by decide
  have l1 : x / 4 &&& repB 51 8 ≤ x / 4 := Nat.and_le_left
  have l2 : x &&& repB 51 8 ≤ x := Nat.and_le_left
  rw [e, e2, u64and (by omega) (by decide), u64and (by omega) (by decide), ← Int.natCast_add, u64n (by omega)]; rfl
theorem sC_eq {x : Nat} (hx : x < 2 ^ 34) : Go.bits .and .u64 (Go.IntKind.u64.wrap ((x : Int) / 16 + (x : Int))) 1085102592571150095 = ((sC 8 x : Nat) : Int) := by
  have e : ((x : Int) / 16) = ((x / 16 : Nat) : Int) := by omega
  have e2 : (1085102592571150095 : Int) = ((repB 15 8 : Nat) : Int) := by decide
  rw [e, e2, ← Int.natCast_add, u64n (by omega), u64and (by omega) (by decide)]; rfl
theorem sA_lt {x : Nat} (hx : x < 2 ^ 32) : sA 8 x < 2 ^ 33 := by
  have l1 : x / 2 &&& repB 85 8 ≤ x / 2 := Nat.and_le_left
  have l2 : x &&& repB 85 8 ≤ x := Nat.and_le_left
  unfold sA; omega
theorem sB_lt {x : Nat} (hx : x < 2 ^ 33) : sB 8 x < 2 ^ 34 := by
  have l1 : x / 4 &&& repB 51 8 ≤ x / 4 := Nat.and_le_left
  have l2 : x &&& repB 51 8 ≤ x := Nat.and_le_left
  unfold sB; omega
theorem last_sums {p0 p1 p2 p3 : Nat} (h0 : p0 ≤ 8) (h1 : p1 ≤ 8) (h2 : p2 ≤ 8) (h3 : p3 ≤ 8) (T U V : Nat) (hT : T = p0 + 256 * (p1 + 256 * (p2 + 256 * (p3 + 256 * 0)))) (hU : U = T + T / 256) (hV : V = U + U / 65536) :
    T < 2 ^ 32 ∧ U < 2 ^ 33 ∧ V < 2 ^ 34 ∧ (V + V / 4294967296) % 128 = p0 + p1 + p2 + p3 := by
  have bT : T < 2 ^ 32 := by omega
  have a1 : T / 256 = p1 + 256 * p2 + 65536 * p3 := by omega
  have a2 : U = (p0 + p1) + 256 * (p1 + p2) + 65536 * (p2 + p3) + 16777216 * p3 := by omega
  have bU : U < 2 ^ 33 := by omega
  clear hU a1 hT
  have a3 : U / 65536 = (p2 + p3) + 256 * p3 := by omega
  have a4 : V = (p0 + p1 + p2 + p3) + 256 * (p1 + p2 + p3) + 65536 * (p2 + p3) + 16777216 * p3 := by omega
  clear a3 hV
  have a5 : V / 4294967296 = 0 := by omega
  exact ⟨bT, bU, by omega, by omega⟩
theorem uw1 {T U : Nat} (hU : U = T + T / 256) (h : T < 2 ^ 32) : Go.IntKind.u64.wrap ((T : Int) + (T : Int) / 256) = (U : Int) := by rw [Go.IntKind.wrap_u64]; omega
theorem uw2 {T U : Nat} (hU : U = T + T / 65536) (h : T < 2 ^ 33) : Go.IntKind.u64.wrap ((T : Int) + (T : Int) / 65536) = (U : Int) := by rw [Go.IntKind.wrap_u64]; omega
theorem uw3 {V : Nat} (h : V < 2 ^ 34) : Go.IntKind.u64.wrap ((V : Int) + (V : Int) / 4294967296) = ((V + V / 4294967296 : Nat) : Int) := by rw [Go.IntKind.wrap_u64]; omega
theorem uw4 {X : Nat} (h : X < 2 ^ 36) : Go.bits .and .i64 (wrap64 (X : Int)) 127 = ((X % 128 : Nat) : Int) := by
  have e127 : (127 : Int) = ((127 : Nat) : Int) := rfl
  rw [w64 (by omega) (by omega), e127, and_nat (by omega) (by decide)]
  congr 1
  exact Nat.and_two_pow_sub_one_eq_mod X 7
/-- the last sums -/
theorem swar_end {w T : Nat} (h : w < 2 ^ 32) (hT : T = sC 8 (sB 8 (sA 8 w))) (r : Int)
    (hr : r = Go.bits .and .i64 (wrap64 (Go.IntKind.u64.wrap (Go.IntKind.u64.wrap (Go.IntKind.u64.wrap ((T : Int) + (T : Int) / 256) + Go.IntKind.u64.wrap ((T : Int) + (T : Int) / 256) / 65536) + Go.IntKind.u64.wrap (Go.IntKind.u64.wrap ((T : Int) + (T : Int) / 256) + Go.IntKind.u64.wrap ((T : Int) + (T : Int) / 256) / 65536) / 4294967296))) 127) : r = ((pc w : Nat) : Int) := by
  obtain ⟨c0, c1, c2, c3, h0, h1, h2, h3, rfl⟩ := bytes_of h
  rw [swar h0 h1 h2 h3] at hT
  rw [pc_bytes h0 h1 h2 h3]
  obtain ⟨_, _, _, p0⟩ := bB_lt c0 h0
  obtain ⟨_, _, _, p1⟩ := bB_lt c1 h1
  obtain ⟨_, _, _, p2⟩ := bB_lt c2 h2
  obtain ⟨_, _, _, p3⟩ := bB_lt c3 h3
  obtain ⟨U, hU⟩ : ∃ U, U = T + T / 256 := ⟨_, rfl⟩
  obtain ⟨V, hV⟩ : ∃ V, V = U + U / 65536 := ⟨_, rfl⟩
  obtain ⟨b1, b2, b3, b4⟩ := last_sums p0 p1 p2 p3 T U V hT hU hV
  rw [uw1 hU b1, uw2 hV b2, uw3 b3] at hr
  have b5 : V + V / 4294967296 < 2 ^ 36 := by clear hr; omega
  rw [uw4 b5, b4] at hr
  exact hr

end Go.Proofs.Ythekbiofjhkecaa.M
namespace Go.Proofs.Ythekbiofjhkecaa.M
open Go.RowKit Go.Proofs.YthekbiofjhkecaaW.PrintWords Go.Proofs.YthekbiofjhkecaaW.PrintLast
set_option linter.unusedVariables false
set_option linter.unusedSimpArgs false

theorem up1 {x : Nat} (h : x ≤ 1000000000000) : wrap64 ((x : Int) + 1) = ((x + 1 : Nat) : Int) := by rw [w64 (by omega) (by omega)]; omega

end Go.Proofs.Ythekbiofjhkecaa.M
namespace Go.Proofs.Ythekbiofjhkecaa.M
open Go.RowKit Go.Proofs.YthekbiofjhkecaaW.PrintWords Go.Proofs.YthekbiofjhkecaaW.PrintLast
set_option linter.unusedVariables false
set_option linter.unusedSimpArgs false

/-- the sum of those of the first i columns whose variables are 1 -/
def img (g : Nat → Nat) (x : Nat) : Nat → Nat
  | 0 => 0
  | i + 1 => if x.testBit i = true then img g x i ^^^ g i else img g x i
theorem img_congr_x {g : Nat → Nat} {x y : Nat} : ∀ {i : Nat}, (∀ j, j < i → x.testBit j = y.testBit j) → img g x i = img g y i
  | 0, _ => rfl
  | i + 1, h => by rw [img, img, img_congr_x (fun j hj => h j (by omega)), h i (by omega)]
theorem img_xor (g : Nat → Nat) (x y : Nat) : ∀ i, img g (x ^^^ y) i = img g x i ^^^ img g y i
  | 0 => by simp [img]
  | i + 1 => by
    have ih := img_xor g x y i
    simp only [img, Nat.testBit_xor, ih]
    cases x.testBit i <;> cases y.testBit i <;> simp
    · rw [Nat.xor_assoc]
    · rw [Nat.xor_assoc, Nat.xor_comm (img g y i) (g i), ← Nat.xor_assoc]
    · rw [Nat.xor_assoc, Nat.xor_comm (g i), Nat.xor_assoc, Nat.xor_self, Nat.xor_zero]
theorem img_zero (g : Nat → Nat) : ∀ i, img g 0 i = 0
  | 0 => rfl
  | i + 1 => by rw [img, img_zero g i]; simp
theorem img_low {g : Nat → Nat} {x i : Nat} (h : x < 2 ^ i) : ∀ d, img g x (i + d) = img g x i
  | 0 => rfl
  | d + 1 => by rw [← Nat.add_assoc, img, testBit_of_ge h (by omega), img_low h d]; simp
theorem img_top {g : Nat → Nat} {x i : Nat} (h : x < 2 ^ i) : img g (2 ^ i + x) (i + 1) = img g x i ^^^ g i := by
  have e : (2 ^ i + x).testBit i = true := by rw [Nat.testBit_two_pow_add_eq, testBit_of_ge h (Nat.le_refl _)]; rfl
  rw [img, e, if_pos rfl]
  congr 1
  exact img_congr_x (fun j hj => by rw [Nat.testBit_two_pow_add_gt hj])
/-! a list of numbers, each made less by those before it -/
def red : List Nat → Nat → Nat
  | [], x => x
  | b :: t, x => red t (min x (x ^^^ b))
/-- c has not the leading bit of b -/
def Clear (b c : Nat) : Prop := min c (c ^^^ b) = c
theorem min_lt {x b : Nat} (hx : x < 32) (hb : b < 32) : min x (x ^^^ b) < 32 := Nat.lt_of_le_of_lt (Nat.min_le_left _ _) hx
theorem clear_xor : ∀ b, b < 32 → ∀ x, x < 32 → ∀ c, c < 32 → (min c (c ^^^ b) = c → min (x ^^^ c) ((x ^^^ c) ^^^ b) = min x (x ^^^ b) ^^^ c) :=
  allB_dec3 (P := fun b x c => min c (c ^^^ b) = c → min (x ^^^ c) ((x ^^^ c) ^^^ b) = min x (x ^^^ b) ^^^ c) (by decide +kernel)
theorem clear_self : ∀ b, b < 32 → ∀ x, x < 32 → (min (min x (x ^^^ b)) (min x (x ^^^ b) ^^^ b) = min x (x ^^^ b) ∧ min (x ^^^ b) ((x ^^^ b) ^^^ b) = min x (x ^^^ b)) :=
  allB_dec2 (P := fun b x => min (min x (x ^^^ b)) (min x (x ^^^ b) ^^^ b) = min x (x ^^^ b) ∧ min (x ^^^ b) ((x ^^^ b) ^^^ b) = min x (x ^^^ b)) (by decide +kernel)
theorem x32 {a b : Nat} (ha : a < 32) (hb : b < 32) : a ^^^ b < 32 := Nat.xor_lt_two_pow (n := 5) ha hb
theorem red_lt : ∀ {l : List Nat} {x : Nat}, (∀ b ∈ l, b < 32) → x < 32 → red l x < 32
  | [], _, _, hx => hx
  | b :: t, x, h, hx => red_lt (l := t) (fun c hc => h c (List.mem_cons_of_mem _ hc)) (min_lt hx (h b List.mem_cons_self))
theorem red_append : ∀ (l : List Nat) (r x : Nat), red (l ++ [r]) x = min (red l x) (red l x ^^^ r)
  | [], _, _ => rfl
  | b :: t, r, x => by rw [List.cons_append, red, red_append t r]; rfl
/-- what a list takes away is a sum of the list's own -/
theorem red_diff {P : Nat → Prop} (hz : P 0) (hx : ∀ a b, P a → P b → P (a ^^^ b)) : ∀ {l : List Nat} {x : Nat}, (∀ b ∈ l, P b) → P (red l x ^^^ x)
  | [], x, _ => by rw [red, Nat.xor_self]; exact hz
  | b :: t, x, h => by
    have ih := red_diff hz hx (l := t) (x := min x (x ^^^ b)) (fun c hc => h c (List.mem_cons_of_mem _ hc))
    rw [red]
    by_cases e : x ≤ x ^^^ b
    · rw [Nat.min_eq_left e] at ih ⊢; exact ih
    · rw [Nat.min_eq_right (by omega)] at ih ⊢
      have := hx _ _ ih (h b List.mem_cons_self)
      rw [Nat.xor_assoc, Nat.xor_assoc, Nat.xor_self, Nat.xor_zero] at this
      exact this
theorem red_inv : ∀ {l : List Nat} {c y : Nat}, (∀ b ∈ l, b < 32) → l.Pairwise Clear → c ∈ l → y < 32 → red l (y ^^^ c) = red l y
  | b :: t, c, y, hl, hp, hc, hy => by
    have hb := hl b List.mem_cons_self
    have ht : ∀ c ∈ t, c < 32 := fun c hc => hl c (List.mem_cons_of_mem _ hc)
    obtain ⟨hp1, hp2⟩ := List.pairwise_cons.mp hp
    rw [red, red]
    rcases List.mem_cons.mp hc with rfl | hc'
    · rw [(clear_self _ hb _ hy).2]
    · rw [clear_xor _ hb _ hy _ (ht _ hc') (hp1 _ hc')]
      exact red_inv ht hp2 hc' (min_lt hy hb)
theorem red_keeps : ∀ {l : List Nat} {b y : Nat}, b < 32 → y < 32 → (∀ c ∈ l, c < 32) → (∀ c ∈ l, Clear b c) → Clear b y → Clear b (red l y)
  | [], _, _, _, _, _, _, h => h
  | c :: t, b, y, hb, hy, hl, hc, h => by
    have hc32 := hl c List.mem_cons_self
    rw [red]
    refine red_keeps hb (min_lt hy hc32) (fun d hd => hl d (List.mem_cons_of_mem _ hd)) (fun d hd => hc d (List.mem_cons_of_mem _ hd)) ?_
    by_cases e : y ≤ y ^^^ c
    · rw [Nat.min_eq_left e]; exact h
    · rw [Nat.min_eq_right (by omega)]
      unfold Clear
      rw [clear_xor _ hb _ hy _ hc32 (hc c List.mem_cons_self), h]
theorem red_clear : ∀ {l : List Nat} {y : Nat}, (∀ b ∈ l, b < 32) → l.Pairwise Clear → y < 32 → ∀ b ∈ l, Clear b (red l y)
  | b :: t, y, hl, hp, hy, c, hc => by
    have hb := hl b List.mem_cons_self
    have ht : ∀ c ∈ t, c < 32 := fun c hc => hl c (List.mem_cons_of_mem _ hc)
    obtain ⟨hp1, hp2⟩ := List.pairwise_cons.mp hp
    rw [red]
    rcases List.mem_cons.mp hc with rfl | hc'
    · exact red_keeps hb (min_lt hy hb) ht hp1 (clear_self _ hb _ hy).1
    · exact red_clear ht hp2 (min_lt hy hb) c hc'

/-- the list after i columns -/
def basis (g : Nat → Nat) : Nat → List Nat
  | 0 => []
  | i + 1 => if red (basis g i) (g i) > 0 then basis g i ++ [red (basis g i) (g i)] else basis g i
theorem basis_le (g : Nat → Nat) : ∀ i, (basis g i).length ≤ i
  | 0 => Nat.le_refl _
  | i + 1 => by have := basis_le g i; rw [basis]; split <;> simp <;> omega
theorem basis_step {g : Nat → Nat} {i : Nat} (h : (basis g (i + 1)).length = i + 1) : (basis g i).length = i ∧ red (basis g i) (g i) > 0 := by
  have h1 := basis_le g i
  rw [basis] at h
  by_cases hr : red (basis g i) (g i) > 0
  · rw [if_pos hr] at h; simp at h; exact ⟨h, hr⟩
  · rw [if_neg hr] at h; omega
/-- what the list after i columns is, if each of them gave one -/
structure Tri (g : Nat → Nat) (i : Nat) : Prop where
  lt : ∀ b ∈ basis g i, b < 32
  pw : (basis g i).Pairwise Clear
  inn : ∀ b ∈ basis g i, ∃ x, x < 2 ^ i ∧ b = img g x i
  same : ∀ j, j < i → ∀ y, y < 32 → red (basis g i) (y ^^^ g j) = red (basis g i) y
theorem xor_mid (a b c : Nat) : a ^^^ (b ^^^ c) = a ^^^ b ^^^ c := (Nat.xor_assoc a b c).symm
theorem xor_back (a b : Nat) : a ^^^ (a ^^^ b) = b := by rw [← Nat.xor_assoc, Nat.xor_self, Nat.zero_xor]
theorem Tri.step {g : Nat → Nat} {i : Nat} (hg : ∀ j, j ≤ i → g j < 32) (T : Tri g i) (hr : red (basis g i) (g i) > 0) : Tri g (i + 1) := by
  have hgi := hg i (Nat.le_refl _)
  have hrl := red_lt T.lt hgi
  have hb : basis g (i + 1) = basis g i ++ [red (basis g i) (g i)] := by rw [basis, if_pos hr]
  have hcl := red_clear T.lt T.pw hgi
  have hd := red_diff (P := fun v => ∃ x, x < 2 ^ i ∧ v = img g x i) ⟨0, Nat.two_pow_pos _, (img_zero g i).symm⟩ (fun a b ⟨x, hx, ea⟩ ⟨y, hy, eb⟩ => ⟨x ^^^ y, Nat.xor_lt_two_pow hx hy, by rw [img_xor, ← ea, ← eb]⟩) (l := basis g i) (x := g i) T.inn
  have hlt : ∀ b ∈ basis g (i + 1), b < 32 := fun b hb' => by
    rw [hb] at hb'
    rcases List.mem_append.mp hb' with h | h
    · exact T.lt b h
    · rw [List.mem_singleton.mp h]; exact hrl
  have hpw : (basis g (i + 1)).Pairwise Clear := by
    rw [hb, List.pairwise_append]
    exact ⟨T.pw, List.pairwise_singleton _ _, fun b hb' c hc => by rw [List.mem_singleton.mp hc]; exact hcl b hb'⟩
  refine ⟨hlt, hpw, ?_, ?_⟩
  · intro b hb'
    rw [hb] at hb'
    rcases List.mem_append.mp hb' with h | h
    · obtain ⟨x, hx, e⟩ := T.inn b h
      exact ⟨x, Nat.lt_of_lt_of_le hx (Nat.pow_le_pow_right (by decide) (by omega)), by rw [e, img_low hx 1]⟩
    · rw [List.mem_singleton.mp h]
      obtain ⟨x, hx, e⟩ := hd
      refine ⟨2 ^ i + x, by rw [Nat.pow_succ]; omega, ?_⟩
      rw [img_top hx, ← e, Nat.xor_assoc, Nat.xor_self, Nat.xor_zero]
  · intro j hj y hy
    by_cases e : j = i
    · subst e
      have hq := red_diff (P := fun v => v < 32 ∧ ∀ y, y < 32 → red (basis g (j + 1)) (y ^^^ v) = red (basis g (j + 1)) y) ⟨by decide, fun y _ => by rw [Nat.xor_zero]⟩
        (fun a b ⟨ha, h1⟩ ⟨hb, h2⟩ => ⟨x32 ha hb, fun y hy => by rw [xor_mid, h2 _ (x32 hy ha), h1 _ hy]⟩) (l := basis g j) (x := g j)
        (fun b hb' => ⟨T.lt b hb', fun y hy => red_inv hlt hpw (by rw [hb]; exact List.mem_append_left _ hb') hy⟩)
      obtain ⟨q1, q2⟩ := hq
      have hrr : red (basis g (j + 1)) (y ^^^ red (basis g j) (g j)) = red (basis g (j + 1)) y := red_inv hlt hpw (by rw [hb]; exact List.mem_append_right _ List.mem_cons_self) hy
      rw [← hrr, ← q2 _ (x32 hy hrl)]
      congr 1
      rw [Nat.xor_assoc, xor_back]
    · rw [hb, red_append, red_append, T.same j (by omega) y hy]
theorem Tri.of {g : Nat → Nat} : ∀ {i : Nat}, (∀ j, j < i → g j < 32) → (basis g i).length = i → Tri g i
  | 0, _, _ => ⟨by simp [basis], by simp [basis], by simp [basis], fun j hj => by omega⟩
  | i + 1, hg, h => by
    obtain ⟨h1, h2⟩ := basis_step h
    exact (Tri.of (fun j hj => hg j (by omega)) h1).step (fun j hj => hg j (by omega)) h2
/-- columns are independent: no sum of some of them is 0 -/
def Indep (g : Nat → Nat) (n : Nat) : Prop := ∀ x, 1 ≤ x → x < 2 ^ n → img g x n ≠ 0
theorem Indep.inj {g : Nat → Nat} {n x y : Nat} (h : Indep g n) (hx : x < 2 ^ n) (hy : y < 2 ^ n) (e : img g x n = img g y n) : x = y := by
  have h1 : img g (x ^^^ y) n = 0 := by rw [img_xor, e, Nat.xor_self]
  by_cases hz : x ^^^ y = 0
  · have := congrArg (fun v => x ^^^ v) hz
    simp only [xor_back, Nat.xor_zero] at this
    exact this.symm
  · exact absurd h1 (h _ (by omega) (Nat.xor_lt_two_pow hx hy))

end Go.Proofs.Ythekbiofjhkecaa.M
namespace Go.Proofs.Ythekbiofjhkecaa.M
open Go.RowKit Go.Proofs.YthekbiofjhkecaaW.PrintWords Go.Proofs.YthekbiofjhkecaaW.PrintLast Go.Proofs.YthekbiofjhkecaaW.PrintMore
set_option linter.unusedVariables false
set_option linter.unusedSimpArgs false

theorem Ev.since {α : Type} {g : Nat → Option α} {r : α} (K : Nat) (h : ∀ k, K ≤ k → g k = some r) : Ev g r := ⟨K, h⟩
/-- a loop that ends with r at a bad place, of which there is one -/
theorem Ev.bad {α : Type} (F : Nat → Nat → Option α) (N : Nat) (r : α) (ok : Nat → Bool)
    (hs : ∀ i, i < N → ok i = true → Ev (fun k => F k (i + 1)) r → Ev (fun k => F k i) r) (hb : ∀ i, i < N → ok i = false → Ev (fun k => F k i) r) :
    ∀ d i, i + d = N → (∃ j, i ≤ j ∧ j < N ∧ ok j = false) → Ev (fun k => F k i) r := by
  intro d
  induction d with
  | zero => intro i hi ⟨j, h1, h2, _⟩; omega
  | succ d ih =>
    intro i hi ⟨j, h1, h2, h3⟩
    cases e : ok i with
    | false => exact hb i (by omega) e
    | true =>
      refine hs i (by omega) e (ih (i + 1) (by omega) ⟨j, ?_, h2, h3⟩)
      by_cases h : j = i
      · subst h; rw [h3] at e; cases e
      · omega
theorem rd_nat (l : List Int) (i : Nat) : rd l (i : Int) = l.getD i 0 := by simp [rd]
end Go.Proofs.Ythekbiofjhkecaa.M
namespace Go.Proofs.Ythekbiofjhkecaa.M
open Go.RowKit Go.Proofs.YthekbiofjhkecaaW.PrintWords Go.Proofs.YthekbiofjhkecaaW.PrintLast
set_option linter.unusedVariables false
set_option linter.unusedSimpArgs false

theorem allB_ex {p : Nat → Bool} : ∀ {n : Nat}, allB n p = false → ∃ j, j < n ∧ p j = false
  | 0, h => by cases h
  | n + 1, h => by
    rw [allB] at h
    cases e : p n with
    | false => exact ⟨n, by omega, e⟩
    | true =>
      rw [e, Bool.true_and] at h
      obtain ⟨j, h1, h2⟩ := allB_ex h
      exact ⟨j, by omega, h2⟩
/-- a loop that goes on where ok holds and answers bad where not -/
theorem Ev.all {α : Type} (F : Nat → Nat → Option α) (N : Nat) (ok : Nat → Bool) (good bad : α)
    (hs : ∀ i, i < N → ok i = true → ∀ r, Ev (fun k => F k (i + 1)) r → Ev (fun k => F k i) r) (hb : ∀ i, i < N → ok i = false → Ev (fun k => F k i) bad) (he : Ev (fun k => F k N) good) :
    Ev (fun k => F k 0) (if allB N ok = true then good else bad) := by
  cases h : allB N ok with
  | true =>
    exact Ev.count F N good (fun i hi hn => hs i hi (allB_of h i hi) good hn) he N 0 (by omega)
  | false =>
    obtain ⟨j, h1, h2⟩ := allB_ex h
    exact Ev.bad F N bad ok (fun i hi ho hn => hs i hi ho bad hn) hb N 0 (by omega) ⟨j, by omega, h1, h2⟩
end Go.Proofs.Ythekbiofjhkecaa.M
namespace Go.Proofs.Ythekbiofjhkecaa.M
open Go.RowKit Go.Proofs.YthekbiofjhkecaaW.PrintWords Go.Proofs.YthekbiofjhkecaaW.PrintLast
set_option linter.unusedVariables false
set_option linter.unusedSimpArgs false

/-- a table whose variables from the last one on are fixed, if they lie in m, to the bits of u: how many variables it has, and its word -/
def cutS (n v m u : Nat) : Nat → Nat × Nat
  | 0 => (n, v)
  | d + 1 => if m.testBit (n - 1 - d) = true then ((cutS n v m u d).1 - 1, rstW (cutS n v m u d).1 (cutS n v m u d).2 (n - 1 - d) (u.testBit (n - 1 - d)).toNat) else cutS n v m u d
/-- the words of the subcubes of the variables m, by their values below u -/
def cutRow (n v m : Nat) : Nat → List Nat
  | 0 => []
  | u + 1 => if andn u m = 0 then cutRow n v m u ++ [(cutS n v m u n).2] else cutRow n v m u
/-- the words of all subcubes with k free variables, by their sets of variables below m -/
def cutAll (n v k : Nat) : Nat → List Nat
  | 0 => []
  | m + 1 => if pc m + k = n then cutAll n v k m ++ cutRow n v m (2 ^ n) else cutAll n v k m
theorem cut_ok {n v m u : Nat} (hn : n ≤ 4) (hv : v < 2 ^ 2 ^ n) : ∀ d, d ≤ n → n - d ≤ (cutS n v m u d).1 ∧ (cutS n v m u d).1 ≤ n ∧ (cutS n v m u d).2 < 2 ^ 2 ^ (cutS n v m u d).1
  | 0, _ => ⟨by simp [cutS], by simp [cutS], hv⟩
  | d + 1, hd => by
    obtain ⟨h1, h2, h3⟩ := cut_ok (m := m) (u := u) hn hv d (by omega)
    rw [cutS]
    split
    · exact ⟨by simp only []; omega, by simp only []; omega, prefW_lt _ _⟩
    · exact ⟨by omega, h2, h3⟩
/-- how many variables are left -/
def cutLeft (n m : Nat) : Nat → Nat
  | 0 => n
  | d + 1 => if m.testBit (n - 1 - d) = true then cutLeft n m d - 1 else cutLeft n m d
theorem cut_left (n v m u : Nat) : ∀ d, (cutS n v m u d).1 = cutLeft n m d
  | 0 => rfl
  | d + 1 => by
    rw [cutS, cutLeft, ← cut_left n v m u d]
    split <;> rfl
theorem left_all : ∀ n, n < 5 → ∀ m, m < 16 → m < 2 ^ n → cutLeft n m n + pc m = n :=
  allB_dec2 (P := fun n m => m < 2 ^ n → cutLeft n m n + pc m = n) (by decide +kernel)
theorem pow16 {n : Nat} (h : n ≤ 4) : 2 ^ n ≤ 16 := Nat.pow_le_pow_right (n := 2) (by decide) h
theorem cut_word {n v m u k : Nat} (hn : n ≤ 4) (hv : v < 2 ^ 2 ^ n) (hm : m < 2 ^ n) (hk : pc m + k = n) : (cutS n v m u n).1 = k ∧ (cutS n v m u n).2 < 2 ^ 2 ^ k := by
  have h16 := pow16 hn
  have h1 := cut_left n v m u n
  have h2 := left_all n (by omega) m (by omega) hm
  have h3 := (cut_ok (m := m) (u := u) hn hv n (Nat.le_refl _)).2.2
  have e : (cutS n v m u n).1 = k := by omega
  rw [e] at h3
  exact ⟨e, h3⟩

/-! the same from the first variable on -/
def cutStep (m u i : Nat) (s : Nat × Nat) : Nat × Nat := if m.testBit i = true then (s.1 - 1, rstW s.1 s.2 i (u.testBit i).toNat) else s
def cutF (m u : Nat) : Nat → Nat × Nat → Nat × Nat
  | 0, s => s
  | i + 1, s => cutF m u i (cutStep m u i s)
theorem cutF_S (n v m u : Nat) : ∀ d, d ≤ n → cutF m u (n - d) (cutS n v m u d) = cutF m u n (n, v)
  | 0, _ => rfl
  | d + 1, h => by
    rw [← cutF_S n v m u d (by omega), show n - d = (n - 1 - d) + 1 by omega, cutF, show n - (d + 1) = n - 1 - d by omega]
    congr 1
theorem cutS_F (n v m u : Nat) : cutS n v m u n = cutF m u n (n, v) := by
  have := cutF_S n v m u n (Nat.le_refl _)
  rw [Nat.sub_self] at this
  exact this
/-- does an input agree with u on the first i variables of m -/
def agr (m u i y : Nat) : Bool := (y &&& (m % 2 ^ i)) == u % 2 ^ i
theorem low_and (y m i : Nat) : (y % 2 ^ i) &&& (m % 2 ^ i) = y &&& (m % 2 ^ i) := by
  apply Nat.eq_of_testBit_eq; intro j
  simp only [Nat.testBit_and, Nat.testBit_mod_two_pow]
  by_cases h : j < i <;> simp [h]
theorem agr_congr {m u i y z : Nat} (h : y % 2 ^ i = z % 2 ^ i) : agr m u i y = agr m u i z := by
  unfold agr
  rw [← low_and y m i, ← low_and z m i, h]
theorem agr_succ (m u i y : Nat) (hm : m.testBit i = true) : agr m u (i + 1) y = (agr m u i y && (y.testBit i == u.testBit i)) := by
  have key : (y &&& (m % 2 ^ (i + 1)) = u % 2 ^ (i + 1)) ↔ (y &&& (m % 2 ^ i) = u % 2 ^ i ∧ y.testBit i = u.testBit i) := by
    constructor
    · intro h
      constructor
      · apply Nat.eq_of_testBit_eq; intro j
        have hj := congrArg (fun x => x.testBit j) h
        simp only [Nat.testBit_and, Nat.testBit_mod_two_pow] at hj ⊢
        by_cases h1 : j < i
        · simpa [h1, show j < i + 1 by omega] using hj
        · simp [h1]
      · have hj := congrArg (fun x => x.testBit i) h
        simp only [Nat.testBit_and, Nat.testBit_mod_two_pow] at hj
        simpa [hm] using hj
    · rintro ⟨h1, h2⟩
      apply Nat.eq_of_testBit_eq; intro j
      have hj := congrArg (fun x => x.testBit j) h1
      simp only [Nat.testBit_and, Nat.testBit_mod_two_pow] at hj ⊢
      by_cases h3 : j < i
      · simpa [h3, show j < i + 1 by omega] using hj
      · by_cases h4 : j = i
        · subst h4; simp [hm, h2]
        · simp [show ¬ j < i + 1 by omega]
  unfold agr
  rw [Bool.eq_iff_iff, Bool.and_eq_true, beq_iff_eq, beq_iff_eq, beq_iff_eq]
  exact key
theorem agr_skip (m u i y : Nat) (hm : m.testBit i = false) (hu : u.testBit i = false) : agr m u (i + 1) y = agr m u i y := by
  have e : ∀ x : Nat, x.testBit i = false → x % 2 ^ (i + 1) = x % 2 ^ i := fun x hx => by
    apply Nat.eq_of_testBit_eq; intro j
    simp only [Nat.testBit_mod_two_pow]
    by_cases h1 : j < i
    · simp [h1, show j < i + 1 by omega]
    · by_cases h2 : j = i
      · subst h2; simp [hx]
      · simp [h1, show ¬ j < i + 1 by omega]
  unfold agr
  rw [e m hm, e u hu]
theorem ins_low : ∀ z, z < 16 → ∀ i, i < 5 → ∀ c, c < 2 → ins z i c % 2 ^ i = z % 2 ^ i :=
  allB_dec3 (P := fun z i c => ins z i c % 2 ^ i = z % 2 ^ i) (by decide +kernel)
theorem ins_list : ∀ b, b < 5 → ∀ i, i < 4 → ∀ c, c < 2 → i < b → (List.range (2 ^ (b - 1))).map (fun z => ins z i c) = (List.range (2 ^ b)).filter (fun y => y.testBit i == decide (c = 1)) :=
  allB_dec3 (P := fun b i c => i < b → (List.range (2 ^ (b - 1))).map (fun z => ins z i c) = (List.range (2 ^ b)).filter (fun y => y.testBit i == decide (c = 1))) (by decide +kernel)
/-- the values of a word, in order -/
def vals (b w : Nat) : List Bool := (List.range (2 ^ b)).map w.testBit
theorem cut_vals {m u : Nat} (hum : andn u m = 0) : ∀ (i b w : Nat), i ≤ b → b ≤ 4 → vals (cutF m u i (b, w)).1 (cutF m u i (b, w)).2 = ((List.range (2 ^ b)).filter (agr m u i)).map w.testBit
  | 0, b, w, _, _ => by
    have e : agr m u 0 = fun _ => true := by funext y; simp [agr, Nat.mod_one]
    rw [cutF, e, List.filter_eq_self.mpr (fun _ _ => rfl)]; rfl
  | i + 1, b, w, hi, hb => by
    have hui : m.testBit i = false → u.testBit i = false := fun h => by
      have h1 := testBit_andn u m i
      rw [hum, Nat.zero_testBit, h] at h1
      revert h1; cases u.testBit i <;> simp
    rw [cutF, cutStep]
    cases hm : m.testBit i with
    | false =>
      rw [if_neg (by decide), cut_vals hum i b w (by omega) hb]
      congr 2
      funext y
      exact (agr_skip m u i y hm (hui hm)).symm
    | true =>
      rw [if_pos rfl, cut_vals hum i (b - 1) _ (by omega) (by omega)]
      have ht := toNat_lt (u.testBit i)
      have hl := ins_list b (by omega) i (by omega) (u.testBit i).toNat ht (by omega)
      have hc : decide ((u.testBit i).toNat = 1) = u.testBit i := by cases u.testBit i <;> rfl
      rw [hc] at hl
      have h8 : 2 ^ (b - 1) ≤ 16 := pow16 (by omega)
      have e1 : ((List.range (2 ^ (b - 1))).filter (agr m u i)).map (rstW b w i (u.testBit i).toNat).testBit = ((List.range (2 ^ (b - 1))).filter (agr m u i)).map (fun z => w.testBit (ins z i (u.testBit i).toNat)) := by
        apply List.map_congr_left
        intro z hz
        have hz2 := List.mem_range.mp (List.mem_filter.mp hz).1
        unfold rstW
        rw [testBit_prefW, decide_eq_true hz2, Bool.true_and]
      have e2 : ((List.range (2 ^ (b - 1))).filter (agr m u i)) = ((List.range (2 ^ (b - 1))).filter (fun z => agr m u i (ins z i (u.testBit i).toNat))) := by
        apply List.filter_congr
        intro z hz
        have hz2 := List.mem_range.mp hz
        exact (agr_congr (ins_low z (by omega) i (by omega) _ ht)).symm
      have e3 : ((List.range (2 ^ (b - 1))).filter (fun z => agr m u i (ins z i (u.testBit i).toNat))).map (fun z => ins z i (u.testBit i).toNat) = ((List.range (2 ^ b)).filter (agr m u (i + 1))) := by
        have := List.filter_map (f := fun z => ins z i (u.testBit i).toNat) (p := agr m u i) (l := List.range (2 ^ (b - 1)))
        show List.map _ (List.filter (agr m u i ∘ fun z => ins z i (u.testBit i).toNat) _) = _
        rw [← this, hl, List.filter_filter]
        apply List.filter_congr
        intro y _
        exact (agr_succ m u i y hm).symm
      rw [e1, e2, ← e3, List.map_map]
      rfl
theorem cube_vals {n v m u k : Nat} (hn : n ≤ 4) (hv : v < 2 ^ 2 ^ n) (hm : m < 2 ^ n) (hk : pc m + k = n) (hu : u < 2 ^ n) (hum : andn u m = 0) : vals k (cutS n v m u n).2 = ((List.range (2 ^ n)).filter (fun x => x &&& m == u)).map v.testBit := by
  have h := cut_vals hum n n v (Nat.le_refl _) hn
  rw [← cutS_F, (cut_word hn hv hm hk).1] at h
  rw [h]
  congr 2
  funext x
  unfold agr
  rw [Nat.mod_eq_of_lt hm, Nat.mod_eq_of_lt hu]
/-- sets beyond m have no row -/
theorem cutRow_stop {n v m : Nat} : ∀ d, cutRow n v m (m + 1 + d) = cutRow n v m (m + 1)
  | 0 => rfl
  | d + 1 => by
    rw [← Nat.add_assoc, cutRow, cutRow_stop d, if_neg (fun e => ?_)]
    have h := subset_iff.mpr e
    have : (m + 1 + d) &&& m ≤ m := Nat.and_le_right
    omega
theorem cutRow_full {n v m : Nat} (hm : m < 2 ^ n) : cutRow n v m (2 ^ n) = cutRow n v m (m + 1) := by
  have := cutRow_stop (n := n) (v := v) (m := m) (2 ^ n - (m + 1))
  rw [show m + 1 + (2 ^ n - (m + 1)) = 2 ^ n by omega] at this
  exact this
theorem cutRow_len (n v m : Nat) : ∀ u, (cutRow n v m u).length ≤ u
  | 0 => by simp [cutRow]
  | u + 1 => by
    have := cutRow_len n v m u
    rw [cutRow]; split <;> simp <;> omega
theorem cutAll_len {n v k : Nat} (hn : n ≤ 4) : ∀ m, m ≤ 2 ^ n → (cutAll n v k m).length ≤ m * 16
  | 0, _ => by simp [cutAll]
  | m + 1, h => by
    have h1 := cutAll_len (v := v) (k := k) hn m (by omega)
    have h2 := cutRow_len n v m (2 ^ n)
    have := pow16 hn
    rw [cutAll]; split
    · rw [List.length_append]; omega
    · omega
theorem cutAll_lt {n v k : Nat} (hn : n ≤ 4) (hv : v < 2 ^ 2 ^ n) : ∀ m, m ≤ 2 ^ n → ∀ x ∈ cutAll n v k m, x < 2 ^ 2 ^ k
  | 0, _, x, h => by simp [cutAll] at h
  | m + 1, hm, x, h => by
    rw [cutAll] at h
    split at h
    · rename_i hk
      rcases List.mem_append.mp h with h | h
      · exact cutAll_lt hn hv m (by omega) x h
      · have key : ∀ u, ∀ x ∈ cutRow n v m u, x < 2 ^ 2 ^ k := by
          intro u
          induction u with
          | zero => intro x h; simp [cutRow] at h
          | succ u ih =>
            intro x h
            rw [cutRow] at h
            split at h
            · rcases List.mem_append.mp h with h | h
              · exact ih x h
              · rw [List.mem_singleton] at h; rw [h]; exact (cut_word hn hv (by omega) hk).2
            · exact ih x h
        exact key _ x h
    · exact cutAll_lt hn hv m (by omega) x h
/-! lists of values -/
/-- the value of a list, 2 if there are two, behind a first one -/
def cubeGo (first : Int) : List Bool → Int
  | [] => first
  | b :: t => if first ≥ 0 then (if first = ((b.toNat : Nat) : Int) then cubeGo ((b.toNat : Nat) : Int) t else 2) else cubeGo ((b.toNat : Nat) : Int) t
theorem cubeGo_nat (c : Bool) : ∀ l : List Bool, cubeGo ((c.toNat : Nat) : Int) l = if l.all (· == c) = true then ((c.toNat : Nat) : Int) else 2
  | [] => rfl
  | b :: t => by
    have ih := cubeGo_nat b t
    rw [cubeGo, if_pos (Int.natCast_nonneg _), List.all_cons]
    by_cases h : b = c
    · subst h
      rw [if_pos rfl, ih]; simp
    · rw [if_neg (by cases b <;> cases c <;> simp_all)]
      have : (b == c) = false := beq_eq_false_iff_ne.mpr h
      rw [this, Bool.false_and, if_neg (by decide)]
theorem cubeGo_lt (l : List Bool) (hl : l ≠ []) : (cubeGo (-1) l < 2) ↔ (l.all (· == true) = true ∨ l.all (· == false) = true) := by
  cases l with
  | nil => exact absurd rfl hl
  | cons b t =>
    rw [cubeGo, if_neg (by decide), cubeGo_nat, List.all_cons, List.all_cons]
    cases b
    · show _ ↔ (false && _) = true ∨ (true && _) = true
      rw [Bool.false_and, Bool.true_and]
      by_cases h : t.all (· == false) = true
      · rw [if_pos h]; exact ⟨fun _ => .inr h, fun _ => by decide⟩
      · rw [if_neg h]; exact ⟨fun e => absurd e (by decide), fun e => absurd (e.resolve_left (by decide)) h⟩
    · show _ ↔ (true && _) = true ∨ (false && _) = true
      rw [Bool.false_and, Bool.true_and]
      by_cases h : t.all (· == true) = true
      · rw [if_pos h]; exact ⟨fun _ => .inl h, fun _ => by decide⟩
      · rw [if_neg h]; exact ⟨fun e => absurd e (by decide), fun e => absurd (e.resolve_right (by decide)) h⟩
theorem vals_ne (b w : Nat) : vals b w ≠ [] := by
  intro h
  have := congrArg List.length h
  simp [vals] at this
theorem vals_true {b w : Nat} (hw : w < 2 ^ 2 ^ b) : ((vals b w).all (· == true) = true) ↔ w = 2 ^ 2 ^ b - 1 := by
  unfold vals
  rw [List.all_map, List.all_eq_true]
  constructor
  · intro h
    apply word_ext hw (by have := Nat.two_pow_pos (2 ^ b); omega)
    intro i hi
    rw [Nat.testBit_two_pow_sub_one, decide_eq_true hi]
    have := h i (List.mem_range.mpr hi)
    simpa using this
  · intro h x hx
    have hx := List.mem_range.mp hx
    rw [h]
    show ((2 ^ 2 ^ b - 1).testBit x == true) = true
    rw [Nat.testBit_two_pow_sub_one, decide_eq_true hx]; rfl
theorem vals_false {b w : Nat} (hw : w < 2 ^ 2 ^ b) : ((vals b w).all (· == false) = true) ↔ w = 0 := by
  unfold vals
  rw [List.all_map, List.all_eq_true]
  constructor
  · intro h
    apply word_ext hw (Nat.two_pow_pos _)
    intro i hi
    rw [Nat.zero_testBit]
    have := h i (List.mem_range.mpr hi)
    simpa using this
  · intro h x hx
    rw [h]
    show ((0 : Nat).testBit x == false) = true
    rw [Nat.zero_testBit]; rfl
theorem cube_const {k w : Nat} (hw : w < 2 ^ 2 ^ k) : (cubeGo (-1) (vals k w) < 2) ↔ (w = 0 ∨ w = 2 ^ 2 ^ k - 1) := by
  rw [cubeGo_lt _ (vals_ne k w), vals_true hw, vals_false hw, Or.comm]
theorem cnt_filter (g : Nat → Bool) : ∀ m, cnt g m = ((List.range m).filter g).length
  | 0 => rfl
  | m + 1 => by
    rw [cnt, cnt_filter g m, List.range_succ, List.filter_append, List.length_append]
    cases h : g m <;> simp [h]
theorem pc_vals {k w : Nat} (hk : k ≤ 5) (hw : w < 2 ^ 2 ^ k) : pc w = ((vals k w).filter id).length := by
  have h5 := pow_le_5 hk
  unfold pc vals
  rw [show 32 = 2 ^ k + (32 - 2 ^ k) by omega, pc_of_lt hw, cnt_filter, List.filter_map, List.length_map]
  rfl
/-- how many ones lie in a subcube -/
theorem cube_ones {n v m u k : Nat} (hn : n ≤ 4) (hv : v < 2 ^ 2 ^ n) (hm : m < 2 ^ n) (hk : pc m + k = n) (hu : u < 2 ^ n) (hum : andn u m = 0) : pc (cutS n v m u n).2 = pc (v &&& prefW (fun x => x &&& m == u) (2 ^ n)) := by
  have h5 := pow16 hn
  have hlt : v &&& prefW (fun x => x &&& m == u) (2 ^ n) < 2 ^ 2 ^ n := Nat.lt_of_le_of_lt Nat.and_le_left hv
  rw [pc_vals (by omega) (cut_word hn hv hm hk).2, cube_vals hn hv hm hk hu hum, List.filter_map, List.length_map, List.filter_filter]
  unfold pc
  rw [show 32 = 2 ^ n + (32 - 2 ^ n) by omega, pc_of_lt hlt, cnt_filter]
  congr 1
  apply List.filter_congr
  intro x hx
  have hx := List.mem_range.mp hx
  rw [Nat.testBit_and, testBit_prefW, decide_eq_true hx, Bool.true_and]
  rfl
end Go.Proofs.Ythekbiofjhkecaa.M
namespace Go.Proofs.Ythekbiofjhkecaa.M
open Go.RowKit Go.Proofs.YthekbiofjhkecaaW.PrintWords Go.Proofs.YthekbiofjhkecaaW.PrintLast
set_option linter.unusedVariables false
set_option linter.unusedSimpArgs false

/-- the inputs of a subcube -/
def inX (n m u : Nat) : List Nat := (List.range (2 ^ n)).filter (fun x => x &&& m == u)
/-- is a table constant on a list of inputs -/
def conL (v : Nat) (l : List Nat) : Bool := decide (cubeGo (-1) (l.map v.testBit) < 2)
/-- the variables below i that m does not hold -/
def frL (i m : Nat) : List Nat := (List.range i).filter (fun i => !m.testBit i)
theorem frL_succ_free {i m : Nat} (h : m.testBit i = false) : frL (i + 1) m = frL i m ++ [i] := by
  unfold frL; rw [List.range_succ, List.filter_append]; simp [h]
theorem frL_succ_held {i m : Nat} (h : m.testBit i = true) : frL (i + 1) m = frL i m := by
  unfold frL; rw [List.range_succ, List.filter_append]; simp [h]
def bestOf (g : Nat → Nat) (b : Nat) (l : List Nat) : Nat := l.foldl (fun b i => min b (1 + g i)) b
theorem bestOf_snoc (g : Nat → Nat) (b : Nat) (l : List Nat) (i : Nat) : bestOf g b (l ++ [i]) = min (bestOf g b l) (1 + g i) := by
  unfold bestOf; rw [List.foldl_append]; rfl
theorem bestOf_le (g : Nat → Nat) : ∀ (l : List Nat) (b : Nat), bestOf g b l ≤ b ∧ ∀ i ∈ l, bestOf g b l ≤ 1 + g i
  | [], b => ⟨Nat.le_refl _, fun i h => by cases h⟩
  | x :: t, b => by
    obtain ⟨h1, h2⟩ := bestOf_le g t (min b (1 + g x))
    have e : bestOf g b (x :: t) = bestOf g (min b (1 + g x)) t := rfl
    rw [e]
    refine ⟨by omega, fun i hi => ?_⟩
    rcases List.mem_cons.mp hi with rfl | hi
    · omega
    · exact h2 i hi
theorem bestOf_init (g : Nat → Nat) : ∀ (l : List Nat) (b c : Nat), b ≤ c → bestOf g b l = min b (bestOf g c l)
  | [], b, c, h => by show b = min b c; omega
  | x :: t, b, c, h => by
    have e : ∀ b, bestOf g b (x :: t) = bestOf g (min b (1 + g x)) t := fun _ => rfl
    rw [e, e, bestOf_init g t (min b (1 + g x)) (min c (1 + g x)) (by omega)]
    have := (bestOf_le g t (min c (1 + g x))).1
    omega
theorem bestOf_two {g : Nat → Nat} {l : List Nat} {b c i : Nat} (hi : i ∈ l) (hb : 1 + g i ≤ b) (hc : 1 + g i ≤ c) : bestOf g b l = bestOf g c l := by
  have h1 := (bestOf_le g l b).2 i hi
  have h2 := (bestOf_le g l c).2 i hi
  rcases Nat.le_total b c with h | h
  · rw [bestOf_init g l b c h]; omega
  · rw [bestOf_init g l c b h]; omega
theorem bestOf_congr {g g' : Nat → Nat} : ∀ (l : List Nat) (b : Nat), (∀ i ∈ l, g i = g' i) → bestOf g b l = bestOf g' b l
  | [], b, h => rfl
  | x :: t, b, h => by
    have e : ∀ g : Nat → Nat, bestOf g b (x :: t) = bestOf g (min b (1 + g x)) t := fun _ => rfl
    rw [e, e, h x (List.mem_cons_self ..)]
    exact bestOf_congr t _ (fun i hi => h i (List.mem_cons_of_mem _ hi))
theorem bestOf_map (g : Nat → Nat) (p : Nat → Nat) : ∀ (l : List Nat) (b : Nat), bestOf g b (l.map p) = bestOf (fun i => g (p i)) b l
  | [], b => rfl
  | x :: t, b => bestOf_map g p t _
/-- the least depth on a subcube: b where nothing is known, d: how many variables are left -/
def ldC (b n v : Nat) : Nat → Nat → Nat → Nat
  | 0, m, u => 0
  | d + 1, m, u => if conL v (inX n m u) = true then 0 else bestOf (fun i => max (ldC b n v d (m ||| 2 ^ i) u) (ldC b n v d (m ||| 2 ^ i) (u ||| 2 ^ i))) b (frL n m)

/-! what is checked of all subcubes of at most four variables -/
def subsOf (n m : Nat) : List Nat := (List.range (2 ^ n)).filter (fun u => andn u m == 0)
theorem mem_subs {n m u : Nat} : u ∈ subsOf n m ↔ u < 2 ^ n ∧ andn u m = 0 := by
  unfold subsOf; rw [List.mem_filter, List.mem_range, beq_iff_eq]
/-- the x-th input of the variables that m does not hold -/
def dpX (n m x : Nat) : Nat := (inX n m 0).getD x 0
def psX (n m i : Nat) : Nat := (frL n m).getD i 0
def allCubes (p : Nat → Nat → Nat → Bool) : Bool := (List.range 5).all fun n => (List.range (2 ^ n)).all fun m => (subsOf n m).all fun u => p n m u
theorem allCubes_of {p : Nat → Nat → Nat → Bool} (h : allCubes p = true) {n m u : Nat} (hn : n ≤ 4) (hm : m < 2 ^ n) (hu : u < 2 ^ n) (hum : andn u m = 0) : p n m u = true := by
  unfold allCubes at h
  have h1 := List.all_eq_true.mp h n (List.mem_range.mpr (by omega))
  have h2 := List.all_eq_true.mp h1 m (List.mem_range.mpr hm)
  exact List.all_eq_true.mp h2 u (mem_subs.mpr ⟨hu, hum⟩)
/-- a free variable's step leads to a subcube with one variable less -/
def stepOk (n m u : Nat) : Bool := ((frL n m).length == n - pc m) && (frL n m).all fun i => decide (m ||| 2 ^ i < 2 ^ n) && (pc (m ||| 2 ^ i) == pc m + 1) && (andn u (m ||| 2 ^ i) == 0) && decide (u ||| 2 ^ i < 2 ^ n) && (andn (u ||| 2 ^ i) (m ||| 2 ^ i) == 0)
theorem stepOk_all : allCubes stepOk = true := by decide +kernel
/-- a full subcube has one input -/
def oneOk (n m u : Nat) : Bool := (pc m != n) || ((inX n m u).length == 1)
theorem oneOk_all : allCubes oneOk = true := by decide +kernel
/-- a subcube of a subcube -/
def inOk (n m u : Nat) : Bool := (List.range (2 ^ (n - pc m))).all fun m' => (subsOf (n - pc m) m').all fun u' =>
  ((inX (n - pc m) m' u').map (fun j => dpX n m j ||| u) == inX n (m ||| dpX n m m') (u ||| dpX n m u')) && decide (m ||| dpX n m m' < 2 ^ n) && decide (u ||| dpX n m u' < 2 ^ n) && (andn (u ||| dpX n m u') (m ||| dpX n m m') == 0) && (pc (m ||| dpX n m m') == pc m + pc m')
theorem inOk_all : allCubes inOk = true := by decide +kernel
def frOk (n m u : Nat) : Bool := (List.range (2 ^ (n - pc m))).all fun m' => (subsOf (n - pc m) m').all fun u' =>
  ((frL (n - pc m) m').map (psX n m) == frL n (m ||| dpX n m m')) && (frL (n - pc m) m').all fun i => ((m ||| dpX n m m') ||| 2 ^ psX n m i == m ||| dpX n m (m' ||| 2 ^ i)) && ((u ||| dpX n m u') ||| 2 ^ psX n m i == u ||| dpX n m (u' ||| 2 ^ i))
theorem frOk_all : allCubes frOk = true := by decide +kernel
/-- the word of a subcube tells the values of its inputs -/
def ixOk (n m u : Nat) : Bool := ((List.range (2 ^ (n - pc m))).map (fun j => dpX n m j ||| u) == inX n m u) && (dpX n m 0 == 0)
theorem ixOk_all : allCubes ixOk = true := by decide +kernel

def neOk (n m u : Nat) : Bool := !(inX n m u).isEmpty
theorem neOk_all : allCubes neOk = true := by decide +kernel
structure Cb (n m u : Nat) : Prop where
  hn : n ≤ 4
  hm : m < 2 ^ n
  hu : u < 2 ^ n
  hum : andn u m = 0
theorem Cb.step {n m u i : Nat} (h : Cb n m u) (hi : i ∈ frL n m) : Cb n (m ||| 2 ^ i) u ∧ Cb n (m ||| 2 ^ i) (u ||| 2 ^ i) ∧ pc (m ||| 2 ^ i) = pc m + 1 := by
  have h1 := allCubes_of stepOk_all h.hn h.hm h.hu h.hum
  unfold stepOk at h1
  rw [Bool.and_eq_true] at h1
  have h2 := List.all_eq_true.mp h1.2 i hi
  simp only [Bool.and_eq_true, beq_iff_eq, decide_eq_true_eq] at h2
  obtain ⟨⟨⟨⟨a, b⟩, c⟩, d⟩, e⟩ := h2
  exact ⟨⟨h.hn, a, h.hu, c⟩, ⟨h.hn, a, d, e⟩, b⟩
theorem Cb.frees {n m u : Nat} (h : Cb n m u) : (frL n m).length = n - pc m := by
  have h1 := allCubes_of stepOk_all h.hn h.hm h.hu h.hum
  unfold stepOk at h1
  rw [Bool.and_eq_true] at h1
  exact beq_iff_eq.mp h1.1
theorem Cb.pc_le {n m u : Nat} (h : Cb n m u) : pc m ≤ n := by
  have := pow16 h.hn; have := left_all n (by have := h.hn; omega) m (by have := h.hm; omega) h.hm; omega
theorem Cb.ne {n m u : Nat} (h : Cb n m u) : inX n m u ≠ [] := by
  have h1 := allCubes_of neOk_all h.hn h.hm h.hu h.hum
  unfold neOk at h1
  intro e
  rw [e] at h1
  cases h1
theorem Cb.con {n m u v : Nat} (h : Cb n m u) (hp : pc m = n) : conL v (inX n m u) = true := by
  have h1 := allCubes_of oneOk_all h.hn h.hm h.hu h.hum
  unfold oneOk at h1
  rw [hp] at h1
  simp only [bne_self_eq_false, Bool.false_or, beq_iff_eq] at h1
  obtain ⟨x, hx⟩ := List.length_eq_one_iff.mp h1
  unfold conL
  rw [hx]
  show decide (cubeGo (-1) [v.testBit x] < 2) = true
  rw [cubeGo, if_neg (by decide), cubeGo]
  cases v.testBit x <;> decide
theorem ldC_le {b n v : Nat} (hb : n ≤ b) : ∀ {d m u : Nat}, Cb n m u → pc m + d = n → ldC b n v d m u ≤ d
  | 0, m, u, _, _ => Nat.le_refl _
  | d + 1, m, u, h, hp => by
    rw [ldC]
    split
    · omega
    · have hf := h.frees
      obtain ⟨i, hi⟩ : ∃ i, i ∈ frL n m := by
        cases hl : frL n m with
        | nil => rw [hl] at hf; simp at hf; omega
        | cons x t => exact ⟨x, List.mem_cons_self ..⟩
      obtain ⟨h1, h2, h3⟩ := h.step hi
      have a1 := ldC_le (v := v) hb (d := d) h1 (by omega)
      have a2 := ldC_le (v := v) hb (d := d) h2 (by omega)
      have := (bestOf_le (fun i => max (ldC b n v d (m ||| 2 ^ i) u) (ldC b n v d (m ||| 2 ^ i) (u ||| 2 ^ i))) (frL n m) b).2 i hi
      omega
/-- what is known of nothing does not matter -/
theorem ldC_init {b c n v : Nat} (hb : n ≤ b) (hc : n ≤ c) : ∀ {d m u : Nat}, Cb n m u → pc m + d = n → ldC b n v d m u = ldC c n v d m u
  | 0, m, u, _, _ => rfl
  | d + 1, m, u, h, hp => by
    rw [ldC, ldC]
    split
    · rfl
    · have hf := h.frees
      obtain ⟨i, hi⟩ : ∃ i, i ∈ frL n m := by
        cases hl : frL n m with
        | nil => rw [hl] at hf; simp at hf; omega
        | cons x t => exact ⟨x, List.mem_cons_self ..⟩
      have e : ∀ i ∈ frL n m, max (ldC b n v d (m ||| 2 ^ i) u) (ldC b n v d (m ||| 2 ^ i) (u ||| 2 ^ i)) = max (ldC c n v d (m ||| 2 ^ i) u) (ldC c n v d (m ||| 2 ^ i) (u ||| 2 ^ i)) := fun i hi => by
        obtain ⟨h1, h2, h3⟩ := h.step hi
        rw [ldC_init hb hc h1 (by omega), ldC_init hb hc h2 (by omega)]
      rw [bestOf_congr _ _ e]
      obtain ⟨h1, h2, h3⟩ := h.step hi
      have a1 := ldC_le (v := v) hc (d := d) h1 (by omega)
      have a2 := ldC_le (v := v) hc (d := d) h2 (by omega)
      exact bestOf_two hi (by omega) (by omega)
/-- the values of the word of a subcube -/
theorem cut_bit {n v m u k : Nat} (h : Cb n m u) (hv : v < 2 ^ 2 ^ n) (hk : pc m + k = n) {j : Nat} (hj : j < 2 ^ k) : (cutS n v m u n).2.testBit j = v.testBit (dpX n m j ||| u) := by
  have h1 := cube_vals h.hn hv h.hm hk h.hu h.hum
  have h2 := allCubes_of ixOk_all h.hn h.hm h.hu h.hum
  unfold ixOk at h2
  rw [Bool.and_eq_true, beq_iff_eq, show n - pc m = k by omega] at h2
  have e : (List.range (2 ^ n)).filter (fun x => x &&& m == u) = inX n m u := rfl
  rw [e, ← h2.1, List.map_map] at h1
  unfold vals at h1
  have h3 := congrArg (fun l => l[j]?) h1
  simp only [List.getElem?_map, List.getElem?_range hj, Option.map_some, Option.some.injEq] at h3
  exact h3
theorem Cb.sub {n m u k m' u' : Nat} (h : Cb n m u) (hk : pc m + k = n) (h' : Cb k m' u') :
    (inX k m' u').map (fun j => dpX n m j ||| u) = inX n (m ||| dpX n m m') (u ||| dpX n m u') ∧ Cb n (m ||| dpX n m m') (u ||| dpX n m u') ∧ pc (m ||| dpX n m m') = pc m + pc m' := by
  have h1 := allCubes_of inOk_all h.hn h.hm h.hu h.hum
  unfold inOk at h1
  rw [show n - pc m = k by omega] at h1
  have h2 := List.all_eq_true.mp h1 m' (List.mem_range.mpr h'.hm)
  have h3 := List.all_eq_true.mp h2 u' (mem_subs.mpr ⟨h'.hu, h'.hum⟩)
  simp only [Bool.and_eq_true, beq_iff_eq, decide_eq_true_eq] at h3
  obtain ⟨⟨⟨⟨a, b⟩, c⟩, d⟩, e⟩ := h3
  exact ⟨a, ⟨h.hn, b, c, d⟩, e⟩
theorem Cb.subf {n m u k m' u' : Nat} (h : Cb n m u) (hk : pc m + k = n) (h' : Cb k m' u') :
    (frL k m').map (psX n m) = frL n (m ||| dpX n m m') ∧ ∀ i ∈ frL k m', (m ||| dpX n m m') ||| 2 ^ psX n m i = m ||| dpX n m (m' ||| 2 ^ i) ∧ (u ||| dpX n m u') ||| 2 ^ psX n m i = u ||| dpX n m (u' ||| 2 ^ i) := by
  have h1 := allCubes_of frOk_all h.hn h.hm h.hu h.hum
  unfold frOk at h1
  rw [show n - pc m = k by omega] at h1
  have h2 := List.all_eq_true.mp h1 m' (List.mem_range.mpr h'.hm)
  have h3 := List.all_eq_true.mp h2 u' (mem_subs.mpr ⟨h'.hu, h'.hum⟩)
  rw [Bool.and_eq_true, beq_iff_eq] at h3
  refine ⟨h3.1, fun i hi => ?_⟩
  have h4 := List.all_eq_true.mp h3.2 i hi
  simp only [Bool.and_eq_true, beq_iff_eq] at h4
  exact h4
theorem conL_cut {n v m u k : Nat} (h : Cb n m u) (hv : v < 2 ^ 2 ^ n) (hk : pc m + k = n) {m' u' : Nat} (h' : Cb k m' u') : conL (cutS n v m u n).2 (inX k m' u') = conL v (inX n (m ||| dpX n m m') (u ||| dpX n m u')) := by
  unfold conL
  rw [← (h.sub hk h').1, List.map_map]
  congr 3
  apply List.map_congr_left
  intro j hj
  unfold inX at hj
  exact cut_bit h hv hk (List.mem_range.mp (List.mem_filter.mp hj).1)
/-- the least depth of a subcube's table is that of the subcube -/
theorem ldC_cut {b n v m u k : Nat} (h : Cb n m u) (hv : v < 2 ^ 2 ^ n) (hk : pc m + k = n) : ∀ {d m' u' : Nat}, Cb k m' u' → pc m' + d = k → ldC b k (cutS n v m u n).2 d m' u' = ldC b n v d (m ||| dpX n m m') (u ||| dpX n m u')
  | 0, m', u', _, _ => rfl
  | d + 1, m', u', h', hp => by
    obtain ⟨f1, f2⟩ := h.subf hk h'
    rw [ldC, ldC, conL_cut h hv hk h', ← f1, bestOf_map]
    split
    · rfl
    · apply bestOf_congr
      intro i hi
      obtain ⟨h1, h2, h3⟩ := h'.step hi
      obtain ⟨e1, e2⟩ := f2 i hi
      have g1 := (h.subf hk h1).2
      rw [e1, e2, ldC_cut h hv hk h1 (by omega), ldC_cut h hv hk h2 (by omega)]
theorem pc_zero : pc 0 = 0 := by decide
theorem Cb.zero {k : Nat} (hk : k ≤ 4) : Cb k 0 0 := ⟨hk, Nat.two_pow_pos _, Nat.two_pow_pos _, rfl⟩
theorem ldC_whole {b c n v m u k : Nat} (hb : k ≤ b) (hb2 : n ≤ c) (h : Cb n m u) (hv : v < 2 ^ 2 ^ n) (hk : pc m + k = n) : ldC b k (cutS n v m u n).2 k 0 0 = ldC c n v k m u := by
  have hk4 : k ≤ 4 := by have := h.hn; omega
  rw [ldC_init hb (show k ≤ c by omega) (Cb.zero hk4) (by rw [pc_zero]; omega), ldC_cut h hv hk (Cb.zero hk4) (by rw [pc_zero]; omega)]
  have h2 := allCubes_of ixOk_all h.hn h.hm h.hu h.hum
  unfold ixOk at h2
  rw [Bool.and_eq_true, beq_iff_eq, beq_iff_eq] at h2
  rw [h2.2, Nat.or_zero, Nat.or_zero]
end Go.Proofs.Ythekbiofjhkecaa.M
namespace Go.Proofs.Ythekbiofjhkecaa.M
open Go Go.ChangeMaps Go.MapKept Go.RowKit Go.Proofs.YthekbiofjhkecaaW.PrintWords Go.Proofs.YthekbiofjhkecaaW.PrintLast
open Go.WideElems (Fit rd rg pl rd_val elemAt)
open Go.Maps (Keyed)
set_option linter.unusedVariables false

/-- block b is a map each of whose entries bears what G asks of it -/
def Memo (P : Program) (k e : TypeId) (G : Value → Value → Prop) (w : World) (b : Nat) : Prop :=
  ∃ es clock, w.heap[b]? = some (.map es clock) ∧ Fit P k (plainElem (H := Unit) P e) es clock ∧ ∀ x ∈ es.toList, G x.key x.val

variable {P : Program} {k e t : TypeId} {G : Value → Value → Prop} {w w' : World} {b : Nat}

theorem Memo.made (w : World) (P : Program) (k e : TypeId) (G : Value → Value → Prop) : Memo P k e G (w.alloc (.map #[] 0)) w.heap.size :=
  ⟨#[], 0, (MapKept.heap_alloc w _).1, ⟨by simp, stamped_empty 0, by simp⟩, fun x hx => by simp at hx⟩
theorem Memo.blk (h : Memo P k e G w b) (hb : w'.heap[b]? = w.heap[b]?) : Memo P k e G w' b := by
  obtain ⟨es, clock, hb', F, hG⟩ := h
  exact ⟨es, clock, hb.trans hb', F, hG⟩
theorem Memo.lt (h : Memo P k e G w b) : b < w.heap.size := by
  obtain ⟨es, clock, hb, _⟩ := h
  exact (Array.getElem?_eq_some_iff.1 hb).1
theorem Memo.drewN (h : Memo P k e G w b) (d : Nat) : Memo P k e G (w.drewN d) b := h.blk (by simp)
theorem Memo.drew (h : Memo P k e G w b) : Memo P k e G w.drew b := h
theorem Memo.below (h : Memo P k e G w b) (hb : Below w.heap.size w w') : Memo P k e G w' b := h.blk (hb.block b h.lt)
theorem Memo.alloc (h : Memo P k e G w b) (o : Obj) : Memo P k e G (w.alloc o) b := h.blk (Below.heap_alloc w o b h.lt)
theorem Memo.setCell (h : Memo P k e G w b) {p : Addr} (hp : b ≠ p.block) (u : Value) : Memo P k e G (w.setCell p u) b := h.blk (Below.heap_setCell w p u b hp)

theorem one_of_key {es : List MapEntry} (h : es.Pairwise (fun x y => x.key ≠ y.key)) {x y : MapEntry} (hx : x ∈ es) (hy : y ∈ es) (e : x.key = y.key) : x = y := by
  induction es with
  | nil => cases hx
  | cons z t ih =>
    obtain ⟨h1, h2⟩ := List.pairwise_cons.mp h
    rcases List.mem_cons.mp hx with ex | hx2
    · rcases List.mem_cons.mp hy with ey | hy2
      · rw [ex, ey]
      · rw [ex] at e; exact absurd e (h1 y hy2)
    · rcases List.mem_cons.mp hy with ey | hy2
      · rw [ey] at e; exact absurd e.symm (h1 x hx2)
      · exact ih h2 hx2 hy2
/-- .. alike in all worlds with these blocks -/
theorem Memo.look_all (h : Memo P k e G w b) (K : Keyed P k) (ht : P.underlying t = some (.map k e)) {z : Value} (hz : ∀ w, (zeroValue e).run P w = .ok z w) {key : Value} {kl : Lit} (hkey : keyOf P k key = some kl) :
    (∀ W, W.heap[b]? = w.heap[b]? → (Instr.lookup t (.map (some b)) key true).run P W = .ok (.tuple #[z, .bool false]) W) ∨ ∃ v, G key v ∧ ∀ W, W.heap[b]? = w.heap[b]? → (Instr.lookup t (.map (some b)) key true).run P W = .ok (.tuple #[v, .bool true]) W := by
  obtain ⟨es, clock, hb, F, hG⟩ := h
  have hap := ((stamped_iff es clock).1 F.stamped).2.2
  by_cases hx : ∃ x ∈ es.toList, x.key = key
  · obtain ⟨x, hx, hk⟩ := hx
    refine .inr ⟨x.val, by have := hG x hx; rw [hk] at this; exact this, fun W hW => ?_⟩
    rcases Maps.fit_look true K ht (hz W) (hW.trans hb) F hkey with ⟨_, hno, _⟩ | ⟨e0, y, hm, hk0, hrun, _⟩
    · exact absurd hk (hno x hx)
    · rw [one_of_key hap hx hm (hk.trans hk0.symm)]; exact hrun
  · refine .inl fun W hW => ?_
    rcases Maps.fit_look true K ht (hz W) (hW.trans hb) F hkey with ⟨hrun, _, _⟩ | ⟨e0, y, hm, hk0, _⟩
    · exact hrun
    · exact absurd ⟨e0, hm, hk0⟩ hx
/-- apart, and all in a list: not more than the list -/
theorem apart_le {α : Type} : ∀ (l L : List α), l.Pairwise (· ≠ ·) → (∀ x ∈ l, x ∈ L) → l.length ≤ L.length
  | [], L, _, _ => Nat.zero_le _
  | x :: t, L, h, hl => by
    obtain ⟨h1, h2⟩ := List.pairwise_cons.mp h
    obtain ⟨s, r, rfl⟩ := List.append_of_mem (hl x (List.mem_cons_self ..))
    have := apart_le t (s ++ r) h2 (fun y hy => by
      have h3 := hl y (List.mem_cons_of_mem _ hy)
      rcases List.mem_append.mp h3 with h3 | h3
      · exact List.mem_append_left _ h3
      · rcases List.mem_cons.mp h3 with h3 | h3
        · exact absurd h3.symm (h1 y hy)
        · exact List.mem_append_right _ h3)
    simp only [List.length_cons, List.length_append] at this ⊢
    omega
/-- storing what G asks, where G leaves but few keys -/
theorem Memo.store (h : Memo P k e G w b) (K : Keyed P k) (ht : P.underlying t = some (.map k e)) {L : List Value} (hL : ∀ x y, G x y → x ∈ L) (hn : L.length < maxLen) {key : Value} {kl : Lit} {q : IntKind} {a : Int} (he : P.underlying e = some (.int q)) (hw : (Lit.int q a).wf = true) (hkey : keyOf P k key = some kl) (hG' : G key (.int q a)) :
    ∃ w', (Instr.mapUpdate t (.map (some b)) key (.int q a)).run P w = .ok () w' ∧ Memo P k e G w' b ∧ w.mapTurned w' b := by
  obtain ⟨es, clock, hb, F, hG⟩ := h
  have hsz : es.size < maxLen := by
    have hp : (es.toList.map (fun x => x.key)).Pairwise (· ≠ ·) := by
      rw [List.pairwise_map]
      exact ((stamped_iff es clock).1 F.stamped).2.2
    have := apart_le _ L hp (fun x hx => by
      obtain ⟨y, hy, rfl⟩ := List.mem_map.mp hx
      exact hL _ _ (hG y hy))
    simp at this
    omega
  obtain ⟨es', clock', hrun, F', hput, _, _, hwho⟩ := Maps.fit_store (R' := plainElem (H := Unit) P e) K ht hb F hsz (fun _ _ _ _ hz => hz) hkey (plainElem_int he hw)
  refine ⟨_, hrun, ⟨es', clock', heap_setBlock_same hb _, F', ?_⟩, ⟨es, clock, es', clock', hb, rfl⟩⟩
  intro x hx
  rcases hwho x hx with ⟨h1, _⟩ | ⟨h1, h2⟩
  · exact hG x h1
  · rw [h1, h2]; exact hG'
theorem min_val (b R0 R1 : Nat) (h0 : R0 ≤ 100) (h1 : R1 ≤ 100) : (if IntKind.i64.wrap (1 + if R0 < R1 then (R1 : Int) else (R0 : Int)) < (b : Int) then IntKind.i64.wrap (1 + if R0 < R1 then (R1 : Int) else (R0 : Int)) else (b : Int)) = ((min b (1 + max R0 R1) : Nat) : Int) := by
  have e : (if R0 < R1 then (R1 : Int) else (R0 : Int)) = ((max R0 R1 : Nat) : Int) := by split <;> omega
  rw [e, wi64 _ (by omega) (by omega)]
  split <;> omega
theorem wf_nat {a : Nat} (h : a < 2 ^ 63) : (Lit.int .i64 (a : Int)).wf = true := by
  simp only [Lit.wf, Bool.and_eq_true, decide_eq_true_eq]
  have h1 : IntKind.i64.min = -9223372036854775808 := by decide
  have h2 : IntKind.i64.max = 9223372036854775807 := by decide
  rw [h1, h2]; omega
/-- nothing but block b and blocks that are new has turned -/
structure But (b : Nat) (w w' : World) : Prop where
  os : w'.os = w.os
  tape : w'.tape = w.tape
  output : w'.output = w.output
  size : w.heap.size ≤ w'.heap.size
  block : ∀ i, i < w.heap.size → i ≠ b → w'.heap[i]? = w.heap[i]?
theorem But.refl (b : Nat) (w : World) : But b w w := ⟨rfl, rfl, rfl, Nat.le_refl _, fun _ _ _ => rfl⟩
theorem But.trans {w'' : World} (h : But b w w') (h' : But b w' w'') : But b w w'' :=
  ⟨h'.os.trans h.os, h'.tape.trans h.tape, h'.output.trans h.output, Nat.le_trans h.size h'.size, fun i hi hb => (h'.block i (Nat.lt_of_lt_of_le hi h.size) hb).trans (h.block i hi hb)⟩
theorem But.of_below (h : Below w.heap.size w w') : But b w w' := ⟨h.os, h.tape, h.output, h.size, fun i hi _ => h.block i hi⟩
theorem But.of_turned (h : w.mapTurned w' b) : But b w w' := by
  have g := h.grown
  exact ⟨g.os, g.tape, g.output, g.size, fun i hi hb => g.block i hi (fun e => hb (by injection e))⟩
theorem But.below {B : Nat} (h : But b w w') (hB : B ≤ b) (hw : B ≤ w.heap.size) : Below B w w' :=
  ⟨h.os, h.tape, h.output, h.size, fun i hi => h.block i (by omega) (by omega)⟩
theorem But.blk {g : Nat} {o : Obj} (h : But b w w') (hg : g ≠ b) (hb : w.heap[g]? = some o) : w'.heap[g]? = some o := (h.block g (Array.getElem?_eq_some_iff.1 hb).1 hg).trans hb
theorem But.drewN (h : But b w w') (d : Nat) : But b w (w'.drewN d) := h.trans (.of_below (pw_below_drewN (Below.refl _ _) d))
end Go.Proofs.Ythekbiofjhkecaa.M
namespace Go.Proofs.Ythekbiofjhkecaa.M
open Go.RowKit Go.Proofs.YthekbiofjhkecaaW.PrintWords Go.Proofs.YthekbiofjhkecaaW.PrintLast
set_option linter.unusedVariables false
set_option linter.unusedSimpArgs false

/-- from some round on there is one result, and P holds of it -/
def Tot {α : Type} (g : Nat → Option α) (P : α → Prop) : Prop := ∃ r, P r ∧ Ev g r
theorem Tot.ev {α : Type} {g : Nat → Option α} {P : α → Prop} {r : α} (h : Ev g r) (hp : P r) : Tot g P := ⟨r, hp, h⟩
theorem Tot.now {α : Type} {P : α → Prop} (r : α) (hp : P r) : Tot (fun _ => some r) P := ⟨r, hp, Ev.now r⟩
theorem Tot.bind {α β : Type} {g : Nat → Option α} {f : Nat → α → Option β} {P : α → Prop} {Q : β → Prop} (h : Tot g P) (hf : ∀ r, P r → Tot (fun k => f k r) Q) : Tot (fun k => (g k).bind (f k)) Q := by
  obtain ⟨r, hp, he⟩ := h
  obtain ⟨s, hq, hs⟩ := hf r hp
  exact ⟨s, hq, Ev.bind he hs⟩
theorem Tot.congr {α : Type} {g f : Nat → Option α} {P : α → Prop} (h : ∀ k, g k = f k) (hf : Tot f P) : Tot g P := by
  obtain ⟨r, hp, he⟩ := hf
  exact ⟨r, hp, Ev.congr h he⟩
theorem Tot.step {α : Type} {g f : Nat → Option α} {P : α → Prop} (h : ∀ k, g (k + 1) = f k) (hf : Tot f P) : Tot g P := by
  obtain ⟨r, hp, he⟩ := hf
  exact ⟨r, hp, Ev.step h he⟩
theorem Tot.end {α : Type} {g : Nat → Option α} {P : α → Prop} (r : α) (hp : P r) (h : ∀ k, g (k + 1) = some r) : Tot g P := ⟨r, hp, Ev.end h⟩
theorem Tot.mono {α : Type} {g : Nat → Option α} {P Q : α → Prop} (h : Tot g P) (hq : ∀ r, P r → Q r) : Tot g Q := by
  obtain ⟨r, hp, he⟩ := h
  exact ⟨r, hq r hp, he⟩
theorem Tot.ite {α : Type} {g f : Nat → Option α} {P : α → Prop} (c : Prop) [Decidable c] (h : c → Tot g P) (hf : ¬ c → Tot f P) : Tot (fun k => if c then g k else f k) P := by
  by_cases e : c
  · exact Tot.congr (fun k => if_pos e) (h e)
  · exact Tot.congr (fun k => if_neg e) (hf e)
/-- a loop that counts up -/
theorem Tot.up {S α : Type} {P : α → Prop} (F : Nat → S → Nat → Option α) (N : Nat) (I : Nat → S → Prop)
    (hs : ∀ i s, i < N → I i s → (∀ s', I (i + 1) s' → Tot (F (i + 1) s') P) → Tot (F i s) P) (he : ∀ s, I N s → Tot (F N s) P) :
    ∀ d i s, i + d = N → I i s → Tot (F i s) P := by
  intro d
  induction d with
  | zero =>
    intro i s hi h
    obtain rfl : i = N := by omega
    exact he s h
  | succ d ih =>
    intro i s hi h
    exact hs i s (by omega) h (fun s' hs' => ih (i + 1) s' (by omega) hs')
theorem and_mask (a : Int) {m : Nat} (hm : m < 2 ^ 63) : 0 ≤ Go.bits .and .i64 a (m : Int) ∧ Go.bits .and .i64 a (m : Int) ≤ (m : Int) := by
  have e : Go.bits .and .i64 a (m : Int) = (((BitVec.ofInt 64 a).toNat &&& m : Nat) : Int) := by
    simp only [Go.bits, BitVec.ofInt_natCast, BitVec.toNat_and, BitVec.toNat_ofNat, mod_bits hm]
    exact wi64 _ (Int.natCast_nonneg _) (cast_lt (Nat.lt_of_le_of_lt Nat.and_le_right hm))
  rw [e]
  exact ⟨Int.natCast_nonneg _, Int.ofNat_le.mpr Nat.and_le_right⟩
theorem and_255 (a : Int) : 0 ≤ Go.bits .and .i64 a 255 ∧ Go.bits .and .i64 a 255 ≤ 255 := and_mask a (m := 255) (by decide)
end Go.Proofs.Ythekbiofjhkecaa.M
namespace Go.Proofs.Ythekbiofjhkecaa.M
open Go.RowKit Go.Proofs.YthekbiofjhkecaaW.PrintWords Go.Proofs.YthekbiofjhkecaaW.PrintLast
set_option linter.unusedVariables false
set_option linter.unusedSimpArgs false

/-- the subcubes with k free variables -/
def cubeL (n k : Nat) : List (Nat × Nat) := ((List.range (2 ^ n)).filter fun m => pc m + k == n).flatMap fun m => (subsOf n m).map fun u => (m, u)
theorem cubeL_mem {n k : Nat} (hn : n ≤ 4) {c : Nat × Nat} (h : c ∈ cubeL n k) : Cb n c.1 c.2 ∧ pc c.1 + k = n := by
  unfold cubeL at h
  obtain ⟨m, hm, hq⟩ := List.mem_flatMap.mp h
  obtain ⟨u, hv, rfl⟩ := List.mem_map.mp hq
  obtain ⟨h1, h2⟩ := List.mem_filter.mp hm
  obtain ⟨h3, h4⟩ := mem_subs.mp hv
  exact ⟨⟨hn, List.mem_range.mp h1, h3, h4⟩, beq_iff_eq.mp h2⟩
theorem cutRow_list (n v m : Nat) : ∀ u, cutRow n v m u = ((List.range u).filter fun u => andn u m == 0).map fun u => (cutS n v m u n).2
  | 0 => rfl
  | u + 1 => by
    rw [cutRow, cutRow_list n v m u, List.range_succ, List.filter_append, List.map_append]
    by_cases h : andn u m = 0
    · rw [if_pos h]; simp [h]
    · rw [if_neg h]; simp [h]
theorem cutAll_list (n v k : Nat) : ∀ M, cutAll n v k M = ((List.range M).filter fun m => pc m + k == n).flatMap fun m => cutRow n v m (2 ^ n)
  | 0 => rfl
  | M + 1 => by
    rw [cutAll, cutAll_list n v k M, List.range_succ, List.filter_append, List.flatMap_append]
    by_cases h : pc M + k = n
    · rw [if_pos h]; simp [h]
    · rw [if_neg h]; simp [h]
theorem cutAll_cubes (n v k : Nat) : cutAll n v k (2 ^ n) = (cubeL n k).map fun c => (cutS n v c.1 c.2 n).2 := by
  rw [cutAll_list]
  unfold cubeL
  rw [List.map_flatMap]
  congr 1
  funext m
  rw [cutRow_list, List.map_map]
  rfl
/-! numbers of subcubes -/
def lenC (n k : Nat) : Nat := (cubeL n k).length
def perC (n k : Nat) : Nat := lenC n k * 2 ^ k / 2 ^ n
/-- the inputs of all subcubes -/
def flatC (n k : Nat) : List Nat := (cubeL n k).flatMap fun c => inX n c.1 c.2
def flatOk (n k : Nat) : Bool := (flatC n k).all (fun x => decide (x < 2 ^ n)) && (List.range (2 ^ n)).all fun x => (flatC n k).count x == perC n k
theorem flatOk_all : ∀ n, n < 5 → ∀ k, k < 5 → k ≤ n → flatOk n k = true := allB_dec2 (P := fun n k => k ≤ n → flatOk n k = true) (by decide +kernel)
theorem lenC_le : ∀ n, n < 5 → ∀ k, k < 5 → lenC n k ≤ 100 := allB_dec2 (P := fun n k => lenC n k ≤ 100) (by decide +kernel)
theorem cubeL_whole : ∀ n, n < 5 → cubeL n n = [(0, 0)] := allB_dec (P := fun n => cubeL n n = [(0, 0)]) (by decide +kernel)
/-- counting by value -/
def sumC (g : Nat → Nat) : Nat → Nat
  | 0 => 0
  | m + 1 => sumC g m + g m
theorem sumC_congr {g h : Nat → Nat} : ∀ {m}, (∀ i, i < m → g i = h i) → sumC g m = sumC h m
  | 0, _ => rfl
  | m + 1, e => by rw [sumC, sumC, sumC_congr (fun i hi => e i (by omega)), e m (by omega)]
theorem sumC_add (g h : Nat → Nat) : ∀ m, sumC (fun i => g i + h i) m = sumC g m + sumC h m
  | 0 => rfl
  | m + 1 => by rw [sumC, sumC, sumC, sumC_add g h m]; omega
theorem sumC_zero : ∀ m, sumC (fun _ => 0) m = 0
  | 0 => rfl
  | m + 1 => by rw [sumC, sumC_zero m]
theorem sumC_mul (c : Nat) (g : Nat → Nat) : ∀ m, sumC (fun i => c * g i) m = c * sumC g m
  | 0 => rfl
  | m + 1 => by rw [sumC, sumC, sumC_mul c g m, Nat.mul_add]
theorem sumC_one (p : Nat) (x : Nat) : ∀ m, sumC (fun i => (if i = x then 1 else 0) * p) m = if x < m then p else 0
  | 0 => by simp [sumC]
  | m + 1 => by
    rw [sumC, sumC_one p x m]
    by_cases h : m = x
    · subst h; simp
    · by_cases h2 : x < m
      · simp [h, h2, show x < m + 1 by omega]
      · simp [h, h2, show ¬ x < m + 1 by omega]
theorem filter_count (p : Nat → Bool) (N : Nat) : ∀ l : List Nat, (∀ x ∈ l, x < N) → (l.filter p).length = sumC (fun x => l.count x * (p x).toNat) N
  | [], _ => by simp [sumC_zero]
  | y :: t, h => by
    have hy := h y (List.mem_cons_self ..)
    have ih := filter_count p N t (fun x hx => h x (List.mem_cons_of_mem _ hx))
    have e : sumC (fun x => (y :: t).count x * (p x).toNat) N = sumC (fun x => t.count x * (p x).toNat + (if x = y then 1 else 0) * (p y).toNat) N := by
      apply sumC_congr
      intro x _
      rw [List.count_cons]
      by_cases hxy : x = y
      · subst hxy; simp [Nat.add_mul]
      · have : (y == x) = false := beq_eq_false_iff_ne.mpr (fun e => hxy e.symm)
        simp [hxy, this]
    rw [e, sumC_add, sumC_one, if_pos hy, ← ih, List.filter_cons]
    cases p y <;> simp
theorem sumC_cnt (g : Nat → Bool) : ∀ m, sumC (fun x => (g x).toNat) m = cnt g m
  | 0 => rfl
  | m + 1 => by rw [sumC, cnt, sumC_cnt g m]
def sumL (f : Nat → Nat) (l : List Nat) : Nat := (l.map f).sum
/-- the ones in all subcubes -/
theorem ones_all {n v k : Nat} (hn : n ≤ 4) (hk : k ≤ n) (hv : v < 2 ^ 2 ^ n) : sumL pc (cutAll n v k (2 ^ n)) = perC n k * pc v := by
  have hf := flatOk_all n (by omega) k (by omega) hk
  unfold flatOk at hf
  rw [Bool.and_eq_true] at hf
  have hlt : ∀ x ∈ flatC n k, x < 2 ^ n := fun x hx => of_decide_eq_true (List.all_eq_true.mp hf.1 x hx)
  have hct : ∀ x, x < 2 ^ n → (flatC n k).count x = perC n k := fun x hx => beq_iff_eq.mp (List.all_eq_true.mp hf.2 x (List.mem_range.mpr hx))
  have e1 : sumL pc (cutAll n v k (2 ^ n)) = ((flatC n k).filter v.testBit).length := by
    unfold sumL flatC
    rw [cutAll_cubes, List.map_map]
    have key : ∀ l : List (Nat × Nat), (∀ c ∈ l, Cb n c.1 c.2 ∧ pc c.1 + k = n) → (l.map (pc ∘ fun c => (cutS n v c.1 c.2 n).2)).sum = ((l.flatMap fun c => inX n c.1 c.2).filter v.testBit).length := by
      intro l
      induction l with
      | nil => intro _; rfl
      | cons c t ih =>
        intro h
        obtain ⟨h1, h2⟩ := h c (List.mem_cons_self ..)
        rw [List.map_cons, List.sum_cons, List.flatMap_cons, List.filter_append, List.length_append, ih (fun x hx => h x (List.mem_cons_of_mem _ hx))]
        congr 1
        have hw := (cut_word (u := c.2) hn hv h1.hm h2).2
        show pc (cutS n v c.1 c.2 n).2 = _
        rw [pc_vals (by omega) hw, cube_vals hn hv h1.hm h2 h1.hu h1.hum, List.filter_map, List.length_map]
        rfl
    exact key _ (fun c hc => cubeL_mem hn hc)
  rw [e1, filter_count v.testBit (2 ^ n) _ hlt]
  have e2 : sumC (fun x => (flatC n k).count x * (v.testBit x).toNat) (2 ^ n) = sumC (fun x => perC n k * (v.testBit x).toNat) (2 ^ n) := sumC_congr (fun x hx => by rw [hct x hx])
  rw [e2, sumC_mul, sumC_cnt]
  congr 1
  have h5 := pow16 hn
  unfold pc
  rw [show 32 = 2 ^ n + (32 - 2 ^ n) by omega, pc_of_lt hv]
/-! depths: a subcube's is not greater -/
def partOk (n m u : Nat) : Bool := (frL n m).all fun i => (inX n (m ||| 2 ^ i) u).all (fun x => (inX n m u).contains x) && (inX n (m ||| 2 ^ i) (u ||| 2 ^ i)).all (fun x => (inX n m u).contains x) && (frL n m).all fun j => (j == i) || ((frL n (m ||| 2 ^ i)).contains j)
theorem partOk_all : allCubes partOk = true := by decide +kernel
theorem conL_iff {v : Nat} {l : List Nat} (hl : l ≠ []) : conL v l = true ↔ (∀ x ∈ l, v.testBit x = true) ∨ (∀ x ∈ l, v.testBit x = false) := by
  unfold conL
  rw [decide_eq_true_iff, cubeGo_lt _ (by simpa using hl), List.all_map, List.all_map, List.all_eq_true, List.all_eq_true]
  simp
theorem Cb.part {n m u i : Nat} (h : Cb n m u) (hi : i ∈ frL n m) : (∀ x ∈ inX n (m ||| 2 ^ i) u, x ∈ inX n m u) ∧ (∀ x ∈ inX n (m ||| 2 ^ i) (u ||| 2 ^ i), x ∈ inX n m u) ∧ ∀ j ∈ frL n m, j ≠ i → j ∈ frL n (m ||| 2 ^ i) := by
  have h1 := allCubes_of partOk_all h.hn h.hm h.hu h.hum
  unfold partOk at h1
  have h2 := List.all_eq_true.mp h1 i hi
  simp only [Bool.and_eq_true] at h2
  refine ⟨fun x hx => by simpa using List.all_eq_true.mp h2.1.1 x hx, fun x hx => by simpa using List.all_eq_true.mp h2.1.2 x hx, fun j hj hne => ?_⟩
  have := List.all_eq_true.mp h2.2 j hj
  rw [beq_eq_false_iff_ne.mpr hne, Bool.false_or] at this
  simpa using this
theorem conL_sub {v : Nat} {l l' : List Nat} (hl : l ≠ []) (hl' : l' ≠ []) (hs : ∀ x ∈ l', x ∈ l) (h : conL v l = true) : conL v l' = true := by
  rw [conL_iff hl] at h
  rw [conL_iff hl']
  rcases h with h | h
  · exact .inl fun x hx => h x (hs x hx)
  · exact .inr fun x hx => h x (hs x hx)
theorem bestOf_got2 (g : Nat → Nat) : ∀ (l : List Nat) (b : Nat), bestOf g b l = b ∨ ∃ i ∈ l, bestOf g b l = 1 + g i
  | [], b => .inl rfl
  | x :: t, b => by
    have e : bestOf g b (x :: t) = bestOf g (min b (1 + g x)) t := rfl
    rw [e]
    rcases bestOf_got2 g t (min b (1 + g x)) with h | ⟨i, hi, h⟩
    · rw [h]
      rcases Nat.le_total b (1 + g x) with h1 | h1
      · left; omega
      · right; exact ⟨x, List.mem_cons_self .., by omega⟩
    · exact .inr ⟨i, List.mem_cons_of_mem _ hi, h⟩
theorem ldC_part {b n v : Nat} (hb : n ≤ b) : ∀ {d m u i : Nat}, Cb n m u → pc m + (d + 1) = n → i ∈ frL n m → ldC b n v d (m ||| 2 ^ i) u ≤ ldC b n v (d + 1) m u ∧ ldC b n v d (m ||| 2 ^ i) (u ||| 2 ^ i) ≤ ldC b n v (d + 1) m u
  | 0, m, u, i, _, _, _ => ⟨Nat.zero_le _, Nat.zero_le _⟩
  | d + 1, m, u, i, h, hp, hi => by
    obtain ⟨q0, q1, q2⟩ := h.step hi
    obtain ⟨p0, p1, p2⟩ := h.part hi
    by_cases hc : conL v (inX n m u) = true
    · have c0 := conL_sub h.ne q0.ne p0 hc
      have c1 := conL_sub h.ne q1.ne p1 hc
      have z0 : ldC b n v (d + 1) (m ||| 2 ^ i) u = 0 := by rw [ldC, if_pos c0]
      have z1 : ldC b n v (d + 1) (m ||| 2 ^ i) (u ||| 2 ^ i) = 0 := by rw [ldC, if_pos c1]
      omega
    · have e : ldC b n v (d + 1 + 1) m u = bestOf (fun i => max (ldC b n v (d + 1) (m ||| 2 ^ i) u) (ldC b n v (d + 1) (m ||| 2 ^ i) (u ||| 2 ^ i))) b (frL n m) := by rw [ldC, if_neg hc]
      have l0 := ldC_le (v := v) hb q0 (d := d + 1) (by omega)
      have l1 := ldC_le (v := v) hb q1 (d := d + 1) (by omega)
      rw [e]
      rcases bestOf_got2 (fun i => max (ldC b n v (d + 1) (m ||| 2 ^ i) u) (ldC b n v (d + 1) (m ||| 2 ^ i) (u ||| 2 ^ i))) (frL n m) b with hg | ⟨j, hj, hg⟩
      · rw [hg]; omega
      · rw [hg]
        by_cases hji : j = i
        · subst hji; omega
        · obtain ⟨r0, r1, r2⟩ := h.step hj
          have hij := (h.part hj).2.2 i hi (fun e => hji e.symm)
          have hjj := p2 j hj hji
          have eo : m ||| 2 ^ i ||| 2 ^ j = m ||| 2 ^ j ||| 2 ^ i := by rw [Nat.or_assoc, Nat.or_assoc, Nat.or_comm (2 ^ i)]
          have eu : u ||| 2 ^ i ||| 2 ^ j = u ||| 2 ^ j ||| 2 ^ i := by rw [Nat.or_assoc, Nat.or_assoc, Nat.or_comm (2 ^ i)]
          obtain ⟨s0, s1⟩ := ldC_part (v := v) hb (d := d) r0 (by omega) hij
          obtain ⟨s2, s3⟩ := ldC_part (v := v) hb (d := d) r1 (by omega) hij
          have one : ∀ uu, (uu = u ∧ (ldC b n v d (m ||| 2 ^ i ||| 2 ^ j) uu ≤ ldC b n v (d + 1) (m ||| 2 ^ j) u) ∧ ldC b n v d (m ||| 2 ^ i ||| 2 ^ j) (uu ||| 2 ^ j) ≤ ldC b n v (d + 1) (m ||| 2 ^ j) (u ||| 2 ^ j)) ∨ (uu = u ||| 2 ^ i ∧ (ldC b n v d (m ||| 2 ^ i ||| 2 ^ j) uu ≤ ldC b n v (d + 1) (m ||| 2 ^ j) u) ∧ ldC b n v d (m ||| 2 ^ i ||| 2 ^ j) (uu ||| 2 ^ j) ≤ ldC b n v (d + 1) (m ||| 2 ^ j) (u ||| 2 ^ j)) → ldC b n v (d + 1) (m ||| 2 ^ i) uu ≤ 1 + max (ldC b n v (d + 1) (m ||| 2 ^ j) u) (ldC b n v (d + 1) (m ||| 2 ^ j) (u ||| 2 ^ j)) := by
            intro uu huu
            have hbd : ldC b n v d (m ||| 2 ^ i ||| 2 ^ j) uu ≤ ldC b n v (d + 1) (m ||| 2 ^ j) u ∧ ldC b n v d (m ||| 2 ^ i ||| 2 ^ j) (uu ||| 2 ^ j) ≤ ldC b n v (d + 1) (m ||| 2 ^ j) (u ||| 2 ^ j) := by
              rcases huu with ⟨_, h1, h2⟩ | ⟨_, h1, h2⟩ <;> exact ⟨h1, h2⟩
            by_cases hcc : conL v (inX n (m ||| 2 ^ i) uu) = true
            · have : ldC b n v (d + 1) (m ||| 2 ^ i) uu = 0 := by rw [ldC, if_pos hcc]
              omega
            · have e2 : ldC b n v (d + 1) (m ||| 2 ^ i) uu = bestOf (fun j => max (ldC b n v d (m ||| 2 ^ i ||| 2 ^ j) uu) (ldC b n v d (m ||| 2 ^ i ||| 2 ^ j) (uu ||| 2 ^ j))) b (frL n (m ||| 2 ^ i)) := by rw [ldC, if_neg hcc]
              have := (bestOf_le (fun j => max (ldC b n v d (m ||| 2 ^ i ||| 2 ^ j) uu) (ldC b n v d (m ||| 2 ^ i ||| 2 ^ j) (uu ||| 2 ^ j))) (frL n (m ||| 2 ^ i)) b).2 j hjj
              omega
          rw [← eo] at s0 s1 s2 s3
          exact ⟨one u (.inl ⟨rfl, s0, s2⟩), one (u ||| 2 ^ i) (.inr ⟨rfl, s1, by rw [eu]; exact s3⟩)⟩
/-! degrees: at most the depth -/
def sgB (x : Nat) : Int := if pc x % 2 = 1 then -1 else 1
/-- what each input adds to a coefficient in the variables S, the others held at u -/
def vecC (n u S : Nat) : List Int := (List.range (2 ^ n)).map fun x => if (x ^^^ u) &&& S = x ^^^ u then sgB (S ^^^ (x ^^^ u)) else 0
def dotC (c : List Int) (v : Nat) : Int := ((List.range c.length).map fun x => c.getD x 0 * ((v.testBit x).toNat : Int)).sum
def subL (a b : List Int) : List Int := (List.range a.length).map fun x => a.getD x 0 - b.getD x 0
theorem sum_sub (f g : Nat → Int) : ∀ l : List Nat, (l.map fun x => f x - g x).sum = (l.map f).sum - (l.map g).sum
  | [] => rfl
  | x :: t => by simp only [List.map_cons, List.sum_cons]; rw [sum_sub f g t]; omega
theorem sum_zero (f : Nat → Int) : ∀ l : List Nat, (∀ x ∈ l, f x = 0) → (l.map f).sum = 0
  | [], _ => rfl
  | x :: t, h => by rw [List.map_cons, List.sum_cons, h x (List.mem_cons_self ..), sum_zero f t (fun y hy => h y (List.mem_cons_of_mem _ hy))]; rfl
theorem vecC_len (n u S : Nat) : (vecC n u S).length = 2 ^ n := by simp [vecC]
theorem dotC_sub {a b : List Int} (h : a.length = b.length) (v : Nat) : dotC (subL a b) v = dotC a v - dotC b v := by
  unfold dotC
  have e : (subL a b).length = a.length := by simp [subL]
  rw [e, ← h, ← sum_sub]
  congr 1
  apply List.map_congr_left
  intro x hx
  have hx := List.mem_range.mp hx
  have : (subL a b).getD x 0 = a.getD x 0 - b.getD x 0 := by
    unfold subL
    rw [List.getD_eq_getElem?_getD, List.getElem?_map, List.getElem?_range hx]; rfl
  rw [this, Int.sub_mul]
/-- the sets of free variables -/
def degOk (n m u : Nat) : Bool := (List.range (2 ^ n)).all fun S => (S &&& m != 0) ||
  (((S == 0) || (((vecC n u S).sum == 0) && (List.range (2 ^ n)).all fun x => ((vecC n u S).getD x 0 == 0) || (inX n m u).contains x)) && decide (pc S ≤ n) &&
   (frL n m).all fun i => if S.testBit i then (vecC n u S == subL (vecC n (u ||| 2 ^ i) (S ^^^ 2 ^ i)) (vecC n u (S ^^^ 2 ^ i))) && decide (S ^^^ 2 ^ i < 2 ^ n) && (pc (S ^^^ 2 ^ i) + 1 == pc S) && ((S ^^^ 2 ^ i) &&& (m ||| 2 ^ i) == 0) else (S &&& (m ||| 2 ^ i) == 0))
theorem degOk_all : allCubes degOk = true := by decide +kernel
theorem Cb.deg {n m u S : Nat} (h : Cb n m u) (hS : S < 2 ^ n) (hSm : S &&& m = 0) :
    (S ≠ 0 → (vecC n u S).sum = 0 ∧ ∀ x, x < 2 ^ n → (vecC n u S).getD x 0 = 0 ∨ x ∈ inX n m u) ∧ pc S ≤ n ∧
    ∀ i ∈ frL n m, (S.testBit i = true → vecC n u S = subL (vecC n (u ||| 2 ^ i) (S ^^^ 2 ^ i)) (vecC n u (S ^^^ 2 ^ i)) ∧ S ^^^ 2 ^ i < 2 ^ n ∧ pc (S ^^^ 2 ^ i) + 1 = pc S ∧ (S ^^^ 2 ^ i) &&& (m ||| 2 ^ i) = 0) ∧ (S.testBit i = false → S &&& (m ||| 2 ^ i) = 0) := by
  have h1 := allCubes_of degOk_all h.hn h.hm h.hu h.hum
  unfold degOk at h1
  have h2 := List.all_eq_true.mp h1 S (List.mem_range.mpr hS)
  rw [show (S &&& m != 0) = false by rw [hSm]; rfl, Bool.false_or, Bool.and_eq_true, Bool.and_eq_true] at h2
  obtain ⟨⟨h3, h4⟩, h5⟩ := h2
  refine ⟨fun hne => ?_, of_decide_eq_true h4, fun i hi => ?_⟩
  · rw [beq_eq_false_iff_ne.mpr hne, Bool.false_or, Bool.and_eq_true] at h3
    refine ⟨beq_iff_eq.mp h3.1, fun x hx => ?_⟩
    have := List.all_eq_true.mp h3.2 x (List.mem_range.mpr hx)
    rw [Bool.or_eq_true] at this
    rcases this with h | h
    · exact .inl (beq_iff_eq.mp h)
    · exact .inr (by simpa using h)
  · have h6 := List.all_eq_true.mp h5 i hi
    constructor
    · intro hb
      rw [hb, if_pos rfl] at h6
      simp only [Bool.and_eq_true, beq_iff_eq, decide_eq_true_eq] at h6
      exact ⟨h6.1.1.1, h6.1.1.2, h6.1.2, h6.2⟩
    · intro hb
      rw [hb, if_neg (by decide)] at h6
      exact beq_iff_eq.mp h6
theorem deg_ld {b n v : Nat} (hb : n ≤ b) : ∀ {d m u : Nat}, Cb n m u → pc m + d = n → ∀ S, S < 2 ^ n → S &&& m = 0 → ldC b n v d m u < pc S → dotC (vecC n u S) v = 0
  | d, m, u, h, hp, S, hS, hSm, hlt => by
    obtain ⟨g1, g2, g3⟩ := h.deg hS hSm
    by_cases hc : conL v (inX n m u) = true
    · have hne : S ≠ 0 := by rintro rfl; rw [pc_zero] at hlt; omega
      obtain ⟨k1, k2⟩ := g1 hne
      unfold dotC
      rw [vecC_len]
      rcases (conL_iff h.ne).mp hc with hv | hv
      · have e : (List.range (2 ^ n)).map (fun x => (vecC n u S).getD x 0 * ((v.testBit x).toNat : Int)) = (List.range (2 ^ n)).map (fun x => (vecC n u S).getD x 0) := by
          apply List.map_congr_left
          intro x hx
          rcases k2 x (List.mem_range.mp hx) with hz | hz
          · rw [hz]; simp
          · rw [hv x hz]; simp
        have e2 : (List.range (2 ^ n)).map (fun x => (vecC n u S).getD x 0) = vecC n u S := by
          apply List.ext_getElem
          · simp [vecC]
          · intro i h1 h2
            simp [List.getD_eq_getElem?_getD, h2]
        rw [e, e2]; exact k1
      · apply sum_zero
        intro x hx
        rcases k2 x (List.mem_range.mp hx) with hz | hz
        · rw [hz]; simp
        · rw [hv x hz]; simp
    · cases d with
      | zero => exact absurd (h.con (by omega)) hc
      | succ d =>
        have e : ldC b n v (d + 1) m u = bestOf (fun i => max (ldC b n v d (m ||| 2 ^ i) u) (ldC b n v d (m ||| 2 ^ i) (u ||| 2 ^ i))) b (frL n m) := by rw [ldC, if_neg hc]
        rw [e] at hlt
        rcases bestOf_got2 (fun i => max (ldC b n v d (m ||| 2 ^ i) u) (ldC b n v d (m ||| 2 ^ i) (u ||| 2 ^ i))) (frL n m) b with hg | ⟨i, hi, hg⟩
        · omega
        · rw [hg] at hlt
          obtain ⟨q0, q1, q2⟩ := h.step hi
          obtain ⟨t1, t2⟩ := g3 i hi
          cases hbt : S.testBit i with
          | true =>
            obtain ⟨u1, u2, u3, u4⟩ := t1 hbt
            rw [u1, dotC_sub (by rw [vecC_len, vecC_len]), deg_ld hb (d := d) q1 (by omega) _ u2 u4 (by omega), deg_ld hb (d := d) q0 (by omega) _ u2 u4 (by omega)]; rfl
          | false => exact deg_ld hb (d := d) q0 (by omega) S hS (t2 hbt) (by omega)
termination_by d => d
end Go.Proofs.Ythekbiofjhkecaa.M
namespace Go.Proofs.Ythekbiofjhkecaa.M
open Go.RowKit Go.Proofs.YthekbiofjhkecaaW.PrintWords Go.Proofs.YthekbiofjhkecaaW.PrintLast Go.Proofs.YthekbiofjhkecaaW.PrintMore
set_option linter.unusedVariables false
set_option linter.unusedSimpArgs false

def sumZ (g : Nat → Int) : Nat → Int
  | 0 => 0
  | m + 1 => sumZ g m + g m
theorem sumZ_bound {g : Nat → Int} (h : ∀ i, -1 ≤ g i ∧ g i ≤ 1) : ∀ m : Nat, -(m : Int) ≤ sumZ g m ∧ sumZ g m ≤ (m : Int)
  | 0 => by simp [sumZ]
  | m + 1 => by have := sumZ_bound h m; have := h m; rw [sumZ]; omega
/-- a list of whole numbers by index -/
def listZ (n : Nat) (f : Nat → Int) : List Int := (List.range n).map f
theorem listZ_length (n : Nat) (f : Nat → Int) : (listZ n f).length = n := by simp [listZ]
theorem listZ_rd {n i : Nat} {f : Nat → Int} (h : i < n) : rd (listZ n f) (i : Int) = f i := by simp [rd, listZ, List.getD_eq_getElem?_getD, h]
theorem listZ_snoc (n : Nat) (f : Nat → Int) : listZ n f ++ [f n] = listZ (n + 1) f := by unfold listZ; rw [List.range_succ]; simp
theorem listZ_set {n i : Nat} {v : Int} {f f' : Nat → Int} (hi : i < n) (h1 : f' i = v) (h2 : ∀ j, j < n → j ≠ i → f' j = f j) : (listZ n f).set i v = listZ n f' := by
  apply List.ext_getElem?
  intro j
  rw [List.getElem?_set]
  by_cases hj : i = j
  · subst hj
    rw [if_pos rfl, if_pos (by rw [listZ_length]; exact hi)]
    simp [listZ, hi, h1]
  · rw [if_neg hj]
    by_cases h3 : j < n
    · simp [listZ, h3, h2 j h3 (fun e => hj e.symm)]
    · simp [listZ, h3]
theorem listZ_congr {n : Nat} {f f' : Nat → Int} (h : ∀ j, j < n → f' j = f j) : listZ n f = listZ n f' := List.map_congr_left (fun j hj => (h j (List.mem_range.mp hj)).symm)
theorem listZ_zero {n : Nat} {f : Nat → Int} (h : ∀ j, j < n → f j = 0) : listZ n f = List.replicate n 0 := by
  rw [listZ_congr (f' := fun _ => 0) (fun j hj => (h j hj).symm)]
  simp [listZ, List.map_const']
end Go.Proofs.Ythekbiofjhkecaa.M
namespace Go.Proofs.Ythekbiofjhkecaa.M
open Go.RowKit Go.Proofs.YthekbiofjhkecaaW.PrintWords Go.Proofs.YthekbiofjhkecaaW.PrintLast
set_option linter.unusedVariables false
set_option linter.unusedSimpArgs false

/-- how many words of a list have i ones -/
def onesN (l : List Nat) (i : Nat) : Nat := (l.filter fun x => pc x == i).length
theorem onesN_cons (y : Nat) (t : List Nat) (i : Nat) : onesN (y :: t) i = onesN t i + (if i = pc y then 1 else 0) := by
  unfold onesN
  rw [List.filter_cons]
  by_cases h : i = pc y
  · subst h; simp
  · have : (pc y == i) = false := beq_eq_false_iff_ne.mpr (fun e => h e.symm)
    simp [this, h]
theorem onesN_le (l : List Nat) (i : Nat) : onesN l i ≤ l.length := List.length_filter_le _ _
theorem sumL_cons (f : Nat → Nat) (y : Nat) (t : List Nat) : sumL f (y :: t) = f y + sumL f t := by unfold sumL; rw [List.map_cons, List.sum_cons]
theorem sum_onesN (g : Nat → Nat) (N : Nat) : ∀ l : List Nat, (∀ x ∈ l, pc x < N) → sumC (fun i => onesN l i * g i) N = sumL (fun x => g (pc x)) l
  | [], _ => by
    have : sumC (fun i => onesN [] i * g i) N = sumC (fun _ => 0) N := sumC_congr (fun i _ => by simp [onesN])
    rw [this, sumC_zero]; rfl
  | y :: t, h => by
    have hy := h y (List.mem_cons_self ..)
    have e : sumC (fun i => onesN (y :: t) i * g i) N = sumC (fun i => onesN t i * g i + (if i = pc y then 1 else 0) * g (pc y)) N := by
      apply sumC_congr
      intro i _
      rw [onesN_cons, Nat.add_mul]
      by_cases hi : i = pc y
      · subst hi; rfl
      · simp [hi]
    rw [e, sumC_add, sumC_one, if_pos hy, sum_onesN g N t (fun x hx => h x (List.mem_cons_of_mem _ hx)), sumL_cons]; omega
theorem sumL_one : ∀ l : List Nat, sumL (fun _ => 1) l = l.length
  | [] => rfl
  | _ :: t => by rw [sumL_cons, sumL_one t, List.length_cons]; omega
theorem sumC_mono (g : Nat → Nat) (m : Nat) : ∀ d, sumC g m ≤ sumC g (m + d)
  | 0 => Nat.le_refl _
  | d + 1 => by have := sumC_mono g m d; rw [← Nat.add_assoc, sumC]; omega
theorem sumL_le {f g : Nat → Nat} : ∀ {l : List Nat}, (∀ x ∈ l, f x ≤ g x) → sumL f l ≤ sumL g l
  | [], _ => Nat.le_refl _
  | y :: t, h => by
    have h1 := h y (List.mem_cons_self ..)
    have h2 := sumL_le (l := t) (fun x hx => h x (List.mem_cons_of_mem _ hx))
    rw [sumL_cons, sumL_cons]; omega
theorem sumL_const (c : Nat) : ∀ l : List Nat, sumL (fun _ => c) l = l.length * c
  | [] => by simp [sumL]
  | _ :: t => by rw [sumL_cons, sumL_const c t, List.length_cons, Nat.add_mul]; omega
/-- a sum that never wraps -/
theorem fold_sum (H : Nat → Int) (g : Nat → Nat) : ∀ (l : List Nat) (s : Nat), (∀ x ∈ l, H x = ((g x : Nat) : Int) ∧ g x ≤ 100) → s + l.length * 100 ≤ 1000000000 → l.foldl (fun s x => wrap64 (s + H x)) (s : Int) = ((s + sumL g l : Nat) : Int)
  | [], s, _, _ => by rfl
  | y :: t, s, h, hs => by
    obtain ⟨h1, h2⟩ := h y (List.mem_cons_self ..)
    rw [List.length_cons] at hs
    rw [List.foldl_cons, h1, sumL_cons]
    have e : wrap64 ((s : Int) + ((g y : Nat) : Int)) = ((s + g y : Nat) : Int) := by rw [w64 (by omega) (by omega)]; omega
    rw [e, fold_sum H g t (s + g y) (fun x hx => h x (List.mem_cons_of_mem _ hx)) (by omega)]
    congr 1; omega
/-! constant words -/
theorem pc_bound {k x : Nat} (hk : k ≤ 5) (hx : x < 2 ^ 2 ^ k) : pc x ≤ 2 ^ k := by
  have h5 := pow_le_5 hk
  have h1 := pc_of_lt hx (32 - 2 ^ k)
  have h2 := cnt_le x.testBit (2 ^ k)
  unfold pc
  rw [show 32 = 2 ^ k + (32 - 2 ^ k) by omega, h1]
  omega
theorem vals_len (k x : Nat) : (vals k x).length = 2 ^ k := by simp [vals]
theorem pc_none {k x : Nat} (hk : k ≤ 5) (hx : x < 2 ^ 2 ^ k) : pc x = 0 ↔ x = 0 := by
  rw [pc_vals hk hx, ← vals_false hx, List.length_eq_zero_iff, List.filter_eq_nil_iff, List.all_eq_true]
  constructor
  · intro h b hb; have := h b hb; cases b <;> simp_all
  · intro h b hb; have := h b hb; cases b <;> simp_all
theorem pc_full {k x : Nat} (hk : k ≤ 5) (hx : x < 2 ^ 2 ^ k) : pc x = 2 ^ k ↔ x = 2 ^ 2 ^ k - 1 := by
  rw [pc_vals hk hx, ← vals_true hx, ← vals_len k x, List.length_filter_eq_length_iff, List.all_eq_true]
  constructor
  · intro h b hb; have := h b hb; cases b <;> simp_all
  · intro h b hb; have := h b hb; cases b <;> simp_all
theorem const_two {k : Nat} (hk : k ≤ 5) : ∀ l : List Nat, (∀ x ∈ l, x < 2 ^ 2 ^ k) → (l.filter fun x => decide (x = 0 ∨ x = 2 ^ 2 ^ k - 1)).length = onesN l 0 + onesN l (2 ^ k)
  | [], _ => rfl
  | y :: t, h => by
    have hy := h y (List.mem_cons_self ..)
    have ih := const_two hk t (fun x hx => h x (List.mem_cons_of_mem _ hx))
    have e0 := pc_none hk hy
    have e1 := pc_full hk hy
    have hp := Nat.two_pow_pos k
    rw [onesN_cons, onesN_cons, List.filter_cons]
    by_cases h0 : y = 0
    · have : pc y = 0 := e0.mpr h0
      rw [if_pos (decide_eq_true (.inl h0)), List.length_cons, ih, this, if_pos rfl, if_neg (by omega)]; omega
    · have n0 : ¬ 0 = pc y := fun e => h0 (e0.mp e.symm)
      by_cases h1 : y = 2 ^ 2 ^ k - 1
      · have : pc y = 2 ^ k := e1.mpr h1
        rw [if_pos (decide_eq_true (.inr h1)), List.length_cons, ih, if_neg n0, if_pos this.symm]; omega
      · have n1 : ¬ 2 ^ k = pc y := fun e => h1 (e1.mp e.symm)
        rw [if_neg (by simp [h0, h1]), ih, if_neg n0, if_neg n1]; rfl
/-! depths -/
def ldW (k x : Nat) : Nat := ldC k k x k 0 0
theorem ldW_le {k : Nat} (hk : k ≤ 4) (x : Nat) : ldW k x ≤ 4 := Nat.le_trans (ldC_le (Nat.le_refl k) (Cb.zero hk) (by rw [pc_zero]; omega)) hk
theorem inX_zero (k : Nat) : inX k 0 0 = List.range (2 ^ k) := by
  unfold inX
  rw [List.filter_eq_self]
  intro x _
  rw [Nat.and_zero]; rfl
/-- a word that is not constant has a depth of one at least -/
theorem ldW_pos {k x : Nat} (hk : k ≤ 4) (hx : x < 2 ^ 2 ^ k) (hc : ¬ (x = 0 ∨ x = 2 ^ 2 ^ k - 1)) : 1 ≤ ldW k x := by
  have hcon : ¬ conL x (inX k 0 0) = true := by
    unfold conL
    rw [inX_zero, decide_eq_true_iff]
    exact fun h => hc ((cube_const hx).mp h)
  unfold ldW
  cases k with
  | zero => exact absurd ((Cb.zero (k := 0) (by omega)).con (by rw [pc_zero])) hcon
  | succ d =>
    rw [ldC, if_neg hcon]
    rcases bestOf_got2 (fun i => max (ldC (d + 1) (d + 1) x d (0 ||| 2 ^ i) 0) (ldC (d + 1) (d + 1) x d (0 ||| 2 ^ i) (0 ||| 2 ^ i))) (frL (d + 1) 0) (d + 1) with h | ⟨i, _, h⟩
    · rw [h]; omega
    · rw [h]; omega
def preOk (n m u : Nat) : Bool := (m == 0) || (List.range n).any fun i => m.testBit i &&
  (let m' := m ^^^ 2 ^ i; let u' := if u.testBit i then u ^^^ 2 ^ i else u; decide (m' < 2 ^ n) && decide (u' < 2 ^ n) && (andn u' m' == 0) && (frL n m').contains i && (m' ||| 2 ^ i == m) && ((u' == u) || (u' ||| 2 ^ i == u)) && (pc m' + 1 == pc m))
theorem preOk_all : allCubes preOk = true := by decide +kernel
theorem ld_chain {n v : Nat} : ∀ {p m u : Nat}, Cb n m u → pc m = p → ldC n n v (n - p) m u ≤ ldC n n v n 0 0
  | 0, m, u, h, hp => by
    have e : m = 0 ∧ u = 0 := by
      have h1 := allCubes_of preOk_all h.hn h.hm h.hu h.hum
      unfold preOk at h1
      rw [Bool.or_eq_true] at h1
      rcases h1 with h1 | h1
      · have hm := beq_iff_eq.mp h1
        subst hm
        have hu := h.hum
        refine ⟨rfl, ?_⟩
        have : u &&& 0 = u := subset_iff.mpr hu
        rw [Nat.and_zero] at this; exact this.symm
      · obtain ⟨i, _, hi⟩ := List.any_eq_true.mp h1
        simp only [Bool.and_eq_true] at hi
        have := beq_iff_eq.mp hi.2.2
        omega
    obtain ⟨rfl, rfl⟩ := e
    exact Nat.le_refl _
  | p + 1, m, u, h, hp => by
    have h1 := allCubes_of preOk_all h.hn h.hm h.hu h.hum
    unfold preOk at h1
    rw [Bool.or_eq_true] at h1
    rcases h1 with h1 | h1
    · have hm := beq_iff_eq.mp h1
      subst hm
      rw [pc_zero] at hp; omega
    · obtain ⟨i, _, hi⟩ := List.any_eq_true.mp h1
      simp only [Bool.and_eq_true] at hi
      obtain ⟨_, ⟨⟨⟨⟨⟨q1, q2⟩, q3⟩, q4⟩, q5⟩, q6⟩, q7⟩ := hi
      have q1 := of_decide_eq_true q1
      have q2 := of_decide_eq_true q2
      have q3 := beq_iff_eq.mp q3
      have q4 : i ∈ frL n (m ^^^ 2 ^ i) := by simpa using q4
      have q5 := beq_iff_eq.mp q5
      have q7 := beq_iff_eq.mp q7
      generalize m ^^^ 2 ^ i = m' at *
      generalize (if u.testBit i = true then u ^^^ 2 ^ i else u) = u' at *
      have hc : Cb n m' u' := ⟨h.hn, q1, q2, q3⟩
      have hpl := h.pc_le
      have hpart := ldC_part (v := v) (b := n) (Nat.le_refl n) (d := n - (p + 1)) hc (by omega) q4
      have ih := ld_chain (v := v) (p := p) hc (by omega)
      rw [show n - p = n - (p + 1) + 1 by omega] at ih
      rw [q5] at hpart
      rw [Bool.or_eq_true] at q6
      rcases q6 with e | e
      · have e := beq_iff_eq.mp e
        rw [e] at hpart ih
        exact Nat.le_trans hpart.1 ih
      · have e := beq_iff_eq.mp e
        rw [e] at hpart
        exact Nat.le_trans hpart.2 ih
/-! degrees -/
theorem sumZ_map (g : Nat → Int) : ∀ m, sumZ g m = ((List.range m).map g).sum
  | 0 => rfl
  | m + 1 => by
    rw [sumZ, sumZ_map g m, List.range_succ, List.map_append, List.sum_append]
    simp
/-- all words of the subcubes -/
theorem words_of {n v k : Nat} {x : Nat} (hn : n ≤ 4) (hv : v < 2 ^ 2 ^ n) (h : x ∈ cutAll n v k (2 ^ n)) : ∃ m u, Cb n m u ∧ pc m + k = n ∧ x = (cutS n v m u n).2 := by
  rw [cutAll_cubes] at h
  obtain ⟨c, hc, rfl⟩ := List.mem_map.mp h
  obtain ⟨h1, h2⟩ := cubeL_mem hn hc
  exact ⟨c.1, c.2, h1, h2, rfl⟩
theorem ld_words {n v k x : Nat} (hn : n ≤ 4) (hv : v < 2 ^ 2 ^ n) (h : x ∈ cutAll n v k (2 ^ n)) : ldW k x ≤ ldW n v := by
  obtain ⟨m, u, hc, hp, rfl⟩ := words_of hn hv h
  unfold ldW
  rw [ldC_whole (b := k) (c := n) (Nat.le_refl k) (Nat.le_refl n) hc hv hp]
  have := ld_chain (v := v) (p := pc m) hc rfl
  rw [show n - pc m = k by omega] at this
  exact this
theorem words_len (n v k : Nat) : (cutAll n v k (2 ^ n)).length = lenC n k := by rw [cutAll_cubes, List.length_map]; rfl
/-- the sum of depths: at least as many as are not constant, at most all of the whole's -/
theorem depth_low {k : Nat} (hk : k ≤ 4) : ∀ l : List Nat, (∀ x ∈ l, x < 2 ^ 2 ^ k) → l.length ≤ (l.filter fun x => decide (x = 0 ∨ x = 2 ^ 2 ^ k - 1)).length + sumL (ldW k) l
  | [], _ => Nat.zero_le _
  | y :: t, h => by
    have hy := h y (List.mem_cons_self ..)
    have ih := depth_low hk t (fun x hx => h x (List.mem_cons_of_mem _ hx))
    rw [List.filter_cons, sumL_cons, List.length_cons]
    by_cases hc : y = 0 ∨ y = 2 ^ 2 ^ k - 1
    · rw [if_pos (decide_eq_true hc), List.length_cons]; omega
    · have := ldW_pos hk hy hc
      rw [if_neg (by simpa using hc)]; omega
theorem depth_high {n v k : Nat} (hn : n ≤ 4) (hv : v < 2 ^ 2 ^ n) : sumL (ldW k) (cutAll n v k (2 ^ n)) ≤ lenC n k * ldW n v := by
  have h := sumL_le (f := ldW k) (g := fun _ => ldW n v) (l := cutAll n v k (2 ^ n)) (fun x hx => ld_words hn hv hx)
  rw [sumL_const, words_len] at h
  exact h
theorem depth_whole {n v : Nat} (hn : n ≤ 4) (hv : v < 2 ^ 2 ^ n) : sumL (ldW n) (cutAll n v n (2 ^ n)) = ldW n v := by
  rw [cutAll_cubes, cubeL_whole n (by omega)]
  unfold sumL
  simp only [List.map_cons, List.map_nil, List.sum_cons, List.sum_nil, Nat.add_zero]
  unfold ldW
  exact ldC_whole (Nat.le_refl n) (Nat.le_refl n) (Cb.zero hn) hv (by rw [pc_zero]; omega)
/-- the share of the ones -/
theorem per_div (n k : Nat) : Int.tdiv (((lenC n k * 2 ^ k : Nat)) : Int) ((2 ^ n : Nat) : Int) = ((perC n k : Nat) : Int) := by
  unfold perC
  exact (Int.ofNat_tdiv _ _).symm
end Go.Proofs.Ythekbiofjhkecaa.M
