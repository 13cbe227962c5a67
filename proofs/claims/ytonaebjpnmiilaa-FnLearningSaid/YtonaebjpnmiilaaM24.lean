/- Several texts of this repo's programs in one: plain lemmas, or functions of the given program as plain Lean functions with proofs that their calls compute them. -/
import Derived.Test.YtonaebjpnmiilaaWMore
import Derived.Test.YtonaebjpnmiilaaWLast
import Derived.Laws.BitsLemmas
import Derived.Laws.Bits64
import Derived.Laws.BitsAllLaws
namespace Go.Proofs.Ytonaebjpnmiilaa.M
open Go.RowKit Go.Proofs.YtonaebjpnmiilaaW.PrintWords Go.Proofs.YtonaebjpnmiilaaW.PrintLast
set_option linter.unusedVariables false
set_option linter.unusedSimpArgs false

theorem w64 {x : Int} (h : -9223372036854775808 ≤ x) (h2 : x ≤ 9223372036854775807) : wrap64 x = x := by unfold wrap64; omega
theorem wi64 (n : Int) (h0 : 0 ≤ n) (h1 : n < 2 ^ 63) : Go.IntKind.i64.wrap n = n := by rw [Go.IntKind.wrap_i64]; omega
theorem p63 {n : Nat} (h : n ≤ 62) : 2 ^ n < 2 ^ 63 := Nat.pow_lt_pow_right (by decide) (by omega)
theorem and_nat {a b : Nat} (ha : a < 2 ^ 63) (hb : b < 2 ^ 63) : Go.bits .and .i64 (a : Int) (b : Int) = ((a &&& b : Nat) : Int) := (Go.bits_nat .i64 63 (by decide) wi64 a b ha hb).1
theorem or_nat {a b : Nat} (ha : a < 2 ^ 63) (hb : b < 2 ^ 63) : Go.bits .or .i64 (a : Int) (b : Int) = ((a ||| b : Nat) : Int) := (Go.bits_nat .i64 63 (by decide) wi64 a b ha hb).2
theorem mod_bits {a : Nat} (ha : a < 2 ^ 63) : a % 2 ^ Go.IntKind.i64.bits = a := Nat.mod_eq_of_lt (by show a < 2 ^ 64; omega)
theorem cast_lt {a j : Nat} (h : a < 2 ^ j) : ((a : Nat) : Int) < 2 ^ j := by exact_mod_cast h
theorem xor_nat {a b : Nat} (ha : a < 2 ^ 63) (hb : b < 2 ^ 63) : Go.bits .xor .i64 (a : Int) (b : Int) = ((a ^^^ b : Nat) : Int) := by
  simp only [Go.bits, BitVec.ofInt_natCast, BitVec.toNat_xor, BitVec.toNat_ofNat, mod_bits ha, mod_bits hb]
  exact wi64 _ (Int.natCast_nonneg _) (cast_lt (Nat.xor_lt_two_pow ha hb))
/-- a without the bits of b -/
def andn (a b : Nat) : Nat := a &&& (a ^^^ b)
theorem testBit_andn (a b i : Nat) : (andn a b).testBit i = (a.testBit i && !b.testBit i) := by
  simp only [andn, Nat.testBit_and, Nat.testBit_xor]; cases a.testBit i <;> cases b.testBit i <;> rfl
theorem andn_lt {a b k : Nat} (h : a < 2 ^ k) : andn a b < 2 ^ k := Nat.lt_of_le_of_lt Nat.and_le_left h
theorem andNot_nat {a b : Nat} (ha : a < 2 ^ 63) (hb : b < 2 ^ 63) : Go.bits .andNot .i64 (a : Int) (b : Int) = ((andn a b : Nat) : Int) := by
  have e : a &&& (2 ^ Go.IntKind.i64.bits - 1 - b) = andn a b := by
    show a &&& (2 ^ 64 - 1 - b) = andn a b
    apply Nat.eq_of_testBit_eq; intro i
    rw [Nat.testBit_and, testBit_andn, show 2 ^ 64 - 1 - b = 2 ^ 64 - (b + 1) by omega, Nat.testBit_two_pow_sub_succ (by omega)]
    by_cases hi : i < 64
    · simp [hi]
    · have : a.testBit i = false := Nat.testBit_lt_two_pow (Nat.lt_of_lt_of_le (show a < 2 ^ 64 by omega) (Nat.pow_le_pow_right (by decide) (by omega)))
      simp [this]
  simp only [Go.bits, BitVec.ofInt_natCast, BitVec.toNat_and, BitVec.toNat_not, BitVec.toNat_ofNat, mod_bits ha, mod_bits hb, e]
  exact wi64 _ (Int.natCast_nonneg _) (cast_lt (andn_lt ha))

theorem min_bits {n : Nat} (h : n ≤ 64) : min (n : Int).toNat Go.IntKind.i64.bits = n := by simp [Go.IntKind.bits]; omega
theorem min_bitsu {n : Nat} (h : n ≤ 64) : min (n : Int).toNat Go.IntKind.u64.bits = n := by simp [Go.IntKind.bits]; omega
theorem shl_nat {x n : Nat} (hn : n ≤ 64) (h : x * 2 ^ n < 2 ^ 63) : shl .i64 (x : Int) (n : Int) = ((x * 2 ^ n : Nat) : Int) := by
  have h' : ((x * 2 ^ n : Nat) : Int) < 2 ^ 63 := by exact_mod_cast h
  have e : (x : Int) * 2 ^ n = ((x * 2 ^ n : Nat) : Int) := by push_cast; rfl
  unfold shl
  rw [min_bits hn, e, wi64 _ (Int.natCast_nonneg _) h']
theorem shl_one {n : Nat} (h : n ≤ 62) : shl .i64 1 (n : Int) = ((2 ^ n : Nat) : Int) := by
  have := shl_nat (x := 1) (n := n) (by omega) (by rw [Nat.one_mul]; exact p63 h)
  rw [Nat.one_mul] at this; exact this
theorem shlu_one {n : Nat} (h : n ≤ 63) : shl .u64 1 (n : Int) = ((2 ^ n : Nat) : Int) := by
  have h1 : 2 ^ n < 2 ^ 64 := Nat.pow_lt_pow_right (by decide) (by omega)
  have e : (2 : Int) ^ n = ((2 ^ n : Nat) : Int) := by push_cast; rfl
  unfold shl
  rw [min_bitsu (by omega), Int.one_mul, Go.IntKind.wrap_u64, e]
  obtain ⟨v, hv⟩ : ∃ v, v = 2 ^ n := ⟨_, rfl⟩
  rw [← hv] at h1 ⊢
  omega
theorem shr_nat {a n : Nat} (h : n ≤ 64) : shr .i64 (a : Int) (n : Int) = ((a / 2 ^ n : Nat) : Int) := by
  unfold shr; rw [min_bits h]; push_cast; rfl
theorem bit_of (a n : Nat) : (a / 2 ^ n) &&& 1 = (a.testBit n).toNat := by
  rw [Nat.and_one_is_mod, Nat.toNat_testBit]
theorem bit_nat {a n : Nat} (ha : a < 2 ^ 63) (h : n ≤ 64) : Go.bits .and .i64 (shr .i64 (a : Int) (n : Int)) 1 = (((a.testBit n).toNat : Nat) : Int) := by
  rw [shr_nat h, ← bit_of]
  exact and_nat (b := 1) (Nat.lt_of_le_of_lt (Nat.div_le_self _ _) ha) (by decide)
theorem toNat_lt (b : Bool) : b.toNat < 2 := by cases b <;> decide
theorem toNat_le (b : Bool) : b.toNat ≤ 1 := by cases b <;> decide

/-! what holds of all numbers below n, by reckoning -/
def allB (n : Nat) (p : Nat → Bool) : Bool := match n with | 0 => true | n + 1 => p n && allB n p
theorem allB_of {n : Nat} {p : Nat → Bool} (h : allB n p = true) : ∀ i, i < n → p i = true := by
  induction n with
  | zero => intro i hi; omega
  | succ n ih =>
    intro i hi
    rw [allB, Bool.and_eq_true] at h
    by_cases e : i = n
    · rw [e]; exact h.1
    · exact ih h.2 i (by omega)
theorem allB_dec {n : Nat} {P : Nat → Prop} [DecidablePred P] (h : allB n (fun i => decide (P i)) = true) : ∀ i, i < n → P i := fun i hi => of_decide_eq_true (allB_of h i hi)
theorem allB_dec2 {n m : Nat} {P : Nat → Nat → Prop} [∀ i j, Decidable (P i j)] (h : allB n (fun i => allB m (fun j => decide (P i j))) = true) : ∀ i, i < n → ∀ j, j < m → P i j := fun i hi j hj => of_decide_eq_true (allB_of (allB_of h i hi) j hj)
theorem allB_dec3 {n m l : Nat} {P : Nat → Nat → Nat → Prop} [∀ i j k, Decidable (P i j k)] (h : allB n (fun i => allB m (fun j => allB l (fun k => decide (P i j k)))) = true) : ∀ i, i < n → ∀ j, j < m → ∀ k, k < l → P i j k := fun i hi j hj k hk => of_decide_eq_true (allB_of (allB_of (allB_of h i hi) j hj) k hk)

/-! words: the number whose bits below m are told by g -/
def prefW (g : Nat → Bool) : Nat → Nat
  | 0 => 0
  | m + 1 => prefW g m ||| (g m).toNat * 2 ^ m
theorem prefW_lt (g : Nat → Bool) : ∀ m, prefW g m < 2 ^ m
  | 0 => by simp [prefW]
  | m + 1 => by
    have h := prefW_lt g m
    have h1 : (g m).toNat * 2 ^ m < 2 ^ (m + 1) := by
      rw [Nat.pow_succ]; have := Nat.two_pow_pos m
      cases g m <;> simp <;> omega
    exact Nat.or_lt_two_pow (Nat.lt_of_lt_of_le h (Nat.pow_le_pow_right (by decide) (by omega))) h1
theorem testBit_prefW (g : Nat → Bool) (i : Nat) : ∀ m, (prefW g m).testBit i = (decide (i < m) && g i)
  | 0 => by simp [prefW]
  | m + 1 => by
    rw [prefW, Nat.testBit_or, testBit_prefW g i m, Nat.testBit_mul_two_pow]
    rcases Nat.lt_trichotomy i m with h | h | h
    · have h1 : decide (m ≤ i) = false := by simpa using h
      have h2 : decide (i < m + 1) = true := by simp; omega
      have h3 : decide (i < m) = true := by simpa using h
      rw [h1, h2, h3]; simp
    · subst h
      cases g i <;> simp
    · have h2 : decide (i < m + 1) = false := by simp; omega
      have h3 : decide (i < m) = false := by simp; omega
      rw [h2, h3]
      have : ((g m).toNat).testBit (i - m) = false := Nat.testBit_lt_two_pow (Nat.lt_of_lt_of_le (toNat_lt _) (by
        have : 2 ^ 1 ≤ 2 ^ (i - m) := Nat.pow_le_pow_right (by decide) (by omega)
        omega))
      simp [this]
theorem prefW_congr {g g' : Nat → Bool} : ∀ {m : Nat}, (∀ i, i < m → g i = g' i) → prefW g m = prefW g' m
  | 0, _ => rfl
  | m + 1, h => by rw [prefW, prefW, prefW_congr (fun i hi => h i (by omega)), h m (by omega)]
theorem testBit_of_ge {w m i : Nat} (h : w < 2 ^ m) (hi : m ≤ i) : w.testBit i = false := Nat.testBit_lt_two_pow (Nat.lt_of_lt_of_le h (Nat.pow_le_pow_right (by decide) hi))
/-- one step of a loop that collects bits -/
theorem prefW_step {g : Nat → Bool} {x : Nat} (hx : x ≤ 61) : Go.bits .or .i64 ((prefW g x : Nat) : Int) (shl .i64 (((g x).toNat : Nat) : Int) (x : Int)) = ((prefW g (x + 1) : Nat) : Int) := by
  have h1 := prefW_lt g x
  have hp := p63 (n := x) (by omega)
  have h2 : (g x).toNat * 2 ^ x < 2 ^ 63 := by cases g x <;> simp; omega
  rw [shl_nat (by omega) h2, or_nat (by omega) h2]; rfl
theorem prefW_step_one {g : Nat → Bool} {x : Nat} (hx : x ≤ 61) (h : g x = true) : Go.bits .or .i64 ((prefW g x : Nat) : Int) (shl .i64 1 (x : Int)) = ((prefW g (x + 1) : Nat) : Int) := by
  have := prefW_step (g := g) hx
  rw [h] at this; exact this
theorem prefW_skip {g : Nat → Bool} {x : Nat} (h : g x = false) : prefW g (x + 1) = prefW g x := by rw [prefW, h]; simp

theorem subset_iff {a v : Nat} : a &&& v = a ↔ andn a v = 0 := by
  constructor
  · intro h
    apply Nat.eq_of_testBit_eq; intro i
    rw [testBit_andn, Nat.zero_testBit]
    have h1 : (a &&& v).testBit i = a.testBit i := by rw [h]
    rw [Nat.testBit_and] at h1
    revert h1; cases a.testBit i <;> cases v.testBit i <;> simp
  · intro h
    apply Nat.eq_of_testBit_eq; intro i
    have h1 : (andn a v).testBit i = false := by rw [h, Nat.zero_testBit]
    rw [testBit_andn] at h1
    rw [Nat.testBit_and]
    revert h1; cases a.testBit i <;> cases v.testBit i <;> simp
/-- an input with one bit more, at place i -/
def ins (x i b : Nat) : Nat := x / 2 ^ i * 2 ^ (i + 1) + b * 2 ^ i + x % 2 ^ i
/-- the word with variable i fixed to b -/
def rstW (n v i b : Nat) : Nat := prefW (fun x => v.testBit (ins x i b)) (2 ^ (n - 1))
theorem half16 {n : Nat} (hn : n ≤ 5) : 2 ^ (n - 1) ≤ 16 := by
  have := Nat.pow_le_pow_right (show 0 < 2 by decide) (show n - 1 ≤ 4 by omega)
  simpa using this
theorem toNat_beq1 (b : Bool) : (((b.toNat : Nat) : Int) == 1) = b := by cases b <;> rfl

/-! counting -/
def cnt (g : Nat → Bool) : Nat → Nat
  | 0 => 0
  | m + 1 => cnt g m + (g m).toNat
theorem cnt_congr {g g' : Nat → Bool} : ∀ {m : Nat}, (∀ i, i < m → g i = g' i) → cnt g m = cnt g' m
  | 0, _ => rfl
  | m + 1, h => by rw [cnt, cnt, cnt_congr (fun i hi => h i (by omega)), h m (by omega)]
theorem cnt_le (g : Nat → Bool) : ∀ m, cnt g m ≤ m
  | 0 => Nat.le_refl _
  | m + 1 => by have := cnt_le g m; have := toNat_le (g m); rw [cnt]; omega

/-! from numbers to their natural numbers -/
theorem nat_of {x : Int} (h : 0 ≤ x) : ∃ n : Nat, x = (n : Int) := ⟨x.toNat, by omega⟩
theorem pow_le_5 {n : Nat} (h : n ≤ 5) : 2 ^ n ≤ 32 := by
  have := Nat.pow_le_pow_right (show 0 < 2 by decide) h; simpa using this
theorem full_lt {n : Nat} (h : n ≤ 5) : 2 ^ (2 ^ n) ≤ 2 ^ 32 := Nat.pow_le_pow_right (by decide) (pow_le_5 h)
theorem full_p63 {n : Nat} (h : n ≤ 5) : 2 ^ (2 ^ n) < 2 ^ 63 := Nat.lt_of_le_of_lt (full_lt h) (by decide)

/-- is it a table: at most five variables, a word of as many bits as there are inputs -/
def isT (n w : Int) : Bool := decide (0 ≤ n ∧ n ≤ 5 ∧ 0 ≤ w ∧ w < ((2 ^ 2 ^ n.toNat : Nat) : Int))
theorem isT_nat {a b : Int} (h : isT a b = true) : ∃ n v : Nat, a = (n : Int) ∧ b = (v : Int) ∧ n ≤ 5 ∧ v < 2 ^ 2 ^ n := by
  have h' := of_decide_eq_true h
  obtain ⟨h1, h2, h3, h4⟩ := h'
  obtain ⟨n, rfl⟩ := nat_of h1
  obtain ⟨v, rfl⟩ := nat_of h3
  rw [Int.toNat_natCast] at h4
  exact ⟨n, v, rfl, rfl, by omega, by exact_mod_cast h4⟩
theorem isT_mk {n v : Nat} (hn : n ≤ 5) (hv : v < 2 ^ 2 ^ n) : isT (n : Int) (v : Int) = true := by
  have h : (v : Int) < ((2 ^ 2 ^ n : Nat) : Int) := by exact_mod_cast hv
  simp only [isT, decide_eq_true_eq, Int.toNat_natCast]
  exact ⟨by omega, by omega, by omega, h⟩
theorem full_word {n : Nat} (h : n ≤ 5) : wrap64 ((shl .i64 1 (shl .u64 1 (n : Int))) - 1) = ((2 ^ 2 ^ n : Nat) : Int) - 1 := by
  have h5 := pow_le_5 h
  have hf := full_p63 h
  have hp := Nat.two_pow_pos (2 ^ n)
  rw [shlu_one (by omega), shl_one (by omega), w64 (by omega) (by omega)]
/-! both sides of a law come to one answer -/
/-! loops that go up by one, told from some number of rounds on -/
/-- what a loop's state is, from i on, after d rounds -/
def iter {S : Type} (step : Nat → S → S) : Nat → Nat → S → S
  | _, 0, s => s
  | i, d + 1, s => iter step (i + 1) d (step i s)
theorem Ev.up {S α : Type} (F : Nat → S → Nat → Option α) (N : Nat) (I : Nat → S → Prop) (step : Nat → S → S) (r : α)
    (hI : ∀ i s, i < N → I i s → I (i + 1) (step i s))
    (hs : ∀ i s, i < N → I i s → Ev (fun k => F k (step i s) (i + 1)) r → Ev (fun k => F k s i) r) :
    ∀ d i s, i + d = N → I i s → (I N (iter step i d s) → Ev (fun k => F k (iter step i d s) N) r) → Ev (fun k => F k s i) r := by
  intro d
  induction d with
  | zero => intro i s hi h k; obtain rfl : i = N := by omega
            exact k h
  | succ d ih => intro i s hi h k; exact hs i s (by omega) h (ih (i + 1) (step i s) (by omega) (hI i s (by omega) h) k)
/-- the state at i is told by a function of i: each round leads from st i to st (i+1) -/
theorem Ev.count {α : Type} (F : Nat → Nat → Option α) (N : Nat) (r : α)
    (hs : ∀ i, i < N → Ev (fun k => F k (i + 1)) r → Ev (fun k => F k i) r) (he : Ev (fun k => F k N) r) : ∀ d i, i + d = N → Ev (fun k => F k i) r := by
  intro d
  induction d with
  | zero => intro i hi; obtain rfl : i = N := by omega
            exact he
  | succ d ih => intro i hi; exact hs i (by omega) (ih (i + 1) (by omega))
theorem Ev.end {α : Type} {g : Nat → Option α} {r : α} (h : ∀ k, g (k + 1) = some r) : Ev g r := Ev.step h (Ev.now r)

end Go.Proofs.Ytonaebjpnmiilaa.M
namespace Go.Proofs.Ytonaebjpnmiilaa.M
open Go.RowKit Go.Proofs.YtonaebjpnmiilaaW.PrintWords Go.Proofs.YtonaebjpnmiilaaW.PrintLast
set_option linter.unusedVariables false
set_option linter.unusedSimpArgs false

/-- a list of l's length, the first i of whose elements are made -/
def fillAt {α β : Type} (f : α → β) (z : β) (l : List α) (i : Nat) : List β := (l.take i).map f ++ List.replicate (l.length - i) z
theorem fillAt_zero {α β : Type} (f : α → β) (z : β) (l : List α) : fillAt f z l 0 = List.replicate l.length z := by simp [fillAt]
theorem fillAt_all {α β : Type} (f : α → β) (z : β) (l : List α) : fillAt f z l l.length = l.map f := by simp [fillAt]
theorem fillAt_length {α β : Type} (f : α → β) (z : β) (l : List α) {i : Nat} (h : i ≤ l.length) : (fillAt f z l i).length = l.length := by simp [fillAt]; omega
theorem fillAt_set {α β : Type} (f : α → β) (z : β) (l : List α) (d : α) {i : Nat} (h : i < l.length) : (fillAt f z l i).set i (f (l.getD i d)) = fillAt f z l (i + 1) := by
  apply List.ext_getElem?
  intro j
  have e : l.getD i d = l[i] := by simp [List.getD_eq_getElem?_getD, h]
  rw [e, List.getElem?_set, fillAt_length f z l (by omega)]
  unfold fillAt
  by_cases hj : i = j
  · subst hj
    rw [if_pos rfl, if_pos h, List.getElem?_append_left (by simp; omega)]
    simp [h]
  · rw [if_neg hj]
    by_cases h2 : j < i
    · rw [List.getElem?_append_left (by simp; omega), List.getElem?_append_left (by simp; omega)]
      simp [List.getElem?_take, h2, show j < i + 1 by omega]
    · rw [List.getElem?_append_right (by simp; omega), List.getElem?_append_right (by simp; omega)]
      simp [List.getElem?_replicate, Nat.min_eq_left (Nat.le_of_lt h), Nat.min_eq_left (show i + 1 ≤ l.length by omega)]
      by_cases h3 : j < l.length
      · simp [show j - i < l.length - i by omega, show j - (i + 1) < l.length - (i + 1) by omega]
      · simp [show ¬ j - i < l.length - i by omega, show ¬ j - (i + 1) < l.length - (i + 1) by omega]

end Go.Proofs.Ytonaebjpnmiilaa.M
namespace Go.Proofs.Ytonaebjpnmiilaa.M
open Go.RowKit Go.Proofs.YtonaebjpnmiilaaW.PrintWords Go.Proofs.YtonaebjpnmiilaaW.PrintLast
set_option linter.unusedVariables false
set_option linter.unusedSimpArgs false

theorem tb_cat {c y : Nat} (hc : c < 256) (j : Nat) : (c + 256 * y).testBit j = if j < 8 then c.testBit j else y.testBit (j - 8) := by
  rw [Nat.add_comm]; exact Nat.testBit_two_pow_mul_add (i := 8) y hc j
theorem and_cat {c d y z : Nat} (hc : c < 256) (hd : d < 256) : (c + 256 * y) &&& (d + 256 * z) = (c &&& d) + 256 * (y &&& z) := by
  have h : c &&& d < 256 := Nat.lt_of_le_of_lt Nat.and_le_left hc
  apply Nat.eq_of_testBit_eq; intro i
  rw [Nat.testBit_and, tb_cat hc, tb_cat hd, tb_cat h]
  split <;> rw [Nat.testBit_and]
def repB (d : Nat) : Nat → Nat
  | 0 => 0
  | k + 1 => d + 256 * repB d k
def sA (k x : Nat) : Nat := (x / 2 &&& repB 85 k) + (x &&& repB 85 k)
def sB (k x : Nat) : Nat := (x / 4 &&& repB 51 k) + (x &&& repB 51 k)
def sC (k x : Nat) : Nat := (x / 16 + x) &&& repB 15 k
def bA (c : Nat) : Nat := (c / 2 &&& 85) + (c &&& 85)
def bB (c : Nat) : Nat := (c / 4 &&& 51) + (c &&& 51)
def bP (c : Nat) : Nat := cnt c.testBit 8
theorem bA_lt : ∀ c, c < 256 → bA c < 256 := allB_dec (by decide +kernel)
theorem bB_lt : ∀ c, c < 256 → bB (bA c) ≤ 68 ∧ bB (bA c) % 16 ≤ 4 ∧ (bB (bA c) / 16 + bB (bA c)) % 16 = bP c ∧ bP c ≤ 8 := allB_dec (by decide +kernel)
theorem hA1 : ∀ c, c < 256 → ∀ t, t < 2 → (c / 2 + 128 * t) &&& 85 = c / 2 &&& 85 := allB_dec2 (by decide +kernel)
theorem hB1 : ∀ c, c < 256 → ∀ t, t < 4 → (c / 4 + 64 * t) &&& 51 = c / 4 &&& 51 := allB_dec2 (by decide +kernel)
theorem sA_step {c y : Nat} (hc : c < 256) (k : Nat) : sA (k + 1) (c + 256 * y) = bA c + 256 * sA k y := by
  have e : (c + 256 * y) / 2 = (c / 2 + 128 * (y % 2)) + 256 * (y / 2) := by omega
  simp only [sA, repB, bA]
  rw [e, and_cat (by omega) (by omega), and_cat hc (by omega), hA1 c hc _ (by omega)]
  omega
theorem sB_step {c y : Nat} (hc : c < 256) (k : Nat) : sB (k + 1) (c + 256 * y) = bB c + 256 * sB k y := by
  have e : (c + 256 * y) / 4 = (c / 4 + 64 * (y % 4)) + 256 * (y / 4) := by omega
  simp only [sB, repB, bB]
  rw [e, and_cat (by omega) (by omega), and_cat hc (by omega), hB1 c hc _ (by omega)]
  omega
theorem sC_step {c y : Nat} (hc : c ≤ 68) (hy : y % 16 ≤ 4) (k : Nat) : sC (k + 1) (c + 256 * y) = (c / 16 + c) % 16 + 256 * sC k y := by
  have e : (c + 256 * y) / 16 + (c + 256 * y) = (c / 16 + 16 * (y % 16) + c) + 256 * (y / 16 + y) := by omega
  simp only [sC, repB]
  rw [e, and_cat (by omega) (by omega)]
  have : (c / 16 + 16 * (y % 16) + c) &&& 15 = (c / 16 + c) % 16 := by
    rw [show 15 = 2 ^ 4 - 1 from rfl, Nat.and_two_pow_sub_one_eq_mod]; omega
  rw [this]
theorem s0 (k : Nat) : sA k 0 = 0 ∧ sB k 0 = 0 ∧ sC k 0 = 0 := by simp [sA, sB, sC]
/-- the bytes' own counts, side by side -/
theorem swar {c0 c1 c2 c3 : Nat} (h0 : c0 < 256) (h1 : c1 < 256) (h2 : c2 < 256) (h3 : c3 < 256) :
    sC 8 (sB 8 (sA 8 (c0 + 256 * (c1 + 256 * (c2 + 256 * (c3 + 256 * 0)))))) = bP c0 + 256 * (bP c1 + 256 * (bP c2 + 256 * (bP c3 + 256 * 0))) := by
  rw [sA_step h0, sA_step h1, sA_step h2, sA_step h3, (s0 4).1, sB_step (bA_lt _ h0), sB_step (bA_lt _ h1), sB_step (bA_lt _ h2), sB_step (bA_lt _ h3), (s0 4).2.1]
  obtain ⟨a0, b0, e0, _⟩ := bB_lt c0 h0
  obtain ⟨a1, b1, e1, _⟩ := bB_lt c1 h1
  obtain ⟨a2, b2, e2, _⟩ := bB_lt c2 h2
  obtain ⟨a3, b3, e3, _⟩ := bB_lt c3 h3
  rw [sC_step a0 (by omega), sC_step a1 (by omega), sC_step a2 (by omega), sC_step a3 (by omega), (s0 4).2.2, e0, e1, e2, e3]
theorem cnt_cat {c y : Nat} (hc : c < 256) : ∀ m, cnt (c + 256 * y).testBit (8 + m) = bP c + cnt y.testBit m
  | 0 => by rw [Nat.add_zero, cnt, Nat.add_zero]; exact cnt_congr (fun i hi => by rw [tb_cat hc, if_pos hi])
  | m + 1 => by
    rw [← Nat.add_assoc, cnt, cnt_cat hc m, cnt, tb_cat hc, if_neg (by omega), show 8 + m - 8 = m by omega]; omega
/-- how many ones -/
def pc (w : Nat) : Nat := cnt w.testBit 32
theorem pc_bytes {c0 c1 c2 c3 : Nat} (h0 : c0 < 256) (h1 : c1 < 256) (h2 : c2 < 256) (h3 : c3 < 256) :
    pc (c0 + 256 * (c1 + 256 * (c2 + 256 * (c3 + 256 * 0)))) = bP c0 + bP c1 + bP c2 + bP c3 := by
  unfold pc
  rw [show 32 = 8 + (8 + (8 + (8 + 0))) from rfl, cnt_cat h0, cnt_cat h1, cnt_cat h2, cnt_cat h3]; simp [cnt]; omega
theorem bytes_of {w : Nat} (h : w < 2 ^ 32) : ∃ c0 c1 c2 c3 : Nat, c0 < 256 ∧ c1 < 256 ∧ c2 < 256 ∧ c3 < 256 ∧ w = c0 + 256 * (c1 + 256 * (c2 + 256 * (c3 + 256 * 0))) :=
  ⟨w % 256, w / 256 % 256, w / 65536 % 256, w / 16777216, by omega, by omega, by omega, by omega, by omega⟩
theorem cnt_zero : ∀ m, cnt (0 : Nat).testBit m = 0
  | 0 => rfl
  | m + 1 => by rw [cnt, cnt_zero m, Nat.zero_testBit]; rfl
theorem cnt_head (g : Nat → Bool) : ∀ m, cnt g (m + 1) = (g 0).toNat + cnt (fun i => g (i + 1)) m
  | 0 => by simp [cnt]
  | m + 1 => by rw [cnt, cnt_head g m, cnt]; omega
theorem cnt_half (w m : Nat) : cnt w.testBit (m + 1) = w % 2 + cnt (w / 2).testBit m := by
  rw [cnt_head]
  have e : (w.testBit 0).toNat = w % 2 := by rw [Nat.toNat_testBit]; simp
  rw [e]
  congr 1
  exact cnt_congr (fun i _ => by rw [Nat.testBit_succ])
theorem pc_of_lt {w m : Nat} (h : w < 2 ^ m) : ∀ d, cnt w.testBit (m + d) = cnt w.testBit m
  | 0 => rfl
  | d + 1 => by rw [← Nat.add_assoc, cnt, pc_of_lt h d, testBit_of_ge h (by omega)]; rfl
theorem pc_le (w : Nat) : pc w ≤ 32 := cnt_le _ _

theorem u64n {n : Nat} (h : n < 2 ^ 64) : Go.IntKind.u64.wrap (n : Int) = (n : Int) := by rw [Go.IntKind.wrap_u64]; omega
theorem u64and {a b : Nat} (ha : a < 2 ^ 64) (hb : b < 2 ^ 64) : Go.bits .and .u64 (a : Int) (b : Int) = ((a &&& b : Nat) : Int) := Go.u64_and_nat a b ha hb
theorem sA_eq {x : Nat} (hx : x < 2 ^ 32) : Go.IntKind.u64.wrap (Go.bits .and .u64 ((x : Int) / 2) 6148914691236517205 + Go.bits .and .u64 (x : Int) 6148914691236517205) = ((sA 8 x : Nat) : Int) := by
  have e : ((x : Int) / 2) = ((x / 2 : Nat) : Int) := by omega
  have e2 : (6148914691236517205 : Int) = ((repB 85 8 : Nat) : Int) := by decide
  have l1 : x / 2 &&& repB 85 8 ≤ x / 2 := Nat.and_le_left
  have l2 : x &&& repB 85 8 ≤ x := Nat.and_le_left
  rw [e, e2, u64and (by omega) (by decide), u64and (by omega) (by decide), ← Int.natCast_add, u64n (by omega)]; rfl
theorem sB_eq {x : Nat} (hx : x < 2 ^ 33) : Go.IntKind.u64.wrap (Go.bits .and .u64 ((x : Int) / 4) 3689348814741910323 + Go.bits .and .u64 (x : Int) 3689348814741910323) = ((sB 8 x : Nat) : Int) := by
  have e : ((x : Int) / 4) = ((x / 4 : Nat) : Int) := by omega
  have e2 : (3689348814741910323 : Int) = ((repB 51 8 : Nat) : Int) := by decide
  have l1 : x / 4 &&& repB 51 8 ≤ x / 4 := Nat.and_le_left
  have l2 : x &&& repB 51 8 ≤ x := Nat.and_le_left
  rw [e, e2, u64and (by omega) (by decide), u64and (by omega) (by decide), ← Int.natCast_add, u64n (by omega)]; rfl
theorem sC_eq {x : Nat} (hx : x < 2 ^ 34) : Go.bits .and .u64 (Go.IntKind.u64.wrap ((x : Int) / 16 + (x : Int))) 1085102592571150095 = ((sC 8 x : Nat) : Int) := by
  have e : ((x : Int) / 16) = ((x / 16 : Nat) : Int) := by omega
  have e2 : (1085102592571150095 : Int) = ((repB 15 8 : Nat) : Int) := by decide
  rw [e, e2, ← Int.natCast_add, u64n (by omega), u64and (by omega) (by decide)]; rfl
theorem sA_lt {x : Nat} (hx : x < 2 ^ 32) : sA 8 x < 2 ^ 33 := by
  have l1 : x / 2 &&& repB 85 8 ≤ x / 2 := Nat.and_le_left
  have l2 : x &&& repB 85 8 ≤ x := Nat.and_le_left
  unfold sA; omega
theorem sB_lt {x : Nat} (hx : x < 2 ^ 33) : sB 8 x < 2 ^ 34 := by
  have l1 : x / 4 &&& repB 51 8 ≤ x / 4 := Nat.and_le_left
  have l2 : x &&& repB 51 8 ≤ x := Nat.and_le_left
  unfold sB; omega
theorem last_sums {p0 p1 p2 p3 : Nat} (h0 : p0 ≤ 8) (h1 : p1 ≤ 8) (h2 : p2 ≤ 8) (h3 : p3 ≤ 8) (T U V : Nat) (hT : T = p0 + 256 * (p1 + 256 * (p2 + 256 * (p3 + 256 * 0)))) (hU : U = T + T / 256) (hV : V = U + U / 65536) :
    T < 2 ^ 32 ∧ U < 2 ^ 33 ∧ V < 2 ^ 34 ∧ (V + V / 4294967296) % 128 = p0 + p1 + p2 + p3 := by
  have bT : T < 2 ^ 32 := by omega
  have a1 : T / 256 = p1 + 256 * p2 + 65536 * p3 := by omega
  have a2 : U = (p0 + p1) + 256 * (p1 + p2) + 65536 * (p2 + p3) + 16777216 * p3 := by omega
  have bU : U < 2 ^ 33 := by omega
  clear hU a1 hT
  have a3 : U / 65536 = (p2 + p3) + 256 * p3 := by omega
  have a4 : V = (p0 + p1 + p2 + p3) + 256 * (p1 + p2 + p3) + 65536 * (p2 + p3) + 16777216 * p3 := by omega
  clear a3 hV
  have a5 : V / 4294967296 = 0 := by omega
  exact ⟨bT, bU, by omega, by omega⟩
theorem uw1 {T U : Nat} (hU : U = T + T / 256) (h : T < 2 ^ 32) : Go.IntKind.u64.wrap ((T : Int) + (T : Int) / 256) = (U : Int) := by rw [Go.IntKind.wrap_u64]; omega
theorem uw2 {T U : Nat} (hU : U = T + T / 65536) (h : T < 2 ^ 33) : Go.IntKind.u64.wrap ((T : Int) + (T : Int) / 65536) = (U : Int) := by rw [Go.IntKind.wrap_u64]; omega
theorem uw3 {V : Nat} (h : V < 2 ^ 34) : Go.IntKind.u64.wrap ((V : Int) + (V : Int) / 4294967296) = ((V + V / 4294967296 : Nat) : Int) := by rw [Go.IntKind.wrap_u64]; omega
theorem uw4 {X : Nat} (h : X < 2 ^ 36) : Go.bits .and .i64 (wrap64 (X : Int)) 127 = ((X % 128 : Nat) : Int) := by
  have e127 : (127 : Int) = ((127 : Nat) : Int) := rfl
  rw [w64 (by omega) (by omega), e127, and_nat (by omega) (by decide)]
  congr 1
  exact Nat.and_two_pow_sub_one_eq_mod X 7
/-- the last sums -/
theorem swar_end {w T : Nat} (h : w < 2 ^ 32) (hT : T = sC 8 (sB 8 (sA 8 w))) (r : Int)
    (hr : r = Go.bits .and .i64 (wrap64 (Go.IntKind.u64.wrap (Go.IntKind.u64.wrap (Go.IntKind.u64.wrap ((T : Int) + (T : Int) / 256) + Go.IntKind.u64.wrap ((T : Int) + (T : Int) / 256) / 65536) + Go.IntKind.u64.wrap (Go.IntKind.u64.wrap ((T : Int) + (T : Int) / 256) + Go.IntKind.u64.wrap ((T : Int) + (T : Int) / 256) / 65536) / 4294967296))) 127) : r = ((pc w : Nat) : Int) := by
  obtain ⟨c0, c1, c2, c3, h0, h1, h2, h3, rfl⟩ := bytes_of h
  rw [swar h0 h1 h2 h3] at hT
  rw [pc_bytes h0 h1 h2 h3]
  obtain ⟨_, _, _, p0⟩ := bB_lt c0 h0
  obtain ⟨_, _, _, p1⟩ := bB_lt c1 h1
  obtain ⟨_, _, _, p2⟩ := bB_lt c2 h2
  obtain ⟨_, _, _, p3⟩ := bB_lt c3 h3
  obtain ⟨U, hU⟩ : ∃ U, U = T + T / 256 := ⟨_, rfl⟩
  obtain ⟨V, hV⟩ : ∃ V, V = U + U / 65536 := ⟨_, rfl⟩
  obtain ⟨b1, b2, b3, b4⟩ := last_sums p0 p1 p2 p3 T U V hT hU hV
  rw [uw1 hU b1, uw2 hV b2, uw3 b3] at hr
  have b5 : V + V / 4294967296 < 2 ^ 36 := by clear hr; omega
  rw [uw4 b5, b4] at hr
  exact hr

end Go.Proofs.Ytonaebjpnmiilaa.M
namespace Go.Proofs.Ytonaebjpnmiilaa.M
open Go.RowKit Go.Proofs.YtonaebjpnmiilaaW.PrintWords Go.Proofs.YtonaebjpnmiilaaW.PrintLast
set_option linter.unusedVariables false
set_option linter.unusedSimpArgs false

theorem up1 {x : Nat} (h : x ≤ 1000000000000) : wrap64 ((x : Int) + 1) = ((x + 1 : Nat) : Int) := by rw [w64 (by omega) (by omega)]; omega

end Go.Proofs.Ytonaebjpnmiilaa.M
namespace Go.Proofs.Ytonaebjpnmiilaa.M
open Go.RowKit Go.Proofs.YtonaebjpnmiilaaW.PrintWords Go.Proofs.YtonaebjpnmiilaaW.PrintLast
set_option linter.unusedVariables false
set_option linter.unusedSimpArgs false

/-- the sum of those of the first i columns whose variables are 1 -/
def img (g : Nat → Nat) (x : Nat) : Nat → Nat
  | 0 => 0
  | i + 1 => if x.testBit i = true then img g x i ^^^ g i else img g x i
theorem img_congr_x {g : Nat → Nat} {x y : Nat} : ∀ {i : Nat}, (∀ j, j < i → x.testBit j = y.testBit j) → img g x i = img g y i
  | 0, _ => rfl
  | i + 1, h => by rw [img, img, img_congr_x (fun j hj => h j (by omega)), h i (by omega)]
theorem img_xor (g : Nat → Nat) (x y : Nat) : ∀ i, img g (x ^^^ y) i = img g x i ^^^ img g y i
  | 0 => by simp [img]
  | i + 1 => by
    have ih := img_xor g x y i
    simp only [img, Nat.testBit_xor, ih]
    cases x.testBit i <;> cases y.testBit i <;> simp
    · rw [Nat.xor_assoc]
    · rw [Nat.xor_assoc, Nat.xor_comm (img g y i) (g i), ← Nat.xor_assoc]
    · rw [Nat.xor_assoc, Nat.xor_comm (g i), Nat.xor_assoc, Nat.xor_self, Nat.xor_zero]
theorem img_zero (g : Nat → Nat) : ∀ i, img g 0 i = 0
  | 0 => rfl
  | i + 1 => by rw [img, img_zero g i]; simp
theorem img_low {g : Nat → Nat} {x i : Nat} (h : x < 2 ^ i) : ∀ d, img g x (i + d) = img g x i
  | 0 => rfl
  | d + 1 => by rw [← Nat.add_assoc, img, testBit_of_ge h (by omega), img_low h d]; simp
theorem img_top {g : Nat → Nat} {x i : Nat} (h : x < 2 ^ i) : img g (2 ^ i + x) (i + 1) = img g x i ^^^ g i := by
  have e : (2 ^ i + x).testBit i = true := by rw [Nat.testBit_two_pow_add_eq, testBit_of_ge h (Nat.le_refl _)]; rfl
  rw [img, e, if_pos rfl]
  congr 1
  exact img_congr_x (fun j hj => by rw [Nat.testBit_two_pow_add_gt hj])
/-! a list of numbers, each made less by those before it -/
def red : List Nat → Nat → Nat
  | [], x => x
  | b :: t, x => red t (min x (x ^^^ b))
/-- c has not the leading bit of b -/
def Clear (b c : Nat) : Prop := min c (c ^^^ b) = c
theorem min_lt {x b : Nat} (hx : x < 32) (hb : b < 32) : min x (x ^^^ b) < 32 := Nat.lt_of_le_of_lt (Nat.min_le_left _ _) hx
theorem clear_xor : ∀ b, b < 32 → ∀ x, x < 32 → ∀ c, c < 32 → (min c (c ^^^ b) = c → min (x ^^^ c) ((x ^^^ c) ^^^ b) = min x (x ^^^ b) ^^^ c) :=
  allB_dec3 (P := fun b x c => min c (c ^^^ b) = c → min (x ^^^ c) ((x ^^^ c) ^^^ b) = min x (x ^^^ b) ^^^ c) (by decide +kernel)
theorem clear_self : ∀ b, b < 32 → ∀ x, x < 32 → (min (min x (x ^^^ b)) (min x (x ^^^ b) ^^^ b) = min x (x ^^^ b) ∧ min (x ^^^ b) ((x ^^^ b) ^^^ b) = min x (x ^^^ b)) :=
  allB_dec2 (P := fun b x => min (min x (x ^^^ b)) (min x (x ^^^ b) ^^^ b) = min x (x ^^^ b) ∧ min (x ^^^ b) ((x ^^^ b) ^^^ b) = min x (x ^^^ b)) (by decide +kernel)
theorem x32 {a b : Nat} (ha : a < 32) (hb : b < 32) : a ^^^ b < 32 := Nat.xor_lt_two_pow (n := 5) ha hb
theorem red_lt : ∀ {l : List Nat} {x : Nat}, (∀ b ∈ l, b < 32) → x < 32 → red l x < 32
  | [], _, _, hx => hx
  | b :: t, x, h, hx => red_lt (l := t) (fun c hc => h c (List.mem_cons_of_mem _ hc)) (min_lt hx (h b List.mem_cons_self))
theorem red_append : ∀ (l : List Nat) (r x : Nat), red (l ++ [r]) x = min (red l x) (red l x ^^^ r)
  | [], _, _ => rfl
  | b :: t, r, x => by rw [List.cons_append, red, red_append t r]; rfl
/-- what a list takes away is a sum of the list's own -/
theorem red_diff {P : Nat → Prop} (hz : P 0) (hx : ∀ a b, P a → P b → P (a ^^^ b)) : ∀ {l : List Nat} {x : Nat}, (∀ b ∈ l, P b) → P (red l x ^^^ x)
  | [], x, _ => by rw [red, Nat.xor_self]; exact hz
  | b :: t, x, h => by
    have ih := red_diff hz hx (l := t) (x := min x (x ^^^ b)) (fun c hc => h c (List.mem_cons_of_mem _ hc))
    rw [red]
    by_cases e : x ≤ x ^^^ b
    · rw [Nat.min_eq_left e] at ih ⊢; exact ih
    · rw [Nat.min_eq_right (by omega)] at ih ⊢
      have := hx _ _ ih (h b List.mem_cons_self)
      rw [Nat.xor_assoc, Nat.xor_assoc, Nat.xor_self, Nat.xor_zero] at this
      exact this
theorem red_inv : ∀ {l : List Nat} {c y : Nat}, (∀ b ∈ l, b < 32) → l.Pairwise Clear → c ∈ l → y < 32 → red l (y ^^^ c) = red l y
  | b :: t, c, y, hl, hp, hc, hy => by
    have hb := hl b List.mem_cons_self
    have ht : ∀ c ∈ t, c < 32 := fun c hc => hl c (List.mem_cons_of_mem _ hc)
    obtain ⟨hp1, hp2⟩ := List.pairwise_cons.mp hp
    rw [red, red]
    rcases List.mem_cons.mp hc with rfl | hc'
    · rw [(clear_self _ hb _ hy).2]
    · rw [clear_xor _ hb _ hy _ (ht _ hc') (hp1 _ hc')]
      exact red_inv ht hp2 hc' (min_lt hy hb)
theorem red_keeps : ∀ {l : List Nat} {b y : Nat}, b < 32 → y < 32 → (∀ c ∈ l, c < 32) → (∀ c ∈ l, Clear b c) → Clear b y → Clear b (red l y)
  | [], _, _, _, _, _, _, h => h
  | c :: t, b, y, hb, hy, hl, hc, h => by
    have hc32 := hl c List.mem_cons_self
    rw [red]
    refine red_keeps hb (min_lt hy hc32) (fun d hd => hl d (List.mem_cons_of_mem _ hd)) (fun d hd => hc d (List.mem_cons_of_mem _ hd)) ?_
    by_cases e : y ≤ y ^^^ c
    · rw [Nat.min_eq_left e]; exact h
    · rw [Nat.min_eq_right (by omega)]
      unfold Clear
      rw [clear_xor _ hb _ hy _ hc32 (hc c List.mem_cons_self), h]
theorem red_clear : ∀ {l : List Nat} {y : Nat}, (∀ b ∈ l, b < 32) → l.Pairwise Clear → y < 32 → ∀ b ∈ l, Clear b (red l y)
  | b :: t, y, hl, hp, hy, c, hc => by
    have hb := hl b List.mem_cons_self
    have ht : ∀ c ∈ t, c < 32 := fun c hc => hl c (List.mem_cons_of_mem _ hc)
    obtain ⟨hp1, hp2⟩ := List.pairwise_cons.mp hp
    rw [red]
    rcases List.mem_cons.mp hc with rfl | hc'
    · exact red_keeps hb (min_lt hy hb) ht hp1 (clear_self _ hb _ hy).1
    · exact red_clear ht hp2 (min_lt hy hb) c hc'

/-- the list after i columns -/
def basis (g : Nat → Nat) : Nat → List Nat
  | 0 => []
  | i + 1 => if red (basis g i) (g i) > 0 then basis g i ++ [red (basis g i) (g i)] else basis g i
theorem basis_le (g : Nat → Nat) : ∀ i, (basis g i).length ≤ i
  | 0 => Nat.le_refl _
  | i + 1 => by have := basis_le g i; rw [basis]; split <;> simp <;> omega
theorem basis_step {g : Nat → Nat} {i : Nat} (h : (basis g (i + 1)).length = i + 1) : (basis g i).length = i ∧ red (basis g i) (g i) > 0 := by
  have h1 := basis_le g i
  rw [basis] at h
  by_cases hr : red (basis g i) (g i) > 0
  · rw [if_pos hr] at h; simp at h; exact ⟨h, hr⟩
  · rw [if_neg hr] at h; omega
/-- what the list after i columns is, if each of them gave one -/
structure Tri (g : Nat → Nat) (i : Nat) : Prop where
  lt : ∀ b ∈ basis g i, b < 32
  pw : (basis g i).Pairwise Clear
  inn : ∀ b ∈ basis g i, ∃ x, x < 2 ^ i ∧ b = img g x i
  same : ∀ j, j < i → ∀ y, y < 32 → red (basis g i) (y ^^^ g j) = red (basis g i) y
theorem xor_mid (a b c : Nat) : a ^^^ (b ^^^ c) = a ^^^ b ^^^ c := (Nat.xor_assoc a b c).symm
theorem xor_back (a b : Nat) : a ^^^ (a ^^^ b) = b := by rw [← Nat.xor_assoc, Nat.xor_self, Nat.zero_xor]
theorem Tri.step {g : Nat → Nat} {i : Nat} (hg : ∀ j, j ≤ i → g j < 32) (T : Tri g i) (hr : red (basis g i) (g i) > 0) : Tri g (i + 1) := by
  have hgi := hg i (Nat.le_refl _)
  have hrl := red_lt T.lt hgi
  have hb : basis g (i + 1) = basis g i ++ [red (basis g i) (g i)] := by rw [basis, if_pos hr]
  have hcl := red_clear T.lt T.pw hgi
  have hd := red_diff (P := fun v => ∃ x, x < 2 ^ i ∧ v = img g x i) ⟨0, Nat.two_pow_pos _, (img_zero g i).symm⟩ (fun a b ⟨x, hx, ea⟩ ⟨y, hy, eb⟩ => ⟨x ^^^ y, Nat.xor_lt_two_pow hx hy, by rw [img_xor, ← ea, ← eb]⟩) (l := basis g i) (x := g i) T.inn
  have hlt : ∀ b ∈ basis g (i + 1), b < 32 := fun b hb' => by
    rw [hb] at hb'
    rcases List.mem_append.mp hb' with h | h
    · exact T.lt b h
    · rw [List.mem_singleton.mp h]; exact hrl
  have hpw : (basis g (i + 1)).Pairwise Clear := by
    rw [hb, List.pairwise_append]
    exact ⟨T.pw, List.pairwise_singleton _ _, fun b hb' c hc => by rw [List.mem_singleton.mp hc]; exact hcl b hb'⟩
  refine ⟨hlt, hpw, ?_, ?_⟩
  · intro b hb'
    rw [hb] at hb'
    rcases List.mem_append.mp hb' with h | h
    · obtain ⟨x, hx, e⟩ := T.inn b h
      exact ⟨x, Nat.lt_of_lt_of_le hx (Nat.pow_le_pow_right (by decide) (by omega)), by rw [e, img_low hx 1]⟩
    · rw [List.mem_singleton.mp h]
      obtain ⟨x, hx, e⟩ := hd
      refine ⟨2 ^ i + x, by rw [Nat.pow_succ]; omega, ?_⟩
      rw [img_top hx, ← e, Nat.xor_assoc, Nat.xor_self, Nat.xor_zero]
  · intro j hj y hy
    by_cases e : j = i
    · subst e
      have hq := red_diff (P := fun v => v < 32 ∧ ∀ y, y < 32 → red (basis g (j + 1)) (y ^^^ v) = red (basis g (j + 1)) y) ⟨by decide, fun y _ => by rw [Nat.xor_zero]⟩
        (fun a b ⟨ha, h1⟩ ⟨hb, h2⟩ => ⟨x32 ha hb, fun y hy => by rw [xor_mid, h2 _ (x32 hy ha), h1 _ hy]⟩) (l := basis g j) (x := g j)
        (fun b hb' => ⟨T.lt b hb', fun y hy => red_inv hlt hpw (by rw [hb]; exact List.mem_append_left _ hb') hy⟩)
      obtain ⟨q1, q2⟩ := hq
      have hrr : red (basis g (j + 1)) (y ^^^ red (basis g j) (g j)) = red (basis g (j + 1)) y := red_inv hlt hpw (by rw [hb]; exact List.mem_append_right _ List.mem_cons_self) hy
      rw [← hrr, ← q2 _ (x32 hy hrl)]
      congr 1
      rw [Nat.xor_assoc, xor_back]
    · rw [hb, red_append, red_append, T.same j (by omega) y hy]
theorem Tri.of {g : Nat → Nat} : ∀ {i : Nat}, (∀ j, j < i → g j < 32) → (basis g i).length = i → Tri g i
  | 0, _, _ => ⟨by simp [basis], by simp [basis], by simp [basis], fun j hj => by omega⟩
  | i + 1, hg, h => by
    obtain ⟨h1, h2⟩ := basis_step h
    exact (Tri.of (fun j hj => hg j (by omega)) h1).step (fun j hj => hg j (by omega)) h2
/-- columns are independent: no sum of some of them is 0 -/
def Indep (g : Nat → Nat) (n : Nat) : Prop := ∀ x, 1 ≤ x → x < 2 ^ n → img g x n ≠ 0
theorem Indep.inj {g : Nat → Nat} {n x y : Nat} (h : Indep g n) (hx : x < 2 ^ n) (hy : y < 2 ^ n) (e : img g x n = img g y n) : x = y := by
  have h1 : img g (x ^^^ y) n = 0 := by rw [img_xor, e, Nat.xor_self]
  by_cases hz : x ^^^ y = 0
  · have := congrArg (fun v => x ^^^ v) hz
    simp only [xor_back, Nat.xor_zero] at this
    exact this.symm
  · exact absurd h1 (h _ (by omega) (Nat.xor_lt_two_pow hx hy))

theorem allB_iff {p : Nat → Bool} : ∀ {n : Nat}, allB n p = true ↔ ∀ i, i < n → p i = true
  | 0 => ⟨fun _ i hi => by omega, fun _ => rfl⟩
  | n + 1 => ⟨allB_of, fun h => by rw [allB, Bool.and_eq_true]; exact ⟨h n (by omega), allB_iff.mpr (fun i hi => h i (by omega))⟩⟩
end Go.Proofs.Ytonaebjpnmiilaa.M
namespace Go.Proofs.Ytonaebjpnmiilaa.M
open Go.RowKit Go.Proofs.YtonaebjpnmiilaaW.PrintWords Go.Proofs.YtonaebjpnmiilaaW.PrintLast Go.Proofs.YtonaebjpnmiilaaW.PrintMore
set_option linter.unusedVariables false
set_option linter.unusedSimpArgs false

theorem Ev.since {α : Type} {g : Nat → Option α} {r : α} (K : Nat) (h : ∀ k, K ≤ k → g k = some r) : Ev g r := ⟨K, h⟩
/-- a loop that ends with r at a bad place, of which there is one -/
theorem Ev.bad {α : Type} (F : Nat → Nat → Option α) (N : Nat) (r : α) (ok : Nat → Bool)
    (hs : ∀ i, i < N → ok i = true → Ev (fun k => F k (i + 1)) r → Ev (fun k => F k i) r) (hb : ∀ i, i < N → ok i = false → Ev (fun k => F k i) r) :
    ∀ d i, i + d = N → (∃ j, i ≤ j ∧ j < N ∧ ok j = false) → Ev (fun k => F k i) r := by
  intro d
  induction d with
  | zero => intro i hi ⟨j, h1, h2, _⟩; omega
  | succ d ih =>
    intro i hi ⟨j, h1, h2, h3⟩
    cases e : ok i with
    | false => exact hb i (by omega) e
    | true =>
      refine hs i (by omega) e (ih (i + 1) (by omega) ⟨j, ?_, h2, h3⟩)
      by_cases h : j = i
      · subst h; rw [h3] at e; cases e
      · omega
theorem all_false_at {l : List Int} {p : Int → Bool} (h : l.all p = false) : ∃ j, j < l.length ∧ p (l.getD j 0) = false := by
  rw [List.all_eq_false] at h
  obtain ⟨x, hx, hp⟩ := h
  obtain ⟨j, hj, rfl⟩ := List.getElem_of_mem hx
  exact ⟨j, hj, by simpa [List.getD_eq_getElem?_getD, hj] using hp⟩
theorem all_true_at {l : List Int} {p : Int → Bool} (h : l.all p = true) {j : Nat} (hj : j < l.length) : p (l.getD j 0) = true := by
  rw [List.all_eq_true] at h
  have := h _ (List.getElem_mem hj)
  simpa [List.getD_eq_getElem?_getD, hj] using this
theorem rd_nat (l : List Int) (i : Nat) : rd l (i : Int) = l.getD i 0 := by simp [rd]
/-- a list of natural numbers as whole numbers -/
def ints (l : List Nat) : List Int := l.map (fun x : Nat => (x : Int))
theorem ints_length (l : List Nat) : (ints l).length = l.length := by simp [ints]
theorem ints_getD (l : List Nat) (j : Nat) : (ints l).getD j 0 = ((l.getD j 0 : Nat) : Int) := by
  simp [ints, List.getD_eq_getElem?_getD]
  cases l[j]? <;> rfl
theorem rd_ints (l : List Nat) (j : Nat) : rd (ints l) (j : Int) = ((l.getD j 0 : Nat) : Int) := by rw [rd_nat, ints_getD]
theorem ints_append (l : List Nat) (x : Nat) : ints (l ++ [x]) = ints l ++ [(x : Int)] := by simp [ints]
theorem take_more {α : Type} (l : List α) (d : α) {j : Nat} (h : j < l.length) : l.take (j + 1) = l.take j ++ [l.getD j d] := by
  rw [List.take_add_one]; simp [List.getD_eq_getElem?_getD, h]

/-- is x an input of n variables -/
def inR (n : Nat) (x : Int) : Bool := decide (0 ≤ x ∧ x < ((2 ^ n : Nat) : Int))
theorem inR_nat {n : Nat} {x : Int} (h : inR n x = true) : ∃ y : Nat, x = (y : Int) ∧ y < 2 ^ n := by
  have := of_decide_eq_true h
  exact ⟨x.toNat, by omega, by omega⟩
end Go.Proofs.Ytonaebjpnmiilaa.M
namespace Go.Proofs.Ytonaebjpnmiilaa.M
open Go.RowKit Go.Proofs.YtonaebjpnmiilaaW.PrintWords Go.Proofs.YtonaebjpnmiilaaW.PrintLast
set_option linter.unusedVariables false
set_option linter.unusedSimpArgs false

theorem allB_ex {p : Nat → Bool} : ∀ {n : Nat}, allB n p = false → ∃ j, j < n ∧ p j = false
  | 0, h => by cases h
  | n + 1, h => by
    rw [allB] at h
    cases e : p n with
    | false => exact ⟨n, by omega, e⟩
    | true =>
      rw [e, Bool.true_and] at h
      obtain ⟨j, h1, h2⟩ := allB_ex h
      exact ⟨j, by omega, h2⟩
/-- a loop that goes on where ok holds and answers bad where not -/
theorem Ev.all {α : Type} (F : Nat → Nat → Option α) (N : Nat) (ok : Nat → Bool) (good bad : α)
    (hs : ∀ i, i < N → ok i = true → ∀ r, Ev (fun k => F k (i + 1)) r → Ev (fun k => F k i) r) (hb : ∀ i, i < N → ok i = false → Ev (fun k => F k i) bad) (he : Ev (fun k => F k N) good) :
    Ev (fun k => F k 0) (if allB N ok = true then good else bad) := by
  cases h : allB N ok with
  | true =>
    exact Ev.count F N good (fun i hi hn => hs i hi (allB_of h i hi) good hn) he N 0 (by omega)
  | false =>
    obtain ⟨j, h1, h2⟩ := allB_ex h
    exact Ev.bad F N bad ok (fun i hi ho hn => hs i hi ho bad hn) hb N 0 (by omega) ⟨j, by omega, h1, h2⟩
/-- the same, where the good end goes on to something else -/
theorem Ev.all_on {α : Type} (F : Nat → Nat → Option α) (N : Nat) (ok : Nat → Bool) (r bad : α)
    (hs : ∀ i, i < N → ok i = true → ∀ r, Ev (fun k => F k (i + 1)) r → Ev (fun k => F k i) r) (h : allB N ok = true) (he : Ev (fun k => F k N) r) :
    Ev (fun k => F k 0) r := Ev.count F N r (fun i hi hn => hs i hi (allB_of h i hi) r hn) he N 0 (by omega)
theorem Ev.all_bad {α : Type} (F : Nat → Nat → Option α) (N : Nat) (ok : Nat → Bool) (bad : α)
    (hs : ∀ i, i < N → ok i = true → ∀ r, Ev (fun k => F k (i + 1)) r → Ev (fun k => F k i) r) (hb : ∀ i, i < N → ok i = false → Ev (fun k => F k i) bad) (h : allB N ok = false) :
    Ev (fun k => F k 0) bad := by
  obtain ⟨j, h1, h2⟩ := allB_ex h
  exact Ev.bad F N bad ok (fun i hi ho hn => hs i hi ho bad hn) hb N 0 (by omega) ⟨j, by omega, h1, h2⟩
/-- do two words tell the same parts of a third one -/
theorem xor_and_zero {a b m : Nat} : ((a ^^^ b) &&& m = 0) ↔ (a &&& m = b &&& m) := by
  rw [Nat.and_xor_distrib_right]
  constructor
  · intro h
    have : a &&& m ^^^ (a &&& m ^^^ b &&& m) = a &&& m ^^^ 0 := by rw [h]
    rw [← Nat.xor_assoc, Nat.xor_self, Nat.zero_xor, Nat.xor_zero] at this
    exact this.symm
  · intro h; rw [h, Nat.xor_self]
theorem xor_and_int {a b m : Nat} (ha : a < 2 ^ 63) (hb : b < 2 ^ 63) (hm : m < 2 ^ 63) : (Go.bits .and .i64 (Go.bits .xor .i64 (a : Int) (b : Int)) (m : Int) = 0) ↔ (Go.bits .and .i64 (a : Int) (m : Int) = Go.bits .and .i64 (b : Int) (m : Int)) := by
  rw [xor_nat ha hb, and_nat (Nat.xor_lt_two_pow ha hb) hm, and_nat ha hm, and_nat hb hm]
  have := xor_and_zero (a := a) (b := b) (m := m)
  constructor
  · intro h; exact congrArg Int.ofNat (this.mp (by exact_mod_cast h))
  · intro h
    have h' : a &&& m = b &&& m := by exact_mod_cast h
    rw [this.mpr h']; rfl
end Go.Proofs.Ytonaebjpnmiilaa.M
namespace Go.Proofs.Ytonaebjpnmiilaa.M
open Go.RowKit Go.Proofs.YtonaebjpnmiilaaW.PrintWords Go.Proofs.YtonaebjpnmiilaaW.PrintLast
set_option linter.unusedVariables false
set_option linter.unusedSimpArgs false

/-- from some round on there is one result, and P holds of it -/
def Tot {α : Type} (g : Nat → Option α) (P : α → Prop) : Prop := ∃ r, P r ∧ Ev g r
theorem Tot.ev {α : Type} {g : Nat → Option α} {P : α → Prop} {r : α} (h : Ev g r) (hp : P r) : Tot g P := ⟨r, hp, h⟩
theorem Tot.now {α : Type} {P : α → Prop} (r : α) (hp : P r) : Tot (fun _ => some r) P := ⟨r, hp, Ev.now r⟩
theorem Tot.bind {α β : Type} {g : Nat → Option α} {f : Nat → α → Option β} {P : α → Prop} {Q : β → Prop} (h : Tot g P) (hf : ∀ r, P r → Tot (fun k => f k r) Q) : Tot (fun k => (g k).bind (f k)) Q := by
  obtain ⟨r, hp, he⟩ := h
  obtain ⟨s, hq, hs⟩ := hf r hp
  exact ⟨s, hq, Ev.bind he hs⟩
theorem Tot.congr {α : Type} {g f : Nat → Option α} {P : α → Prop} (h : ∀ k, g k = f k) (hf : Tot f P) : Tot g P := by
  obtain ⟨r, hp, he⟩ := hf
  exact ⟨r, hp, Ev.congr h he⟩
theorem Tot.step {α : Type} {g f : Nat → Option α} {P : α → Prop} (h : ∀ k, g (k + 1) = f k) (hf : Tot f P) : Tot g P := by
  obtain ⟨r, hp, he⟩ := hf
  exact ⟨r, hp, Ev.step h he⟩
theorem Tot.end {α : Type} {g : Nat → Option α} {P : α → Prop} (r : α) (hp : P r) (h : ∀ k, g (k + 1) = some r) : Tot g P := ⟨r, hp, Ev.end h⟩
theorem Tot.mono {α : Type} {g : Nat → Option α} {P Q : α → Prop} (h : Tot g P) (hq : ∀ r, P r → Q r) : Tot g Q := by
  obtain ⟨r, hp, he⟩ := h
  exact ⟨r, hq r hp, he⟩
theorem Tot.ite {α : Type} {g f : Nat → Option α} {P : α → Prop} (c : Prop) [Decidable c] (h : c → Tot g P) (hf : ¬ c → Tot f P) : Tot (fun k => if c then g k else f k) P := by
  by_cases e : c
  · exact Tot.congr (fun k => if_pos e) (h e)
  · exact Tot.congr (fun k => if_neg e) (hf e)
/-- a loop that counts up -/
theorem Tot.up {S α : Type} {P : α → Prop} (F : Nat → S → Nat → Option α) (N : Nat) (I : Nat → S → Prop)
    (hs : ∀ i s, i < N → I i s → (∀ s', I (i + 1) s' → Tot (F (i + 1) s') P) → Tot (F i s) P) (he : ∀ s, I N s → Tot (F N s) P) :
    ∀ d i s, i + d = N → I i s → Tot (F i s) P := by
  intro d
  induction d with
  | zero =>
    intro i s hi h
    obtain rfl : i = N := by omega
    exact he s h
  | succ d ih =>
    intro i s hi h
    exact hs i s (by omega) h (fun s' hs' => ih (i + 1) s' (by omega) hs')
theorem and_mask (a : Int) {m : Nat} (hm : m < 2 ^ 63) : 0 ≤ Go.bits .and .i64 a (m : Int) ∧ Go.bits .and .i64 a (m : Int) ≤ (m : Int) := by
  have e : Go.bits .and .i64 a (m : Int) = (((BitVec.ofInt 64 a).toNat &&& m : Nat) : Int) := by
    simp only [Go.bits, BitVec.ofInt_natCast, BitVec.toNat_and, BitVec.toNat_ofNat, mod_bits hm]
    exact wi64 _ (Int.natCast_nonneg _) (cast_lt (Nat.lt_of_le_of_lt Nat.and_le_right hm))
  rw [e]
  exact ⟨Int.natCast_nonneg _, Int.ofNat_le.mpr Nat.and_le_right⟩
theorem and_255 (a : Int) : 0 ≤ Go.bits .and .i64 a 255 ∧ Go.bits .and .i64 a 255 ≤ 255 := and_mask a (m := 255) (by decide)
end Go.Proofs.Ytonaebjpnmiilaa.M
namespace Go.Proofs.Ytonaebjpnmiilaa.M
open Go.RowKit Go.Proofs.YtonaebjpnmiilaaW.PrintWords Go.Proofs.YtonaebjpnmiilaaW.PrintLast
set_option linter.unusedVariables false
set_option linter.unusedSimpArgs false

/-- an input without its variable i -/
def cutX (x i : Nat) : Nat := x / 2 ^ (i + 1) * 2 ^ i + x % 2 ^ i
theorem cutX_ins : ∀ x, x < 32 → ∀ i, i < 5 → ins (cutX x i) i (x.testBit i).toNat = x ∧ ins (cutX x i) i (!x.testBit i).toNat = x ^^^ 2 ^ i := allB_dec2 (P := fun x i => ins (cutX x i) i (x.testBit i).toNat = x ∧ ins (cutX x i) i (!x.testBit i).toNat = x ^^^ 2 ^ i) (by decide +kernel)
theorem cutX_lt : ∀ n, n < 6 → ∀ x, x < 32 → ∀ i, i < 5 → (x < 2 ^ n → i < n → cutX x i < 2 ^ (n - 1)) := allB_dec3 (P := fun n x i => (x < 2 ^ n → i < n → cutX x i < 2 ^ (n - 1))) (by decide +kernel)
theorem ins_mask : ∀ z, z < 16 → ∀ i, i < 5 → ∀ m, m < 32 → (m.testBit i = false → ins z i 0 &&& m = ins z i 1 &&& m) := allB_dec3 (P := fun z i m => (m.testBit i = false → ins z i 0 &&& m = ins z i 1 &&& m)) (by decide +kernel)
theorem ins_room : ∀ n, n < 6 → ∀ z, z < 16 → ∀ i, i < 5 → (i < n → z < 2 ^ (n - 1) → ins z i 0 < 2 ^ n ∧ ins z i 1 < 2 ^ n) := allB_dec3 (P := fun n z i => (i < n → z < 2 ^ (n - 1) → ins z i 0 < 2 ^ n ∧ ins z i 1 < 2 ^ n)) (by decide +kernel)
theorem rst_bit (n v i b j : Nat) : (rstW n v i b).testBit j = (decide (j < 2 ^ (n - 1)) && v.testBit (ins j i b)) := testBit_prefW _ _ _
/-- a variable that a word does not depend on may be turned -/
theorem flip_same {n v i : Nat} (hn : n ≤ 5) (hi : i < n) (h : rstW n v i 0 = rstW n v i 1) {x : Nat} (hx : x < 2 ^ n) : v.testBit (x ^^^ 2 ^ i) = v.testBit x := by
  have h5 := pow_le_5 hn
  obtain ⟨e1, e2⟩ := cutX_ins x (by omega) i (by omega)
  have hl := cutX_lt n (by omega) x (by omega) i (by omega) hx hi
  have hb : v.testBit (ins (cutX x i) i 0) = v.testBit (ins (cutX x i) i 1) := by
    have := congrArg (fun w => w.testBit (cutX x i)) h
    simpa only [rst_bit, hl, decide_true, Bool.true_and] using this
  cases hq : x.testBit i with
  | true => rw [hq] at e1 e2; rw [← e2]; exact hb.trans (congrArg _ e1)
  | false => rw [hq] at e1 e2; rw [← e2]; exact hb.symm.trans (congrArg _ e1)
/-- from x towards y, bit by bit -/
def goTo (x y : Nat) : Nat → Nat
  | 0 => x
  | d + 1 => if x.testBit d = y.testBit d then goTo x y d else goTo x y d ^^^ 2 ^ d
theorem goTo_end : ∀ x, x < 32 → ∀ y, y < 32 → goTo x y 5 = y := allB_dec2 (P := fun x y => goTo x y 5 = y) (by decide +kernel)
theorem high_bit {n x d : Nat} (hx : x < 2 ^ n) (hd : n ≤ d) : x.testBit d = false := Nat.testBit_lt_two_pow (Nat.lt_of_lt_of_le hx (Nat.pow_le_pow_right (by decide) hd))
/-- a word's value is told by the variables that it depends on -/
theorem told_by {n v V : Nat} (hn : n ≤ 5) (hV : ∀ i, i < n → V.testBit i = false → rstW n v i 0 = rstW n v i 1) {x y : Nat} (hx : x < 2 ^ n) (hy : y < 2 ^ n) (h : x &&& V = y &&& V) : v.testBit x = v.testBit y := by
  have h5 := pow_le_5 hn
  have key : ∀ d, goTo x y d < 2 ^ n ∧ v.testBit (goTo x y d) = v.testBit x := by
    intro d
    induction d with
    | zero => exact ⟨hx, rfl⟩
    | succ d ih =>
      rw [goTo]
      split
      · exact ih
      · rename_i hne
        have hd : d < n := by
          rcases Nat.lt_or_ge d n with h | h
          · exact h
          · exact absurd ((high_bit hx h).trans (high_bit hy h).symm) hne
        have hb : V.testBit d = false := by
          cases hq : V.testBit d with
          | false => rfl
          | true =>
            have := congrArg (fun w => w.testBit d) h
            simp only [Nat.testBit_and, hq, Bool.and_true] at this
            exact absurd this hne
        have hp : 2 ^ d < 2 ^ n := Nat.pow_lt_pow_right (by decide) hd
        exact ⟨Nat.xor_lt_two_pow ih.1 hp, (flip_same hn hd (hV d hd hb) ih.1).trans ih.2⟩
  have := (key 5).2
  rw [goTo_end x (by omega) y (by omega)] at this
  exact this.symm
/-- ones of a word that is told bit by bit -/
theorem pc_prefW (p : Nat → Bool) {n : Nat} (hn : n ≤ 32) : pc (prefW p n) = cnt p n := by
  unfold pc
  rw [show 32 = n + (32 - n) by omega, pc_of_lt (prefW_lt p n)]
  exact cnt_congr (fun i hi => by rw [testBit_prefW]; simp [hi])
/-- a part of a set has no more elements -/
theorem pc_part {a b : Nat} (h : a &&& b = a) : pc a ≤ pc b := by
  unfold pc
  have : ∀ m, cnt a.testBit m ≤ cnt b.testBit m := by
    intro m
    induction m with
    | zero => exact Nat.le_refl _
    | succ m ih =>
      have hb : (a.testBit m).toNat ≤ (b.testBit m).toNat := by
        have := congrArg (fun w => w.testBit m) h
        simp only [Nat.testBit_and] at this
        cases ha : a.testBit m <;> cases hbb : b.testBit m <;> simp_all
      rw [cnt, cnt]; omega
  exact this 32
end Go.Proofs.Ytonaebjpnmiilaa.M
