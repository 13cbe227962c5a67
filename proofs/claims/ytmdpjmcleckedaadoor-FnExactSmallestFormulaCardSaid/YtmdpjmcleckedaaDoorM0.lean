/- Plain lemmas on whole numbers of 64 bits, on bits and on words: no program in sight. -/
import Derived.Test.YtmdpjmcleckedaaDoorWMore
import Derived.Test.YtmdpjmcleckedaaDoorWLast
import Derived.Laws.BitsLemmas
import Derived.Laws.Bits64
namespace Go.Proofs.YtmdpjmcleckedaaDoor.M
open Go.RowKit Go.Proofs.YtmdpjmcleckedaaDoorW.PrintWords Go.Proofs.YtmdpjmcleckedaaDoorW.PrintLast
set_option linter.unusedVariables false
set_option linter.unusedSimpArgs false

theorem w64 {x : Int} (h : -9223372036854775808 ≤ x) (h2 : x ≤ 9223372036854775807) : wrap64 x = x := by unfold wrap64; omega
theorem wi64 (n : Int) (h0 : 0 ≤ n) (h1 : n < 2 ^ 63) : Go.IntKind.i64.wrap n = n := by rw [Go.IntKind.wrap_i64]; omega
theorem p63 {n : Nat} (h : n ≤ 62) : 2 ^ n < 2 ^ 63 := Nat.pow_lt_pow_right (by decide) (by omega)
theorem and_nat {a b : Nat} (ha : a < 2 ^ 63) (hb : b < 2 ^ 63) : Go.bits .and .i64 (a : Int) (b : Int) = ((a &&& b : Nat) : Int) := (Go.bits_nat .i64 63 (by decide) wi64 a b ha hb).1
theorem or_nat {a b : Nat} (ha : a < 2 ^ 63) (hb : b < 2 ^ 63) : Go.bits .or .i64 (a : Int) (b : Int) = ((a ||| b : Nat) : Int) := (Go.bits_nat .i64 63 (by decide) wi64 a b ha hb).2
theorem mod_bits {a : Nat} (ha : a < 2 ^ 63) : a % 2 ^ Go.IntKind.i64.bits = a := Nat.mod_eq_of_lt (by show a < 2 ^ 64; omega)
theorem cast_lt {a j : Nat} (h : a < 2 ^ j) : ((a : Nat) : Int) < 2 ^ j := by exact_mod_cast h
theorem xor_nat {a b : Nat} (ha : a < 2 ^ 63) (hb : b < 2 ^ 63) : Go.bits .xor .i64 (a : Int) (b : Int) = ((a ^^^ b : Nat) : Int) := by
  simp only [Go.bits, BitVec.ofInt_natCast, BitVec.toNat_xor, BitVec.toNat_ofNat, mod_bits ha, mod_bits hb]
  exact wi64 _ (Int.natCast_nonneg _) (cast_lt (Nat.xor_lt_two_pow ha hb))
/-- a without the bits of b -/
def andn (a b : Nat) : Nat := a &&& (a ^^^ b)
theorem testBit_andn (a b i : Nat) : (andn a b).testBit i = (a.testBit i && !b.testBit i) := by
  simp only [andn, Nat.testBit_and, Nat.testBit_xor]; cases a.testBit i <;> cases b.testBit i <;> rfl
theorem andn_lt {a b k : Nat} (h : a < 2 ^ k) : andn a b < 2 ^ k := Nat.lt_of_le_of_lt Nat.and_le_left h
theorem andNot_nat {a b : Nat} (ha : a < 2 ^ 63) (hb : b < 2 ^ 63) : Go.bits .andNot .i64 (a : Int) (b : Int) = ((andn a b : Nat) : Int) := by
  have e : a &&& (2 ^ Go.IntKind.i64.bits - 1 - b) = andn a b := by
    show a &&& (2 ^ 64 - 1 - b) = andn a b
    apply Nat.eq_of_testBit_eq; intro i
    rw [Nat.testBit_and, testBit_andn, show 2 ^ 64 - 1 - b = 2 ^ 64 - (b + 1) by omega, Nat.testBit_two_pow_sub_succ (by omega)]
    by_cases hi : i < 64
    · simp [hi]
    · have : a.testBit i = false := Nat.testBit_lt_two_pow (Nat.lt_of_lt_of_le (show a < 2 ^ 64 by omega) (Nat.pow_le_pow_right (by decide) (by omega)))
      simp [this]
  simp only [Go.bits, BitVec.ofInt_natCast, BitVec.toNat_and, BitVec.toNat_not, BitVec.toNat_ofNat, mod_bits ha, mod_bits hb, e]
  exact wi64 _ (Int.natCast_nonneg _) (cast_lt (andn_lt ha))

theorem min_bits {n : Nat} (h : n ≤ 64) : min (n : Int).toNat Go.IntKind.i64.bits = n := by simp [Go.IntKind.bits]; omega
theorem min_bitsu {n : Nat} (h : n ≤ 64) : min (n : Int).toNat Go.IntKind.u64.bits = n := by simp [Go.IntKind.bits]; omega
theorem shl_nat {x n : Nat} (hn : n ≤ 64) (h : x * 2 ^ n < 2 ^ 63) : shl .i64 (x : Int) (n : Int) = ((x * 2 ^ n : Nat) : Int) := by
  have h' : ((x * 2 ^ n : Nat) : Int) < 2 ^ 63 := by exact_mod_cast h
  have e : (x : Int) * 2 ^ n = ((x * 2 ^ n : Nat) : Int) := by push_cast; rfl
  unfold shl
  rw [min_bits hn, e, wi64 _ (Int.natCast_nonneg _) h']
theorem shl_one {n : Nat} (h : n ≤ 62) : shl .i64 1 (n : Int) = ((2 ^ n : Nat) : Int) := by
  have := shl_nat (x := 1) (n := n) (by omega) (by rw [Nat.one_mul]; exact p63 h)
  rw [Nat.one_mul] at this; exact this
theorem shlu_one {n : Nat} (h : n ≤ 63) : shl .u64 1 (n : Int) = ((2 ^ n : Nat) : Int) := by
  have h1 : 2 ^ n < 2 ^ 64 := Nat.pow_lt_pow_right (by decide) (by omega)
  have e : (2 : Int) ^ n = ((2 ^ n : Nat) : Int) := by push_cast; rfl
  unfold shl
  rw [min_bitsu (by omega), Int.one_mul, Go.IntKind.wrap_u64, e]
  obtain ⟨v, hv⟩ : ∃ v, v = 2 ^ n := ⟨_, rfl⟩
  rw [← hv] at h1 ⊢
  omega
theorem shr_nat {a n : Nat} (h : n ≤ 64) : shr .i64 (a : Int) (n : Int) = ((a / 2 ^ n : Nat) : Int) := by
  unfold shr; rw [min_bits h]; push_cast; rfl
theorem bit_of (a n : Nat) : (a / 2 ^ n) &&& 1 = (a.testBit n).toNat := by
  rw [Nat.and_one_is_mod, Nat.toNat_testBit]
theorem bit_nat {a n : Nat} (ha : a < 2 ^ 63) (h : n ≤ 64) : Go.bits .and .i64 (shr .i64 (a : Int) (n : Int)) 1 = (((a.testBit n).toNat : Nat) : Int) := by
  rw [shr_nat h, ← bit_of]
  exact and_nat (b := 1) (Nat.lt_of_le_of_lt (Nat.div_le_self _ _) ha) (by decide)
theorem toNat_lt (b : Bool) : b.toNat < 2 := by cases b <;> decide
theorem toNat_le (b : Bool) : b.toNat ≤ 1 := by cases b <;> decide

/-! what holds of all numbers below n, by reckoning -/
def allB (n : Nat) (p : Nat → Bool) : Bool := match n with | 0 => true | n + 1 => p n && allB n p
theorem allB_of {n : Nat} {p : Nat → Bool} (h : allB n p = true) : ∀ i, i < n → p i = true := by
  induction n with
  | zero => intro i hi; omega
  | succ n ih =>
    intro i hi
    rw [allB, Bool.and_eq_true] at h
    by_cases e : i = n
    · rw [e]; exact h.1
    · exact ih h.2 i (by omega)
theorem allB_dec {n : Nat} {P : Nat → Prop} [DecidablePred P] (h : allB n (fun i => decide (P i)) = true) : ∀ i, i < n → P i := fun i hi => of_decide_eq_true (allB_of h i hi)
theorem allB_dec2 {n m : Nat} {P : Nat → Nat → Prop} [∀ i j, Decidable (P i j)] (h : allB n (fun i => allB m (fun j => decide (P i j))) = true) : ∀ i, i < n → ∀ j, j < m → P i j := fun i hi j hj => of_decide_eq_true (allB_of (allB_of h i hi) j hj)
theorem allB_dec3 {n m l : Nat} {P : Nat → Nat → Nat → Prop} [∀ i j k, Decidable (P i j k)] (h : allB n (fun i => allB m (fun j => allB l (fun k => decide (P i j k)))) = true) : ∀ i, i < n → ∀ j, j < m → ∀ k, k < l → P i j k := fun i hi j hj k hk => of_decide_eq_true (allB_of (allB_of (allB_of h i hi) j hj) k hk)

/-! words: the number whose bits below m are told by g -/
def prefW (g : Nat → Bool) : Nat → Nat
  | 0 => 0
  | m + 1 => prefW g m ||| (g m).toNat * 2 ^ m
theorem prefW_lt (g : Nat → Bool) : ∀ m, prefW g m < 2 ^ m
  | 0 => by simp [prefW]
  | m + 1 => by
    have h := prefW_lt g m
    have h1 : (g m).toNat * 2 ^ m < 2 ^ (m + 1) := by
      rw [Nat.pow_succ]; have := Nat.two_pow_pos m
      cases g m <;> simp <;> omega
    exact Nat.or_lt_two_pow (Nat.lt_of_lt_of_le h (Nat.pow_le_pow_right (by decide) (by omega))) h1
theorem testBit_prefW (g : Nat → Bool) (i : Nat) : ∀ m, (prefW g m).testBit i = (decide (i < m) && g i)
  | 0 => by simp [prefW]
  | m + 1 => by
    rw [prefW, Nat.testBit_or, testBit_prefW g i m, Nat.testBit_mul_two_pow]
    rcases Nat.lt_trichotomy i m with h | h | h
    · have h1 : decide (m ≤ i) = false := by simpa using h
      have h2 : decide (i < m + 1) = true := by simp; omega
      have h3 : decide (i < m) = true := by simpa using h
      rw [h1, h2, h3]; simp
    · subst h
      cases g i <;> simp
    · have h2 : decide (i < m + 1) = false := by simp; omega
      have h3 : decide (i < m) = false := by simp; omega
      rw [h2, h3]
      have : ((g m).toNat).testBit (i - m) = false := Nat.testBit_lt_two_pow (Nat.lt_of_lt_of_le (toNat_lt _) (by
        have : 2 ^ 1 ≤ 2 ^ (i - m) := Nat.pow_le_pow_right (by decide) (by omega)
        omega))
      simp [this]
theorem prefW_congr {g g' : Nat → Bool} : ∀ {m : Nat}, (∀ i, i < m → g i = g' i) → prefW g m = prefW g' m
  | 0, _ => rfl
  | m + 1, h => by rw [prefW, prefW, prefW_congr (fun i hi => h i (by omega)), h m (by omega)]
theorem testBit_of_ge {w m i : Nat} (h : w < 2 ^ m) (hi : m ≤ i) : w.testBit i = false := Nat.testBit_lt_two_pow (Nat.lt_of_lt_of_le h (Nat.pow_le_pow_right (by decide) hi))
theorem prefW_testBit {w m : Nat} (h : w < 2 ^ m) : prefW w.testBit m = w := by
  apply Nat.eq_of_testBit_eq; intro i
  rw [testBit_prefW]
  by_cases hi : i < m
  · simp [hi]
  · rw [testBit_of_ge h (by omega)]; simp
/-- words below 2^m are equal if their bits below m are -/
theorem word_ext {w v m : Nat} (hw : w < 2 ^ m) (hv : v < 2 ^ m) (h : ∀ i, i < m → w.testBit i = v.testBit i) : w = v := by
  rw [← prefW_testBit hw, ← prefW_testBit hv]; exact prefW_congr h
theorem word_eq_prefW {w m : Nat} {g : Nat → Bool} (hw : w < 2 ^ m) (h : ∀ i, i < m → w.testBit i = g i) : w = prefW g m := by
  rw [← prefW_testBit hw]; exact prefW_congr h
/-- one step of a loop that collects bits -/
theorem prefW_step {g : Nat → Bool} {x : Nat} (hx : x ≤ 61) : Go.bits .or .i64 ((prefW g x : Nat) : Int) (shl .i64 (((g x).toNat : Nat) : Int) (x : Int)) = ((prefW g (x + 1) : Nat) : Int) := by
  have h1 := prefW_lt g x
  have hp := p63 (n := x) (by omega)
  have h2 : (g x).toNat * 2 ^ x < 2 ^ 63 := by cases g x <;> simp; omega
  rw [shl_nat (by omega) h2, or_nat (by omega) h2]; rfl
theorem prefW_step_one {g : Nat → Bool} {x : Nat} (hx : x ≤ 61) (h : g x = true) : Go.bits .or .i64 ((prefW g x : Nat) : Int) (shl .i64 1 (x : Int)) = ((prefW g (x + 1) : Nat) : Int) := by
  have := prefW_step (g := g) hx
  rw [h] at this; exact this
theorem prefW_skip {g : Nat → Bool} {x : Nat} (h : g x = false) : prefW g (x + 1) = prefW g x := by rw [prefW, h]; simp

theorem subset_iff {a v : Nat} : a &&& v = a ↔ andn a v = 0 := by
  constructor
  · intro h
    apply Nat.eq_of_testBit_eq; intro i
    rw [testBit_andn, Nat.zero_testBit]
    have h1 : (a &&& v).testBit i = a.testBit i := by rw [h]
    rw [Nat.testBit_and] at h1
    revert h1; cases a.testBit i <;> cases v.testBit i <;> simp
  · intro h
    apply Nat.eq_of_testBit_eq; intro i
    have h1 : (andn a v).testBit i = false := by rw [h, Nat.zero_testBit]
    rw [testBit_andn] at h1
    rw [Nat.testBit_and]
    revert h1; cases a.testBit i <;> cases v.testBit i <;> simp
theorem apart_iff {b v N : Nat} (hv : v < 2 ^ N) : andn b (v ^^^ (2 ^ N - 1)) = 0 ↔ b < 2 ^ N ∧ b &&& v = 0 := by
  have key : ∀ i, (andn b (v ^^^ (2 ^ N - 1))).testBit i = (b.testBit i && (v.testBit i || !decide (i < N))) := fun i => by
    rw [testBit_andn, Nat.testBit_xor, Nat.testBit_two_pow_sub_one]
    by_cases hi : i < N
    · simp [hi]
    · rw [testBit_of_ge hv (by omega)]; simp [hi]
  constructor
  · intro h
    have k2 : ∀ i, (b.testBit i && (v.testBit i || !decide (i < N))) = false := fun i => by rw [← key, h, Nat.zero_testBit]
    refine ⟨Nat.lt_pow_two_of_testBit b (fun i hi => ?_), Nat.eq_of_testBit_eq (fun i => ?_)⟩
    · have := k2 i
      simpa [show ¬ i < N by omega] using this
    · have := k2 i
      rw [Nat.testBit_and, Nat.zero_testBit]
      revert this; cases b.testBit i <;> cases v.testBit i <;> simp
  · rintro ⟨h1, h2⟩
    apply Nat.eq_of_testBit_eq; intro i
    rw [key, Nat.zero_testBit]
    have h3 : (b &&& v).testBit i = false := by rw [h2, Nat.zero_testBit]
    rw [Nat.testBit_and] at h3
    by_cases hi : i < N
    · simpa [hi] using h3
    · rw [testBit_of_ge h1 (by omega)]; rfl
/-- the word of the other values -/
def notW (N v : Nat) : Nat := v ^^^ (2 ^ N - 1)
theorem notW_lt {N v : Nat} (hv : v < 2 ^ N) : notW N v < 2 ^ N := Nat.xor_lt_two_pow hv (by have := Nat.two_pow_pos N; omega)
theorem testBit_notW {N v i : Nat} (hi : i < N) : (notW N v).testBit i = !v.testBit i := by
  rw [notW, Nat.testBit_xor, Nat.testBit_two_pow_sub_one]; simp [hi]

/-- an input with one bit more, at place i -/
def ins (x i b : Nat) : Nat := x / 2 ^ i * 2 ^ (i + 1) + b * 2 ^ i + x % 2 ^ i
/-- the word with variable i fixed to b -/
def rstW (n v i b : Nat) : Nat := prefW (fun x => v.testBit (ins x i b)) (2 ^ (n - 1))
theorem half16 {n : Nat} (hn : n ≤ 5) : 2 ^ (n - 1) ≤ 16 := by
  have := Nat.pow_le_pow_right (show 0 < 2 by decide) (show n - 1 ≤ 4 by omega)
  simpa using this
theorem rstW_lt {n : Nat} (hn : n ≤ 5) (v i b : Nat) : rstW n v i b < 2 ^ 16 := Nat.lt_of_lt_of_le (prefW_lt _ _) (Nat.pow_le_pow_right (by decide) (half16 hn))
/-- how a table turns with a variable, of its two halves -/
def pol (low high : Nat) : Int := if low = high then 0 else if low &&& high = low then 1 else if high &&& low = high then -1 else 2
/-- the polarity of variable i -/
def polV (n v i : Nat) : Int := pol (rstW n v i 0) (rstW n v i 1)
/-- none of the first m polarities is 2 -/
def noTwo (g : Nat → Int) : Nat → Bool
  | 0 => true
  | m + 1 => noTwo g m && (g m != 2)
theorem noTwo_false {g : Nat → Int} {i : Nat} (h : g i = 2) : ∀ {m : Nat}, i < m → noTwo g m = false
  | 0, hi => by omega
  | m + 1, hi => by
    rw [noTwo]
    by_cases e : i = m
    · subst e; rw [h]; simp
    · rw [noTwo_false h (by omega)]; rfl
theorem noTwo_true {g : Nat → Int} : ∀ {m : Nat}, (∀ i, i < m → g i ≠ 2) → noTwo g m = true
  | 0, _ => rfl
  | m + 1, h => by
    rw [noTwo, noTwo_true (fun i hi => h i (by omega))]
    simp [h m (by omega)]
theorem toNat_beq1 (b : Bool) : (((b.toNat : Nat) : Int) == 1) = b := by cases b <;> rfl

/-! counting -/
def cnt (g : Nat → Bool) : Nat → Nat
  | 0 => 0
  | m + 1 => cnt g m + (g m).toNat
theorem cnt_congr {g g' : Nat → Bool} : ∀ {m : Nat}, (∀ i, i < m → g i = g' i) → cnt g m = cnt g' m
  | 0, _ => rfl
  | m + 1, h => by rw [cnt, cnt, cnt_congr (fun i hi => h i (by omega)), h m (by omega)]
theorem cnt_le (g : Nat → Bool) : ∀ m, cnt g m ≤ m
  | 0 => Nat.le_refl _
  | m + 1 => by have := cnt_le g m; have := toNat_le (g m); rw [cnt]; omega

/-! from numbers to their natural numbers -/
theorem nat_of {x : Int} (h : 0 ≤ x) : ∃ n : Nat, x = (n : Int) := ⟨x.toNat, by omega⟩
theorem pow_le_5 {n : Nat} (h : n ≤ 5) : 2 ^ n ≤ 32 := by
  have := Nat.pow_le_pow_right (show 0 < 2 by decide) h; simpa using this
theorem full_lt {n : Nat} (h : n ≤ 5) : 2 ^ (2 ^ n) ≤ 2 ^ 32 := Nat.pow_le_pow_right (by decide) (pow_le_5 h)
theorem full_p63 {n : Nat} (h : n ≤ 5) : 2 ^ (2 ^ n) < 2 ^ 63 := Nat.lt_of_le_of_lt (full_lt h) (by decide)

/-- is it a table: at most five variables, a word of as many bits as there are inputs -/
def isT (n w : Int) : Bool := decide (0 ≤ n ∧ n ≤ 5 ∧ 0 ≤ w ∧ w < ((2 ^ 2 ^ n.toNat : Nat) : Int))
theorem isT_nat {a b : Int} (h : isT a b = true) : ∃ n v : Nat, a = (n : Int) ∧ b = (v : Int) ∧ n ≤ 5 ∧ v < 2 ^ 2 ^ n := by
  have h' := of_decide_eq_true h
  obtain ⟨h1, h2, h3, h4⟩ := h'
  obtain ⟨n, rfl⟩ := nat_of h1
  obtain ⟨v, rfl⟩ := nat_of h3
  rw [Int.toNat_natCast] at h4
  exact ⟨n, v, rfl, rfl, by omega, by exact_mod_cast h4⟩
theorem isT_mk {n v : Nat} (hn : n ≤ 5) (hv : v < 2 ^ 2 ^ n) : isT (n : Int) (v : Int) = true := by
  have h : (v : Int) < ((2 ^ 2 ^ n : Nat) : Int) := by exact_mod_cast hv
  simp only [isT, decide_eq_true_eq, Int.toNat_natCast]
  exact ⟨by omega, by omega, by omega, h⟩
theorem full_word {n : Nat} (h : n ≤ 5) : wrap64 ((shl .i64 1 (shl .u64 1 (n : Int))) - 1) = ((2 ^ 2 ^ n : Nat) : Int) - 1 := by
  have h5 := pow_le_5 h
  have hf := full_p63 h
  have hp := Nat.two_pow_pos (2 ^ n)
  rw [shlu_one (by omega), shl_one (by omega), w64 (by omega) (by omega)]
theorem full_word' {n : Nat} (h : n ≤ 5) : wrap64 ((shl .i64 1 (shl .i64 1 (n : Int))) - 1) = ((2 ^ 2 ^ n : Nat) : Int) - 1 := by
  have h5 := pow_le_5 h
  have hf := full_p63 h
  have hp := Nat.two_pow_pos (2 ^ n)
  rw [shl_one (n := n) (by omega), shl_one (by omega), w64 (by omega) (by omega)]

/-! both sides of a law come to one answer -/
theorem law2 {α : Type} [DecidableEq α] {S I : Option α} {r : α} (hs : S = some r) (hi : I = some r) : (S.bind fun t => I.bind fun u => if u = t then some true else some false) = some true := by subst hs hi; simp
theorem law2b {S I : Option Bool} {r : Bool} (hs : S = some r) (hi : I = some r) : (S.bind fun t => I.bind fun u => if (u != t) = true then some false else some true) = some true := by subst hs hi; simp
theorem Ev.const {α : Type} {o : Option α} {r : α} (h : o = some r) : Ev (fun _ => o) r := ⟨0, fun _ _ => h⟩
theorem law2_ev {α : Type} [DecidableEq α] {S I : Nat → Option α} {r : α} (hs : Ev S r) (hi : Ev I r) : ∃ k, ((S k).bind fun t => (I k).bind fun u => if u = t then some true else some false) = some true := by
  obtain ⟨K1, h1⟩ := hs
  obtain ⟨K2, h2⟩ := hi
  exact ⟨max K1 K2, law2 (h1 _ (Nat.le_max_left _ _)) (h2 _ (Nat.le_max_right _ _))⟩
theorem law2b_ev {S I : Nat → Option Bool} {r : Bool} (hs : Ev S r) (hi : Ev I r) : ∃ k, ((S k).bind fun t => (I k).bind fun u => if (u != t) = true then some false else some true) = some true := by
  obtain ⟨K1, h1⟩ := hs
  obtain ⟨K2, h2⟩ := hi
  exact ⟨max K1 K2, law2b (h1 _ (Nat.le_max_left _ _)) (h2 _ (Nat.le_max_right _ _))⟩
theorem ite_some (D R0 R : Int) : ∃ r, (if D = 0 then some R0 else some R) = some r := by
  by_cases h : D = 0
  · exact ⟨R0, if_pos h⟩
  · exact ⟨R, if_neg h⟩

/-! loops that go up by one, told from some number of rounds on -/
/-- what a loop's state is, from i on, after d rounds -/
def iter {S : Type} (step : Nat → S → S) : Nat → Nat → S → S
  | _, 0, s => s
  | i, d + 1, s => iter step (i + 1) d (step i s)
theorem Ev.up {S α : Type} (F : Nat → S → Nat → Option α) (N : Nat) (I : Nat → S → Prop) (step : Nat → S → S) (r : α)
    (hI : ∀ i s, i < N → I i s → I (i + 1) (step i s))
    (hs : ∀ i s, i < N → I i s → Ev (fun k => F k (step i s) (i + 1)) r → Ev (fun k => F k s i) r) :
    ∀ d i s, i + d = N → I i s → (I N (iter step i d s) → Ev (fun k => F k (iter step i d s) N) r) → Ev (fun k => F k s i) r := by
  intro d
  induction d with
  | zero => intro i s hi h k; obtain rfl : i = N := by omega
            exact k h
  | succ d ih => intro i s hi h k; exact hs i s (by omega) h (ih (i + 1) (step i s) (by omega) (hI i s (by omega) h) k)
/-- the state at i is told by a function of i: each round leads from st i to st (i+1) -/
theorem Ev.count {α : Type} (F : Nat → Nat → Option α) (N : Nat) (r : α)
    (hs : ∀ i, i < N → Ev (fun k => F k (i + 1)) r → Ev (fun k => F k i) r) (he : Ev (fun k => F k N) r) : ∀ d i, i + d = N → Ev (fun k => F k i) r := by
  intro d
  induction d with
  | zero => intro i hi; obtain rfl : i = N := by omega
            exact he
  | succ d ih => intro i hi; exact hs i (by omega) (ih (i + 1) (by omega))
theorem Ev.of_some {α : Type} {g : Nat → Option α} {r : α} (h : ∀ k, g k = some r) : Ev g r := ⟨0, fun k _ => h k⟩
theorem Ev.end {α : Type} {g : Nat → Option α} {r : α} (h : ∀ k, g (k + 1) = some r) : Ev g r := Ev.step h (Ev.now r)

end Go.Proofs.YtmdpjmcleckedaaDoor.M
