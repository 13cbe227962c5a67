import Derived.Test.YtfoopehlmnejaaaGreatDoorWMore
import Derived.Test.YtfoopehlmnejaaaGreatDoorWLast
import Derived.Laws.BitsLemmas
import Derived.Laws.Bits64
import Derived.Lib.SlBytesConst
import Derived.Test.YtfoopehlmnejaaaGreatDoorWApart
import Derived.Test.YtfoopehlmnejaaaGreatDoorWRepsOne
import Derived.Maps.AppendAt
import Derived.Laws.BitsAllLaws
namespace Go.Proofs.YtfoopehlmnejaaaGreatDoor.M
open Go.RowKit Go.Proofs.YtfoopehlmnejaaaGreatDoorW.PrintWords Go.Proofs.YtfoopehlmnejaaaGreatDoorW.PrintLast
set_option linter.unusedVariables false
set_option linter.unusedSimpArgs false

theorem w64 {x : Int} (h : -9223372036854775808 ≤ x) (h2 : x ≤ 9223372036854775807) : wrap64 x = x := by unfold wrap64; omega
theorem wi64 (n : Int) (h0 : 0 ≤ n) (h1 : n < 2 ^ 63) : Go.IntKind.i64.wrap n = n := by rw [Go.IntKind.wrap_i64]; omega
theorem p63 {n : Nat} (h : n ≤ 62) : 2 ^ n < 2 ^ 63 := Nat.pow_lt_pow_right (by decide) (by omega)
theorem and_nat {a b : Nat} (ha : a < 2 ^ 63) (hb : b < 2 ^ 63) : Go.bits .and .i64 (a : Int) (b : Int) = ((a &&& b : Nat) : Int) := (Go.bits_nat .i64 63 (by decide) wi64 a b ha hb).1
theorem or_nat {a b : Nat} (ha : a < 2 ^ 63) (hb : b < 2 ^ 63) : Go.bits .or .i64 (a : Int) (b : Int) = ((a ||| b : Nat) : Int) := (Go.bits_nat .i64 63 (by decide) wi64 a b ha hb).2
theorem mod_bits {a : Nat} (ha : a < 2 ^ 63) : a % 2 ^ Go.IntKind.i64.bits = a := Nat.mod_eq_of_lt (by show a < 2 ^ 64; omega)
theorem cast_lt {a j : Nat} (h : a < 2 ^ j) : ((a : Nat) : Int) < 2 ^ j := by exact_mod_cast h
theorem xor_nat {a b : Nat} (ha : a < 2 ^ 63) (hb : b < 2 ^ 63) : Go.bits .xor .i64 (a : Int) (b : Int) = ((a ^^^ b : Nat) : Int) := by
  simp only [Go.bits, BitVec.ofInt_natCast, BitVec.toNat_xor, BitVec.toNat_ofNat, mod_bits ha, mod_bits hb]
  exact wi64 _ (Int.natCast_nonneg _) (cast_lt (Nat.xor_lt_two_pow ha hb))
def andn (a b : Nat) : Nat := a &&& (a ^^^ b)
theorem testBit_andn (a b i : Nat) : (andn a b).testBit i = (a.testBit i && !b.testBit i) := by
  simp only [andn, Nat.testBit_and, Nat.testBit_xor]; cases a.testBit i <;> cases b.testBit i <;> rfl
theorem andn_lt {a b k : Nat} (h : a < 2 ^ k) : andn a b < 2 ^ k := Nat.lt_of_le_of_lt Nat.and_le_left h
theorem andNot_nat {a b : Nat} (ha : a < 2 ^ 63) (hb : b < 2 ^ 63) : Go.bits .andNot .i64 (a : Int) (b : Int) = ((andn a b : Nat) : Int) := by
  have e : a &&& (2 ^ Go.IntKind.i64.bits - 1 - b) = andn a b := by
    show a &&& (2 ^ 64 - 1 - b) = andn a b
    apply Nat.eq_of_testBit_eq; intro i
    rw [Nat.testBit_and, testBit_andn, show 2 ^ 64 - 1 - b = 2 ^ 64 - (b + 1) by omega, Nat.testBit_two_pow_sub_succ (by omega)]
    by_cases hi : i < 64
    · simp [hi]
    · have : a.testBit i = false := Nat.testBit_lt_two_pow (Nat.lt_of_lt_of_le (show a < 2 ^ 64 by omega) (Nat.pow_le_pow_right (by decide) (by omega)))
      simp [this]
  simp only [Go.bits, BitVec.ofInt_natCast, BitVec.toNat_and, BitVec.toNat_not, BitVec.toNat_ofNat, mod_bits ha, mod_bits hb, e]
  exact wi64 _ (Int.natCast_nonneg _) (cast_lt (andn_lt ha))

theorem min_bits {n : Nat} (h : n ≤ 64) : min (n : Int).toNat Go.IntKind.i64.bits = n := by simp [Go.IntKind.bits]; omega
theorem min_bitsu {n : Nat} (h : n ≤ 64) : min (n : Int).toNat Go.IntKind.u64.bits = n := by simp [Go.IntKind.bits]; omega
theorem shl_nat {x n : Nat} (hn : n ≤ 64) (h : x * 2 ^ n < 2 ^ 63) : shl .i64 (x : Int) (n : Int) = ((x * 2 ^ n : Nat) : Int) := by
  have h' : ((x * 2 ^ n : Nat) : Int) < 2 ^ 63 := by exact_mod_cast h
  have e : (x : Int) * 2 ^ n = ((x * 2 ^ n : Nat) : Int) := by push_cast; rfl
  unfold shl
  rw [min_bits hn, e, wi64 _ (Int.natCast_nonneg _) h']
theorem shl_one {n : Nat} (h : n ≤ 62) : shl .i64 1 (n : Int) = ((2 ^ n : Nat) : Int) := by
  have := shl_nat (x := 1) (n := n) (by omega) (by rw [Nat.one_mul]; exact p63 h)
  rw [Nat.one_mul] at this; exact this
theorem shlu_one {n : Nat} (h : n ≤ 63) : shl .u64 1 (n : Int) = ((2 ^ n : Nat) : Int) := by
  have h1 : 2 ^ n < 2 ^ 64 := Nat.pow_lt_pow_right (by decide) (by omega)
  have e : (2 : Int) ^ n = ((2 ^ n : Nat) : Int) := by push_cast; rfl
  unfold shl
  rw [min_bitsu (by omega), Int.one_mul, Go.IntKind.wrap_u64, e]
  obtain ⟨v, hv⟩ : ∃ v, v = 2 ^ n := ⟨_, rfl⟩
  rw [← hv] at h1 ⊢
  omega
theorem shr_nat {a n : Nat} (h : n ≤ 64) : shr .i64 (a : Int) (n : Int) = ((a / 2 ^ n : Nat) : Int) := by
  unfold shr; rw [min_bits h]; push_cast; rfl
theorem bit_of (a n : Nat) : (a / 2 ^ n) &&& 1 = (a.testBit n).toNat := by
  rw [Nat.and_one_is_mod, Nat.toNat_testBit]
theorem bit_nat {a n : Nat} (ha : a < 2 ^ 63) (h : n ≤ 64) : Go.bits .and .i64 (shr .i64 (a : Int) (n : Int)) 1 = (((a.testBit n).toNat : Nat) : Int) := by
  rw [shr_nat h, ← bit_of]
  exact and_nat (b := 1) (Nat.lt_of_le_of_lt (Nat.div_le_self _ _) ha) (by decide)
theorem toNat_lt (b : Bool) : b.toNat < 2 := by cases b <;> decide
theorem toNat_le (b : Bool) : b.toNat ≤ 1 := by cases b <;> decide

def allB (n : Nat) (p : Nat → Bool) : Bool := match n with | 0 => true | n + 1 => p n && allB n p
theorem allB_of {n : Nat} {p : Nat → Bool} (h : allB n p = true) : ∀ i, i < n → p i = true := by
  induction n with
  | zero => intro i hi; omega
  | succ n ih =>
    intro i hi
    rw [allB, Bool.and_eq_true] at h
    by_cases e : i = n
    · rw [e]; exact h.1
    · exact ih h.2 i (by omega)
theorem allB_dec {n : Nat} {P : Nat → Prop} [DecidablePred P] (h : allB n (fun i => decide (P i)) = true) : ∀ i, i < n → P i := fun i hi => of_decide_eq_true (allB_of h i hi)
theorem allB_dec2 {n m : Nat} {P : Nat → Nat → Prop} [∀ i j, Decidable (P i j)] (h : allB n (fun i => allB m (fun j => decide (P i j))) = true) : ∀ i, i < n → ∀ j, j < m → P i j := fun i hi j hj => of_decide_eq_true (allB_of (allB_of h i hi) j hj)
theorem allB_dec3 {n m l : Nat} {P : Nat → Nat → Nat → Prop} [∀ i j k, Decidable (P i j k)] (h : allB n (fun i => allB m (fun j => allB l (fun k => decide (P i j k)))) = true) : ∀ i, i < n → ∀ j, j < m → ∀ k, k < l → P i j k := fun i hi j hj k hk => of_decide_eq_true (allB_of (allB_of (allB_of h i hi) j hj) k hk)

def prefW (g : Nat → Bool) : Nat → Nat
  | 0 => 0
  | m + 1 => prefW g m ||| (g m).toNat * 2 ^ m
theorem prefW_lt (g : Nat → Bool) : ∀ m, prefW g m < 2 ^ m
  | 0 => by simp [prefW]
  | m + 1 => by
    have h := prefW_lt g m
    have h1 : (g m).toNat * 2 ^ m < 2 ^ (m + 1) := by
      rw [Nat.pow_succ]; have := Nat.two_pow_pos m
      cases g m <;> simp <;> omega
    exact Nat.or_lt_two_pow (Nat.lt_of_lt_of_le h (Nat.pow_le_pow_right (by decide) (by omega))) h1
theorem testBit_prefW (g : Nat → Bool) (i : Nat) : ∀ m, (prefW g m).testBit i = (decide (i < m) && g i)
  | 0 => by simp [prefW]
  | m + 1 => by
    rw [prefW, Nat.testBit_or, testBit_prefW g i m, Nat.testBit_mul_two_pow]
    rcases Nat.lt_trichotomy i m with h | h | h
    · have h1 : decide (m ≤ i) = false := by simpa using h
      have h2 : decide (i < m + 1) = true := by simp; omega
      have h3 : decide (i < m) = true := by simpa using h
      rw [h1, h2, h3]; simp
    · subst h
      cases g i <;> simp
    · have h2 : decide (i < m + 1) = false := by simp; omega
      have h3 : decide (i < m) = false := by simp; omega
      rw [h2, h3]
      have : ((g m).toNat).testBit (i - m) = false := Nat.testBit_lt_two_pow (Nat.lt_of_lt_of_le (toNat_lt _) (by
        have : 2 ^ 1 ≤ 2 ^ (i - m) := Nat.pow_le_pow_right (by decide) (by omega)
        omega))
      simp [this]
theorem testBit_of_ge {w m i : Nat} (h : w < 2 ^ m) (hi : m ≤ i) : w.testBit i = false := Nat.testBit_lt_two_pow (Nat.lt_of_lt_of_le h (Nat.pow_le_pow_right (by decide) hi))
theorem prefW_step {g : Nat → Bool} {x : Nat} (hx : x ≤ 61) : Go.bits .or .i64 ((prefW g x : Nat) : Int) (shl .i64 (((g x).toNat : Nat) : Int) (x : Int)) = ((prefW g (x + 1) : Nat) : Int) := by
  have h1 := prefW_lt g x
  have hp := p63 (n := x) (by omega)
  have h2 : (g x).toNat * 2 ^ x < 2 ^ 63 := by cases g x <;> simp; omega
  rw [shl_nat (by omega) h2, or_nat (by omega) h2]; rfl
theorem prefW_step_one {g : Nat → Bool} {x : Nat} (hx : x ≤ 61) (h : g x = true) : Go.bits .or .i64 ((prefW g x : Nat) : Int) (shl .i64 1 (x : Int)) = ((prefW g (x + 1) : Nat) : Int) := by
  have := prefW_step (g := g) hx
  rw [h] at this; exact this
theorem prefW_skip {g : Nat → Bool} {x : Nat} (h : g x = false) : prefW g (x + 1) = prefW g x := by rw [prefW, h]; simp

theorem subset_iff {a v : Nat} : a &&& v = a ↔ andn a v = 0 := by
  constructor
  · intro h
    apply Nat.eq_of_testBit_eq; intro i
    rw [testBit_andn, Nat.zero_testBit]
    have h1 : (a &&& v).testBit i = a.testBit i := by rw [h]
    rw [Nat.testBit_and] at h1
    revert h1; cases a.testBit i <;> cases v.testBit i <;> simp
  · intro h
    apply Nat.eq_of_testBit_eq; intro i
    have h1 : (andn a v).testBit i = false := by rw [h, Nat.zero_testBit]
    rw [testBit_andn] at h1
    rw [Nat.testBit_and]
    revert h1; cases a.testBit i <;> cases v.testBit i <;> simp
theorem apart_iff {b v N : Nat} (hv : v < 2 ^ N) : andn b (v ^^^ (2 ^ N - 1)) = 0 ↔ b < 2 ^ N ∧ b &&& v = 0 := by
  have key : ∀ i, (andn b (v ^^^ (2 ^ N - 1))).testBit i = (b.testBit i && (v.testBit i || !decide (i < N))) := fun i => by
    rw [testBit_andn, Nat.testBit_xor, Nat.testBit_two_pow_sub_one]
    by_cases hi : i < N
    · simp [hi]
    · rw [testBit_of_ge hv (by omega)]; simp [hi]
  constructor
  · intro h
    have k2 : ∀ i, (b.testBit i && (v.testBit i || !decide (i < N))) = false := fun i => by rw [← key, h, Nat.zero_testBit]
    refine ⟨Nat.lt_pow_two_of_testBit b (fun i hi => ?_), Nat.eq_of_testBit_eq (fun i => ?_)⟩
    · have := k2 i
      simpa [show ¬ i < N by omega] using this
    · have := k2 i
      rw [Nat.testBit_and, Nat.zero_testBit]
      revert this; cases b.testBit i <;> cases v.testBit i <;> simp
  · rintro ⟨h1, h2⟩
    apply Nat.eq_of_testBit_eq; intro i
    rw [key, Nat.zero_testBit]
    have h3 : (b &&& v).testBit i = false := by rw [h2, Nat.zero_testBit]
    rw [Nat.testBit_and] at h3
    by_cases hi : i < N
    · simpa [hi] using h3
    · rw [testBit_of_ge h1 (by omega)]; rfl
def notW (N v : Nat) : Nat := v ^^^ (2 ^ N - 1)
theorem notW_lt {N v : Nat} (hv : v < 2 ^ N) : notW N v < 2 ^ N := Nat.xor_lt_two_pow hv (by have := Nat.two_pow_pos N; omega)
def ins (x i b : Nat) : Nat := x / 2 ^ i * 2 ^ (i + 1) + b * 2 ^ i + x % 2 ^ i
def rstW (n v i b : Nat) : Nat := prefW (fun x => v.testBit (ins x i b)) (2 ^ (n - 1))
theorem toNat_beq1 (b : Bool) : (((b.toNat : Nat) : Int) == 1) = b := by cases b <;> rfl

def cnt (g : Nat → Bool) : Nat → Nat
  | 0 => 0
  | m + 1 => cnt g m + (g m).toNat
theorem cnt_congr {g g' : Nat → Bool} : ∀ {m : Nat}, (∀ i, i < m → g i = g' i) → cnt g m = cnt g' m
  | 0, _ => rfl
  | m + 1, h => by rw [cnt, cnt, cnt_congr (fun i hi => h i (by omega)), h m (by omega)]
theorem cnt_le (g : Nat → Bool) : ∀ m, cnt g m ≤ m
  | 0 => Nat.le_refl _
  | m + 1 => by have := cnt_le g m; have := toNat_le (g m); rw [cnt]; omega

theorem nat_of {x : Int} (h : 0 ≤ x) : ∃ n : Nat, x = (n : Int) := ⟨x.toNat, by omega⟩
theorem pow_le_5 {n : Nat} (h : n ≤ 5) : 2 ^ n ≤ 32 := by
  have := Nat.pow_le_pow_right (show 0 < 2 by decide) h; simpa using this
theorem full_lt {n : Nat} (h : n ≤ 5) : 2 ^ (2 ^ n) ≤ 2 ^ 32 := Nat.pow_le_pow_right (by decide) (pow_le_5 h)
theorem full_p63 {n : Nat} (h : n ≤ 5) : 2 ^ (2 ^ n) < 2 ^ 63 := Nat.lt_of_le_of_lt (full_lt h) (by decide)

def isT (n w : Int) : Bool := decide (0 ≤ n ∧ n ≤ 5 ∧ 0 ≤ w ∧ w < ((2 ^ 2 ^ n.toNat : Nat) : Int))
theorem isT_nat {a b : Int} (h : isT a b = true) : ∃ n v : Nat, a = (n : Int) ∧ b = (v : Int) ∧ n ≤ 5 ∧ v < 2 ^ 2 ^ n := by
  have h' := of_decide_eq_true h
  obtain ⟨h1, h2, h3, h4⟩ := h'
  obtain ⟨n, rfl⟩ := nat_of h1
  obtain ⟨v, rfl⟩ := nat_of h3
  rw [Int.toNat_natCast] at h4
  exact ⟨n, v, rfl, rfl, by omega, by exact_mod_cast h4⟩
theorem isT_mk {n v : Nat} (hn : n ≤ 5) (hv : v < 2 ^ 2 ^ n) : isT (n : Int) (v : Int) = true := by
  have h : (v : Int) < ((2 ^ 2 ^ n : Nat) : Int) := by exact_mod_cast hv
  simp only [isT, decide_eq_true_eq, Int.toNat_natCast]
  exact ⟨by omega, by omega, by omega, h⟩
theorem full_word {n : Nat} (h : n ≤ 5) : wrap64 ((shl .i64 1 (shl .u64 1 (n : Int))) - 1) = ((2 ^ 2 ^ n : Nat) : Int) - 1 := by
  have h5 := pow_le_5 h
  have hf := full_p63 h
  have hp := Nat.two_pow_pos (2 ^ n)
  rw [shlu_one (by omega), shl_one (by omega), w64 (by omega) (by omega)]
theorem full_word' {n : Nat} (h : n ≤ 5) : wrap64 ((shl .i64 1 (shl .i64 1 (n : Int))) - 1) = ((2 ^ 2 ^ n : Nat) : Int) - 1 := by
  have h5 := pow_le_5 h
  have hf := full_p63 h
  have hp := Nat.two_pow_pos (2 ^ n)
  rw [shl_one (n := n) (by omega), shl_one (by omega), w64 (by omega) (by omega)]

theorem Ev.const {α : Type} {o : Option α} {r : α} (h : o = some r) : Ev (fun _ => o) r := ⟨0, fun _ _ => h⟩
theorem ite_some (D R0 R : Int) : ∃ r, (if D = 0 then some R0 else some R) = some r := by
  by_cases h : D = 0
  · exact ⟨R0, if_pos h⟩
  · exact ⟨R, if_neg h⟩

def iter {S : Type} (step : Nat → S → S) : Nat → Nat → S → S
  | _, 0, s => s
  | i, d + 1, s => iter step (i + 1) d (step i s)
theorem Ev.up {S α : Type} (F : Nat → S → Nat → Option α) (N : Nat) (I : Nat → S → Prop) (step : Nat → S → S) (r : α)
    (hI : ∀ i s, i < N → I i s → I (i + 1) (step i s))
    (hs : ∀ i s, i < N → I i s → Ev (fun k => F k (step i s) (i + 1)) r → Ev (fun k => F k s i) r) :
    ∀ d i s, i + d = N → I i s → (I N (iter step i d s) → Ev (fun k => F k (iter step i d s) N) r) → Ev (fun k => F k s i) r := by
  intro d
  induction d with
  | zero => intro i s hi h k; obtain rfl : i = N := by omega
            exact k h
  | succ d ih => intro i s hi h k; exact hs i s (by omega) h (ih (i + 1) (step i s) (by omega) (hI i s (by omega) h) k)
theorem Ev.count {α : Type} (F : Nat → Nat → Option α) (N : Nat) (r : α)
    (hs : ∀ i, i < N → Ev (fun k => F k (i + 1)) r → Ev (fun k => F k i) r) (he : Ev (fun k => F k N) r) : ∀ d i, i + d = N → Ev (fun k => F k i) r := by
  intro d
  induction d with
  | zero => intro i hi; obtain rfl : i = N := by omega
            exact he
  | succ d ih => intro i hi; exact hs i (by omega) (ih (i + 1) (by omega))
theorem Ev.of_some {α : Type} {g : Nat → Option α} {r : α} (h : ∀ k, g k = some r) : Ev g r := ⟨0, fun k _ => h k⟩
theorem Ev.end {α : Type} {g : Nat → Option α} {r : α} (h : ∀ k, g (k + 1) = some r) : Ev g r := Ev.step h (Ev.now r)

end Go.Proofs.YtfoopehlmnejaaaGreatDoor.M
namespace Go.Proofs.YtfoopehlmnejaaaGreatDoor.M
open Go.RowKit Go.Proofs.YtfoopehlmnejaaaGreatDoorW.PrintWords Go.Proofs.YtfoopehlmnejaaaGreatDoorW.PrintLast
set_option linter.unusedVariables false
set_option linter.unusedSimpArgs false

def szP (n : Nat) : Nat := match n with
  | 0 => 0x0
  | 1 => 0x110
  | 2 => 0x221214224121220
  | _ => 0x33232533523233132535385655454633523655458355643233154635643455235652354585635432354316356454352585656458a68685535434352685555633655558625343453558686a854656585253454653613453234536585453256532554346536451332346553854556325336454556583535231332325335232330
def szF (n : Nat) : Nat := match n with
  | 0 => 0x0
  | 1 => 0x0
  | 2 => 0xa05000a00080a050e0005000a0500
  | _ => 0xaa55ccaaaaf0f055f055f033f0f000aaaaccccaaaa888822eea0eec0eeeff055cc55cc88fa888855445544c002ddf0cccccc00c0fafbccc002f5ccc0c0c0ccaaaa88fcaaaa88883322a0bf3322bbf0aaaaa0a0aa00a8aaa0aea0a0a0aaa0aa0f8888bf888a8888118280dd80bbbbf00f8888cc88aa88aa80eeafcccfaabbaa552255fc33fa110855225544332211f00fee442022eaebee22eeefeeefee77f0550a55500afa08fa55fe005550fa55550fee44ccfbfaddcc44ee5555cfee5555330c0cfc33fa08fc33fef5fc003333330fee20fc22aabbaa22eeafee33aa33aa0ffeddfcbbfabbbb1177555533335555000f0fcc0faa0faa0f0f555533aa5500
def szG (n : Nat) : Nat := match n with
  | 0 => 0x0
  | 1 => 0x0
  | 2 => 0xc0c000300010c0307000c00030300
  | _ => 0xfcfcf0f3f09988f366f044f0221100cfcca5a0c3c0e1e0c5f745f523f3f1eecf5acc5053df5150c3d2c0d013d0f3dd0f0a05000bcfcdfa07c4cff5030201f03f3c35bf33303130a5b415f4a0b0f5bb0f0c0d0c030001fc07f7050403f301f0991e15dc13101110871415b413d2d599880e05af03cf01cc0787d5a5b3c3c5c03f5c3c7f5a7f78703354303050507077667f2d4c4b7f7d78457775757373e1660f540c0c515f515d035700fc0357f3f0445f0d5f4f4f4b5a0357cfcc7353c3c00f32313f0a3f313b05373f3700faf5f0223f0d2f0b3f2d3c05377535af33a530111f3f1f5f1f5d5c071e3f3c5f5a333000eedd0fbb0f990c77660f0c0f030300
def szT (n w : Nat) : Nat := szP n / 2 ^ (4 * w) % 16
def szW1 (n w : Nat) : Nat := szF n / 2 ^ (8 * w) % 256
def szW2 (n w : Nat) : Nat := szG n / 2 ^ (8 * w) % 256
def szVar (n i : Nat) : Nat := prefW (fun x => x.testBit i) (2 ^ n)
def szN (n : Nat) : Nat := 2 ^ 2 ^ n
theorem allB4 {p : Nat → Bool} (h : allB 4 p = true) {n : Nat} (hn : n ≤ 3) : p n = true := allB_of h n (by omega)

def szC1 : Bool := allB 4 fun n => allB (szN n) fun w => Nat.ble (szT n w) 10 && (Nat.beq (szT n w) 0 == (Nat.beq w 0 || Nat.beq (w + 1) (szN n)))
theorem szC1_ok : szC1 = true := by decide +kernel
theorem szT_le {n w : Nat} (hn : n ≤ 3) (hw : w < szN n) : szT n w ≤ 10 := by
  have h := allB_of (allB4 szC1_ok hn) w hw
  rw [Bool.and_eq_true] at h
  exact Nat.le_of_ble_eq_true h.1
theorem szT_zero {n w : Nat} (hn : n ≤ 3) (hw : w < szN n) : szT n w = 0 ↔ w = 0 ∨ w + 1 = szN n := by
  have h := allB_of (allB4 szC1_ok hn) w hw
  rw [Bool.and_eq_true] at h
  have h2 := eq_of_beq h.2
  constructor
  · intro e
    rw [e] at h2
    have h3 : (Nat.beq w 0 || Nat.beq (w + 1) (szN n)) = true := h2.symm
    rw [Bool.or_eq_true] at h3
    exact h3.imp Nat.eq_of_beq_eq_true Nat.eq_of_beq_eq_true
  · intro e
    have h3 : (Nat.beq w 0 || Nat.beq (w + 1) (szN n)) = true := by
      rw [Bool.or_eq_true]
      exact e.imp (fun e => by rw [e]; rfl) (fun e => by rw [e]; exact Nat.beq_refl _)
    rw [h3] at h2
    exact Nat.eq_of_beq_eq_true h2

def szC2 : Bool := allB 4 fun n => allB (szN n) fun f => Nat.beq (szT n f) 0 || allB (szN n) fun g => Nat.beq (szT n g) 0 || (Nat.ble (szT n (Nat.land f g)) (szT n f + szT n g) && Nat.ble (szT n (Nat.lor f g)) (szT n f + szT n g))
theorem szC2_ok : szC2 = true := by decide +kernel
theorem szT_pair {n f g : Nat} (hn : n ≤ 3) (hf : f < szN n) (hg : g < szN n) (h1 : szT n f ≠ 0) (h2 : szT n g ≠ 0) : szT n (f &&& g) ≤ szT n f + szT n g ∧ szT n (f ||| g) ≤ szT n f + szT n g := by
  have h := allB_of (allB4 szC2_ok hn) f hf
  rw [Bool.or_eq_true] at h
  rcases h with h | h
  · exact absurd (Nat.eq_of_beq_eq_true h) h1
  have h := allB_of h g hg
  rw [Bool.or_eq_true] at h
  rcases h with h | h
  · exact absurd (Nat.eq_of_beq_eq_true h) h2
  rw [Bool.and_eq_true] at h
  exact ⟨Nat.le_of_ble_eq_true h.1, Nat.le_of_ble_eq_true h.2⟩

def szC3 : Bool := allB 4 fun n => allB (szN n) fun w => Nat.ble (szT n w) 1 || (Nat.blt (szW1 n w) (szN n) && Nat.blt (szW2 n w) (szN n) && Nat.ble 1 (szT n (szW1 n w)) && Nat.ble (szT n (szW1 n w)) (szT n (szW2 n w)) && Nat.beq (szT n (szW1 n w) + szT n (szW2 n w)) (szT n w) && (Nat.beq (Nat.land (szW1 n w) (szW2 n w)) w || Nat.beq (Nat.lor (szW1 n w) (szW2 n w)) w))
theorem szC3_ok : szC3 = true := by decide +kernel
theorem szT_wit {n w : Nat} (hn : n ≤ 3) (hw : w < szN n) (h2 : 2 ≤ szT n w) : ∃ f g, f < szN n ∧ g < szN n ∧ 1 ≤ szT n f ∧ szT n f ≤ szT n g ∧ szT n f + szT n g = szT n w ∧ (f &&& g = w ∨ f ||| g = w) := by
  have h := allB_of (allB4 szC3_ok hn) w hw
  rw [Bool.or_eq_true] at h
  rcases h with h | h
  · have := Nat.le_of_ble_eq_true h; omega
  simp only [Bool.and_eq_true, Bool.or_eq_true] at h
  obtain ⟨⟨⟨⟨⟨a1, a2⟩, a3⟩, a4⟩, a5⟩, a6⟩ := h
  exact ⟨szW1 n w, szW2 n w, Nat.le_of_ble_eq_true a1, Nat.le_of_ble_eq_true a2, Nat.le_of_ble_eq_true a3, Nat.le_of_ble_eq_true a4, Nat.eq_of_beq_eq_true a5, a6.imp Nat.eq_of_beq_eq_true Nat.eq_of_beq_eq_true⟩

def szIsLet (n : Nat) (w : Nat) : Nat → Bool
  | 0 => false
  | i + 1 => szIsLet n w i || Nat.beq w (szVar n i) || Nat.beq (w + szVar n i + 1) (szN n)
def szC4 : Bool := allB 4 fun n => allB (szN n) fun w => Nat.beq (szT n w) 1 == szIsLet n w n
theorem szC4_ok : szC4 = true := by decide +kernel
theorem szT_one {n w : Nat} (hn : n ≤ 3) (hw : w < szN n) : szT n w = 1 ↔ szIsLet n w n = true := by
  have h := eq_of_beq (allB_of (allB4 szC4_ok hn) w hw)
  rw [← h]
  exact ⟨fun e => by rw [e]; rfl, Nat.eq_of_beq_eq_true⟩

theorem szrd_set {out : List Int} {w : Nat} {v : Int} (hw : w < out.length) (x : Nat) : rd (out.set w v) (x : Int) = if x = w then v else rd out (x : Int) := by
  unfold rd
  rw [Int.toNat_natCast, List.getD_eq_getElem?_getD, List.getD_eq_getElem?_getD, List.getElem?_set]
  by_cases h : w = x
  · subst h; simp [hw]
  · rw [if_neg h, if_neg (fun e => h e.symm)]
theorem szcnt_drop {g g' : Nat → Bool} {w : Nat} (h1 : g w = true) (h2 : g' w = false) : ∀ {N : Nat}, w < N → (∀ i, i < N → i ≠ w → g' i = g i) → cnt g' N + 1 = cnt g N
  | 0, hw, _ => by omega
  | N + 1, hw, h => by
    rw [cnt, cnt]
    by_cases e : w = N
    · subst e
      rw [h1, h2, cnt_congr (g := g') (g' := g) (fun i hi => h i (by omega) (by omega))]
      rfl
    · rw [h N (by omega) (fun x => e x.symm)]
      have := szcnt_drop h1 h2 (N := N) (by omega) (fun i hi hne => h i (by omega) hne)
      omega
theorem szcnt_zero {g : Nat → Bool} : ∀ {N : Nat}, cnt g N = 0 → ∀ i, i < N → g i = false
  | 0, _, i, hi => by omega
  | N + 1, h, i, hi => by
    rw [cnt] at h
    by_cases e : i = N
    · subst e
      cases hg : g i with
      | false => rfl
      | true => rw [hg] at h; simp at h
    · exact szcnt_zero (N := N) (by omega) i (by omega)
def szIs (n : Nat) (u : Int) (out : List Int) (w : Nat) : Bool := decide (szT n w ≠ 0) && (rd out (w : Int) == u)
def szU (n : Nat) (u : Int) (out : List Int) : Nat := cnt (szIs n u out) (szN n)
structure SzI (n s : Nat) (u : Int) (out fr : List Int) : Prop where
  len : out.length = szN n
  con : ∀ w, w < szN n → szT n w = 0 → rd out (w : Int) = 0
  low : ∀ w, w < szN n → 0 < szT n w → szT n w < s → rd out (w : Int) = (szT n w : Int)
  hig : ∀ w, w < szN n → s ≤ szT n w → rd out (w : Int) = u ∨ (rd out (w : Int) = (s : Int) ∧ szT n w = s ∧ (w : Int) ∈ fr)
  mem : ∀ x, x ∈ fr → ∃ w : Nat, w < szN n ∧ x = (w : Int) ∧ szT n w = s
  cou : fr.length + szU n u out ≤ szN n
theorem szIs_set {n : Nat} {u : Int} {out : List Int} {w s : Nat} (hw : w < out.length) (hu : (s : Int) ≠ u) (x : Nat) : szIs n u (out.set w (s : Int)) x = if x = w then false else szIs n u out x := by
  unfold szIs
  rw [szrd_set hw]
  by_cases e : x = w
  · rw [if_pos e, if_pos e, beq_eq_false_iff_ne.mpr hu, Bool.and_false]
  · rw [if_neg e, if_neg e]
theorem SzI.put {n s : Nat} {u : Int} {out fr : List Int} {w : Nat} (hu : u ≤ 0) (hs : 1 ≤ s) (h : SzI n s u out fr) (hw : w < szN n) (hT : szT n w ≤ s) (hi : szIs n u out w = true) :
    SzI n s u (out.set w (s : Int)) (fr ++ [(w : Int)]) ∧ szU n u (out.set w (s : Int)) + 1 = szU n u out ∧ fr.length < szN n := by
  have hne : (s : Int) ≠ u := by omega
  have hwl : w < out.length := by rw [h.len]; exact hw
  have hi' := hi
  rw [szIs, Bool.and_eq_true, decide_eq_true_eq] at hi'
  obtain ⟨h0, h1⟩ := hi'
  have h1 := eq_of_beq h1
  have hTs : szT n w = s := by
    rcases Nat.lt_or_ge (szT n w) s with hl | hl
    · have := h.low w hw (by omega) hl
      omega
    · omega
  have hcnt : szU n u (out.set w (s : Int)) + 1 = szU n u out := szcnt_drop hi (by rw [szIs_set hwl hne, if_pos rfl]) hw (fun i _ hiw => by rw [szIs_set hwl hne, if_neg hiw])
  have hc := h.cou
  refine ⟨⟨by rw [List.length_set]; exact h.len, fun x hx h0' => ?_, fun x hx h1' h2' => ?_, fun x hx h1' => ?_, fun x hx => ?_, ?_⟩, hcnt, by omega⟩
  · rw [szrd_set hwl, if_neg (fun e => h0 (by rw [← e]; exact h0'))]; exact h.con x hx h0'
  · rw [szrd_set hwl, if_neg (fun e => by subst e; omega)]; exact h.low x hx h1' h2'
  · rw [szrd_set hwl]
    by_cases e : x = w
    · rw [if_pos e]; subst e; exact .inr ⟨rfl, hTs, by simp⟩
    · rw [if_neg e]
      exact (h.hig x hx h1').imp id (fun ⟨a, b, c⟩ => ⟨a, b, List.mem_append_left _ c⟩)
  · rcases List.mem_append.mp hx with hx | hx
    · exact h.mem x hx
    · rw [List.mem_singleton] at hx
      exact ⟨w, hw, hx, hTs⟩
  · rw [List.length_append, List.length_singleton]; omega
theorem SzI.next {n s : Nat} {u : Int} {out fr : List Int} (h : SzI n s u out fr) (hs : 1 ≤ s) (hc : ∀ w, w < szN n → szT n w = s → szIs n u out w = false) : SzI n (s + 1) u out [] := by
  refine ⟨h.len, h.con, fun w hw h0 h1 => ?_, fun w hw h1 => ?_, fun x hx => (by cases hx), by have := h.cou; simp; omega⟩
  · by_cases e : szT n w = s
    · rcases h.hig w hw (by omega) with h2 | ⟨h2, _⟩
      · have h3 := hc w hw e
        rw [szIs, h2, beq_self_eq_true, Bool.and_true, decide_eq_false_iff_not] at h3
        omega
      · rw [h2, e]
    · exact h.low w hw h0 (by omega)
  · rcases h.hig w hw (by omega) with h2 | ⟨_, h2, _⟩
    · exact .inl h2
    · omega
def szL (n : Nat) : List Int := (List.range (szN n)).map fun w => (szT n w : Int)
theorem szL_len (n : Nat) : (szL n).length = szN n := by simp [szL]
theorem rd_szL {n w : Nat} (hw : w < szN n) : rd (szL n) (w : Int) = (szT n w : Int) := by
  unfold rd szL
  rw [Int.toNat_natCast, List.getD_eq_getElem?_getD, List.getElem?_map, List.getElem?_range hw]; rfl
theorem szrd_ext {xs ys : List Int} (h : xs.length = ys.length) (h2 : ∀ w : Nat, w < xs.length → rd xs (w : Int) = rd ys (w : Int)) : xs = ys := by
  apply List.ext_getElem h
  intro i h3 h4
  have := h2 i h3
  unfold rd at this
  rw [Int.toNat_natCast, List.getD_eq_getElem?_getD, List.getD_eq_getElem?_getD, List.getElem?_eq_getElem h3, List.getElem?_eq_getElem h4] at this
  exact this
theorem SzI.full {n s : Nat} {u : Int} {out : List Int} (h : SzI n s u out []) (hno : ∀ w, w < szN n → szIs n u out w = false) : out = szL n := by
  refine szrd_ext (by rw [h.len, szL_len]) (fun w hw => ?_)
  rw [h.len] at hw
  rw [rd_szL hw]
  by_cases h0 : szT n w = 0
  · rw [h.con w hw h0, h0]; rfl
  · rcases Nat.lt_or_ge (szT n w) s with hl | hl
    · exact h.low w hw (by omega) hl
    · rcases h.hig w hw hl with h2 | ⟨_, _, h2⟩
      · have h3 := hno w hw
        rw [szIs, h2, beq_self_eq_true, Bool.and_true, decide_eq_false_iff_not] at h3
        exact absurd h0 h3
      · cases h2
theorem SzI.last {n s : Nat} {u : Int} {out fr : List Int} (hn : n ≤ 3) (h : SzI n s u out fr) (hs : 10 < s) (hu : u ≤ 0) : ∀ w, w < szN n → szIs n u out w = false := by
  intro w hw
  have h1 := szT_le hn hw
  by_cases h0 : szT n w = 0
  · rw [szIs, h0]; rfl
  · rw [szIs, h.low w hw (by omega) (by omega), beq_eq_false_iff_ne.mpr (by omega), Bool.and_false]
theorem SzI.neg {n s : Nat} {out fr : List Int} {w : Nat} (h : SzI n s (-1) out fr) (hw : w < szN n) : decide (rd out (w : Int) < 0) = szIs n (-1) out w := by
  by_cases h0 : szT n w = 0
  · rw [h.con w hw h0, szIs, h0]; rfl
  · have e : szIs n (-1) out w = (rd out (w : Int) == -1) := by rw [szIs, decide_eq_true h0, Bool.true_and]
    rw [e]
    rcases Nat.lt_or_ge (szT n w) s with hl | hl
    · rw [h.low w hw (by omega) hl, beq_eq_false_iff_ne.mpr (by omega)]
      exact decide_eq_false (by omega)
    · rcases h.hig w hw hl with h2 | ⟨h2, _⟩
      · rw [h2]; rfl
      · rw [h2, beq_eq_false_iff_ne.mpr (by omega)]
        exact decide_eq_false (by omega)
theorem SzI.nul {n s : Nat} {out fr : List Int} {w : Nat} (hn : n ≤ 3) (h : SzI n s 0 out fr) (hw : w < szN n) : (rd out (w : Int) = 0 ∧ 0 < w ∧ w + 1 < szN n) ↔ szIs n 0 out w = true := by
  rw [szIs, Bool.and_eq_true, decide_eq_true_eq, beq_iff_eq]
  have hz := szT_zero hn hw
  constructor
  · rintro ⟨h1, h2, h3⟩
    exact ⟨fun e => by rcases hz.mp e with e | e <;> omega, h1⟩
  · rintro ⟨h1, h2⟩
    refine ⟨h2, ?_, ?_⟩
    · rcases Nat.eq_zero_or_pos w with e | e
      · exact absurd (hz.mpr (.inl e)) h1
      · exact e
    · rcases Nat.lt_or_ge (w + 1) (szN n) with e | e
      · exact e
      · exact absurd (hz.mpr (.inr (by omega))) h1
structure SzR (n s : Nat) (rows : List (List Int)) : Prop where
  len : rows.length = s
  mem : ∀ k x, k < s → x ∈ rows.getD k [] → 1 ≤ k ∧ ∃ w : Nat, w < szN n ∧ x = (w : Int) ∧ szT n w = k
  all : ∀ w, w < szN n → 1 ≤ szT n w → szT n w < s → (w : Int) ∈ rows.getD (szT n w) []
  row : ∀ k, k < s → (rows.getD k []).length ≤ szN n
theorem szgetD_snoc {α : Type} (xs : List α) (x d : α) (k : Nat) : (xs ++ [x]).getD k d = if k < xs.length then xs.getD k d else if k = xs.length then x else d := by
  rw [List.getD_eq_getElem?_getD, List.getD_eq_getElem?_getD]
  by_cases h : k < xs.length
  · rw [if_pos h, List.getElem?_append_left h]
  · rw [if_neg h, List.getElem?_append_right (by omega)]
    by_cases e : k = xs.length
    · rw [if_pos e, e]; simp
    · rw [if_neg e, List.getElem?_eq_none (by simp; omega)]; rfl
theorem SzR.push {n s : Nat} {u : Int} {out fr : List Int} {rows : List (List Int)} (hu : u ≤ 0) (hs : 1 ≤ s) (R : SzR n s rows) (h : SzI n s u out fr) (hc : ∀ w, w < szN n → szT n w = s → szIs n u out w = false) : SzR n (s + 1) (rows ++ [fr]) := by
  refine ⟨by simp [R.len], fun k x hk hx => ?_, fun w hw h1 h2 => ?_, fun k hk => ?_⟩
  · rw [szgetD_snoc, R.len] at hx
    by_cases e : k < s
    · rw [if_pos e] at hx; exact R.mem k x e hx
    · rw [if_neg e, if_pos (by omega)] at hx
      obtain ⟨w, a, b, c⟩ := h.mem x hx
      exact ⟨by omega, w, a, b, by omega⟩
  · rw [szgetD_snoc, R.len]
    by_cases e : szT n w < s
    · rw [if_pos e]; exact R.all w hw h1 e
    · rw [if_neg e, if_pos (by omega)]
      have h3 := hc w hw (by omega)
      rcases h.hig w hw (by omega) with h4 | ⟨_, _, h4⟩
      · rw [szIs, h4, beq_self_eq_true, Bool.and_true, decide_eq_false_iff_not] at h3
        omega
      · exact h4
  · rw [szgetD_snoc, R.len]
    by_cases e : k < s
    · rw [if_pos e]; exact R.row k e
    · rw [if_neg e, if_pos (by omega)]
      have := h.cou; omega
def szCov (n : Nat) (u : Int) (out : List Int) (f g : Int) : Prop := ∀ p q : Nat, f = (p : Int) → g = (q : Int) → szIs n u out (p &&& q) = false ∧ szIs n u out (p ||| q) = false
theorem szCov_done {n s : Nat} {u : Int} {out : List Int} {rows : List (List Int)} (hn : n ≤ 3) (hs : 2 ≤ s) (R : SzR n s rows)
    (hc : ∀ a, 1 ≤ a → 2 * a ≤ s → ∀ f, f ∈ rows.getD a [] → ∀ g, g ∈ rows.getD (s - a) [] → szCov n u out f g) : ∀ w, w < szN n → szT n w = s → szIs n u out w = false := by
  intro w hw hT
  obtain ⟨f, g, hf, hg, h1, h2, h3, h4⟩ := szT_wit hn hw (by omega)
  have m1 := R.all f hf h1 (by omega)
  have m2 := R.all g hg (by omega) (by omega)
  rw [show szT n g = s - szT n f by omega] at m2
  obtain ⟨c1, c2⟩ := hc (szT n f) h1 (by omega) f m1 g m2 f g rfl rfl
  rcases h4 with h4 | h4
  · rw [h4] at c1; exact c1
  · rw [h4] at c2; exact c2
def szTake (n s : Nat) (u : Int) (o : List Int × List Int) (w : Nat) : List Int × List Int := if szIs n u o.1 w = true then (o.1.set w (s : Int), o.2 ++ [(w : Int)]) else o
theorem szTake_keep {n s : Nat} {u : Int} (hu : u ≤ 0) (hs : 1 ≤ s) {o : List Int × List Int} (h : SzI n s u o.1 o.2) {w : Nat} (hw : w < szN n) (hT : szT n w ≤ s) : SzI n s u (szTake n s u o w).1 (szTake n s u o w).2 := by
  unfold szTake
  by_cases e : szIs n u o.1 w = true
  · rw [if_pos e]; exact (h.put hu hs hw hT e).1
  · rw [if_neg e]; exact h
theorem szTake_is {n s : Nat} {u : Int} (hu : u ≤ 0) (hs : 1 ≤ s) {o : List Int × List Int} {w : Nat} (hw : w < o.1.length) (x : Nat) : szIs n u (szTake n s u o w).1 x = if x = w then false else szIs n u o.1 x := by
  unfold szTake
  by_cases e : szIs n u o.1 w = true
  · rw [if_pos e]; exact szIs_set hw (by omega) x
  · rw [if_neg e]
    by_cases e2 : x = w
    · rw [if_pos e2, e2]; simpa using e
    · rw [if_neg e2]
theorem szTake_cov {n s : Nat} {u : Int} (hu : u ≤ 0) (hs : 1 ≤ s) {o : List Int × List Int} {w : Nat} (hw : w < o.1.length) {f g : Int} (h : szCov n u o.1 f g) : szCov n u (szTake n s u o w).1 f g := by
  intro p q e1 e2
  obtain ⟨h1, h2⟩ := h p q e1 e2
  rw [szTake_is hu hs hw, szTake_is hu hs hw, h1, h2]
  exact ⟨ite_self _, ite_self _⟩
theorem szTake_len {n s : Nat} {u : Int} (o : List Int × List Int) (w : Nat) : (szTake n s u o w).1.length = o.1.length := by
  unfold szTake
  by_cases e : szIs n u o.1 w = true
  · rw [if_pos e]; simp
  · rw [if_neg e]
def szPair (n s : Nat) (u : Int) (o : List Int × List Int) (p q : Nat) : List Int × List Int := szTake n s u (szTake n s u o (p &&& q)) (p ||| q)
theorem szPair_cov {n s : Nat} {u : Int} (hu : u ≤ 0) (hs : 1 ≤ s) {o : List Int × List Int} (hlen : o.1.length = szN n) {p q : Nat} (hp : p < szN n) (hq : q < szN n) : szCov n u (szPair n s u o p q).1 (p : Int) (q : Int) ∧ ∀ f g, szCov n u o.1 f g → szCov n u (szPair n s u o p q).1 f g := by
  have hl1 : p &&& q < o.1.length := by rw [hlen]; exact Nat.lt_of_le_of_lt Nat.and_le_left hp
  have hl2 : p ||| q < (szTake n s u o (p &&& q)).1.length := by rw [szTake_len, hlen]; exact Nat.or_lt_two_pow hp hq
  refine ⟨fun p' q' e1 e2 => ?_, fun f g h => szTake_cov hu hs hl2 (szTake_cov hu hs hl1 h)⟩
  obtain rfl : p = p' := by omega
  obtain rfl : q = q' := by omega
  unfold szPair
  rw [szTake_is hu hs hl2, szTake_is hu hs hl2, szTake_is hu hs hl1, szTake_is hu hs hl1, if_pos rfl, if_pos rfl]
  exact ⟨ite_self _, rfl⟩
def szLets (n : Nat) : Nat → List Int
  | 0 => []
  | i + 1 => szLets n i ++ [(szVar n i : Int), ((szN n - 1 - szVar n i : Nat) : Int)]
theorem cnt_const (n : Nat) (hn : n ≤ 3) : cnt (fun w => decide (szT n w ≠ 0)) (szN n) + 2 = szN n := by
  have h : allB 4 (fun n => decide (cnt (fun w => decide (szT n w ≠ 0)) (szN n) + 2 = szN n)) = true := by decide +kernel
  exact of_decide_eq_true (allB4 h hn)
theorem szIsLet_elim {n w : Nat} : ∀ {i : Nat}, szIsLet n w i = true → ∃ j, j < i ∧ (w = szVar n j ∨ w + szVar n j + 1 = szN n)
  | 0, h => by cases h
  | i + 1, h => by
    rw [szIsLet, Bool.or_eq_true, Bool.or_eq_true] at h
    rcases h with (h | h) | h
    · obtain ⟨j, h1, h2⟩ := szIsLet_elim h
      exact ⟨j, by omega, h2⟩
    · exact ⟨i, by omega, .inl (Nat.eq_of_beq_eq_true h)⟩
    · exact ⟨i, by omega, .inr (Nat.eq_of_beq_eq_true h)⟩
def szC5 : Bool := allB 4 fun n => allB n fun i => Nat.blt (szVar n i) (szN n) && Nat.beq (szT n (szVar n i)) 1 && Nat.beq (szT n (szN n - 1 - szVar n i)) 1 && Nat.beq (Nat.xor (szVar n i) (szN n - 1)) (szN n - 1 - szVar n i)
theorem szC5_ok : szC5 = true := by decide +kernel
theorem szVar_ok {n i : Nat} (hn : n ≤ 3) (hi : i < n) : szVar n i < szN n ∧ szT n (szVar n i) = 1 ∧ szT n (szN n - 1 - szVar n i) = 1 ∧ szVar n i ^^^ (szN n - 1) = szN n - 1 - szVar n i := by
  have h := allB_of (allB4 szC5_ok hn) i hi
  simp only [Bool.and_eq_true] at h
  obtain ⟨⟨⟨a1, a2⟩, a3⟩, a4⟩ := h
  exact ⟨Nat.le_of_ble_eq_true a1, Nat.eq_of_beq_eq_true a2, Nat.eq_of_beq_eq_true a3, Nat.eq_of_beq_eq_true a4⟩
theorem szN_pos {n : Nat} : 2 ≤ szN n := by
  have := Nat.pow_le_pow_right (show 0 < 2 by decide) (Nat.one_le_two_pow (n := n))
  simpa [szN] using this
theorem szLet_done {n : Nat} {u : Int} {out : List Int} (hn : n ≤ 3) (h : ∀ j, j < n → szIs n u out (szVar n j) = false ∧ szIs n u out (szN n - 1 - szVar n j) = false) : ∀ w, w < szN n → szT n w = 1 → szIs n u out w = false := by
  intro w hw h1
  obtain ⟨j, hj, e⟩ := szIsLet_elim ((szT_one hn hw).mp h1)
  have hv := (szVar_ok hn hj).1
  rcases e with e | e
  · rw [e]; exact (h j hj).1
  · rw [show w = szN n - 1 - szVar n j by omega]; exact (h j hj).2
theorem SzR.one (n : Nat) : SzR n 1 [[]] := by
  refine ⟨rfl, fun k x hk hx => ?_, fun w hw h1 h2 => by omega, fun k hk => ?_⟩
  · obtain rfl : k = 0 := by omega
    cases hx
  · obtain rfl : k = 0 := by omega
    exact Nat.zero_le _
theorem szLet_step {n : Nat} {u : Int} (hn : n ≤ 3) (hu : u ≤ 0) {o : List Int × List Int} (hlen : o.1.length = szN n) {i : Nat} (hi : i < n) (h : ∀ j, j < i → szIs n u o.1 (szVar n j) = false ∧ szIs n u o.1 (szN n - 1 - szVar n j) = false) :
    ∀ j, j < i + 1 → szIs n u (szTake n 1 u (szTake n 1 u o (szVar n i)) (szN n - 1 - szVar n i)).1 (szVar n j) = false ∧ szIs n u (szTake n 1 u (szTake n 1 u o (szVar n i)) (szN n - 1 - szVar n i)).1 (szN n - 1 - szVar n j) = false := by
  have h2 := szN_pos (n := n)
  have hv := (szVar_ok hn hi).1
  have l1 : szVar n i < o.1.length := by rw [hlen]; exact hv
  have l2 : szN n - 1 - szVar n i < (szTake n 1 u o (szVar n i)).1.length := by rw [szTake_len, hlen]; omega
  have key : ∀ x, szIs n u o.1 x = false ∨ x = szVar n i ∨ x = szN n - 1 - szVar n i → szIs n u (szTake n 1 u (szTake n 1 u o (szVar n i)) (szN n - 1 - szVar n i)).1 x = false := by
    intro x hx
    rw [szTake_is hu (by omega) l2, szTake_is hu (by omega) l1]
    rcases hx with hx | hx | hx
    · rw [hx]; simp
    · rw [if_pos hx]; simp
    · rw [if_pos hx]
  intro j hj
  by_cases e : j = i
  · subst e; exact ⟨key _ (.inr (.inl rfl)), key _ (.inr (.inr rfl))⟩
  · exact ⟨key _ (.inl (h j (by omega)).1), key _ (.inl (h j (by omega)).2)⟩

end Go.Proofs.YtfoopehlmnejaaaGreatDoor.M
namespace Go.Proofs.YtfoopehlmnejaaaGreatDoor.M
open Go Go.RowKit Go.Proofs.YtfoopehlmnejaaaGreatDoorW.PrintWords Go.Proofs.YtfoopehlmnejaaaGreatDoorW.PrintLast
set_option linter.unusedVariables false
set_option linter.unusedSimpArgs false

theorem two_bytes {wc : World} {base e : Nat} {ok : Nat → Prop} (a b : Int) (hok : ok wc.heap.size) :
    Kd.V (Kd.int .u8) e (wc.alloc (.cells #[.int .u8 a, .int .u8 b] e (2, 3))) base ok (.slice (some ⟨wc.heap.size, 0, none⟩) 2 2) [a, b] := by
  refine ⟨some ⟨wc.heap.size, 0, none⟩, 2, rfl, Nat.le_refl _, fun W' hW => ⟨rfl, by show (2 : Nat) ≤ _; omega, fun _ => ⟨_, rfl, fun j p hp => ?_⟩⟩⟩
  have h1 : W'.heap[wc.heap.size]? = some (.cells #[.int .u8 a, .int .u8 b] e (2, 3)) := by
    rw [hW wc.heap.size hok (by show wc.heap.size < (wc.heap.push _).size; simp)]
    show (wc.heap.push _)[wc.heap.size]? = _
    simp
  have hj : j = 0 ∨ j = 1 := by
    have := (List.getElem?_eq_some_iff.mp hp).1
    have : j < 2 := this
    omega
  rcases hj with rfl | rfl
  · cases hp
    refine ⟨[.int .u8 a], rfl, rfl, fun i u hu => ?_⟩
    have hi : i = 0 := by have := (List.getElem?_eq_some_iff.mp hu).1; simp at this; omega
    subst hi
    cases hu
    show W'.cell? ⟨wc.heap.size, 0, none⟩ = _
    simp [World.cell?, h1]
  · cases hp
    refine ⟨[.int .u8 b], rfl, rfl, fun i u hu => ?_⟩
    have hi : i = 0 := by have := (List.getElem?_eq_some_iff.mp hu).1; simp at this; omega
    subst hi
    cases hu
    show W'.cell? ⟨wc.heap.size, 1, none⟩ = _
    simp [World.cell?, h1]
theorem two_below (wc : World) (o : Obj) : Below wc.heap.size wc (wc.alloc o) := (Below.refl _ _).alloc (Nat.le_refl _) _
theorem two_base (wc : World) (n c : Nat) : ∀ k, (Value.slice (some ⟨wc.heap.size, 0, none⟩) n c).ownBlock = some k → wc.heap.size ≤ k := by
  intro k h
  simp [Value.ownBlock] at h
  omega
theorem two_made {P : Program} (wc : World) (t e : TypeId) (a b : Int) (ht : P.underlying t = some (.slice e)) (he : P.underlying e = some (.int .u8)) {xs : List Int} (hx : xs = [a, b]) :
    ∃ (A : Option Addr) (c : Nat) (W : World), (convert t t (.slice (some ⟨wc.heap.size, 0, none⟩) 2 2)).run P (wc.alloc (.cells #[.int .u8 a, .int .u8 b] e)) = .ok (.slice A xs.length c) W ∧
      Below wc.heap.size wc W ∧ (∀ k, (Value.slice A xs.length c).ownBlock = some k → wc.heap.size ≤ k) ∧ (∀ base (ok : Nat → Prop), (∀ k, wc.heap.size ≤ k → ok k) → Kd.V (Kd.int .u8) e W base ok (.slice A xs.length c) xs) := by
  subst hx
  exact ⟨_, _, _, Go.Lib.run_convert_bytes_const wc t e #[.int .u8 a, .int .u8 b] 2 2 ht he, two_below wc _, two_base wc 2 2, fun base ok h => two_bytes a b (h _ (Nat.le_refl _))⟩
theorem V_lt {W : World} {base e n c : Nat} {ok : Nat → Prop} {A : Option Addr} {xs : List Int} (h : Kd.V (Kd.int .u8) e W base ok (.slice A n c) xs) (hx : 0 < xs.length) : ∀ k, (Value.slice A n c).ownBlock = some k → k < W.heap.size := by
  obtain ⟨hn, _, hC⟩ := Kd.V_reads' h
  obtain ⟨ad, rfl, hc⟩ := hC.2.2 hx
  obtain ⟨cs, h1, _, h2⟩ := hc 0 _ (List.getElem?_eq_getElem hx)
  have h1' : cs.length = 1 := h1
  have h3 := h2 0 _ (List.getElem?_eq_getElem (by omega))
  intro k hk
  have e1 : ad.block = k := by simpa [Value.ownBlock] using hk
  rcases Nat.lt_or_ge k W.heap.size with h' | h'
  · exact h'
  · exfalso
    have : (ad.add (0 * (Kd.int IntKind.u8).sz + 0)).block = k := e1
    have h4 : W.heap[(ad.add (0 * (Kd.int IntKind.u8).sz + 0)).block]? = none := Array.getElem?_eq_none (by rw [this]; exact h')
    unfold World.cell? at h3
    rw [h4] at h3
    simp at h3
end Go.Proofs.YtfoopehlmnejaaaGreatDoor.M
namespace Go.Proofs.YtfoopehlmnejaaaGreatDoor.M
open Go Go.RowKit Go.Proofs.YtfoopehlmnejaaaGreatDoorW.PrintWords Go.Proofs.YtfoopehlmnejaaaGreatDoorW.PrintLast
set_option linter.unusedVariables false
set_option linter.unusedSimpArgs false

theorem rows_cell {ti ts base g n cap : Nat} {W : World} {ok : Nat → Prop} {xs : List (List Int)} (h : Kd.S (Kd.slice ti (Kd.int .i64)) ts W base ok (.slice (some ⟨g, 0, none⟩) n cap) xs) (i : Nat) (hi : i < n) :
    ∃ A c, W.cell? ⟨g, i, none⟩ = some (.slice A (xs.getD i []).length c) ∧ W.frozen? ⟨g, i, none⟩ = false ∧ (xs.getD i []).length ≤ c ∧ (Kd.int .i64).C W A (xs.getD i []).length (xs.getD i []) := by
  obtain ⟨oki, c, hcl, hM, hcc, hfr, _, _⟩ := Kd.S_elem h [] (i : Int) (by omega) (by omega)
  rw [Int.toNat_natCast] at hM hcc hfr
  obtain ⟨v, rfl, hR⟩ := hM
  obtain ⟨A, c2, rfl, h2, h3⟩ := Kd.R_reads hR
  have h4 := hcc 0 _ rfl
  have h5 := hfr 0
  simp only [Kd.slice, Nat.mul_one, Nat.add_zero] at h4 h5
  exact ⟨A, c2, h4, h5, h2, h3⟩
theorem rows_elem {ti ts base g n cap : Nat} {W : World} {ok : Nat → Prop} {xs : List (List Int)} (h : Kd.S (Kd.slice ti (Kd.int .i64)) ts W base ok (.slice (some ⟨g, 0, none⟩) n cap) xs) (i : Nat) (hi : i < n) (j : Nat) (hj : j < (xs.getD i []).length) :
    ∃ g1 c, W.cell? ⟨g, i, none⟩ = some (.slice (some ⟨g1, 0, none⟩) (xs.getD i []).length c) ∧ W.cell? ⟨g1, j, none⟩ = some (.int .i64 (rd (xs.getD i []) (j : Int))) := by
  obtain ⟨oki, c, hcl, hM, hcc, hfr, _, _⟩ := Kd.S_elem h [] (i : Int) (by omega) (by omega)
  rw [Int.toNat_natCast] at hM hcc hfr
  obtain ⟨v, rfl, hR⟩ := hM
  obtain ⟨g1, c2, rfl, _, _, _⟩ := Kd.R_form hR (by omega)
  have h4 := hcc 0 _ rfl
  simp only [Kd.slice, Nat.mul_one, Nat.add_zero] at h4
  have h5 := (Kd.R_celln 0 hR (j : Int) (by omega) (by omega)).1
  rw [Int.toNat_natCast] at h5
  exact ⟨g1, c2, h4, h5⟩
theorem rows_lend {ti ts base g n cap : Nat} {W : World} {ok : Nat → Prop} {xs : List (List Int)} (hok : ∀ k, W.heap.size ≤ k → ok k) (h : Kd.S (Kd.slice ti (Kd.int .i64)) ts W base ok (.slice (some ⟨g, 0, none⟩) n cap) xs) (i : Nat) (hi : i < n) :
    ∃ (okw : Nat → Prop) (u : Value), W.cell? ⟨g, i, none⟩ = some u ∧ W.frozen? ⟨g, i, none⟩ = false ∧ (∀ k, W.heap.size ≤ k → okw k) ∧ (∀ k, okw k → ok k ∧ k ≠ g) ∧ (Kd.int .i64).R ti W base okw u (xs.getD i []) ∧
      ∀ (w1 : World) (v1 : Value) (zs : List Int), W.grownBy w1 u.ownBlock → (Kd.int .i64).R ti w1 base okw v1 zs → Kd.S (Kd.slice ti (Kd.int .i64)) ts (w1.setCell ⟨g, i, none⟩ v1) base ok (.slice (some ⟨g, 0, none⟩) n cap) (xs.set i zs) := by
  obtain ⟨oki, c, hcl, hM, hcc, hfr, hoki, hH⟩ := Kd.S_elem h [] (i : Int) (by omega) (by omega)
  rw [Int.toNat_natCast] at hM hcc hfr
  obtain ⟨u, rfl, hR⟩ := hM
  have hgl : g < W.heap.size := Kd.S_lt h g (by simp [Value.ownBlock])
  have h4 := hcc 0 _ rfl
  have h5 := hfr 0
  simp only [Kd.slice, Nat.mul_one, Nat.add_zero] at h4 h5
  have hne : ∀ k, (oki k ∨ ok k ∧ W.heap.size ≤ k) → ok k ∧ k ≠ g := fun k hk => hk.elim (fun h => hoki k h) (fun h => ⟨h.1, by omega⟩)
  refine ⟨fun k => oki k ∨ ok k ∧ W.heap.size ≤ k, u, h4, h5, fun k hk => .inr ⟨hok k hk, hk⟩, hne, Kd.R_mono hR (fun k hk => .inl hk), ?_⟩
  intro w1 v1 zs hg hr
  have hv := Kd.R_val hr
  have h6 := Kd.H_grown (Kd.H_widen hH) hg (fun k hk => .inl (hR.1 k hk))
  have h7 := (Kd.H_seg h6 (by omega) (by omega) (seg := [v1]) (j := 0) (by simp [Kd.slice]) (fun q hq => by rw [List.mem_singleton.1 hq]; exact hv.2)).1
  have h8 : w1.setCells g ((i : Int).toNat * (Kd.slice ti (Kd.int .i64)).sz + 0) [v1] = w1.setCell ⟨g, i, none⟩ v1 := by
    simp only [Kd.slice, Int.toNat_natCast, Nat.mul_one, Nat.add_zero]; rfl
  rw [h8] at h7
  have h9 := Kd.H_back h7 (x' := zs) (okp := fun k => oki k ∨ ok k ∧ W.heap.size ≤ k) ⟨v1, rfl, Kd.R_far hr (fun k hk => (hne k hk).2) v1⟩ (fun _ hk => hk)
  rw [Int.toNat_natCast] at h9
  exact h9
theorem app_run {P : Program} {ti t ty : Nat} (ht : P.underlying t = some (.slice ti)) (hinfo : (P.info? ti).map (fun i => (i.zero, i.size, i.bytes)) = some (some (.int .i64 0), 1, 8)) {W : World} {base : Nat} {okw : Nat → Prop} {u : Value} {xs : List Int}
    (h : (Kd.int .i64).R ti W base okw u xs) (hbase : base ≤ W.heap.size) (hokf : ∀ k, W.heap.size ≤ k → okw k) (a : Addr) (m c : Nat) (ys : List Int) (hm : ys.length = m) (hy : ∀ j, j < m → W.cell? (a.add j) = some (.int .i64 (ys.getD j 0))) (hl : (xs.length + m) * 8 ≤ 140737488355328) :
    ∃ A c1 w1, (Builtin.append_ #[t, t] ty #[u, .slice (some a) m c]).run P W = .ok (.slice A (xs ++ ys).length c1) w1 ∧ (Kd.int .i64).R ti w1 base okw (.slice A (xs ++ ys).length c1) (xs ++ ys) ∧ W.grownBy w1 u.ownBlock ∧ ((Value.slice A (xs ++ ys).length c1).ownBlock = u.ownBlock ∨ (Value.slice A (xs ++ ys).length c1).ownBlock = some W.heap.size) := by
  obtain ⟨i0, hi, hzz⟩ := Option.map_eq_some_iff.1 hinfo
  simp only [Prod.mk.injEq] at hzz
  obtain ⟨hz0, hz1, hz2⟩ := hzz
  obtain ⟨v1, w1, hr, ho, hg, _, hat⟩ := run_append_own_at (P := P) (w := W) base t ty ti i0 (.int .i64 0) 1 8 ht hi hz0 hz1 hz2 rfl (by omega) u xs.length (encs (Value.int .i64) xs) (Kd.own_of_R h) a m c (ys.map (Value.int .i64)) (by simp [hm])
    (fun j v hv => by
      rw [List.getElem?_map] at hv
      obtain ⟨q, hq, rfl⟩ := Option.map_eq_some_iff.1 hv
      have hj := (List.getElem?_eq_some_iff.1 hq).1
      rw [hy j (by omega), List.getD_eq_getElem?_getD, hq]; rfl)
    (fun v hv => by obtain ⟨q, _, rfl⟩ := List.mem_map.1 hv; rfl) (by simp only [maxLen]; omega) hl hbase
  have hR : (Kd.int .i64).R ti w1 base okw v1 (xs ++ ys) := by
    refine Kd.R_of_own ?_ (fun k hk => ?_)
    · have e : encs (Value.int .i64) (xs ++ ys) = encs (Value.int .i64) xs ++ ys.map (Value.int .i64) := by simp [encs]
      rw [e, List.length_append, hm]
      exact ho
    · rcases hat with hat | hat
      · exact h.1 k (hat ▸ hk)
      · rw [hat] at hk; injection hk with hk
        exact hokf k (by omega)
  obtain ⟨A, c1, rfl⟩ := Kd.R_slice hR
  exact ⟨A, c1, w1, hr, hR, hg, hat⟩
theorem rows_push {P : Program} {ti ts t ty : Nat} (ht : P.underlying t = some (.slice ti)) (hinfo : (P.info? ti).map (fun i => (i.zero, i.size, i.bytes)) = some (some (.int .i64 0), 1, 8)) {base g n cap : Nat} {W : World} {ok : Nat → Prop} {xs : List (List Int)} (hok : ∀ k, W.heap.size ≤ k → ok k) (hbase : base ≤ W.heap.size)
    (h : Kd.S (Kd.slice ti (Kd.int .i64)) ts W base ok (.slice (some ⟨g, 0, none⟩) n cap) xs) (i : Nat) (hi : i < n) (ys : List Int) (hl : ((xs.getD i []).length + ys.length) * 8 ≤ 140737488355328) :
    ∃ A0 n0 c0, W.cell? ⟨g, i, none⟩ = some (.slice A0 n0 c0) ∧ W.frozen? ⟨g, i, none⟩ = false ∧ (∀ k, (Value.slice A0 n0 c0).ownBlock = some k → ok k ∧ k ≠ g ∧ base ≤ k) ∧
      ∀ (W2 : World) (a : Addr) (m c : Nat), Below W.heap.size W W2 → m = ys.length → (∀ j, j < ys.length → W2.cell? (a.add j) = some (.int .i64 (ys.getD j 0))) → ∃ A1 n1 c1 w1, (Builtin.append_ #[t, t] ty #[.slice A0 n0 c0, .slice (some a) m c]).run P W2 = .ok (.slice A1 n1 c1) w1 ∧
        w1.cell? ⟨g, i, none⟩ = some (.slice A0 n0 c0) ∧ w1.frozen? ⟨g, i, none⟩ = false ∧ W.grownBy w1 (Value.slice A0 n0 c0).ownBlock ∧ Kd.S (Kd.slice ti (Kd.int .i64)) ts (w1.setCell ⟨g, i, none⟩ (.slice A1 n1 c1)) base ok (.slice (some ⟨g, 0, none⟩) n cap) (xs.set i (xs.getD i [] ++ ys)) := by
  have hgl : g < W.heap.size := Kd.S_lt h g (by simp [Value.ownBlock])
  obtain ⟨okw, u, h1, h2, h3, h4, h5, h6⟩ := rows_lend hok h i hi
  obtain ⟨A0, c0, rfl⟩ := Kd.R_slice h5
  refine ⟨A0, _, c0, h1, h2, fun k hk => ⟨(h4 k (h5.1 k hk)).1, (h4 k (h5.1 k hk)).2, Kd.R_base h5 k hk⟩, ?_⟩
  intro W2 a m c hb hm hy
  subst hm
  obtain ⟨A1, c1, w1, hr, hR, hg, hat⟩ := app_run (ty := ty) ht hinfo (Kd.R_below h5 hb) (Nat.le_trans hbase hb.size) (fun k hk => h3 k (Nat.le_trans hb.size hk)) a ys.length c ys rfl hy hl
  have hg2 : W.grownBy w1 (Value.slice A0 (xs.getD i []).length c0).ownBlock := World.grownBy.trans (grown_of_below hb _) hg
  have hgb : w1.heap[g]? = W.heap[g]? := hg2.block g hgl (fun e => (h4 g (h5.1 g e.symm)).2 rfl)
  refine ⟨A1, _, c1, w1, hr, ?_, ?_, hg2, h6 w1 _ _ hg2 hR⟩
  · exact (World.cell?_of_block (w := W) hgb).trans h1
  · rw [← h2]; simp only [World.frozen?, hgb]
open Classical in
theorem rows_two {ti ts base : Nat} {W : World} {ok0 ok1 ok : Nat → Prop} {v0 v1 : Value} {xs0 xs1 : List Int} (h0 : (Kd.int .i64).R ti W base ok0 v0 xs0) (h1 : (Kd.int .i64).R ti W base ok1 v1 xs1) (hd : ∀ k, ok1 k → ¬ ok0 k) (hk0 : ∀ k, ok0 k → ok k ∧ k < W.heap.size) (hk1 : ∀ k, ok1 k → ok k ∧ k < W.heap.size) (hf : ok W.heap.size) (hb : base ≤ W.heap.size) :
    Kd.S (Kd.slice ti (Kd.int .i64)) ts (W.alloc (.cells #[v0, v1] ts)) base ok (.slice (some ⟨W.heap.size, 0, none⟩) 2 2) [xs0, xs1] := by
  have hown := World.ownsRow_lit (base := base) (e := ts) (size := 1) W #[v0, v1] 2 hb (by simp [maxLen]) (by simp)
  have hne : ∀ k, k < W.heap.size → some k ≠ (Value.slice (some ⟨W.heap.size, 0, none⟩) 2 2).ownBlock := fun k hk e => by
    simp [Value.ownBlock] at e; omega
  refine ⟨fun k => if ok0 k then 0 else 1, fun k hk => ?_, [v0, v1], hown, ?_⟩
  · have : k = W.heap.size := by simpa [Value.ownBlock] using hk.symm
    rw [this]; exact hf
  · refine Reps.one (p := (xs0, 0)) ?_ (Reps.one (p := (xs1, 1)) ?_ (Reps.none _ _))
    · exact ⟨v0, rfl, Kd.R_mono (Kd.R_alloc h0 _) (fun k hk => ⟨⟨(hk0 k hk).1, hne k (hk0 k hk).2⟩, if_pos hk⟩)⟩
    · exact ⟨v1, rfl, Kd.R_mono (Kd.R_alloc h1 _) (fun k hk => ⟨⟨(hk1 k hk).1, hne k (hk1 k hk).2⟩, if_neg (hd k hk)⟩)⟩
theorem step_app {P : Program} {ops : Array Oper} {o : Oper} {a : Act} {K : Act → World → Prop} {Q : Exit → Act → World → Prop} {E : Prop} (hgd : o.guard = none) (s x : Operand) (t : TypeId)
    (ho : o.op = .call { callee := .builtin .append, args := #[s, x], argTypes := #[t, t] }) (vs vx v1 : Value) (W w1 : World) (hs : a.eval s = vs) (hx : a.eval x = vx) (hr : (Builtin.append_ #[t, t] o.type #[vs, vx]).run P W = .ok v1 w1) (h : K (a.put o.dst v1) w1) :
    if Region.wanted o (yielded ops a.tmps) = true then Oper.wp P o a W K Q else E := by
  have hw : Region.wanted o (yielded ops a.tmps) = true := by simp [Region.wanted, hgd]
  rw [if_pos hw]
  unfold Oper.wp execOp
  simp only [ho, resolve, invoke, builtin, Sem.run_bind, Sem.run_pure, Result.andThen_ok, List.map_toArray, List.map_cons, List.map_nil, hs, hx, hr]
  exact h
theorem step_app_ex {P : Program} {ops : Array Oper} {o : Oper} {a : Act} {K : Act → World → Prop} {Q : Exit → Act → World → Prop} {E : Prop} {Φ : Value → World → Prop} (hgd : o.guard = none) (s x : Operand) (t : TypeId)
    (ho : o.op = .call { callee := .builtin .append, args := #[s, x], argTypes := #[t, t] }) (vs vx : Value) (W : World) (hs : a.eval s = vs) (hx : a.eval x = vx) (hr : ∃ v1 w1, (Builtin.append_ #[t, t] o.type #[vs, vx]).run P W = .ok v1 w1 ∧ Φ v1 w1) (h : ∀ v1 w1, Φ v1 w1 → K (a.put o.dst v1) w1) :
    if Region.wanted o (yielded ops a.tmps) = true then Oper.wp P o a W K Q else E := by
  obtain ⟨v1, w1, h1, h2⟩ := hr
  exact step_app hgd s x t ho vs vx v1 W w1 hs hx h1 (h v1 w1 h2)
end Go.Proofs.YtfoopehlmnejaaaGreatDoor.M
namespace Go.Proofs.YtfoopehlmnejaaaGreatDoor.M
open Go.RowKit Go.Proofs.YtfoopehlmnejaaaGreatDoorW.PrintWords Go.Proofs.YtfoopehlmnejaaaGreatDoorW.PrintLast
set_option linter.unusedVariables false
set_option linter.unusedSimpArgs false

def szC6 : Bool := allB 4 fun n => allB n fun i => (szLets n i).all (fun x => x != (szVar n i : Int)) && (szLets n i).all (fun x => x != ((szN n - 1 - szVar n i : Nat) : Int)) && szVar n i != szN n - 1 - szVar n i
theorem szC6_ok : szC6 = true := by decide +kernel
theorem szLets_new {n i : Nat} (hn : n ≤ 3) (hi : i < n) : (szVar n i : Int) ∉ szLets n i ∧ ((szN n - 1 - szVar n i : Nat) : Int) ∉ szLets n i ∧ szVar n i ≠ szN n - 1 - szVar n i := by
  have h := allB_of (allB4 szC6_ok hn) i hi
  simp only [Bool.and_eq_true, List.all_eq_true, bne_iff_ne] at h
  exact ⟨fun hm => h.1.1 _ hm rfl, fun hm => h.1.2 _ hm rfl, h.2⟩
theorem szLet_put {n i : Nat} (hn : n ≤ 3) (hi : i < n) {out : List Int} (h : SzI n 1 0 out (szLets n i)) (hu : szU n 0 out + 2 * i + 2 = szN n) (hd : ∀ j, j < i → szIs n 0 out (szVar n j) = false ∧ szIs n 0 out (szN n - 1 - szVar n j) = false) :
    SzI n 1 0 ((out.set (szVar n i) 1).set (szN n - 1 - szVar n i) 1) (szLets n (i + 1)) ∧ szU n 0 ((out.set (szVar n i) 1).set (szN n - 1 - szVar n i) 1) + 2 * (i + 1) + 2 = szN n ∧
      ∀ j, j < i + 1 → szIs n 0 ((out.set (szVar n i) 1).set (szN n - 1 - szVar n i) 1) (szVar n j) = false ∧ szIs n 0 ((out.set (szVar n i) 1).set (szN n - 1 - szVar n i) 1) (szN n - 1 - szVar n j) = false := by
  obtain ⟨v1, v2, v3, _⟩ := szVar_ok hn hi
  obtain ⟨m1, m2, m3⟩ := szLets_new hn hi
  have hp := szN_pos (n := n)
  have hv5 : szN n - 1 - szVar n i < szN n := by omega
  have key : ∀ x, x < szN n → szT n x = 1 → (x : Int) ∉ szLets n i → szIs n 0 out x = true := fun x hx hT hm => by
    rcases h.hig x hx (by omega) with h1 | ⟨_, _, h1⟩
    · rw [szIs, hT, h1]; rfl
    · exact absurd h1 hm
  have p1 := h.put (Int.le_refl 0) (Nat.le_refl 1) v1 (by omega) (key _ v1 v2 m1)
  have hl1 : szVar n i < out.length := by rw [h.len]; exact v1
  have k2 : szIs n 0 (out.set (szVar n i) ((1 : Nat) : Int)) (szN n - 1 - szVar n i) = true := by
    rw [szIs_set hl1 (by decide), if_neg (Ne.symm m3)]
    exact key _ hv5 v3 m2
  have p2 := p1.1.put (Int.le_refl 0) (Nat.le_refl 1) hv5 (by omega) k2
  have hl2 : szN n - 1 - szVar n i < (out.set (szVar n i) ((1 : Nat) : Int)).length := by rw [List.length_set, h.len]; exact hv5
  refine ⟨?_, ?_, ?_⟩
  · have h1 := p2.1
    rw [List.append_assoc] at h1
    exact h1
  · have h1 := p1.2.1
    have h2 := p2.2.1
    have e : (((1 : Nat) : Int)) = 1 := rfl
    rw [e] at h1 h2
    omega
  · intro j hj
    have fin : ∀ x, szIs n 0 out x = false ∨ x = szVar n i ∨ x = szN n - 1 - szVar n i → szIs n 0 ((out.set (szVar n i) ((1 : Nat) : Int)).set (szN n - 1 - szVar n i) ((1 : Nat) : Int)) x = false := by
      intro x hx
      rw [szIs_set hl2 (by decide), szIs_set hl1 (by decide)]
      rcases hx with hx | hx | hx
      · rw [hx]; simp
      · rw [if_pos hx]; simp
      · rw [if_pos hx]
    by_cases e : j = i
    · subst e; exact ⟨fin _ (.inr (.inl rfl)), fin _ (.inr (.inr rfl))⟩
    · exact ⟨fin _ (.inl (hd j (by omega)).1), fin _ (.inl (hd j (by omega)).2)⟩
theorem szZero_ok {n : Nat} (hn : n ≤ 3) : SzI n 1 0 (List.replicate (szN n) 0) (szLets n 0) ∧ szU n 0 (List.replicate (szN n) 0) + 2 * 0 + 2 = szN n := by
  have hr : ∀ x, x < szN n → rd (List.replicate (szN n) 0) (x : Int) = 0 := fun x hx => by simp [rd, List.getD_eq_getElem?_getD, hx]
  have hc : szU n 0 (List.replicate (szN n) 0) = cnt (fun w => decide (szT n w ≠ 0)) (szN n) := cnt_congr (fun i hi => by rw [szIs, hr i hi]; simp)
  have hk := cnt_const n hn
  refine ⟨⟨by simp, fun x hx _ => hr x hx, fun x hx h0 h1 => by omega, fun x hx h1 => .inl (hr x hx), fun x hx => (by cases hx), ?_⟩, by omega⟩
  show 0 + _ ≤ _
  omega
theorem szU_none {n s : Nat} {out fr : List Int} (hn : n ≤ 3) (h : SzI n s 0 out fr) (hs : 10 < s) : szU n 0 out = 0 := by
  have h1 := h.last hn hs (Int.le_refl 0)
  have : ∀ m, m ≤ szN n → cnt (szIs n 0 out) m = 0 := by
    intro m
    induction m with
    | zero => intro _; rfl
    | succ m ih => intro hm; rw [cnt, ih (by omega), h1 m (by omega)]; rfl
  exact this _ (Nat.le_refl _)
theorem szTake_left {n s : Nat} (hs : 1 ≤ s) {o : List Int × List Int} (h : SzI n s 0 o.1 o.2) {w : Nat} (hw : w < szN n) (hT : szT n w ≤ s) : szU n 0 (szTake n s 0 o w).1 = if szIs n 0 o.1 w = true then szU n 0 o.1 - 1 else szU n 0 o.1 := by
  unfold szTake
  by_cases e : szIs n 0 o.1 w = true
  · rw [if_pos e, if_pos e]
    have := (h.put (Int.le_refl 0) hs hw hT e).2.1
    show szU n 0 (o.1.set w (s : Int)) = _
    omega
  · rw [if_neg e, if_neg e]
theorem szLets_len (n : Nat) : ∀ i, (szLets n i).length = 2 * i
  | 0 => rfl
  | i + 1 => by rw [szLets, List.length_append, szLets_len n i]; simp; omega
end Go.Proofs.YtfoopehlmnejaaaGreatDoor.M
namespace Go.Proofs.YtfoopehlmnejaaaGreatDoor.M
open Go.RowKit Go.Proofs.YtfoopehlmnejaaaGreatDoorW.PrintWords Go.Proofs.YtfoopehlmnejaaaGreatDoorW.PrintLast
set_option linter.unusedVariables false
set_option linter.unusedSimpArgs false

end Go.Proofs.YtfoopehlmnejaaaGreatDoor.M
namespace Go.Proofs.YtfoopehlmnejaaaGreatDoor.M
open Go.RowKit Go.Proofs.YtfoopehlmnejaaaGreatDoorW.PrintWords Go.Proofs.YtfoopehlmnejaaaGreatDoorW.PrintLast
set_option linter.unusedVariables false
set_option linter.unusedSimpArgs false

theorem tb_cat {c y : Nat} (hc : c < 256) (j : Nat) : (c + 256 * y).testBit j = if j < 8 then c.testBit j else y.testBit (j - 8) := by
  rw [Nat.add_comm]; exact Nat.testBit_two_pow_mul_add (i := 8) y hc j
theorem and_cat {c d y z : Nat} (hc : c < 256) (hd : d < 256) : (c + 256 * y) &&& (d + 256 * z) = (c &&& d) + 256 * (y &&& z) := by
  have h : c &&& d < 256 := Nat.lt_of_le_of_lt Nat.and_le_left hc
  apply Nat.eq_of_testBit_eq; intro i
  rw [Nat.testBit_and, tb_cat hc, tb_cat hd, tb_cat h]
  split <;> rw [Nat.testBit_and]
def repB (d : Nat) : Nat → Nat
  | 0 => 0
  | k + 1 => d + 256 * repB d k
def sA (k x : Nat) : Nat := (x / 2 &&& repB 85 k) + (x &&& repB 85 k)
def sB (k x : Nat) : Nat := (x / 4 &&& repB 51 k) + (x &&& repB 51 k)
def sC (k x : Nat) : Nat := (x / 16 + x) &&& repB 15 k
def bA (c : Nat) : Nat := (c / 2 &&& 85) + (c &&& 85)
def bB (c : Nat) : Nat := (c / 4 &&& 51) + (c &&& 51)
def bP (c : Nat) : Nat := cnt c.testBit 8
theorem bA_lt : ∀ c, c < 256 → bA c < 256 := allB_dec (by decide +kernel)
theorem bB_lt : ∀ c, c < 256 → bB (bA c) ≤ 68 ∧ bB (bA c) % 16 ≤ 4 ∧ (bB (bA c) / 16 + bB (bA c)) % 16 = bP c ∧ bP c ≤ 8 := allB_dec (by decide +kernel)
theorem hA1 : ∀ c, c < 256 → ∀ t, t < 2 → (c / 2 + 128 * t) &&& 85 = c / 2 &&& 85 := allB_dec2 (by decide +kernel)
theorem hB1 : ∀ c, c < 256 → ∀ t, t < 4 → (c / 4 + 64 * t) &&& 51 = c / 4 &&& 51 := allB_dec2 (by decide +kernel)
theorem sA_step {c y : Nat} (hc : c < 256) (k : Nat) : sA (k + 1) (c + 256 * y) = bA c + 256 * sA k y := by
  have e : (c + 256 * y) / 2 = (c / 2 + 128 * (y % 2)) + 256 * (y / 2) := by omega
  simp only [sA, repB, bA]
  rw [e, and_cat (by omega) (by omega), and_cat hc (by omega), hA1 c hc _ (by omega)]
  omega
theorem sB_step {c y : Nat} (hc : c < 256) (k : Nat) : sB (k + 1) (c + 256 * y) = bB c + 256 * sB k y := by
  have e : (c + 256 * y) / 4 = (c / 4 + 64 * (y % 4)) + 256 * (y / 4) := by omega
  simp only [sB, repB, bB]
  rw [e, and_cat (by omega) (by omega), and_cat hc (by omega), hB1 c hc _ (by omega)]
  omega
theorem sC_step {c y : Nat} (hc : c ≤ 68) (hy : y % 16 ≤ 4) (k : Nat) : sC (k + 1) (c + 256 * y) = (c / 16 + c) % 16 + 256 * sC k y := by
  have e : (c + 256 * y) / 16 + (c + 256 * y) = (c / 16 + 16 * (y % 16) + c) + 256 * (y / 16 + y) := by omega
  simp only [sC, repB]
  rw [e, and_cat (by omega) (by omega)]
  have : (c / 16 + 16 * (y % 16) + c) &&& 15 = (c / 16 + c) % 16 := by
    rw [show 15 = 2 ^ 4 - 1 from rfl, Nat.and_two_pow_sub_one_eq_mod]; omega
  rw [this]
theorem s0 (k : Nat) : sA k 0 = 0 ∧ sB k 0 = 0 ∧ sC k 0 = 0 := by simp [sA, sB, sC]
theorem swar {c0 c1 c2 c3 : Nat} (h0 : c0 < 256) (h1 : c1 < 256) (h2 : c2 < 256) (h3 : c3 < 256) :
    sC 8 (sB 8 (sA 8 (c0 + 256 * (c1 + 256 * (c2 + 256 * (c3 + 256 * 0)))))) = bP c0 + 256 * (bP c1 + 256 * (bP c2 + 256 * (bP c3 + 256 * 0))) := by
  rw [sA_step h0, sA_step h1, sA_step h2, sA_step h3, (s0 4).1, sB_step (bA_lt _ h0), sB_step (bA_lt _ h1), sB_step (bA_lt _ h2), sB_step (bA_lt _ h3), (s0 4).2.1]
  obtain ⟨a0, b0, e0, _⟩ := bB_lt c0 h0
  obtain ⟨a1, b1, e1, _⟩ := bB_lt c1 h1
  obtain ⟨a2, b2, e2, _⟩ := bB_lt c2 h2
  obtain ⟨a3, b3, e3, _⟩ := bB_lt c3 h3
  rw [sC_step a0 (by omega), sC_step a1 (by omega), sC_step a2 (by omega), sC_step a3 (by omega), (s0 4).2.2, e0, e1, e2, e3]
theorem cnt_cat {c y : Nat} (hc : c < 256) : ∀ m, cnt (c + 256 * y).testBit (8 + m) = bP c + cnt y.testBit m
  | 0 => by rw [Nat.add_zero, cnt, Nat.add_zero]; exact cnt_congr (fun i hi => by rw [tb_cat hc, if_pos hi])
  | m + 1 => by
    rw [← Nat.add_assoc, cnt, cnt_cat hc m, cnt, tb_cat hc, if_neg (by omega), show 8 + m - 8 = m by omega]; omega
def pc (w : Nat) : Nat := cnt w.testBit 32
theorem pc_bytes {c0 c1 c2 c3 : Nat} (h0 : c0 < 256) (h1 : c1 < 256) (h2 : c2 < 256) (h3 : c3 < 256) :
    pc (c0 + 256 * (c1 + 256 * (c2 + 256 * (c3 + 256 * 0)))) = bP c0 + bP c1 + bP c2 + bP c3 := by
  unfold pc
  rw [show 32 = 8 + (8 + (8 + (8 + 0))) from rfl, cnt_cat h0, cnt_cat h1, cnt_cat h2, cnt_cat h3]; simp [cnt]; omega
theorem bytes_of {w : Nat} (h : w < 2 ^ 32) : ∃ c0 c1 c2 c3 : Nat, c0 < 256 ∧ c1 < 256 ∧ c2 < 256 ∧ c3 < 256 ∧ w = c0 + 256 * (c1 + 256 * (c2 + 256 * (c3 + 256 * 0))) :=
  ⟨w % 256, w / 256 % 256, w / 65536 % 256, w / 16777216, by omega, by omega, by omega, by omega, by omega⟩
theorem cnt_zero : ∀ m, cnt (0 : Nat).testBit m = 0
  | 0 => rfl
  | m + 1 => by rw [cnt, cnt_zero m, Nat.zero_testBit]; rfl
theorem cnt_head (g : Nat → Bool) : ∀ m, cnt g (m + 1) = (g 0).toNat + cnt (fun i => g (i + 1)) m
  | 0 => by simp [cnt]
  | m + 1 => by rw [cnt, cnt_head g m, cnt]; omega
theorem cnt_half (w m : Nat) : cnt w.testBit (m + 1) = w % 2 + cnt (w / 2).testBit m := by
  rw [cnt_head]
  have e : (w.testBit 0).toNat = w % 2 := by rw [Nat.toNat_testBit]; simp
  rw [e]
  congr 1
  exact cnt_congr (fun i _ => by rw [Nat.testBit_succ])
theorem u64n {n : Nat} (h : n < 2 ^ 64) : Go.IntKind.u64.wrap (n : Int) = (n : Int) := by rw [Go.IntKind.wrap_u64]; omega
theorem u64and {a b : Nat} (ha : a < 2 ^ 64) (hb : b < 2 ^ 64) : Go.bits .and .u64 (a : Int) (b : Int) = ((a &&& b : Nat) : Int) := Go.u64_and_nat a b ha hb
theorem sA_eq {x : Nat} (hx : x < 2 ^ 32) : Go.IntKind.u64.wrap (Go.bits .and .u64 ((x : Int) / 2) 6148914691236517205 + Go.bits .and .u64 (x : Int) 6148914691236517205) = ((sA 8 x : Nat) : Int) := by
  have e : ((x : Int) / 2) = ((x / 2 : Nat) : Int) := by omega
  have e2 : (6148914691236517205 : Int) = ((repB 85 8 : Nat) : Int) := by decide
  have l1 : x / 2 &&& repB 85 8 ≤ x / 2 := Nat.and_le_left
  have l2 : x &&& repB 85 8 ≤ x := Nat.and_le_left
  rw [e, e2, u64and (by omega) (by decide), u64and (by omega) (by decide), ← Int.natCast_add, u64n (by omega)]; rfl
theorem sB_eq {x : Nat} (hx : x < 2 ^ 33) : Go.IntKind.u64.wrap (Go.bits .and .u64 ((x : Int) / 4) 3689348814741910323 + Go.bits .and .u64 (x : Int) 3689348814741910323) = ((sB 8 x : Nat) : Int) := by
  have e : ((x : Int) / 4) = ((x / 4 : Nat) : Int) := by omega
  have e2 : (3689348814741910323 : Int) = ((repB 51 8 : Nat) : Int) := by decide
  have l1 : x / 4 &&& repB 51 8 ≤ x / 4 := Nat.and_le_left
  have l2 : x &&& repB 51 8 ≤ x := Nat.and_le_left
  rw [e, e2, u64and (by omega) (by decide), u64and (by omega) (by decide), ← Int.natCast_add, u64n (by omega)]; rfl
theorem sC_eq {x : Nat} (hx : x < 2 ^ 34) : Go.bits .and .u64 (Go.IntKind.u64.wrap ((x : Int) / 16 + (x : Int))) 1085102592571150095 = ((sC 8 x : Nat) : Int) := by
  have e : ((x : Int) / 16) = ((x / 16 : Nat) : Int) := by omega
  have e2 : (1085102592571150095 : Int) = ((repB 15 8 : Nat) : Int) := by decide
  rw [e, e2, ← Int.natCast_add, u64n (by omega), u64and (by omega) (by decide)]; rfl
theorem sA_lt {x : Nat} (hx : x < 2 ^ 32) : sA 8 x < 2 ^ 33 := by
  have l1 : x / 2 &&& repB 85 8 ≤ x / 2 := Nat.and_le_left
  have l2 : x &&& repB 85 8 ≤ x := Nat.and_le_left
  unfold sA; omega
theorem sB_lt {x : Nat} (hx : x < 2 ^ 33) : sB 8 x < 2 ^ 34 := by
  have l1 : x / 4 &&& repB 51 8 ≤ x / 4 := Nat.and_le_left
  have l2 : x &&& repB 51 8 ≤ x := Nat.and_le_left
  unfold sB; omega
theorem last_sums {p0 p1 p2 p3 : Nat} (h0 : p0 ≤ 8) (h1 : p1 ≤ 8) (h2 : p2 ≤ 8) (h3 : p3 ≤ 8) (T U V : Nat) (hT : T = p0 + 256 * (p1 + 256 * (p2 + 256 * (p3 + 256 * 0)))) (hU : U = T + T / 256) (hV : V = U + U / 65536) :
    T < 2 ^ 32 ∧ U < 2 ^ 33 ∧ V < 2 ^ 34 ∧ (V + V / 4294967296) % 128 = p0 + p1 + p2 + p3 := by
  have bT : T < 2 ^ 32 := by omega
  have a1 : T / 256 = p1 + 256 * p2 + 65536 * p3 := by omega
  have a2 : U = (p0 + p1) + 256 * (p1 + p2) + 65536 * (p2 + p3) + 16777216 * p3 := by omega
  have bU : U < 2 ^ 33 := by omega
  clear hU a1 hT
  have a3 : U / 65536 = (p2 + p3) + 256 * p3 := by omega
  have a4 : V = (p0 + p1 + p2 + p3) + 256 * (p1 + p2 + p3) + 65536 * (p2 + p3) + 16777216 * p3 := by omega
  clear a3 hV
  have a5 : V / 4294967296 = 0 := by omega
  exact ⟨bT, bU, by omega, by omega⟩
theorem uw1 {T U : Nat} (hU : U = T + T / 256) (h : T < 2 ^ 32) : Go.IntKind.u64.wrap ((T : Int) + (T : Int) / 256) = (U : Int) := by rw [Go.IntKind.wrap_u64]; omega
theorem uw2 {T U : Nat} (hU : U = T + T / 65536) (h : T < 2 ^ 33) : Go.IntKind.u64.wrap ((T : Int) + (T : Int) / 65536) = (U : Int) := by rw [Go.IntKind.wrap_u64]; omega
theorem uw3 {V : Nat} (h : V < 2 ^ 34) : Go.IntKind.u64.wrap ((V : Int) + (V : Int) / 4294967296) = ((V + V / 4294967296 : Nat) : Int) := by rw [Go.IntKind.wrap_u64]; omega
theorem uw4 {X : Nat} (h : X < 2 ^ 36) : Go.bits .and .i64 (wrap64 (X : Int)) 127 = ((X % 128 : Nat) : Int) := by
  have e127 : (127 : Int) = ((127 : Nat) : Int) := rfl
  rw [w64 (by omega) (by omega), e127, and_nat (by omega) (by decide)]
  congr 1
  exact Nat.and_two_pow_sub_one_eq_mod X 7
theorem swar_end {w T : Nat} (h : w < 2 ^ 32) (hT : T = sC 8 (sB 8 (sA 8 w))) (r : Int)
    (hr : r = Go.bits .and .i64 (wrap64 (Go.IntKind.u64.wrap (Go.IntKind.u64.wrap (Go.IntKind.u64.wrap ((T : Int) + (T : Int) / 256) + Go.IntKind.u64.wrap ((T : Int) + (T : Int) / 256) / 65536) + Go.IntKind.u64.wrap (Go.IntKind.u64.wrap ((T : Int) + (T : Int) / 256) + Go.IntKind.u64.wrap ((T : Int) + (T : Int) / 256) / 65536) / 4294967296))) 127) : r = ((pc w : Nat) : Int) := by
  obtain ⟨c0, c1, c2, c3, h0, h1, h2, h3, rfl⟩ := bytes_of h
  rw [swar h0 h1 h2 h3] at hT
  rw [pc_bytes h0 h1 h2 h3]
  obtain ⟨_, _, _, p0⟩ := bB_lt c0 h0
  obtain ⟨_, _, _, p1⟩ := bB_lt c1 h1
  obtain ⟨_, _, _, p2⟩ := bB_lt c2 h2
  obtain ⟨_, _, _, p3⟩ := bB_lt c3 h3
  obtain ⟨U, hU⟩ : ∃ U, U = T + T / 256 := ⟨_, rfl⟩
  obtain ⟨V, hV⟩ : ∃ V, V = U + U / 65536 := ⟨_, rfl⟩
  obtain ⟨b1, b2, b3, b4⟩ := last_sums p0 p1 p2 p3 T U V hT hU hV
  rw [uw1 hU b1, uw2 hV b2, uw3 b3] at hr
  have b5 : V + V / 4294967296 < 2 ^ 36 := by clear hr; omega
  rw [uw4 b5, b4] at hr
  exact hr

end Go.Proofs.YtfoopehlmnejaaaGreatDoor.M
namespace Go.Proofs.YtfoopehlmnejaaaGreatDoor.M
open Go.RowKit Go.Proofs.YtfoopehlmnejaaaGreatDoorW.PrintWords Go.Proofs.YtfoopehlmnejaaaGreatDoorW.PrintLast
set_option linter.unusedVariables false
set_option linter.unusedSimpArgs false

def sumN (g : Nat → Nat) : Nat → Nat
  | 0 => 0
  | m + 1 => sumN g m + g m
theorem sumN_le {g : Nat → Nat} {B : Nat} (h : ∀ i, g i ≤ B) : ∀ m, sumN g m ≤ m * B
  | 0 => by simp [sumN]
  | m + 1 => by have := sumN_le h m; have := h m; rw [sumN, Nat.succ_mul]; omega
theorem sumN_congr {g g' : Nat → Nat} : ∀ {m : Nat}, (∀ i, i < m → g i = g' i) → sumN g m = sumN g' m
  | 0, _ => rfl
  | m + 1, h => by rw [sumN, sumN, sumN_congr (fun i hi => h i (by omega)), h m (by omega)]
def edgeB (a b x i : Nat) : Nat := (a.testBit x && b.testBit (x ^^^ 2 ^ i)).toNat
def edgesAt (n a b x : Nat) : Nat := sumN (edgeB a b x) n
def edgesN (n a b : Nat) : Nat := sumN (edgesAt n a b) (2 ^ n)
theorem edgeB_le (a b x i : Nat) : edgeB a b x i ≤ 1 := toNat_le _
theorem edgesAt_le (n a b x : Nat) : edgesAt n a b x ≤ n := by have := sumN_le (edgeB_le a b x) n; unfold edgesAt; omega
theorem edgesUp_le (n a b m : Nat) : sumN (edgesAt n a b) m ≤ m * n := sumN_le (edgesAt_le n a b) m
theorem flip_lt {x i m : Nat} (hx : x < 2 ^ m) (hi : i < m) : x ^^^ 2 ^ i < 2 ^ m := Nat.xor_lt_two_pow hx (Nat.pow_lt_pow_right (by decide) hi)
theorem flip_int {x i : Nat} (hx : x < 2 ^ 5) (hi : i < 5) : Go.bits .xor .i64 (x : Int) (shl .i64 1 (i : Int)) = ((x ^^^ 2 ^ i : Nat) : Int) := by
  rw [shl_one (by omega), xor_nat (by omega) (Nat.lt_trans (Nat.pow_lt_pow_right (show 1 < 2 by decide) hi) (by decide))]
theorem lt_pow5 {x n : Nat} (hx : x < 2 ^ n) (hn : n ≤ 5) : x < 2 ^ 5 := Nat.lt_of_lt_of_le hx (Nat.pow_le_pow_right (by decide) hn)
theorem up1 {x : Nat} (h : x ≤ 1000000000000) : wrap64 ((x : Int) + 1) = ((x + 1 : Nat) : Int) := by rw [w64 (by omega) (by omega)]; omega

end Go.Proofs.YtfoopehlmnejaaaGreatDoor.M
namespace Go.Proofs.YtfoopehlmnejaaaGreatDoor.M
open Go.RowKit Go.Proofs.YtfoopehlmnejaaaGreatDoorW.PrintWords Go.Proofs.YtfoopehlmnejaaaGreatDoorW.PrintLast
set_option linter.unusedVariables false
set_option linter.unusedSimpArgs false

def img (g : Nat → Nat) (x : Nat) : Nat → Nat
  | 0 => 0
  | i + 1 => if x.testBit i = true then img g x i ^^^ g i else img g x i
theorem img_congr_x {g : Nat → Nat} {x y : Nat} : ∀ {i : Nat}, (∀ j, j < i → x.testBit j = y.testBit j) → img g x i = img g y i
  | 0, _ => rfl
  | i + 1, h => by rw [img, img, img_congr_x (fun j hj => h j (by omega)), h i (by omega)]
theorem img_xor (g : Nat → Nat) (x y : Nat) : ∀ i, img g (x ^^^ y) i = img g x i ^^^ img g y i
  | 0 => by simp [img]
  | i + 1 => by
    have ih := img_xor g x y i
    simp only [img, Nat.testBit_xor, ih]
    cases x.testBit i <;> cases y.testBit i <;> simp
    · rw [Nat.xor_assoc]
    · rw [Nat.xor_assoc, Nat.xor_comm (img g y i) (g i), ← Nat.xor_assoc]
    · rw [Nat.xor_assoc, Nat.xor_comm (g i), Nat.xor_assoc, Nat.xor_self, Nat.xor_zero]
theorem img_zero (g : Nat → Nat) : ∀ i, img g 0 i = 0
  | 0 => rfl
  | i + 1 => by rw [img, img_zero g i]; simp
theorem img_low {g : Nat → Nat} {x i : Nat} (h : x < 2 ^ i) : ∀ d, img g x (i + d) = img g x i
  | 0 => rfl
  | d + 1 => by rw [← Nat.add_assoc, img, testBit_of_ge h (by omega), img_low h d]; simp
theorem img_top {g : Nat → Nat} {x i : Nat} (h : x < 2 ^ i) : img g (2 ^ i + x) (i + 1) = img g x i ^^^ g i := by
  have e : (2 ^ i + x).testBit i = true := by rw [Nat.testBit_two_pow_add_eq, testBit_of_ge h (Nat.le_refl _)]; rfl
  rw [img, e, if_pos rfl]
  congr 1
  exact img_congr_x (fun j hj => by rw [Nat.testBit_two_pow_add_gt hj])
def red : List Nat → Nat → Nat
  | [], x => x
  | b :: t, x => red t (min x (x ^^^ b))
def Clear (b c : Nat) : Prop := min c (c ^^^ b) = c
theorem min_lt {x b : Nat} (hx : x < 32) (hb : b < 32) : min x (x ^^^ b) < 32 := Nat.lt_of_le_of_lt (Nat.min_le_left _ _) hx
theorem clear_xor : ∀ b, b < 32 → ∀ x, x < 32 → ∀ c, c < 32 → (min c (c ^^^ b) = c → min (x ^^^ c) ((x ^^^ c) ^^^ b) = min x (x ^^^ b) ^^^ c) :=
  allB_dec3 (P := fun b x c => min c (c ^^^ b) = c → min (x ^^^ c) ((x ^^^ c) ^^^ b) = min x (x ^^^ b) ^^^ c) (by decide +kernel)
theorem clear_self : ∀ b, b < 32 → ∀ x, x < 32 → (min (min x (x ^^^ b)) (min x (x ^^^ b) ^^^ b) = min x (x ^^^ b) ∧ min (x ^^^ b) ((x ^^^ b) ^^^ b) = min x (x ^^^ b)) :=
  allB_dec2 (P := fun b x => min (min x (x ^^^ b)) (min x (x ^^^ b) ^^^ b) = min x (x ^^^ b) ∧ min (x ^^^ b) ((x ^^^ b) ^^^ b) = min x (x ^^^ b)) (by decide +kernel)
theorem x32 {a b : Nat} (ha : a < 32) (hb : b < 32) : a ^^^ b < 32 := Nat.xor_lt_two_pow (n := 5) ha hb
theorem red_lt : ∀ {l : List Nat} {x : Nat}, (∀ b ∈ l, b < 32) → x < 32 → red l x < 32
  | [], _, _, hx => hx
  | b :: t, x, h, hx => red_lt (l := t) (fun c hc => h c (List.mem_cons_of_mem _ hc)) (min_lt hx (h b List.mem_cons_self))
theorem red_append : ∀ (l : List Nat) (r x : Nat), red (l ++ [r]) x = min (red l x) (red l x ^^^ r)
  | [], _, _ => rfl
  | b :: t, r, x => by rw [List.cons_append, red, red_append t r]; rfl
theorem red_diff {P : Nat → Prop} (hz : P 0) (hx : ∀ a b, P a → P b → P (a ^^^ b)) : ∀ {l : List Nat} {x : Nat}, (∀ b ∈ l, P b) → P (red l x ^^^ x)
  | [], x, _ => by rw [red, Nat.xor_self]; exact hz
  | b :: t, x, h => by
    have ih := red_diff hz hx (l := t) (x := min x (x ^^^ b)) (fun c hc => h c (List.mem_cons_of_mem _ hc))
    rw [red]
    by_cases e : x ≤ x ^^^ b
    · rw [Nat.min_eq_left e] at ih ⊢; exact ih
    · rw [Nat.min_eq_right (by omega)] at ih ⊢
      have := hx _ _ ih (h b List.mem_cons_self)
      rw [Nat.xor_assoc, Nat.xor_assoc, Nat.xor_self, Nat.xor_zero] at this
      exact this
theorem red_inv : ∀ {l : List Nat} {c y : Nat}, (∀ b ∈ l, b < 32) → l.Pairwise Clear → c ∈ l → y < 32 → red l (y ^^^ c) = red l y
  | b :: t, c, y, hl, hp, hc, hy => by
    have hb := hl b List.mem_cons_self
    have ht : ∀ c ∈ t, c < 32 := fun c hc => hl c (List.mem_cons_of_mem _ hc)
    obtain ⟨hp1, hp2⟩ := List.pairwise_cons.mp hp
    rw [red, red]
    rcases List.mem_cons.mp hc with rfl | hc'
    · rw [(clear_self _ hb _ hy).2]
    · rw [clear_xor _ hb _ hy _ (ht _ hc') (hp1 _ hc')]
      exact red_inv ht hp2 hc' (min_lt hy hb)
theorem red_keeps : ∀ {l : List Nat} {b y : Nat}, b < 32 → y < 32 → (∀ c ∈ l, c < 32) → (∀ c ∈ l, Clear b c) → Clear b y → Clear b (red l y)
  | [], _, _, _, _, _, _, h => h
  | c :: t, b, y, hb, hy, hl, hc, h => by
    have hc32 := hl c List.mem_cons_self
    rw [red]
    refine red_keeps hb (min_lt hy hc32) (fun d hd => hl d (List.mem_cons_of_mem _ hd)) (fun d hd => hc d (List.mem_cons_of_mem _ hd)) ?_
    by_cases e : y ≤ y ^^^ c
    · rw [Nat.min_eq_left e]; exact h
    · rw [Nat.min_eq_right (by omega)]
      unfold Clear
      rw [clear_xor _ hb _ hy _ hc32 (hc c List.mem_cons_self), h]
theorem red_clear : ∀ {l : List Nat} {y : Nat}, (∀ b ∈ l, b < 32) → l.Pairwise Clear → y < 32 → ∀ b ∈ l, Clear b (red l y)
  | b :: t, y, hl, hp, hy, c, hc => by
    have hb := hl b List.mem_cons_self
    have ht : ∀ c ∈ t, c < 32 := fun c hc => hl c (List.mem_cons_of_mem _ hc)
    obtain ⟨hp1, hp2⟩ := List.pairwise_cons.mp hp
    rw [red]
    rcases List.mem_cons.mp hc with rfl | hc'
    · exact red_keeps hb (min_lt hy hb) ht hp1 (clear_self _ hb _ hy).1
    · exact red_clear ht hp2 (min_lt hy hb) c hc'

def basis (g : Nat → Nat) : Nat → List Nat
  | 0 => []
  | i + 1 => if red (basis g i) (g i) > 0 then basis g i ++ [red (basis g i) (g i)] else basis g i
theorem basis_le (g : Nat → Nat) : ∀ i, (basis g i).length ≤ i
  | 0 => Nat.le_refl _
  | i + 1 => by have := basis_le g i; rw [basis]; split <;> simp <;> omega
theorem basis_step {g : Nat → Nat} {i : Nat} (h : (basis g (i + 1)).length = i + 1) : (basis g i).length = i ∧ red (basis g i) (g i) > 0 := by
  have h1 := basis_le g i
  rw [basis] at h
  by_cases hr : red (basis g i) (g i) > 0
  · rw [if_pos hr] at h; simp at h; exact ⟨h, hr⟩
  · rw [if_neg hr] at h; omega
structure Tri (g : Nat → Nat) (i : Nat) : Prop where
  lt : ∀ b ∈ basis g i, b < 32
  pw : (basis g i).Pairwise Clear
  inn : ∀ b ∈ basis g i, ∃ x, x < 2 ^ i ∧ b = img g x i
  same : ∀ j, j < i → ∀ y, y < 32 → red (basis g i) (y ^^^ g j) = red (basis g i) y
theorem xor_mid (a b c : Nat) : a ^^^ (b ^^^ c) = a ^^^ b ^^^ c := (Nat.xor_assoc a b c).symm
theorem xor_back (a b : Nat) : a ^^^ (a ^^^ b) = b := by rw [← Nat.xor_assoc, Nat.xor_self, Nat.zero_xor]
theorem Tri.step {g : Nat → Nat} {i : Nat} (hg : ∀ j, j ≤ i → g j < 32) (T : Tri g i) (hr : red (basis g i) (g i) > 0) : Tri g (i + 1) := by
  have hgi := hg i (Nat.le_refl _)
  have hrl := red_lt T.lt hgi
  have hb : basis g (i + 1) = basis g i ++ [red (basis g i) (g i)] := by rw [basis, if_pos hr]
  have hcl := red_clear T.lt T.pw hgi
  have hd := red_diff (P := fun v => ∃ x, x < 2 ^ i ∧ v = img g x i) ⟨0, Nat.two_pow_pos _, (img_zero g i).symm⟩ (fun a b ⟨x, hx, ea⟩ ⟨y, hy, eb⟩ => ⟨x ^^^ y, Nat.xor_lt_two_pow hx hy, by rw [img_xor, ← ea, ← eb]⟩) (l := basis g i) (x := g i) T.inn
  have hlt : ∀ b ∈ basis g (i + 1), b < 32 := fun b hb' => by
    rw [hb] at hb'
    rcases List.mem_append.mp hb' with h | h
    · exact T.lt b h
    · rw [List.mem_singleton.mp h]; exact hrl
  have hpw : (basis g (i + 1)).Pairwise Clear := by
    rw [hb, List.pairwise_append]
    exact ⟨T.pw, List.pairwise_singleton _ _, fun b hb' c hc => by rw [List.mem_singleton.mp hc]; exact hcl b hb'⟩
  refine ⟨hlt, hpw, ?_, ?_⟩
  · intro b hb'
    rw [hb] at hb'
    rcases List.mem_append.mp hb' with h | h
    · obtain ⟨x, hx, e⟩ := T.inn b h
      exact ⟨x, Nat.lt_of_lt_of_le hx (Nat.pow_le_pow_right (by decide) (by omega)), by rw [e, img_low hx 1]⟩
    · rw [List.mem_singleton.mp h]
      obtain ⟨x, hx, e⟩ := hd
      refine ⟨2 ^ i + x, by rw [Nat.pow_succ]; omega, ?_⟩
      rw [img_top hx, ← e, Nat.xor_assoc, Nat.xor_self, Nat.xor_zero]
  · intro j hj y hy
    by_cases e : j = i
    · subst e
      have hq := red_diff (P := fun v => v < 32 ∧ ∀ y, y < 32 → red (basis g (j + 1)) (y ^^^ v) = red (basis g (j + 1)) y) ⟨by decide, fun y _ => by rw [Nat.xor_zero]⟩
        (fun a b ⟨ha, h1⟩ ⟨hb, h2⟩ => ⟨x32 ha hb, fun y hy => by rw [xor_mid, h2 _ (x32 hy ha), h1 _ hy]⟩) (l := basis g j) (x := g j)
        (fun b hb' => ⟨T.lt b hb', fun y hy => red_inv hlt hpw (by rw [hb]; exact List.mem_append_left _ hb') hy⟩)
      obtain ⟨q1, q2⟩ := hq
      have hrr : red (basis g (j + 1)) (y ^^^ red (basis g j) (g j)) = red (basis g (j + 1)) y := red_inv hlt hpw (by rw [hb]; exact List.mem_append_right _ List.mem_cons_self) hy
      rw [← hrr, ← q2 _ (x32 hy hrl)]
      congr 1
      rw [Nat.xor_assoc, xor_back]
    · rw [hb, red_append, red_append, T.same j (by omega) y hy]
theorem Tri.of {g : Nat → Nat} : ∀ {i : Nat}, (∀ j, j < i → g j < 32) → (basis g i).length = i → Tri g i
  | 0, _, _ => ⟨by simp [basis], by simp [basis], by simp [basis], fun j hj => by omega⟩
  | i + 1, hg, h => by
    obtain ⟨h1, h2⟩ := basis_step h
    exact (Tri.of (fun j hj => hg j (by omega)) h1).step (fun j hj => hg j (by omega)) h2
def Indep (g : Nat → Nat) (n : Nat) : Prop := ∀ x, 1 ≤ x → x < 2 ^ n → img g x n ≠ 0
theorem Indep.inj {g : Nat → Nat} {n x y : Nat} (h : Indep g n) (hx : x < 2 ^ n) (hy : y < 2 ^ n) (e : img g x n = img g y n) : x = y := by
  have h1 : img g (x ^^^ y) n = 0 := by rw [img_xor, e, Nat.xor_self]
  by_cases hz : x ^^^ y = 0
  · have := congrArg (fun v => x ^^^ v) hz
    simp only [xor_back, Nat.xor_zero] at this
    exact this.symm
  · exact absurd h1 (h _ (by omega) (Nat.xor_lt_two_pow hx hy))

end Go.Proofs.YtfoopehlmnejaaaGreatDoor.M
namespace Go.Proofs.YtfoopehlmnejaaaGreatDoor.M
open Go.RowKit Go.Proofs.YtfoopehlmnejaaaGreatDoorW.PrintWords Go.Proofs.YtfoopehlmnejaaaGreatDoorW.PrintLast Go.Proofs.YtfoopehlmnejaaaGreatDoorW.PrintMore
set_option linter.unusedVariables false
set_option linter.unusedSimpArgs false

theorem Ev.since {α : Type} {g : Nat → Option α} {r : α} (K : Nat) (h : ∀ k, K ≤ k → g k = some r) : Ev g r := ⟨K, h⟩
theorem rd_nat (l : List Int) (i : Nat) : rd l (i : Int) = l.getD i 0 := by simp [rd]
def ints (l : List Nat) : List Int := l.map (fun x : Nat => (x : Int))
theorem ints_length (l : List Nat) : (ints l).length = l.length := by simp [ints]
theorem ints_append (l : List Nat) (x : Nat) : ints (l ++ [x]) = ints l ++ [(x : Int)] := by simp [ints]
end Go.Proofs.YtfoopehlmnejaaaGreatDoor.M
namespace Go.Proofs.YtfoopehlmnejaaaGreatDoor.M
open Go.RowKit Go.Proofs.YtfoopehlmnejaaaGreatDoorW.PrintWords Go.Proofs.YtfoopehlmnejaaaGreatDoorW.PrintLast Go.Proofs.YtfoopehlmnejaaaGreatDoorW.PrintMore
set_option linter.unusedVariables false
set_option linter.unusedSimpArgs false

inductive Sh where
  | nil
  | node (c : Int) (l r : Sh)
def Sh.nodes : Sh → Nat
  | .nil => 0
  | .node _ l r => l.nodes + r.nodes + 1
def isLet (c : Int) : Prop := (97 ≤ c ∧ c < 102) ∨ c = 48 ∨ c = 49
instance (c : Int) : Decidable (isLet c) := by unfold isLet; infer_instance
def rp (S : ByteArray) : Nat → Nat → Option (Sh × Nat)
  | 0, _ => none
  | k + 1, i => if S.size ≤ i then none else
    if isLet (bt S i) then some (.node (bt S i) .nil .nil, i + 1)
    else if bt S i = 33 then (rp S k (i + 1)).bind fun p => some (.node (bt S i) p.1 .nil, p.2)
    else if bt S i = 38 ∨ bt S i = 124 ∨ bt S i = 94 then (rp S k (i + 1)).bind fun p => (rp S k p.2).bind fun q => some (.node (bt S i) p.1 q.1, q.2)
    else none
inductive Fine : Sh → Prop
  | leaf (c : Int) : Fine (.node c .nil .nil)
  | one (c : Int) (l : Sh) : Fine l → Fine (.node c l .nil)
  | two (c : Int) (l r : Sh) : Fine l → Fine r → Fine (.node c l r)
theorem rp_some {S : ByteArray} : ∀ {k i : Nat} {T : Sh} {j : Nat}, rp S k i = some (T, j) → Fine T ∧ i < j ∧ j ≤ S.size ∧ T.nodes + i ≤ j
  | 0, i, T, j, h => by simp [rp] at h
  | k + 1, i, T, j, h => by
    rw [rp] at h
    by_cases h0 : S.size ≤ i
    · rw [if_pos h0] at h; cases h
    · rw [if_neg h0] at h
      by_cases h1 : isLet (bt S i)
      · rw [if_pos h1] at h
        simp only [Option.some.injEq, Prod.mk.injEq] at h
        obtain ⟨rfl, rfl⟩ := h
        exact ⟨.leaf _, by omega, by omega, by simp [Sh.nodes]; omega⟩
      · rw [if_neg h1] at h
        by_cases h2 : bt S i = 33
        · rw [if_pos h2] at h
          obtain ⟨⟨p1, p2⟩, hp, h⟩ := Option.bind_eq_some_iff.mp h
          simp only [Option.some.injEq, Prod.mk.injEq] at h
          obtain ⟨rfl, rfl⟩ := h
          obtain ⟨a1, a2, a3, a4⟩ := rp_some hp
          exact ⟨.one _ _ a1, by omega, a3, by simp [Sh.nodes]; omega⟩
        · rw [if_neg h2] at h
          by_cases h3 : bt S i = 38 ∨ bt S i = 124 ∨ bt S i = 94
          · rw [if_pos h3] at h
            obtain ⟨⟨p1, p2⟩, hp, h⟩ := Option.bind_eq_some_iff.mp h
            obtain ⟨⟨q1, q2⟩, hq, h⟩ := Option.bind_eq_some_iff.mp h
            simp only [Option.some.injEq, Prod.mk.injEq] at h
            obtain ⟨rfl, rfl⟩ := h
            obtain ⟨a1, a2, a3, a4⟩ := rp_some hp
            obtain ⟨b1, b2, b3, b4⟩ := rp_some hq
            exact ⟨.two _ _ _ a1 b1, by omega, b3, by simp [Sh.nodes]; omega⟩
          · rw [if_neg h3] at h; cases h
def Sh.leaves : Sh → Nat
  | .nil => 0
  | .node _ .nil _ => 1
  | .node _ l .nil => l.leaves
  | .node _ l r => l.leaves + r.leaves
theorem leaves_one (c : Int) {l : Sh} (h : Fine l) : (Sh.node c l .nil).leaves = l.leaves := by cases h <;> rfl
theorem leaves_two (c : Int) {l r : Sh} (h : Fine l) (h2 : Fine r) : (Sh.node c l r).leaves = l.leaves + r.leaves := by cases h <;> cases h2 <;> rfl
theorem leaves_le {T : Sh} (h : Fine T) : T.leaves ≤ T.nodes := by
  induction h with
  | leaf c => simp [Sh.leaves, Sh.nodes]
  | one c l h ih => rw [leaves_one c h, Sh.nodes]; omega
  | two c l r h h2 ih ih2 => rw [leaves_two c h h2, Sh.nodes]; omega
def formOf (S : ByteArray) : Option Sh := if S.size ≤ 60 then (rp S S.size 0).bind fun p => if p.2 = S.size then some p.1 else none else none
theorem toList_len (s : ByteArray) : s.toList.length = s.size := by rw [ByteArray.toList_eq]; simp
theorem bt_extract {S : ByteArray} {i : Nat} (h : i < S.size) : bt (S.extract i S.size) 0 = bt S i := by
  have h1 : (0 : Int).toNat < (S.extract i S.size).size := by simp [ByteArray.size_extract]; omega
  unfold bt
  rw [dif_pos h1, dif_pos (show ((i : Nat) : Int).toNat < S.size by simpa using h)]
  simp [ByteArray.getElem_extract]
theorem extract_extract {S : ByteArray} {i : Nat} (d : Nat) (h : i + d ≤ S.size) : (S.extract i S.size).extract d (S.size - i) = S.extract (i + d) S.size := by
  rw [ByteArray.extract_extract]; congr 1; omega

theorem formOf_some {S : ByteArray} {T : Sh} (h : formOf S = some T) : S.size ≤ 60 ∧ 0 < S.size ∧ rp S S.size 0 = some (T, S.size) := by
  unfold formOf at h
  by_cases h60 : S.size ≤ 60
  · rw [if_pos h60] at h
    obtain ⟨⟨p1, p2⟩, hp, h⟩ := Option.bind_eq_some_iff.mp h
    simp only [] at h
    split at h
    · rename_i h2
      injection h with h; subst h
      obtain ⟨a1, a2, a3, a4⟩ := rp_some hp
      exact ⟨h60, by omega, by rw [hp, h2]⟩
    · cases h
  · rw [if_neg h60] at h; cases h

end Go.Proofs.YtfoopehlmnejaaaGreatDoor.M
namespace Go.Proofs.YtfoopehlmnejaaaGreatDoor.M
open Go.RowKit Go.Proofs.YtfoopehlmnejaaaGreatDoorW.PrintWords Go.Proofs.YtfoopehlmnejaaaGreatDoorW.PrintLast
set_option linter.unusedVariables false
set_option linter.unusedSimpArgs false

def scan {α : Type} (f : Nat → Option α) : Nat → Nat → Option α
  | _, 0 => none
  | i, d + 1 => (f i).or (scan f (i + 1) d)
theorem or_none_r {α : Type} (x : Option α) : x.or none = x := by cases x <;> rfl
theorem or_assoc' {α : Type} (x y z : Option α) : (x.or y).or z = x.or (y.or z) := by cases x <;> rfl
theorem scan_snoc {α : Type} (f : Nat → Option α) : ∀ d i, scan f i (d + 1) = (scan f i d).or (f (i + d))
  | 0, i => by show (f i).or none = (none : Option α).or (f (i + 0)); rw [or_none_r]; rfl
  | d + 1, i => by
    have h := scan_snoc f d (i + 1)
    rw [show i + 1 + d = i + (d + 1) by omega] at h
    show (f i).or (scan f (i + 1) (d + 1)) = ((f i).or (scan f (i + 1) d)).or _
    rw [h, or_assoc']
theorem scan_trim {α : Type} {f : Nat → Option α} {N : Nat} (hN : 2 ≤ N) (h0 : f 0 = none) (h1 : f (N - 1) = none) : scan f 0 N = scan f 1 (N - 2) := by
  obtain ⟨M, rfl⟩ : ∃ M, N = M + 2 := ⟨N - 2, by omega⟩
  rw [scan_snoc, show 0 + (M + 1) = M + 2 - 1 by omega, h1, or_none_r]
  show (f 0).or (scan f 1 M) = _
  rw [h0]; rfl
theorem scan_none {α : Type} {f : Nat → Option α} : ∀ {d i}, (∀ j, i ≤ j → j < i + d → f j = none) → scan f i d = none
  | 0, _, _ => rfl
  | d + 1, i, h => by
    show (f i).or (scan f (i + 1) d) = none
    rw [h i (by omega) (by omega), scan_none (fun j h1 h2 => h j (by omega) (by omega))]; rfl
theorem scan_loop {α : Type} (F : Nat → Nat → Option α) (f : Nat → Option α) (N : Nat) (z : α) (R : Option α)
    (hs : ∀ i rest, i < N → Ev (fun k => F k (i + 1)) (rest.getD z) → Ev (fun k => F k i) (((f i).or rest).getD z))
    (he : Ev (fun k => F k N) (R.getD z)) : ∀ d i, i + d = N → Ev (fun k => F k i) (((scan f i d).or R).getD z)
  | 0, i, h => by
    obtain rfl : i = N := by omega
    exact he
  | d + 1, i, h => by
    have := hs i ((scan f (i + 1) d).or R) (by omega) (scan_loop F f N z R hs he d (i + 1) (by omega))
    rw [← or_assoc'] at this
    exact this

def smLet (n w i : Nat) : Option ByteArray := if w = szVar n i then some ⟨#[UInt8.ofNat (97 + i)]⟩ else if w = szN n - 1 - szVar n i then some ⟨#[33, UInt8.ofNat (97 + i)]⟩ else none
def smFit (n w o a b : Nat) : Prop := szT n a ≠ 0 ∧ szT n a < szT n w ∧ szT n b ≠ 0 ∧ szT n a + szT n b = szT n w ∧ (if o = 0 then a &&& b else a ||| b) = w
instance (n w o a b : Nat) : Decidable (smFit n w o a b) := by unfold smFit; infer_instance
def smOp (o : Nat) : ByteArray := if o = 0 then ⟨#[38]⟩ else ⟨#[124]⟩
def smT (n : Nat) : Nat → Nat → ByteArray
  | 0, _ => ⟨#[]⟩
  | k + 1, w => if w = 0 then ⟨#[48]⟩ else if w + 1 = szN n then ⟨#[49]⟩ else
      (((if szT n w = 1 then scan (smLet n w) 0 n else none)).or (scan (fun o => scan (fun a => scan (fun b => if smFit n w o a b then some (smOp o ++ smT n k a ++ smT n k b) else none) 0 (szN n)) 0 (szN n)) 0 2)).getD ⟨#[]⟩
def smR (n w k : Nat) (o a b : Nat) : Option ByteArray := if smFit n w o a b then some (smOp o ++ smT n k a ++ smT n k b) else none
def smA (n w k : Nat) (o a : Nat) : Option ByteArray := scan (smR n w k o a) 0 (szN n)
def smO (n w k : Nat) (o : Nat) : Option ByteArray := scan (smA n w k o) 0 (szN n)
def smL (n w : Nat) : Option ByteArray := if szT n w = 1 then scan (smLet n w) 0 n else none
theorem smT_succ (n k w : Nat) : smT n (k + 1) w = if w = 0 then ⟨#[48]⟩ else if w + 1 = szN n then ⟨#[49]⟩ else ((smL n w).or (scan (smO n w k) 0 2)).getD ⟨#[]⟩ := rfl
theorem smR_none {n w k o a b : Nat} (h : szT n a = 0 ∨ szT n w ≤ szT n a ∨ szT n b = 0 ∨ szT n a + szT n b ≠ szT n w) : smR n w k o a b = none := by
  unfold smR
  rw [if_neg]
  rintro ⟨h1, h2, h3, h4, _⟩
  omega
theorem smA_none {n w k o a : Nat} (h : szT n a = 0 ∨ szT n w ≤ szT n a) : smA n w k o a = none := scan_none (fun b _ _ => smR_none (by omega))
theorem szT_ends {n : Nat} (hn : n ≤ 3) : szT n 0 = 0 ∧ szT n (szN n - 1) = 0 := by
  have hN := @szN_pos n
  exact ⟨(szT_zero hn (by omega)).mpr (.inl rfl), (szT_zero hn (by omega)).mpr (.inr (by omega))⟩
theorem smA_trim {n w k o a : Nat} (hn : n ≤ 3) : smA n w k o a = scan (smR n w k o a) 1 (szN n - 2) :=
  scan_trim szN_pos (smR_none (by have := szT_ends hn; omega)) (smR_none (by have := szT_ends hn; omega))
theorem smO_trim {n w k o : Nat} (hn : n ≤ 3) : smO n w k o = scan (smA n w k o) 1 (szN n - 2) :=
  scan_trim szN_pos (smA_none (by have := szT_ends hn; omega)) (smA_none (by have := szT_ends hn; omega))

theorem scan_all {α : Type} {P : α → Prop} {f : Nat → Option α} (h : ∀ i x, f i = some x → P x) : ∀ {d i x}, scan f i d = some x → P x
  | 0, _, _, e => by cases e
  | d + 1, i, x, e => by
    have e' : (f i).or (scan f (i + 1) d) = some x := e
    cases hf : f i with
    | some y => rw [hf] at e'; cases e'; exact h i _ hf
    | none => rw [hf] at e'; exact scan_all h e'
theorem or_all {α : Type} {P : α → Prop} {x y : Option α} (hx : ∀ a, x = some a → P a) (hy : ∀ a, y = some a → P a) : ∀ a, x.or y = some a → P a := by
  cases x with
  | some b => intro a h; exact hx a h
  | none => exact hy
theorem getD_all {α : Type} {P : α → Prop} {x : Option α} {z : α} (hx : ∀ a, x = some a → P a) (hz : P z) : P (x.getD z) := by
  cases x with
  | some b => exact hx b rfl
  | none => exact hz
theorem smT_size (n : Nat) : ∀ k w, (smT n k w).size + 1 ≤ 3 * 2 ^ k
  | 0, _ => by show 0 + 1 ≤ 3; omega
  | k + 1, w => by
    have h2 := Nat.two_pow_pos k
    have h3 : 2 ^ (k + 1) = 2 * 2 ^ k := Nat.pow_succ'
    rw [smT_succ]
    by_cases h0 : w = 0
    · rw [if_pos h0]; show 1 + 1 ≤ _; omega
    · rw [if_neg h0]
      by_cases h1 : w + 1 = szN n
      · rw [if_pos h1]; show 1 + 1 ≤ _; omega
      · rw [if_neg h1]
        refine getD_all (P := fun (x : ByteArray) => x.size + 1 ≤ 3 * 2 ^ (k + 1)) (or_all ?_ ?_) (by show 0 + 1 ≤ _; omega)
        · intro a h
          unfold smL at h
          by_cases e : szT n w = 1
          · rw [if_pos e] at h
            refine scan_all (P := fun (x : ByteArray) => x.size + 1 ≤ 3 * 2 ^ (k + 1)) (fun i x hx => ?_) h
            unfold smLet at hx
            by_cases e1 : w = szVar n i
            · rw [if_pos e1] at hx; cases hx; show 1 + 1 ≤ _; omega
            · rw [if_neg e1] at hx
              by_cases e2 : w = szN n - 1 - szVar n i
              · rw [if_pos e2] at hx; cases hx; show 2 + 1 ≤ _; omega
              · rw [if_neg e2] at hx; cases hx
          · rw [if_neg e] at h; cases h
        · intro r h
          refine scan_all (P := fun (x : ByteArray) => x.size + 1 ≤ 3 * 2 ^ (k + 1)) (fun o x hx => ?_) h
          refine scan_all (P := fun (x : ByteArray) => x.size + 1 ≤ 3 * 2 ^ (k + 1)) (fun a x hx => ?_) hx
          refine scan_all (P := fun (x : ByteArray) => x.size + 1 ≤ 3 * 2 ^ (k + 1)) (fun b x hx => ?_) hx
          unfold smR at hx
          by_cases e : smFit n w o a b
          · rw [if_pos e] at hx; cases hx
            have h4 := smT_size n k a
            have h5 := smT_size n k b
            have h6 : (smOp o).size = 1 := by unfold smOp; split <;> rfl
            simp only [ByteArray.size_append]
            omega
          · rw [if_neg e] at hx; cases hx
theorem smT_short (n : Nat) {k : Nat} (w : Nat) (hk : k ≤ 12) : (smT n k w).size ≤ 12288 := by
  have h := smT_size n k w
  have h2 := Nat.pow_le_pow_right (show 0 < 2 by decide) hk
  have : (2 : Nat) ^ 12 = 4096 := by decide
  omega
end Go.Proofs.YtfoopehlmnejaaaGreatDoor.M
namespace Go.Proofs.YtfoopehlmnejaaaGreatDoor.M
open Go.RowKit Go.Proofs.YtfoopehlmnejaaaGreatDoorW.PrintWords Go.Proofs.YtfoopehlmnejaaaGreatDoorW.PrintLast Go.Proofs.YtfoopehlmnejaaaGreatDoorW.PrintMore
set_option linter.unusedVariables false
set_option linter.unusedSimpArgs false

def Sh.word (n : Nat) : Sh → Option Nat
  | .nil => none
  | .node c .nil _ => if 97 ≤ c ∧ c < 102 then (if (c - 97).toNat < n then some (szVar n (c - 97).toNat) else none) else some (if c = 49 then szN n - 1 else 0)
  | .node c l .nil => (l.word n).bind fun a => some (a ^^^ (szN n - 1))
  | .node c l r => (l.word n).bind fun a => (r.word n).bind fun b => some (if c = 38 then a &&& b else if c = 124 then a ||| b else a ^^^ b)
theorem word_one (n : Nat) (c : Int) {l : Sh} (h : Fine l) : (Sh.node c l .nil).word n = (l.word n).bind fun a => some (a ^^^ (szN n - 1)) := by cases h <;> rfl
theorem word_two (n : Nat) (c : Int) {l r : Sh} (h : Fine l) (h2 : Fine r) : (Sh.node c l r).word n = (l.word n).bind fun a => (r.word n).bind fun b => some (if c = 38 then a &&& b else if c = 124 then a ||| b else a ^^^ b) := by cases h <;> cases h2 <;> rfl
def Sh.txt : Sh → ByteArray
  | .nil => ⟨#[]⟩
  | .node c l r => ⟨#[UInt8.ofNat c.toNat]⟩ ++ l.txt ++ r.txt
inductive GoodF : Sh → Prop
  | leaf (c : Int) : isLet c → GoodF (.node c .nil .nil)
  | one (l : Sh) : GoodF l → GoodF (.node 33 l .nil)
  | two (c : Int) (l r : Sh) : c = 38 ∨ c = 124 ∨ c = 94 → GoodF l → GoodF r → GoodF (.node c l r)
theorem GoodF.fine {T : Sh} (h : GoodF T) : Fine T := by
  induction h with
  | leaf c _ => exact .leaf c
  | one l _ ih => exact .one _ l ih
  | two c l r _ _ _ ih ih2 => exact .two c l r ih ih2
theorem bt_mid (pre post : ByteArray) (u : UInt8) : bt (pre ++ (⟨#[u]⟩ ++ post)) ((pre.size : Nat) : Int) = (u.toNat : Int) := by
  have h : pre.size < (pre ++ (⟨#[u]⟩ ++ post)).size := by
    simp only [ByteArray.size_append]
    show pre.size < pre.size + (1 + post.size)
    omega
  unfold bt
  rw [dif_pos (show ((pre.size : Nat) : Int).toNat < _ by simpa using h)]
  simp only [Int.toNat_natCast]
  rw [ByteArray.getElem_append_right (Nat.le_refl _)]
  simp only [Nat.sub_self]
  rw [ByteArray.getElem_append_left (by simp [ByteArray.size])]
  rfl
theorem size_one (u : UInt8) : (⟨#[u]⟩ : ByteArray).size = 1 := rfl
theorem u8_back {c : Int} (h0 : 0 ≤ c) (h1 : c < 256) : (((UInt8.ofNat c.toNat).toNat : Nat) : Int) = c := by
  simp only [UInt8.toNat_ofNat']
  omega
theorem isLet_byte {c : Int} (h : isLet c) : 0 ≤ c ∧ c < 256 := by unfold isLet at h; omega
theorem append_nil (x : ByteArray) : x ++ ⟨#[]⟩ = x := by
  apply ByteArray.ext; simp [ByteArray.data_append]
theorem nil_append (x : ByteArray) : (⟨#[]⟩ : ByteArray) ++ x = x := by
  apply ByteArray.ext; simp [ByteArray.data_append]
theorem rp_txt {T : Sh} (hT : GoodF T) : ∀ (k : Nat) (pre post : ByteArray), T.txt.size ≤ k → rp (pre ++ (T.txt ++ post)) k pre.size = some (T, pre.size + T.txt.size) := by
  induction hT with
  | leaf c hc =>
    intro k pre post hk
    obtain ⟨b1, b2⟩ := isLet_byte hc
    have e : (Sh.node c .nil .nil).txt = ⟨#[UInt8.ofNat c.toNat]⟩ := by simp only [Sh.txt, append_nil]
    rw [e] at hk ⊢
    obtain ⟨k, rfl⟩ : ∃ j, k = j + 1 := ⟨k - 1, by rw [size_one] at hk; omega⟩
    rw [rp, if_neg (by simp only [ByteArray.size_append, size_one]; omega), bt_mid, u8_back b1 b2, if_pos hc]
    rfl
  | one l hl ih =>
    intro k pre post hk
    have e : (Sh.node 33 l .nil).txt = ⟨#[33]⟩ ++ l.txt := by simp only [Sh.txt, append_nil]; rfl
    rw [e] at hk ⊢
    simp only [ByteArray.size_append, size_one] at hk
    obtain ⟨k, rfl⟩ : ∃ j, k = j + 1 := ⟨k - 1, by omega⟩
    have a1 := ih k (pre ++ ⟨#[33]⟩) post (by omega)
    have e2 : pre ++ (⟨#[33]⟩ ++ l.txt ++ post) = pre ++ ⟨#[33]⟩ ++ (l.txt ++ post) := by simp only [ByteArray.append_assoc]
    have e3 : bt (pre ++ (⟨#[33]⟩ ++ l.txt ++ post)) ((pre.size : Nat) : Int) = 33 := by rw [ByteArray.append_assoc, bt_mid]; rfl
    rw [rp, if_neg (by simp only [ByteArray.size_append, size_one]; omega), e3, if_neg (by decide), if_pos rfl, e2]
    simp only [ByteArray.size_append, size_one] at a1 ⊢
    rw [a1]
    show some _ = some _
    rw [Nat.add_assoc]
  | two c l r hc hl hr ih ih2 =>
    intro k pre post hk
    have hb : 0 ≤ c ∧ c < 256 := by omega
    have e : (Sh.node c l r).txt = ⟨#[UInt8.ofNat c.toNat]⟩ ++ (l.txt ++ r.txt) := by simp only [Sh.txt, ByteArray.append_assoc]
    rw [e] at hk ⊢
    simp only [ByteArray.size_append, size_one] at hk
    obtain ⟨k, rfl⟩ : ∃ j, k = j + 1 := ⟨k - 1, by omega⟩
    have a1 := ih k (pre ++ ⟨#[UInt8.ofNat c.toNat]⟩) (r.txt ++ post) (by omega)
    have a2 := ih2 k (pre ++ ⟨#[UInt8.ofNat c.toNat]⟩ ++ l.txt) post (by omega)
    have e2 : pre ++ (⟨#[UInt8.ofNat c.toNat]⟩ ++ (l.txt ++ r.txt) ++ post) = pre ++ ⟨#[UInt8.ofNat c.toNat]⟩ ++ (l.txt ++ (r.txt ++ post)) := by simp only [ByteArray.append_assoc]
    have e4 : pre ++ ⟨#[UInt8.ofNat c.toNat]⟩ ++ l.txt ++ (r.txt ++ post) = pre ++ ⟨#[UInt8.ofNat c.toNat]⟩ ++ (l.txt ++ (r.txt ++ post)) := by simp only [ByteArray.append_assoc]
    rw [e4] at a2
    have e3 : bt (pre ++ (⟨#[UInt8.ofNat c.toNat]⟩ ++ (l.txt ++ r.txt) ++ post)) ((pre.size : Nat) : Int) = c := by rw [ByteArray.append_assoc, bt_mid, u8_back hb.1 hb.2]
    rw [rp, if_neg (by simp only [ByteArray.size_append, size_one]; omega), e3, if_neg (by unfold isLet; omega), if_neg (by omega), if_pos (by omega), e2]
    simp only [ByteArray.size_append, size_one] at a1 a2 ⊢
    rw [a1, Option.bind_some]
    simp only []
    rw [a2, Option.bind_some]
    simp only [Option.some.injEq, Prod.mk.injEq, true_and]
    omega
theorem formOf_txt {T : Sh} (hT : GoodF T) (h : T.txt.size ≤ 60) : formOf T.txt = some T := by
  have h1 := rp_txt hT T.txt.size ⟨#[]⟩ ⟨#[]⟩ (Nat.le_refl _)
  rw [append_nil, nil_append] at h1
  unfold formOf
  rw [if_pos h]
  have h2 : rp T.txt T.txt.size 0 = some (T, 0 + T.txt.size) := h1
  rw [h2, Option.bind_some, if_pos (by simp only [Nat.zero_add])]

theorem rp_good {S : ByteArray} : ∀ {k i : Nat} {T : Sh} {j : Nat}, rp S k i = some (T, j) → GoodF T
  | 0, i, T, j, h => by simp [rp] at h
  | k + 1, i, T, j, h => by
    rw [rp] at h
    by_cases h0 : S.size ≤ i
    · rw [if_pos h0] at h; cases h
    · rw [if_neg h0] at h
      by_cases h1 : isLet (bt S i)
      · rw [if_pos h1] at h
        simp only [Option.some.injEq, Prod.mk.injEq] at h
        obtain ⟨rfl, rfl⟩ := h
        exact .leaf _ h1
      · rw [if_neg h1] at h
        by_cases h2 : bt S i = 33
        · rw [if_pos h2] at h
          obtain ⟨⟨p1, p2⟩, hp, h⟩ := Option.bind_eq_some_iff.mp h
          simp only [Option.some.injEq, Prod.mk.injEq] at h
          obtain ⟨rfl, rfl⟩ := h
          rw [h2]
          exact .one _ (rp_good hp)
        · rw [if_neg h2] at h
          by_cases h3 : bt S i = 38 ∨ bt S i = 124 ∨ bt S i = 94
          · rw [if_pos h3] at h
            obtain ⟨⟨p1, p2⟩, hp, h⟩ := Option.bind_eq_some_iff.mp h
            obtain ⟨⟨q1, q2⟩, hq, h⟩ := Option.bind_eq_some_iff.mp h
            simp only [Option.some.injEq, Prod.mk.injEq] at h
            obtain ⟨rfl, rfl⟩ := h
            exact .two _ _ _ h3 (rp_good hp) (rp_good hq)
          · rw [if_neg h3] at h; cases h
theorem formOf_good {S : ByteArray} {T : Sh} (h : formOf S = some T) : GoodF T := rp_good (formOf_some h).2.2
theorem scan_at {α : Type} {f : Nat → Option α} : ∀ {d i x}, scan f i d = some x → ∃ j, i ≤ j ∧ j < i + d ∧ f j = some x
  | 0, _, _, e => by cases e
  | d + 1, i, x, e => by
    have e' : (f i).or (scan f (i + 1) d) = some x := e
    cases hf : f i with
    | some y => rw [hf] at e'; cases e'; exact ⟨i, Nat.le_refl _, by omega, hf⟩
    | none => rw [hf] at e'; obtain ⟨j, h1, h2, h3⟩ := scan_at e'; exact ⟨j, by omega, by omega, h3⟩
theorem scan_is {α : Type} {f : Nat → Option α} : ∀ {d i j x}, i ≤ j → j < i + d → f j = some x → ∃ y, scan f i d = some y
  | 0, _, _, _, h1, h2, _ => by omega
  | d + 1, i, j, x, h1, h2, h3 => by
    show ∃ y, (f i).or (scan f (i + 1) d) = some y
    cases hf : f i with
    | some y => exact ⟨y, rfl⟩
    | none =>
      have : i ≠ j := fun e => by rw [e, h3] at hf; cases hf
      obtain ⟨y, hy⟩ := scan_is (f := f) (i := i + 1) (d := d) (by omega) (by omega) h3
      exact ⟨y, hy⟩
theorem prefW_const (n : Nat) (c : Int) : prefW (fun _ => (c == 49)) (2 ^ n) = if c = 49 then szN n - 1 else 0 := by
  apply Nat.eq_of_testBit_eq
  intro i
  rw [testBit_prefW]
  by_cases h : c = 49
  · rw [if_pos h, beq_iff_eq.mpr h, Bool.and_true]
    exact (Nat.testBit_two_pow_sub_one (2 ^ n) i).symm
  · rw [if_neg h, beq_eq_false_iff_ne.mpr h, Bool.and_false, Nat.zero_testBit]
theorem szVar_lt (n i : Nat) : szVar n i < szN n := prefW_lt _ _
theorem word_lt {n : Nat} : ∀ {T : Sh} {v : Nat}, Fine T → T.word n = some v → v < szN n := by
  intro T v hT
  have h2 := @szN_pos n
  induction hT generalizing v with
  | leaf c =>
    intro h
    rw [Sh.word] at h
    split at h
    · split at h
      · injection h with h; subst h; exact szVar_lt _ _
      · cases h
    · injection h with h; subst h; split <;> omega
  | one c l hl ih =>
    intro h
    rw [word_one n c hl] at h
    obtain ⟨a, ha, h⟩ := Option.bind_eq_some_iff.mp h
    injection h with h; subst h
    exact Nat.xor_lt_two_pow (ih ha) (show szN n - 1 < szN n by omega)
  | two c l r hl hr ih ih2 =>
    intro h
    rw [word_two n c hl hr] at h
    obtain ⟨a, ha, h⟩ := Option.bind_eq_some_iff.mp h
    obtain ⟨b, hb, h⟩ := Option.bind_eq_some_iff.mp h
    injection h with h; subst h
    have h3 := ih ha
    have h4 := ih2 hb
    split
    · exact Nat.lt_of_le_of_lt Nat.and_le_left h3
    · split
      · exact Nat.or_lt_two_pow h3 h4
      · exact Nat.xor_lt_two_pow h3 h4
theorem smL_one {n w : Nat} (hn : n ≤ 3) (hw : w < szN n) (h : szT n w = 1) : ∃ x, smL n w = some x := by
  obtain ⟨j, hj, e⟩ := szIsLet_elim ((szT_one hn hw).mp h)
  unfold smL
  rw [if_pos h]
  have : ∃ x, smLet n w j = some x := by
    unfold smLet
    by_cases e1 : w = szVar n j
    · rw [if_pos e1]; exact ⟨_, rfl⟩
    · rw [if_neg e1, if_pos (by omega)]; exact ⟨_, rfl⟩
  obtain ⟨x, hx⟩ := this
  exact scan_is (Nat.zero_le _) (by omega) hx
theorem smO_two {n w : Nat} (k : Nat) (hn : n ≤ 3) (hw : w < szN n) (h : 2 ≤ szT n w) : ∃ x, scan (smO n w k) 0 2 = some x := by
  obtain ⟨f, g, hf, hg, h1, h2, h3, h4⟩ := szT_wit hn hw h
  have key : ∀ o, o < 2 → (if o = 0 then f &&& g else f ||| g) = w → ∃ x, scan (smO n w k) 0 2 = some x := by
    intro o ho e
    have hx : smR n w k o f g = some (smOp o ++ smT n k f ++ smT n k g) := by
      unfold smR
      rw [if_pos]
      exact ⟨by omega, by omega, by omega, h3, e⟩
    obtain ⟨y, hy⟩ := scan_is (f := smR n w k o f) (i := 0) (d := szN n) (Nat.zero_le _) (by omega) hx
    obtain ⟨z, hz⟩ := scan_is (f := smA n w k o) (i := 0) (d := szN n) (Nat.zero_le _) (by omega) (show smA n w k o f = some y from hy)
    exact scan_is (f := smO n w k) (i := 0) (d := 2) (Nat.zero_le _) (by omega) (show smO n w k o = some z from hz)
  rcases h4 with e | e
  · exact key 0 (by omega) (by rw [if_pos rfl]; exact e)
  · exact key 1 (by omega) (by rw [if_neg (by decide)]; exact e)
theorem smT_tree {n : Nat} (hn : n ≤ 3) : ∀ (k w : Nat), w < szN n → szT n w < k → ∃ T, GoodF T ∧ T.txt = smT n k w ∧ T.word n = some w ∧ T.leaves = max 1 (szT n w)
  | 0, w, hw, hk => by omega
  | k + 1, w, hw, hk => by
    have h2 := @szN_pos n
    rw [smT_succ]
    by_cases h0 : w = 0
    · rw [if_pos h0]
      subst h0
      refine ⟨.node 48 .nil .nil, .leaf _ (by decide), ?_, rfl, ?_⟩
      · simp only [Sh.txt, append_nil]; rfl
      · rw [(szT_zero hn hw).mpr (.inl rfl)]; rfl
    · rw [if_neg h0]
      by_cases h1 : w + 1 = szN n
      · rw [if_pos h1]
        refine ⟨.node 49 .nil .nil, .leaf _ (by decide), ?_, ?_, ?_⟩
        · simp only [Sh.txt, append_nil]; rfl
        · show some (szN n - 1) = some w
          rw [← h1]; rfl
        · rw [(szT_zero hn hw).mpr (.inr h1)]; rfl
      · rw [if_neg h1]
        have hs0 : szT n w ≠ 0 := fun e => by rcases (szT_zero hn hw).mp e with e | e <;> omega
        by_cases hs : szT n w = 1
        · obtain ⟨x, hx⟩ := smL_one hn hw hs
          rw [hx]
          show ∃ T, GoodF T ∧ T.txt = x ∧ _
          unfold smL at hx
          rw [if_pos hs] at hx
          obtain ⟨i, _, hi, hx⟩ := scan_at hx
          have hi : i < n := by omega
          have hc : isLet ((97 + i : Nat) : Int) := .inl (by omega)
          have hcw : (Sh.node ((97 + i : Nat) : Int) .nil .nil).word n = some (szVar n i) := by
            show (if 97 ≤ ((97 + i : Nat) : Int) ∧ ((97 + i : Nat) : Int) < 102 then (if (((97 + i : Nat) : Int) - 97).toNat < n then some (szVar n (((97 + i : Nat) : Int) - 97).toNat) else none) else _) = _
            rw [show (((97 + i : Nat) : Int) - 97).toNat = i by omega, if_pos (by omega), if_pos hi]
          unfold smLet at hx
          by_cases e1 : w = szVar n i
          · rw [if_pos e1] at hx
            injection hx with hx
            subst hx
            refine ⟨.node ((97 + i : Nat) : Int) .nil .nil, .leaf _ hc, ?_, by rw [hcw, e1], by rw [hs]; rfl⟩
            simp only [Sh.txt, append_nil, Int.toNat_natCast]
          · rw [if_neg e1] at hx
            by_cases e2 : w = szN n - 1 - szVar n i
            · rw [if_pos e2] at hx
              injection hx with hx
              subst hx
              refine ⟨.node 33 (.node ((97 + i : Nat) : Int) .nil .nil) .nil, .one _ (.leaf _ hc), ?_, ?_, by rw [hs]; rfl⟩
              · simp only [Sh.txt, append_nil, Int.toNat_natCast]; rfl
              · rw [word_one n 33 (.leaf _), hcw, Option.bind_some, (szVar_ok hn hi).2.2.2, e2]
            · rw [if_neg e2] at hx; cases hx
        · obtain ⟨x, hx⟩ := smO_two k hn hw (by omega)
          have hl : smL n w = none := by unfold smL; rw [if_neg hs]
          rw [hl, hx]
          show ∃ T, GoodF T ∧ T.txt = x ∧ _
          obtain ⟨o, _, ho, hx⟩ := scan_at hx
          obtain ⟨a, _, ha, hx⟩ := scan_at (show scan (smA n w k o) 0 (szN n) = some x from hx)
          obtain ⟨b, _, hb, hx⟩ := scan_at (show scan (smR n w k o a) 0 (szN n) = some x from hx)
          unfold smR at hx
          by_cases e : smFit n w o a b
          · rw [if_pos e] at hx
            injection hx with hx
            subst hx
            obtain ⟨f1, f2, f3, f4, f5⟩ := e
            obtain ⟨T1, g1, t1, w1, l1⟩ := smT_tree hn k a (by omega) (by omega)
            obtain ⟨T2, g2, t2, w2, l2⟩ := smT_tree hn k b (by omega) (by omega)
            have ho2 : o = 0 ∨ o = 1 := by omega
            refine ⟨.node (if o = 0 then 38 else 124) T1 T2, .two _ _ _ (by rcases ho2 with rfl | rfl <;> simp) g1 g2, ?_, ?_, ?_⟩
            · simp only [Sh.txt, t1, t2]
              rcases ho2 with rfl | rfl <;> rfl
            · rw [word_two n _ g1.fine g2.fine, w1, w2, Option.bind_some, Option.bind_some]
              rcases ho2 with rfl | rfl
              · rw [if_pos rfl] at f5; rw [if_pos (if_pos rfl)]; rw [f5]
              · rw [if_neg (by decide)] at f5; rw [if_neg (by decide), if_pos (by decide), f5]
            · rw [leaves_two _ g1.fine g2.fine, l1, l2]; omega
          · rw [if_neg e] at hx; cases hx
theorem smT_len {n : Nat} (hn : n ≤ 3) : ∀ (k w : Nat), w < szN n → szT n w < k → (smT n k w).size + 1 ≤ 3 * max 1 (szT n w)
  | 0, w, hw, hk => by omega
  | k + 1, w, hw, hk => by
    rw [smT_succ]
    by_cases h0 : w = 0
    · rw [if_pos h0]; show 1 + 1 ≤ _; omega
    · rw [if_neg h0]
      by_cases h1 : w + 1 = szN n
      · rw [if_pos h1]; show 1 + 1 ≤ _; omega
      · rw [if_neg h1]
        refine getD_all (P := fun (x : ByteArray) => x.size + 1 ≤ 3 * max 1 (szT n w)) (or_all ?_ ?_) (by show 0 + 1 ≤ _; omega)
        · intro a h
          unfold smL at h
          by_cases e : szT n w = 1
          · rw [if_pos e] at h
            refine scan_all (P := fun (x : ByteArray) => x.size + 1 ≤ 3 * max 1 (szT n w)) (fun i x hx => ?_) h
            unfold smLet at hx
            by_cases e1 : w = szVar n i
            · rw [if_pos e1] at hx; cases hx; show 1 + 1 ≤ _; omega
            · rw [if_neg e1] at hx
              by_cases e2 : w = szN n - 1 - szVar n i
              · rw [if_pos e2] at hx; cases hx; show 2 + 1 ≤ _; omega
              · rw [if_neg e2] at hx; cases hx
          · rw [if_neg e] at h; cases h
        · intro r h
          obtain ⟨o, _, ho, h⟩ := scan_at h
          obtain ⟨a, _, ha, h⟩ := scan_at (show scan (smA n w k o) 0 (szN n) = some r from h)
          obtain ⟨b, _, hb, h⟩ := scan_at (show scan (smR n w k o a) 0 (szN n) = some r from h)
          unfold smR at h
          by_cases e : smFit n w o a b
          · rw [if_pos e] at h; cases h
            obtain ⟨f1, f2, f3, f4, f5⟩ := e
            have h4 := smT_len hn k a (by omega) (by omega)
            have h5 := smT_len hn k b (by omega) (by omega)
            have h6 : (smOp o).size = 1 := by unfold smOp; split <;> rfl
            simp only [ByteArray.size_append]
            omega
          · rw [if_neg e] at h; cases h
theorem smT_read {n w : Nat} (hn : n ≤ 3) (hw : w < szN n) {k : Nat} (hk : 11 ≤ k) : ∃ T, formOf (smT n k w) = some T ∧ T.word n = some w ∧ T.leaves = max 1 (szT n w) := by
  have h10 := szT_le hn hw
  obtain ⟨T, g, t, a, b⟩ := smT_tree hn k w hw (by omega)
  have hl := smT_len hn k w hw (by omega)
  refine ⟨T, ?_, a, b⟩
  rw [← t] at hl ⊢
  exact formOf_txt g (by omega)
end Go.Proofs.YtfoopehlmnejaaaGreatDoor.M
namespace Go.Proofs.YtfoopehlmnejaaaGreatDoor.M
open Go Go.RowKit Go.Proofs.YtfoopehlmnejaaaGreatDoorW.PrintWords Go.Proofs.YtfoopehlmnejaaaGreatDoorW.PrintLast
set_option linter.unusedVariables false

class Ltr (w W : World) : Prop where
  out : Below w.heap.size w W
instance Ltr.self (w : World) : Ltr w w := ⟨Below.refl _ _⟩
instance Ltr.al {w W : World} {o : Obj} [l : Ltr w W] : Ltr w (W.alloc o) := ⟨below_alloc l.out o⟩
instance Ltr.dn {w W : World} {m : Nat} [l : Ltr w W] : Ltr w (W.drewN m) := ⟨pw_below_drewN l.out m⟩
instance Ltr.dr {w W : World} [l : Ltr w W] : Ltr w W.drew := ⟨below_drew1 l.out⟩
theorem Lr {α : Type} {d : Kd α} {e : Nat} {w W : World} {base : Nat} {ok : Nat → Prop} {v : Value} {xs : List α} (h : Aside0 (d.R e w base ok v xs)) [l : Ltr w W] : d.R e W base ok v xs := Kd.R_below h.out l.out
theorem Lb {w W : World} {g : Nat} {o : Obj} (h : Aside0 (w.heap[g]? = some o)) [l : Ltr w W] : W.heap[g]? = some o := blk_below h.out l.out
theorem Lw {w0 w W : World} (h : Aside0 (Below w0.heap.size w0 w)) [l : Ltr w W] : Below w0.heap.size w0 W := below_step h.out l.out
theorem sT_ {α : Type _} (l : List α) (i : Nat) (a : α) : l.toArray.setIfInBounds i a = (l.set i a).toArray := List.setIfInBounds_toArray ..
theorem s0_ {α : Type _} {x y : α} {l : List α} : (x :: l).set 0 y = y :: l := rfl
theorem s1_ {α : Type _} {x y : α} {l : List α} {n : Nat} : (x :: l).set (n + 1) y = x :: l.set n y := rfl
end Go.Proofs.YtfoopehlmnejaaaGreatDoor.M
namespace Go.Proofs.YtfoopehlmnejaaaGreatDoor.M
open Go.RowKit Go.Proofs.YtfoopehlmnejaaaGreatDoorW.PrintWords Go.Proofs.YtfoopehlmnejaaaGreatDoorW.PrintLast
set_option linter.unusedVariables false
set_option linter.unusedSimpArgs false

def Tot {α : Type} (g : Nat → Option α) (P : α → Prop) : Prop := ∃ r, P r ∧ Ev g r
theorem Tot.ev {α : Type} {g : Nat → Option α} {P : α → Prop} {r : α} (h : Ev g r) (hp : P r) : Tot g P := ⟨r, hp, h⟩
theorem Tot.now {α : Type} {P : α → Prop} (r : α) (hp : P r) : Tot (fun _ => some r) P := ⟨r, hp, Ev.now r⟩
theorem Tot.bind {α β : Type} {g : Nat → Option α} {f : Nat → α → Option β} {P : α → Prop} {Q : β → Prop} (h : Tot g P) (hf : ∀ r, P r → Tot (fun k => f k r) Q) : Tot (fun k => (g k).bind (f k)) Q := by
  obtain ⟨r, hp, he⟩ := h
  obtain ⟨s, hq, hs⟩ := hf r hp
  exact ⟨s, hq, Ev.bind he hs⟩
theorem Tot.congr {α : Type} {g f : Nat → Option α} {P : α → Prop} (h : ∀ k, g k = f k) (hf : Tot f P) : Tot g P := by
  obtain ⟨r, hp, he⟩ := hf
  exact ⟨r, hp, Ev.congr h he⟩
theorem Tot.step {α : Type} {g f : Nat → Option α} {P : α → Prop} (h : ∀ k, g (k + 1) = f k) (hf : Tot f P) : Tot g P := by
  obtain ⟨r, hp, he⟩ := hf
  exact ⟨r, hp, Ev.step h he⟩
theorem Tot.end {α : Type} {g : Nat → Option α} {P : α → Prop} (r : α) (hp : P r) (h : ∀ k, g (k + 1) = some r) : Tot g P := ⟨r, hp, Ev.end h⟩
theorem Tot.mono {α : Type} {g : Nat → Option α} {P Q : α → Prop} (h : Tot g P) (hq : ∀ r, P r → Q r) : Tot g Q := by
  obtain ⟨r, hp, he⟩ := h
  exact ⟨r, hq r hp, he⟩
theorem Tot.ite {α : Type} {g f : Nat → Option α} {P : α → Prop} (c : Prop) [Decidable c] (h : c → Tot g P) (hf : ¬ c → Tot f P) : Tot (fun k => if c then g k else f k) P := by
  by_cases e : c
  · exact Tot.congr (fun k => if_pos e) (h e)
  · exact Tot.congr (fun k => if_neg e) (hf e)
theorem Tot.up {S α : Type} {P : α → Prop} (F : Nat → S → Nat → Option α) (N : Nat) (I : Nat → S → Prop)
    (hs : ∀ i s, i < N → I i s → (∀ s', I (i + 1) s' → Tot (F (i + 1) s') P) → Tot (F i s) P) (he : ∀ s, I N s → Tot (F N s) P) :
    ∀ d i s, i + d = N → I i s → Tot (F i s) P := by
  intro d
  induction d with
  | zero =>
    intro i s hi h
    obtain rfl : i = N := by omega
    exact he s h
  | succ d ih =>
    intro i s hi h
    exact hs i s (by omega) h (fun s' hs' => ih (i + 1) s' (by omega) hs')
theorem and_mask (a : Int) {m : Nat} (hm : m < 2 ^ 63) : 0 ≤ Go.bits .and .i64 a (m : Int) ∧ Go.bits .and .i64 a (m : Int) ≤ (m : Int) := by
  have e : Go.bits .and .i64 a (m : Int) = (((BitVec.ofInt 64 a).toNat &&& m : Nat) : Int) := by
    simp only [Go.bits, BitVec.ofInt_natCast, BitVec.toNat_and, BitVec.toNat_ofNat, mod_bits hm]
    exact wi64 _ (Int.natCast_nonneg _) (cast_lt (Nat.lt_of_le_of_lt Nat.and_le_right hm))
  rw [e]
  exact ⟨Int.natCast_nonneg _, Int.ofNat_le.mpr Nat.and_le_right⟩
theorem and_255 (a : Int) : 0 ≤ Go.bits .and .i64 a 255 ∧ Go.bits .and .i64 a 255 ≤ 255 := and_mask a (m := 255) (by decide)
end Go.Proofs.YtfoopehlmnejaaaGreatDoor.M
namespace Go.Proofs.YtfoopehlmnejaaaGreatDoor.M
open Go.RowKit Go.Proofs.YtfoopehlmnejaaaGreatDoorW.PrintWords Go.Proofs.YtfoopehlmnejaaaGreatDoorW.PrintLast
set_option linter.unusedVariables false
set_option linter.unusedSimpArgs false

def krN (n b x : Nat) : Nat := sumN (fun i => (b.testBit (x ^^^ 2 ^ i)).toNat) n
def krE (n b : Nat) (a : Nat) : Nat := sumN (fun x => if a.testBit x = true then krN n b x else 0) (2 ^ n)
def krB (n w a b : Nat) : Bool := Nat.ble (krE n b a * krE n b a) (szT n w * (cnt a.testBit (2 ^ n) * cnt b.testBit (2 ^ n)))
def krW (n w : Nat) : Bool := allB (w + 1) fun a => if Nat.beq (Nat.land a w) a then (allB (szN n - w) fun b => if Nat.beq (Nat.land b w) 0 then krB n w a b else true) else true
theorem kr0 : allB 3 (fun n => allB (szN n) fun w => krW n w) = true := by decide +kernel
theorem kr3_0 : allB 32 (fun i => krW 3 (0 + i)) = true := by decide +kernel
theorem kr3_1 : allB 32 (fun i => krW 3 (32 + i)) = true := by decide +kernel
theorem kr3_2 : allB 32 (fun i => krW 3 (64 + i)) = true := by decide +kernel
theorem kr3_3 : allB 32 (fun i => krW 3 (96 + i)) = true := by decide +kernel
theorem kr3_4 : allB 32 (fun i => krW 3 (128 + i)) = true := by decide +kernel
theorem kr3_5 : allB 32 (fun i => krW 3 (160 + i)) = true := by decide +kernel
theorem kr3_6 : allB 32 (fun i => krW 3 (192 + i)) = true := by decide +kernel
theorem kr3_7 : allB 32 (fun i => krW 3 (224 + i)) = true := by decide +kernel
theorem krW_all {n w : Nat} (hn : n ≤ 3) (hw : w < szN n) : krW n w = true := by
  by_cases h : n < 3
  · exact allB_of (allB_of kr0 n h) w hw
  · obtain rfl : n = 3 := by omega
    have hw : w < 256 := hw
    have e : ∀ k, k * 32 ≤ w → w < k * 32 + 32 → (k * 32 + (w - k * 32) = w) ∧ w - k * 32 < 32 := fun k h1 h2 => by omega
    have hk : w / 32 * 32 ≤ w ∧ w < w / 32 * 32 + 32 ∧ w / 32 < 8 := by omega
    obtain ⟨h1, h2, h3⟩ := hk
    generalize w / 32 = k at *
    obtain ⟨e1, e2⟩ := e k h1 h2
    have c : k = 0 ∨ k = 1 ∨ k = 2 ∨ k = 3 ∨ k = 4 ∨ k = 5 ∨ k = 6 ∨ k = 7 := by omega
    rcases c with rfl | rfl | rfl | rfl | rfl | rfl | rfl | rfl
    · have := allB_of kr3_0 _ e2; rwa [show 0 + (w - 0 * 32) = w by omega] at this
    · have := allB_of kr3_1 _ e2; rwa [show 32 + (w - 1 * 32) = w by omega] at this
    · have := allB_of kr3_2 _ e2; rwa [show 64 + (w - 2 * 32) = w by omega] at this
    · have := allB_of kr3_3 _ e2; rwa [show 96 + (w - 3 * 32) = w by omega] at this
    · have := allB_of kr3_4 _ e2; rwa [show 128 + (w - 4 * 32) = w by omega] at this
    · have := allB_of kr3_5 _ e2; rwa [show 160 + (w - 5 * 32) = w by omega] at this
    · have := allB_of kr3_6 _ e2; rwa [show 192 + (w - 6 * 32) = w by omega] at this
    · have := allB_of kr3_7 _ e2; rwa [show 224 + (w - 7 * 32) = w by omega] at this
theorem krB_all {n w a b : Nat} (hn : n ≤ 3) (hw : w < szN n) (ha : a &&& w = a) (hb : b &&& w = 0) (hl : b < szN n - w) : krB n w a b = true := by
  have h := krW_all hn hw
  have hle : a ≤ w := by rw [← ha]; exact Nat.and_le_right
  have h1 := allB_of h a (by omega)
  rw [if_pos (by show Nat.beq (a &&& w) a = true; rw [ha]; exact Nat.beq_refl a)] at h1
  have h2 := allB_of h1 b hl
  rw [if_pos (by show Nat.beq (b &&& w) 0 = true; rw [hb]; rfl)] at h2
  exact h2
theorem krE_eq (n a b : Nat) : krE n b a = edgesN n a b := by
  unfold krE edgesN
  refine sumN_congr (fun x _ => ?_)
  unfold edgesAt krN
  cases h : a.testBit x with
  | true =>
    rw [if_pos rfl]
    refine sumN_congr (fun i _ => ?_)
    unfold edgeB
    rw [h, Bool.true_and]
  | false =>
    rw [if_neg (by decide)]
    have z : ∀ m, sumN (edgeB a b x) m = 0 := by
      intro m
      induction m with
      | zero => rfl
      | succ m ih =>
        show sumN (edgeB a b x) m + edgeB a b x m = 0
        rw [ih]
        unfold edgeB
        rw [h]; rfl
    rw [z]
theorem kr_bound {n w a b : Nat} (hn : n ≤ 3) (hw : w < szN n) (ha : a &&& w = a) (hb : b &&& w = 0) (hl : b < szN n - w) : edgesN n a b * edgesN n a b ≤ szT n w * (cnt a.testBit (2 ^ n) * cnt b.testBit (2 ^ n)) := by
  have h := krB_all hn hw ha hb hl
  unfold krB at h
  rw [krE_eq] at h
  exact Nat.le_of_ble_eq_true h
end Go.Proofs.YtfoopehlmnejaaaGreatDoor.M
namespace Go.Proofs.YtfoopehlmnejaaaGreatDoor.M
open Go.RowKit Go.Proofs.YtfoopehlmnejaaaGreatDoorW.PrintWords Go.Proofs.YtfoopehlmnejaaaGreatDoorW.PrintLast
set_option linter.unusedVariables false
set_option linter.unusedSimpArgs false

theorem szNot_ok : allB 4 (fun n => allB (szN n) fun w => Nat.beq (szT n (Nat.xor w (szN n - 1))) (szT n w)) = true := by decide +kernel
theorem szT_not {n w : Nat} (hn : n ≤ 3) (hw : w < szN n) : szT n (w ^^^ (szN n - 1)) = szT n w := Nat.eq_of_beq_eq_true (allB_of (allB4 szNot_ok hn) w hw)
def szDep (n w i : Nat) : Bool := !(rstW n w i 0 == rstW n w i 1)
theorem szDep_ok : allB 4 (fun n => allB (szN n) fun w => Nat.ble (cnt (fun i => !(Nat.beq (rstW n w i 0) (rstW n w i 1))) n) (szT n w)) = true := by decide +kernel
theorem szT_dep {n w : Nat} (hn : n ≤ 3) (hw : w < szN n) : cnt (szDep n w) n ≤ szT n w := by
  have e : szDep n w = fun i => !(Nat.beq (rstW n w i 0) (rstW n w i 1)) := by
    funext i
    unfold szDep
    congr 1
    rw [Bool.eq_iff_iff, beq_iff_eq, Nat.beq_eq]
  rw [e]
  exact Nat.le_of_ble_eq_true (allB_of (allB4 szDep_ok hn) w hw)
end Go.Proofs.YtfoopehlmnejaaaGreatDoor.M
namespace Go.Proofs.YtfoopehlmnejaaaGreatDoor.M
open Go.RowKit Go.Proofs.YtfoopehlmnejaaaGreatDoorW.PrintWords Go.Proofs.YtfoopehlmnejaaaGreatDoorW.PrintLast
set_option linter.unusedVariables false
set_option linter.unusedSimpArgs false

theorem bsm {α β : Type} (a : α) (f : α → Option β) : (some a).bind f = f a := (Option.bind_some a f).trans (Eq.refl (f a))
theorem iter_snoc {S : Type} (step : Nat → S → S) : ∀ (d i : Nat) (s : S), iter step i (d + 1) s = step (i + d) (iter step i d s)
  | 0, i, s => rfl
  | d + 1, i, s => by
    have h := iter_snoc step d (i + 1) (step i s)
    rw [show i + 1 + d = i + (d + 1) by omega] at h
    exact h
theorem iter_keep {S : Type} {step : Nat → S → S} {P : S → Prop} {N : Nat} (h : ∀ i s, i < N → P s → P (step i s)) : ∀ (d i : Nat) (s : S), i + d ≤ N → P s → P (iter step i d s)
  | 0, i, s, _, hs => hs
  | d + 1, i, s, hi, hs => iter_keep h d (i + 1) (step i s) (by omega) (h i s (by omega) hs)
theorem cnt_more {p : Nat → Bool} {m : Nat} (h : ∀ i, m ≤ i → p i = false) : ∀ d, cnt p (m + d) = cnt p m
  | 0 => rfl
  | d + 1 => by
    show cnt p (m + d) + (p (m + d)).toNat = _
    rw [cnt_more h d, h (m + d) (by omega)]; rfl
theorem cnt_pc {n w : Nat} (hn : n ≤ 5) (hw : w < 2 ^ 2 ^ n) : cnt w.testBit (2 ^ n) = pc w := by
  have h5 := pow_le_5 hn
  have h := cnt_more (p := w.testBit) (m := 2 ^ n) (fun i hi => Nat.testBit_lt_two_pow (Nat.lt_of_lt_of_le hw (Nat.pow_le_pow_right (by decide) hi))) (32 - 2 ^ n)
  rw [show 2 ^ n + (32 - 2 ^ n) = 32 by omega] at h
  exact h.symm
theorem notW_is {N v : Nat} (h : v < 2 ^ N) : notW N v = 2 ^ N - 1 - v := by
  rw [show 2 ^ N - 1 - v = 2 ^ N - (v + 1) from by omega]
  apply Nat.eq_of_testBit_eq
  intro i
  rw [Nat.testBit_two_pow_sub_succ h, notW, Nat.testBit_xor, Nat.testBit_two_pow_sub_one]
  by_cases hi : i < N
  · simp [hi]
  · simp only [hi, decide_false, Bool.false_and, Bool.xor_false]
    exact Nat.testBit_lt_two_pow (Nat.lt_of_lt_of_le h (Nat.pow_le_pow_right (by decide) (by omega)))
theorem notW_and {N v : Nat} (h : v < 2 ^ N) : notW N v &&& v = 0 := by
  apply Nat.eq_of_testBit_eq
  intro i
  rw [Nat.testBit_and, notW, Nat.testBit_xor, Nat.testBit_two_pow_sub_one, Nat.zero_testBit]
  by_cases hi : i < N
  · rw [decide_eq_true hi]; cases v.testBit i <;> rfl
  · rw [Nat.testBit_lt_two_pow (Nat.lt_of_lt_of_le h (Nat.pow_le_pow_right (by decide) (by omega))), Bool.and_false]
theorem div_up {e d s : Nat} (hd : 0 < d) (h : e ≤ s * d) : (e + d - 1) / d ≤ s := by
  have h1 : (e + d - 1) / d < s + 1 := by
    rw [Nat.div_lt_iff_lt_mul hd, Nat.succ_mul]; omega
  omega
end Go.Proofs.YtfoopehlmnejaaaGreatDoor.M
namespace Go.Proofs.YtfoopehlmnejaaaGreatDoor.M
open Go Go.RowKit Go.Proofs.YtfoopehlmnejaaaGreatDoorW.PrintWords Go.Proofs.YtfoopehlmnejaaaGreatDoorW.PrintLast
theorem Lv {α : Type} {d : Kd α} {e : Nat} {w W : World} {base : Nat} {ok : Nat → Prop} {v : Value} {xs : List α} (h : Aside0 (d.V e w base ok v xs)) [l : Ltr w W] : d.V e W base ok v xs := Kd.V_below h.out l.out
end Go.Proofs.YtfoopehlmnejaaaGreatDoor.M
namespace Go.Proofs.YtfoopehlmnejaaaGreatDoor.Print
open Go Go.RowKit Go.Proofs.YtfoopehlmnejaaaGreatDoorW.PrintWords Go.Proofs.YtfoopehlmnejaaaGreatDoorW.PrintLast
theorem c20_ {w : World} {g : Nat} {t : TypeId} {x y : Value} (h : Aside0 (w.heap[g]? = some (.cells #[x, y] t (0, 0)))) : w.cell? ⟨g, 0, none⟩ = some x := (blk_cell h.out 0).trans rfl
theorem c21_ {w : World} {g : Nat} {t : TypeId} {x y : Value} (h : Aside0 (w.heap[g]? = some (.cells #[x, y] t (0, 0)))) : w.cell? ⟨g, 1, none⟩ = some y := (blk_cell h.out 1).trans rfl
theorem q0_ {p : Prop} (h : p := by repeat (first | (with_reducible first | exact HB.out | apply below_alloc | apply pw_below_drewN | apply below_drew1 | refine below_set ?_ (Aside0.out (by assumption))) | exact HB.out)) : p := h
theorem q1_ {p : Prop} (h : p := by first | rfl | (simp; done) | (simp [*]; done)) : p := h
theorem q2_ {p : Prop} (h : p := by first | rfl | (simp only [List.map_toArray, List.map_cons, List.map_nil, List.length_drop, List.length_take]; rfl)) : p := h
theorem q3_ {p : Prop} (h : p := by repeat (first | (with_reducible first | exact HK.out | apply KeepBut.set_ | apply keep_drewN | apply keep_drew | apply keep_alloc | refine keep_far ?_ (Aside0.out (by assumption)) _) | exact HK.out)) : p := h
theorem q4_ {p : Prop} (h : p := by repeat (first | (with_reducible first | exact HB.out | apply below_alloc | apply pw_below_drewN | apply below_drew1 | refine below_set ?_ (Aside0.out (by assumption)) | refine below_set ?_ (IsS74.ge (Aside0.out (by assumption)))) | exact HB.out)) : p := h
theorem q5_ {p : Prop} (h : p := by repeat (first | exact Drawn0.refl _ | apply Drawn0.step)) : p := h
theorem q6_ {p : Prop} (h : p := by first | rfl | (simp [errW_none, errW_some] <;> rfl) | (simp [*, errW_none, errW_some] <;> rfl)) : p := h
theorem q7_ {p : Prop} (h : p := by repeat (first | (with_reducible first | exact HI0.out | apply IsS74.alloc | apply IsS74.drewN | apply IsS74.drew | apply IsS74.set_1 | apply IsS74.set_2 | refine IsS74.far ?_ (Aside0.out (by assumption)) _) | exact HI0.out)) : p := h
theorem q8_ {p : Prop} (h : p := by first | (with_reducible assumption) | assumption) : p := h
theorem q9_ {p : Prop} (h : p := by repeat (first | (with_reducible first | exact HI0.out | apply IsS74.alloc | apply IsS74.drewN | apply IsS74.drew | apply IsS74.set_1 | apply IsS74.set_2) | exact HI0.out)) : p := h
theorem q10_ {p : Prop} (h : p := by first | exact ⟨rfl, _, World.drewN_drewN _ _ _⟩ | exact ⟨rfl, _, Eq.trans (World.drewN_drewN _ _ _) (congrArg (World.drewN _) (Nat.add_assoc _ _ _))⟩) : p := h
theorem q11_ {p : Prop} (h : p := by first | (simp only [putAll, Act.put, List.setIfInBounds_toArray, List.set_cons_zero, List.set_cons_succ]; done) | (simp only [putAll, Act.put, List.setIfInBounds_toArray, List.set_cons_zero, List.set_cons_succ]; rfl)) : p := h
theorem q12_ {p : Prop} (h : p := by first | omega | exact Nat.le_refl _) : p := h
theorem q13_ {p : Prop} (h : p := by repeat (first | exact HR0.out | (with_reducible refine Kd.C_alloc ?_ _) | (with_reducible refine Kd.C_drewN ?_ _) | (with_reducible refine Kd.C_drew ?_))) : p := h
theorem q14_ {p : Prop} (h : p := by repeat (first | (with_reducible first | exact HI436.out | apply IsS74.alloc | apply IsS74.drewN | apply IsS74.drew | apply IsS74.set_1 | apply IsS74.set_2 | refine IsS74.far ?_ (Aside0.out (by assumption)) _) | exact HI436.out)) : p := h
theorem q15_ {p : Prop} (h : p := by repeat (first | (with_reducible first | exact HI382.out | apply IsS74.alloc | apply IsS74.drewN | apply IsS74.drew | apply IsS74.set_1 | apply IsS74.set_2) | exact HI382.out)) : p := h
theorem q16_ {p : Prop} (h : p := by first | (rw [hji5] at H; exact H) | (simp only [hji5] at H ⊢; exact H)) : p := h
theorem q17_ {p : Prop} (h : p := by repeat (first | (with_reducible first | exact HBW.out | apply below_alloc | apply pw_below_drewN | apply below_drew1) | exact HBW.out)) : p := h
theorem q18_ {p : Prop} (h : p := by repeat (first | exact (Kd.C_below HR0.out HB.out) | (with_reducible refine Kd.C_alloc ?_ _) | (with_reducible refine Kd.C_drewN ?_ _) | (with_reducible refine Kd.C_drew ?_))) : p := h
theorem q19_ {p : Prop} (h : p := by first | exact Kd.R_nil _ _ _ _ _ | exact Kd.N_nil _ _ _ _ _ | exact Kd.V_nil _ _ _ _ _ | exact Kd.Q_nil _ _ _ _ _ | exact Kd.S_nil _ _ _ _ _) : p := h
theorem A_ {P : Prop} (h : P) : Aside0 P := ⟨h⟩
theorem kr_ {p : Prop} (h : p := by kernel_rfl) : p := h
end Go.Proofs.YtfoopehlmnejaaaGreatDoor.Print
