/- Functions of the given program as plain Lean functions, with proofs that their calls compute them, or lemmas on these. Laid by a program of this repo for the seat Ytdgbfpnjnfpjaaa; Lean checks it. -/
import Derived.Test.YtdgbfpnjnfpjaaaKExactSpectrumProfile0
import Derived.Test.YtdgbfpnjnfpjaaaKExactSpectrumProfile1
import Derived.Test.YtdgbfpnjnfpjaaaKExactSpectrumProfile2
import Derived.Test.YtdgbfpnjnfpjaaaM5
import Derived.Test.YtdgbfpnjnfpjaaaM0
import Derived.Test.YtdgbfpnjnfpjaaaM1
import Derived.Test.YtdgbfpnjnfpjaaaM8
namespace Go.Proofs.Ytdgbfpnjnfpjaaa.Print
open Go.RowKit Go.Proofs.YtdgbfpnjnfpjaaaW.PrintWords Go.Proofs.YtdgbfpnjnfpjaaaW.PrintLast Go.Proofs.YtdgbfpnjnfpjaaaW.PrintMore
attribute [local go_sem] max2_int min2_int max_two min_two max_three min_three max_four min_four   -- for this text's walks alone
set_option linter.unusedVariables false
set_option linter.unusedSimpArgs false

/-! ### facts on laws_eqIntS -/
--IMPORT M5
open Go.Proofs.Ytdgbfpnjnfpjaaa.M in
theorem laws_eqIntS.ev (l : List Int) (h : l.length ≤ 1048576) : Ev (fun k => laws_eqIntS.f k l l) true := by
  have key : ∀ d i, i + d = l.length → Ev (fun k => laws_eqIntS.l0 k l l (i : Int)) true := by
    refine Ev.count (fun k i => laws_eqIntS.l0 k l l (i : Int)) l.length _ ?_ ?_
    · intro i hi hn
      refine Ev.step (fun k => ?_) hn
      simp only [laws_eqIntS.l0, if_true]
      rw [if_pos (by omega), if_pos (by omega), if_pos (by omega), w64 (by omega) (by omega)]; rfl
    · refine Ev.end (fun k => ?_)
      simp only [laws_eqIntS.l0]
      rw [if_neg (by omega)]
  refine Ev.congr (fun k => ?_) (key l.length 0 (by omega))
  unfold laws_eqIntS.f
  rw [if_pos rfl]; rfl

/-! ### facts on laws_markIntS -/
--IMPORT M5
open Go.Proofs.Ytdgbfpnjnfpjaaa.M in
theorem laws_markIntS.ev (l : List Int) (a : Int) (h : l.length ≤ 1048576) (ha : 0 ≤ a) (hb : a ≤ 1000000000000) : Ev (fun k => laws_markIntS.f k l a) (a + (l.length : Int), upTo a l.length) := by
  have key : ∀ d i, i + d = l.length → Ev (fun k => laws_markIntS.l0 k (upTo a i ++ l.drop i) (a + (i : Int)) (i : Int)) (a + (l.length : Int), upTo a l.length) := by
    refine Ev.count (fun k i => laws_markIntS.l0 k (upTo a i ++ l.drop i) (a + (i : Int)) (i : Int)) l.length _ ?_ ?_
    · intro i hi hn
      refine Ev.step (fun k => ?_) hn
      simp only [laws_markIntS.l0]
      rw [if_pos (by rw [upTo_len (by omega)]; omega), if_pos (by omega), Int.toNat_natCast, upTo_set hi, w64 (by omega) (by omega), w64 (by omega) (by omega)]
      congr 1; omega
    · refine Ev.end (fun k => ?_)
      simp only [laws_markIntS.l0]
      rw [upTo_all, if_neg (by rw [upTo_length]; omega)]
  have h0 := key l.length 0 (by omega)
  rw [upTo_zero] at h0
  refine Ev.congr (fun k => ?_) h0
  unfold laws_markIntS.f
  simp

/-! ### facts on laws_heldIntS -/
--IMPORT M5
open Go.Proofs.Ytdgbfpnjnfpjaaa.M in
theorem laws_heldIntS.ev (n : Nat) (a : Int) (h : n ≤ 1048576) (ha : 0 ≤ a) (hb : a ≤ 1000000000000) : Ev (fun k => laws_heldIntS.f k (upTo a n) a) (a + (n : Int)) := by
  have key : ∀ d i, i + d = n → Ev (fun k => laws_heldIntS.l0 k (upTo a n) (a + (i : Int)) (i : Int)) (a + (n : Int)) := by
    refine Ev.count (fun k i => laws_heldIntS.l0 k (upTo a n) (a + (i : Int)) (i : Int)) n _ ?_ ?_
    · intro i hi hn
      refine Ev.step (fun k => ?_) hn
      simp only [laws_heldIntS.l0]
      rw [if_pos (by rw [upTo_length]; omega), if_pos (by omega), upTo_rd hi, if_pos rfl, w64 (by omega) (by omega), w64 (by omega) (by omega)]
      congr 1; omega
    · refine Ev.end (fun k => ?_)
      simp only [laws_heldIntS.l0]
      rw [if_neg (by rw [upTo_length]; omega)]
  refine Ev.congr (fun k => ?_) (key n 0 (by omega))
  unfold laws_heldIntS.f
  simp

/-! ### facts on spec_l1In -/
theorem spec_l1In.ev (a b c : Int) : spec_l1In.f a b c = some (decide (b ≤ a ∧ a ≤ c)) := by
  unfold spec_l1In.f
  by_cases h : b ≤ a
  · rw [if_pos h]; simp [h]
  · rw [if_neg h]; simp [h]

/-! ### facts on spec_IsTable -/
--IMPORT M0
open Go.Proofs.Ytdgbfpnjnfpjaaa.M in
theorem spec_IsTable.ev (a b : Int) : spec_IsTable.f a b = some (isT a b) := by
  unfold spec_IsTable.f isT
  rw [spec_l1In.ev]
  by_cases h : 0 ≤ a ∧ a ≤ 5
  · obtain ⟨n, rfl⟩ := nat_of h.1
    have hn : n ≤ 5 := by omega
    simp only [Option.bind_some, h, and_self, decide_true, if_true]
    rw [full_word hn, spec_l1In.ev]
    simp only [Option.bind_some, Int.toNat_natCast, h, true_and]
    congr 1
    apply decide_eq_decide.mpr
    omega
  · have h' : ¬ (0 ≤ a ∧ a ≤ 5 ∧ 0 ≤ b ∧ b < ((2 ^ 2 ^ a.toNat : Nat) : Int)) := fun e => h ⟨e.1, e.2.1⟩
    simp only [h, h', decide_false, Option.bind_some, Bool.false_eq_true, if_false]

/-! ### facts on spec_l2Count -/
--IMPORT M1
open Go.Proofs.Ytdgbfpnjnfpjaaa.M in
theorem spec_l2Count.loop : ∀ (d w acc : Nat), w < 2 ^ d → d ≤ 62 → acc + d ≤ 1000 → Ev (fun k => spec_l2Count.l0 k acc w) ((acc + cnt w.testBit d : Nat) : Int)
  | 0, w, acc, hw, _, ha => by
    obtain rfl : w = 0 := by omega
    refine Ev.end (fun k => ?_)
    simp only [spec_l2Count.l0]
    rw [if_neg (by omega)]; rfl
  | d + 1, w, acc, hw, hd, ha => by
    by_cases h0 : w = 0
    · subst h0
      refine Ev.end (fun k => ?_)
      simp only [spec_l2Count.l0]
      rw [if_neg (by omega), cnt_zero]; rfl
    · have h := spec_l2Count.loop d (w / 2) (acc + w % 2) (by rw [Nat.pow_succ] at hw; omega) (by omega) (by omega)
      rw [show acc + w % 2 + cnt (w / 2).testBit d = acc + cnt w.testBit (d + 1) by rw [cnt_half]; omega] at h
      refine Ev.step (fun k => ?_) h
      have hp := p63 (n := d + 1) hd
      simp only [spec_l2Count.l0]
      rw [if_pos (by omega)]
      have e1 : Go.bits .and .i64 (w : Int) 1 = ((w % 2 : Nat) : Int) := by
        rw [← Nat.and_one_is_mod]; exact and_nat (b := 1) (by omega) (by decide)
      rw [e1, w64 (by omega) (by omega)]
      congr 1
open Go.Proofs.Ytdgbfpnjnfpjaaa.M in
theorem spec_l2Count.ev {w : Nat} (h : w < 2 ^ 32) : Ev (fun k => spec_l2Count.f k w) ((pc w : Nat) : Int) := by
  have := spec_l2Count.loop 32 w 0 h (by omega) (by omega)
  rw [Nat.zero_add] at this
  exact this

/-! ### facts on spec_l12Sign -/
--IMPORT M8
open Go.Proofs.Ytdgbfpnjnfpjaaa.M in
theorem spec_l12Sign.ev {w : Nat} (h : w < 2 ^ 32) : Ev (fun k => spec_l12Sign.f k w) (sgn (pc w)) := by
  have hp := pc_le w
  refine Ev.congr (f := fun k => (spec_l2Count.f k w).bind fun t => if Int.tmod t 2 = 1 then some (-1) else some 1) (fun k => rfl) (Ev.bind (spec_l2Count.ev h) ?_)
  have e : Int.tmod ((pc w : Nat) : Int) 2 = ((pc w % 2 : Nat) : Int) := by rw [Int.tmod_eq_emod_of_nonneg (Int.natCast_nonneg _)]; rfl
  rw [e]
  unfold sgn
  by_cases hq : pc w % 2 = 1
  · rw [if_pos hq]; exact Ev.congr (fun k => if_pos (by omega)) (Ev.now _)
  · rw [if_neg hq]; exact Ev.congr (fun k => if_neg (by omega)) (Ev.now _)

/-! ### facts on spec_SpectrumOf -/
--IMPORT M8
open Go.Proofs.Ytdgbfpnjnfpjaaa.M in
theorem spec_SpectrumOf.evF {a b : Int} (ht : isT a b = false) : Ev (fun k => spec_SpectrumOf.f k a b) [] := by
  refine Ev.congr (f := fun k => spec_SpectrumOf.l0 k [] 0 a b) (fun k => rfl) (Ev.step (f := fun k => spec_SpectrumOf.j1 k [] 0 false a b) (fun k => ?_) (Ev.end (fun k => ?_)))
  · simp only [spec_SpectrumOf.l0]
    rw [spec_IsTable.ev, ht]; rfl
  · simp only [spec_SpectrumOf.j1]
    rw [if_neg (by decide)]
open Go.Proofs.Ytdgbfpnjnfpjaaa.M in
theorem spec_SpectrumOf.evT {n v : Nat} (hn : n ≤ 5) (hv : v < 2 ^ 2 ^ n) : Ev (fun k => spec_SpectrumOf.f k n v) (listZ (2 ^ n) (spZ n v)) := by
  have h32 := full_lt hn
  have h5 := pow_le_5 hn
  have ht := isT_mk hn hv
  have inner : ∀ u, u < 2 ^ n → ∀ (o : List Int) (r : List Int), o.length ≤ 1000 → Ev (fun k => spec_SpectrumOf.l0 k (o ++ [spZ n v u]) ((u + 1 : Nat) : Int) n v) r →
      ∀ d x, x + d = 2 ^ n → Ev (fun k => spec_SpectrumOf.l1 k o (u : Int) (sumZ (spT v u) x) (x : Int) n v) r := by
    intro u hu o r ho he
    refine Ev.count (fun k x => spec_SpectrumOf.l1 k o (u : Int) (sumZ (spT v u) x) (x : Int) n v) (2 ^ n) r ?_ ?_
    · intro x hx h
      have hb := sum_bound v u x
      have hs := sgn_bound ((v.testBit x).toNat + pc (u &&& x))
      have s1 := spec_l12Sign.ev (w := (v.testBit x).toNat) (Nat.lt_trans (toNat_lt _) (by decide))
      have s2 := spec_l12Sign.ev (w := u &&& x) (Nat.lt_of_le_of_lt Nat.and_le_left (by omega))
      refine Ev.step (f := fun k => (spec_l12Sign.f k (((v.testBit x).toNat : Nat) : Int)).bind fun s => (spec_l12Sign.f k ((u &&& x : Nat) : Int)).bind fun t => spec_SpectrumOf.l1 k o (u : Int) (wrap64 (sumZ (spT v u) x + wrap64 (s * t))) ((x + 1 : Nat) : Int) n v) (fun k => ?_) (Ev.bind s1 (Ev.bind s2 ?_))
      · simp only [spec_SpectrumOf.l1]
        rw [if_pos (Int.natCast_nonneg n), shl_one (by omega), if_pos (by omega), if_pos (Int.natCast_nonneg x), bit_nat (by omega) (by omega), and_nat (by omega) (by omega), up1 (by omega)]
      · rw [pc_bit, sgn_mul]
        have e1 : wrap64 (sgn ((v.testBit x).toNat + pc (u &&& x))) = sgn ((v.testBit x).toNat + pc (u &&& x)) := w64 (by omega) (by omega)
        have e2 : wrap64 (sumZ (spT v u) x + sgn ((v.testBit x).toNat + pc (u &&& x))) = sumZ (spT v u) (x + 1) := by rw [w64 (by omega) (by omega)]; rfl
        rw [e1, e2]; exact h
    · refine Ev.step (fun k => ?_) he
      simp only [spec_SpectrumOf.l1]
      rw [if_pos (Int.natCast_nonneg n), shl_one (by omega), if_neg (by omega), if_pos (by omega), up1 (by omega)]
      rfl
  have key : ∀ d u, u + d = 2 ^ n → Ev (fun k => spec_SpectrumOf.l0 k (listZ u (spZ n v)) (u : Int) n v) (listZ (2 ^ n) (spZ n v)) := by
    refine Ev.count (fun k u => spec_SpectrumOf.l0 k (listZ u (spZ n v)) (u : Int) n v) (2 ^ n) _ ?_ ?_
    · intro u hu h
      rw [← listZ_snoc] at h
      refine Ev.step (f := fun k => spec_SpectrumOf.j1 k (listZ u (spZ n v)) (u : Int) true n v) (fun k => ?_) (Ev.step (f := fun k => spec_SpectrumOf.l1 k (listZ u (spZ n v)) (u : Int) 0 0 n v) (fun k => ?_) (inner u hu _ _ (by rw [listZ_length]; omega) h (2 ^ n) 0 (by omega)))
      · simp only [spec_SpectrumOf.l0]
        rw [spec_IsTable.ev, ht, Option.bind_some, if_pos rfl, if_pos (Int.natCast_nonneg n), shl_one (by omega), decide_eq_true (by omega)]
      · simp only [spec_SpectrumOf.j1, if_true]
    · refine Ev.step (f := fun k => spec_SpectrumOf.j1 k (listZ (2 ^ n) (spZ n v)) ((2 ^ n : Nat) : Int) false n v) (fun k => ?_) (Ev.end (fun k => ?_))
      · simp only [spec_SpectrumOf.l0]
        rw [spec_IsTable.ev, ht, Option.bind_some, if_pos rfl, if_pos (Int.natCast_nonneg n), shl_one (by omega), decide_eq_false (by omega)]
      · simp only [spec_SpectrumOf.j1]
        rw [if_neg (by decide)]
  exact key (2 ^ n) 0 (by omega)

/-! ### facts on spec_SpectrumProfile -/
--IMPORT M8
open Go.Proofs.Ytdgbfpnjnfpjaaa.M in
theorem spec_SpectrumProfile.evF {a b : Int} (ht : isT a b = false) : Ev (fun k => spec_SpectrumProfile.f k a b) [] := by
  refine Ev.congr (f := fun k => (spec_SpectrumOf.f k a b).bind fun t => if (t.length : Int) = 0 then some [] else (if 0 ≤ wrap64 ((t.length : Int) + 1) then (if (wrap64 ((t.length : Int) + 1)).toNat ≤ 35184372088832 then spec_SpectrumProfile.l0 k t (List.replicate (wrap64 ((t.length : Int) + 1)).toNat 0) 0 else none) else none)) (fun k => rfl) (Ev.bind (spec_SpectrumOf.evF ht) (Ev.congr (fun k => if_pos rfl) (Ev.now _)))
open Go.Proofs.Ytdgbfpnjnfpjaaa.M in
theorem spec_SpectrumProfile.evT {n v : Nat} (hn : n ≤ 5) (hv : v < 2 ^ 2 ^ n) : Ev (fun k => spec_SpectrumProfile.f k n v) (listZ (2 ^ n + 1) (fun j => ((sizesN (spZ n v) (2 ^ n) j : Nat) : Int))) := by
  have h5 := pow_le_5 hn
  have h1 := Nat.two_pow_pos n
  have hs := spec_SpectrumOf.evT hn hv
  have hb := spZ_bound hn v
  refine Ev.congr (f := fun k => (spec_SpectrumOf.f k n v).bind fun t => if (t.length : Int) = 0 then some [] else (if 0 ≤ wrap64 ((t.length : Int) + 1) then (if (wrap64 ((t.length : Int) + 1)).toNat ≤ 35184372088832 then spec_SpectrumProfile.l0 k t (List.replicate (wrap64 ((t.length : Int) + 1)).toNat 0) 0 else none) else none)) (fun k => rfl) (Ev.bind hs ?_)
  have key : ∀ d i, i + d = 2 ^ n → Ev (fun k => spec_SpectrumProfile.l0 k (listZ (2 ^ n) (spZ n v)) (listZ (2 ^ n + 1) (fun j => ((sizesN (spZ n v) i j : Nat) : Int))) (i : Int)) (listZ (2 ^ n + 1) (fun j => ((sizesN (spZ n v) (2 ^ n) j : Nat) : Int))) := by
    refine Ev.count (fun k i => spec_SpectrumProfile.l0 k (listZ (2 ^ n) (spZ n v)) (listZ (2 ^ n + 1) (fun j => ((sizesN (spZ n v) i j : Nat) : Int))) (i : Int)) (2 ^ n) _ ?_ ?_
    · intro i hi h
      have hbi := hb i
      have hle := sizesN_le (spZ n v) i (spZ n v i).natAbs
      have hm := mx_abs (a := spZ n v i) (by omega) (by omega)
      refine Ev.step (fun k => ?_) h
      simp only [spec_SpectrumProfile.l0]
      rw [listZ_rd hi, hm, if_pos (by rw [listZ_length]; omega), if_pos (by omega), if_pos (by omega), if_pos (by rw [listZ_length]; omega), listZ_rd (by omega), Int.toNat_natCast, w64 (x := ((sizesN (spZ n v) i (spZ n v i).natAbs : Nat) : Int) + 1) (by omega) (by omega), prof_step (by omega), up1 (by omega)]
    · refine Ev.end (fun k => ?_)
      simp only [spec_SpectrumProfile.l0]
      rw [if_neg (by rw [listZ_length]; omega)]
  have h0 := key (2 ^ n) 0 (by omega)
  rw [listZ_zero (f := fun j => ((sizesN (spZ n v) 0 j : Nat) : Int)) (fun j _ => rfl)] at h0
  refine Ev.congr (fun k => ?_) h0
  have e : wrap64 (((listZ (2 ^ n) (spZ n v)).length : Int) + 1) = ((2 ^ n + 1 : Nat) : Int) := by rw [listZ_length, up1 (by omega)]
  rw [e, if_neg (by rw [listZ_length]; omega), if_pos (by omega), if_pos (by omega), Int.toNat_natCast]; rfl

/-! ### facts on impl_isBits -/
theorem impl_isBits.ev (a : Int) : impl_isBits.f a = some (decide (0 ≤ a ∧ a ≤ 5)) := by
  unfold impl_isBits.f
  by_cases h : 0 ≤ a
  · rw [if_pos h]; simp [h]
  · rw [if_neg h]; simp [h]

/-! ### facts on impl_IsTable -/
--IMPORT M0
open Go.Proofs.Ytdgbfpnjnfpjaaa.M in
theorem impl_IsTable.ev (a b : Int) : impl_IsTable.f a b = some (isT a b) := by
  unfold impl_IsTable.f isT
  rw [impl_isBits.ev]
  by_cases h : 0 ≤ a ∧ a ≤ 5
  · obtain ⟨n, rfl⟩ := nat_of h.1
    have hn : n ≤ 5 := by omega
    simp only [Option.bind_some, h, and_self, decide_true, if_true]
    by_cases hb : b ≥ 0
    · obtain ⟨v, rfl⟩ := nat_of hb
      have h5 := pow_le_5 hn
      rw [if_pos hb]
      unfold impl_Table_size.f
      rw [if_pos (Int.natCast_nonneg n), shl_one (by omega)]
      simp only [Option.bind_some]
      rw [if_pos (Int.natCast_nonneg _), shr_nat (by omega)]
      congr 1
      rw [Bool.eq_iff_iff]
      simp only [beq_iff_eq, decide_eq_true_eq, Int.toNat_natCast]
      have hz : v / 2 ^ 2 ^ n = 0 ↔ v < 2 ^ 2 ^ n := Nat.div_eq_zero_iff_lt (Nat.two_pow_pos _)
      rw [show (((v / 2 ^ 2 ^ n : Nat) : Int) = 0 ↔ v / 2 ^ 2 ^ n = 0) from by omega, hz]
      obtain ⟨P, hP⟩ : ∃ P, P = 2 ^ 2 ^ n := ⟨_, rfl⟩
      rw [← hP]
      simp only [h, true_and]
      omega
    · rw [if_neg hb]
      congr 1
      symm
      apply decide_eq_false
      omega
  · have h' : ¬ (0 ≤ a ∧ a ≤ 5 ∧ 0 ≤ b ∧ b < ((2 ^ 2 ^ a.toNat : Nat) : Int)) := fun e => h ⟨e.1, e.2.1⟩
    simp only [h, h', decide_false, Option.bind_some, Bool.false_eq_true, if_false]

/-! ### facts on impl_sign -/
--IMPORT M8
open Go.Proofs.Ytdgbfpnjnfpjaaa.M in
theorem impl_sign.ev {m : Nat} (h : m ≤ 1000) : impl_sign.f m = some (sgn m) := by
  unfold impl_sign.f
  have e1 : Go.bits .and .i64 (m : Int) 1 = ((m % 2 : Nat) : Int) := by
    rw [← Nat.and_one_is_mod]; exact and_nat (b := 1) (by omega) (by decide)
  rw [e1]
  have h2 : m % 2 < 2 := Nat.mod_lt _ (by decide)
  obtain ⟨q, hq⟩ : ∃ q, q = m % 2 := ⟨_, rfl⟩
  unfold sgn
  rw [← hq] at h2 ⊢
  rw [w64 (x := 2 * (q : Int)) (by omega) (by omega), w64 (by omega) (by omega)]
  obtain rfl | rfl : q = 0 ∨ q = 1 := by omega
  · rfl
  · rfl

/-! ### facts on impl_ones -/
--IMPORT M1
open Go.Proofs.Ytdgbfpnjnfpjaaa.M in
theorem bits_OnesCount64.ev {w : Nat} (h : w < 2 ^ 32) : bits_OnesCount64.f w = some ((pc w : Nat) : Int) := by
  unfold bits_OnesCount64.f
  rw [sA_eq h, sB_eq (sA_lt h), sC_eq (sB_lt (sA_lt h))]
  exact congrArg some (swar_end h rfl _ rfl)
open Go.Proofs.Ytdgbfpnjnfpjaaa.M in
theorem impl_ones.ev {w : Nat} (h : w < 2 ^ 32) : impl_ones.f w = some ((pc w : Nat) : Int) := by
  unfold impl_ones.f
  rw [u64n (by omega), bits_OnesCount64.ev h]; rfl

/-! ### facts on impl_Table_spectrum -/
--IMPORT M8
open Go.Proofs.Ytdgbfpnjnfpjaaa.M in
theorem impl_Table_spectrum.ev {n v : Nat} (hn : n ≤ 5) (hv : v < 2 ^ 2 ^ n) : Ev (fun k => impl_Table_spectrum.f k n v) (listZ (2 ^ n) (spZ n v)) := by
  have h32 := full_lt hn
  have h5 := pow_le_5 hn
  have hsz : impl_Table_size.f (n : Int) (v : Int) = some ((2 ^ n : Nat) : Int) := by
    unfold impl_Table_size.f
    rw [if_pos (Int.natCast_nonneg n), shl_one (by omega)]
  have inner : ∀ u, u < 2 ^ n → ∀ (r : List Int), Ev (fun k => impl_Table_spectrum.l0 k (listZ (2 ^ n) (fun j => if j < u + 1 then spZ n v j else 0)) ((2 ^ n : Nat) : Int) ((u + 1 : Nat) : Int) n v) r →
      ∀ d x, x + d = 2 ^ n → Ev (fun k => impl_Table_spectrum.l1 k (listZ (2 ^ n) (fun j => if j < u then spZ n v j else if j = u then sumZ (spT v u) x else 0)) (u : Int) ((2 ^ n : Nat) : Int) (u : Int) ((2 ^ n : Nat) : Int) (x : Int) n v) r := by
    intro u hu r he
    refine Ev.count (fun k x => impl_Table_spectrum.l1 k (listZ (2 ^ n) (fun j => if j < u then spZ n v j else if j = u then sumZ (spT v u) x else 0)) (u : Int) ((2 ^ n : Nat) : Int) (u : Int) ((2 ^ n : Nat) : Int) (x : Int) n v) (2 ^ n) r ?_ ?_
    · intro x hx h
      have hb := sum_bound v u x
      have hs := sgn_bound ((v.testBit x).toNat + pc (u &&& x))
      have hpc := pc_le (u &&& x)
      have htn := toNat_le (v.testBit x)
      refine Ev.step (fun k => ?_) h
      simp only [impl_Table_spectrum.l1]
      unfold impl_Table_at.f
      rw [if_pos (by omega), if_pos (by omega), if_pos (by rw [listZ_length]; omega), if_pos (Int.natCast_nonneg x), bit_nat (by omega) (by omega), Option.bind_some, and_nat (by omega) (by omega), impl_ones.ev (Nat.lt_of_le_of_lt Nat.and_le_left (by omega)), Option.bind_some,
        w64 (by omega) (by omega), show (((v.testBit x).toNat : Nat) : Int) + ((pc (u &&& x) : Nat) : Int) = (((v.testBit x).toNat + pc (u &&& x) : Nat) : Int) from by omega, impl_sign.ev (by omega), Option.bind_some, listZ_rd hu, if_neg (by omega), if_pos rfl, up1 (by omega), Int.toNat_natCast]
      rw [listZ_set (f' := fun j => if j < u then spZ n v j else if j = u then sumZ (spT v u) (x + 1) else 0) hu (by
        rw [if_neg (by omega), if_pos rfl, w64 (by omega) (by omega)]; rfl) (fun j hj hne => by
        by_cases h1 : j < u
        · rw [if_pos h1, if_pos h1]
        · rw [if_neg h1, if_neg h1, if_neg hne, if_neg hne])]
    · refine Ev.step (fun k => ?_) he
      simp only [impl_Table_spectrum.l1]
      rw [if_neg (by omega), up1 (by omega)]
      rw [listZ_congr (f' := fun j => if j < u + 1 then spZ n v j else 0) (fun j hj => by
        by_cases h1 : j < u
        · rw [if_pos h1, if_pos (by omega)]
        · rw [if_neg h1]
          by_cases h2 : j = u
          · rw [if_pos h2, if_pos (by omega), h2]; rfl
          · rw [if_neg h2, if_neg (by omega)])]
  have key : ∀ d u, u + d = 2 ^ n → Ev (fun k => impl_Table_spectrum.l0 k (listZ (2 ^ n) (fun j => if j < u then spZ n v j else 0)) ((2 ^ n : Nat) : Int) (u : Int) n v) (listZ (2 ^ n) (spZ n v)) := by
    refine Ev.count (fun k u => impl_Table_spectrum.l0 k (listZ (2 ^ n) (fun j => if j < u then spZ n v j else 0)) ((2 ^ n : Nat) : Int) (u : Int) n v) (2 ^ n) _ ?_ ?_
    · intro u hu h
      refine Ev.step (fun k => ?_) (inner u hu _ h (2 ^ n) 0 (by omega))
      simp only [impl_Table_spectrum.l0]
      rw [if_pos (by omega), hsz, Option.bind_some]
      rw [listZ_congr (f' := fun j => if j < u then spZ n v j else if j = u then sumZ (spT v u) 0 else 0) (fun j hj => by
        by_cases h1 : j < u
        · rw [if_pos h1, if_pos h1]
        · rw [if_neg h1, if_neg h1]
          by_cases h2 : j = u
          · rw [if_pos h2]; rfl
          · rw [if_neg h2])]
      rfl
    · refine Ev.end (fun k => ?_)
      simp only [impl_Table_spectrum.l0]
      rw [if_neg (by omega), listZ_congr (f' := spZ n v) (fun j hj => by rw [if_pos hj])]
  have h0 := key (2 ^ n) 0 (by omega)
  rw [listZ_zero (f := fun j => if j < 0 then spZ n v j else 0) (fun j _ => by rw [if_neg (by omega)])] at h0
  refine Ev.congr (fun k => ?_) h0
  unfold impl_Table_spectrum.f
  rw [hsz, Option.bind_some, if_pos (Int.natCast_nonneg _), if_pos (by rw [Int.toNat_natCast]; omega), Int.toNat_natCast, Option.bind_some, List.length_replicate]; rfl

/-! ### facts on impl_SpectrumProfile -/
--IMPORT M8
open Go.Proofs.Ytdgbfpnjnfpjaaa.M in
theorem impl_SpectrumProfile.evF {a b : Int} (ht : isT a b = false) : Ev (fun k => impl_SpectrumProfile.f k a b) [] := by
  refine Ev.of_some (fun k => ?_)
  unfold impl_SpectrumProfile.f
  rw [impl_IsTable.ev, ht]; rfl
open Go.Proofs.Ytdgbfpnjnfpjaaa.M in
theorem impl_SpectrumProfile.evT {n v : Nat} (hn : n ≤ 5) (hv : v < 2 ^ 2 ^ n) : Ev (fun k => impl_SpectrumProfile.f k n v) (listZ (2 ^ n + 1) (fun j => ((sizesN (spZ n v) (2 ^ n) j : Nat) : Int))) := by
  have h5 := pow_le_5 hn
  have h1 := Nat.two_pow_pos n
  have hs := impl_Table_spectrum.ev hn hv
  have hb := spZ_bound hn v
  have hsz : impl_Table_size.f (n : Int) (v : Int) = some ((2 ^ n : Nat) : Int) := by
    unfold impl_Table_size.f
    rw [if_pos (Int.natCast_nonneg n), shl_one (by omega)]
  have key : ∀ d i, i + d = 2 ^ n → Ev (fun k => impl_SpectrumProfile.l0 k (listZ (2 ^ n + 1) (fun j => ((sizesN (spZ n v) i j : Nat) : Int))) (listZ (2 ^ n) (spZ n v)) ((2 ^ n : Nat) : Int) (i : Int)) (listZ (2 ^ n + 1) (fun j => ((sizesN (spZ n v) (2 ^ n) j : Nat) : Int))) := by
    refine Ev.count (fun k i => impl_SpectrumProfile.l0 k (listZ (2 ^ n + 1) (fun j => ((sizesN (spZ n v) i j : Nat) : Int))) (listZ (2 ^ n) (spZ n v)) ((2 ^ n : Nat) : Int) (i : Int)) (2 ^ n) _ ?_ ?_
    · intro i hi h
      have hbi := hb i
      have hle := sizesN_le (spZ n v) i (spZ n v i).natAbs
      have hm := mx_abs (a := spZ n v i) (by omega) (by omega)
      refine Ev.step (fun k => ?_) h
      simp only [impl_SpectrumProfile.l0]
      unfold impl_size1.f
      rw [listZ_rd hi, hm, Option.bind_some, if_pos (by omega), if_pos (by omega), if_pos (by rw [listZ_length]; omega), if_pos (by omega), if_pos (by rw [listZ_length]; omega), listZ_rd (by omega), Int.toNat_natCast, w64 (x := ((sizesN (spZ n v) i (spZ n v i).natAbs : Nat) : Int) + 1) (by omega) (by omega), prof_step (by omega), up1 (by omega)]
    · refine Ev.end (fun k => ?_)
      simp only [impl_SpectrumProfile.l0]
      rw [if_neg (by omega)]
  have h0 := key (2 ^ n) 0 (by omega)
  rw [listZ_zero (f := fun j => ((sizesN (spZ n v) 0 j : Nat) : Int)) (fun j _ => rfl)] at h0
  refine Ev.congr (f := fun k => (impl_Table_spectrum.f k n v).bind fun t => impl_SpectrumProfile.l0 k (List.replicate (2 ^ n + 1) 0) t (t.length : Int) 0) (fun k => ?_) (Ev.bind hs ?_)
  · unfold impl_SpectrumProfile.f
    rw [impl_IsTable.ev, isT_mk hn hv, Option.bind_some, if_pos rfl, hsz, Option.bind_some, up1 (by omega), if_pos (by omega), if_pos (by rw [Int.toNat_natCast]; omega), Int.toNat_natCast]
  · rw [listZ_length]; exact h0

/-! ### facts on laws_FnExactSpectrumProfile -/
--IMPORT M8
open Go.Proofs.Ytdgbfpnjnfpjaaa.M in
theorem laws_FnExactSpectrumProfile.join {a b : Int} {r : List Int} (hr : r.length ≤ 1048576) (hs : Ev (fun k => spec_SpectrumProfile.f k a b) r) (hi : Ev (fun k => impl_SpectrumProfile.f k a b) r) : ∃ k, laws_FnExactSpectrumProfile.f k a b = some true := by
  obtain ⟨K5, h5⟩ : ∃ K, ∀ k, K ≤ k → spec_SpectrumProfile.f k a b = some r := hs
  obtain ⟨K6, h6⟩ : ∃ K, ∀ k, K ≤ k → impl_SpectrumProfile.f k a b = some r := hi
  obtain ⟨K7, h7⟩ : ∃ K, ∀ k, K ≤ k → laws_eqIntS.f k r r = some true := laws_eqIntS.ev r hr
  obtain ⟨K10, h10⟩ : ∃ K, ∀ k, K ≤ k → laws_markIntS.f k r 1 = some (1 + (r.length : Int), upTo 1 r.length) := laws_markIntS.ev r 1 hr (by decide) (by decide)
  obtain ⟨K11, h11⟩ : ∃ K, ∀ k, K ≤ k → laws_heldIntS.f k (upTo 1 r.length) 1 = some (1 + (r.length : Int)) := laws_heldIntS.ev r.length 1 hr (by decide) (by decide)
  have n4 : ¬ (1 + (r.length : Int) < 0) := by omega
  refine ⟨K5 + K6 + K7 + K10 + K11 + 3, ?_⟩
  simp (disch := omega) only [laws_FnExactSpectrumProfile.f, laws_toTable.f, h5, h6, h7, h10, h11, n4, ↓reduceIte, Option.bind_some, bne_self_eq_false, Bool.false_eq_true]
open Go.Proofs.Ytdgbfpnjnfpjaaa.M in
theorem laws_FnExactSpectrumProfile.pure_ : laws_FnExactSpectrumProfile.Pure := by
  intro a b _ _
  cases ht : isT a b with
  | false => exact laws_FnExactSpectrumProfile.join (by simp) (spec_SpectrumProfile.evF ht) (impl_SpectrumProfile.evF ht)
  | true =>
    obtain ⟨n, v, rfl, rfl, hn, hv⟩ := isT_nat ht
    have h5 := pow_le_5 hn
    exact laws_FnExactSpectrumProfile.join (by rw [listZ_length]; omega) (spec_SpectrumProfile.evT hn hv) (impl_SpectrumProfile.evT hn hv)

end Go.Proofs.Ytdgbfpnjnfpjaaa.Print
