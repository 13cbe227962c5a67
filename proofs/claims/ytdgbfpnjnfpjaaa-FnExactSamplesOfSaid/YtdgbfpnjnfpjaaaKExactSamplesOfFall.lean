/- Functions of the given program as plain Lean functions, with proofs that their calls compute them, or lemmas on these. Laid by a program of this repo for the seat Ytdgbfpnjnfpjaaa; Lean checks it. -/
import Derived.Test.YtdgbfpnjnfpjaaaKExactSamplesOf0
import Derived.Test.YtdgbfpnjnfpjaaaKExactSamplesOf1
import Derived.Test.YtdgbfpnjnfpjaaaKExactSamplesOf2
import Derived.Test.YtdgbfpnjnfpjaaaKExactSamplesOf3
import Derived.Test.YtdgbfpnjnfpjaaaM5
import Derived.Test.YtdgbfpnjnfpjaaaM0
import Derived.Test.YtdgbfpnjnfpjaaaM3
namespace Go.Proofs.Ytdgbfpnjnfpjaaa.Print
open Go.RowKit Go.Proofs.YtdgbfpnjnfpjaaaW.PrintWords Go.Proofs.YtdgbfpnjnfpjaaaW.PrintLast Go.Proofs.YtdgbfpnjnfpjaaaW.PrintMore
attribute [local go_sem] max2_int min2_int max_two min_two max_three min_three max_four min_four   -- for this text's walks alone
set_option linter.unusedVariables false
set_option linter.unusedSimpArgs false

/-! ### facts on laws_toIntS -/
--IMPORT M5
open Go.Proofs.Ytdgbfpnjnfpjaaa.M in
theorem laws_toIntS.ev (l : List Int) (h : l.length ≤ 1048576) : Ev (fun k => laws_toIntS.f k l) l := by
  have key : ∀ d i, i + d = l.length → Ev (fun k => laws_toIntS.l0 k l (fillAt id 0 l i) (i : Int)) (l.map id) := by
    refine Ev.count (fun k i => laws_toIntS.l0 k l (fillAt id 0 l i) (i : Int)) l.length _ ?_ ?_
    · intro i hi hn
      refine Ev.step (fun k => ?_) hn
      have hl := fillAt_length id 0 l (i := i) (by omega)
      simp only [laws_toIntS.l0]
      rw [if_pos (by omega), if_pos (by omega), if_pos (by rw [hl]; omega), w64 (by omega) (by omega), rd_nat, Int.toNat_natCast]
      have e := fillAt_set id 0 l 0 hi
      rw [← e]; rfl
    · refine Ev.end (fun k => ?_)
      simp only [laws_toIntS.l0]
      rw [if_neg (by omega), fillAt_all]
  have h0 := key l.length 0 (by omega)
  rw [fillAt_zero, List.map_id] at h0
  refine Ev.congr (fun k => ?_) h0
  unfold laws_toIntS.f
  rw [if_pos (by omega), if_pos (by simp; omega), Int.toNat_natCast]; rfl

/-! ### facts on laws_eqIntS -/
--IMPORT M5
open Go.Proofs.Ytdgbfpnjnfpjaaa.M in
theorem laws_eqIntS.ev (l : List Int) (h : l.length ≤ 1048576) : Ev (fun k => laws_eqIntS.f k l l) true := by
  have key : ∀ d i, i + d = l.length → Ev (fun k => laws_eqIntS.l0 k l l (i : Int)) true := by
    refine Ev.count (fun k i => laws_eqIntS.l0 k l l (i : Int)) l.length _ ?_ ?_
    · intro i hi hn
      refine Ev.step (fun k => ?_) hn
      simp only [laws_eqIntS.l0, if_true]
      rw [if_pos (by omega), if_pos (by omega), if_pos (by omega), w64 (by omega) (by omega)]; rfl
    · refine Ev.end (fun k => ?_)
      simp only [laws_eqIntS.l0]
      rw [if_neg (by omega)]
  refine Ev.congr (fun k => ?_) (key l.length 0 (by omega))
  unfold laws_eqIntS.f
  rw [if_pos rfl]; rfl

/-! ### facts on laws_markIntS -/
--IMPORT M5
open Go.Proofs.Ytdgbfpnjnfpjaaa.M in
theorem laws_markIntS.ev (l : List Int) (a : Int) (h : l.length ≤ 1048576) (ha : 0 ≤ a) (hb : a ≤ 1000000000000) : Ev (fun k => laws_markIntS.f k l a) (a + (l.length : Int), upTo a l.length) := by
  have key : ∀ d i, i + d = l.length → Ev (fun k => laws_markIntS.l0 k (upTo a i ++ l.drop i) (a + (i : Int)) (i : Int)) (a + (l.length : Int), upTo a l.length) := by
    refine Ev.count (fun k i => laws_markIntS.l0 k (upTo a i ++ l.drop i) (a + (i : Int)) (i : Int)) l.length _ ?_ ?_
    · intro i hi hn
      refine Ev.step (fun k => ?_) hn
      simp only [laws_markIntS.l0]
      rw [if_pos (by rw [upTo_len (by omega)]; omega), if_pos (by omega), Int.toNat_natCast, upTo_set hi, w64 (by omega) (by omega), w64 (by omega) (by omega)]
      congr 1; omega
    · refine Ev.end (fun k => ?_)
      simp only [laws_markIntS.l0]
      rw [upTo_all, if_neg (by rw [upTo_length]; omega)]
  have h0 := key l.length 0 (by omega)
  rw [upTo_zero] at h0
  refine Ev.congr (fun k => ?_) h0
  unfold laws_markIntS.f
  simp

/-! ### facts on spec_l1In -/
theorem spec_l1In.ev (a b c : Int) : spec_l1In.f a b c = some (decide (b ≤ a ∧ a ≤ c)) := by
  unfold spec_l1In.f
  by_cases h : b ≤ a
  · rw [if_pos h]; simp [h]
  · rw [if_neg h]; simp [h]

/-! ### facts on spec_IsTable -/
--IMPORT M0
open Go.Proofs.Ytdgbfpnjnfpjaaa.M in
theorem spec_IsTable.ev (a b : Int) : spec_IsTable.f a b = some (isT a b) := by
  unfold spec_IsTable.f isT
  rw [spec_l1In.ev]
  by_cases h : 0 ≤ a ∧ a ≤ 5
  · obtain ⟨n, rfl⟩ := nat_of h.1
    have hn : n ≤ 5 := by omega
    simp only [Option.bind_some, h, and_self, decide_true, if_true]
    rw [full_word hn, spec_l1In.ev]
    simp only [Option.bind_some, Int.toNat_natCast, h, true_and]
    congr 1
    apply decide_eq_decide.mpr
    omega
  · have h' : ¬ (0 ≤ a ∧ a ≤ 5 ∧ 0 ≤ b ∧ b < ((2 ^ 2 ^ a.toNat : Nat) : Int)) := fun e => h ⟨e.1, e.2.1⟩
    simp only [h, h', decide_false, Option.bind_some, Bool.false_eq_true, if_false]

/-! ### facts on spec_SamplesOf -/
--IMPORT M5
/-- a table's sample at an input -/
def spec_SamplesOf.samp (v : Nat) (x : Int) : S62 := ⟨x, (((v.testBit x.toNat).toNat : Nat) : Int)⟩
open Go.Proofs.Ytdgbfpnjnfpjaaa.M in
def spec_SamplesOf.okay (a b : Int) (l : List Int) : Bool := isT a b && (decide (l.length ≤ 40) && l.all (inR a.toNat))
def spec_SamplesOf.res (a b : Int) (l : List Int) : List S62 × Bool := if spec_SamplesOf.okay a b l = true then (l.map (spec_SamplesOf.samp b.toNat), true) else ([], false)
open Go.Proofs.Ytdgbfpnjnfpjaaa.M in
theorem spec_SamplesOf.ev (a b : Int) (l : List Int) : Ev (fun k => spec_SamplesOf.f k a b l) (spec_SamplesOf.res a b l) := by
  unfold spec_SamplesOf.res spec_SamplesOf.okay
  cases ht : isT a b with
  | false =>
    refine Ev.congr (f := fun k => spec_SamplesOf.j0 k l [] true a b) (fun k => ?_) (Ev.end (fun k => by simp only [spec_SamplesOf.j0, if_true, Bool.false_and, Bool.false_eq_true, if_false]))
    unfold spec_SamplesOf.f
    rw [spec_IsTable.ev, ht]; rfl
  | true =>
    obtain ⟨n, v, rfl, rfl, hn, hv⟩ := isT_nat ht
    have h32 := full_lt hn
    have h5 := pow_le_5 hn
    have h1 := Nat.two_pow_pos n
    rw [Bool.true_and, Int.toNat_natCast, Int.toNat_natCast]
    by_cases h40 : l.length ≤ 40
    · rw [decide_eq_true h40, Bool.true_and]
      have step : ∀ i, i < l.length → ∀ o : List S62, o.length ≤ 1000 → ∀ q, inR n (l.getD i 0) = q → ∀ k, spec_SamplesOf.l0 (k + 1) l o (i : Int) (n : Int) (v : Int) = if q = true then spec_SamplesOf.l0 k l (o ++ [spec_SamplesOf.samp v (l.getD i 0)]) ((i + 1 : Nat) : Int) (n : Int) (v : Int) else some ([], false) := by
        intro i hi o ho q hq k
        simp only [spec_SamplesOf.l0]
        rw [if_pos (by omega), if_pos (by omega), if_pos (Int.natCast_nonneg n), shl_one (by omega), w64 (by omega) (by omega), spec_l1In.ev, rd_nat, up1 (by omega)]
        simp only [Option.bind_some]
        have e : decide (0 ≤ l.getD i 0 ∧ l.getD i 0 ≤ ((2 ^ n : Nat) : Int) - 1) = q := by rw [← hq]; unfold inR; exact decide_eq_decide.mpr (by omega)
        rw [e]
        cases q with
        | false => rfl
        | true =>
          obtain ⟨y, hy, hy2⟩ := inR_nat hq
          rw [if_pos rfl, if_pos rfl, hy, if_pos (Int.natCast_nonneg y), if_pos (by omega), bit_nat (by omega) (by omega)]
          unfold spec_SamplesOf.samp
          rw [Int.toNat_natCast]
      refine Ev.congr (f := fun k => spec_SamplesOf.j0 k l [] (decide ((l.length : Int) > 40)) n v) (fun k => ?_) (Ev.step (f := fun k => spec_SamplesOf.l0 k l [] 0 n v) (fun k => ?_) ?_)
      · unfold spec_SamplesOf.f
        rw [spec_IsTable.ev, ht]; rfl
      · simp only [spec_SamplesOf.j0]
        rw [decide_eq_false (by omega), if_neg (by decide)]
      · cases ha : l.all (inR n) with
        | true =>
          have key : ∀ d i, i + d = l.length → Ev (fun k => spec_SamplesOf.l0 k l ((l.take i).map (spec_SamplesOf.samp v)) (i : Int) n v) (l.map (spec_SamplesOf.samp v), true) := by
            refine Ev.count (fun k i => spec_SamplesOf.l0 k l ((l.take i).map (spec_SamplesOf.samp v)) (i : Int) n v) l.length _ ?_ ?_
            · intro i hi h
              refine Ev.step (fun k => ?_) h
              rw [step i hi _ (by simp; omega) true (all_true_at ha hi) k, if_pos rfl, take_more l 0 hi, List.map_append]; rfl
            · refine Ev.end (fun k => ?_)
              simp only [spec_SamplesOf.l0]
              rw [if_neg (by omega), List.take_length]
          exact key l.length 0 (by omega)
        | false =>
          obtain ⟨j, hj, hf⟩ := all_false_at ha
          exact Ev.bad (fun k i => spec_SamplesOf.l0 k l ((l.take i).map (spec_SamplesOf.samp v)) (i : Int) n v) l.length ([], false) (fun i => inR n (l.getD i 0))
            (fun i hi h he => Ev.step (fun k => by rw [step i hi _ (by simp; omega) true h k, if_pos rfl, take_more l 0 hi, List.map_append]; rfl) he)
            (fun i hi h => Ev.end (fun k => by rw [step i hi _ (by simp; omega) false h k]; rfl)) l.length 0 (by omega) ⟨j, by omega, hj, hf⟩
    · rw [decide_eq_false h40, Bool.false_and]
      refine Ev.congr (f := fun k => spec_SamplesOf.j0 k l [] (decide ((l.length : Int) > 40)) n v) (fun k => ?_) (Ev.end (fun k => ?_))
      · unfold spec_SamplesOf.f
        rw [spec_IsTable.ev, ht]; rfl
      · simp only [spec_SamplesOf.j0]
        rw [decide_eq_true (by omega), if_pos rfl]; rfl

/-! ### facts on impl_isBits -/
theorem impl_isBits.ev (a : Int) : impl_isBits.f a = some (decide (0 ≤ a ∧ a ≤ 5)) := by
  unfold impl_isBits.f
  by_cases h : 0 ≤ a
  · rw [if_pos h]; simp [h]
  · rw [if_neg h]; simp [h]

/-! ### facts on impl_IsTable -/
--IMPORT M0
open Go.Proofs.Ytdgbfpnjnfpjaaa.M in
theorem impl_IsTable.ev (a b : Int) : impl_IsTable.f a b = some (isT a b) := by
  unfold impl_IsTable.f isT
  rw [impl_isBits.ev]
  by_cases h : 0 ≤ a ∧ a ≤ 5
  · obtain ⟨n, rfl⟩ := nat_of h.1
    have hn : n ≤ 5 := by omega
    simp only [Option.bind_some, h, and_self, decide_true, if_true]
    by_cases hb : b ≥ 0
    · obtain ⟨v, rfl⟩ := nat_of hb
      have h5 := pow_le_5 hn
      rw [if_pos hb]
      unfold impl_Table_size.f
      rw [if_pos (Int.natCast_nonneg n), shl_one (by omega)]
      simp only [Option.bind_some]
      rw [if_pos (Int.natCast_nonneg _), shr_nat (by omega)]
      congr 1
      rw [Bool.eq_iff_iff]
      simp only [beq_iff_eq, decide_eq_true_eq, Int.toNat_natCast]
      have hz : v / 2 ^ 2 ^ n = 0 ↔ v < 2 ^ 2 ^ n := Nat.div_eq_zero_iff_lt (Nat.two_pow_pos _)
      rw [show (((v / 2 ^ 2 ^ n : Nat) : Int) = 0 ↔ v / 2 ^ 2 ^ n = 0) from by omega, hz]
      obtain ⟨P, hP⟩ : ∃ P, P = 2 ^ 2 ^ n := ⟨_, rfl⟩
      rw [← hP]
      simp only [h, true_and]
      omega
    · rw [if_neg hb]
      congr 1
      symm
      apply decide_eq_false
      omega
  · have h' : ¬ (0 ≤ a ∧ a ≤ 5 ∧ 0 ≤ b ∧ b < ((2 ^ 2 ^ a.toNat : Nat) : Int)) := fun e => h ⟨e.1, e.2.1⟩
    simp only [h, h', decide_false, Option.bind_some, Bool.false_eq_true, if_false]

/-! ### facts on impl_SamplesOf -/
--IMPORT M5
open Go.Proofs.Ytdgbfpnjnfpjaaa.M in
theorem impl_SamplesOf.ev (a b : Int) (l : List Int) : Ev (fun k => impl_SamplesOf.f k a b l) (spec_SamplesOf.res a b l) := by
  unfold spec_SamplesOf.res spec_SamplesOf.okay
  cases ht : isT a b with
  | false =>
    refine Ev.congr (f := fun k => impl_SamplesOf.j0 k l true a b) (fun k => ?_) (Ev.end (fun k => by simp only [impl_SamplesOf.j0, if_true, Bool.false_and, Bool.false_eq_true, if_false]))
    unfold impl_SamplesOf.f
    rw [impl_IsTable.ev, ht]; rfl
  | true =>
    obtain ⟨n, v, rfl, rfl, hn, hv⟩ := isT_nat ht
    have h32 := full_lt hn
    have h5 := pow_le_5 hn
    have h1 := Nat.two_pow_pos n
    rw [Bool.true_and, Int.toNat_natCast, Int.toNat_natCast]
    by_cases h40 : l.length ≤ 40
    · rw [decide_eq_true h40, Bool.true_and]
      have inp : ∀ c : Int, impl_isInput.f (n : Int) c = some (inR n c) := fun c => by
        unfold impl_isInput.f inR
        by_cases h : c ≥ 0
        · rw [if_pos h, if_pos (Int.natCast_nonneg n), shl_one (by omega)]
          congr 1
          apply decide_eq_decide.mpr
          omega
        · rw [if_neg h]
          congr 1; symm
          apply decide_eq_false; omega
      have step : ∀ i, i < l.length → ∀ q, inR n (l.getD i 0) = q → ∀ k, impl_SamplesOf.l0 (k + 1) (fillAt (spec_SamplesOf.samp v) z62 l i) l (l.length : Int) (i : Int) (n : Int) (v : Int) = if q = true then impl_SamplesOf.l0 k (fillAt (spec_SamplesOf.samp v) z62 l (i + 1)) l (l.length : Int) ((i + 1 : Nat) : Int) (n : Int) (v : Int) else some ([], false) := by
        intro i hi q hq k
        have hlen := fillAt_length (spec_SamplesOf.samp v) z62 l (i := i) (by omega)
        simp only [impl_SamplesOf.l0]
        rw [if_pos (by omega), if_pos (by omega), if_pos (by omega), rd_nat, inp, hq, up1 (by omega)]
        simp only [Option.bind_some]
        cases q with
        | false => rfl
        | true =>
          obtain ⟨y, hy, hy2⟩ := inR_nat hq
          have e := fillAt_set (spec_SamplesOf.samp v) z62 l 0 hi
          rw [hy] at e
          unfold spec_SamplesOf.samp at e
          rw [Int.toNat_natCast] at e
          rw [if_pos rfl, if_pos rfl, hy]
          unfold impl_Table_at.f
          rw [if_pos (Int.natCast_nonneg y), bit_nat (by omega) (by omega), Option.bind_some, if_pos (by rw [hlen]; omega), Int.toNat_natCast]
          unfold spec_SamplesOf.samp
          rw [e]
      refine Ev.congr (f := fun k => impl_SamplesOf.j0 k l (decide ((l.length : Int) > 40)) n v) (fun k => ?_) (Ev.step (f := fun k => impl_SamplesOf.l0 k (List.replicate l.length z62) l (l.length : Int) 0 n v) (fun k => ?_) ?_)
      · unfold impl_SamplesOf.f
        rw [impl_IsTable.ev, ht]; rfl
      · simp only [impl_SamplesOf.j0]
        rw [decide_eq_false (by omega), if_neg (by decide), if_pos (by omega), if_pos (by rw [Int.toNat_natCast]; omega), Int.toNat_natCast]
      · rw [← fillAt_zero (spec_SamplesOf.samp v)]
        cases ha : l.all (inR n) with
        | true =>
          have key : ∀ d i, i + d = l.length → Ev (fun k => impl_SamplesOf.l0 k (fillAt (spec_SamplesOf.samp v) z62 l i) l (l.length : Int) (i : Int) n v) (l.map (spec_SamplesOf.samp v), true) := by
            refine Ev.count (fun k i => impl_SamplesOf.l0 k (fillAt (spec_SamplesOf.samp v) z62 l i) l (l.length : Int) (i : Int) n v) l.length _ ?_ ?_
            · intro i hi h
              exact Ev.step (fun k => by rw [step i hi true (all_true_at ha hi) k, if_pos rfl]) h
            · refine Ev.end (fun k => ?_)
              simp only [impl_SamplesOf.l0]
              rw [if_neg (by omega), fillAt_all]
          exact key l.length 0 (by omega)
        | false =>
          obtain ⟨j, hj, hf⟩ := all_false_at ha
          exact Ev.bad (fun k i => impl_SamplesOf.l0 k (fillAt (spec_SamplesOf.samp v) z62 l i) l (l.length : Int) (i : Int) n v) l.length ([], false) (fun i => inR n (l.getD i 0))
            (fun i hi h he => Ev.step (fun k => by rw [step i hi true h k, if_pos rfl]) he)
            (fun i hi h => Ev.end (fun k => by rw [step i hi false h k]; rfl)) l.length 0 (by omega) ⟨j, by omega, hj, hf⟩
    · rw [decide_eq_false h40, Bool.false_and]
      refine Ev.congr (f := fun k => impl_SamplesOf.j0 k l (decide ((l.length : Int) > 40)) n v) (fun k => ?_) (Ev.end (fun k => ?_))
      · unfold impl_SamplesOf.f
        rw [impl_IsTable.ev, ht]; rfl
      · simp only [impl_SamplesOf.j0]
        rw [decide_eq_true (by omega), if_pos rfl]; rfl

/-! ### facts on laws_eqSampleS -/
--IMPORT M3
open Go.Proofs.Ytdgbfpnjnfpjaaa.M in
theorem laws_eqSampleS.ev (l : List S62) (h : l.length ≤ 1048576) : Ev (fun k => laws_eqSampleS.f k l l) true := by
  have key : ∀ d i, i + d = l.length → Ev (fun k => laws_eqSampleS.l0 k l l (i : Int)) true := by
    refine Ev.count (fun k i => laws_eqSampleS.l0 k l l (i : Int)) l.length _ ?_ ?_
    · intro i hi hn
      refine Ev.step (fun k => ?_) hn
      simp only [laws_eqSampleS.l0, laws_eqSample.f, if_true, Option.bind_some]
      rw [if_pos (by omega), if_pos (by omega), if_pos (by omega), w64 (by omega) (by omega)]; rfl
    · refine Ev.end (fun k => ?_)
      simp only [laws_eqSampleS.l0]
      rw [if_neg (by omega)]
  refine Ev.congr (fun k => ?_) (key l.length 0 (by omega))
  unfold laws_eqSampleS.f
  rw [if_pos rfl]; rfl

/-! ### facts on laws_markSampleS -/
--IMPORT M5
/-- samples with a, a + 1, a + 2, .. in their fields -/
def laws_markSampleS.up (a : Int) (n : Nat) : List S62 := (List.range n).map (fun j : Nat => (⟨a + 2 * (j : Int), a + 2 * (j : Int) + 1⟩ : S62))
theorem laws_markSampleS.up_length (a : Int) (n : Nat) : (laws_markSampleS.up a n).length = n := by simp [laws_markSampleS.up]
theorem laws_markSampleS.up_rd {a : Int} {n i : Nat} (h : i < n) : rd_T62 (laws_markSampleS.up a n) (i : Int) = ⟨a + 2 * (i : Int), a + 2 * (i : Int) + 1⟩ := by simp [rd_T62, laws_markSampleS.up, List.getD_eq_getElem?_getD, h]
theorem laws_markSampleS.up_set {a : Int} {l : List S62} {i : Nat} (h : i < l.length) : (laws_markSampleS.up a i ++ l.drop i).set i ⟨a + 2 * (i : Int), a + 2 * (i : Int) + 1⟩ = laws_markSampleS.up a (i + 1) ++ l.drop (i + 1) := by
  apply List.ext_getElem?
  intro j
  rw [List.getElem?_set]
  by_cases hj : i = j
  · subst hj
    rw [if_pos rfl, if_pos (by simp [laws_markSampleS.up_length]; omega), List.getElem?_append_left (by rw [laws_markSampleS.up_length]; omega)]
    simp [laws_markSampleS.up]
  · rw [if_neg hj]
    by_cases h2 : j < i
    · rw [List.getElem?_append_left (by rw [laws_markSampleS.up_length]; omega), List.getElem?_append_left (by rw [laws_markSampleS.up_length]; omega)]
      simp [laws_markSampleS.up, h2, show j < i + 1 by omega]
    · rw [List.getElem?_append_right (by rw [laws_markSampleS.up_length]; omega), List.getElem?_append_right (by rw [laws_markSampleS.up_length]; omega), laws_markSampleS.up_length, laws_markSampleS.up_length, List.getElem?_drop, List.getElem?_drop]
      congr 1; omega
open Go.Proofs.Ytdgbfpnjnfpjaaa.M in
theorem laws_markSampleS.ev (l : List S62) (h : l.length ≤ 1048576) : Ev (fun k => laws_markSampleS.f k l 1) (1 + 2 * (l.length : Int), laws_markSampleS.up 1 l.length) := by
  have key : ∀ d i, i + d = l.length → Ev (fun k => laws_markSampleS.l0 k (laws_markSampleS.up 1 i ++ l.drop i) (1 + 2 * (i : Int)) (i : Int)) (1 + 2 * (l.length : Int), laws_markSampleS.up 1 l.length) := by
    refine Ev.count (fun k i => laws_markSampleS.l0 k (laws_markSampleS.up 1 i ++ l.drop i) (1 + 2 * (i : Int)) (i : Int)) l.length _ ?_ ?_
    · intro i hi hn
      have hlen : (laws_markSampleS.up 1 i ++ l.drop i).length = l.length := by simp [laws_markSampleS.up_length]; omega
      refine Ev.step (fun k => ?_) hn
      simp only [laws_markSampleS.l0, Option.bind_some]
      rw [if_pos (by rw [hlen]; omega), if_pos (by omega), Int.toNat_natCast, List.set_set, w64 (by omega) (by omega), w64 (by omega) (by omega), w64 (by omega) (by omega)]
      have e0 : (rd_T62 ((laws_markSampleS.up 1 i ++ l.drop i).set i ⟨1 + 2 * (i : Int), (rd_T62 (laws_markSampleS.up 1 i ++ l.drop i) (i : Int)).f1⟩) (i : Int)).f0 = 1 + 2 * (i : Int) := by
        simp [rd_T62, List.getD_eq_getElem?_getD, hlen, hi]
      rw [e0, laws_markSampleS.up_set hi]
      congr 1 <;> omega
    · refine Ev.end (fun k => ?_)
      simp only [laws_markSampleS.l0]
      rw [if_neg (by simp [laws_markSampleS.up_length])]
      simp
  have h0 := key l.length 0 (by omega)
  rw [show laws_markSampleS.up 1 0 ++ l.drop 0 = l from by simp [laws_markSampleS.up]] at h0
  refine Ev.congr (fun k => ?_) h0
  unfold laws_markSampleS.f
  rfl

/-! ### facts on laws_heldSampleS -/
--IMPORT M5
open Go.Proofs.Ytdgbfpnjnfpjaaa.M in
theorem laws_heldSampleS.ev (n : Nat) (h : n ≤ 1048576) : Ev (fun k => laws_heldSampleS.f k (laws_markSampleS.up 1 n) 1) (1 + 2 * (n : Int)) := by
  have key : ∀ d i, i + d = n → Ev (fun k => laws_heldSampleS.l0 k (laws_markSampleS.up 1 n) (1 + 2 * (i : Int)) (i : Int)) (1 + 2 * (n : Int)) := by
    refine Ev.count (fun k i => laws_heldSampleS.l0 k (laws_markSampleS.up 1 n) (1 + 2 * (i : Int)) (i : Int)) n _ ?_ ?_
    · intro i hi hn
      refine Ev.step (fun k => ?_) hn
      simp only [laws_heldSampleS.l0]
      rw [if_pos (by rw [laws_markSampleS.up_length]; omega), if_pos (by omega), laws_markSampleS.up_rd hi, if_pos rfl, w64 (by omega) (by omega), if_pos rfl, w64 (by omega) (by omega), w64 (by omega) (by omega)]
      congr 1 <;> omega
    · refine Ev.end (fun k => ?_)
      simp only [laws_heldSampleS.l0]
      rw [if_neg (by rw [laws_markSampleS.up_length]; omega)]
  refine Ev.congr (fun k => ?_) (key n 0 (by omega))
  unfold laws_heldSampleS.f
  rfl

/-! ### facts on laws_FnExactSamplesOf -/
--IMPORT M5
open Go.Proofs.Ytdgbfpnjnfpjaaa.M in
theorem laws_FnExactSamplesOf.pure_ : laws_FnExactSamplesOf.Pure := by
  intro a b l _ _ _ _ _
  by_cases hl : l.length ≤ 1048576
  · obtain ⟨K1, h1⟩ : ∃ K, ∀ k, K ≤ k → laws_toIntS.f k l = some l := laws_toIntS.ev l hl
    obtain ⟨K3, h3⟩ : ∃ K, ∀ k, K ≤ k → laws_eqIntS.f k l l = some true := laws_eqIntS.ev l hl
    have hr : (spec_SamplesOf.res a b l).1.length ≤ 1048576 := by
      unfold spec_SamplesOf.res; split
      · rw [List.length_map]; exact hl
      · simp
    have hs := spec_SamplesOf.ev a b l
    have hi := impl_SamplesOf.ev a b l
    generalize spec_SamplesOf.res a b l = rb at hs hi hr
    obtain ⟨r, q⟩ := rb
    simp only [] at hr
    obtain ⟨K5, h5⟩ : ∃ K, ∀ k, K ≤ k → spec_SamplesOf.f k a b l = some (r, q) := hs
    obtain ⟨K6, h6⟩ : ∃ K, ∀ k, K ≤ k → impl_SamplesOf.f k a b l = some (r, q) := hi
    obtain ⟨K7, h7⟩ : ∃ K, ∀ k, K ≤ k → laws_eqSampleS.f k r r = some true := laws_eqSampleS.ev r hr
    obtain ⟨K8, h8⟩ : ∃ K, ∀ k, K ≤ k → laws_markIntS.f k l 1 = some (1 + (l.length : Int), upTo 1 l.length) := laws_markIntS.ev l 1 hl (by decide) (by decide)
    obtain ⟨K10, h10⟩ : ∃ K, ∀ k, K ≤ k → laws_markSampleS.f k r 1 = some (1 + 2 * (r.length : Int), laws_markSampleS.up 1 r.length) := laws_markSampleS.ev r hr
    obtain ⟨K11, h11⟩ : ∃ K, ∀ k, K ≤ k → laws_heldSampleS.f k (laws_markSampleS.up 1 r.length) 1 = some (1 + 2 * (r.length : Int)) := laws_heldSampleS.ev r.length hr
    have n1 : ¬ ((l.length : Int) > 1048576) := by omega
    have n3 : ¬ (1 + (l.length : Int) < 0) := by omega
    have n4 : ¬ (1 + 2 * (r.length : Int) < 0) := by omega
    refine ⟨K1 + K3 + K5 + K6 + K7 + K8 + K10 + K11 + 3, ?_⟩
    simp (disch := omega) only [laws_FnExactSamplesOf.f, laws_toTable.f, h1, h3, h5, h6, h7, h8, h10, h11, n1, n3, n4, ↓reduceIte, Option.bind_some, bne_self_eq_false, Bool.false_eq_true]
    simp (disch := omega) only [laws_FnExactSamplesOf.j0, laws_toTable.f, h1, h3, h5, h6, h7, h8, h10, h11, n1, n3, n4, ↓reduceIte, Option.bind_some, bne_self_eq_false, Bool.false_eq_true]
    simp (disch := omega) only [laws_FnExactSamplesOf.j1, laws_toTable.f, h1, h3, h5, h6, h7, h8, h10, h11, n1, n3, n4, ↓reduceIte, Option.bind_some, bne_self_eq_false, Bool.false_eq_true]
    simp (disch := omega) only [laws_FnExactSamplesOf.j2, laws_toTable.f, h1, h3, h5, h6, h7, h8, h10, h11, n1, n3, n4, ↓reduceIte, Option.bind_some, bne_self_eq_false, Bool.false_eq_true]
  · exact ⟨0, by unfold laws_FnExactSamplesOf.f; rw [if_pos (by omega)]⟩

end Go.Proofs.Ytdgbfpnjnfpjaaa.Print
