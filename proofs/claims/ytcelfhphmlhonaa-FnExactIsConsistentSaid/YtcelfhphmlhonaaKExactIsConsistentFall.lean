/- Functions of the given program as plain Lean functions, with proofs that their calls compute them, or lemmas on these. Laid by a program of this repo for the seat Ytcelfhphmlhonaa; Lean checks it. -/
import Derived.Test.YtcelfhphmlhonaaKExactIsConsistent0
import Derived.Test.YtcelfhphmlhonaaKExactIsConsistent1
import Derived.Test.YtcelfhphmlhonaaKExactIsConsistent2
import Derived.Test.YtcelfhphmlhonaaKExactIsConsistent5
import Derived.Test.YtcelfhphmlhonaaKExactIsConsistent6
import Derived.Test.YtcelfhphmlhonaaM3
import Derived.Test.YtcelfhphmlhonaaM0
import Derived.Test.YtcelfhphmlhonaaM5
namespace Go.Proofs.Ytcelfhphmlhonaa.Print
open Go.RowKit Go.Proofs.YtcelfhphmlhonaaW.PrintWords Go.Proofs.YtcelfhphmlhonaaW.PrintLast Go.Proofs.YtcelfhphmlhonaaW.PrintMore
attribute [local go_sem] max2_int min2_int max_two min_two max_three min_three max_four min_four   -- for this text's walks alone
set_option linter.unusedVariables false
set_option linter.unusedSimpArgs false

/-! ### facts on laws_toSampleS -/
--IMPORT M3
/-- a sample of the laws' own type as one of the program's -/
def laws_toSampleS.conv (x : S84) : S82 := ⟨x.f0, x.f1⟩
open Go.Proofs.Ytcelfhphmlhonaa.M in
theorem laws_toSampleS.ev (l : List S84) (h : l.length ≤ 1048576) : Ev (fun k => laws_toSampleS.f k l) (l.map laws_toSampleS.conv) := by
  have key : ∀ d i, i + d = l.length → Ev (fun k => laws_toSampleS.l0 k l (fillAt laws_toSampleS.conv z82 l i) (i : Int)) (l.map laws_toSampleS.conv) := by
    refine Ev.count (fun k i => laws_toSampleS.l0 k l (fillAt laws_toSampleS.conv z82 l i) (i : Int)) l.length _ ?_ ?_
    · intro i hi hn
      refine Ev.step (fun k => ?_) hn
      have hl := fillAt_length laws_toSampleS.conv z82 l (i := i) (by omega)
      simp only [laws_toSampleS.l0, laws_toSample.f, Option.bind_some]
      rw [if_pos (by omega), if_pos (by omega), if_pos (by rw [hl]; omega), w64 (by omega) (by omega)]
      have e := fillAt_set laws_toSampleS.conv z82 l z84 hi
      have e2 : (⟨(rd_T84 l (i : Int)).f0, (rd_T84 l (i : Int)).f1⟩ : S82) = laws_toSampleS.conv (l.getD i z84) := by simp [rd_T84, laws_toSampleS.conv]
      rw [e2, Int.toNat_natCast, e]; rfl
    · refine Ev.end (fun k => ?_)
      simp only [laws_toSampleS.l0]
      rw [if_neg (by omega), fillAt_all]
  have h0 := key l.length 0 (by omega)
  rw [fillAt_zero] at h0
  refine Ev.congr (fun k => ?_) h0
  unfold laws_toSampleS.f
  rw [if_pos (by omega), if_pos (by simp; omega), Int.toNat_natCast]; rfl

/-! ### facts on laws_eqSampleS -/
--IMPORT M3
open Go.Proofs.Ytcelfhphmlhonaa.M in
theorem laws_eqSampleS.ev (l : List S82) (h : l.length ≤ 1048576) : Ev (fun k => laws_eqSampleS.f k l l) true := by
  have key : ∀ d i, i + d = l.length → Ev (fun k => laws_eqSampleS.l0 k l l (i : Int)) true := by
    refine Ev.count (fun k i => laws_eqSampleS.l0 k l l (i : Int)) l.length _ ?_ ?_
    · intro i hi hn
      refine Ev.step (fun k => ?_) hn
      simp only [laws_eqSampleS.l0, laws_eqSample.f, if_true, Option.bind_some]
      rw [if_pos (by omega), if_pos (by omega), if_pos (by omega), w64 (by omega) (by omega)]; rfl
    · refine Ev.end (fun k => ?_)
      simp only [laws_eqSampleS.l0]
      rw [if_neg (by omega)]
  refine Ev.congr (fun k => ?_) (key l.length 0 (by omega))
  unfold laws_eqSampleS.f
  rw [if_pos rfl]; rfl

/-! ### facts on spec_l1In -/
theorem spec_l1In.ev (a b c : Int) : spec_l1In.f a b c = some (decide (b ≤ a ∧ a ≤ c)) := by
  unfold spec_l1In.f
  by_cases h : b ≤ a
  · rw [if_pos h]; simp [h]
  · rw [if_neg h]; simp [h]

/-! ### facts on spec_IsTable -/
--IMPORT M0
open Go.Proofs.Ytcelfhphmlhonaa.M in
theorem spec_IsTable.ev (a b : Int) : spec_IsTable.f a b = some (isT a b) := by
  unfold spec_IsTable.f isT
  rw [spec_l1In.ev]
  by_cases h : 0 ≤ a ∧ a ≤ 5
  · obtain ⟨n, rfl⟩ := nat_of h.1
    have hn : n ≤ 5 := by omega
    simp only [Option.bind_some, h, and_self, decide_true, if_true]
    rw [full_word hn, spec_l1In.ev]
    simp only [Option.bind_some, Int.toNat_natCast, h, true_and]
    congr 1
    apply decide_eq_decide.mpr
    omega
  · have h' : ¬ (0 ≤ a ∧ a ≤ 5 ∧ 0 ≤ b ∧ b < ((2 ^ 2 ^ a.toNat : Nat) : Int)) := fun e => h ⟨e.1, e.2.1⟩
    simp only [h, h', decide_false, Option.bind_some, Bool.false_eq_true, if_false]

/-! ### facts on spec_IsSampleList -/
--IMPORT M3
open Go.Proofs.Ytcelfhphmlhonaa.M in
theorem spec_IsSampleList.ev (a : Int) (l : List S82) (r : Bool) (h : impl_IsSampleList.f a l = some r) : Ev (fun k => spec_IsSampleList.f k a l) r := by
  have hr := Option.some.inj h
  unfold spec_IsSampleList.f
  rw [spec_l1In.ev]
  by_cases ha : 0 ≤ a ∧ a ≤ 5
  · rw [decide_eq_true ha, Bool.true_and] at hr
    obtain ⟨n, rfl⟩ := nat_of ha.1
    have h5 := pow_le_5 (n := n) (by omega)
    simp only [decide_eq_true ha, Option.bind_some, if_true]
    by_cases h40 : l.length ≤ 40
    · rw [decide_eq_true h40, Bool.true_and] at hr
      have key : ∀ d i, i + d = l.length → Ev (fun k => spec_IsSampleList.l0 k n l (i : Int)) ((l.drop i).all (impl_IsSampleList.ok n)) := by
        intro d
        induction d with
        | zero =>
          intro i hi
          obtain rfl : i = l.length := by omega
          refine Ev.end (fun k => ?_)
          simp only [spec_IsSampleList.l0]
          rw [if_neg (by omega)]; simp
        | succ d ih =>
          intro i hi
          have hd : l.drop i = l.getD i z82 :: l.drop (i + 1) := by
            rw [List.drop_eq_getElem_cons (by omega)]
            simp [List.getD_eq_getElem?_getD, show i < l.length by omega]
          have hx : rd_T82 l (i : Int) = l.getD i z82 := by simp [rd_T82]
          rw [hd, List.all_cons]
          generalize l.getD i z82 = x at *
          have hpos := Nat.two_pow_pos n
          have es : wrap64 (shl .i64 1 (n : Int) - 1) = ((2 ^ n : Nat) : Int) - 1 := by rw [shl_one (by omega), w64 (by omega) (by omega)]
          have P1 : (0 ≤ x.f0 ∧ x.f0 ≤ ((2 ^ n : Nat) : Int) - 1) ↔ (0 ≤ x.f0 ∧ x.f0 < ((2 ^ n : Nat) : Int)) := by omega
          have P2 : (0 ≤ x.f1 ∧ x.f1 ≤ 1) ↔ (x.f1 = 0 ∨ x.f1 = 1) := by omega
          by_cases o1 : 0 ≤ x.f0 ∧ x.f0 < ((2 ^ n : Nat) : Int)
          · by_cases o2 : x.f1 = 0 ∨ x.f1 = 1
            · have ok : impl_IsSampleList.ok n x = true := by unfold impl_IsSampleList.ok; rw [Int.toNat_natCast, decide_eq_true o1, decide_eq_true o2]; rfl
              rw [ok, Bool.true_and]
              refine Ev.step (fun k => ?_) (ih (i + 1) (by omega))
              simp only [spec_IsSampleList.l0]
              rw [if_pos (by omega), if_pos (by omega), if_pos (Int.natCast_nonneg n), hx, es, spec_l1In.ev, spec_l1In.ev, decide_eq_true (P1.mpr o1), decide_eq_true (P2.mpr o2), Option.bind_some, if_pos rfl, Option.bind_some, if_pos rfl, w64 (by omega) (by omega)]; rfl
            · have ok : impl_IsSampleList.ok n x = false := by unfold impl_IsSampleList.ok; rw [decide_eq_false o2, Bool.and_false]
              rw [ok, Bool.false_and]
              refine Ev.end (fun k => ?_)
              simp only [spec_IsSampleList.l0]
              rw [if_pos (by omega), if_pos (by omega), if_pos (Int.natCast_nonneg n), hx, es, spec_l1In.ev, spec_l1In.ev, decide_eq_true (P1.mpr o1), decide_eq_false (fun e => o2 (P2.mp e)), Option.bind_some, if_pos rfl, Option.bind_some, if_neg (by decide)]
          · have ok : impl_IsSampleList.ok n x = false := by unfold impl_IsSampleList.ok; rw [Int.toNat_natCast, decide_eq_false o1, Bool.false_and]
            rw [ok, Bool.false_and]
            refine Ev.end (fun k => ?_)
            simp only [spec_IsSampleList.l0]
            rw [if_pos (by omega), if_pos (by omega), if_pos (Int.natCast_nonneg n), hx, es, spec_l1In.ev, decide_eq_false (fun e => o1 (P1.mp e)), Option.bind_some, if_neg (by decide)]
      have h0 := key l.length 0 (by omega)
      rw [List.drop_zero, hr] at h0
      refine Ev.step (fun k => ?_) h0
      simp only [spec_IsSampleList.j0]
      rw [if_neg (by simp; omega)]; rfl
    · rw [decide_eq_false h40] at hr
      subst hr
      refine Ev.end (fun k => ?_)
      simp only [spec_IsSampleList.j0]
      rw [if_pos (by simp; omega)]; rfl
  · rw [decide_eq_false ha] at hr
    subst hr
    simp only [decide_eq_false ha, Option.bind_some]
    refine Ev.end (fun k => ?_)
    rw [if_neg (by decide)]
    simp only [spec_IsSampleList.j0, if_true]; rfl

/-! ### facts on spec_ErrorsOf -/
--IMPORT M5
/-- is a table's value at a sample another one -/
def spec_ErrorsOf.errB (v : Nat) (l : List S82) (j : Nat) : Bool := decide ((((v.testBit (l.getD j z82).f0.toNat).toNat : Nat) : Int) ≠ (l.getD j z82).f1)
open Go.Proofs.Ytcelfhphmlhonaa.M in
/-- how many samples have another value -/
def spec_ErrorsOf.errs (a b : Int) (l : List S82) : Int := if isT a b = true ∧ impl_IsSampleList.f a l = some true then ((cnt (spec_ErrorsOf.errB b.toNat l) l.length : Nat) : Int) else -1
open Go.Proofs.Ytcelfhphmlhonaa.M in
theorem spec_ErrorsOf.sample {n : Nat} {l : List S82} (hn : n ≤ 5) (h : impl_IsSampleList.f (n : Int) l = some true) : l.length ≤ 40 ∧ ∀ j, j < l.length → ∃ x y : Nat, (l.getD j z82).f0 = (x : Int) ∧ (l.getD j z82).f1 = (y : Int) ∧ x < 2 ^ n ∧ y ≤ 1 := by
  have h := Option.some.inj h
  rw [Bool.and_eq_true, Bool.and_eq_true] at h
  obtain ⟨⟨h1, h2⟩, h3⟩ := h
  have h2 := of_decide_eq_true h2
  refine ⟨h2, fun j hj => ?_⟩
  rw [List.all_eq_true] at h3
  have h4 := h3 _ (List.getElem_mem hj)
  have e : l.getD j z82 = l[j] := by simp [List.getD_eq_getElem?_getD, hj]
  rw [e]
  unfold impl_IsSampleList.ok at h4
  rw [Bool.and_eq_true] at h4
  obtain ⟨h5, h6⟩ := h4
  have h5 := of_decide_eq_true h5
  have h6 := of_decide_eq_true h6
  rw [Int.toNat_natCast] at h5
  exact ⟨l[j].f0.toNat, l[j].f1.toNat, by omega, by omega, by omega, by omega⟩
open Go.Proofs.Ytcelfhphmlhonaa.M in
theorem spec_ErrorsOf.ev (a b : Int) (l : List S82) : Ev (fun k => spec_ErrorsOf.f k a b l) (spec_ErrorsOf.errs a b l) := by
  unfold spec_ErrorsOf.errs
  by_cases hc : isT a b = true ∧ impl_IsSampleList.f a l = some true
  · rw [if_pos hc]
    obtain ⟨h1, h2⟩ := hc
    obtain ⟨n, v, rfl, rfl, hn, hv⟩ := isT_nat h1
    have h32 := full_lt hn
    have h5 := pow_le_5 hn
    obtain ⟨h40, hs⟩ := spec_ErrorsOf.sample hn h2
    rw [Int.toNat_natCast]
    have key : ∀ d i, i + d = l.length → Ev (fun k => spec_ErrorsOf.l0 k l ((cnt (spec_ErrorsOf.errB v l) i : Nat) : Int) (i : Int) n v) ((cnt (spec_ErrorsOf.errB v l) l.length : Nat) : Int) := by
      refine Ev.count (fun k i => spec_ErrorsOf.l0 k l ((cnt (spec_ErrorsOf.errB v l) i : Nat) : Int) (i : Int) n v) l.length _ ?_ ?_
      · intro i hi h
        have hle := cnt_le (spec_ErrorsOf.errB v l) i
        refine Ev.step (fun k => ?_) h
        obtain ⟨x, y, e1, e2, hx, hy⟩ := hs i hi
        have e3 : rd_T82 l (i : Int) = l.getD i z82 := by simp [rd_T82]
        have eb : spec_ErrorsOf.errB v l i = decide ((((v.testBit x).toNat : Nat) : Int) ≠ (y : Int)) := by unfold spec_ErrorsOf.errB; rw [e1, e2, Int.toNat_natCast]
        simp only [spec_ErrorsOf.l0]
        rw [if_pos (by omega), if_pos (by omega), e3, e1, e2, if_pos (by omega), bit_nat (by omega) (by omega), up1 (by omega), up1 (by omega), cnt, eb]
        by_cases hq : (((v.testBit x).toNat : Nat) : Int) = (y : Int)
        · rw [if_pos hq, decide_eq_false (by omega)]; rfl
        · rw [if_neg hq, decide_eq_true hq]; rfl
      · refine Ev.end (fun k => ?_)
        simp only [spec_ErrorsOf.l0]
        rw [if_neg (by omega)]
    have hl := spec_IsSampleList.ev (n : Int) l true h2
    refine Ev.congr (f := fun k => (spec_IsSampleList.f k n l).bind fun t => spec_ErrorsOf.j0 k l (!t) n v) (fun k => ?_) (Ev.bind hl (Ev.step (fun k => ?_) (key l.length 0 (by omega))))
    · unfold spec_ErrorsOf.f
      rw [spec_IsTable.ev, h1]; rfl
    · simp only [spec_ErrorsOf.j0]
      rw [if_neg (by decide)]; rfl
  · rw [if_neg hc]
    have hj : Ev (fun k => spec_ErrorsOf.j0 k l true a b) (-1) := Ev.end (fun k => by simp only [spec_ErrorsOf.j0, if_true])
    cases h1 : isT a b with
    | false =>
      refine Ev.congr (fun k => ?_) hj
      unfold spec_ErrorsOf.f
      rw [spec_IsTable.ev, h1]; rfl
    | true =>
      obtain ⟨q, hq⟩ : ∃ q, impl_IsSampleList.f a l = some q := ⟨_, rfl⟩
      cases q with
      | true => exact absurd ⟨h1, hq⟩ hc
      | false =>
        refine Ev.congr (f := fun k => (spec_IsSampleList.f k a l).bind fun t => spec_ErrorsOf.j0 k l (!t) a b) (fun k => ?_) (Ev.bind (spec_IsSampleList.ev a l false hq) hj)
        unfold spec_ErrorsOf.f
        rw [spec_IsTable.ev, h1]; rfl

/-! ### facts on spec_IsConsistent -/
--IMPORT M5
theorem spec_IsConsistent.ev (a b : Int) (l : List S82) : Ev (fun k => spec_IsConsistent.f k a b l) (spec_ErrorsOf.errs a b l == 0) := Ev.bind (spec_ErrorsOf.ev a b l) (Ev.now _)

/-! ### facts on impl_isBits -/
theorem impl_isBits.ev (a : Int) : impl_isBits.f a = some (decide (0 ≤ a ∧ a ≤ 5)) := by
  unfold impl_isBits.f
  by_cases h : 0 ≤ a
  · rw [if_pos h]; simp [h]
  · rw [if_neg h]; simp [h]

/-! ### facts on impl_IsTable -/
--IMPORT M0
open Go.Proofs.Ytcelfhphmlhonaa.M in
theorem impl_IsTable.ev (a b : Int) : impl_IsTable.f a b = some (isT a b) := by
  unfold impl_IsTable.f isT
  rw [impl_isBits.ev]
  by_cases h : 0 ≤ a ∧ a ≤ 5
  · obtain ⟨n, rfl⟩ := nat_of h.1
    have hn : n ≤ 5 := by omega
    simp only [Option.bind_some, h, and_self, decide_true, if_true]
    by_cases hb : b ≥ 0
    · obtain ⟨v, rfl⟩ := nat_of hb
      have h5 := pow_le_5 hn
      rw [if_pos hb]
      unfold impl_Table_size.f
      rw [if_pos (Int.natCast_nonneg n), shl_one (by omega)]
      simp only [Option.bind_some]
      rw [if_pos (Int.natCast_nonneg _), shr_nat (by omega)]
      congr 1
      rw [Bool.eq_iff_iff]
      simp only [beq_iff_eq, decide_eq_true_eq, Int.toNat_natCast]
      have hz : v / 2 ^ 2 ^ n = 0 ↔ v < 2 ^ 2 ^ n := Nat.div_eq_zero_iff_lt (Nat.two_pow_pos _)
      rw [show (((v / 2 ^ 2 ^ n : Nat) : Int) = 0 ↔ v / 2 ^ 2 ^ n = 0) from by omega, hz]
      obtain ⟨P, hP⟩ : ∃ P, P = 2 ^ 2 ^ n := ⟨_, rfl⟩
      rw [← hP]
      simp only [h, true_and]
      omega
    · rw [if_neg hb]
      congr 1
      symm
      apply decide_eq_false
      omega
  · have h' : ¬ (0 ≤ a ∧ a ≤ 5 ∧ 0 ≤ b ∧ b < ((2 ^ 2 ^ a.toNat : Nat) : Int)) := fun e => h ⟨e.1, e.2.1⟩
    simp only [h, h', decide_false, Option.bind_some, Bool.false_eq_true, if_false]

/-! ### facts on impl_ErrorsOf -/
--IMPORT M5
open Go.Proofs.Ytcelfhphmlhonaa.M in
theorem impl_ErrorsOf.ev (a b : Int) (l : List S82) : Ev (fun k => impl_ErrorsOf.f k a b l) (spec_ErrorsOf.errs a b l) := by
  unfold spec_ErrorsOf.errs
  by_cases hc : isT a b = true ∧ impl_IsSampleList.f a l = some true
  · rw [if_pos hc]
    obtain ⟨h1, h2⟩ := hc
    obtain ⟨n, v, rfl, rfl, hn, hv⟩ := isT_nat h1
    have h32 := full_lt hn
    have h5 := pow_le_5 hn
    obtain ⟨h40, hs⟩ := spec_ErrorsOf.sample hn h2
    rw [Int.toNat_natCast]
    have key : ∀ d i, i + d = l.length → Ev (fun k => impl_ErrorsOf.l0 k ((cnt (spec_ErrorsOf.errB v l) i : Nat) : Int) l (l.length : Int) (i : Int) n v) ((cnt (spec_ErrorsOf.errB v l) l.length : Nat) : Int) := by
      refine Ev.count (fun k i => impl_ErrorsOf.l0 k ((cnt (spec_ErrorsOf.errB v l) i : Nat) : Int) l (l.length : Int) (i : Int) n v) l.length _ ?_ ?_
      · intro i hi h
        have hle := cnt_le (spec_ErrorsOf.errB v l) i
        refine Ev.step (fun k => ?_) h
        obtain ⟨x, y, e1, e2, hx, hy⟩ := hs i hi
        have e3 : rd_T82 l (i : Int) = l.getD i z82 := by simp [rd_T82]
        simp only [impl_ErrorsOf.l0]
        rw [if_pos (by omega), if_pos (by omega), if_pos (by omega), e3, e1, e2]
        unfold impl_Table_at.f
        rw [if_pos (Int.natCast_nonneg x), bit_nat (by omega) (by omega)]
        simp only [Option.bind_some]
        have eb : spec_ErrorsOf.errB v l i = decide ((((v.testBit x).toNat : Nat) : Int) ≠ (y : Int)) := by unfold spec_ErrorsOf.errB; rw [e1, e2, Int.toNat_natCast]
        have ex : Go.bits .xor .i64 (((v.testBit x).toNat : Nat) : Int) (y : Int) = (((spec_ErrorsOf.errB v l i).toNat : Nat) : Int) := by
          rw [eb, xor_nat (Nat.lt_trans (toNat_lt _) (by decide)) (by omega)]
          obtain rfl | rfl : y = 0 ∨ y = 1 := by omega
          all_goals cases v.testBit x <;> rfl
        have hb := toNat_le (spec_ErrorsOf.errB v l i)
        rw [ex, w64 (by omega) (by omega), up1 (by omega), cnt]
        congr 1
      · refine Ev.end (fun k => ?_)
        simp only [impl_ErrorsOf.l0]
        rw [if_neg (by omega)]
    refine Ev.congr (f := fun k => impl_ErrorsOf.j0 k l false n v) (fun k => ?_) (Ev.step (fun k => ?_) (key l.length 0 (by omega)))
    · unfold impl_ErrorsOf.f
      rw [impl_IsTable.ev, h1, h2]; rfl
    · simp only [impl_ErrorsOf.j0]
      rw [if_neg (by decide)]; rfl
  · rw [if_neg hc]
    refine Ev.congr (f := fun k => impl_ErrorsOf.j0 k l true a b) (fun k => ?_) (Ev.end (fun k => by simp only [impl_ErrorsOf.j0, if_true]))
    unfold impl_ErrorsOf.f
    rw [impl_IsTable.ev]
    cases h1 : isT a b with
    | false => rfl
    | true =>
      obtain ⟨q, hq⟩ : ∃ q, impl_IsSampleList.f a l = some q := ⟨_, rfl⟩
      cases q with
      | true => exact absurd ⟨h1, hq⟩ hc
      | false => rw [hq]; rfl

/-! ### facts on impl_IsConsistent -/
--IMPORT M5
theorem impl_IsConsistent.ev (a b : Int) (l : List S82) : Ev (fun k => impl_IsConsistent.f k a b l) (spec_ErrorsOf.errs a b l == 0) := Ev.bind (impl_ErrorsOf.ev a b l) (Ev.now _)

/-! ### facts on laws_FnExactIsConsistent -/
--IMPORT M5
open Go.Proofs.Ytcelfhphmlhonaa.M in
theorem laws_FnExactIsConsistent.pure_ : laws_FnExactIsConsistent.Pure := by
  intro a b l _ _ hm _
  unfold maxLen at hm
  by_cases hl : l.length ≤ 1048576
  · obtain ⟨K1, h1⟩ : ∃ K, ∀ k, K ≤ k → laws_toSampleS.f k l = some (l.map laws_toSampleS.conv) := laws_toSampleS.ev l hl
    have hl2 : (l.map laws_toSampleS.conv).length ≤ 1048576 := by simpa using hl
    generalize l.map laws_toSampleS.conv = m at h1 hl2
    obtain ⟨K2, h2⟩ : ∃ K, ∀ k, K ≤ k → spec_IsConsistent.f k a b m = some ((spec_ErrorsOf.errs a b m == 0)) := spec_IsConsistent.ev a b m
    obtain ⟨K3, h3⟩ : ∃ K, ∀ k, K ≤ k → impl_IsConsistent.f k a b m = some ((spec_ErrorsOf.errs a b m == 0)) := impl_IsConsistent.ev a b m
    obtain ⟨K4, h4⟩ : ∃ K, ∀ k, K ≤ k → laws_eqSampleS.f k m m = some true := laws_eqSampleS.ev m hl2
    generalize (spec_ErrorsOf.errs a b m == 0) = r at *
    have e : wrap64 (1048576 - (l.length : Int)) = 1048576 - (l.length : Int) := w64 (by omega) (by omega)
    have hz : laws_szSampleS.f l 1048576 = some (1048576 - (l.length : Int)) := by
      unfold laws_szSampleS.f
      simp [e]
      omega
    have hn : ¬ (1048576 - (l.length : Int) < 0) := by omega
    refine ⟨K1 + K2 + K3 + K4, ?_⟩
    simp (disch := omega) only [laws_FnExactIsConsistent.f, laws_toTable.f, h1, h2, h3, h4, hz, hn, ↓reduceIte, Option.bind_some, bne_self_eq_false, Bool.false_eq_true]
  · have e : wrap64 (1048576 - (l.length : Int)) < 0 := by rw [w64 (by omega) (by omega)]; omega
    exact ⟨0, by unfold laws_FnExactIsConsistent.f laws_szSampleS.f; rw [if_pos e]; simp⟩

end Go.Proofs.Ytcelfhphmlhonaa.Print
