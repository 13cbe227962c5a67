/- Functions of the given program as plain Lean functions, with proofs that their calls compute them, or lemmas on these. Laid by a program of this repo for the seat Yteicafpjkbajaaa; Lean checks it. -/
import Derived.Test.YteicafpjkbajaaaKExactIsSampleList0
import Derived.Test.YteicafpjkbajaaaKExactIsSampleList1
import Derived.Test.YteicafpjkbajaaaKExactIsSampleList4
import Derived.Test.YteicafpjkbajaaaKExactIsSampleList5
import Derived.Test.YteicafpjkbajaaaM3
namespace Go.Proofs.Yteicafpjkbajaaa.Print
open Go.RowKit Go.Proofs.YteicafpjkbajaaaW.PrintWords Go.Proofs.YteicafpjkbajaaaW.PrintLast Go.Proofs.YteicafpjkbajaaaW.PrintMore
attribute [local go_sem] max2_int min2_int max_two min_two max_three min_three max_four min_four   -- for this text's walks alone
set_option linter.unusedVariables false
set_option linter.unusedSimpArgs false

/-! ### facts on spec_l1In -/
theorem spec_l1In.ev (a b c : Int) : spec_l1In.f a b c = some (decide (b ≤ a ∧ a ≤ c)) := by
  unfold spec_l1In.f
  by_cases h : b ≤ a
  · rw [if_pos h]; simp [h]
  · rw [if_neg h]; simp [h]

/-! ### facts on spec_IsSampleList -/
--IMPORT M3
open Go.Proofs.Yteicafpjkbajaaa.M in
theorem spec_IsSampleList.ev (a : Int) (l : List S52) (r : Bool) (h : impl_IsSampleList.f a l = some r) : Ev (fun k => spec_IsSampleList.f k a l) r := by
  have hr := Option.some.inj h
  unfold spec_IsSampleList.f
  rw [spec_l1In.ev]
  by_cases ha : 0 ≤ a ∧ a ≤ 5
  · rw [decide_eq_true ha, Bool.true_and] at hr
    obtain ⟨n, rfl⟩ := nat_of ha.1
    have h5 := pow_le_5 (n := n) (by omega)
    simp only [decide_eq_true ha, Option.bind_some, if_true]
    by_cases h40 : l.length ≤ 40
    · rw [decide_eq_true h40, Bool.true_and] at hr
      have key : ∀ d i, i + d = l.length → Ev (fun k => spec_IsSampleList.l0 k n l (i : Int)) ((l.drop i).all (impl_IsSampleList.ok n)) := by
        intro d
        induction d with
        | zero =>
          intro i hi
          obtain rfl : i = l.length := by omega
          refine Ev.end (fun k => ?_)
          simp only [spec_IsSampleList.l0]
          rw [if_neg (by omega)]; simp
        | succ d ih =>
          intro i hi
          have hd : l.drop i = l.getD i z52 :: l.drop (i + 1) := by
            rw [List.drop_eq_getElem_cons (by omega)]
            simp [List.getD_eq_getElem?_getD, show i < l.length by omega]
          have hx : rd_T52 l (i : Int) = l.getD i z52 := by simp [rd_T52]
          rw [hd, List.all_cons]
          generalize l.getD i z52 = x at *
          have hpos := Nat.two_pow_pos n
          have es : wrap64 (shl .i64 1 (n : Int) - 1) = ((2 ^ n : Nat) : Int) - 1 := by rw [shl_one (by omega), w64 (by omega) (by omega)]
          have P1 : (0 ≤ x.f0 ∧ x.f0 ≤ ((2 ^ n : Nat) : Int) - 1) ↔ (0 ≤ x.f0 ∧ x.f0 < ((2 ^ n : Nat) : Int)) := by omega
          have P2 : (0 ≤ x.f1 ∧ x.f1 ≤ 1) ↔ (x.f1 = 0 ∨ x.f1 = 1) := by omega
          by_cases o1 : 0 ≤ x.f0 ∧ x.f0 < ((2 ^ n : Nat) : Int)
          · by_cases o2 : x.f1 = 0 ∨ x.f1 = 1
            · have ok : impl_IsSampleList.ok n x = true := by unfold impl_IsSampleList.ok; rw [Int.toNat_natCast, decide_eq_true o1, decide_eq_true o2]; rfl
              rw [ok, Bool.true_and]
              refine Ev.step (fun k => ?_) (ih (i + 1) (by omega))
              simp only [spec_IsSampleList.l0]
              rw [if_pos (by omega), if_pos (by omega), if_pos (Int.natCast_nonneg n), hx, es, spec_l1In.ev, spec_l1In.ev, decide_eq_true (P1.mpr o1), decide_eq_true (P2.mpr o2), Option.bind_some, if_pos rfl, Option.bind_some, if_pos rfl, w64 (by omega) (by omega)]; rfl
            · have ok : impl_IsSampleList.ok n x = false := by unfold impl_IsSampleList.ok; rw [decide_eq_false o2, Bool.and_false]
              rw [ok, Bool.false_and]
              refine Ev.end (fun k => ?_)
              simp only [spec_IsSampleList.l0]
              rw [if_pos (by omega), if_pos (by omega), if_pos (Int.natCast_nonneg n), hx, es, spec_l1In.ev, spec_l1In.ev, decide_eq_true (P1.mpr o1), decide_eq_false (fun e => o2 (P2.mp e)), Option.bind_some, if_pos rfl, Option.bind_some, if_neg (by decide)]
          · have ok : impl_IsSampleList.ok n x = false := by unfold impl_IsSampleList.ok; rw [Int.toNat_natCast, decide_eq_false o1, Bool.false_and]
            rw [ok, Bool.false_and]
            refine Ev.end (fun k => ?_)
            simp only [spec_IsSampleList.l0]
            rw [if_pos (by omega), if_pos (by omega), if_pos (Int.natCast_nonneg n), hx, es, spec_l1In.ev, decide_eq_false (fun e => o1 (P1.mp e)), Option.bind_some, if_neg (by decide)]
      have h0 := key l.length 0 (by omega)
      rw [List.drop_zero, hr] at h0
      refine Ev.step (fun k => ?_) h0
      simp only [spec_IsSampleList.j0]
      rw [if_neg (by simp; omega)]; rfl
    · rw [decide_eq_false h40] at hr
      subst hr
      refine Ev.end (fun k => ?_)
      simp only [spec_IsSampleList.j0]
      rw [if_pos (by simp; omega)]; rfl
  · rw [decide_eq_false ha] at hr
    subst hr
    simp only [decide_eq_false ha, Option.bind_some]
    refine Ev.end (fun k => ?_)
    rw [if_neg (by decide)]
    simp only [spec_IsSampleList.j0, if_true]; rfl

/-! ### facts on laws_toSampleS -/
--IMPORT M3
/-- a sample of the laws' own type as one of the program's -/
def laws_toSampleS.conv (x : S54) : S52 := ⟨x.f0, x.f1⟩
open Go.Proofs.Yteicafpjkbajaaa.M in
theorem laws_toSampleS.ev (l : List S54) (h : l.length ≤ 1048576) : Ev (fun k => laws_toSampleS.f k l) (l.map laws_toSampleS.conv) := by
  have key : ∀ d i, i + d = l.length → Ev (fun k => laws_toSampleS.l0 k l (fillAt laws_toSampleS.conv z52 l i) (i : Int)) (l.map laws_toSampleS.conv) := by
    refine Ev.count (fun k i => laws_toSampleS.l0 k l (fillAt laws_toSampleS.conv z52 l i) (i : Int)) l.length _ ?_ ?_
    · intro i hi hn
      refine Ev.step (fun k => ?_) hn
      have hl := fillAt_length laws_toSampleS.conv z52 l (i := i) (by omega)
      simp only [laws_toSampleS.l0, laws_toSample.f, Option.bind_some]
      rw [if_pos (by omega), if_pos (by omega), if_pos (by rw [hl]; omega), w64 (by omega) (by omega)]
      have e := fillAt_set laws_toSampleS.conv z52 l z54 hi
      have e2 : (⟨(rd_T54 l (i : Int)).f0, (rd_T54 l (i : Int)).f1⟩ : S52) = laws_toSampleS.conv (l.getD i z54) := by simp [rd_T54, laws_toSampleS.conv]
      rw [e2, Int.toNat_natCast, e]; rfl
    · refine Ev.end (fun k => ?_)
      simp only [laws_toSampleS.l0]
      rw [if_neg (by omega), fillAt_all]
  have h0 := key l.length 0 (by omega)
  rw [fillAt_zero] at h0
  refine Ev.congr (fun k => ?_) h0
  unfold laws_toSampleS.f
  rw [if_pos (by omega), if_pos (by simp; omega), Int.toNat_natCast]; rfl

/-! ### facts on impl_isBits -/
theorem impl_isBits.ev (a : Int) : impl_isBits.f a = some (decide (0 ≤ a ∧ a ≤ 5)) := by
  unfold impl_isBits.f
  by_cases h : 0 ≤ a
  · rw [if_pos h]; simp [h]
  · rw [if_neg h]; simp [h]

/-! ### facts on laws_eqSampleS -/
--IMPORT M3
open Go.Proofs.Yteicafpjkbajaaa.M in
theorem laws_eqSampleS.ev (l : List S52) (h : l.length ≤ 1048576) : Ev (fun k => laws_eqSampleS.f k l l) true := by
  have key : ∀ d i, i + d = l.length → Ev (fun k => laws_eqSampleS.l0 k l l (i : Int)) true := by
    refine Ev.count (fun k i => laws_eqSampleS.l0 k l l (i : Int)) l.length _ ?_ ?_
    · intro i hi hn
      refine Ev.step (fun k => ?_) hn
      simp only [laws_eqSampleS.l0, laws_eqSample.f, if_true, Option.bind_some]
      rw [if_pos (by omega), if_pos (by omega), if_pos (by omega), w64 (by omega) (by omega)]; rfl
    · refine Ev.end (fun k => ?_)
      simp only [laws_eqSampleS.l0]
      rw [if_neg (by omega)]
  refine Ev.congr (fun k => ?_) (key l.length 0 (by omega))
  unfold laws_eqSampleS.f
  rw [if_pos rfl]; rfl

/-! ### facts on laws_FnExactIsSampleList -/
--IMPORT M3
open Go.Proofs.Yteicafpjkbajaaa.M in
theorem laws_FnExactIsSampleList.pure_ : laws_FnExactIsSampleList.Pure := by
  intro a l _ hm _
  unfold maxLen at hm
  unfold laws_FnExactIsSampleList.f laws_szSampleS.f
  by_cases hl : l.length ≤ 1048576
  · have e : wrap64 (1048576 - (l.length : Int)) = 1048576 - (l.length : Int) := w64 (by omega) (by omega)
    have hn : ¬ (1048576 - (l.length : Int) < 0) := by omega
    simp only [e, if_neg hn, if_neg (show ¬ (1048576 < (1048576 - (l.length : Int)) - (1048576 - (l.length : Int))) from by omega), Option.bind_some]
    obtain ⟨r, hr⟩ : ∃ r, impl_IsSampleList.f a (l.map laws_toSampleS.conv) = some r := ⟨_, rfl⟩
    have h1 := laws_toSampleS.ev l hl
    have h2 := spec_IsSampleList.ev a _ r hr
    have h3 := laws_eqSampleS.ev (l.map laws_toSampleS.conv) (by simpa using hl)
    refine (Ev.bind h1 (Ev.bind h2 (Ev.bind h1 (Ev.bind (Ev.const hr) (f := fun k t206 => if (t206 != r) = true then some false else (laws_toSampleS.f k l).bind fun t207 => (laws_eqSampleS.f k (l.map laws_toSampleS.conv) t207).bind fun t210 => if t210 = true then some true else some false) ?_)))).rounds
    have hb : (r != r) = false := by cases r <;> rfl
    simp only [hb, Bool.false_eq_true, if_false]
    exact Ev.bind h1 (Ev.bind h3 (Ev.now _))
  · have e : wrap64 (1048576 - (l.length : Int)) < 0 := by rw [w64 (by omega) (by omega)]; omega
    exact ⟨0, by rw [if_pos e]; simp⟩

end Go.Proofs.Yteicafpjkbajaaa.Print
