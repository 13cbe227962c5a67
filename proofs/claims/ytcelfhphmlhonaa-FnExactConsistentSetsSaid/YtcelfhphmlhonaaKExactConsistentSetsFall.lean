/- Functions of the given program as plain Lean functions, with proofs that their calls compute them, or lemmas on these. Laid by a program of this repo for the seat Ytcelfhphmlhonaa; Lean checks it. -/
import Derived.Test.YtcelfhphmlhonaaKExactConsistentSets0
import Derived.Test.YtcelfhphmlhonaaKExactConsistentSets1
import Derived.Test.YtcelfhphmlhonaaKExactConsistentSets2
import Derived.Test.YtcelfhphmlhonaaKExactConsistentSets5
import Derived.Test.YtcelfhphmlhonaaKExactConsistentSets6
import Derived.Test.YtcelfhphmlhonaaKExactConsistentSets10
import Derived.Test.YtcelfhphmlhonaaKExactConsistentSets11
import Derived.Test.YtcelfhphmlhonaaKExactConsistentSets12
import Derived.Test.YtcelfhphmlhonaaM3
import Derived.Test.YtcelfhphmlhonaaM10
import Derived.Test.YtcelfhphmlhonaaM5
namespace Go.Proofs.Ytcelfhphmlhonaa.Print
open Go.RowKit Go.Proofs.YtcelfhphmlhonaaW.PrintWords Go.Proofs.YtcelfhphmlhonaaW.PrintLast Go.Proofs.YtcelfhphmlhonaaW.PrintMore
attribute [local go_sem] max2_int min2_int max_two min_two max_three min_three max_four min_four   -- for this text's walks alone
set_option linter.unusedVariables false
set_option linter.unusedSimpArgs false

/-! ### facts on laws_toSampleS -/
--IMPORT M3
/-- a sample of the laws' own type as one of the program's -/
def laws_toSampleS.conv (x : S84) : S82 := ⟨x.f0, x.f1⟩
open Go.Proofs.Ytcelfhphmlhonaa.M in
theorem laws_toSampleS.ev (l : List S84) (h : l.length ≤ 1048576) : Ev (fun k => laws_toSampleS.f k l) (l.map laws_toSampleS.conv) := by
  have key : ∀ d i, i + d = l.length → Ev (fun k => laws_toSampleS.l0 k l (fillAt laws_toSampleS.conv z82 l i) (i : Int)) (l.map laws_toSampleS.conv) := by
    refine Ev.count (fun k i => laws_toSampleS.l0 k l (fillAt laws_toSampleS.conv z82 l i) (i : Int)) l.length _ ?_ ?_
    · intro i hi hn
      refine Ev.step (fun k => ?_) hn
      have hl := fillAt_length laws_toSampleS.conv z82 l (i := i) (by omega)
      simp only [laws_toSampleS.l0, laws_toSample.f, Option.bind_some]
      rw [if_pos (by omega), if_pos (by omega), if_pos (by rw [hl]; omega), w64 (by omega) (by omega)]
      have e := fillAt_set laws_toSampleS.conv z82 l z84 hi
      have e2 : (⟨(rd_T84 l (i : Int)).f0, (rd_T84 l (i : Int)).f1⟩ : S82) = laws_toSampleS.conv (l.getD i z84) := by simp [rd_T84, laws_toSampleS.conv]
      rw [e2, Int.toNat_natCast, e]; rfl
    · refine Ev.end (fun k => ?_)
      simp only [laws_toSampleS.l0]
      rw [if_neg (by omega), fillAt_all]
  have h0 := key l.length 0 (by omega)
  rw [fillAt_zero] at h0
  refine Ev.congr (fun k => ?_) h0
  unfold laws_toSampleS.f
  rw [if_pos (by omega), if_pos (by simp; omega), Int.toNat_natCast]; rfl

/-! ### facts on laws_eqSampleS -/
--IMPORT M3
open Go.Proofs.Ytcelfhphmlhonaa.M in
theorem laws_eqSampleS.ev (l : List S82) (h : l.length ≤ 1048576) : Ev (fun k => laws_eqSampleS.f k l l) true := by
  have key : ∀ d i, i + d = l.length → Ev (fun k => laws_eqSampleS.l0 k l l (i : Int)) true := by
    refine Ev.count (fun k i => laws_eqSampleS.l0 k l l (i : Int)) l.length _ ?_ ?_
    · intro i hi hn
      refine Ev.step (fun k => ?_) hn
      simp only [laws_eqSampleS.l0, laws_eqSample.f, if_true, Option.bind_some]
      rw [if_pos (by omega), if_pos (by omega), if_pos (by omega), w64 (by omega) (by omega)]; rfl
    · refine Ev.end (fun k => ?_)
      simp only [laws_eqSampleS.l0]
      rw [if_neg (by omega)]
  refine Ev.congr (fun k => ?_) (key l.length 0 (by omega))
  unfold laws_eqSampleS.f
  rw [if_pos rfl]; rfl

/-! ### facts on spec_l1In -/
theorem spec_l1In.ev (a b c : Int) : spec_l1In.f a b c = some (decide (b ≤ a ∧ a ≤ c)) := by
  unfold spec_l1In.f
  by_cases h : b ≤ a
  · rw [if_pos h]; simp [h]
  · rw [if_neg h]; simp [h]

/-! ### facts on spec_IsSampleList -/
--IMPORT M3
open Go.Proofs.Ytcelfhphmlhonaa.M in
theorem spec_IsSampleList.sample {n : Nat} {l : List S82} (hn : n ≤ 5) (h : impl_IsSampleList.f (n : Int) l = some true) : l.length ≤ 40 ∧ ∀ j, j < l.length → ∃ x y : Nat, (l.getD j z82).f0 = (x : Int) ∧ (l.getD j z82).f1 = (y : Int) ∧ x < 2 ^ n ∧ y ≤ 1 := by
  have h := Option.some.inj h
  rw [Bool.and_eq_true, Bool.and_eq_true] at h
  obtain ⟨⟨h1, h2⟩, h3⟩ := h
  have h2 := of_decide_eq_true h2
  refine ⟨h2, fun j hj => ?_⟩
  rw [List.all_eq_true] at h3
  have h4 := h3 _ (List.getElem_mem hj)
  have e : l.getD j z82 = l[j] := by simp [List.getD_eq_getElem?_getD, hj]
  rw [e]
  unfold impl_IsSampleList.ok at h4
  rw [Bool.and_eq_true] at h4
  obtain ⟨h5, h6⟩ := h4
  have h5 := of_decide_eq_true h5
  have h6 := of_decide_eq_true h6
  rw [Int.toNat_natCast] at h5
  exact ⟨l[j].f0.toNat, l[j].f1.toNat, by omega, by omega, by omega, by omega⟩
open Go.Proofs.Ytcelfhphmlhonaa.M in
theorem spec_IsSampleList.list_n {a : Int} {l : List S82} (h : impl_IsSampleList.f a l = some true) : ∃ n : Nat, a = (n : Int) ∧ n ≤ 5 ∧ l.length ≤ 40 := by
  have h' := Option.some.inj h
  rw [Bool.and_eq_true, Bool.and_eq_true] at h'
  have h1 := of_decide_eq_true h'.1.1
  have h2 := of_decide_eq_true h'.1.2
  exact ⟨a.toNat, by omega, by omega, h2⟩
open Go.Proofs.Ytcelfhphmlhonaa.M in
theorem spec_IsSampleList.ev (a : Int) (l : List S82) (r : Bool) (h : impl_IsSampleList.f a l = some r) : Ev (fun k => spec_IsSampleList.f k a l) r := by
  have hr := Option.some.inj h
  unfold spec_IsSampleList.f
  rw [spec_l1In.ev]
  by_cases ha : 0 ≤ a ∧ a ≤ 5
  · rw [decide_eq_true ha, Bool.true_and] at hr
    obtain ⟨n, rfl⟩ := nat_of ha.1
    have h5 := pow_le_5 (n := n) (by omega)
    simp only [decide_eq_true ha, Option.bind_some, if_true]
    by_cases h40 : l.length ≤ 40
    · rw [decide_eq_true h40, Bool.true_and] at hr
      have key : ∀ d i, i + d = l.length → Ev (fun k => spec_IsSampleList.l0 k n l (i : Int)) ((l.drop i).all (impl_IsSampleList.ok n)) := by
        intro d
        induction d with
        | zero =>
          intro i hi
          obtain rfl : i = l.length := by omega
          refine Ev.end (fun k => ?_)
          simp only [spec_IsSampleList.l0]
          rw [if_neg (by omega)]; simp
        | succ d ih =>
          intro i hi
          have hd : l.drop i = l.getD i z82 :: l.drop (i + 1) := by
            rw [List.drop_eq_getElem_cons (by omega)]
            simp [List.getD_eq_getElem?_getD, show i < l.length by omega]
          have hx : rd_T82 l (i : Int) = l.getD i z82 := by simp [rd_T82]
          rw [hd, List.all_cons]
          generalize l.getD i z82 = x at *
          have hpos := Nat.two_pow_pos n
          have es : wrap64 (shl .i64 1 (n : Int) - 1) = ((2 ^ n : Nat) : Int) - 1 := by rw [shl_one (by omega), w64 (by omega) (by omega)]
          have P1 : (0 ≤ x.f0 ∧ x.f0 ≤ ((2 ^ n : Nat) : Int) - 1) ↔ (0 ≤ x.f0 ∧ x.f0 < ((2 ^ n : Nat) : Int)) := by omega
          have P2 : (0 ≤ x.f1 ∧ x.f1 ≤ 1) ↔ (x.f1 = 0 ∨ x.f1 = 1) := by omega
          by_cases o1 : 0 ≤ x.f0 ∧ x.f0 < ((2 ^ n : Nat) : Int)
          · by_cases o2 : x.f1 = 0 ∨ x.f1 = 1
            · have ok : impl_IsSampleList.ok n x = true := by unfold impl_IsSampleList.ok; rw [Int.toNat_natCast, decide_eq_true o1, decide_eq_true o2]; rfl
              rw [ok, Bool.true_and]
              refine Ev.step (fun k => ?_) (ih (i + 1) (by omega))
              simp only [spec_IsSampleList.l0]
              rw [if_pos (by omega), if_pos (by omega), if_pos (Int.natCast_nonneg n), hx, es, spec_l1In.ev, spec_l1In.ev, decide_eq_true (P1.mpr o1), decide_eq_true (P2.mpr o2), Option.bind_some, if_pos rfl, Option.bind_some, if_pos rfl, w64 (by omega) (by omega)]; rfl
            · have ok : impl_IsSampleList.ok n x = false := by unfold impl_IsSampleList.ok; rw [decide_eq_false o2, Bool.and_false]
              rw [ok, Bool.false_and]
              refine Ev.end (fun k => ?_)
              simp only [spec_IsSampleList.l0]
              rw [if_pos (by omega), if_pos (by omega), if_pos (Int.natCast_nonneg n), hx, es, spec_l1In.ev, spec_l1In.ev, decide_eq_true (P1.mpr o1), decide_eq_false (fun e => o2 (P2.mp e)), Option.bind_some, if_pos rfl, Option.bind_some, if_neg (by decide)]
          · have ok : impl_IsSampleList.ok n x = false := by unfold impl_IsSampleList.ok; rw [Int.toNat_natCast, decide_eq_false o1, Bool.false_and]
            rw [ok, Bool.false_and]
            refine Ev.end (fun k => ?_)
            simp only [spec_IsSampleList.l0]
            rw [if_pos (by omega), if_pos (by omega), if_pos (Int.natCast_nonneg n), hx, es, spec_l1In.ev, decide_eq_false (fun e => o1 (P1.mp e)), Option.bind_some, if_neg (by decide)]
      have h0 := key l.length 0 (by omega)
      rw [List.drop_zero, hr] at h0
      refine Ev.step (fun k => ?_) h0
      simp only [spec_IsSampleList.j0]
      rw [if_neg (by simp; omega)]; rfl
    · rw [decide_eq_false h40] at hr
      subst hr
      refine Ev.end (fun k => ?_)
      simp only [spec_IsSampleList.j0]
      rw [if_pos (by simp; omega)]; rfl
  · rw [decide_eq_false ha] at hr
    subst hr
    simp only [decide_eq_false ha, Option.bind_some]
    refine Ev.end (fun k => ?_)
    rw [if_neg (by decide)]
    simp only [spec_IsSampleList.j0, if_true]; rfl

/-! ### facts on spec_l25Fits -/
--IMPORT M10
open Go.Proofs.Ytcelfhphmlhonaa.M in
/-- do two samples not contradict -/
def spec_l25Fits.okB (l : List S82) (m : Int) (i j : Nat) : Bool := !((Go.bits .and .i64 (l.getD i z82).f0 m == Go.bits .and .i64 (l.getD j z82).f0 m) && ((l.getD i z82).f1 != (l.getD j z82).f1))
open Go.Proofs.Ytcelfhphmlhonaa.M in
def spec_l25Fits.fits (l : List S82) (m : Int) : Bool := allB l.length (fun i => allB i (spec_l25Fits.okB l m i))
theorem spec_l25Fits.eqB {l : List S82} {m : Int} {i j : Nat} {x y x' y' : Int} (e1 : (l.getD i z82).f0 = x) (e2 : (l.getD i z82).f1 = y) (e1' : (l.getD j z82).f0 = x') (e2' : (l.getD j z82).f1 = y') :
    spec_l25Fits.okB l m i j = true ↔ ¬ (Go.bits .and .i64 x m = Go.bits .and .i64 x' m ∧ y ≠ y') := by
  unfold spec_l25Fits.okB
  rw [e1, e2, e1', e2']
  simp
  exact Decidable.imp_iff_not_or.symm
open Go.Proofs.Ytcelfhphmlhonaa.M in
theorem spec_l25Fits.ev {n : Nat} (hn : n ≤ 5) (l : List S82) (hv : impl_IsSampleList.f (n : Int) l = some true) (m : Nat) (hm : m < 2 ^ 63) : Ev (fun k => spec_l25Fits.f k l m) (spec_l25Fits.fits l m) := by
  obtain ⟨h40, hs⟩ := spec_IsSampleList.sample hn hv
  have h5 := pow_le_5 hn
  have go : ∀ i, i < l.length → ∀ j, j < i → spec_l25Fits.okB l m i j = true → ∀ r, Ev (fun k => spec_l25Fits.l1 k l (m : Int) (i : Int) ((j + 1 : Nat) : Int)) r → Ev (fun k => spec_l25Fits.l1 k l (m : Int) (i : Int) (j : Int)) r := by
    intro i hi j hj hb r hn'
    obtain ⟨x, y, e1, e2, hx, hy⟩ := hs i hi
    obtain ⟨x', y', e1', e2', hx', hy'⟩ := hs j (by omega)
    have e3 : rd_T82 l (i : Int) = l.getD i z82 := by simp [rd_T82]
    have e4 : rd_T82 l (j : Int) = l.getD j z82 := by simp [rd_T82]
    have ht := xor_and_int (a := x) (b := x') (m := m) (by omega) (by omega) hm
    have hk := (spec_l25Fits.eqB (m := (m : Int)) e1 e2 e1' e2').mp hb
    refine Ev.step (fun k => ?_) hn'
    simp only [spec_l25Fits.l1]
    rw [if_pos (by omega), if_pos (by omega), if_pos (by omega), if_pos (by omega), if_pos (by omega), e3, e4, e1, e2, e1', e2', up1 (by omega)]
    by_cases c1 : Go.bits .and .i64 (x : Int) (m : Int) = Go.bits .and .i64 (x' : Int) (m : Int)
    · rw [if_pos (ht.mpr c1), if_pos (Classical.byContradiction fun c2 => hk ⟨c1, c2⟩)]
    · rw [if_neg (fun e => c1 (ht.mp e))]
  have stop : ∀ i, i < l.length → ∀ j, j < i → spec_l25Fits.okB l m i j = false → Ev (fun k => spec_l25Fits.l1 k l (m : Int) (i : Int) (j : Int)) false := by
    intro i hi j hj hb
    obtain ⟨x, y, e1, e2, hx, hy⟩ := hs i hi
    obtain ⟨x', y', e1', e2', hx', hy'⟩ := hs j (by omega)
    have e3 : rd_T82 l (i : Int) = l.getD i z82 := by simp [rd_T82]
    have e4 : rd_T82 l (j : Int) = l.getD j z82 := by simp [rd_T82]
    have ht := xor_and_int (a := x) (b := x') (m := m) (by omega) (by omega) hm
    have hk : Go.bits .and .i64 (x : Int) (m : Int) = Go.bits .and .i64 (x' : Int) (m : Int) ∧ (y : Int) ≠ (y' : Int) := Classical.byContradiction fun c => by rw [(spec_l25Fits.eqB (m := (m : Int)) e1 e2 e1' e2').mpr c] at hb; cases hb
    refine Ev.end (fun k => ?_)
    simp only [spec_l25Fits.l1]
    rw [if_pos (by omega), if_pos (by omega), if_pos (by omega), if_pos (by omega), if_pos (by omega), e3, e4, e1, e2, e1', e2', if_pos (ht.mpr hk.1), if_neg hk.2]
  have h := Ev.all (fun k i => spec_l25Fits.l0 k l (m : Int) (i : Int)) l.length (fun i => allB i (spec_l25Fits.okB l m i)) true false (fun i hi ho r hn' => by
    have h := Ev.all_on (fun k j => spec_l25Fits.l1 k l (m : Int) (i : Int) (j : Int)) i (spec_l25Fits.okB l m i) r false (go i hi) ho (Ev.step (fun k => by
      simp only [spec_l25Fits.l1]
      rw [if_neg (by omega), up1 (by omega)]) hn')
    refine Ev.step (fun k => ?_) h
    simp only [spec_l25Fits.l0]
    rw [if_pos (by omega)]; rfl) (fun i hi ho => by
    have h := Ev.all_bad (fun k j => spec_l25Fits.l1 k l (m : Int) (i : Int) (j : Int)) i (spec_l25Fits.okB l m i) false (go i hi) (stop i hi) ho
    refine Ev.step (fun k => ?_) h
    simp only [spec_l25Fits.l0]
    rw [if_pos (by omega)]; rfl) (Ev.end (fun k => by
    simp only [spec_l25Fits.l0]
    rw [if_neg (by omega)]))
  have e : (if allB l.length (fun i => allB i (spec_l25Fits.okB l m i)) = true then true else false) = spec_l25Fits.fits l m := by unfold spec_l25Fits.fits; cases allB l.length (fun i => allB i (spec_l25Fits.okB l m i)) <;> rfl
  rw [e] at h
  exact h

/-! ### facts on spec_ConsistentSets -/
--IMPORT M10
open Go.Proofs.Ytcelfhphmlhonaa.M in
/-- does a set of variables tell all values, and none of the list's sets lies in it -/
def spec_ConsistentSets.okm (l : List S82) (out : List Nat) (m : Nat) : Bool := spec_l25Fits.fits l m && !(out.any (fun x => x &&& m == x))
/-- the sets below m -/
def spec_ConsistentSets.sets (l : List S82) : Nat → List Nat
  | 0 => []
  | m + 1 => if spec_ConsistentSets.okm l (spec_ConsistentSets.sets l m) m = true then spec_ConsistentSets.sets l m ++ [m] else spec_ConsistentSets.sets l m
theorem spec_ConsistentSets.sets_lt (l : List S82) : ∀ m, ∀ x ∈ spec_ConsistentSets.sets l m, x < m
  | 0, x, h => by simp [spec_ConsistentSets.sets] at h
  | m + 1, x, h => by
    rw [spec_ConsistentSets.sets] at h
    split at h
    · rcases List.mem_append.mp h with h | h
      · have := spec_ConsistentSets.sets_lt l m x h; omega
      · simp at h; omega
    · have := spec_ConsistentSets.sets_lt l m x h; omega
theorem spec_ConsistentSets.sets_len (l : List S82) : ∀ m, (spec_ConsistentSets.sets l m).length ≤ m
  | 0 => by simp [spec_ConsistentSets.sets]
  | m + 1 => by
    have := spec_ConsistentSets.sets_len l m
    rw [spec_ConsistentSets.sets]
    split <;> simp <;> omega
open Go.Proofs.Ytcelfhphmlhonaa.M in
/-- the answer -/
def spec_ConsistentSets.r (a : Int) (l : List S82) : List Int × Bool := if impl_IsSampleList.f a l = some true then (ints (spec_ConsistentSets.sets l (2 ^ a.toNat)), true) else ([], false)
open Go.Proofs.Ytcelfhphmlhonaa.M in
theorem spec_ConsistentSets.any_take (out : List Nat) (p : Nat → Bool) (i : Nat) (hi : i < out.length) : (out.take (i + 1)).any p = ((out.take i).any p || p (out.getD i 0)) := by
  rw [take_more out 0 hi, List.any_append]; simp
open Go.Proofs.Ytcelfhphmlhonaa.M in
theorem spec_ConsistentSets.ev (a : Int) (l : List S82) : Ev (fun k => spec_ConsistentSets.f k a l) (spec_ConsistentSets.r a l) := by
  obtain ⟨q, hq⟩ : ∃ q, impl_IsSampleList.f a l = some q := ⟨_, rfl⟩
  have h1 := spec_IsSampleList.ev a l q hq
  refine Ev.congr (f := fun k => (spec_IsSampleList.f k a l).bind fun t => if t = true then spec_ConsistentSets.l0 k a l [] 0 else some ([], false)) (fun k => rfl) (Ev.bind h1 ?_)
  cases q with
  | false =>
    have : spec_ConsistentSets.r a l = ([], false) := by unfold spec_ConsistentSets.r; rw [if_neg (by rw [hq]; simp)]
    rw [this]
    exact Ev.now _
  | true =>
    have hr : spec_ConsistentSets.r a l = (ints (spec_ConsistentSets.sets l (2 ^ a.toNat)), true) := by unfold spec_ConsistentSets.r; rw [if_pos hq]
    obtain ⟨n, rfl, hn, h40⟩ := spec_IsSampleList.list_n hq
    rw [hr, Int.toNat_natCast]
    simp only [if_true]
    clear hr
    have h5 := pow_le_5 hn
    generalize hR : (ints (spec_ConsistentSets.sets l (2 ^ n)), true) = R
    have row : ∀ m, m < 2 ^ n → Ev (fun k => spec_ConsistentSets.l0 k n l (ints (spec_ConsistentSets.sets l (m + 1))) ((m + 1 : Nat) : Int)) R → Ev (fun k => spec_ConsistentSets.l0 k n l (ints (spec_ConsistentSets.sets l m)) (m : Int)) R := by
      intro m hm hnext
      have hlt := spec_ConsistentSets.sets_lt l m
      have hlen := spec_ConsistentSets.sets_len l m
      have hfin : ∀ b, b = spec_ConsistentSets.okm l (spec_ConsistentSets.sets l m) m → Ev (fun k => spec_ConsistentSets.l1 k n l (ints (spec_ConsistentSets.sets l m)) (m : Int) b ((spec_ConsistentSets.sets l m).length : Int)) R := by
        intro b hb
        rw [spec_ConsistentSets.sets, ← hb] at hnext
        cases b with
        | true =>
          rw [if_pos rfl, ints_append] at hnext
          refine Ev.step (fun k => ?_) hnext
          simp only [spec_ConsistentSets.l1]
          rw [if_neg (by rw [ints_length]; omega), if_pos trivial, if_pos (by rw [ints_length]; omega), up1 (by omega)]
        | false =>
          rw [if_neg (by decide)] at hnext
          refine Ev.step (fun k => ?_) hnext
          simp only [spec_ConsistentSets.l1]
          rw [if_neg (by rw [ints_length]; omega), if_neg (by decide), up1 (by omega)]
      unfold spec_ConsistentSets.okm at hfin
      generalize spec_ConsistentSets.sets l m = out at *
      generalize hfit : spec_l25Fits.fits l m = fit at *
      have loop := Ev.count (fun k i => spec_ConsistentSets.l1 k n l (ints out) (m : Int) (fit && !((out.take i).any (fun x => x &&& m == x))) (i : Int)) out.length R (fun i hi hn' => by
        have ha := spec_ConsistentSets.any_take out (fun x => x &&& m == x) i hi
        rw [ha] at hn'
        have hoi : out.getD i 0 < 32 := by
          have : out.getD i 0 ∈ out := by rw [List.getD_eq_getElem?_getD, List.getElem?_eq_getElem hi]; exact List.getElem_mem hi
          have := hlt _ this
          omega
        have ei : (i : Int) < ((ints out).length : Int) := by rw [ints_length]; omega
        cases hb : (fit && !((out.take i).any (fun x => x &&& m == x))) with
        | true =>
          rw [Bool.and_eq_true] at hb
          have hb2 : (out.take i).any (fun x => x &&& m == x) = false := by simpa using hb.2
          rw [hb.1, hb2, Bool.false_or, Bool.true_and] at hn'
          refine Ev.step (fun k => ?_) hn'
          simp only [spec_ConsistentSets.l1]
          rw [if_pos ei, if_pos trivial, if_pos (by omega), rd_ints, and_nat (by omega) (by omega), up1 (by omega)]
          have e : ((((out.getD i 0 &&& m : Nat) : Int)) != ((out.getD i 0 : Nat) : Int)) = !(out.getD i 0 &&& m == out.getD i 0) := by
            generalize out.getD i 0 = z
            by_cases h : z &&& m = z
            · rw [h, bne_self_eq_false, beq_self_eq_true]; rfl
            · have h2 : ((z &&& m : Nat) : Int) ≠ (z : Int) := by omega
              rw [bne_iff_ne.mpr h2, beq_eq_false_iff_ne.mpr h]; rfl
          rw [e]
        | false =>
          have e2 : (fit && !((out.take i).any (fun x => x &&& m == x) || (out.getD i 0 &&& m == out.getD i 0))) = false := by
            revert hb; cases fit <;> cases (out.take i).any (fun x => x &&& m == x) <;> simp
          rw [e2] at hn'
          refine Ev.step (fun k => ?_) hn'
          simp only [spec_ConsistentSets.l1]
          rw [if_pos ei, if_neg (by decide), up1 (by omega)]) (hfin _ (by rw [List.take_length])) out.length 0 (by omega)
      have hfs := spec_l25Fits.ev hn l hq m (by omega)
      rw [hfit] at hfs
      simp only [List.take_zero, List.any_nil, Bool.not_false, Bool.and_true] at loop
      refine Ev.step (f := fun k => (spec_l25Fits.f k l m).bind fun t => spec_ConsistentSets.l1 k n l (ints out) (m : Int) t 0) (fun k => ?_) (Ev.bind hfs loop)
      simp only [spec_ConsistentSets.l0]
      rw [if_pos (Int.natCast_nonneg n), shl_one (by omega), if_pos (by omega)]
    exact Ev.count (fun k m => spec_ConsistentSets.l0 k n l (ints (spec_ConsistentSets.sets l m)) (m : Int)) (2 ^ n) R row (Ev.end (fun k => by
      simp only [spec_ConsistentSets.l0]
      rw [if_pos (Int.natCast_nonneg n), shl_one (by omega), if_neg (by omega), hR])) (2 ^ n) 0 (by omega)

/-! ### facts on impl_isBits -/
theorem impl_isBits.ev (a : Int) : impl_isBits.f a = some (decide (0 ≤ a ∧ a ≤ 5)) := by
  unfold impl_isBits.f
  by_cases h : 0 ≤ a
  · rw [if_pos h]; simp [h]
  · rw [if_neg h]; simp [h]

/-! ### facts on impl_decides -/
--IMPORT M10
open Go.Proofs.Ytcelfhphmlhonaa.M in
theorem impl_decides.ev {n : Nat} (hn : n ≤ 5) (l : List S82) (hv : impl_IsSampleList.f (n : Int) l = some true) (m : Nat) : Ev (fun k => impl_decides.f k l m) (spec_l25Fits.fits l m) := by
  obtain ⟨h40, hs⟩ := spec_IsSampleList.sample hn hv
  have h5 := pow_le_5 hn
  have go : ∀ i, i < l.length → ∀ j, j < i → spec_l25Fits.okB l m i j = true → ∀ r, Ev (fun k => impl_decides.l1 k l (m : Int) l (l.length : Int) (i : Int) (l.take i) (i : Int) ((j + 1 : Nat) : Int) (l.getD i z82).f0 (l.getD i z82).f1) r → Ev (fun k => impl_decides.l1 k l (m : Int) l (l.length : Int) (i : Int) (l.take i) (i : Int) (j : Int) (l.getD i z82).f0 (l.getD i z82).f1) r := by
    intro i hi j hj hb r hn'
    obtain ⟨x, y, e1, e2, hx, hy⟩ := hs i hi
    obtain ⟨x', y', e1', e2', hx', hy'⟩ := hs j (by omega)
    have e4 : rd_T82 (l.take i) (j : Int) = l.getD j z82 := by simp [rd_T82, List.getD_eq_getElem?_getD, List.getElem?_take, hj]
    have hk := (spec_l25Fits.eqB (m := (m : Int)) e1 e2 e1' e2').mp hb
    refine Ev.step (fun k => ?_) hn'
    simp only [impl_decides.l1]
    rw [if_pos (by omega), if_pos (by omega), if_pos (by rw [List.length_take]; omega), e4, e1, e2, e1', e2', up1 (by omega)]
    by_cases c1 : Go.bits .and .i64 (x : Int) (m : Int) = Go.bits .and .i64 (x' : Int) (m : Int)
    · rw [if_pos c1, if_pos (Classical.byContradiction fun c2 => hk ⟨c1, c2⟩)]
    · rw [if_neg c1]
  have stop : ∀ i, i < l.length → ∀ j, j < i → spec_l25Fits.okB l m i j = false → Ev (fun k => impl_decides.l1 k l (m : Int) l (l.length : Int) (i : Int) (l.take i) (i : Int) (j : Int) (l.getD i z82).f0 (l.getD i z82).f1) false := by
    intro i hi j hj hb
    obtain ⟨x, y, e1, e2, hx, hy⟩ := hs i hi
    obtain ⟨x', y', e1', e2', hx', hy'⟩ := hs j (by omega)
    have e4 : rd_T82 (l.take i) (j : Int) = l.getD j z82 := by simp [rd_T82, List.getD_eq_getElem?_getD, List.getElem?_take, hj]
    have hk : Go.bits .and .i64 (x : Int) (m : Int) = Go.bits .and .i64 (x' : Int) (m : Int) ∧ (y : Int) ≠ (y' : Int) := Classical.byContradiction fun c => by rw [(spec_l25Fits.eqB (m := (m : Int)) e1 e2 e1' e2').mpr c] at hb; cases hb
    refine Ev.end (fun k => ?_)
    simp only [impl_decides.l1]
    rw [if_pos (by omega), if_pos (by omega), if_pos (by rw [List.length_take]; omega), e4, e1, e2, e1', e2', if_pos hk.1, if_neg hk.2]
  have start : ∀ i, i < l.length → ∀ k, impl_decides.l0 (k + 1) l (m : Int) l (l.length : Int) (i : Int) = impl_decides.l1 k l (m : Int) l (l.length : Int) (i : Int) (l.take i) (i : Int) ((0 : Nat) : Int) (l.getD i z82).f0 (l.getD i z82).f1 := by
    intro i hi k
    have e3 : rd_T82 l (i : Int) = l.getD i z82 := by simp [rd_T82]
    have e5 : ((l.take i).length : Int) = (i : Int) := by rw [List.length_take]; omega
    simp only [impl_decides.l0]
    rw [if_pos (by omega), if_pos (by omega), if_pos (by omega), if_pos (by omega), Option.bind_some, e3, Int.toNat_natCast, e5]; rfl
  have h := Ev.all (fun k i => impl_decides.l0 k l (m : Int) l (l.length : Int) (i : Int)) l.length (fun i => allB i (spec_l25Fits.okB l m i)) true false (fun i hi ho r hn' => by
    have h := Ev.all_on (fun k j => impl_decides.l1 k l (m : Int) l (l.length : Int) (i : Int) (l.take i) (i : Int) (j : Int) (l.getD i z82).f0 (l.getD i z82).f1) i (spec_l25Fits.okB l m i) r false (go i hi) ho (Ev.step (fun k => by
      simp only [impl_decides.l1]
      rw [if_neg (by omega), up1 (by omega)]) hn')
    exact Ev.step (start i hi) h) (fun i hi ho => by
    have h := Ev.all_bad (fun k j => impl_decides.l1 k l (m : Int) l (l.length : Int) (i : Int) (l.take i) (i : Int) (j : Int) (l.getD i z82).f0 (l.getD i z82).f1) i (spec_l25Fits.okB l m i) false (go i hi) (stop i hi) ho
    exact Ev.step (start i hi) h) (Ev.end (fun k => by
    simp only [impl_decides.l0]
    rw [if_neg (by omega)]))
  have e : (if allB l.length (fun i => allB i (spec_l25Fits.okB l m i)) = true then true else false) = spec_l25Fits.fits l m := by unfold spec_l25Fits.fits; cases allB l.length (fun i => allB i (spec_l25Fits.okB l m i)) <;> rfl
  rw [e] at h
  exact h

/-! ### facts on impl_consistent -/
--IMPORT M10
open Go.Proofs.Ytcelfhphmlhonaa.M in
theorem impl_consistent.fresh_eq (out : List Nat) (m : Nat) (h : ∀ x ∈ out, x < 32) (hm : m < 32) : impl_consistent.fresh (ints out) (m : Int) = !(out.any (fun x => x &&& m == x)) := by
  unfold impl_consistent.fresh ints
  rw [List.any_map]
  congr 1
  induction out with
  | nil => rfl
  | cons x t ih =>
    rw [List.any_cons, List.any_cons, ih (fun y hy => h y (List.mem_cons_of_mem _ hy))]
    congr 1
    have hx := h x List.mem_cons_self
    show (Go.bits .andNot .i64 (x : Int) (m : Int) == 0) = (x &&& m == x)
    rw [andNot_nat (by omega) (by omega)]
    by_cases hs : x &&& m = x
    · rw [subset_iff.mp hs, hs]; simp
    · have hz : andn x m ≠ 0 := fun e => hs (subset_iff.mpr e)
      have e1 : (((andn x m : Nat) : Int) == 0) = false := by rw [beq_eq_false_iff_ne]; omega
      rw [e1]; simp [hs]
open Go.Proofs.Ytcelfhphmlhonaa.M in
theorem impl_consistent.ev {n : Nat} (hn : n ≤ 5) (l : List S82) (hv : impl_IsSampleList.f (n : Int) l = some true) : Ev (fun k => impl_consistent.f k n l) (ints (spec_ConsistentSets.sets l (2 ^ n))) := by
  have h5 := pow_le_5 hn
  have key : ∀ m, m ≤ 2 ^ n → Ev (fun k => impl_consistent.con (fun m => impl_decides.f k l (m : Int)) m) (ints (spec_ConsistentSets.sets l m)) := by
    intro m
    induction m with
    | zero => intro _; exact Ev.now _
    | succ m ih =>
      intro hm
      have hlt := spec_ConsistentSets.sets_lt l m
      refine Ev.bind (ih (by omega)) (Ev.bind (impl_decides.ev hn l hv m) ?_)
      rw [spec_ConsistentSets.sets, impl_consistent.fresh_eq _ m (fun x hx => by have := hlt x hx; omega) (by omega)]
      unfold spec_ConsistentSets.okm
      cases spec_l25Fits.fits l m <;> cases (spec_ConsistentSets.sets l m).any (fun x => x &&& m == x) <;> simp [ints_append] <;> exact Ev.now _
  refine Ev.congr (fun k => ?_) (key (2 ^ n) (Nat.le_refl _))
  unfold impl_consistent.f
  rw [if_pos (by omega), Int.toNat_natCast]

/-! ### facts on impl_ConsistentSets -/
--IMPORT M10
open Go.Proofs.Ytcelfhphmlhonaa.M in
theorem impl_ConsistentSets.ev (a : Int) (l : List S82) : Ev (fun k => impl_ConsistentSets.f k a l) (spec_ConsistentSets.r a l) := by
  obtain ⟨q, hq⟩ : ∃ q, impl_IsSampleList.f a l = some q := ⟨_, rfl⟩
  cases q with
  | false =>
    have : spec_ConsistentSets.r a l = ([], false) := by unfold spec_ConsistentSets.r; rw [if_neg (by rw [hq]; simp)]
    rw [this]
    refine Ev.congr (fun k => ?_) (Ev.now _)
    unfold impl_ConsistentSets.f
    rw [hq]; rfl
  | true =>
    have hr : spec_ConsistentSets.r a l = (ints (spec_ConsistentSets.sets l (2 ^ a.toNat)), true) := by unfold spec_ConsistentSets.r; rw [if_pos hq]
    obtain ⟨n, rfl, hn, h40⟩ := spec_IsSampleList.list_n hq
    rw [hr, Int.toNat_natCast]
    refine Ev.congr (f := fun k => (impl_consistent.f k n l).bind fun t => some (t, true)) (fun k => ?_) (Ev.bind (impl_consistent.ev hn l hq) (Ev.now _))
    unfold impl_ConsistentSets.f
    rw [hq]; rfl

/-! ### facts on laws_eqIntS -/
--IMPORT M5
open Go.Proofs.Ytcelfhphmlhonaa.M in
theorem laws_eqIntS.ev (l : List Int) (h : l.length ≤ 1048576) : Ev (fun k => laws_eqIntS.f k l l) true := by
  have key : ∀ d i, i + d = l.length → Ev (fun k => laws_eqIntS.l0 k l l (i : Int)) true := by
    refine Ev.count (fun k i => laws_eqIntS.l0 k l l (i : Int)) l.length _ ?_ ?_
    · intro i hi hn
      refine Ev.step (fun k => ?_) hn
      simp only [laws_eqIntS.l0, if_true]
      rw [if_pos (by omega), if_pos (by omega), if_pos (by omega), w64 (by omega) (by omega)]; rfl
    · refine Ev.end (fun k => ?_)
      simp only [laws_eqIntS.l0]
      rw [if_neg (by omega)]
  refine Ev.congr (fun k => ?_) (key l.length 0 (by omega))
  unfold laws_eqIntS.f
  rw [if_pos rfl]; rfl

/-! ### facts on laws_markSampleS -/
--IMPORT M5
/-- samples with a, a + 1, a + 2, .. in their fields -/
def laws_markSampleS.up (a : Int) (n : Nat) : List S82 := (List.range n).map (fun j : Nat => (⟨a + 2 * (j : Int), a + 2 * (j : Int) + 1⟩ : S82))
theorem laws_markSampleS.up_length (a : Int) (n : Nat) : (laws_markSampleS.up a n).length = n := by simp [laws_markSampleS.up]
theorem laws_markSampleS.up_rd {a : Int} {n i : Nat} (h : i < n) : rd_T82 (laws_markSampleS.up a n) (i : Int) = ⟨a + 2 * (i : Int), a + 2 * (i : Int) + 1⟩ := by simp [rd_T82, laws_markSampleS.up, List.getD_eq_getElem?_getD, h]
theorem laws_markSampleS.up_set {a : Int} {l : List S82} {i : Nat} (h : i < l.length) : (laws_markSampleS.up a i ++ l.drop i).set i ⟨a + 2 * (i : Int), a + 2 * (i : Int) + 1⟩ = laws_markSampleS.up a (i + 1) ++ l.drop (i + 1) := by
  apply List.ext_getElem?
  intro j
  rw [List.getElem?_set]
  by_cases hj : i = j
  · subst hj
    rw [if_pos rfl, if_pos (by simp [laws_markSampleS.up_length]; omega), List.getElem?_append_left (by rw [laws_markSampleS.up_length]; omega)]
    simp [laws_markSampleS.up]
  · rw [if_neg hj]
    by_cases h2 : j < i
    · rw [List.getElem?_append_left (by rw [laws_markSampleS.up_length]; omega), List.getElem?_append_left (by rw [laws_markSampleS.up_length]; omega)]
      simp [laws_markSampleS.up, h2, show j < i + 1 by omega]
    · rw [List.getElem?_append_right (by rw [laws_markSampleS.up_length]; omega), List.getElem?_append_right (by rw [laws_markSampleS.up_length]; omega), laws_markSampleS.up_length, laws_markSampleS.up_length, List.getElem?_drop, List.getElem?_drop]
      congr 1; omega
open Go.Proofs.Ytcelfhphmlhonaa.M in
theorem laws_markSampleS.ev (l : List S82) (h : l.length ≤ 1048576) : Ev (fun k => laws_markSampleS.f k l 1) (1 + 2 * (l.length : Int), laws_markSampleS.up 1 l.length) := by
  have key : ∀ d i, i + d = l.length → Ev (fun k => laws_markSampleS.l0 k (laws_markSampleS.up 1 i ++ l.drop i) (1 + 2 * (i : Int)) (i : Int)) (1 + 2 * (l.length : Int), laws_markSampleS.up 1 l.length) := by
    refine Ev.count (fun k i => laws_markSampleS.l0 k (laws_markSampleS.up 1 i ++ l.drop i) (1 + 2 * (i : Int)) (i : Int)) l.length _ ?_ ?_
    · intro i hi hn
      have hlen : (laws_markSampleS.up 1 i ++ l.drop i).length = l.length := by simp [laws_markSampleS.up_length]; omega
      refine Ev.step (fun k => ?_) hn
      simp only [laws_markSampleS.l0, Option.bind_some]
      rw [if_pos (by rw [hlen]; omega), if_pos (by omega), Int.toNat_natCast, List.set_set, w64 (by omega) (by omega), w64 (by omega) (by omega), w64 (by omega) (by omega)]
      have e0 : (rd_T82 ((laws_markSampleS.up 1 i ++ l.drop i).set i ⟨1 + 2 * (i : Int), (rd_T82 (laws_markSampleS.up 1 i ++ l.drop i) (i : Int)).f1⟩) (i : Int)).f0 = 1 + 2 * (i : Int) := by
        simp [rd_T82, List.getD_eq_getElem?_getD, hlen, hi]
      rw [e0, laws_markSampleS.up_set hi]
      congr 1 <;> omega
    · refine Ev.end (fun k => ?_)
      simp only [laws_markSampleS.l0]
      rw [if_neg (by simp [laws_markSampleS.up_length])]
      simp
  have h0 := key l.length 0 (by omega)
  rw [show laws_markSampleS.up 1 0 ++ l.drop 0 = l from by simp [laws_markSampleS.up]] at h0
  refine Ev.congr (fun k => ?_) h0
  unfold laws_markSampleS.f
  rfl

/-! ### facts on laws_markIntS -/
--IMPORT M5
open Go.Proofs.Ytcelfhphmlhonaa.M in
theorem laws_markIntS.ev (l : List Int) (a : Int) (h : l.length ≤ 1048576) (ha : 0 ≤ a) (hb : a ≤ 1000000000000) : Ev (fun k => laws_markIntS.f k l a) (a + (l.length : Int), upTo a l.length) := by
  have key : ∀ d i, i + d = l.length → Ev (fun k => laws_markIntS.l0 k (upTo a i ++ l.drop i) (a + (i : Int)) (i : Int)) (a + (l.length : Int), upTo a l.length) := by
    refine Ev.count (fun k i => laws_markIntS.l0 k (upTo a i ++ l.drop i) (a + (i : Int)) (i : Int)) l.length _ ?_ ?_
    · intro i hi hn
      refine Ev.step (fun k => ?_) hn
      simp only [laws_markIntS.l0]
      rw [if_pos (by rw [upTo_len (by omega)]; omega), if_pos (by omega), Int.toNat_natCast, upTo_set hi, w64 (by omega) (by omega), w64 (by omega) (by omega)]
      congr 1; omega
    · refine Ev.end (fun k => ?_)
      simp only [laws_markIntS.l0]
      rw [upTo_all, if_neg (by rw [upTo_length]; omega)]
  have h0 := key l.length 0 (by omega)
  rw [upTo_zero] at h0
  refine Ev.congr (fun k => ?_) h0
  unfold laws_markIntS.f
  simp

/-! ### facts on laws_heldIntS -/
--IMPORT M5
open Go.Proofs.Ytcelfhphmlhonaa.M in
theorem laws_heldIntS.ev (n : Nat) (a : Int) (h : n ≤ 1048576) (ha : 0 ≤ a) (hb : a ≤ 1000000000000) : Ev (fun k => laws_heldIntS.f k (upTo a n) a) (a + (n : Int)) := by
  have key : ∀ d i, i + d = n → Ev (fun k => laws_heldIntS.l0 k (upTo a n) (a + (i : Int)) (i : Int)) (a + (n : Int)) := by
    refine Ev.count (fun k i => laws_heldIntS.l0 k (upTo a n) (a + (i : Int)) (i : Int)) n _ ?_ ?_
    · intro i hi hn
      refine Ev.step (fun k => ?_) hn
      simp only [laws_heldIntS.l0]
      rw [if_pos (by rw [upTo_length]; omega), if_pos (by omega), upTo_rd hi, if_pos rfl, w64 (by omega) (by omega), w64 (by omega) (by omega)]
      congr 1; omega
    · refine Ev.end (fun k => ?_)
      simp only [laws_heldIntS.l0]
      rw [if_neg (by rw [upTo_length]; omega)]
  refine Ev.congr (fun k => ?_) (key n 0 (by omega))
  unfold laws_heldIntS.f
  simp

/-! ### facts on laws_FnExactConsistentSets -/
--IMPORT M10
open Go.Proofs.Ytcelfhphmlhonaa.M in
theorem laws_FnExactConsistentSets.pure_ : laws_FnExactConsistentSets.Pure := by
  intro a l0 _ hm _
  unfold maxLen at hm
  by_cases hl0 : l0.length ≤ 1048576
  · obtain ⟨K1, h1⟩ : ∃ K, ∀ k, K ≤ k → laws_toSampleS.f k l0 = some (l0.map laws_toSampleS.conv) := laws_toSampleS.ev l0 hl0
    have hl : (l0.map laws_toSampleS.conv).length ≤ 1048576 := by simpa using hl0
    have hz : laws_szSampleS.f l0 1048576 = some (1048576 - (l0.length : Int)) := by
      have e : wrap64 (1048576 - (l0.length : Int)) = 1048576 - (l0.length : Int) := w64 (by omega) (by omega)
      unfold laws_szSampleS.f
      simp [e]
      omega
    have hn : ¬ (1048576 - (l0.length : Int) < 0) := by omega
    generalize l0.map laws_toSampleS.conv = l at h1 hl
    have hr : (spec_ConsistentSets.r a l).1.length ≤ 1048576 := by
      unfold spec_ConsistentSets.r; split
      · rename_i h
        obtain ⟨n, rfl, hn, _⟩ := spec_IsSampleList.list_n h
        have := spec_ConsistentSets.sets_len l (2 ^ n)
        have := pow_le_5 hn
        simp only [Int.toNat_natCast]
        rw [ints_length]; omega
      · simp
    have hs := spec_ConsistentSets.ev a l
    have hi := impl_ConsistentSets.ev a l
    generalize spec_ConsistentSets.r a l = rb at hs hi hr
    obtain ⟨r, q⟩ := rb
    simp only [] at hr
    obtain ⟨K3, h3⟩ : ∃ K, ∀ k, K ≤ k → laws_eqSampleS.f k l l = some true := laws_eqSampleS.ev l hl
    obtain ⟨K5, h5⟩ : ∃ K, ∀ k, K ≤ k → spec_ConsistentSets.f k a l = some (r, q) := hs
    obtain ⟨K6, h6⟩ : ∃ K, ∀ k, K ≤ k → impl_ConsistentSets.f k a l = some (r, q) := hi
    obtain ⟨K7, h7⟩ : ∃ K, ∀ k, K ≤ k → laws_eqIntS.f k r r = some true := laws_eqIntS.ev r hr
    obtain ⟨K8, h8⟩ : ∃ K, ∀ k, K ≤ k → laws_markSampleS.f k l 1 = some (1 + 2 * (l.length : Int), laws_markSampleS.up 1 l.length) := laws_markSampleS.ev l hl
    obtain ⟨K10, h10⟩ : ∃ K, ∀ k, K ≤ k → laws_markIntS.f k r 1 = some (1 + (r.length : Int), upTo 1 r.length) := laws_markIntS.ev r 1 hr (by decide) (by decide)
    obtain ⟨K11, h11⟩ : ∃ K, ∀ k, K ≤ k → laws_heldIntS.f k (upTo 1 r.length) 1 = some (1 + (r.length : Int)) := laws_heldIntS.ev r.length 1 hr (by decide) (by decide)
    have n3 : ¬ (1 + 2 * (l.length : Int) < 0) := by omega
    have n4 : ¬ (1 + (r.length : Int) < 0) := by omega
    refine ⟨K1 + K3 + K5 + K6 + K7 + K8 + K10 + K11 + 3, ?_⟩
    simp (disch := omega) only [laws_FnExactConsistentSets.f, h1, h3, h5, h6, h7, h8, h10, h11, hz, hn, n3, n4, ↓reduceIte, Option.bind_some, bne_self_eq_false, Bool.false_eq_true]
    simp (disch := omega) only [laws_FnExactConsistentSets.j0, h1, h3, h5, h6, h7, h8, h10, h11, hz, hn, n3, n4, ↓reduceIte, Option.bind_some, bne_self_eq_false, Bool.false_eq_true]
    simp (disch := omega) only [laws_FnExactConsistentSets.j1, h1, h3, h5, h6, h7, h8, h10, h11, hz, hn, n3, n4, ↓reduceIte, Option.bind_some, bne_self_eq_false, Bool.false_eq_true]
    simp (disch := omega) only [laws_FnExactConsistentSets.j2, h1, h3, h5, h6, h7, h8, h10, h11, hz, hn, n3, n4, ↓reduceIte, Option.bind_some, bne_self_eq_false, Bool.false_eq_true]
  · have e : wrap64 (1048576 - (l0.length : Int)) < 0 := by rw [w64 (by omega) (by omega)]; omega
    exact ⟨0, by unfold laws_FnExactConsistentSets.f laws_szSampleS.f; rw [if_pos e]; simp⟩

end Go.Proofs.Ytcelfhphmlhonaa.Print
