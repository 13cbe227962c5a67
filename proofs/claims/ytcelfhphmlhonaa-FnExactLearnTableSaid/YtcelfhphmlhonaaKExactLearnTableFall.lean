/- Functions of the given program as plain Lean functions, with proofs that their calls compute them, or lemmas on these. Laid by a program of this repo for the seat Ytcelfhphmlhonaa; Lean checks it. -/
import Derived.Test.YtcelfhphmlhonaaKExactLearnTable0
import Derived.Test.YtcelfhphmlhonaaKExactLearnTable1
import Derived.Test.YtcelfhphmlhonaaKExactLearnTable2
import Derived.Test.YtcelfhphmlhonaaKExactLearnTable5
import Derived.Test.YtcelfhphmlhonaaKExactLearnTable8
import Derived.Test.YtcelfhphmlhonaaKExactLearnTable9
import Derived.Test.YtcelfhphmlhonaaM3
import Derived.Test.YtcelfhphmlhonaaM10
namespace Go.Proofs.Ytcelfhphmlhonaa.Print
open Go.RowKit Go.Proofs.YtcelfhphmlhonaaW.PrintWords Go.Proofs.YtcelfhphmlhonaaW.PrintLast Go.Proofs.YtcelfhphmlhonaaW.PrintMore
attribute [local go_sem] max2_int min2_int max_two min_two max_three min_three max_four min_four   -- for this text's walks alone
set_option linter.unusedVariables false
set_option linter.unusedSimpArgs false

/-! ### facts on laws_toSampleS -/
--IMPORT M3
/-- a sample of the laws' own type as one of the program's -/
def laws_toSampleS.conv (x : S84) : S82 := ⟨x.f0, x.f1⟩
open Go.Proofs.Ytcelfhphmlhonaa.M in
theorem laws_toSampleS.ev (l : List S84) (h : l.length ≤ 1048576) : Ev (fun k => laws_toSampleS.f k l) (l.map laws_toSampleS.conv) := by
  have key : ∀ d i, i + d = l.length → Ev (fun k => laws_toSampleS.l0 k l (fillAt laws_toSampleS.conv z82 l i) (i : Int)) (l.map laws_toSampleS.conv) := by
    refine Ev.count (fun k i => laws_toSampleS.l0 k l (fillAt laws_toSampleS.conv z82 l i) (i : Int)) l.length _ ?_ ?_
    · intro i hi hn
      refine Ev.step (fun k => ?_) hn
      have hl := fillAt_length laws_toSampleS.conv z82 l (i := i) (by omega)
      simp only [laws_toSampleS.l0, laws_toSample.f, Option.bind_some]
      rw [if_pos (by omega), if_pos (by omega), if_pos (by rw [hl]; omega), w64 (by omega) (by omega)]
      have e := fillAt_set laws_toSampleS.conv z82 l z84 hi
      have e2 : (⟨(rd_T84 l (i : Int)).f0, (rd_T84 l (i : Int)).f1⟩ : S82) = laws_toSampleS.conv (l.getD i z84) := by simp [rd_T84, laws_toSampleS.conv]
      rw [e2, Int.toNat_natCast, e]; rfl
    · refine Ev.end (fun k => ?_)
      simp only [laws_toSampleS.l0]
      rw [if_neg (by omega), fillAt_all]
  have h0 := key l.length 0 (by omega)
  rw [fillAt_zero] at h0
  refine Ev.congr (fun k => ?_) h0
  unfold laws_toSampleS.f
  rw [if_pos (by omega), if_pos (by simp; omega), Int.toNat_natCast]; rfl

/-! ### facts on laws_eqSampleS -/
--IMPORT M3
open Go.Proofs.Ytcelfhphmlhonaa.M in
theorem laws_eqSampleS.ev (l : List S82) (h : l.length ≤ 1048576) : Ev (fun k => laws_eqSampleS.f k l l) true := by
  have key : ∀ d i, i + d = l.length → Ev (fun k => laws_eqSampleS.l0 k l l (i : Int)) true := by
    refine Ev.count (fun k i => laws_eqSampleS.l0 k l l (i : Int)) l.length _ ?_ ?_
    · intro i hi hn
      refine Ev.step (fun k => ?_) hn
      simp only [laws_eqSampleS.l0, laws_eqSample.f, if_true, Option.bind_some]
      rw [if_pos (by omega), if_pos (by omega), if_pos (by omega), w64 (by omega) (by omega)]; rfl
    · refine Ev.end (fun k => ?_)
      simp only [laws_eqSampleS.l0]
      rw [if_neg (by omega)]
  refine Ev.congr (fun k => ?_) (key l.length 0 (by omega))
  unfold laws_eqSampleS.f
  rw [if_pos rfl]; rfl

/-! ### facts on spec_l1In -/
theorem spec_l1In.ev (a b c : Int) : spec_l1In.f a b c = some (decide (b ≤ a ∧ a ≤ c)) := by
  unfold spec_l1In.f
  by_cases h : b ≤ a
  · rw [if_pos h]; simp [h]
  · rw [if_neg h]; simp [h]

/-! ### facts on spec_IsSampleList -/
--IMPORT M3
open Go.Proofs.Ytcelfhphmlhonaa.M in
theorem spec_IsSampleList.sample {n : Nat} {l : List S82} (hn : n ≤ 5) (h : impl_IsSampleList.f (n : Int) l = some true) : l.length ≤ 40 ∧ ∀ j, j < l.length → ∃ x y : Nat, (l.getD j z82).f0 = (x : Int) ∧ (l.getD j z82).f1 = (y : Int) ∧ x < 2 ^ n ∧ y ≤ 1 := by
  have h := Option.some.inj h
  rw [Bool.and_eq_true, Bool.and_eq_true] at h
  obtain ⟨⟨h1, h2⟩, h3⟩ := h
  have h2 := of_decide_eq_true h2
  refine ⟨h2, fun j hj => ?_⟩
  rw [List.all_eq_true] at h3
  have h4 := h3 _ (List.getElem_mem hj)
  have e : l.getD j z82 = l[j] := by simp [List.getD_eq_getElem?_getD, hj]
  rw [e]
  unfold impl_IsSampleList.ok at h4
  rw [Bool.and_eq_true] at h4
  obtain ⟨h5, h6⟩ := h4
  have h5 := of_decide_eq_true h5
  have h6 := of_decide_eq_true h6
  rw [Int.toNat_natCast] at h5
  exact ⟨l[j].f0.toNat, l[j].f1.toNat, by omega, by omega, by omega, by omega⟩
open Go.Proofs.Ytcelfhphmlhonaa.M in
theorem spec_IsSampleList.list_n {a : Int} {l : List S82} (h : impl_IsSampleList.f a l = some true) : ∃ n : Nat, a = (n : Int) ∧ n ≤ 5 ∧ l.length ≤ 40 := by
  have h' := Option.some.inj h
  rw [Bool.and_eq_true, Bool.and_eq_true] at h'
  have h1 := of_decide_eq_true h'.1.1
  have h2 := of_decide_eq_true h'.1.2
  exact ⟨a.toNat, by omega, by omega, h2⟩
open Go.Proofs.Ytcelfhphmlhonaa.M in
theorem spec_IsSampleList.ev (a : Int) (l : List S82) (r : Bool) (h : impl_IsSampleList.f a l = some r) : Ev (fun k => spec_IsSampleList.f k a l) r := by
  have hr := Option.some.inj h
  unfold spec_IsSampleList.f
  rw [spec_l1In.ev]
  by_cases ha : 0 ≤ a ∧ a ≤ 5
  · rw [decide_eq_true ha, Bool.true_and] at hr
    obtain ⟨n, rfl⟩ := nat_of ha.1
    have h5 := pow_le_5 (n := n) (by omega)
    simp only [decide_eq_true ha, Option.bind_some, if_true]
    by_cases h40 : l.length ≤ 40
    · rw [decide_eq_true h40, Bool.true_and] at hr
      have key : ∀ d i, i + d = l.length → Ev (fun k => spec_IsSampleList.l0 k n l (i : Int)) ((l.drop i).all (impl_IsSampleList.ok n)) := by
        intro d
        induction d with
        | zero =>
          intro i hi
          obtain rfl : i = l.length := by omega
          refine Ev.end (fun k => ?_)
          simp only [spec_IsSampleList.l0]
          rw [if_neg (by omega)]; simp
        | succ d ih =>
          intro i hi
          have hd : l.drop i = l.getD i z82 :: l.drop (i + 1) := by
            rw [List.drop_eq_getElem_cons (by omega)]
            simp [List.getD_eq_getElem?_getD, show i < l.length by omega]
          have hx : rd_T82 l (i : Int) = l.getD i z82 := by simp [rd_T82]
          rw [hd, List.all_cons]
          generalize l.getD i z82 = x at *
          have hpos := Nat.two_pow_pos n
          have es : wrap64 (shl .i64 1 (n : Int) - 1) = ((2 ^ n : Nat) : Int) - 1 := by rw [shl_one (by omega), w64 (by omega) (by omega)]
          have P1 : (0 ≤ x.f0 ∧ x.f0 ≤ ((2 ^ n : Nat) : Int) - 1) ↔ (0 ≤ x.f0 ∧ x.f0 < ((2 ^ n : Nat) : Int)) := by omega
          have P2 : (0 ≤ x.f1 ∧ x.f1 ≤ 1) ↔ (x.f1 = 0 ∨ x.f1 = 1) := by omega
          by_cases o1 : 0 ≤ x.f0 ∧ x.f0 < ((2 ^ n : Nat) : Int)
          · by_cases o2 : x.f1 = 0 ∨ x.f1 = 1
            · have ok : impl_IsSampleList.ok n x = true := by unfold impl_IsSampleList.ok; rw [Int.toNat_natCast, decide_eq_true o1, decide_eq_true o2]; rfl
              rw [ok, Bool.true_and]
              refine Ev.step (fun k => ?_) (ih (i + 1) (by omega))
              simp only [spec_IsSampleList.l0]
              rw [if_pos (by omega), if_pos (by omega), if_pos (Int.natCast_nonneg n), hx, es, spec_l1In.ev, spec_l1In.ev, decide_eq_true (P1.mpr o1), decide_eq_true (P2.mpr o2), Option.bind_some, if_pos rfl, Option.bind_some, if_pos rfl, w64 (by omega) (by omega)]; rfl
            · have ok : impl_IsSampleList.ok n x = false := by unfold impl_IsSampleList.ok; rw [decide_eq_false o2, Bool.and_false]
              rw [ok, Bool.false_and]
              refine Ev.end (fun k => ?_)
              simp only [spec_IsSampleList.l0]
              rw [if_pos (by omega), if_pos (by omega), if_pos (Int.natCast_nonneg n), hx, es, spec_l1In.ev, spec_l1In.ev, decide_eq_true (P1.mpr o1), decide_eq_false (fun e => o2 (P2.mp e)), Option.bind_some, if_pos rfl, Option.bind_some, if_neg (by decide)]
          · have ok : impl_IsSampleList.ok n x = false := by unfold impl_IsSampleList.ok; rw [Int.toNat_natCast, decide_eq_false o1, Bool.false_and]
            rw [ok, Bool.false_and]
            refine Ev.end (fun k => ?_)
            simp only [spec_IsSampleList.l0]
            rw [if_pos (by omega), if_pos (by omega), if_pos (Int.natCast_nonneg n), hx, es, spec_l1In.ev, decide_eq_false (fun e => o1 (P1.mp e)), Option.bind_some, if_neg (by decide)]
      have h0 := key l.length 0 (by omega)
      rw [List.drop_zero, hr] at h0
      refine Ev.step (fun k => ?_) h0
      simp only [spec_IsSampleList.j0]
      rw [if_neg (by simp; omega)]; rfl
    · rw [decide_eq_false h40] at hr
      subst hr
      refine Ev.end (fun k => ?_)
      simp only [spec_IsSampleList.j0]
      rw [if_pos (by simp; omega)]; rfl
  · rw [decide_eq_false ha] at hr
    subst hr
    simp only [decide_eq_false ha, Option.bind_some]
    refine Ev.end (fun k => ?_)
    rw [if_neg (by decide)]
    simp only [spec_IsSampleList.j0, if_true]; rfl

/-! ### facts on spec_LearnTable -/
--IMPORT M10
open Go.Proofs.Ytcelfhphmlhonaa.M in
/-- the answer -/
def spec_LearnTable.r (a : Int) (l : List S82) (m : Int) : Int × Int × Bool := if impl_IsSampleList.f a l = some true ∧ inR a.toNat m = true then (a, ((impl_LearnTable.word l m a.toNat : Nat) : Int), true) else (0, 0, false)
open Go.Proofs.Ytcelfhphmlhonaa.M in
theorem spec_LearnTable.hit_of (l : List S82) (m x : Int) (i : Nat) (hi : i < l.length) (hb : ∀ j, j < i → impl_LearnTable.agree m x (l.getD j z82) = false) (h : impl_LearnTable.agree m x (l.getD i z82) = true) : impl_LearnTable.hit l m x = ((l.getD i z82).f1 == 1) := by
  have e : l.findIdx? (impl_LearnTable.agree m x) = some i := by
    rw [List.findIdx?_eq_some_iff_getElem]
    refine ⟨hi, ?_, fun j hj => ?_⟩
    · simpa [List.getD_eq_getElem?_getD, hi] using h
    · have := hb j hj
      simpa [List.getD_eq_getElem?_getD, show j < l.length by omega] using this
  unfold impl_LearnTable.hit; rw [e]
theorem spec_LearnTable.hit_none (l : List S82) (m x : Int) (hb : ∀ j, j < l.length → impl_LearnTable.agree m x (l.getD j z82) = false) : impl_LearnTable.hit l m x = false := by
  have e : l.findIdx? (impl_LearnTable.agree m x) = none := by
    rw [List.findIdx?_eq_none_iff]
    intro y hy
    obtain ⟨j, hj, rfl⟩ := List.getElem_of_mem hy
    have := hb j hj
    simpa [List.getD_eq_getElem?_getD, hj] using this
  unfold impl_LearnTable.hit; rw [e]
open Go.Proofs.Ytcelfhphmlhonaa.M in
theorem spec_LearnTable.bad (a : Int) (l : List S82) (m : Int) : Ev (fun k => spec_LearnTable.j0 k a l m true) (0, 0, false) := Ev.end (fun k => by simp only [spec_LearnTable.j0, if_true])
open Go.Proofs.Ytcelfhphmlhonaa.M in
theorem spec_LearnTable.ev (a : Int) (l : List S82) (m : Int) : Ev (fun k => spec_LearnTable.f k a l m) (spec_LearnTable.r a l m) := by
  obtain ⟨q, hq⟩ : ∃ q, impl_IsSampleList.f a l = some q := ⟨_, rfl⟩
  have h1 := spec_IsSampleList.ev a l q hq
  refine Ev.bind h1 ?_
  cases q with
  | false =>
    have : spec_LearnTable.r a l m = (0, 0, false) := by unfold spec_LearnTable.r; rw [if_neg (by rw [hq]; simp)]
    rw [this]
    exact spec_LearnTable.bad a l m
  | true =>
    obtain ⟨n, rfl, hn, h40⟩ := spec_IsSampleList.list_n hq
    have h5 := pow_le_5 hn
    have hpos := Nat.two_pow_pos n
    have es : wrap64 (shl .i64 1 (n : Int) - 1) = ((2 ^ n : Nat) : Int) - 1 := by rw [shl_one (by omega), w64 (by omega) (by omega)]
    have e1 : decide (0 ≤ m ∧ m ≤ ((2 ^ n : Nat) : Int) - 1) = inR n m := by unfold inR; apply decide_eq_decide.mpr; omega
    simp only [if_true, Int.natCast_nonneg, es, spec_l1In.ev, e1, Option.bind_some]
    cases hb : inR n m with
    | false =>
      have : spec_LearnTable.r (n : Int) l m = (0, 0, false) := by unfold spec_LearnTable.r; rw [if_neg (by rw [Int.toNat_natCast, hb]; simp)]
      rw [this]
      exact spec_LearnTable.bad n l m
    | true =>
      have hr : spec_LearnTable.r (n : Int) l m = ((n : Int), ((impl_LearnTable.word l m n : Nat) : Int), true) := by unfold spec_LearnTable.r; rw [if_pos ⟨hq, by rw [Int.toNat_natCast, hb]⟩, Int.toNat_natCast]
      rw [hr]
      clear hr
      obtain ⟨mm, rfl, hmm⟩ := inR_nat hb
      obtain ⟨_, hs⟩ := spec_IsSampleList.sample hn hq
      unfold impl_LearnTable.word
      generalize hR : ((n : Int), ((Go.Proofs.Ytcelfhphmlhonaa.M.prefW (fun x => impl_LearnTable.hit l (mm : Int) (x : Int)) (2 ^ n) : Nat) : Int), true) = R
      generalize hg : (fun x : Nat => impl_LearnTable.hit l (mm : Int) (x : Int)) = g at *
      have row : ∀ x, x < 2 ^ n → Ev (fun k => spec_LearnTable.l0 k n l mm ((prefW g (x + 1) : Nat) : Int) ((x + 1 : Nat) : Int)) R → Ev (fun k => spec_LearnTable.l0 k n l mm ((prefW g x : Nat) : Int) (x : Int)) R := by
        intro x hx hnext
        have hgx : g x = impl_LearnTable.hit l (mm : Int) (x : Int) := by rw [← hg]
        have inner : ∀ d i, i + d = l.length → (∀ j, j < i → impl_LearnTable.agree (mm : Int) (x : Int) (l.getD j z82) = false) → Ev (fun k => spec_LearnTable.l1 k n l mm ((prefW g x : Nat) : Int) (x : Int) (i : Int)) R := by
          intro d
          induction d with
          | zero =>
            intro i hi hno
            obtain rfl : i = l.length := by omega
            rw [spec_LearnTable.hit_none l _ _ hno] at hgx
            rw [prefW_skip hgx] at hnext
            refine Ev.step (fun k => ?_) hnext
            simp only [spec_LearnTable.l1]
            rw [if_neg (by omega), up1 (by omega)]
          | succ d ih =>
            intro i hi hno
            obtain ⟨y, v, e1, e2, hy, hv⟩ := hs i (by omega)
            have e3 : rd_T82 l (i : Int) = l.getD i z82 := by simp [rd_T82]
            have ht := xor_and_int (a := y) (b := x) (m := mm) (by omega) (by omega) (by omega)
            have ea : impl_LearnTable.agree (mm : Int) (x : Int) (l.getD i z82) = (Go.bits .and .i64 (y : Int) (mm : Int) == Go.bits .and .i64 (x : Int) (mm : Int)) := by unfold impl_LearnTable.agree; rw [e1]
            by_cases c : Go.bits .and .i64 (y : Int) (mm : Int) = Go.bits .and .i64 (x : Int) (mm : Int)
            · rw [spec_LearnTable.hit_of l _ _ i (by omega) hno (by rw [ea]; exact beq_iff_eq.mpr c), e2] at hgx
              have hv2 : v = (g x).toNat := by
                rw [hgx]
                obtain rfl | rfl : v = 0 ∨ v = 1 := by omega
                · rfl
                · rfl
              refine Ev.step (fun k => ?_) hnext
              simp only [spec_LearnTable.l1]
              rw [if_pos (by omega), if_pos (by omega), e3, e1, e2, if_pos (ht.mpr c), if_pos (by omega), hv2, prefW_step (by omega), up1 (by omega)]
            · have hf : impl_LearnTable.agree (mm : Int) (x : Int) (l.getD i z82) = false := by rw [ea]; exact beq_eq_false_iff_ne.mpr c
              refine Ev.step (fun k => ?_) (ih (i + 1) (by omega) (fun j hj => by
                by_cases e : j = i
                · subst e; exact hf
                · exact hno j (by omega)))
              simp only [spec_LearnTable.l1]
              rw [if_pos (by omega), if_pos (by omega), e3, e1, if_neg (fun e => c (ht.mp e)), up1 (by omega)]
        refine Ev.step (fun k => ?_) (inner l.length 0 (by omega) (fun j hj => by omega))
        simp only [spec_LearnTable.l0]
        rw [if_pos (Int.natCast_nonneg n), shl_one (by omega), if_pos (by omega)]; rfl
      have h0 := Ev.count (fun k x => spec_LearnTable.l0 k n l mm ((prefW g x : Nat) : Int) (x : Int)) (2 ^ n) R row (Ev.end (fun k => by
        simp only [spec_LearnTable.l0]
        rw [if_pos (Int.natCast_nonneg n), shl_one (by omega), if_neg (by omega), ← hR])) (2 ^ n) 0 (by omega)
      refine Ev.step (fun k => ?_) h0
      simp only [spec_LearnTable.j0, Bool.not_true, Bool.false_eq_true, if_false]
      rfl

/-! ### facts on impl_isBits -/
theorem impl_isBits.ev (a : Int) : impl_isBits.f a = some (decide (0 ≤ a ∧ a ≤ 5)) := by
  unfold impl_isBits.f
  by_cases h : 0 ≤ a
  · rw [if_pos h]; simp [h]
  · rw [if_neg h]; simp [h]

/-! ### facts on impl_LearnTable -/
--IMPORT M10
open Go.Proofs.Ytcelfhphmlhonaa.M in
theorem impl_LearnTable.ev (a : Int) (l : List S82) (m : Int) : impl_LearnTable.f a l m = some (spec_LearnTable.r a l m) := by
  obtain ⟨q, hq⟩ : ∃ q, impl_IsSampleList.f a l = some q := ⟨_, rfl⟩
  unfold impl_LearnTable.f spec_LearnTable.r
  rw [hq]
  cases q with
  | false =>
    show some (0, 0, false) = _
    rw [if_neg (by simp)]
  | true =>
    rw [Option.bind_some, if_pos rfl]
    cases hb : inR a.toNat m with
    | true => rw [if_pos rfl, if_pos ⟨rfl, rfl⟩]
    | false => rw [if_neg (by decide), if_neg (by simp)]

/-! ### facts on laws_FnExactLearnTable -/
--IMPORT M10
open Go.Proofs.Ytcelfhphmlhonaa.M in
theorem laws_FnExactLearnTable.pure_ : laws_FnExactLearnTable.Pure := by
  intro a l0 m _ hm _ _
  unfold maxLen at hm
  by_cases hl0 : l0.length ≤ 1048576
  · obtain ⟨K1, h1⟩ : ∃ K, ∀ k, K ≤ k → laws_toSampleS.f k l0 = some (l0.map laws_toSampleS.conv) := laws_toSampleS.ev l0 hl0
    have hl : (l0.map laws_toSampleS.conv).length ≤ 1048576 := by simpa using hl0
    have hz : laws_szSampleS.f l0 1048576 = some (1048576 - (l0.length : Int)) := by
      have e : wrap64 (1048576 - (l0.length : Int)) = 1048576 - (l0.length : Int) := w64 (by omega) (by omega)
      unfold laws_szSampleS.f
      simp [e]
      omega
    have hn : ¬ (1048576 - (l0.length : Int) < 0) := by omega
    generalize l0.map laws_toSampleS.conv = l at h1 hl
    have hs := spec_LearnTable.ev a l m
    have hi := impl_LearnTable.ev a l m
    generalize spec_LearnTable.r a l m = rb at hs hi
    obtain ⟨r1, r2, q⟩ := rb
    obtain ⟨K3, h3⟩ : ∃ K, ∀ k, K ≤ k → laws_eqSampleS.f k l l = some true := laws_eqSampleS.ev l hl
    obtain ⟨K5, h5⟩ : ∃ K, ∀ k, K ≤ k → spec_LearnTable.f k a l m = some (r1, r2, q) := hs
    refine ⟨K1 + K3 + K5 + 3, ?_⟩
    simp (disch := omega) only [laws_FnExactLearnTable.f, laws_eqTable.f, h1, h3, h5, hi, hz, hn, ↓reduceIte, Option.bind_some, bne_self_eq_false, Bool.false_eq_true]
    simp (disch := omega) only [laws_FnExactLearnTable.j0, h1, h3, h5, hi, hz, hn, ↓reduceIte, Option.bind_some, bne_self_eq_false, Bool.false_eq_true]
  · have e : wrap64 (1048576 - (l0.length : Int)) < 0 := by rw [w64 (by omega) (by omega)]; omega
    exact ⟨0, by unfold laws_FnExactLearnTable.f laws_szSampleS.f; rw [if_pos e]; simp⟩

end Go.Proofs.Ytcelfhphmlhonaa.Print
