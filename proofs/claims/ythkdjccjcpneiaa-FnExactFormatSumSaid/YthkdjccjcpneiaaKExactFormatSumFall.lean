/- Functions of the given program as plain Lean functions, with proofs that their calls compute them, or lemmas on these. Laid by a program of this repo for the seat Ythkdjccjcpneiaa; Lean checks it. -/
import Derived.Test.YthkdjccjcpneiaaKExactFormatSum0
import Derived.Test.YthkdjccjcpneiaaKExactFormatSum1
import Derived.Test.YthkdjccjcpneiaaKExactFormatSum3
import Derived.Test.YthkdjccjcpneiaaKExactFormatSum4
import Derived.Test.YthkdjccjcpneiaaKExactFormatSum5
import Derived.Test.YthkdjccjcpneiaaKExactFormatSum7
import Derived.Test.YthkdjccjcpneiaaKExactFormatSum8
import Derived.Test.YthkdjccjcpneiaaM5
import Derived.Test.YthkdjccjcpneiaaM21
import Derived.Test.YthkdjccjcpneiaaM3
namespace Go.Proofs.Ythkdjccjcpneiaa.Print
open Go.RowKit Go.Proofs.YthkdjccjcpneiaaW.PrintWords Go.Proofs.YthkdjccjcpneiaaW.PrintLast Go.Proofs.YthkdjccjcpneiaaW.PrintMore
attribute [local go_sem] max2_int min2_int max_two min_two max_three min_three max_four min_four   -- for this text's walks alone
set_option linter.unusedVariables false
set_option linter.unusedSimpArgs false

/-! ### facts on spec_l1In -/
theorem spec_l1In.ev (a b c : Int) : spec_l1In.f a b c = some (decide (b ≤ a ∧ a ≤ c)) := by
  unfold spec_l1In.f
  by_cases h : b ≤ a
  · rw [if_pos h]; simp [h]
  · rw [if_neg h]; simp [h]

/-! ### facts on spec_IsTerm -/
--IMPORT M5
open Go.Proofs.Ythkdjccjcpneiaa.M in
theorem spec_IsTerm.ev (a : Int) (x : S54) (hx : x.f1 < 9223372036854775808) : spec_IsTerm.f a x.f0 x.f1 = some (decide (0 ≤ a ∧ a ≤ 5) && impl_areTerms.ok a x) := by
  unfold spec_IsTerm.f
  rw [spec_l1In.ev]
  by_cases ha : 0 ≤ a ∧ a ≤ 5
  · obtain ⟨n, rfl⟩ := nat_of ha.1
    have h5 := pow_le_5 (n := n) (by omega)
    have hpos := Nat.two_pow_pos n
    have es : wrap64 (shl .i64 1 (n : Int) - 1) = ((2 ^ n : Nat) : Int) - 1 := by rw [shl_one (by omega), w64 (by omega) (by omega)]
    rw [decide_eq_true ha, Option.bind_some, if_pos rfl, if_pos (Int.natCast_nonneg n), es, spec_l1In.ev, Bool.true_and]
    unfold impl_areTerms.ok
    rw [Int.toNat_natCast]
    have P1 : (0 ≤ x.f0 ∧ x.f0 ≤ ((2 ^ n : Nat) : Int) - 1) ↔ (0 ≤ x.f0 ∧ x.f0 < ((2 ^ n : Nat) : Int)) := by omega
    by_cases o1 : 0 ≤ x.f0 ∧ x.f0 < ((2 ^ n : Nat) : Int)
    · rw [decide_eq_true o1, decide_eq_true (P1.mpr o1), Option.bind_some, if_pos rfl, spec_l1In.ev, Bool.true_and, Option.bind_some]
      obtain ⟨m, hm⟩ := nat_of o1.1
      by_cases o2 : x.f1 ≥ 0
      · obtain ⟨v, hv⟩ := nat_of o2
        rw [hm] at o1
        have hv63 : v < 2 ^ 63 := by omega
        have hm63 : m < 2 ^ 63 := by omega
        rw [decide_eq_true o2, Bool.true_and, hm, hv, and_nat hv63 hm63, andNot_nat hv63 hm63]
        by_cases hs : v &&& m = v
        · have hle : v ≤ m := by rw [← hs]; exact Nat.and_le_right
          rw [hs, subset_iff.mp hs, decide_eq_true (by omega), if_pos rfl]
          simp
        · have hz : andn v m ≠ 0 := fun e => hs (subset_iff.mpr e)
          have e1 : (((v &&& m : Nat) : Int) == (v : Int)) = false := by rw [beq_eq_false_iff_ne]; omega
          have e2 : (((andn v m : Nat) : Int) == 0) = false := by rw [beq_eq_false_iff_ne]; omega
          rw [e1, e2]
          split <;> rfl
      · rw [decide_eq_false o2, decide_eq_false (by omega), if_neg (by decide)]; rfl
    · rw [decide_eq_false o1, decide_eq_false (fun e => o1 (P1.mp e)), Option.bind_some, if_neg (by decide)]; rfl
  · rw [decide_eq_false ha, Option.bind_some, if_neg (by decide)]; rfl

/-! ### facts on spec_l28Terms -/
--IMPORT M5
/-- at most 40 terms of n variables -/
def spec_l28Terms.ok (a : Int) (l : List S54) : Bool := decide (0 ≤ a ∧ a ≤ 5) && l.all (impl_areTerms.ok a) && decide ((l.length : Int) ≤ 40)
open Go.Proofs.Ythkdjccjcpneiaa.M in
theorem spec_l28Terms.ev (a : Int) (l : List S54) (hl : l.length ≤ 1048576) (hw : ∀ x ∈ l, x.f1 < 9223372036854775808) : Ev (fun k => spec_l28Terms.f k a l) (spec_l28Terms.ok a l) := by
  have key : ∀ d i, i + d = l.length → Ev (fun k => spec_l28Terms.l0 k a l (i : Int)) (decide (0 ≤ a ∧ a ≤ 5) && (l.drop i).all (impl_areTerms.ok a) && decide ((l.length : Int) ≤ 40)) := by
    intro d
    induction d with
    | zero =>
      intro i hi
      obtain rfl : i = l.length := by omega
      refine Ev.end (fun k => ?_)
      simp only [spec_l28Terms.l0]
      rw [if_neg (by omega), spec_l1In.ev, Option.bind_some]
      cases decide (0 ≤ a ∧ a ≤ 5) <;> simp
    | succ d ih =>
      intro i hi
      have hi' : i < l.length := by omega
      have hd : l.drop i = l.getD i z54 :: l.drop (i + 1) := by
        rw [List.drop_eq_getElem_cons hi']
        simp [List.getD_eq_getElem?_getD, hi']
      have hx : rd_T54 l (i : Int) = l.getD i z54 := by simp [rd_T54]
      have hm : l.getD i z54 ∈ l := by simp [List.getD_eq_getElem?_getD, hi']
      have hb := hw _ hm
      clear hm
      rw [hd, List.all_cons]
      generalize l.getD i z54 = x at *
      have et := spec_IsTerm.ev a x hb
      cases hq : (decide (0 ≤ a ∧ a ≤ 5) && impl_areTerms.ok a x) with
      | true =>
        rw [hq] at et
        have ih := ih (i + 1) (by omega)
        rw [Bool.and_eq_true] at hq
        rw [hq.1] at ih ⊢
        rw [hq.2]
        refine Ev.step (fun k => ?_) ih
        simp only [spec_l28Terms.l0]
        rw [if_pos (by omega), if_pos (by omega), hx, et, Option.bind_some, if_pos rfl, w64 (by omega) (by omega)]; rfl
      | false =>
        rw [hq] at et
        rw [← Bool.and_assoc, hq, Bool.false_and, Bool.false_and]
        refine Ev.end (fun k => ?_)
        simp only [spec_l28Terms.l0]
        rw [if_pos (by omega), if_pos (by omega), hx, et, Option.bind_some, if_neg (by decide)]
  exact key l.length 0 (by omega)

/-! ### facts on spec_FormatTerm -/
--IMPORT M21
open Go.Proofs.Ythkdjccjcpneiaa.M in
theorem spec_FormatTerm.ev {n m u : Nat} (hn : n ≤ 5) (hm : m < 2 ^ 32) (hu : u < 2 ^ 32) (hok : impl_areTerms.ok (n : Int) ⟨(m : Int), (u : Int)⟩ = true) : Ev (fun k => spec_FormatTerm.f k (n : Int) (m : Int) (u : Int)) (mkB (tText n m u)) := by
  have ht : spec_IsTerm.f (n : Int) (m : Int) (u : Int) = some true := by
    have h := spec_IsTerm.ev (n : Int) (⟨(m : Int), (u : Int)⟩ : S54) (by show (u : Int) < _; omega)
    rw [decide_eq_true (show 0 ≤ (n : Int) ∧ (n : Int) ≤ 5 by omega), hok] at h
    exact h
  have e33 : (⟨#[33]⟩ : ByteArray) = mkB [33] := rfl
  have key := Ev.count (fun k i => spec_FormatTerm.l0 k (n : Int) (mkB (twL m u i)) (i : Int) (m : Int) (u : Int)) n (mkB (tText n m u)) (fun i hi hnext => by
    have hl := twL_len m u i
    have hs := mkB_size (twL m u i)
    have e1 : wrap64 ((i : Int) + 1) = ((i + 1 : Nat) : Int) := up1 (by omega)
    have bm := bit_nat (a := m) (n := i) (by omega) (by omega)
    have bu := bit_nat (a := u) (n := i) (by omega) (by omega)
    have el : (⟨#[97, 98, 99, 100, 101]⟩ : ByteArray).extract ((i : Nat) : Int).toNat (((i + 1 : Nat)) : Int).toNat = mkB [UInt8.ofNat (97 + i)] := by rw [Int.toNat_natCast, Int.toNat_natCast]; exact letter_at i (by omega)
    refine Ev.step (f := fun k => spec_FormatTerm.j1 k (n : Int) (mkB (twL m u i)) (i : Int) true (m : Int) (u : Int)) (fun k => ?_) ?_
    · simp only [spec_FormatTerm.l0]
      rw [ht, Option.bind_some, if_pos rfl, decide_eq_true (show (i : Int) < (n : Int) by omega)]
    · cases hb : m.testBit i with
      | false =>
        rw [twL, hb, if_neg (by decide)] at hnext
        refine Ev.step (fun k => ?_) hnext
        simp only [spec_FormatTerm.j1]
        rw [if_pos trivial, if_pos (Int.natCast_nonneg i), bm, hb, if_pos (by decide), e1]
      | true =>
        rw [twL, hb, if_pos rfl] at hnext
        cases hc : u.testBit i with
        | true =>
          rw [hc, if_pos rfl] at hnext
          refine Ev.step (fun k => ?_) hnext
          simp only [spec_FormatTerm.j1]
          rw [if_pos trivial, if_pos (Int.natCast_nonneg i), bm, hb, if_neg (by decide), bu, hc, if_neg (by decide), e1, if_pos (by omega), if_pos (by omega), el, mkB_append, if_pos (by rw [hs, mkB_size]; simp; omega)]
        | false =>
          rw [hc, if_neg (by decide)] at hnext
          refine Ev.step (fun k => ?_) hnext
          simp only [spec_FormatTerm.j1]
          rw [if_pos trivial, if_pos (Int.natCast_nonneg i), bm, hb, if_neg (by decide), bu, hc, if_pos (by decide), e1, if_pos (by rw [hs]; omega), if_pos (by omega), if_pos (by omega), el, e33, mkB_append, mkB_append, if_pos (by rw [mkB_size, mkB_size]; simp; omega)]) (by
    refine Ev.step (f := fun k => spec_FormatTerm.j1 k (n : Int) (mkB (twL m u n)) (n : Int) false (m : Int) (u : Int)) (fun k => ?_) (Ev.end (fun k => ?_))
    · simp only [spec_FormatTerm.l0]
      rw [ht, Option.bind_some, if_pos rfl, decide_eq_false (show ¬ (n : Int) < (n : Int) by omega)]
    · simp only [spec_FormatTerm.j1]
      rw [if_neg (by decide)]
      unfold tText
      by_cases h0 : twL m u n = []
      · rw [if_pos ((mkB_nil _).mpr h0), if_pos h0, ht, Option.bind_some, if_pos rfl]; rfl
      · rw [if_neg (fun h => h0 ((mkB_nil _).mp h)), if_neg h0]) n 0 (by omega)
  exact key

/-! ### facts on spec_FormatSum -/
--IMPORT M21
open Go.Proofs.Ythkdjccjcpneiaa.M in
/-- a term's text -/
def spec_FormatSum.txt (n : Nat) (x : S54) : List UInt8 := tText n x.f0.toNat x.f1.toNat
open Go.Proofs.Ythkdjccjcpneiaa.M in
/-- the answer -/
def spec_FormatSum.r (a : Int) (l : List S54) : ByteArray := if spec_l28Terms.ok a l = true then (if l = [] then mkB [48] else mkB (Go.Lib.join (l.map (spec_FormatSum.txt a.toNat)) [124])) else mkB []
open Go.Proofs.Ythkdjccjcpneiaa.M in
/-- terms that fit are natural numbers -/
theorem spec_FormatSum.nat {n : Nat} (hn : n ≤ 5) {x : S54} (h : impl_areTerms.ok (n : Int) x = true) (hw : x.f1 < 9223372036854775808) : ∃ m u : Nat, x = ⟨(m : Int), (u : Int)⟩ ∧ m < 2 ^ 32 ∧ u < 2 ^ 32 := by
  unfold impl_areTerms.ok at h
  rw [Bool.and_eq_true, Bool.and_eq_true] at h
  obtain ⟨h1, h2, h3⟩ := h
  have h1 := of_decide_eq_true h1
  have h2 := of_decide_eq_true h2
  obtain ⟨f0, f1⟩ := x
  obtain ⟨m, rfl⟩ := nat_of h1.1
  obtain ⟨u, rfl⟩ := nat_of h2
  have h5 := pow_le_5 hn
  rw [Int.toNat_natCast] at h1
  have hm : m < 32 := by have := h1.2; simp only [] at this; omega
  have hu63 : u < 2 ^ 63 := by simp only [] at hw; omega
  have h3 := beq_iff_eq.mp h3
  rw [andNot_nat hu63 (by omega)] at h3
  have h4 : u &&& m = u := subset_iff.mpr (by exact_mod_cast h3)
  have h6 : u &&& m ≤ m := Nat.and_le_right
  exact ⟨m, u, rfl, by omega, by omega⟩
open Go.Proofs.Ythkdjccjcpneiaa.M in
theorem spec_FormatSum.ev (a : Int) (l : List S54) (hl : l.length ≤ 1048576) (hw : ∀ x ∈ l, x.f1 < 9223372036854775808) : Ev (fun k => spec_FormatSum.f k a l) (spec_FormatSum.r a l) := by
  have hT := spec_l28Terms.ev a l hl hw
  have e0 : (⟨#[]⟩ : ByteArray) = mkB [] := rfl
  unfold spec_FormatSum.f spec_FormatSum.r
  cases hok : spec_l28Terms.ok a l with
  | false =>
    rw [hok] at hT
    rw [if_neg (by decide), e0]
    have last : Ev (fun k => spec_FormatSum.j1 k a l (mkB []) 0 false) (mkB []) := by
      refine Ev.step (f := fun k => (spec_l28Terms.f k a l).bind fun t151 => if t151 = true then some (⟨#[48]⟩ : ByteArray) else some (mkB [])) (fun k => ?_) (Ev.bind hT (Ev.congr (fun k => if_neg (by decide)) (Ev.now _)))
      simp only [spec_FormatSum.j1]
      rw [if_neg (by decide), if_pos ((mkB_nil []).mpr rfl)]
    by_cases h0 : (0 : Int) < (l.length : Int)
    · refine Ev.step (f := fun k => (spec_l28Terms.f k a l).bind fun t => spec_FormatSum.j1 k a l (mkB []) 0 t) (fun k => ?_) (Ev.bind hT last)
      simp only [spec_FormatSum.l0]
      rw [if_pos h0]
    · refine Ev.step (fun k => ?_) last
      simp only [spec_FormatSum.l0]
      rw [if_neg h0]
  | true =>
    rw [hok] at hT
    rw [if_pos rfl]
    have hok2 := hok
    unfold spec_l28Terms.ok at hok2
    rw [Bool.and_eq_true, Bool.and_eq_true] at hok2
    have ha := of_decide_eq_true hok2.1.1
    have hall := List.all_eq_true.mp hok2.1.2
    have h40 := of_decide_eq_true hok2.2
    obtain ⟨n, rfl⟩ := nat_of ha.1
    rw [Int.toNat_natCast]
    have hn : n ≤ 5 := by omega
    have hwl : (l.map (spec_FormatSum.txt n)).length = l.length := List.length_map ..
    have hlen : ∀ y ∈ l.map (spec_FormatSum.txt n), y.length ≤ 11 := fun y hy => by
      obtain ⟨x, _, rfl⟩ := List.mem_map.mp hy
      have := tText_len n x.f0.toNat x.f1.toNat
      unfold spec_FormatSum.txt; omega
    have hne : ∀ y ∈ l.map (spec_FormatSum.txt n), y ≠ [] := fun y hy => by
      obtain ⟨x, _, rfl⟩ := List.mem_map.mp hy
      exact tText_ne _ _ _
    have fin : Ev (fun k => spec_FormatSum.l0 k (n : Int) l (mkB (joinUp (l.map (spec_FormatSum.txt n)) l.length)) (l.length : Int)) (if l = [] then mkB [48] else mkB (Go.Lib.join (l.map (spec_FormatSum.txt n)) [124])) := by
      refine Ev.step (f := fun k => spec_FormatSum.j1 k (n : Int) l (mkB (joinUp (l.map (spec_FormatSum.txt n)) l.length)) (l.length : Int) false) (fun k => ?_) ?_
      · simp only [spec_FormatSum.l0]
        rw [if_neg (by omega)]
      · by_cases h0 : l = []
        · subst h0
          rw [if_pos rfl]
          refine Ev.step (f := fun k => (spec_l28Terms.f k (n : Int) []).bind fun t151 => if t151 = true then some (⟨#[48]⟩ : ByteArray) else some (mkB (joinUp [] 0))) (fun k => ?_) (Ev.bind hT (Ev.congr (fun k => if_pos rfl) (Ev.now _)))
          simp only [spec_FormatSum.j1]
          have ej0 : joinUp (List.map (spec_FormatSum.txt n) []) ([] : List S54).length = [] := rfl
          rw [if_neg (by decide), ej0, if_pos ((mkB_nil _).mpr rfl)]; rfl
        · rw [if_neg h0]
          have hp : 0 < l.length := List.length_pos_iff.mpr h0
          have hj := joinUp_ne hne hp (by omega)
          have ej := joinUp_all (l.map (spec_FormatSum.txt n))
          rw [hwl] at ej
          refine Ev.end (fun k => ?_)
          simp only [spec_FormatSum.j1]
          rw [if_neg (by decide), if_neg (fun h => hj ((mkB_nil _).mp h)), ej]
    have start : (mkB (joinUp (l.map (spec_FormatSum.txt n)) 0)) = mkB [] := rfl
    rw [e0, ← start]
    exact Ev.count (fun k i => spec_FormatSum.l0 k (n : Int) l (mkB (joinUp (l.map (spec_FormatSum.txt n)) i)) (i : Int)) l.length _ (fun i hi hnext => by
      have hm : l.getD i z54 ∈ l := by simp [List.getD_eq_getElem?_getD, hi]
      have hx : rd_T54 l (i : Int) = l.getD i z54 := by simp [rd_T54]
      have hg : (l.map (spec_FormatSum.txt n))[i]? = some (spec_FormatSum.txt n (l.getD i z54)) := by
        rw [List.getElem?_map, List.getElem?_eq_getElem hi, List.getD_eq_getElem?_getD, List.getElem?_eq_getElem hi]; rfl
      have hjl := joinUp_len hlen i (by omega)
      have hokx := hall _ hm
      have hwx := hw _ hm
      clear hm
      generalize l.getD i z54 = x at *
      obtain ⟨m, u, rfl, hm, hu⟩ := spec_FormatSum.nat hn hokx hwx
      have hF := spec_FormatTerm.ev hn hm hu hokx
      have htl := tText_len n m u
      have htx : spec_FormatSum.txt n ⟨(m : Int), (u : Int)⟩ = tText n m u := by unfold spec_FormatSum.txt; rw [Int.toNat_natCast, Int.toNat_natCast]
      rw [htx] at hg
      have e124 : (⟨#[124]⟩ : ByteArray) = mkB [124] := rfl
      have e1 : wrap64 ((i : Int) + 1) = ((i + 1 : Nat) : Int) := up1 (by omega)
      refine Ev.step (f := fun k => (spec_l28Terms.f k (n : Int) l).bind fun t => spec_FormatSum.j1 k (n : Int) l (mkB (joinUp (l.map (spec_FormatSum.txt n)) i)) (i : Int) t) (fun k => ?_) (Ev.bind hT ?_)
      · simp only [spec_FormatSum.l0]
        rw [if_pos (by omega)]
      · by_cases h0 : i = 0
        · subst h0
          rw [joinUp_one hg] at hnext
          have es : joinUp (l.map (spec_FormatSum.txt n)) 0 = [] := rfl
          rw [es]
          refine Ev.step (f := fun k => (spec_FormatTerm.f k (n : Int) (m : Int) (u : Int)).bind fun t150 => if (mkB []).size + t150.size ≤ 9223372036854775807 then spec_FormatSum.l0 k (n : Int) l (mkB [] ++ t150) ((0 + 1 : Nat) : Int) else none) (fun k => ?_) (Ev.bind hF (Ev.congr (fun k => if_pos (by rw [mkB_size, mkB_size]; simp; omega)) (by rw [mkB_append]; exact hnext)))
          simp only [spec_FormatSum.j1]
          rw [if_pos trivial, if_neg (by omega), if_pos (by omega), if_pos (by omega), hx, e1]
        · rw [joinUp_succ (by omega) hg] at hnext
          refine Ev.step (f := fun k => (spec_FormatTerm.f k (n : Int) (m : Int) (u : Int)).bind fun t148 => if (mkB (joinUp (l.map (spec_FormatSum.txt n)) i ++ [124])).size + t148.size ≤ 9223372036854775807 then spec_FormatSum.l0 k (n : Int) l (mkB (joinUp (l.map (spec_FormatSum.txt n)) i ++ [124]) ++ t148) ((i + 1 : Nat) : Int) else none) (fun k => ?_) (Ev.bind hF (Ev.congr (fun k => if_pos (by rw [mkB_size, mkB_size]; simp; omega)) (by rw [mkB_append]; exact hnext)))
          simp only [spec_FormatSum.j1]
          rw [if_pos trivial, if_pos (by omega), if_pos (by rw [mkB_size]; omega), if_pos (by omega), if_pos (by omega), hx, e1, e124, mkB_append]) fin l.length 0 (by omega)

/-! ### facts on laws_toTermS -/
--IMPORT M3
/-- a term of the laws' own type as one of the program's -/
def laws_toTermS.conv (x : S56) : S54 := ⟨x.f0, x.f1⟩
open Go.Proofs.Ythkdjccjcpneiaa.M in
theorem laws_toTermS.ev (l : List S56) (h : l.length ≤ 1048576) : Ev (fun k => laws_toTermS.f k l) (l.map laws_toTermS.conv) := by
  have key : ∀ d i, i + d = l.length → Ev (fun k => laws_toTermS.l0 k l (fillAt laws_toTermS.conv z54 l i) (i : Int)) (l.map laws_toTermS.conv) := by
    refine Ev.count (fun k i => laws_toTermS.l0 k l (fillAt laws_toTermS.conv z54 l i) (i : Int)) l.length _ ?_ ?_
    · intro i hi hn
      refine Ev.step (fun k => ?_) hn
      have hl := fillAt_length laws_toTermS.conv z54 l (i := i) (by omega)
      simp only [laws_toTermS.l0, laws_toTerm.f, Option.bind_some]
      rw [if_pos (by omega), if_pos (by omega), if_pos (by rw [hl]; omega), w64 (by omega) (by omega)]
      have e := fillAt_set laws_toTermS.conv z54 l z56 hi
      have e2 : (⟨(rd_T56 l (i : Int)).f0, (rd_T56 l (i : Int)).f1⟩ : S54) = laws_toTermS.conv (l.getD i z56) := by simp [rd_T56, laws_toTermS.conv]
      rw [e2, Int.toNat_natCast, e]; rfl
    · refine Ev.end (fun k => ?_)
      simp only [laws_toTermS.l0]
      rw [if_neg (by omega), fillAt_all]
  have h0 := key l.length 0 (by omega)
  rw [fillAt_zero] at h0
  refine Ev.congr (fun k => ?_) h0
  unfold laws_toTermS.f
  rw [if_pos (by omega), if_pos (by simp; omega), Int.toNat_natCast]; rfl
open Go.Proofs.Ythkdjccjcpneiaa.M in
theorem laws_toTermS.sz (l : List S56) (h : l.length ≤ 1048576) : laws_szTermS.f l 1048576 = some (1048576 - (l.length : Int)) := by
  have e : wrap64 (1048576 - (l.length : Int)) = 1048576 - (l.length : Int) := w64 (by omega) (by omega)
  unfold laws_szTermS.f
  simp [e]
  omega
theorem laws_toTermS.wf (l : List S56) (h : ∀ x ∈ l, (Lit.int .i64 x.f0).wf = true ∧ (Lit.int .i64 x.f1).wf = true) : ∀ x ∈ l.map laws_toTermS.conv, x.f1 < 9223372036854775808 := by
  intro x hx
  obtain ⟨y, hy, rfl⟩ := List.mem_map.mp hx
  have := (h y hy).2
  simp [Lit.wf, IntKind.min, IntKind.max, IntKind.bits, IntKind.signed] at this
  show y.f1 < _
  omega

/-! ### facts on impl_isBits -/
theorem impl_isBits.ev (a : Int) : impl_isBits.f a = some (decide (0 ≤ a ∧ a ≤ 5)) := by
  unfold impl_isBits.f
  by_cases h : 0 ≤ a
  · rw [if_pos h]; simp [h]
  · rw [if_neg h]; simp [h]

/-! ### facts on impl_areValid -/
--IMPORT M5
theorem impl_areValid.ev (a : Int) (l : List S54) : impl_areValid.f a l = some (spec_l28Terms.ok a l) := by
  unfold impl_areValid.f impl_areTerms.f spec_l28Terms.ok
  rw [Option.bind_some]
  cases decide (0 ≤ a ∧ a ≤ 5) && l.all (impl_areTerms.ok a) <;> simp

/-! ### facts on impl_FormatTerm -/
--IMPORT M21
open Go.Proofs.Ythkdjccjcpneiaa.M in
theorem impl_FormatTerm.ev {n m u : Nat} (hn : n ≤ 5) (hm : m < 2 ^ 32) (hu : u < 2 ^ 32) (hok : impl_areTerms.ok (n : Int) ⟨(m : Int), (u : Int)⟩ = true) : Ev (fun k => impl_FormatTerm.f k (n : Int) (m : Int) (u : Int)) (mkB (tText n m u)) := by
  have ht : impl_IsTerm.f (n : Int) (m : Int) (u : Int) = some true := by
    have h := impl_areTerms.okv (n := (n : Int)) (by omega) (⟨(m : Int), (u : Int)⟩ : S54)
    rw [hok] at h
    exact h
  have nm : ∀ l : List UInt8, ∀ b : UInt8, l.map (fun b => (b.toNat : Int)) ++ [(b.toNat : Int)] = (l ++ [b]).map (fun b => (b.toNat : Int)) := fun l b => by simp
  refine Ev.congr (f := fun k => impl_FormatTerm.l0 k ([] : List Int) (n : Int) 0 (m : Int) (u : Int)) (fun k => by unfold impl_FormatTerm.f; rw [ht, Option.bind_some, if_pos rfl]) ?_
  exact Ev.count (fun k i => impl_FormatTerm.l0 k ((twL m u i).map (fun b => (b.toNat : Int))) (n : Int) (i : Int) (m : Int) (u : Int)) n (mkB (tText n m u)) (fun i hi hnext => by
    have hl := twL_len m u i
    have e1 : wrap64 ((i : Int) + 1) = ((i + 1 : Nat) : Int) := up1 (by omega)
    have bm := bit_nat (a := m) (n := i) (by omega) (by omega)
    have bu := bit_nat (a := u) (n := i) (by omega) (by omega)
    have el := letter_num i (by omega)
    have e33 : (33 : Int) = (((33 : UInt8)).toNat : Int) := rfl
    cases hb : m.testBit i with
    | false =>
      rw [twL, hb, if_neg (by decide)] at hnext
      refine Ev.step (fun k => ?_) hnext
      simp only [impl_FormatTerm.l0]
      rw [if_pos (by omega), if_pos (Int.natCast_nonneg i), bm, hb, if_pos (by decide), e1]
    | true =>
      rw [twL, hb, if_pos rfl] at hnext
      cases hc : u.testBit i with
      | true =>
        rw [hc, if_pos rfl] at hnext
        refine Ev.step (fun k => ?_) hnext
        simp only [impl_FormatTerm.l0]
        rw [if_pos (by omega), if_pos (Int.natCast_nonneg i), bm, hb, if_neg (by decide), bu, hc, if_neg (by decide), if_pos (by rw [List.length_map]; omega), el, nm, e1]
      | false =>
        rw [hc, if_neg (by decide)] at hnext
        refine Ev.step (fun k => ?_) hnext
        simp only [impl_FormatTerm.l0]
        rw [if_pos (by omega), if_pos (Int.natCast_nonneg i), bm, hb, if_neg (by decide), bu, hc, if_pos (by decide), if_pos (by rw [List.length_map]; omega), Option.bind_some, e33, nm, if_pos (by rw [List.length_map, List.length_append]; simp; omega), el, nm, e1]) (Ev.end (fun k => by
    simp only [impl_FormatTerm.l0]
    rw [if_neg (by omega)]
    unfold tText
    by_cases h0 : twL m u n = []
    · rw [h0, if_pos (by simp), if_pos rfl]; rfl
    · have hp : 0 < (twL m u n).length := List.length_pos_iff.mpr h0
      rw [if_neg (by rw [List.length_map]; omega), if_neg h0, mkB_nums])) n 0 (by omega)

/-! ### facts on impl_joinTerms -/
--IMPORT M21
open Go.Proofs.Ythkdjccjcpneiaa.M in
theorem impl_joinTerms.words_ev {n : Nat} (hn : n ≤ 5) : ∀ l : List S54, (∀ x ∈ l, impl_areTerms.ok (n : Int) x = true) → (∀ x ∈ l, x.f1 < 9223372036854775808) → Ev (fun k => impl_joinTerms.words k (n : Int) l) (l.map fun x => mkB (spec_FormatSum.txt n x))
  | [], _, _ => Ev.now _
  | x :: t, h, hw => by
    have ih := impl_joinTerms.words_ev hn t (fun y hy => h y (List.mem_cons_of_mem _ hy)) (fun y hy => hw y (List.mem_cons_of_mem _ hy))
    have hokx := h x (List.mem_cons_self ..)
    obtain ⟨m, u, rfl, hm, hu⟩ := spec_FormatSum.nat hn hokx (hw x (List.mem_cons_self ..))
    have hF := impl_FormatTerm.ev hn hm hu hokx
    have htx : spec_FormatSum.txt n ⟨(m : Int), (u : Int)⟩ = tText n m u := by unfold spec_FormatSum.txt; rw [Int.toNat_natCast, Int.toNat_natCast]
    rw [List.map_cons, htx]
    exact Ev.bind hF (Ev.bind ih (Ev.now _))
open Go.Proofs.Ythkdjccjcpneiaa.M in
theorem impl_joinTerms.ev {n : Nat} (hn : n ≤ 5) (l : List S54) (h40 : l.length ≤ 40) (h : ∀ x ∈ l, impl_areTerms.ok (n : Int) x = true) (hw : ∀ x ∈ l, x.f1 < 9223372036854775808) : Ev (fun k => impl_joinTerms.f k (n : Int) l ⟨#[124]⟩) (mkB (Go.Lib.join (l.map (spec_FormatSum.txt n)) [124])) := by
  have e1 : (l.map fun x => mkB (spec_FormatSum.txt n x)).map (·.data.toList) = l.map (spec_FormatSum.txt n) := by
    rw [List.map_map]
    apply List.map_congr_left
    intro x _
    exact mkB_data _
  have hlen : ∀ y ∈ l.map (spec_FormatSum.txt n), y.length ≤ 11 := fun y hy => by
    obtain ⟨x, _, rfl⟩ := List.mem_map.mp hy
    have := tText_len n x.f0.toNat x.f1.toNat
    unfold spec_FormatSum.txt; omega
  have hj := joinUp_len hlen (l.map (spec_FormatSum.txt n)).length (Nat.le_refl _)
  rw [joinUp_all, List.length_map] at hj
  unfold impl_joinTerms.f
  refine Ev.congr (fun k => if_pos (by omega)) (Ev.bind (impl_joinTerms.words_ev hn l h hw) ?_)
  rw [e1]
  have e2 : (⟨#[124]⟩ : ByteArray).data.toList = [124] := rfl
  rw [e2]
  exact Ev.congr (fun k => if_pos (by omega)) (Ev.now _)

/-! ### facts on impl_FormatSum -/
--IMPORT M21
open Go.Proofs.Ythkdjccjcpneiaa.M in
theorem impl_FormatSum.ev (a : Int) (l : List S54) (hw : ∀ x ∈ l, x.f1 < 9223372036854775808) : Ev (fun k => impl_FormatSum.f k a l) (spec_FormatSum.r a l) := by
  unfold spec_FormatSum.r
  cases hok : spec_l28Terms.ok a l with
  | false =>
    rw [if_neg (by decide)]
    exact Ev.congr (f := fun k => some (mkB [])) (fun k => by unfold impl_FormatSum.f; rw [impl_areValid.ev, hok]; rfl) (Ev.now _)
  | true =>
    rw [if_pos rfl]
    have hok2 := hok
    unfold spec_l28Terms.ok at hok2
    rw [Bool.and_eq_true, Bool.and_eq_true] at hok2
    have ha := of_decide_eq_true hok2.1.1
    have hall := List.all_eq_true.mp hok2.1.2
    have h40 := of_decide_eq_true hok2.2
    obtain ⟨n, rfl⟩ := nat_of ha.1
    rw [Int.toNat_natCast]
    refine Ev.congr (f := fun k => (impl_sumText.f k (n : Int) l).bind fun t => some t) (fun k => by unfold impl_FormatSum.f; rw [impl_areValid.ev, hok]; rfl) ?_
    by_cases h0 : l = []
    · subst h0
      rw [if_pos rfl]
      exact Ev.bind (a := mkB [48]) (Ev.congr (f := fun k => some (mkB [48])) (fun k => by unfold impl_sumText.f; rw [if_pos (by simp)]; rfl) (Ev.now _)) (Ev.now _)
    · rw [if_neg h0]
      have hp : 0 < l.length := List.length_pos_iff.mpr h0
      have hJ := impl_joinTerms.ev (n := n) (by omega) l (by omega) hall hw
      exact Ev.bind (Ev.congr (f := fun k => (impl_joinTerms.f k (n : Int) l ⟨#[124]⟩).bind fun t177 => some t177) (fun k => by unfold impl_sumText.f; rw [if_neg (by omega)]) (Ev.bind hJ (Ev.now _))) (Ev.now _)

/-! ### facts on laws_eqTermS -/
--IMPORT M3
open Go.Proofs.Ythkdjccjcpneiaa.M in
theorem laws_eqTermS.ev (l : List S54) (h : l.length ≤ 1048576) : Ev (fun k => laws_eqTermS.f k l l) true := by
  have key : ∀ d i, i + d = l.length → Ev (fun k => laws_eqTermS.l0 k l l (i : Int)) true := by
    refine Ev.count (fun k i => laws_eqTermS.l0 k l l (i : Int)) l.length _ ?_ ?_
    · intro i hi hn
      refine Ev.step (fun k => ?_) hn
      simp only [laws_eqTermS.l0, laws_eqTerm.f, if_true, Option.bind_some]
      rw [if_pos (by omega), if_pos (by omega), if_pos (by omega), w64 (by omega) (by omega)]; rfl
    · refine Ev.end (fun k => ?_)
      simp only [laws_eqTermS.l0]
      rw [if_neg (by omega)]
  refine Ev.congr (fun k => ?_) (key l.length 0 (by omega))
  unfold laws_eqTermS.f
  rw [if_pos rfl]; rfl

/-! ### facts on laws_FnExactFormatSum -/
--IMPORT M21
open Go.Proofs.Ythkdjccjcpneiaa.M in
theorem laws_FnExactFormatSum.pure_ : laws_FnExactFormatSum.Pure := by
  intro a l _ hm hwf
  unfold maxLen at hm
  by_cases hl : l.length ≤ 1048576
  · obtain ⟨K1, h1⟩ : ∃ K, ∀ k, K ≤ k → laws_toTermS.f k l = some (l.map laws_toTermS.conv) := laws_toTermS.ev l hl
    have hl2 : (l.map laws_toTermS.conv).length ≤ 1048576 := by simpa using hl
    have hw := laws_toTermS.wf l hwf
    generalize l.map laws_toTermS.conv = m at h1 hl2 hw
    obtain ⟨K2, h2⟩ : ∃ K, ∀ k, K ≤ k → spec_FormatSum.f k a m = some (spec_FormatSum.r a m) := spec_FormatSum.ev a m hl2 hw
    obtain ⟨K3, h3⟩ : ∃ K, ∀ k, K ≤ k → impl_FormatSum.f k a m = some (spec_FormatSum.r a m) := impl_FormatSum.ev a m hw
    obtain ⟨K4, h4⟩ : ∃ K, ∀ k, K ≤ k → laws_eqTermS.f k m m = some true := laws_eqTermS.ev m hl2
    generalize spec_FormatSum.r a m = r at *
    have hz := laws_toTermS.sz l hl
    have hn : ¬ (1048576 - (l.length : Int) < 0) := by omega
    refine ⟨K1 + K2 + K3 + K4, ?_⟩
    simp (disch := omega) only [laws_FnExactFormatSum.f, h1, h2, h3, h4, hz, hn, ↓reduceIte, Option.bind_some, bne_self_eq_false, Bool.false_eq_true]
  · have e : wrap64 (1048576 - (l.length : Int)) < 0 := by rw [w64 (by omega) (by omega)]; omega
    exact ⟨0, by unfold laws_FnExactFormatSum.f laws_szTermS.f; rw [if_pos e]; simp⟩

end Go.Proofs.Ythkdjccjcpneiaa.Print
