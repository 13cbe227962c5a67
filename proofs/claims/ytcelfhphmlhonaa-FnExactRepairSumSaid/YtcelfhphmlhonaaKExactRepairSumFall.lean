/- Functions of the given program as plain Lean functions, with proofs that their calls compute them, or lemmas on these. Laid by a program of this repo for the seat Ytcelfhphmlhonaa; Lean checks it. -/
import Derived.Test.YtcelfhphmlhonaaKExactRepairSum0
import Derived.Test.YtcelfhphmlhonaaKExactRepairSum1
import Derived.Test.YtcelfhphmlhonaaKExactRepairSum2
import Derived.Test.YtcelfhphmlhonaaKExactRepairSum3
import Derived.Test.YtcelfhphmlhonaaKExactRepairSum6
import Derived.Test.YtcelfhphmlhonaaKExactRepairSum7
import Derived.Test.YtcelfhphmlhonaaKExactRepairSum8
import Derived.Test.YtcelfhphmlhonaaKExactRepairSum9
import Derived.Test.YtcelfhphmlhonaaKExactRepairSum10
import Derived.Test.YtcelfhphmlhonaaKExactRepairSum11
import Derived.Test.YtcelfhphmlhonaaKExactRepairSum12
import Derived.Test.YtcelfhphmlhonaaM3
import Derived.Test.YtcelfhphmlhonaaM5
import Derived.Test.YtcelfhphmlhonaaM10
namespace Go.Proofs.Ytcelfhphmlhonaa.Print
open Go.RowKit Go.Proofs.YtcelfhphmlhonaaW.PrintWords Go.Proofs.YtcelfhphmlhonaaW.PrintLast Go.Proofs.YtcelfhphmlhonaaW.PrintMore
attribute [local go_sem] max2_int min2_int max_two min_two max_three min_three max_four min_four   -- for this text's walks alone
set_option linter.unusedVariables false
set_option linter.unusedSimpArgs false

/-! ### facts on laws_toTermS -/
--IMPORT M3
/-- a term of the laws' own type as one of the program's -/
def laws_toTermS.conv (x : S73) : S71 := ⟨x.f0, x.f1⟩
open Go.Proofs.Ytcelfhphmlhonaa.M in
theorem laws_toTermS.ev (l : List S73) (h : l.length ≤ 1048576) : Ev (fun k => laws_toTermS.f k l) (l.map laws_toTermS.conv) := by
  have key : ∀ d i, i + d = l.length → Ev (fun k => laws_toTermS.l0 k l (fillAt laws_toTermS.conv z71 l i) (i : Int)) (l.map laws_toTermS.conv) := by
    refine Ev.count (fun k i => laws_toTermS.l0 k l (fillAt laws_toTermS.conv z71 l i) (i : Int)) l.length _ ?_ ?_
    · intro i hi hn
      refine Ev.step (fun k => ?_) hn
      have hl := fillAt_length laws_toTermS.conv z71 l (i := i) (by omega)
      simp only [laws_toTermS.l0, laws_toTerm.f, Option.bind_some]
      rw [if_pos (by omega), if_pos (by omega), if_pos (by rw [hl]; omega), w64 (by omega) (by omega)]
      have e := fillAt_set laws_toTermS.conv z71 l z73 hi
      have e2 : (⟨(rd_T73 l (i : Int)).f0, (rd_T73 l (i : Int)).f1⟩ : S71) = laws_toTermS.conv (l.getD i z73) := by simp [rd_T73, laws_toTermS.conv]
      rw [e2, Int.toNat_natCast, e]; rfl
    · refine Ev.end (fun k => ?_)
      simp only [laws_toTermS.l0]
      rw [if_neg (by omega), fillAt_all]
  have h0 := key l.length 0 (by omega)
  rw [fillAt_zero] at h0
  refine Ev.congr (fun k => ?_) h0
  unfold laws_toTermS.f
  rw [if_pos (by omega), if_pos (by simp; omega), Int.toNat_natCast]; rfl
open Go.Proofs.Ytcelfhphmlhonaa.M in
theorem laws_toTermS.sz (l : List S73) (h : l.length ≤ 1048576) : laws_szTermS.f l 1048576 = some (1048576 - (l.length : Int)) := by
  have e : wrap64 (1048576 - (l.length : Int)) = 1048576 - (l.length : Int) := w64 (by omega) (by omega)
  unfold laws_szTermS.f
  simp [e]
  omega
theorem laws_toTermS.wf (l : List S73) (h : ∀ x ∈ l, (Lit.int .i64 x.f0).wf = true ∧ (Lit.int .i64 x.f1).wf = true) : ∀ x ∈ l.map laws_toTermS.conv, x.f1 < 9223372036854775808 := by
  intro x hx
  obtain ⟨y, hy, rfl⟩ := List.mem_map.mp hx
  have := (h y hy).2
  simp [Lit.wf, IntKind.min, IntKind.max, IntKind.bits, IntKind.signed] at this
  show y.f1 < _
  omega

/-! ### facts on laws_eqTermS -/
--IMPORT M3
open Go.Proofs.Ytcelfhphmlhonaa.M in
theorem laws_eqTermS.ev (l : List S71) (h : l.length ≤ 1048576) : Ev (fun k => laws_eqTermS.f k l l) true := by
  have key : ∀ d i, i + d = l.length → Ev (fun k => laws_eqTermS.l0 k l l (i : Int)) true := by
    refine Ev.count (fun k i => laws_eqTermS.l0 k l l (i : Int)) l.length _ ?_ ?_
    · intro i hi hn
      refine Ev.step (fun k => ?_) hn
      simp only [laws_eqTermS.l0, laws_eqTerm.f, if_true, Option.bind_some]
      rw [if_pos (by omega), if_pos (by omega), if_pos (by omega), w64 (by omega) (by omega)]; rfl
    · refine Ev.end (fun k => ?_)
      simp only [laws_eqTermS.l0]
      rw [if_neg (by omega)]
  refine Ev.congr (fun k => ?_) (key l.length 0 (by omega))
  unfold laws_eqTermS.f
  rw [if_pos rfl]; rfl

/-! ### facts on spec_l1In -/
theorem spec_l1In.ev (a b c : Int) : spec_l1In.f a b c = some (decide (b ≤ a ∧ a ≤ c)) := by
  unfold spec_l1In.f
  by_cases h : b ≤ a
  · rw [if_pos h]; simp [h]
  · rw [if_neg h]; simp [h]

/-! ### facts on spec_IsTerm -/
--IMPORT M5
open Go.Proofs.Ytcelfhphmlhonaa.M in
theorem spec_IsTerm.ev (a : Int) (x : S71) (hx : x.f1 < 9223372036854775808) : spec_IsTerm.f a x.f0 x.f1 = some (decide (0 ≤ a ∧ a ≤ 5) && impl_areTerms.ok a x) := by
  unfold spec_IsTerm.f
  rw [spec_l1In.ev]
  by_cases ha : 0 ≤ a ∧ a ≤ 5
  · obtain ⟨n, rfl⟩ := nat_of ha.1
    have h5 := pow_le_5 (n := n) (by omega)
    have hpos := Nat.two_pow_pos n
    have es : wrap64 (shl .i64 1 (n : Int) - 1) = ((2 ^ n : Nat) : Int) - 1 := by rw [shl_one (by omega), w64 (by omega) (by omega)]
    rw [decide_eq_true ha, Option.bind_some, if_pos rfl, if_pos (Int.natCast_nonneg n), es, spec_l1In.ev, Bool.true_and]
    unfold impl_areTerms.ok
    rw [Int.toNat_natCast]
    have P1 : (0 ≤ x.f0 ∧ x.f0 ≤ ((2 ^ n : Nat) : Int) - 1) ↔ (0 ≤ x.f0 ∧ x.f0 < ((2 ^ n : Nat) : Int)) := by omega
    by_cases o1 : 0 ≤ x.f0 ∧ x.f0 < ((2 ^ n : Nat) : Int)
    · rw [decide_eq_true o1, decide_eq_true (P1.mpr o1), Option.bind_some, if_pos rfl, spec_l1In.ev, Bool.true_and, Option.bind_some]
      obtain ⟨m, hm⟩ := nat_of o1.1
      by_cases o2 : x.f1 ≥ 0
      · obtain ⟨v, hv⟩ := nat_of o2
        rw [hm] at o1
        have hv63 : v < 2 ^ 63 := by omega
        have hm63 : m < 2 ^ 63 := by omega
        rw [decide_eq_true o2, Bool.true_and, hm, hv, and_nat hv63 hm63, andNot_nat hv63 hm63]
        by_cases hs : v &&& m = v
        · have hle : v ≤ m := by rw [← hs]; exact Nat.and_le_right
          rw [hs, subset_iff.mp hs, decide_eq_true (by omega), if_pos rfl]
          simp
        · have hz : andn v m ≠ 0 := fun e => hs (subset_iff.mpr e)
          have e1 : (((v &&& m : Nat) : Int) == (v : Int)) = false := by rw [beq_eq_false_iff_ne]; omega
          have e2 : (((andn v m : Nat) : Int) == 0) = false := by rw [beq_eq_false_iff_ne]; omega
          rw [e1, e2]
          split <;> rfl
      · rw [decide_eq_false o2, decide_eq_false (by omega), if_neg (by decide)]; rfl
    · rw [decide_eq_false o1, decide_eq_false (fun e => o1 (P1.mp e)), Option.bind_some, if_neg (by decide)]; rfl
  · rw [decide_eq_false ha, Option.bind_some, if_neg (by decide)]; rfl

/-! ### facts on spec_l28Terms -/
--IMPORT M5
/-- at most 40 terms of n variables -/
def spec_l28Terms.ok (a : Int) (l : List S71) : Bool := decide (0 ≤ a ∧ a ≤ 5) && l.all (impl_areTerms.ok a) && decide ((l.length : Int) ≤ 40)
open Go.Proofs.Ytcelfhphmlhonaa.M in
theorem spec_l28Terms.ev (a : Int) (l : List S71) (hl : l.length ≤ 1048576) (hw : ∀ x ∈ l, x.f1 < 9223372036854775808) : Ev (fun k => spec_l28Terms.f k a l) (spec_l28Terms.ok a l) := by
  have key : ∀ d i, i + d = l.length → Ev (fun k => spec_l28Terms.l0 k a l (i : Int)) (decide (0 ≤ a ∧ a ≤ 5) && (l.drop i).all (impl_areTerms.ok a) && decide ((l.length : Int) ≤ 40)) := by
    intro d
    induction d with
    | zero =>
      intro i hi
      obtain rfl : i = l.length := by omega
      refine Ev.end (fun k => ?_)
      simp only [spec_l28Terms.l0]
      rw [if_neg (by omega), spec_l1In.ev, Option.bind_some]
      cases decide (0 ≤ a ∧ a ≤ 5) <;> simp
    | succ d ih =>
      intro i hi
      have hi' : i < l.length := by omega
      have hd : l.drop i = l.getD i z71 :: l.drop (i + 1) := by
        rw [List.drop_eq_getElem_cons hi']
        simp [List.getD_eq_getElem?_getD, hi']
      have hx : rd_T71 l (i : Int) = l.getD i z71 := by simp [rd_T71]
      have hm : l.getD i z71 ∈ l := by simp [List.getD_eq_getElem?_getD, hi']
      have hb := hw _ hm
      clear hm
      rw [hd, List.all_cons]
      generalize l.getD i z71 = x at *
      have et := spec_IsTerm.ev a x hb
      cases hq : (decide (0 ≤ a ∧ a ≤ 5) && impl_areTerms.ok a x) with
      | true =>
        rw [hq] at et
        have ih := ih (i + 1) (by omega)
        rw [Bool.and_eq_true] at hq
        rw [hq.1] at ih ⊢
        rw [hq.2]
        refine Ev.step (fun k => ?_) ih
        simp only [spec_l28Terms.l0]
        rw [if_pos (by omega), if_pos (by omega), hx, et, Option.bind_some, if_pos rfl, w64 (by omega) (by omega)]; rfl
      | false =>
        rw [hq] at et
        rw [← Bool.and_assoc, hq, Bool.false_and, Bool.false_and]
        refine Ev.end (fun k => ?_)
        simp only [spec_l28Terms.l0]
        rw [if_pos (by omega), if_pos (by omega), hx, et, Option.bind_some, if_neg (by decide)]
  exact key l.length 0 (by omega)

/-! ### facts on spec_l28Hazard -/
--IMPORT M5
/-- does a term hold for an input -/
def spec_l28Hazard.hold (x : Int) (t : S71) : Bool := Go.bits .and .i64 x t.f0 == t.f1
/-- do terms hold for two inputs, but none for both -/
def spec_l28Hazard.hz (x y : Int) : List S71 → Bool → Bool → Bool
  | [], a, b => a && b
  | t :: r, a, b => if spec_l28Hazard.hold x t = true then (if spec_l28Hazard.hold y t = true then false else spec_l28Hazard.hz x y r true b) else spec_l28Hazard.hz x y r a (b || spec_l28Hazard.hold y t)
open Go.Proofs.Ytcelfhphmlhonaa.M in
theorem spec_l28Hazard.loop (l : List S71) (hl : l.length ≤ 1048576) (x y : Int) : ∀ d i a b, i + d = l.length → Ev (fun k => spec_l28Hazard.l0 k l x y a b (i : Int)) (spec_l28Hazard.hz x y (l.drop i) a b) := by
  intro d
  induction d with
  | zero =>
    intro i a b hi
    obtain rfl : i = l.length := by omega
    refine Ev.end (fun k => ?_)
    simp only [spec_l28Hazard.l0]
    rw [if_neg (by omega), List.drop_length]
    cases a <;> rfl
  | succ d ih =>
    intro i a b hi
    have hi' : i < l.length := by omega
    have hd : l.drop i = l.getD i z71 :: l.drop (i + 1) := by
      rw [List.drop_eq_getElem_cons hi']
      simp [List.getD_eq_getElem?_getD, hi']
    have hx : rd_T71 l (i : Int) = l.getD i z71 := by simp [rd_T71]
    have e1 : wrap64 ((i : Int) + 1) = ((i + 1 : Nat) : Int) := up1 (by omega)
    have ih := fun a b => ih (i + 1) a b (by omega)
    rw [hd]
    generalize l.getD i z71 = t at *
    have P (u : Int) : (Go.bits .and .i64 u t.f0 = t.f1) ↔ spec_l28Hazard.hold u t = true := by unfold spec_l28Hazard.hold; rw [beq_iff_eq]
    cases hp : spec_l28Hazard.hold x t with
    | true =>
      have hp' := (P x).mpr hp
      cases hq : spec_l28Hazard.hold y t with
      | true =>
        have hq' := (P y).mpr hq
        rw [spec_l28Hazard.hz, hp, hq, if_pos rfl, if_pos rfl]
        refine Ev.end (fun k => ?_)
        simp only [spec_l28Hazard.l0]
        rw [if_pos (by omega), if_pos (by omega), hx, if_pos hp', if_pos hq']
      | false =>
        have hq' : ¬ Go.bits .and .i64 y t.f0 = t.f1 := fun e => by rw [(P y).mp e] at hq; cases hq
        rw [spec_l28Hazard.hz, hp, hq, if_pos rfl, if_neg (by decide)]
        refine Ev.step (fun k => ?_) (ih true b)
        simp only [spec_l28Hazard.l0]
        rw [if_pos (by omega), if_pos (by omega), hx, if_pos hp', if_neg hq', e1]
        have hp2 : (Go.bits .and .i64 x t.f0 == t.f1) = true := hp
        have hq2 : (Go.bits .and .i64 y t.f0 == t.f1) = false := hq
        rw [hp2, hq2]
        cases a <;> cases b <;> rfl
    | false =>
      have hp' : ¬ Go.bits .and .i64 x t.f0 = t.f1 := fun e => by rw [(P x).mp e] at hp; cases hp
      rw [spec_l28Hazard.hz, hp, if_neg (by decide)]
      refine Ev.step (fun k => ?_) (ih a (b || spec_l28Hazard.hold y t))
      simp only [spec_l28Hazard.l0]
      rw [if_pos (by omega), if_pos (by omega), hx, if_neg hp', e1]
      have hp2 : (Go.bits .and .i64 x t.f0 == t.f1) = false := hp
      rw [hp2]
      unfold spec_l28Hazard.hold
      cases a <;> cases b <;> rfl
open Go.Proofs.Ytcelfhphmlhonaa.M in
theorem spec_l28Hazard.ev (l : List S71) (hl : l.length ≤ 1048576) (x y : Int) : Ev (fun k => spec_l28Hazard.f k l x y) (spec_l28Hazard.hz x y l false false) := spec_l28Hazard.loop l hl x y l.length 0 false false (by omega)

/-! ### facts on spec_HazardsOf -/
--IMPORT M5
/-- a pair that differs in variable i, if x has it not and there is a hazard -/
def spec_HazardsOf.one (l : List S71) (x i : Nat) : List (List Int) := if x.testBit i = false ∧ spec_l28Hazard.hz (x : Int) ((x + 2 ^ i : Nat) : Int) l false false = true then [[(x : Int), ((x + 2 ^ i : Nat) : Int)]] else []
def spec_HazardsOf.row (l : List S71) (x : Nat) : Nat → List (List Int)
  | 0 => []
  | i + 1 => spec_HazardsOf.row l x i ++ spec_HazardsOf.one l x i
def spec_HazardsOf.all (n : Nat) (l : List S71) : Nat → List (List Int)
  | 0 => []
  | x + 1 => spec_HazardsOf.all n l x ++ spec_HazardsOf.row l x n
theorem spec_HazardsOf.one_le (l : List S71) (x i : Nat) : (spec_HazardsOf.one l x i).length ≤ 1 := by unfold spec_HazardsOf.one; split <;> simp
theorem spec_HazardsOf.row_le (l : List S71) (x : Nat) : ∀ i, (spec_HazardsOf.row l x i).length ≤ i
  | 0 => by simp [spec_HazardsOf.row]
  | i + 1 => by have := spec_HazardsOf.row_le l x i; have := spec_HazardsOf.one_le l x i; rw [spec_HazardsOf.row, List.length_append]; omega
theorem spec_HazardsOf.all_le (n : Nat) (l : List S71) : ∀ x, (spec_HazardsOf.all n l x).length ≤ x * n
  | 0 => by simp [spec_HazardsOf.all]
  | x + 1 => by have := spec_HazardsOf.all_le n l x; have := spec_HazardsOf.row_le l x n; rw [spec_HazardsOf.all, List.length_append, Nat.succ_mul]; omega
open Go.Proofs.Ytcelfhphmlhonaa.M in
theorem spec_HazardsOf.bits : ∀ x, x < 32 → ∀ i, i < 5 → (x.testBit i = false → x ||| 2 ^ i = x + 2 ^ i ∧ x ^^^ 2 ^ i = x + 2 ^ i) ∧ (x.testBit i = true → x ^^^ 2 ^ i ≤ x) ∧ x ^^^ 2 ^ i < 32 :=
  allB_dec2 (P := fun x i => (x.testBit i = false → x ||| 2 ^ i = x + 2 ^ i ∧ x ^^^ 2 ^ i = x + 2 ^ i) ∧ (x.testBit i = true → x ^^^ 2 ^ i ≤ x) ∧ x ^^^ 2 ^ i < 32) (by decide +kernel)
open Go.Proofs.Ytcelfhphmlhonaa.M in
/-- the pairs of the answer -/
def spec_HazardsOf.r (a : Int) (l : List S71) : List (List Int) × Bool := if spec_l28Terms.ok a l = true then (spec_HazardsOf.all a.toNat l (2 ^ a.toNat), true) else ([], false)
open Go.Proofs.Ytcelfhphmlhonaa.M in
theorem spec_HazardsOf.ok_n {a : Int} {l : List S71} (h : spec_l28Terms.ok a l = true) : ∃ n : Nat, a = (n : Int) ∧ n ≤ 5 ∧ l.length ≤ 40 := by
  unfold spec_l28Terms.ok at h
  rw [Bool.and_eq_true, Bool.and_eq_true] at h
  have h1 := of_decide_eq_true h.1.1
  have h2 := of_decide_eq_true h.2
  exact ⟨a.toNat, by omega, by omega, by omega⟩
open Go.Proofs.Ytcelfhphmlhonaa.M in
theorem spec_HazardsOf.ev (a : Int) (l : List S71) (hl : l.length ≤ 1048576) (hw : ∀ x ∈ l, x.f1 < 9223372036854775808) : Ev (fun k => spec_HazardsOf.f k a l) (spec_HazardsOf.r a l) := by
  have h1 := spec_l28Terms.ev a l hl hw
  unfold spec_HazardsOf.r
  refine Ev.congr (f := fun k => (spec_l28Terms.f k a l).bind fun t => if t = true then spec_HazardsOf.l0 k a l [] 0 else some ([], false)) (fun k => rfl) (Ev.bind h1 ?_)
  cases hv : spec_l28Terms.ok a l with
  | false => exact Ev.now _
  | true =>
    obtain ⟨n, rfl, hn, h40⟩ := spec_HazardsOf.ok_n hv
    have h5 := pow_le_5 hn
    simp only [if_true, Int.toNat_natCast]
    have row : ∀ x, x < 2 ^ n → Ev (fun k => spec_HazardsOf.l0 k n l (spec_HazardsOf.all n l (x + 1)) ((x + 1 : Nat) : Int)) (spec_HazardsOf.all n l (2 ^ n), true) → ∀ d i, i + d = n → Ev (fun k => spec_HazardsOf.l1 k n l (spec_HazardsOf.all n l x ++ spec_HazardsOf.row l x i) (x : Int) (i : Int)) (spec_HazardsOf.all n l (2 ^ n), true) := by
      intro x hx hnext
      refine Ev.count (fun k i => spec_HazardsOf.l1 k n l (spec_HazardsOf.all n l x ++ spec_HazardsOf.row l x i) (x : Int) (i : Int)) n _ ?_ ?_
      · intro i hi hn'
        obtain ⟨b1, b2, b3⟩ := spec_HazardsOf.bits x (by omega) i (by omega)
        have e1 : wrap64 ((i : Int) + 1) = ((i + 1 : Nat) : Int) := up1 (by omega)
        have hlen : (spec_HazardsOf.all n l x ++ spec_HazardsOf.row l x i).length < 5864062014805 := by
          have := spec_HazardsOf.all_le n l x
          have := spec_HazardsOf.row_le l x i
          have h3 : x * n ≤ 32 * 5 := Nat.mul_le_mul (by omega) hn
          rw [List.length_append]; omega
        have hi63 : 2 ^ i < 2 ^ 63 := Nat.pow_lt_pow_right (by decide) (by omega)
        cases hb : x.testBit i with
        | true =>
          have er : spec_HazardsOf.row l x (i + 1) = spec_HazardsOf.row l x i := by rw [spec_HazardsOf.row, spec_HazardsOf.one, if_neg (by rw [hb]; simp), List.append_nil]
          rw [er] at hn'
          refine Ev.step (fun k => ?_) hn'
          simp only [spec_HazardsOf.l1]
          rw [if_pos (by omega), if_pos (by omega), bit_nat (by omega) (by omega), hb, if_neg (by decide), e1]
        | false =>
          have eo : Go.bits .or .i64 (x : Int) (shl .i64 1 (i : Int)) = ((x + 2 ^ i : Nat) : Int) := by rw [shl_one (by omega), or_nat (by omega) hi63, (b1 hb).1]
          have hz := spec_l28Hazard.ev l hl (x : Int) ((x + 2 ^ i : Nat) : Int)
          have er : spec_HazardsOf.row l x (i + 1) = spec_HazardsOf.row l x i ++ (if spec_l28Hazard.hz (x : Int) ((x + 2 ^ i : Nat) : Int) l false false = true then [[(x : Int), ((x + 2 ^ i : Nat) : Int)]] else []) := by
            rw [spec_HazardsOf.row, spec_HazardsOf.one]
            congr 1
            apply ite_congr _ (fun _ => rfl) (fun _ => rfl)
            rw [hb]; simp
          rw [er] at hn'
          generalize spec_l28Hazard.hz (x : Int) ((x + 2 ^ i : Nat) : Int) l false false = q at hz hn'
          refine Ev.step (f := fun k => (spec_l28Hazard.f k l (x : Int) ((x + 2 ^ i : Nat) : Int)).bind fun t => if t = true then spec_HazardsOf.l1 k n l ((spec_HazardsOf.all n l x ++ spec_HazardsOf.row l x i) ++ [[(x : Int), ((x + 2 ^ i : Nat) : Int)]]) (x : Int) ((i + 1 : Nat) : Int) else spec_HazardsOf.l1 k n l (spec_HazardsOf.all n l x ++ spec_HazardsOf.row l x i) (x : Int) ((i + 1 : Nat) : Int)) (fun k => ?_) (Ev.bind hz ?_)
          · simp only [spec_HazardsOf.l1]
            rw [if_pos (by omega), if_pos (by omega), bit_nat (by omega) (by omega), hb, if_pos (by decide), eo, e1, if_pos hlen]
          · cases q with
            | true =>
              rw [if_pos rfl] at hn'
              simp only [if_true]
              rw [List.append_assoc]; exact hn'
            | false =>
              rw [if_neg (by decide), List.append_nil] at hn'
              simp only [Bool.false_eq_true, if_false]
              exact hn'
      · refine Ev.step (fun k => ?_) hnext
        simp only [spec_HazardsOf.l1]
        rw [if_neg (by omega), up1 (by omega)]
        rfl
    have h0 := Ev.count (fun k x => spec_HazardsOf.l0 k n l (spec_HazardsOf.all n l x) (x : Int)) (2 ^ n) (spec_HazardsOf.all n l (2 ^ n), true) (fun x hx hnext => by
      have h := row x hx hnext n 0 (by omega)
      refine Ev.step (fun k => ?_) h
      simp only [spec_HazardsOf.l0]
      rw [if_pos (Int.natCast_nonneg n), shl_one (by omega), if_pos (by omega)]
      simp [spec_HazardsOf.row]) (Ev.end (fun k => by
      simp only [spec_HazardsOf.l0]
      rw [if_pos (Int.natCast_nonneg n), shl_one (by omega), if_neg (by omega)])) (2 ^ n) 0 (by omega)
    exact h0

/-! ### facts on spec_RepairSum -/
--IMPORT M5
/-- the term that both inputs of a pair answer -/
def spec_RepairSum.fix (n x i : Nat) : S71 := ⟨((2 ^ n - 1 - 2 ^ i : Nat) : Int), (x : Int)⟩
def spec_RepairSum.step (n : Nat) (out : List S71) (h : List Int) : List S71 := if spec_l28Hazard.hz (rd h 0) (rd h 1) out false false = true then out ++ [⟨((2 ^ n - 1 : Nat) : Int) - (rd h 1 - rd h 0), rd h 0⟩] else out
def spec_RepairSum.go (n : Nat) (H : List (List Int)) (out : List S71) : Nat → List S71
  | 0 => out
  | i + 1 => spec_RepairSum.step n (spec_RepairSum.go n H out i) (H.getD i [])
theorem spec_RepairSum.go_len (n : Nat) (H : List (List Int)) (out : List S71) : ∀ i, (spec_RepairSum.go n H out i).length ≤ out.length + i
  | 0 => Nat.le_refl _
  | i + 1 => by
    have := spec_RepairSum.go_len n H out i
    rw [spec_RepairSum.go, spec_RepairSum.step]
    split
    · rw [List.length_append, List.length_singleton]; omega
    · omega
theorem spec_RepairSum.row_pair (l : List S71) (x : Nat) : ∀ n, ∀ h ∈ spec_HazardsOf.row l x n, ∃ i, i < n ∧ x.testBit i = false ∧ h = [(x : Int), ((x + 2 ^ i : Nat) : Int)]
  | 0 => by intro h hh; rw [spec_HazardsOf.row] at hh; cases hh
  | n + 1 => by
    intro h hh
    rw [spec_HazardsOf.row, List.mem_append] at hh
    rcases hh with hh | hh
    · obtain ⟨i, h1, h2, h3⟩ := spec_RepairSum.row_pair l x n h hh
      exact ⟨i, by omega, h2, h3⟩
    · unfold spec_HazardsOf.one at hh
      split at hh
      · rename_i hc
        rw [List.mem_singleton] at hh
        exact ⟨n, by omega, hc.1, hh⟩
      · cases hh
theorem spec_RepairSum.all_pair (n : Nat) (l : List S71) : ∀ N, ∀ h ∈ spec_HazardsOf.all n l N, ∃ x i, x < N ∧ i < n ∧ x.testBit i = false ∧ h = [(x : Int), ((x + 2 ^ i : Nat) : Int)]
  | 0 => by intro h hh; rw [spec_HazardsOf.all] at hh; cases hh
  | N + 1 => by
    intro h hh
    rw [spec_HazardsOf.all, List.mem_append] at hh
    rcases hh with hh | hh
    · obtain ⟨x, i, h0, h1, h2, h3⟩ := spec_RepairSum.all_pair n l N h hh
      exact ⟨x, i, by omega, h1, h2, h3⟩
    · obtain ⟨i, h1, h2, h3⟩ := spec_RepairSum.row_pair l N n h hh
      exact ⟨N, i, by omega, h1, h2, h3⟩
open Go.Proofs.Ytcelfhphmlhonaa.M in
theorem spec_RepairSum.bits : ∀ n, n < 6 → ∀ x, x < 32 → ∀ i, i < 5 → (x < 2 ^ n → i < n → x.testBit i = false → 2 ^ i ≤ 2 ^ n - 1 ∧ x &&& (2 ^ n - 1 - 2 ^ i) = x ∧ x ^^^ (x + 2 ^ i) = 2 ^ i ∧ andn (2 ^ n - 1) (2 ^ i) = 2 ^ n - 1 - 2 ^ i) :=
  allB_dec3 (P := fun n x i => (x < 2 ^ n → i < n → x.testBit i = false → 2 ^ i ≤ 2 ^ n - 1 ∧ x &&& (2 ^ n - 1 - 2 ^ i) = x ∧ x ^^^ (x + 2 ^ i) = 2 ^ i ∧ andn (2 ^ n - 1) (2 ^ i) = 2 ^ n - 1 - 2 ^ i)) (by decide +kernel)
/-- the terms with all that the hazards ask for -/
def spec_RepairSum.r (a : Int) (l : List S71) : List S71 × Bool := if spec_l28Terms.ok a l = true then (spec_RepairSum.go a.toNat (spec_HazardsOf.all a.toNat l (2 ^ a.toNat)) l (spec_HazardsOf.all a.toNat l (2 ^ a.toNat)).length, true) else ([], false)
theorem spec_RepairSum.go_short (n : Nat) (hn : n ≤ 5) (l : List S71) (h40 : l.length ≤ 40) : (spec_HazardsOf.all n l (2 ^ n)).length ≤ 160 := by
  have h1 := spec_HazardsOf.all_le n l (2 ^ n)
  have h5 : 2 ^ n ≤ 32 := Go.Proofs.Ytcelfhphmlhonaa.M.pow_le_5 hn
  have h3 : 2 ^ n * n ≤ 32 * 5 := Nat.mul_le_mul h5 hn
  omega
theorem spec_RepairSum.r_len (a : Int) (l : List S71) : (spec_RepairSum.r a l).1.length ≤ 200 := by
  unfold spec_RepairSum.r
  split
  · rename_i h
    obtain ⟨n, rfl, hn, h40⟩ := spec_HazardsOf.ok_n h
    simp only [Int.toNat_natCast]
    have h1 := spec_RepairSum.go_short n hn l h40
    have h2 := spec_RepairSum.go_len n (spec_HazardsOf.all n l (2 ^ n)) l (spec_HazardsOf.all n l (2 ^ n)).length
    omega
  · simp
open Go.Proofs.Ytcelfhphmlhonaa.M in
theorem spec_RepairSum.ev (a : Int) (l : List S71) (hl : l.length ≤ 1048576) (hw : ∀ x ∈ l, x.f1 < 9223372036854775808) : Ev (fun k => spec_RepairSum.f k a l) (spec_RepairSum.r a l) := by
  have h1 := spec_HazardsOf.ev a l hl hw
  refine Ev.bind h1 ?_
  unfold spec_HazardsOf.r spec_RepairSum.r
  cases hv : spec_l28Terms.ok a l with
  | false => exact Ev.now _
  | true =>
    obtain ⟨n, rfl, hn, h40⟩ := spec_HazardsOf.ok_n hv
    have h5 := pow_le_5 hn
    have hs := spec_RepairSum.go_short n hn l h40
    have hp := spec_RepairSum.all_pair n l (2 ^ n)
    simp only [if_true, Int.toNat_natCast, Option.bind_some, List.nil_append, List.length_nil, Nat.zero_add]
    refine Ev.congr (fun k => if_pos (by omega)) ?_
    generalize spec_HazardsOf.all n l (2 ^ n) = H at *
    clear h1 hw hv
    refine Ev.count (fun k i => spec_RepairSum.l0 k n H (spec_RepairSum.go n H l i) (i : Int)) H.length _ ?_ ?_ H.length 0 (by omega)
    · intro i hi hnext
      have hm : H.getD i [] ∈ H := by simp [List.getD_eq_getElem?_getD, hi]
      obtain ⟨x, j, hx, hj, hb, eh⟩ := hp _ hm
      have hB := Aside0.mk (spec_RepairSum.bits n (by omega) x (by omega) j (by omega) hx hj hb)
      have b1 := hB.out.1
      have pj := Nat.two_pow_pos j
      have hlen := spec_RepairSum.go_len n H l i
      have hl2 : (spec_RepairSum.go n H l i).length ≤ 1048576 := by clear hB b1 pj hx hj hb eh; omega
      have hl3 : (spec_RepairSum.go n H l i).length < 8796093022208 := by clear hB b1 pj hx hj hb eh; omega
      have em : wrap64 ((wrap64 ((shl .i64 1 (n : Int)) - 1)) - (wrap64 (((x + 2 ^ j : Nat) : Int) - (x : Int)))) = ((2 ^ n - 1 - 2 ^ j : Nat) : Int) := by
        rw [shl_one (by omega), w64 (x := ((2 ^ n : Nat) : Int) - 1) (by omega) (by omega), w64 (x := ((x + 2 ^ j : Nat) : Int) - (x : Int)) (by omega) (by omega), w64 (by omega) (by omega)]
        omega
      have ea : Go.bits .and .i64 (x : Int) ((2 ^ n - 1 - 2 ^ j : Nat) : Int) = (x : Int) := by rw [and_nat (by omega) (by omega), hB.out.2.1]
      have es : ((2 ^ n - 1 : Nat) : Int) - (((x + 2 ^ j : Nat) : Int) - (x : Int)) = ((2 ^ n - 1 - 2 ^ j : Nat) : Int) := by omega
      have hrd : rd_L3 H (i : Int) = [(x : Int), ((x + 2 ^ j : Nat) : Int)] := by rw [← eh]; simp [rd_L3]
      have r0 : rd [(x : Int), ((x + 2 ^ j : Nat) : Int)] 0 = (x : Int) := by simp [rd]
      have r1 : rd [(x : Int), ((x + 2 ^ j : Nat) : Int)] 1 = ((x + 2 ^ j : Nat) : Int) := by simp [rd]
      have e1 : wrap64 ((i : Int) + 1) = ((i + 1 : Nat) : Int) := up1 (by omega)
      have hz := spec_l28Hazard.ev (spec_RepairSum.go n H l i) hl2 (x : Int) ((x + 2 ^ j : Nat) : Int)
      have eg : spec_RepairSum.go n H l (i + 1) = spec_RepairSum.step n (spec_RepairSum.go n H l i) [(x : Int), ((x + 2 ^ j : Nat) : Int)] := by rw [spec_RepairSum.go, eh]
      rw [eg, spec_RepairSum.step, r0, r1] at hnext
      rw [es] at hnext
      generalize spec_l28Hazard.hz (x : Int) ((x + 2 ^ j : Nat) : Int) (spec_RepairSum.go n H l i) false false = q at hz hnext
      generalize spec_RepairSum.go n H l i = out at *
      refine Ev.step (f := fun k => (spec_l28Hazard.f k out (x : Int) ((x + 2 ^ j : Nat) : Int)).bind fun t => if t = true then spec_RepairSum.l0 k n H (out ++ [⟨((2 ^ n - 1 - 2 ^ j : Nat) : Int), (x : Int)⟩]) ((i + 1 : Nat) : Int) else spec_RepairSum.l0 k n H out ((i + 1 : Nat) : Int)) (fun k => ?_) (Ev.bind hz ?_)
      · simp only [spec_RepairSum.l0]
        rw [hrd, r0, r1, em, ea, e1, if_pos (Int.ofNat_lt.mpr hi), if_pos (Int.natCast_nonneg i), if_pos (by simp), if_pos (by simp), if_pos (Int.natCast_nonneg n), if_pos hl3]
      · cases q with
        | true => rw [if_pos rfl] at hnext; simp only [if_true]; exact hnext
        | false => rw [if_neg (by decide)] at hnext; simp only [Bool.false_eq_true, if_false]; exact hnext
    · refine Ev.end (fun k => ?_)
      simp only [spec_RepairSum.l0]
      rw [if_neg (by omega)]

/-! ### facts on impl_isBits -/
theorem impl_isBits.ev (a : Int) : impl_isBits.f a = some (decide (0 ≤ a ∧ a ≤ 5)) := by
  unfold impl_isBits.f
  by_cases h : 0 ≤ a
  · rw [if_pos h]; simp [h]
  · rw [if_neg h]; simp [h]

/-! ### facts on impl_areValid -/
--IMPORT M5
theorem impl_areValid.ev (a : Int) (l : List S71) : impl_areValid.f a l = some (spec_l28Terms.ok a l) := by
  unfold impl_areValid.f impl_areTerms.f spec_l28Terms.ok
  rw [Option.bind_some]
  cases decide (0 ≤ a ∧ a ≤ 5) && l.all (impl_areTerms.ok a) <;> simp

/-! ### facts on impl_isHazard -/
--IMPORT M5
open Go.Proofs.Ytcelfhphmlhonaa.M in
theorem impl_isHazard.loop (l : List S71) (hl : l.length ≤ 1048576) (x y : Int) : ∀ d i a b, i + d = l.length → Ev (fun k => impl_isHazard.l0 k x y a b l (l.length : Int) (i : Int)) (spec_l28Hazard.hz x y (l.drop i) a b) := by
  intro d
  induction d with
  | zero =>
    intro i a b hi
    obtain rfl : i = l.length := by omega
    refine Ev.end (fun k => ?_)
    simp only [impl_isHazard.l0]
    rw [if_neg (by omega), List.drop_length]
    cases a <;> rfl
  | succ d ih =>
    intro i a b hi
    have hi' : i < l.length := by omega
    have hd : l.drop i = l.getD i z71 :: l.drop (i + 1) := by
      rw [List.drop_eq_getElem_cons hi']
      simp [List.getD_eq_getElem?_getD, hi']
    have hx : rd_T71 l (i : Int) = l.getD i z71 := by simp [rd_T71]
    have e1 : wrap64 ((i : Int) + 1) = ((i + 1 : Nat) : Int) := up1 (by omega)
    have ih := fun a b => ih (i + 1) a b (by omega)
    rw [hd]
    generalize l.getD i z71 = t at *
    have T (u : Int) : impl_Term_holds.f t.f0 t.f1 u = some (spec_l28Hazard.hold u t) := rfl
    cases hp : spec_l28Hazard.hold x t with
    | true =>
      cases hq : spec_l28Hazard.hold y t with
      | true =>
        rw [spec_l28Hazard.hz, hp, hq, if_pos rfl, if_pos rfl]
        refine Ev.end (fun k => ?_)
        simp only [impl_isHazard.l0]
        rw [if_pos (by omega), if_pos (by omega), if_pos (by omega), hx, T, T, hp, hq]; rfl
      | false =>
        rw [spec_l28Hazard.hz, hp, hq, if_pos rfl, if_neg (by decide)]
        refine Ev.step (fun k => ?_) (ih true b)
        simp only [impl_isHazard.l0]
        rw [if_pos (by omega), if_pos (by omega), if_pos (by omega), hx, T, T, hp, hq, e1]
        cases a <;> cases b <;> rfl
    | false =>
      rw [spec_l28Hazard.hz, hp, if_neg (by decide)]
      refine Ev.step (fun k => ?_) (ih a (b || spec_l28Hazard.hold y t))
      simp only [impl_isHazard.l0]
      rw [if_pos (by omega), if_pos (by omega), if_pos (by omega), hx, T, T, hp, e1]
      cases a <;> cases b <;> rfl
open Go.Proofs.Ytcelfhphmlhonaa.M in
theorem impl_isHazard.ev (l : List S71) (hl : l.length ≤ 1048576) (x y : Int) : Ev (fun k => impl_isHazard.f k l x y) (spec_l28Hazard.hz x y l false false) := impl_isHazard.loop l hl x y l.length 0 false false (by omega)

/-! ### facts on impl_hazards -/
--IMPORT M5
open Go.Proofs.Ytcelfhphmlhonaa.M in
theorem impl_hazards.ev {n : Nat} (hn : n ≤ 5) (l : List S71) (hl : l.length ≤ 1048576) : Ev (fun k => impl_hazards.f k n l) (spec_HazardsOf.all n l (2 ^ n)) := by
  have h5 := pow_le_5 hn
  have row : ∀ x, x < 2 ^ n → Ev (fun k => impl_hazards.l0 k n l (spec_HazardsOf.all n l (x + 1)) ((2 ^ n : Nat) : Int) ((x + 1 : Nat) : Int)) (spec_HazardsOf.all n l (2 ^ n)) → ∀ d i, i + d = n → Ev (fun k => impl_hazards.l1 k n l (spec_HazardsOf.all n l x ++ spec_HazardsOf.row l x i) (x : Int) ((2 ^ n : Nat) : Int) (x : Int) n (i : Int)) (spec_HazardsOf.all n l (2 ^ n)) := by
    intro x hx hnext
    refine Ev.count (fun k i => impl_hazards.l1 k n l (spec_HazardsOf.all n l x ++ spec_HazardsOf.row l x i) (x : Int) ((2 ^ n : Nat) : Int) (x : Int) n (i : Int)) n _ ?_ ?_
    · intro i hi hn'
      obtain ⟨b1, b2, b3⟩ := spec_HazardsOf.bits x (by omega) i (by omega)
      have e1 : wrap64 ((i : Int) + 1) = ((i + 1 : Nat) : Int) := up1 (by omega)
      have hlen : (spec_HazardsOf.all n l x ++ spec_HazardsOf.row l x i).length < 5864062014805 := by
        have := spec_HazardsOf.all_le n l x
        have := spec_HazardsOf.row_le l x i
        have h3 : x * n ≤ 32 * 5 := Nat.mul_le_mul (by omega) hn
        rw [List.length_append]; omega
      have hi63 : 2 ^ i < 2 ^ 63 := Nat.pow_lt_pow_right (by decide) (by omega)
      have eo : Go.bits .xor .i64 (x : Int) (shl .i64 1 (i : Int)) = ((x ^^^ 2 ^ i : Nat) : Int) := by rw [shl_one (by omega), xor_nat (by omega) hi63]
      cases hb : x.testBit i with
      | true =>
        have er : spec_HazardsOf.row l x (i + 1) = spec_HazardsOf.row l x i := by rw [spec_HazardsOf.row, spec_HazardsOf.one, if_neg (by rw [hb]; simp), List.append_nil]
        rw [er] at hn'
        refine Ev.step (fun k => ?_) hn'
        simp only [impl_hazards.l1]
        have := b2 hb
        rw [if_pos (by omega), if_pos (by omega), eo, if_neg (by omega), e1]
      | false =>
        have eq := (b1 hb).2
        have hpos := Nat.two_pow_pos i
        rw [eq] at eo
        have hz := impl_isHazard.ev l hl (x : Int) ((x + 2 ^ i : Nat) : Int)
        have er : spec_HazardsOf.row l x (i + 1) = spec_HazardsOf.row l x i ++ (if spec_l28Hazard.hz (x : Int) ((x + 2 ^ i : Nat) : Int) l false false = true then [[(x : Int), ((x + 2 ^ i : Nat) : Int)]] else []) := by
          rw [spec_HazardsOf.row, spec_HazardsOf.one]
          congr 1
          apply ite_congr _ (fun _ => rfl) (fun _ => rfl)
          rw [hb]; simp
        rw [er] at hn'
        generalize spec_l28Hazard.hz (x : Int) ((x + 2 ^ i : Nat) : Int) l false false = q at hz hn'
        refine Ev.step (f := fun k => (impl_isHazard.f k l (x : Int) ((x + 2 ^ i : Nat) : Int)).bind fun t => if t = true then impl_hazards.l1 k n l ((spec_HazardsOf.all n l x ++ spec_HazardsOf.row l x i) ++ [[(x : Int), ((x + 2 ^ i : Nat) : Int)]]) (x : Int) ((2 ^ n : Nat) : Int) (x : Int) n ((i + 1 : Nat) : Int) else impl_hazards.l1 k n l (spec_HazardsOf.all n l x ++ spec_HazardsOf.row l x i) (x : Int) ((2 ^ n : Nat) : Int) (x : Int) n ((i + 1 : Nat) : Int)) (fun k => ?_) (Ev.bind hz ?_)
        · simp only [impl_hazards.l1]
          rw [if_pos (by omega), if_pos (by omega), eo, if_pos (by omega), e1, if_pos hlen]
        · cases q with
          | true =>
            rw [if_pos rfl] at hn'
            simp only [if_true]
            rw [List.append_assoc]; exact hn'
          | false =>
            rw [if_neg (by decide), List.append_nil] at hn'
            simp only [Bool.false_eq_true, if_false]
            exact hn'
    · refine Ev.step (fun k => ?_) hnext
      simp only [impl_hazards.l1]
      rw [if_neg (by omega), up1 (by omega)]
      rfl
  have h0 := Ev.count (fun k x => impl_hazards.l0 k n l (spec_HazardsOf.all n l x) ((2 ^ n : Nat) : Int) (x : Int)) (2 ^ n) (spec_HazardsOf.all n l (2 ^ n)) (fun x hx hnext => by
    have h := row x hx hnext n 0 (by omega)
    refine Ev.step (fun k => ?_) h
    simp only [impl_hazards.l0]
    rw [if_pos (by omega)]
    simp [spec_HazardsOf.row]) (Ev.end (fun k => by
    simp only [impl_hazards.l0]
    rw [if_neg (by omega)])) (2 ^ n) 0 (by omega)
  refine Ev.congr (fun k => ?_) h0
  unfold impl_hazards.f
  rw [if_pos (Int.natCast_nonneg n), shl_one (by omega)]
  rfl

/-! ### facts on impl_RepairSum -/
--IMPORT M5
open Go.Proofs.Ytcelfhphmlhonaa.M in
theorem impl_RepairSum.ev (a : Int) (l : List S71) (hl : l.length ≤ 1048576) : Ev (fun k => impl_RepairSum.f k a l) (spec_RepairSum.r a l) := by
  unfold spec_RepairSum.r impl_RepairSum.f
  rw [impl_areValid.ev]
  cases hv : spec_l28Terms.ok a l with
  | false => exact Ev.now _
  | true =>
    obtain ⟨n, rfl, hn, h40⟩ := spec_HazardsOf.ok_n hv
    have h5 := pow_le_5 hn
    have hs := spec_RepairSum.go_short n hn l h40
    have hp := spec_RepairSum.all_pair n l (2 ^ n)
    have h1 := impl_hazards.ev hn l hl
    have ec : impl_Term_65.f l = some l := by unfold impl_Term_65.f; rw [if_pos (by omega)]
    simp only [if_true, Int.toNat_natCast, Option.bind_some, ec]
    refine Ev.bind h1 ?_
    generalize spec_HazardsOf.all n l (2 ^ n) = H at *
    clear h1 hv ec
    refine Ev.count (fun k i => impl_RepairSum.l0 k n (spec_RepairSum.go n H l i) H (H.length : Int) (i : Int)) H.length _ ?_ ?_ H.length 0 (by omega)
    · intro i hi hnext
      have hm : H.getD i [] ∈ H := by simp [List.getD_eq_getElem?_getD, hi]
      obtain ⟨x, j, hx, hj, hb, eh⟩ := hp _ hm
      have hB := Aside0.mk (spec_RepairSum.bits n (by omega) x (by omega) j (by omega) hx hj hb)
      have b1 := hB.out.1
      have pj := Nat.two_pow_pos j
      have hlen := spec_RepairSum.go_len n H l i
      have hl2 : (spec_RepairSum.go n H l i).length ≤ 1048576 := by clear hB b1 pj hx hj hb eh; omega
      have hl3 : (spec_RepairSum.go n H l i).length < 8796093022208 := by clear hB b1 pj hx hj hb eh; omega
      have em : Go.bits .andNot .i64 (wrap64 ((shl .i64 1 (n : Int)) - 1)) (Go.bits .xor .i64 (x : Int) ((x + 2 ^ j : Nat) : Int)) = ((2 ^ n - 1 - 2 ^ j : Nat) : Int) := by
        have ew : wrap64 ((shl .i64 1 (n : Int)) - 1) = ((2 ^ n - 1 : Nat) : Int) := by rw [shl_one (by omega), w64 (by omega) (by omega)]; omega
        rw [ew, xor_nat (by omega) (by omega), hB.out.2.2.1, andNot_nat (by omega) (by omega), hB.out.2.2.2]
      have es : ((2 ^ n - 1 : Nat) : Int) - (((x + 2 ^ j : Nat) : Int) - (x : Int)) = ((2 ^ n - 1 - 2 ^ j : Nat) : Int) := by omega
      have hrd : rd_L3 H (i : Int) = [(x : Int), ((x + 2 ^ j : Nat) : Int)] := by rw [← eh]; simp [rd_L3]
      have r0 : rd [(x : Int), ((x + 2 ^ j : Nat) : Int)] 0 = (x : Int) := by simp [rd]
      have r1 : rd [(x : Int), ((x + 2 ^ j : Nat) : Int)] 1 = ((x + 2 ^ j : Nat) : Int) := by simp [rd]
      have e1 : wrap64 ((i : Int) + 1) = ((i + 1 : Nat) : Int) := up1 (by omega)
      have hz := impl_isHazard.ev (spec_RepairSum.go n H l i) hl2 (x : Int) ((x + 2 ^ j : Nat) : Int)
      have eg : spec_RepairSum.go n H l (i + 1) = spec_RepairSum.step n (spec_RepairSum.go n H l i) [(x : Int), ((x + 2 ^ j : Nat) : Int)] := by rw [spec_RepairSum.go, eh]
      rw [eg, spec_RepairSum.step, r0, r1] at hnext
      rw [es] at hnext
      generalize spec_l28Hazard.hz (x : Int) ((x + 2 ^ j : Nat) : Int) (spec_RepairSum.go n H l i) false false = q at hz hnext
      generalize spec_RepairSum.go n H l i = out at *
      refine Ev.step (f := fun k => (impl_isHazard.f k out (x : Int) ((x + 2 ^ j : Nat) : Int)).bind fun t => if t = true then impl_RepairSum.l0 k n (out ++ [⟨((2 ^ n - 1 - 2 ^ j : Nat) : Int), (x : Int)⟩]) H (H.length : Int) ((i + 1 : Nat) : Int) else impl_RepairSum.l0 k n out H (H.length : Int) ((i + 1 : Nat) : Int)) (fun k => ?_) (Ev.bind hz ?_)
      · simp only [impl_RepairSum.l0]
        rw [hrd, r0, r1, em, e1, if_pos (Int.ofNat_lt.mpr hi), if_pos (Int.natCast_nonneg i), if_pos (Int.ofNat_lt.mpr hi), if_pos (by simp), if_pos (by simp), if_pos (Int.natCast_nonneg n), if_pos hl3]
      · cases q with
        | true => rw [if_pos rfl] at hnext; simp only [if_true]; exact hnext
        | false => rw [if_neg (by decide)] at hnext; simp only [Bool.false_eq_true, if_false]; exact hnext
    · refine Ev.end (fun k => ?_)
      simp only [impl_RepairSum.l0]
      rw [if_neg (by omega)]

/-! ### facts on laws_markTermS -/
--IMPORT M5
/-- terms with a, a + 1, a + 2, .. in their fields -/
def laws_markTermS.up (a : Int) (n : Nat) : List S71 := (List.range n).map (fun j : Nat => (⟨a + 2 * (j : Int), a + 2 * (j : Int) + 1⟩ : S71))
theorem laws_markTermS.up_length (a : Int) (n : Nat) : (laws_markTermS.up a n).length = n := by simp [laws_markTermS.up]
theorem laws_markTermS.up_rd {a : Int} {n i : Nat} (h : i < n) : rd_T71 (laws_markTermS.up a n) (i : Int) = ⟨a + 2 * (i : Int), a + 2 * (i : Int) + 1⟩ := by simp [rd_T71, laws_markTermS.up, List.getD_eq_getElem?_getD, h]
theorem laws_markTermS.up_set {a : Int} {l : List S71} {i : Nat} (h : i < l.length) : (laws_markTermS.up a i ++ l.drop i).set i ⟨a + 2 * (i : Int), a + 2 * (i : Int) + 1⟩ = laws_markTermS.up a (i + 1) ++ l.drop (i + 1) := by
  apply List.ext_getElem?
  intro j
  rw [List.getElem?_set]
  by_cases hj : i = j
  · subst hj
    rw [if_pos rfl, if_pos (by simp [laws_markTermS.up_length]; omega), List.getElem?_append_left (by rw [laws_markTermS.up_length]; omega)]
    simp [laws_markTermS.up]
  · rw [if_neg hj]
    by_cases h2 : j < i
    · rw [List.getElem?_append_left (by rw [laws_markTermS.up_length]; omega), List.getElem?_append_left (by rw [laws_markTermS.up_length]; omega)]
      simp [laws_markTermS.up, h2, show j < i + 1 by omega]
    · rw [List.getElem?_append_right (by rw [laws_markTermS.up_length]; omega), List.getElem?_append_right (by rw [laws_markTermS.up_length]; omega), laws_markTermS.up_length, laws_markTermS.up_length, List.getElem?_drop, List.getElem?_drop]
      congr 1; omega
open Go.Proofs.Ytcelfhphmlhonaa.M in
theorem laws_markTermS.ev (l : List S71) (h : l.length ≤ 1048576) : Ev (fun k => laws_markTermS.f k l 1) (1 + 2 * (l.length : Int), laws_markTermS.up 1 l.length) := by
  have key : ∀ d i, i + d = l.length → Ev (fun k => laws_markTermS.l0 k (laws_markTermS.up 1 i ++ l.drop i) (1 + 2 * (i : Int)) (i : Int)) (1 + 2 * (l.length : Int), laws_markTermS.up 1 l.length) := by
    refine Ev.count (fun k i => laws_markTermS.l0 k (laws_markTermS.up 1 i ++ l.drop i) (1 + 2 * (i : Int)) (i : Int)) l.length _ ?_ ?_
    · intro i hi hn
      have hlen : (laws_markTermS.up 1 i ++ l.drop i).length = l.length := by simp [laws_markTermS.up_length]; omega
      refine Ev.step (fun k => ?_) hn
      simp only [laws_markTermS.l0, Option.bind_some]
      rw [if_pos (by rw [hlen]; omega), if_pos (by omega), Int.toNat_natCast, List.set_set, w64 (by omega) (by omega), w64 (by omega) (by omega), w64 (by omega) (by omega)]
      have e0 : (rd_T71 ((laws_markTermS.up 1 i ++ l.drop i).set i ⟨1 + 2 * (i : Int), (rd_T71 (laws_markTermS.up 1 i ++ l.drop i) (i : Int)).f1⟩) (i : Int)).f0 = 1 + 2 * (i : Int) := by
        simp [rd_T71, List.getD_eq_getElem?_getD, hlen, hi]
      rw [e0, laws_markTermS.up_set hi]
      congr 1 <;> omega
    · refine Ev.end (fun k => ?_)
      simp only [laws_markTermS.l0]
      rw [if_neg (by simp [laws_markTermS.up_length])]
      simp
  have h0 := key l.length 0 (by omega)
  rw [show laws_markTermS.up 1 0 ++ l.drop 0 = l from by simp [laws_markTermS.up]] at h0
  refine Ev.congr (fun k => ?_) h0
  unfold laws_markTermS.f
  rfl

/-! ### facts on laws_heldTermS -/
--IMPORT M5
open Go.Proofs.Ytcelfhphmlhonaa.M in
theorem laws_heldTermS.ev (n : Nat) (h : n ≤ 1048576) : Ev (fun k => laws_heldTermS.f k (laws_markTermS.up 1 n) 1) (1 + 2 * (n : Int)) := by
  have key : ∀ d i, i + d = n → Ev (fun k => laws_heldTermS.l0 k (laws_markTermS.up 1 n) (1 + 2 * (i : Int)) (i : Int)) (1 + 2 * (n : Int)) := by
    refine Ev.count (fun k i => laws_heldTermS.l0 k (laws_markTermS.up 1 n) (1 + 2 * (i : Int)) (i : Int)) n _ ?_ ?_
    · intro i hi hn
      refine Ev.step (fun k => ?_) hn
      simp only [laws_heldTermS.l0]
      rw [if_pos (by rw [laws_markTermS.up_length]; omega), if_pos (by omega), laws_markTermS.up_rd hi, if_pos rfl, w64 (by omega) (by omega), if_pos rfl, w64 (by omega) (by omega), w64 (by omega) (by omega)]
      congr 1 <;> omega
    · refine Ev.end (fun k => ?_)
      simp only [laws_heldTermS.l0]
      rw [if_neg (by rw [laws_markTermS.up_length]; omega)]
  refine Ev.congr (fun k => ?_) (key n 0 (by omega))
  unfold laws_heldTermS.f
  rfl

/-! ### facts on laws_FnExactRepairSum -/
--IMPORT M10
open Go.Proofs.Ytcelfhphmlhonaa.M in
theorem laws_FnExactRepairSum.pure_ : laws_FnExactRepairSum.Pure := by
  intro a l0 _ hm hwf
  unfold maxLen at hm
  by_cases hl0 : l0.length ≤ 1048576
  · obtain ⟨K1, h1⟩ : ∃ K, ∀ k, K ≤ k → laws_toTermS.f k l0 = some (l0.map laws_toTermS.conv) := laws_toTermS.ev l0 hl0
    have hl : (l0.map laws_toTermS.conv).length ≤ 1048576 := by simpa using hl0
    have hz := laws_toTermS.sz l0 hl0
    have hw := laws_toTermS.wf l0 hwf
    have hn : ¬ (1048576 - (l0.length : Int) < 0) := by omega
    generalize l0.map laws_toTermS.conv = l at h1 hl hw
    have hr := spec_RepairSum.r_len a l
    have hs := spec_RepairSum.ev a l hl hw
    have hi := impl_RepairSum.ev a l hl
    generalize spec_RepairSum.r a l = rb at hs hi hr
    obtain ⟨r, q⟩ := rb
    simp only [] at hr
    obtain ⟨K3, h3⟩ : ∃ K, ∀ k, K ≤ k → laws_eqTermS.f k l l = some true := laws_eqTermS.ev l hl
    obtain ⟨K5, h5⟩ : ∃ K, ∀ k, K ≤ k → spec_RepairSum.f k a l = some (r, q) := hs
    obtain ⟨K6, h6⟩ : ∃ K, ∀ k, K ≤ k → impl_RepairSum.f k a l = some (r, q) := hi
    obtain ⟨K7, h7⟩ : ∃ K, ∀ k, K ≤ k → laws_eqTermS.f k r r = some true := laws_eqTermS.ev r (by omega)
    obtain ⟨K8, h8⟩ : ∃ K, ∀ k, K ≤ k → laws_markTermS.f k l 1 = some (1 + 2 * (l.length : Int), laws_markTermS.up 1 l.length) := laws_markTermS.ev l hl
    obtain ⟨K10, h10⟩ : ∃ K, ∀ k, K ≤ k → laws_markTermS.f k r 1 = some (1 + 2 * (r.length : Int), laws_markTermS.up 1 r.length) := laws_markTermS.ev r (by omega)
    obtain ⟨K11, h11⟩ : ∃ K, ∀ k, K ≤ k → laws_heldTermS.f k (laws_markTermS.up 1 r.length) 1 = some (1 + 2 * (r.length : Int)) := laws_heldTermS.ev r.length (by omega)
    have n3 : ¬ (1 + 2 * (l.length : Int) < 0) := by omega
    have n4 : ¬ (1 + 2 * (r.length : Int) < 0) := by omega
    refine ⟨K1 + K3 + K5 + K6 + K7 + K8 + K10 + K11 + 3, ?_⟩
    simp (disch := omega) only [laws_FnExactRepairSum.f, h1, h3, h5, h6, h7, h8, h10, h11, hz, hn, n3, n4, ↓reduceIte, Option.bind_some, bne_self_eq_false, Bool.false_eq_true]
    simp (disch := omega) only [laws_FnExactRepairSum.j0, h1, h3, h5, h6, h7, h8, h10, h11, hz, hn, n3, n4, ↓reduceIte, Option.bind_some, bne_self_eq_false, Bool.false_eq_true]
    simp (disch := omega) only [laws_FnExactRepairSum.j1, h1, h3, h5, h6, h7, h8, h10, h11, hz, hn, n3, n4, ↓reduceIte, Option.bind_some, bne_self_eq_false, Bool.false_eq_true]
    simp (disch := omega) only [laws_FnExactRepairSum.j2, h1, h3, h5, h6, h7, h8, h10, h11, hz, hn, n3, n4, ↓reduceIte, Option.bind_some, bne_self_eq_false, Bool.false_eq_true]
  · have e : wrap64 (1048576 - (l0.length : Int)) < 0 := by rw [w64 (by omega) (by omega)]; omega
    exact ⟨0, by unfold laws_FnExactRepairSum.f laws_szTermS.f; rw [if_pos e]; simp⟩

end Go.Proofs.Ytcelfhphmlhonaa.Print
