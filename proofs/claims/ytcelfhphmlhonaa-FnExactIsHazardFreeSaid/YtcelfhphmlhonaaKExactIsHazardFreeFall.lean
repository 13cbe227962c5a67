/- Functions of the given program as plain Lean functions, with proofs that their calls compute them, or lemmas on these. Laid by a program of this repo for the seat Ytcelfhphmlhonaa; Lean checks it. -/
import Derived.Test.YtcelfhphmlhonaaKExactIsHazardFree0
import Derived.Test.YtcelfhphmlhonaaKExactIsHazardFree1
import Derived.Test.YtcelfhphmlhonaaKExactIsHazardFree2
import Derived.Test.YtcelfhphmlhonaaKExactIsHazardFree5
import Derived.Test.YtcelfhphmlhonaaKExactIsHazardFree6
import Derived.Test.YtcelfhphmlhonaaKExactIsHazardFree7
import Derived.Test.YtcelfhphmlhonaaM3
import Derived.Test.YtcelfhphmlhonaaM5
namespace Go.Proofs.Ytcelfhphmlhonaa.Print
open Go.RowKit Go.Proofs.YtcelfhphmlhonaaW.PrintWords Go.Proofs.YtcelfhphmlhonaaW.PrintLast Go.Proofs.YtcelfhphmlhonaaW.PrintMore
attribute [local go_sem] max2_int min2_int max_two min_two max_three min_three max_four min_four   -- for this text's walks alone
set_option linter.unusedVariables false
set_option linter.unusedSimpArgs false

/-! ### facts on laws_toTermS -/
--IMPORT M3
/-- a term of the laws' own type as one of the program's -/
def laws_toTermS.conv (x : S73) : S71 := ⟨x.f0, x.f1⟩
open Go.Proofs.Ytcelfhphmlhonaa.M in
theorem laws_toTermS.ev (l : List S73) (h : l.length ≤ 1048576) : Ev (fun k => laws_toTermS.f k l) (l.map laws_toTermS.conv) := by
  have key : ∀ d i, i + d = l.length → Ev (fun k => laws_toTermS.l0 k l (fillAt laws_toTermS.conv z71 l i) (i : Int)) (l.map laws_toTermS.conv) := by
    refine Ev.count (fun k i => laws_toTermS.l0 k l (fillAt laws_toTermS.conv z71 l i) (i : Int)) l.length _ ?_ ?_
    · intro i hi hn
      refine Ev.step (fun k => ?_) hn
      have hl := fillAt_length laws_toTermS.conv z71 l (i := i) (by omega)
      simp only [laws_toTermS.l0, laws_toTerm.f, Option.bind_some]
      rw [if_pos (by omega), if_pos (by omega), if_pos (by rw [hl]; omega), w64 (by omega) (by omega)]
      have e := fillAt_set laws_toTermS.conv z71 l z73 hi
      have e2 : (⟨(rd_T73 l (i : Int)).f0, (rd_T73 l (i : Int)).f1⟩ : S71) = laws_toTermS.conv (l.getD i z73) := by simp [rd_T73, laws_toTermS.conv]
      rw [e2, Int.toNat_natCast, e]; rfl
    · refine Ev.end (fun k => ?_)
      simp only [laws_toTermS.l0]
      rw [if_neg (by omega), fillAt_all]
  have h0 := key l.length 0 (by omega)
  rw [fillAt_zero] at h0
  refine Ev.congr (fun k => ?_) h0
  unfold laws_toTermS.f
  rw [if_pos (by omega), if_pos (by simp; omega), Int.toNat_natCast]; rfl
open Go.Proofs.Ytcelfhphmlhonaa.M in
theorem laws_toTermS.sz (l : List S73) (h : l.length ≤ 1048576) : laws_szTermS.f l 1048576 = some (1048576 - (l.length : Int)) := by
  have e : wrap64 (1048576 - (l.length : Int)) = 1048576 - (l.length : Int) := w64 (by omega) (by omega)
  unfold laws_szTermS.f
  simp [e]
  omega
theorem laws_toTermS.wf (l : List S73) (h : ∀ x ∈ l, (Lit.int .i64 x.f0).wf = true ∧ (Lit.int .i64 x.f1).wf = true) : ∀ x ∈ l.map laws_toTermS.conv, x.f1 < 9223372036854775808 := by
  intro x hx
  obtain ⟨y, hy, rfl⟩ := List.mem_map.mp hx
  have := (h y hy).2
  simp [Lit.wf, IntKind.min, IntKind.max, IntKind.bits, IntKind.signed] at this
  show y.f1 < _
  omega

/-! ### facts on laws_eqTermS -/
--IMPORT M3
open Go.Proofs.Ytcelfhphmlhonaa.M in
theorem laws_eqTermS.ev (l : List S71) (h : l.length ≤ 1048576) : Ev (fun k => laws_eqTermS.f k l l) true := by
  have key : ∀ d i, i + d = l.length → Ev (fun k => laws_eqTermS.l0 k l l (i : Int)) true := by
    refine Ev.count (fun k i => laws_eqTermS.l0 k l l (i : Int)) l.length _ ?_ ?_
    · intro i hi hn
      refine Ev.step (fun k => ?_) hn
      simp only [laws_eqTermS.l0, laws_eqTerm.f, if_true, Option.bind_some]
      rw [if_pos (by omega), if_pos (by omega), if_pos (by omega), w64 (by omega) (by omega)]; rfl
    · refine Ev.end (fun k => ?_)
      simp only [laws_eqTermS.l0]
      rw [if_neg (by omega)]
  refine Ev.congr (fun k => ?_) (key l.length 0 (by omega))
  unfold laws_eqTermS.f
  rw [if_pos rfl]; rfl

/-! ### facts on spec_l1In -/
theorem spec_l1In.ev (a b c : Int) : spec_l1In.f a b c = some (decide (b ≤ a ∧ a ≤ c)) := by
  unfold spec_l1In.f
  by_cases h : b ≤ a
  · rw [if_pos h]; simp [h]
  · rw [if_neg h]; simp [h]

/-! ### facts on spec_IsTerm -/
--IMPORT M5
open Go.Proofs.Ytcelfhphmlhonaa.M in
theorem spec_IsTerm.ev (a : Int) (x : S71) (hx : x.f1 < 9223372036854775808) : spec_IsTerm.f a x.f0 x.f1 = some (decide (0 ≤ a ∧ a ≤ 5) && impl_areTerms.ok a x) := by
  unfold spec_IsTerm.f
  rw [spec_l1In.ev]
  by_cases ha : 0 ≤ a ∧ a ≤ 5
  · obtain ⟨n, rfl⟩ := nat_of ha.1
    have h5 := pow_le_5 (n := n) (by omega)
    have hpos := Nat.two_pow_pos n
    have es : wrap64 (shl .i64 1 (n : Int) - 1) = ((2 ^ n : Nat) : Int) - 1 := by rw [shl_one (by omega), w64 (by omega) (by omega)]
    rw [decide_eq_true ha, Option.bind_some, if_pos rfl, if_pos (Int.natCast_nonneg n), es, spec_l1In.ev, Bool.true_and]
    unfold impl_areTerms.ok
    rw [Int.toNat_natCast]
    have P1 : (0 ≤ x.f0 ∧ x.f0 ≤ ((2 ^ n : Nat) : Int) - 1) ↔ (0 ≤ x.f0 ∧ x.f0 < ((2 ^ n : Nat) : Int)) := by omega
    by_cases o1 : 0 ≤ x.f0 ∧ x.f0 < ((2 ^ n : Nat) : Int)
    · rw [decide_eq_true o1, decide_eq_true (P1.mpr o1), Option.bind_some, if_pos rfl, spec_l1In.ev, Bool.true_and, Option.bind_some]
      obtain ⟨m, hm⟩ := nat_of o1.1
      by_cases o2 : x.f1 ≥ 0
      · obtain ⟨v, hv⟩ := nat_of o2
        rw [hm] at o1
        have hv63 : v < 2 ^ 63 := by omega
        have hm63 : m < 2 ^ 63 := by omega
        rw [decide_eq_true o2, Bool.true_and, hm, hv, and_nat hv63 hm63, andNot_nat hv63 hm63]
        by_cases hs : v &&& m = v
        · have hle : v ≤ m := by rw [← hs]; exact Nat.and_le_right
          rw [hs, subset_iff.mp hs, decide_eq_true (by omega), if_pos rfl]
          simp
        · have hz : andn v m ≠ 0 := fun e => hs (subset_iff.mpr e)
          have e1 : (((v &&& m : Nat) : Int) == (v : Int)) = false := by rw [beq_eq_false_iff_ne]; omega
          have e2 : (((andn v m : Nat) : Int) == 0) = false := by rw [beq_eq_false_iff_ne]; omega
          rw [e1, e2]
          split <;> rfl
      · rw [decide_eq_false o2, decide_eq_false (by omega), if_neg (by decide)]; rfl
    · rw [decide_eq_false o1, decide_eq_false (fun e => o1 (P1.mp e)), Option.bind_some, if_neg (by decide)]; rfl
  · rw [decide_eq_false ha, Option.bind_some, if_neg (by decide)]; rfl

/-! ### facts on spec_l28Terms -/
--IMPORT M5
/-- at most 40 terms of n variables -/
def spec_l28Terms.ok (a : Int) (l : List S71) : Bool := decide (0 ≤ a ∧ a ≤ 5) && l.all (impl_areTerms.ok a) && decide ((l.length : Int) ≤ 40)
open Go.Proofs.Ytcelfhphmlhonaa.M in
theorem spec_l28Terms.ev (a : Int) (l : List S71) (hl : l.length ≤ 1048576) (hw : ∀ x ∈ l, x.f1 < 9223372036854775808) : Ev (fun k => spec_l28Terms.f k a l) (spec_l28Terms.ok a l) := by
  have key : ∀ d i, i + d = l.length → Ev (fun k => spec_l28Terms.l0 k a l (i : Int)) (decide (0 ≤ a ∧ a ≤ 5) && (l.drop i).all (impl_areTerms.ok a) && decide ((l.length : Int) ≤ 40)) := by
    intro d
    induction d with
    | zero =>
      intro i hi
      obtain rfl : i = l.length := by omega
      refine Ev.end (fun k => ?_)
      simp only [spec_l28Terms.l0]
      rw [if_neg (by omega), spec_l1In.ev, Option.bind_some]
      cases decide (0 ≤ a ∧ a ≤ 5) <;> simp
    | succ d ih =>
      intro i hi
      have hi' : i < l.length := by omega
      have hd : l.drop i = l.getD i z71 :: l.drop (i + 1) := by
        rw [List.drop_eq_getElem_cons hi']
        simp [List.getD_eq_getElem?_getD, hi']
      have hx : rd_T71 l (i : Int) = l.getD i z71 := by simp [rd_T71]
      have hm : l.getD i z71 ∈ l := by simp [List.getD_eq_getElem?_getD, hi']
      have hb := hw _ hm
      clear hm
      rw [hd, List.all_cons]
      generalize l.getD i z71 = x at *
      have et := spec_IsTerm.ev a x hb
      cases hq : (decide (0 ≤ a ∧ a ≤ 5) && impl_areTerms.ok a x) with
      | true =>
        rw [hq] at et
        have ih := ih (i + 1) (by omega)
        rw [Bool.and_eq_true] at hq
        rw [hq.1] at ih ⊢
        rw [hq.2]
        refine Ev.step (fun k => ?_) ih
        simp only [spec_l28Terms.l0]
        rw [if_pos (by omega), if_pos (by omega), hx, et, Option.bind_some, if_pos rfl, w64 (by omega) (by omega)]; rfl
      | false =>
        rw [hq] at et
        rw [← Bool.and_assoc, hq, Bool.false_and, Bool.false_and]
        refine Ev.end (fun k => ?_)
        simp only [spec_l28Terms.l0]
        rw [if_pos (by omega), if_pos (by omega), hx, et, Option.bind_some, if_neg (by decide)]
  exact key l.length 0 (by omega)

/-! ### facts on spec_l28Hazard -/
--IMPORT M5
/-- does a term hold for an input -/
def spec_l28Hazard.hold (x : Int) (t : S71) : Bool := Go.bits .and .i64 x t.f0 == t.f1
/-- do terms hold for two inputs, but none for both -/
def spec_l28Hazard.hz (x y : Int) : List S71 → Bool → Bool → Bool
  | [], a, b => a && b
  | t :: r, a, b => if spec_l28Hazard.hold x t = true then (if spec_l28Hazard.hold y t = true then false else spec_l28Hazard.hz x y r true b) else spec_l28Hazard.hz x y r a (b || spec_l28Hazard.hold y t)
open Go.Proofs.Ytcelfhphmlhonaa.M in
theorem spec_l28Hazard.loop (l : List S71) (hl : l.length ≤ 1048576) (x y : Int) : ∀ d i a b, i + d = l.length → Ev (fun k => spec_l28Hazard.l0 k l x y a b (i : Int)) (spec_l28Hazard.hz x y (l.drop i) a b) := by
  intro d
  induction d with
  | zero =>
    intro i a b hi
    obtain rfl : i = l.length := by omega
    refine Ev.end (fun k => ?_)
    simp only [spec_l28Hazard.l0]
    rw [if_neg (by omega), List.drop_length]
    cases a <;> rfl
  | succ d ih =>
    intro i a b hi
    have hi' : i < l.length := by omega
    have hd : l.drop i = l.getD i z71 :: l.drop (i + 1) := by
      rw [List.drop_eq_getElem_cons hi']
      simp [List.getD_eq_getElem?_getD, hi']
    have hx : rd_T71 l (i : Int) = l.getD i z71 := by simp [rd_T71]
    have e1 : wrap64 ((i : Int) + 1) = ((i + 1 : Nat) : Int) := up1 (by omega)
    have ih := fun a b => ih (i + 1) a b (by omega)
    rw [hd]
    generalize l.getD i z71 = t at *
    have P (u : Int) : (Go.bits .and .i64 u t.f0 = t.f1) ↔ spec_l28Hazard.hold u t = true := by unfold spec_l28Hazard.hold; rw [beq_iff_eq]
    cases hp : spec_l28Hazard.hold x t with
    | true =>
      have hp' := (P x).mpr hp
      cases hq : spec_l28Hazard.hold y t with
      | true =>
        have hq' := (P y).mpr hq
        rw [spec_l28Hazard.hz, hp, hq, if_pos rfl, if_pos rfl]
        refine Ev.end (fun k => ?_)
        simp only [spec_l28Hazard.l0]
        rw [if_pos (by omega), if_pos (by omega), hx, if_pos hp', if_pos hq']
      | false =>
        have hq' : ¬ Go.bits .and .i64 y t.f0 = t.f1 := fun e => by rw [(P y).mp e] at hq; cases hq
        rw [spec_l28Hazard.hz, hp, hq, if_pos rfl, if_neg (by decide)]
        refine Ev.step (fun k => ?_) (ih true b)
        simp only [spec_l28Hazard.l0]
        rw [if_pos (by omega), if_pos (by omega), hx, if_pos hp', if_neg hq', e1]
        have hp2 : (Go.bits .and .i64 x t.f0 == t.f1) = true := hp
        have hq2 : (Go.bits .and .i64 y t.f0 == t.f1) = false := hq
        rw [hp2, hq2]
        cases a <;> cases b <;> rfl
    | false =>
      have hp' : ¬ Go.bits .and .i64 x t.f0 = t.f1 := fun e => by rw [(P x).mp e] at hp; cases hp
      rw [spec_l28Hazard.hz, hp, if_neg (by decide)]
      refine Ev.step (fun k => ?_) (ih a (b || spec_l28Hazard.hold y t))
      simp only [spec_l28Hazard.l0]
      rw [if_pos (by omega), if_pos (by omega), hx, if_neg hp', e1]
      have hp2 : (Go.bits .and .i64 x t.f0 == t.f1) = false := hp
      rw [hp2]
      unfold spec_l28Hazard.hold
      cases a <;> cases b <;> rfl
open Go.Proofs.Ytcelfhphmlhonaa.M in
theorem spec_l28Hazard.ev (l : List S71) (hl : l.length ≤ 1048576) (x y : Int) : Ev (fun k => spec_l28Hazard.f k l x y) (spec_l28Hazard.hz x y l false false) := spec_l28Hazard.loop l hl x y l.length 0 false false (by omega)

/-! ### facts on spec_HazardsOf -/
--IMPORT M5
/-- a pair that differs in variable i, if x has it not and there is a hazard -/
def spec_HazardsOf.one (l : List S71) (x i : Nat) : List (List Int) := if x.testBit i = false ∧ spec_l28Hazard.hz (x : Int) ((x + 2 ^ i : Nat) : Int) l false false = true then [[(x : Int), ((x + 2 ^ i : Nat) : Int)]] else []
def spec_HazardsOf.row (l : List S71) (x : Nat) : Nat → List (List Int)
  | 0 => []
  | i + 1 => spec_HazardsOf.row l x i ++ spec_HazardsOf.one l x i
def spec_HazardsOf.all (n : Nat) (l : List S71) : Nat → List (List Int)
  | 0 => []
  | x + 1 => spec_HazardsOf.all n l x ++ spec_HazardsOf.row l x n
theorem spec_HazardsOf.one_le (l : List S71) (x i : Nat) : (spec_HazardsOf.one l x i).length ≤ 1 := by unfold spec_HazardsOf.one; split <;> simp
theorem spec_HazardsOf.row_le (l : List S71) (x : Nat) : ∀ i, (spec_HazardsOf.row l x i).length ≤ i
  | 0 => by simp [spec_HazardsOf.row]
  | i + 1 => by have := spec_HazardsOf.row_le l x i; have := spec_HazardsOf.one_le l x i; rw [spec_HazardsOf.row, List.length_append]; omega
theorem spec_HazardsOf.all_le (n : Nat) (l : List S71) : ∀ x, (spec_HazardsOf.all n l x).length ≤ x * n
  | 0 => by simp [spec_HazardsOf.all]
  | x + 1 => by have := spec_HazardsOf.all_le n l x; have := spec_HazardsOf.row_le l x n; rw [spec_HazardsOf.all, List.length_append, Nat.succ_mul]; omega
open Go.Proofs.Ytcelfhphmlhonaa.M in
theorem spec_HazardsOf.bits : ∀ x, x < 32 → ∀ i, i < 5 → (x.testBit i = false → x ||| 2 ^ i = x + 2 ^ i ∧ x ^^^ 2 ^ i = x + 2 ^ i) ∧ (x.testBit i = true → x ^^^ 2 ^ i ≤ x) ∧ x ^^^ 2 ^ i < 32 :=
  allB_dec2 (P := fun x i => (x.testBit i = false → x ||| 2 ^ i = x + 2 ^ i ∧ x ^^^ 2 ^ i = x + 2 ^ i) ∧ (x.testBit i = true → x ^^^ 2 ^ i ≤ x) ∧ x ^^^ 2 ^ i < 32) (by decide +kernel)
open Go.Proofs.Ytcelfhphmlhonaa.M in
/-- the pairs of the answer -/
def spec_HazardsOf.r (a : Int) (l : List S71) : List (List Int) × Bool := if spec_l28Terms.ok a l = true then (spec_HazardsOf.all a.toNat l (2 ^ a.toNat), true) else ([], false)
open Go.Proofs.Ytcelfhphmlhonaa.M in
theorem spec_HazardsOf.ok_n {a : Int} {l : List S71} (h : spec_l28Terms.ok a l = true) : ∃ n : Nat, a = (n : Int) ∧ n ≤ 5 ∧ l.length ≤ 40 := by
  unfold spec_l28Terms.ok at h
  rw [Bool.and_eq_true, Bool.and_eq_true] at h
  have h1 := of_decide_eq_true h.1.1
  have h2 := of_decide_eq_true h.2
  exact ⟨a.toNat, by omega, by omega, by omega⟩
open Go.Proofs.Ytcelfhphmlhonaa.M in
theorem spec_HazardsOf.ev (a : Int) (l : List S71) (hl : l.length ≤ 1048576) (hw : ∀ x ∈ l, x.f1 < 9223372036854775808) : Ev (fun k => spec_HazardsOf.f k a l) (spec_HazardsOf.r a l) := by
  have h1 := spec_l28Terms.ev a l hl hw
  unfold spec_HazardsOf.r
  refine Ev.congr (f := fun k => (spec_l28Terms.f k a l).bind fun t => if t = true then spec_HazardsOf.l0 k a l [] 0 else some ([], false)) (fun k => rfl) (Ev.bind h1 ?_)
  cases hv : spec_l28Terms.ok a l with
  | false => exact Ev.now _
  | true =>
    obtain ⟨n, rfl, hn, h40⟩ := spec_HazardsOf.ok_n hv
    have h5 := pow_le_5 hn
    simp only [if_true, Int.toNat_natCast]
    have row : ∀ x, x < 2 ^ n → Ev (fun k => spec_HazardsOf.l0 k n l (spec_HazardsOf.all n l (x + 1)) ((x + 1 : Nat) : Int)) (spec_HazardsOf.all n l (2 ^ n), true) → ∀ d i, i + d = n → Ev (fun k => spec_HazardsOf.l1 k n l (spec_HazardsOf.all n l x ++ spec_HazardsOf.row l x i) (x : Int) (i : Int)) (spec_HazardsOf.all n l (2 ^ n), true) := by
      intro x hx hnext
      refine Ev.count (fun k i => spec_HazardsOf.l1 k n l (spec_HazardsOf.all n l x ++ spec_HazardsOf.row l x i) (x : Int) (i : Int)) n _ ?_ ?_
      · intro i hi hn'
        obtain ⟨b1, b2, b3⟩ := spec_HazardsOf.bits x (by omega) i (by omega)
        have e1 : wrap64 ((i : Int) + 1) = ((i + 1 : Nat) : Int) := up1 (by omega)
        have hlen : (spec_HazardsOf.all n l x ++ spec_HazardsOf.row l x i).length < 5864062014805 := by
          have := spec_HazardsOf.all_le n l x
          have := spec_HazardsOf.row_le l x i
          have h3 : x * n ≤ 32 * 5 := Nat.mul_le_mul (by omega) hn
          rw [List.length_append]; omega
        have hi63 : 2 ^ i < 2 ^ 63 := Nat.pow_lt_pow_right (by decide) (by omega)
        cases hb : x.testBit i with
        | true =>
          have er : spec_HazardsOf.row l x (i + 1) = spec_HazardsOf.row l x i := by rw [spec_HazardsOf.row, spec_HazardsOf.one, if_neg (by rw [hb]; simp), List.append_nil]
          rw [er] at hn'
          refine Ev.step (fun k => ?_) hn'
          simp only [spec_HazardsOf.l1]
          rw [if_pos (by omega), if_pos (by omega), bit_nat (by omega) (by omega), hb, if_neg (by decide), e1]
        | false =>
          have eo : Go.bits .or .i64 (x : Int) (shl .i64 1 (i : Int)) = ((x + 2 ^ i : Nat) : Int) := by rw [shl_one (by omega), or_nat (by omega) hi63, (b1 hb).1]
          have hz := spec_l28Hazard.ev l hl (x : Int) ((x + 2 ^ i : Nat) : Int)
          have er : spec_HazardsOf.row l x (i + 1) = spec_HazardsOf.row l x i ++ (if spec_l28Hazard.hz (x : Int) ((x + 2 ^ i : Nat) : Int) l false false = true then [[(x : Int), ((x + 2 ^ i : Nat) : Int)]] else []) := by
            rw [spec_HazardsOf.row, spec_HazardsOf.one]
            congr 1
            apply ite_congr _ (fun _ => rfl) (fun _ => rfl)
            rw [hb]; simp
          rw [er] at hn'
          generalize spec_l28Hazard.hz (x : Int) ((x + 2 ^ i : Nat) : Int) l false false = q at hz hn'
          refine Ev.step (f := fun k => (spec_l28Hazard.f k l (x : Int) ((x + 2 ^ i : Nat) : Int)).bind fun t => if t = true then spec_HazardsOf.l1 k n l ((spec_HazardsOf.all n l x ++ spec_HazardsOf.row l x i) ++ [[(x : Int), ((x + 2 ^ i : Nat) : Int)]]) (x : Int) ((i + 1 : Nat) : Int) else spec_HazardsOf.l1 k n l (spec_HazardsOf.all n l x ++ spec_HazardsOf.row l x i) (x : Int) ((i + 1 : Nat) : Int)) (fun k => ?_) (Ev.bind hz ?_)
          · simp only [spec_HazardsOf.l1]
            rw [if_pos (by omega), if_pos (by omega), bit_nat (by omega) (by omega), hb, if_pos (by decide), eo, e1, if_pos hlen]
          · cases q with
            | true =>
              rw [if_pos rfl] at hn'
              simp only [if_true]
              rw [List.append_assoc]; exact hn'
            | false =>
              rw [if_neg (by decide), List.append_nil] at hn'
              simp only [Bool.false_eq_true, if_false]
              exact hn'
      · refine Ev.step (fun k => ?_) hnext
        simp only [spec_HazardsOf.l1]
        rw [if_neg (by omega), up1 (by omega)]
        rfl
    have h0 := Ev.count (fun k x => spec_HazardsOf.l0 k n l (spec_HazardsOf.all n l x) (x : Int)) (2 ^ n) (spec_HazardsOf.all n l (2 ^ n), true) (fun x hx hnext => by
      have h := row x hx hnext n 0 (by omega)
      refine Ev.step (fun k => ?_) h
      simp only [spec_HazardsOf.l0]
      rw [if_pos (Int.natCast_nonneg n), shl_one (by omega), if_pos (by omega)]
      simp [spec_HazardsOf.row]) (Ev.end (fun k => by
      simp only [spec_HazardsOf.l0]
      rw [if_pos (Int.natCast_nonneg n), shl_one (by omega), if_neg (by omega)])) (2 ^ n) 0 (by omega)
    exact h0

/-! ### facts on spec_IsHazardFree -/
--IMPORT M5
/-- are there none -/
def spec_IsHazardFree.r (a : Int) (l : List S71) : Bool := (spec_HazardsOf.r a l).2 && (((spec_HazardsOf.r a l).1.length : Int) == 0)
open Go.Proofs.Ytcelfhphmlhonaa.M in
theorem spec_IsHazardFree.ev (a : Int) (l : List S71) (hl : l.length ≤ 1048576) (hw : ∀ x ∈ l, x.f1 < 9223372036854775808) : Ev (fun k => spec_IsHazardFree.f k a l) (spec_IsHazardFree.r a l) := by
  unfold spec_IsHazardFree.r
  refine Ev.bind (spec_HazardsOf.ev a l hl hw) ?_
  cases h : (spec_HazardsOf.r a l).2 with
  | true => exact Ev.now _
  | false => exact Ev.now _

/-! ### facts on impl_isBits -/
theorem impl_isBits.ev (a : Int) : impl_isBits.f a = some (decide (0 ≤ a ∧ a ≤ 5)) := by
  unfold impl_isBits.f
  by_cases h : 0 ≤ a
  · rw [if_pos h]; simp [h]
  · rw [if_neg h]; simp [h]

/-! ### facts on impl_areValid -/
--IMPORT M5
theorem impl_areValid.ev (a : Int) (l : List S71) : impl_areValid.f a l = some (spec_l28Terms.ok a l) := by
  unfold impl_areValid.f impl_areTerms.f spec_l28Terms.ok
  rw [Option.bind_some]
  cases decide (0 ≤ a ∧ a ≤ 5) && l.all (impl_areTerms.ok a) <;> simp

/-! ### facts on impl_isHazard -/
--IMPORT M5
open Go.Proofs.Ytcelfhphmlhonaa.M in
theorem impl_isHazard.loop (l : List S71) (hl : l.length ≤ 1048576) (x y : Int) : ∀ d i a b, i + d = l.length → Ev (fun k => impl_isHazard.l0 k x y a b l (l.length : Int) (i : Int)) (spec_l28Hazard.hz x y (l.drop i) a b) := by
  intro d
  induction d with
  | zero =>
    intro i a b hi
    obtain rfl : i = l.length := by omega
    refine Ev.end (fun k => ?_)
    simp only [impl_isHazard.l0]
    rw [if_neg (by omega), List.drop_length]
    cases a <;> rfl
  | succ d ih =>
    intro i a b hi
    have hi' : i < l.length := by omega
    have hd : l.drop i = l.getD i z71 :: l.drop (i + 1) := by
      rw [List.drop_eq_getElem_cons hi']
      simp [List.getD_eq_getElem?_getD, hi']
    have hx : rd_T71 l (i : Int) = l.getD i z71 := by simp [rd_T71]
    have e1 : wrap64 ((i : Int) + 1) = ((i + 1 : Nat) : Int) := up1 (by omega)
    have ih := fun a b => ih (i + 1) a b (by omega)
    rw [hd]
    generalize l.getD i z71 = t at *
    have T (u : Int) : impl_Term_holds.f t.f0 t.f1 u = some (spec_l28Hazard.hold u t) := rfl
    cases hp : spec_l28Hazard.hold x t with
    | true =>
      cases hq : spec_l28Hazard.hold y t with
      | true =>
        rw [spec_l28Hazard.hz, hp, hq, if_pos rfl, if_pos rfl]
        refine Ev.end (fun k => ?_)
        simp only [impl_isHazard.l0]
        rw [if_pos (by omega), if_pos (by omega), if_pos (by omega), hx, T, T, hp, hq]; rfl
      | false =>
        rw [spec_l28Hazard.hz, hp, hq, if_pos rfl, if_neg (by decide)]
        refine Ev.step (fun k => ?_) (ih true b)
        simp only [impl_isHazard.l0]
        rw [if_pos (by omega), if_pos (by omega), if_pos (by omega), hx, T, T, hp, hq, e1]
        cases a <;> cases b <;> rfl
    | false =>
      rw [spec_l28Hazard.hz, hp, if_neg (by decide)]
      refine Ev.step (fun k => ?_) (ih a (b || spec_l28Hazard.hold y t))
      simp only [impl_isHazard.l0]
      rw [if_pos (by omega), if_pos (by omega), if_pos (by omega), hx, T, T, hp, e1]
      cases a <;> cases b <;> rfl
open Go.Proofs.Ytcelfhphmlhonaa.M in
theorem impl_isHazard.ev (l : List S71) (hl : l.length ≤ 1048576) (x y : Int) : Ev (fun k => impl_isHazard.f k l x y) (spec_l28Hazard.hz x y l false false) := impl_isHazard.loop l hl x y l.length 0 false false (by omega)

/-! ### facts on impl_hazards -/
--IMPORT M5
open Go.Proofs.Ytcelfhphmlhonaa.M in
theorem impl_hazards.ev {n : Nat} (hn : n ≤ 5) (l : List S71) (hl : l.length ≤ 1048576) : Ev (fun k => impl_hazards.f k n l) (spec_HazardsOf.all n l (2 ^ n)) := by
  have h5 := pow_le_5 hn
  have row : ∀ x, x < 2 ^ n → Ev (fun k => impl_hazards.l0 k n l (spec_HazardsOf.all n l (x + 1)) ((2 ^ n : Nat) : Int) ((x + 1 : Nat) : Int)) (spec_HazardsOf.all n l (2 ^ n)) → ∀ d i, i + d = n → Ev (fun k => impl_hazards.l1 k n l (spec_HazardsOf.all n l x ++ spec_HazardsOf.row l x i) (x : Int) ((2 ^ n : Nat) : Int) (x : Int) n (i : Int)) (spec_HazardsOf.all n l (2 ^ n)) := by
    intro x hx hnext
    refine Ev.count (fun k i => impl_hazards.l1 k n l (spec_HazardsOf.all n l x ++ spec_HazardsOf.row l x i) (x : Int) ((2 ^ n : Nat) : Int) (x : Int) n (i : Int)) n _ ?_ ?_
    · intro i hi hn'
      obtain ⟨b1, b2, b3⟩ := spec_HazardsOf.bits x (by omega) i (by omega)
      have e1 : wrap64 ((i : Int) + 1) = ((i + 1 : Nat) : Int) := up1 (by omega)
      have hlen : (spec_HazardsOf.all n l x ++ spec_HazardsOf.row l x i).length < 5864062014805 := by
        have := spec_HazardsOf.all_le n l x
        have := spec_HazardsOf.row_le l x i
        have h3 : x * n ≤ 32 * 5 := Nat.mul_le_mul (by omega) hn
        rw [List.length_append]; omega
      have hi63 : 2 ^ i < 2 ^ 63 := Nat.pow_lt_pow_right (by decide) (by omega)
      have eo : Go.bits .xor .i64 (x : Int) (shl .i64 1 (i : Int)) = ((x ^^^ 2 ^ i : Nat) : Int) := by rw [shl_one (by omega), xor_nat (by omega) hi63]
      cases hb : x.testBit i with
      | true =>
        have er : spec_HazardsOf.row l x (i + 1) = spec_HazardsOf.row l x i := by rw [spec_HazardsOf.row, spec_HazardsOf.one, if_neg (by rw [hb]; simp), List.append_nil]
        rw [er] at hn'
        refine Ev.step (fun k => ?_) hn'
        simp only [impl_hazards.l1]
        have := b2 hb
        rw [if_pos (by omega), if_pos (by omega), eo, if_neg (by omega), e1]
      | false =>
        have eq := (b1 hb).2
        have hpos := Nat.two_pow_pos i
        rw [eq] at eo
        have hz := impl_isHazard.ev l hl (x : Int) ((x + 2 ^ i : Nat) : Int)
        have er : spec_HazardsOf.row l x (i + 1) = spec_HazardsOf.row l x i ++ (if spec_l28Hazard.hz (x : Int) ((x + 2 ^ i : Nat) : Int) l false false = true then [[(x : Int), ((x + 2 ^ i : Nat) : Int)]] else []) := by
          rw [spec_HazardsOf.row, spec_HazardsOf.one]
          congr 1
          apply ite_congr _ (fun _ => rfl) (fun _ => rfl)
          rw [hb]; simp
        rw [er] at hn'
        generalize spec_l28Hazard.hz (x : Int) ((x + 2 ^ i : Nat) : Int) l false false = q at hz hn'
        refine Ev.step (f := fun k => (impl_isHazard.f k l (x : Int) ((x + 2 ^ i : Nat) : Int)).bind fun t => if t = true then impl_hazards.l1 k n l ((spec_HazardsOf.all n l x ++ spec_HazardsOf.row l x i) ++ [[(x : Int), ((x + 2 ^ i : Nat) : Int)]]) (x : Int) ((2 ^ n : Nat) : Int) (x : Int) n ((i + 1 : Nat) : Int) else impl_hazards.l1 k n l (spec_HazardsOf.all n l x ++ spec_HazardsOf.row l x i) (x : Int) ((2 ^ n : Nat) : Int) (x : Int) n ((i + 1 : Nat) : Int)) (fun k => ?_) (Ev.bind hz ?_)
        · simp only [impl_hazards.l1]
          rw [if_pos (by omega), if_pos (by omega), eo, if_pos (by omega), e1, if_pos hlen]
        · cases q with
          | true =>
            rw [if_pos rfl] at hn'
            simp only [if_true]
            rw [List.append_assoc]; exact hn'
          | false =>
            rw [if_neg (by decide), List.append_nil] at hn'
            simp only [Bool.false_eq_true, if_false]
            exact hn'
    · refine Ev.step (fun k => ?_) hnext
      simp only [impl_hazards.l1]
      rw [if_neg (by omega), up1 (by omega)]
      rfl
  have h0 := Ev.count (fun k x => impl_hazards.l0 k n l (spec_HazardsOf.all n l x) ((2 ^ n : Nat) : Int) (x : Int)) (2 ^ n) (spec_HazardsOf.all n l (2 ^ n)) (fun x hx hnext => by
    have h := row x hx hnext n 0 (by omega)
    refine Ev.step (fun k => ?_) h
    simp only [impl_hazards.l0]
    rw [if_pos (by omega)]
    simp [spec_HazardsOf.row]) (Ev.end (fun k => by
    simp only [impl_hazards.l0]
    rw [if_neg (by omega)])) (2 ^ n) 0 (by omega)
  refine Ev.congr (fun k => ?_) h0
  unfold impl_hazards.f
  rw [if_pos (Int.natCast_nonneg n), shl_one (by omega)]
  rfl

/-! ### facts on impl_IsHazardFree -/
--IMPORT M5
open Go.Proofs.Ytcelfhphmlhonaa.M in
theorem impl_IsHazardFree.ev (a : Int) (l : List S71) (hl : l.length ≤ 1048576) : Ev (fun k => impl_IsHazardFree.f k a l) (spec_IsHazardFree.r a l) := by
  unfold spec_IsHazardFree.r spec_HazardsOf.r impl_IsHazardFree.f
  rw [impl_areValid.ev]
  cases hv : spec_l28Terms.ok a l with
  | false => exact Ev.now _
  | true =>
    obtain ⟨n, rfl, hn, h40⟩ := spec_HazardsOf.ok_n hv
    simp only [Option.bind_some, if_true, Int.toNat_natCast, Bool.true_and]
    exact Ev.bind (impl_hazards.ev hn l hl) (Ev.now _)

/-! ### facts on laws_FnExactIsHazardFree -/
--IMPORT M5
open Go.Proofs.Ytcelfhphmlhonaa.M in
theorem laws_FnExactIsHazardFree.pure_ : laws_FnExactIsHazardFree.Pure := by
  intro a l _ hm hwf
  unfold maxLen at hm
  by_cases hl : l.length ≤ 1048576
  · obtain ⟨K1, h1⟩ : ∃ K, ∀ k, K ≤ k → laws_toTermS.f k l = some (l.map laws_toTermS.conv) := laws_toTermS.ev l hl
    have hl2 : (l.map laws_toTermS.conv).length ≤ 1048576 := by simpa using hl
    have hw := laws_toTermS.wf l hwf
    generalize l.map laws_toTermS.conv = m at h1 hl2 hw
    obtain ⟨K2, h2⟩ : ∃ K, ∀ k, K ≤ k → spec_IsHazardFree.f k a m = some (spec_IsHazardFree.r a m) := spec_IsHazardFree.ev a m hl2 hw
    obtain ⟨K3, h3⟩ : ∃ K, ∀ k, K ≤ k → impl_IsHazardFree.f k a m = some (spec_IsHazardFree.r a m) := impl_IsHazardFree.ev a m hl2
    obtain ⟨K4, h4⟩ : ∃ K, ∀ k, K ≤ k → laws_eqTermS.f k m m = some true := laws_eqTermS.ev m hl2
    generalize spec_IsHazardFree.r a m = r at *
    have hz := laws_toTermS.sz l hl
    have hn : ¬ (1048576 - (l.length : Int) < 0) := by omega
    refine ⟨K1 + K2 + K3 + K4, ?_⟩
    simp (disch := omega) only [laws_FnExactIsHazardFree.f, h1, h2, h3, h4, hz, hn, ↓reduceIte, Option.bind_some, bne_self_eq_false, Bool.false_eq_true]
  · have e : wrap64 (1048576 - (l.length : Int)) < 0 := by rw [w64 (by omega) (by omega)]; omega
    exact ⟨0, by unfold laws_FnExactIsHazardFree.f laws_szTermS.f; rw [if_pos e]; simp⟩

end Go.Proofs.Ytcelfhphmlhonaa.Print
