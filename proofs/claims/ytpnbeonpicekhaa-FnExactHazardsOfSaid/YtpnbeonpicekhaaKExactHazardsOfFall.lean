/- Functions of the given program as plain Lean functions, with proofs that their calls compute them, or lemmas on these. Laid by a program of this repo for the seat Ytpnbeonpicekhaa; Lean checks it. -/
import Derived.Test.YtpnbeonpicekhaaKExactHazardsOf0
import Derived.Test.YtpnbeonpicekhaaKExactHazardsOf1
import Derived.Test.YtpnbeonpicekhaaKExactHazardsOf4
import Derived.Test.YtpnbeonpicekhaaKExactHazardsOf5
import Derived.Test.YtpnbeonpicekhaaKExactHazardsOf6
import Derived.Test.YtpnbeonpicekhaaKExactHazardsOf7
import Derived.Test.YtpnbeonpicekhaaKExactHazardsOf8
import Derived.Test.YtpnbeonpicekhaaM5
import Derived.Test.YtpnbeonpicekhaaM3
namespace Go.Proofs.Ytpnbeonpicekhaa.Print
open Go.RowKit Go.Proofs.YtpnbeonpicekhaaW.PrintWords Go.Proofs.YtpnbeonpicekhaaW.PrintLast Go.Proofs.YtpnbeonpicekhaaW.PrintMore
attribute [local go_sem] max2_int min2_int max_two min_two max_three min_three max_four min_four   -- for this text's walks alone
set_option linter.unusedVariables false
set_option linter.unusedSimpArgs false

/-! ### facts on spec_l1In -/
theorem spec_l1In.ev (a b c : Int) : spec_l1In.f a b c = some (decide (b ≤ a ∧ a ≤ c)) := by
  unfold spec_l1In.f
  by_cases h : b ≤ a
  · rw [if_pos h]; simp [h]
  · rw [if_neg h]; simp [h]

/-! ### facts on spec_IsTerm -/
--IMPORT M5
open Go.Proofs.Ytpnbeonpicekhaa.M in
theorem spec_IsTerm.ev (a : Int) (x : S71) (hx : x.f1 < 9223372036854775808) : spec_IsTerm.f a x.f0 x.f1 = some (decide (0 ≤ a ∧ a ≤ 5) && impl_areTerms.ok a x) := by
  unfold spec_IsTerm.f
  rw [spec_l1In.ev]
  by_cases ha : 0 ≤ a ∧ a ≤ 5
  · obtain ⟨n, rfl⟩ := nat_of ha.1
    have h5 := pow_le_5 (n := n) (by omega)
    have hpos := Nat.two_pow_pos n
    have es : wrap64 (shl .i64 1 (n : Int) - 1) = ((2 ^ n : Nat) : Int) - 1 := by rw [shl_one (by omega), w64 (by omega) (by omega)]
    rw [decide_eq_true ha, Option.bind_some, if_pos rfl, if_pos (Int.natCast_nonneg n), es, spec_l1In.ev, Bool.true_and]
    unfold impl_areTerms.ok
    rw [Int.toNat_natCast]
    have P1 : (0 ≤ x.f0 ∧ x.f0 ≤ ((2 ^ n : Nat) : Int) - 1) ↔ (0 ≤ x.f0 ∧ x.f0 < ((2 ^ n : Nat) : Int)) := by omega
    by_cases o1 : 0 ≤ x.f0 ∧ x.f0 < ((2 ^ n : Nat) : Int)
    · rw [decide_eq_true o1, decide_eq_true (P1.mpr o1), Option.bind_some, if_pos rfl, spec_l1In.ev, Bool.true_and, Option.bind_some]
      obtain ⟨m, hm⟩ := nat_of o1.1
      by_cases o2 : x.f1 ≥ 0
      · obtain ⟨v, hv⟩ := nat_of o2
        rw [hm] at o1
        have hv63 : v < 2 ^ 63 := by omega
        have hm63 : m < 2 ^ 63 := by omega
        rw [decide_eq_true o2, Bool.true_and, hm, hv, and_nat hv63 hm63, andNot_nat hv63 hm63]
        by_cases hs : v &&& m = v
        · have hle : v ≤ m := by rw [← hs]; exact Nat.and_le_right
          rw [hs, subset_iff.mp hs, decide_eq_true (by omega), if_pos rfl]
          simp
        · have hz : andn v m ≠ 0 := fun e => hs (subset_iff.mpr e)
          have e1 : (((v &&& m : Nat) : Int) == (v : Int)) = false := by rw [beq_eq_false_iff_ne]; omega
          have e2 : (((andn v m : Nat) : Int) == 0) = false := by rw [beq_eq_false_iff_ne]; omega
          rw [e1, e2]
          split <;> rfl
      · rw [decide_eq_false o2, decide_eq_false (by omega), if_neg (by decide)]; rfl
    · rw [decide_eq_false o1, decide_eq_false (fun e => o1 (P1.mp e)), Option.bind_some, if_neg (by decide)]; rfl
  · rw [decide_eq_false ha, Option.bind_some, if_neg (by decide)]; rfl

/-! ### facts on spec_l28Terms -/
--IMPORT M5
/-- at most 40 terms of n variables -/
def spec_l28Terms.ok (a : Int) (l : List S71) : Bool := decide (0 ≤ a ∧ a ≤ 5) && l.all (impl_areTerms.ok a) && decide ((l.length : Int) ≤ 40)
open Go.Proofs.Ytpnbeonpicekhaa.M in
theorem spec_l28Terms.ev (a : Int) (l : List S71) (hl : l.length ≤ 1048576) (hw : ∀ x ∈ l, x.f1 < 9223372036854775808) : Ev (fun k => spec_l28Terms.f k a l) (spec_l28Terms.ok a l) := by
  have key : ∀ d i, i + d = l.length → Ev (fun k => spec_l28Terms.l0 k a l (i : Int)) (decide (0 ≤ a ∧ a ≤ 5) && (l.drop i).all (impl_areTerms.ok a) && decide ((l.length : Int) ≤ 40)) := by
    intro d
    induction d with
    | zero =>
      intro i hi
      obtain rfl : i = l.length := by omega
      refine Ev.end (fun k => ?_)
      simp only [spec_l28Terms.l0]
      rw [if_neg (by omega), spec_l1In.ev, Option.bind_some]
      cases decide (0 ≤ a ∧ a ≤ 5) <;> simp
    | succ d ih =>
      intro i hi
      have hi' : i < l.length := by omega
      have hd : l.drop i = l.getD i z71 :: l.drop (i + 1) := by
        rw [List.drop_eq_getElem_cons hi']
        simp [List.getD_eq_getElem?_getD, hi']
      have hx : rd_T71 l (i : Int) = l.getD i z71 := by simp [rd_T71]
      have hm : l.getD i z71 ∈ l := by simp [List.getD_eq_getElem?_getD, hi']
      have hb := hw _ hm
      clear hm
      rw [hd, List.all_cons]
      generalize l.getD i z71 = x at *
      have et := spec_IsTerm.ev a x hb
      cases hq : (decide (0 ≤ a ∧ a ≤ 5) && impl_areTerms.ok a x) with
      | true =>
        rw [hq] at et
        have ih := ih (i + 1) (by omega)
        rw [Bool.and_eq_true] at hq
        rw [hq.1] at ih ⊢
        rw [hq.2]
        refine Ev.step (fun k => ?_) ih
        simp only [spec_l28Terms.l0]
        rw [if_pos (by omega), if_pos (by omega), hx, et, Option.bind_some, if_pos rfl, w64 (by omega) (by omega)]; rfl
      | false =>
        rw [hq] at et
        rw [← Bool.and_assoc, hq, Bool.false_and, Bool.false_and]
        refine Ev.end (fun k => ?_)
        simp only [spec_l28Terms.l0]
        rw [if_pos (by omega), if_pos (by omega), hx, et, Option.bind_some, if_neg (by decide)]
  exact key l.length 0 (by omega)

/-! ### facts on spec_l28Hazard -/
--IMPORT M5
/-- does a term hold for an input -/
def spec_l28Hazard.hold (x : Int) (t : S71) : Bool := Go.bits .and .i64 x t.f0 == t.f1
/-- do terms hold for two inputs, but none for both -/
def spec_l28Hazard.hz (x y : Int) : List S71 → Bool → Bool → Bool
  | [], a, b => a && b
  | t :: r, a, b => if spec_l28Hazard.hold x t = true then (if spec_l28Hazard.hold y t = true then false else spec_l28Hazard.hz x y r true b) else spec_l28Hazard.hz x y r a (b || spec_l28Hazard.hold y t)
open Go.Proofs.Ytpnbeonpicekhaa.M in
theorem spec_l28Hazard.loop (l : List S71) (hl : l.length ≤ 1048576) (x y : Int) : ∀ d i a b, i + d = l.length → Ev (fun k => spec_l28Hazard.l0 k l x y a b (i : Int)) (spec_l28Hazard.hz x y (l.drop i) a b) := by
  intro d
  induction d with
  | zero =>
    intro i a b hi
    obtain rfl : i = l.length := by omega
    refine Ev.end (fun k => ?_)
    simp only [spec_l28Hazard.l0]
    rw [if_neg (by omega), List.drop_length]
    cases a <;> rfl
  | succ d ih =>
    intro i a b hi
    have hi' : i < l.length := by omega
    have hd : l.drop i = l.getD i z71 :: l.drop (i + 1) := by
      rw [List.drop_eq_getElem_cons hi']
      simp [List.getD_eq_getElem?_getD, hi']
    have hx : rd_T71 l (i : Int) = l.getD i z71 := by simp [rd_T71]
    have e1 : wrap64 ((i : Int) + 1) = ((i + 1 : Nat) : Int) := up1 (by omega)
    have ih := fun a b => ih (i + 1) a b (by omega)
    rw [hd]
    generalize l.getD i z71 = t at *
    have P (u : Int) : (Go.bits .and .i64 u t.f0 = t.f1) ↔ spec_l28Hazard.hold u t = true := by unfold spec_l28Hazard.hold; rw [beq_iff_eq]
    cases hp : spec_l28Hazard.hold x t with
    | true =>
      have hp' := (P x).mpr hp
      cases hq : spec_l28Hazard.hold y t with
      | true =>
        have hq' := (P y).mpr hq
        rw [spec_l28Hazard.hz, hp, hq, if_pos rfl, if_pos rfl]
        refine Ev.end (fun k => ?_)
        simp only [spec_l28Hazard.l0]
        rw [if_pos (by omega), if_pos (by omega), hx, if_pos hp', if_pos hq']
      | false =>
        have hq' : ¬ Go.bits .and .i64 y t.f0 = t.f1 := fun e => by rw [(P y).mp e] at hq; cases hq
        rw [spec_l28Hazard.hz, hp, hq, if_pos rfl, if_neg (by decide)]
        refine Ev.step (fun k => ?_) (ih true b)
        simp only [spec_l28Hazard.l0]
        rw [if_pos (by omega), if_pos (by omega), hx, if_pos hp', if_neg hq', e1]
        have hp2 : (Go.bits .and .i64 x t.f0 == t.f1) = true := hp
        have hq2 : (Go.bits .and .i64 y t.f0 == t.f1) = false := hq
        rw [hp2, hq2]
        cases a <;> cases b <;> rfl
    | false =>
      have hp' : ¬ Go.bits .and .i64 x t.f0 = t.f1 := fun e => by rw [(P x).mp e] at hp; cases hp
      rw [spec_l28Hazard.hz, hp, if_neg (by decide)]
      refine Ev.step (fun k => ?_) (ih a (b || spec_l28Hazard.hold y t))
      simp only [spec_l28Hazard.l0]
      rw [if_pos (by omega), if_pos (by omega), hx, if_neg hp', e1]
      have hp2 : (Go.bits .and .i64 x t.f0 == t.f1) = false := hp
      rw [hp2]
      unfold spec_l28Hazard.hold
      cases a <;> cases b <;> rfl
open Go.Proofs.Ytpnbeonpicekhaa.M in
theorem spec_l28Hazard.ev (l : List S71) (hl : l.length ≤ 1048576) (x y : Int) : Ev (fun k => spec_l28Hazard.f k l x y) (spec_l28Hazard.hz x y l false false) := spec_l28Hazard.loop l hl x y l.length 0 false false (by omega)

/-! ### facts on spec_HazardsOf -/
--IMPORT M5
/-- a pair that differs in variable i, if x has it not and there is a hazard -/
def spec_HazardsOf.one (l : List S71) (x i : Nat) : List (List Int) := if x.testBit i = false ∧ spec_l28Hazard.hz (x : Int) ((x + 2 ^ i : Nat) : Int) l false false = true then [[(x : Int), ((x + 2 ^ i : Nat) : Int)]] else []
def spec_HazardsOf.row (l : List S71) (x : Nat) : Nat → List (List Int)
  | 0 => []
  | i + 1 => spec_HazardsOf.row l x i ++ spec_HazardsOf.one l x i
def spec_HazardsOf.all (n : Nat) (l : List S71) : Nat → List (List Int)
  | 0 => []
  | x + 1 => spec_HazardsOf.all n l x ++ spec_HazardsOf.row l x n
theorem spec_HazardsOf.one_le (l : List S71) (x i : Nat) : (spec_HazardsOf.one l x i).length ≤ 1 := by unfold spec_HazardsOf.one; split <;> simp
theorem spec_HazardsOf.row_le (l : List S71) (x : Nat) : ∀ i, (spec_HazardsOf.row l x i).length ≤ i
  | 0 => by simp [spec_HazardsOf.row]
  | i + 1 => by have := spec_HazardsOf.row_le l x i; have := spec_HazardsOf.one_le l x i; rw [spec_HazardsOf.row, List.length_append]; omega
theorem spec_HazardsOf.all_le (n : Nat) (l : List S71) : ∀ x, (spec_HazardsOf.all n l x).length ≤ x * n
  | 0 => by simp [spec_HazardsOf.all]
  | x + 1 => by have := spec_HazardsOf.all_le n l x; have := spec_HazardsOf.row_le l x n; rw [spec_HazardsOf.all, List.length_append, Nat.succ_mul]; omega
open Go.Proofs.Ytpnbeonpicekhaa.M in
theorem spec_HazardsOf.bits : ∀ x, x < 32 → ∀ i, i < 5 → (x.testBit i = false → x ||| 2 ^ i = x + 2 ^ i ∧ x ^^^ 2 ^ i = x + 2 ^ i) ∧ (x.testBit i = true → x ^^^ 2 ^ i ≤ x) ∧ x ^^^ 2 ^ i < 32 :=
  allB_dec2 (P := fun x i => (x.testBit i = false → x ||| 2 ^ i = x + 2 ^ i ∧ x ^^^ 2 ^ i = x + 2 ^ i) ∧ (x.testBit i = true → x ^^^ 2 ^ i ≤ x) ∧ x ^^^ 2 ^ i < 32) (by decide +kernel)
open Go.Proofs.Ytpnbeonpicekhaa.M in
/-- the pairs of the answer -/
def spec_HazardsOf.r (a : Int) (l : List S71) : List (List Int) × Bool := if spec_l28Terms.ok a l = true then (spec_HazardsOf.all a.toNat l (2 ^ a.toNat), true) else ([], false)
open Go.Proofs.Ytpnbeonpicekhaa.M in
theorem spec_HazardsOf.ok_n {a : Int} {l : List S71} (h : spec_l28Terms.ok a l = true) : ∃ n : Nat, a = (n : Int) ∧ n ≤ 5 ∧ l.length ≤ 40 := by
  unfold spec_l28Terms.ok at h
  rw [Bool.and_eq_true, Bool.and_eq_true] at h
  have h1 := of_decide_eq_true h.1.1
  have h2 := of_decide_eq_true h.2
  exact ⟨a.toNat, by omega, by omega, by omega⟩
open Go.Proofs.Ytpnbeonpicekhaa.M in
theorem spec_HazardsOf.ev (a : Int) (l : List S71) (hl : l.length ≤ 1048576) (hw : ∀ x ∈ l, x.f1 < 9223372036854775808) : Ev (fun k => spec_HazardsOf.f k a l) (spec_HazardsOf.r a l) := by
  have h1 := spec_l28Terms.ev a l hl hw
  unfold spec_HazardsOf.r
  refine Ev.congr (f := fun k => (spec_l28Terms.f k a l).bind fun t => if t = true then spec_HazardsOf.l0 k a l [] 0 else some ([], false)) (fun k => rfl) (Ev.bind h1 ?_)
  cases hv : spec_l28Terms.ok a l with
  | false => exact Ev.now _
  | true =>
    obtain ⟨n, rfl, hn, h40⟩ := spec_HazardsOf.ok_n hv
    have h5 := pow_le_5 hn
    simp only [if_true, Int.toNat_natCast]
    have row : ∀ x, x < 2 ^ n → Ev (fun k => spec_HazardsOf.l0 k n l (spec_HazardsOf.all n l (x + 1)) ((x + 1 : Nat) : Int)) (spec_HazardsOf.all n l (2 ^ n), true) → ∀ d i, i + d = n → Ev (fun k => spec_HazardsOf.l1 k n l (spec_HazardsOf.all n l x ++ spec_HazardsOf.row l x i) (x : Int) (i : Int)) (spec_HazardsOf.all n l (2 ^ n), true) := by
      intro x hx hnext
      refine Ev.count (fun k i => spec_HazardsOf.l1 k n l (spec_HazardsOf.all n l x ++ spec_HazardsOf.row l x i) (x : Int) (i : Int)) n _ ?_ ?_
      · intro i hi hn'
        obtain ⟨b1, b2, b3⟩ := spec_HazardsOf.bits x (by omega) i (by omega)
        have e1 : wrap64 ((i : Int) + 1) = ((i + 1 : Nat) : Int) := up1 (by omega)
        have hlen : (spec_HazardsOf.all n l x ++ spec_HazardsOf.row l x i).length < 5864062014805 := by
          have := spec_HazardsOf.all_le n l x
          have := spec_HazardsOf.row_le l x i
          have h3 : x * n ≤ 32 * 5 := Nat.mul_le_mul (by omega) hn
          rw [List.length_append]; omega
        have hi63 : 2 ^ i < 2 ^ 63 := Nat.pow_lt_pow_right (by decide) (by omega)
        cases hb : x.testBit i with
        | true =>
          have er : spec_HazardsOf.row l x (i + 1) = spec_HazardsOf.row l x i := by rw [spec_HazardsOf.row, spec_HazardsOf.one, if_neg (by rw [hb]; simp), List.append_nil]
          rw [er] at hn'
          refine Ev.step (fun k => ?_) hn'
          simp only [spec_HazardsOf.l1]
          rw [if_pos (by omega), if_pos (by omega), bit_nat (by omega) (by omega), hb, if_neg (by decide), e1]
        | false =>
          have eo : Go.bits .or .i64 (x : Int) (shl .i64 1 (i : Int)) = ((x + 2 ^ i : Nat) : Int) := by rw [shl_one (by omega), or_nat (by omega) hi63, (b1 hb).1]
          have hz := spec_l28Hazard.ev l hl (x : Int) ((x + 2 ^ i : Nat) : Int)
          have er : spec_HazardsOf.row l x (i + 1) = spec_HazardsOf.row l x i ++ (if spec_l28Hazard.hz (x : Int) ((x + 2 ^ i : Nat) : Int) l false false = true then [[(x : Int), ((x + 2 ^ i : Nat) : Int)]] else []) := by
            rw [spec_HazardsOf.row, spec_HazardsOf.one]
            congr 1
            apply ite_congr _ (fun _ => rfl) (fun _ => rfl)
            rw [hb]; simp
          rw [er] at hn'
          generalize spec_l28Hazard.hz (x : Int) ((x + 2 ^ i : Nat) : Int) l false false = q at hz hn'
          refine Ev.step (f := fun k => (spec_l28Hazard.f k l (x : Int) ((x + 2 ^ i : Nat) : Int)).bind fun t => if t = true then spec_HazardsOf.l1 k n l ((spec_HazardsOf.all n l x ++ spec_HazardsOf.row l x i) ++ [[(x : Int), ((x + 2 ^ i : Nat) : Int)]]) (x : Int) ((i + 1 : Nat) : Int) else spec_HazardsOf.l1 k n l (spec_HazardsOf.all n l x ++ spec_HazardsOf.row l x i) (x : Int) ((i + 1 : Nat) : Int)) (fun k => ?_) (Ev.bind hz ?_)
          · simp only [spec_HazardsOf.l1]
            rw [if_pos (by omega), if_pos (by omega), bit_nat (by omega) (by omega), hb, if_pos (by decide), eo, e1, if_pos hlen]
          · cases q with
            | true =>
              rw [if_pos rfl] at hn'
              simp only [if_true]
              rw [List.append_assoc]; exact hn'
            | false =>
              rw [if_neg (by decide), List.append_nil] at hn'
              simp only [Bool.false_eq_true, if_false]
              exact hn'
      · refine Ev.step (fun k => ?_) hnext
        simp only [spec_HazardsOf.l1]
        rw [if_neg (by omega), up1 (by omega)]
        rfl
    have h0 := Ev.count (fun k x => spec_HazardsOf.l0 k n l (spec_HazardsOf.all n l x) (x : Int)) (2 ^ n) (spec_HazardsOf.all n l (2 ^ n), true) (fun x hx hnext => by
      have h := row x hx hnext n 0 (by omega)
      refine Ev.step (fun k => ?_) h
      simp only [spec_HazardsOf.l0]
      rw [if_pos (Int.natCast_nonneg n), shl_one (by omega), if_pos (by omega)]
      simp [spec_HazardsOf.row]) (Ev.end (fun k => by
      simp only [spec_HazardsOf.l0]
      rw [if_pos (Int.natCast_nonneg n), shl_one (by omega), if_neg (by omega)])) (2 ^ n) 0 (by omega)
    exact h0

/-! ### facts on laws_toTermS -/
--IMPORT M3
/-- a term of the laws' own type as one of the program's -/
def laws_toTermS.conv (x : S73) : S71 := ⟨x.f0, x.f1⟩
open Go.Proofs.Ytpnbeonpicekhaa.M in
theorem laws_toTermS.ev (l : List S73) (h : l.length ≤ 1048576) : Ev (fun k => laws_toTermS.f k l) (l.map laws_toTermS.conv) := by
  have key : ∀ d i, i + d = l.length → Ev (fun k => laws_toTermS.l0 k l (fillAt laws_toTermS.conv z71 l i) (i : Int)) (l.map laws_toTermS.conv) := by
    refine Ev.count (fun k i => laws_toTermS.l0 k l (fillAt laws_toTermS.conv z71 l i) (i : Int)) l.length _ ?_ ?_
    · intro i hi hn
      refine Ev.step (fun k => ?_) hn
      have hl := fillAt_length laws_toTermS.conv z71 l (i := i) (by omega)
      simp only [laws_toTermS.l0, laws_toTerm.f, Option.bind_some]
      rw [if_pos (by omega), if_pos (by omega), if_pos (by rw [hl]; omega), w64 (by omega) (by omega)]
      have e := fillAt_set laws_toTermS.conv z71 l z73 hi
      have e2 : (⟨(rd_T73 l (i : Int)).f0, (rd_T73 l (i : Int)).f1⟩ : S71) = laws_toTermS.conv (l.getD i z73) := by simp [rd_T73, laws_toTermS.conv]
      rw [e2, Int.toNat_natCast, e]; rfl
    · refine Ev.end (fun k => ?_)
      simp only [laws_toTermS.l0]
      rw [if_neg (by omega), fillAt_all]
  have h0 := key l.length 0 (by omega)
  rw [fillAt_zero] at h0
  refine Ev.congr (fun k => ?_) h0
  unfold laws_toTermS.f
  rw [if_pos (by omega), if_pos (by simp; omega), Int.toNat_natCast]; rfl
open Go.Proofs.Ytpnbeonpicekhaa.M in
theorem laws_toTermS.sz (l : List S73) (h : l.length ≤ 1048576) : laws_szTermS.f l 1048576 = some (1048576 - (l.length : Int)) := by
  have e : wrap64 (1048576 - (l.length : Int)) = 1048576 - (l.length : Int) := w64 (by omega) (by omega)
  unfold laws_szTermS.f
  simp [e]
  omega
theorem laws_toTermS.wf (l : List S73) (h : ∀ x ∈ l, (Lit.int .i64 x.f0).wf = true ∧ (Lit.int .i64 x.f1).wf = true) : ∀ x ∈ l.map laws_toTermS.conv, x.f1 < 9223372036854775808 := by
  intro x hx
  obtain ⟨y, hy, rfl⟩ := List.mem_map.mp hx
  have := (h y hy).2
  simp [Lit.wf, IntKind.min, IntKind.max, IntKind.bits, IntKind.signed] at this
  show y.f1 < _
  omega

/-! ### facts on impl_isBits -/
theorem impl_isBits.ev (a : Int) : impl_isBits.f a = some (decide (0 ≤ a ∧ a ≤ 5)) := by
  unfold impl_isBits.f
  by_cases h : 0 ≤ a
  · rw [if_pos h]; simp [h]
  · rw [if_neg h]; simp [h]

/-! ### facts on impl_areValid -/
--IMPORT M5
theorem impl_areValid.ev (a : Int) (l : List S71) : impl_areValid.f a l = some (spec_l28Terms.ok a l) := by
  unfold impl_areValid.f impl_areTerms.f spec_l28Terms.ok
  rw [Option.bind_some]
  cases decide (0 ≤ a ∧ a ≤ 5) && l.all (impl_areTerms.ok a) <;> simp

/-! ### facts on impl_isHazard -/
--IMPORT M5
open Go.Proofs.Ytpnbeonpicekhaa.M in
theorem impl_isHazard.loop (l : List S71) (hl : l.length ≤ 1048576) (x y : Int) : ∀ d i a b, i + d = l.length → Ev (fun k => impl_isHazard.l0 k x y a b l (l.length : Int) (i : Int)) (spec_l28Hazard.hz x y (l.drop i) a b) := by
  intro d
  induction d with
  | zero =>
    intro i a b hi
    obtain rfl : i = l.length := by omega
    refine Ev.end (fun k => ?_)
    simp only [impl_isHazard.l0]
    rw [if_neg (by omega), List.drop_length]
    cases a <;> rfl
  | succ d ih =>
    intro i a b hi
    have hi' : i < l.length := by omega
    have hd : l.drop i = l.getD i z71 :: l.drop (i + 1) := by
      rw [List.drop_eq_getElem_cons hi']
      simp [List.getD_eq_getElem?_getD, hi']
    have hx : rd_T71 l (i : Int) = l.getD i z71 := by simp [rd_T71]
    have e1 : wrap64 ((i : Int) + 1) = ((i + 1 : Nat) : Int) := up1 (by omega)
    have ih := fun a b => ih (i + 1) a b (by omega)
    rw [hd]
    generalize l.getD i z71 = t at *
    have T (u : Int) : impl_Term_holds.f t.f0 t.f1 u = some (spec_l28Hazard.hold u t) := rfl
    cases hp : spec_l28Hazard.hold x t with
    | true =>
      cases hq : spec_l28Hazard.hold y t with
      | true =>
        rw [spec_l28Hazard.hz, hp, hq, if_pos rfl, if_pos rfl]
        refine Ev.end (fun k => ?_)
        simp only [impl_isHazard.l0]
        rw [if_pos (by omega), if_pos (by omega), if_pos (by omega), hx, T, T, hp, hq]; rfl
      | false =>
        rw [spec_l28Hazard.hz, hp, hq, if_pos rfl, if_neg (by decide)]
        refine Ev.step (fun k => ?_) (ih true b)
        simp only [impl_isHazard.l0]
        rw [if_pos (by omega), if_pos (by omega), if_pos (by omega), hx, T, T, hp, hq, e1]
        cases a <;> cases b <;> rfl
    | false =>
      rw [spec_l28Hazard.hz, hp, if_neg (by decide)]
      refine Ev.step (fun k => ?_) (ih a (b || spec_l28Hazard.hold y t))
      simp only [impl_isHazard.l0]
      rw [if_pos (by omega), if_pos (by omega), if_pos (by omega), hx, T, T, hp, e1]
      cases a <;> cases b <;> rfl
open Go.Proofs.Ytpnbeonpicekhaa.M in
theorem impl_isHazard.ev (l : List S71) (hl : l.length ≤ 1048576) (x y : Int) : Ev (fun k => impl_isHazard.f k l x y) (spec_l28Hazard.hz x y l false false) := impl_isHazard.loop l hl x y l.length 0 false false (by omega)

/-! ### facts on impl_hazards -/
--IMPORT M5
open Go.Proofs.Ytpnbeonpicekhaa.M in
theorem impl_hazards.ev {n : Nat} (hn : n ≤ 5) (l : List S71) (hl : l.length ≤ 1048576) : Ev (fun k => impl_hazards.f k n l) (spec_HazardsOf.all n l (2 ^ n)) := by
  have h5 := pow_le_5 hn
  have row : ∀ x, x < 2 ^ n → Ev (fun k => impl_hazards.l0 k n l (spec_HazardsOf.all n l (x + 1)) ((2 ^ n : Nat) : Int) ((x + 1 : Nat) : Int)) (spec_HazardsOf.all n l (2 ^ n)) → ∀ d i, i + d = n → Ev (fun k => impl_hazards.l1 k n l (spec_HazardsOf.all n l x ++ spec_HazardsOf.row l x i) (x : Int) ((2 ^ n : Nat) : Int) (x : Int) n (i : Int)) (spec_HazardsOf.all n l (2 ^ n)) := by
    intro x hx hnext
    refine Ev.count (fun k i => impl_hazards.l1 k n l (spec_HazardsOf.all n l x ++ spec_HazardsOf.row l x i) (x : Int) ((2 ^ n : Nat) : Int) (x : Int) n (i : Int)) n _ ?_ ?_
    · intro i hi hn'
      obtain ⟨b1, b2, b3⟩ := spec_HazardsOf.bits x (by omega) i (by omega)
      have e1 : wrap64 ((i : Int) + 1) = ((i + 1 : Nat) : Int) := up1 (by omega)
      have hlen : (spec_HazardsOf.all n l x ++ spec_HazardsOf.row l x i).length < 5864062014805 := by
        have := spec_HazardsOf.all_le n l x
        have := spec_HazardsOf.row_le l x i
        have h3 : x * n ≤ 32 * 5 := Nat.mul_le_mul (by omega) hn
        rw [List.length_append]; omega
      have hi63 : 2 ^ i < 2 ^ 63 := Nat.pow_lt_pow_right (by decide) (by omega)
      have eo : Go.bits .xor .i64 (x : Int) (shl .i64 1 (i : Int)) = ((x ^^^ 2 ^ i : Nat) : Int) := by rw [shl_one (by omega), xor_nat (by omega) hi63]
      cases hb : x.testBit i with
      | true =>
        have er : spec_HazardsOf.row l x (i + 1) = spec_HazardsOf.row l x i := by rw [spec_HazardsOf.row, spec_HazardsOf.one, if_neg (by rw [hb]; simp), List.append_nil]
        rw [er] at hn'
        refine Ev.step (fun k => ?_) hn'
        simp only [impl_hazards.l1]
        have := b2 hb
        rw [if_pos (by omega), if_pos (by omega), eo, if_neg (by omega), e1]
      | false =>
        have eq := (b1 hb).2
        have hpos := Nat.two_pow_pos i
        rw [eq] at eo
        have hz := impl_isHazard.ev l hl (x : Int) ((x + 2 ^ i : Nat) : Int)
        have er : spec_HazardsOf.row l x (i + 1) = spec_HazardsOf.row l x i ++ (if spec_l28Hazard.hz (x : Int) ((x + 2 ^ i : Nat) : Int) l false false = true then [[(x : Int), ((x + 2 ^ i : Nat) : Int)]] else []) := by
          rw [spec_HazardsOf.row, spec_HazardsOf.one]
          congr 1
          apply ite_congr _ (fun _ => rfl) (fun _ => rfl)
          rw [hb]; simp
        rw [er] at hn'
        generalize spec_l28Hazard.hz (x : Int) ((x + 2 ^ i : Nat) : Int) l false false = q at hz hn'
        refine Ev.step (f := fun k => (impl_isHazard.f k l (x : Int) ((x + 2 ^ i : Nat) : Int)).bind fun t => if t = true then impl_hazards.l1 k n l ((spec_HazardsOf.all n l x ++ spec_HazardsOf.row l x i) ++ [[(x : Int), ((x + 2 ^ i : Nat) : Int)]]) (x : Int) ((2 ^ n : Nat) : Int) (x : Int) n ((i + 1 : Nat) : Int) else impl_hazards.l1 k n l (spec_HazardsOf.all n l x ++ spec_HazardsOf.row l x i) (x : Int) ((2 ^ n : Nat) : Int) (x : Int) n ((i + 1 : Nat) : Int)) (fun k => ?_) (Ev.bind hz ?_)
        · simp only [impl_hazards.l1]
          rw [if_pos (by omega), if_pos (by omega), eo, if_pos (by omega), e1, if_pos hlen]
        · cases q with
          | true =>
            rw [if_pos rfl] at hn'
            simp only [if_true]
            rw [List.append_assoc]; exact hn'
          | false =>
            rw [if_neg (by decide), List.append_nil] at hn'
            simp only [Bool.false_eq_true, if_false]
            exact hn'
    · refine Ev.step (fun k => ?_) hnext
      simp only [impl_hazards.l1]
      rw [if_neg (by omega), up1 (by omega)]
      rfl
  have h0 := Ev.count (fun k x => impl_hazards.l0 k n l (spec_HazardsOf.all n l x) ((2 ^ n : Nat) : Int) (x : Int)) (2 ^ n) (spec_HazardsOf.all n l (2 ^ n)) (fun x hx hnext => by
    have h := row x hx hnext n 0 (by omega)
    refine Ev.step (fun k => ?_) h
    simp only [impl_hazards.l0]
    rw [if_pos (by omega)]
    simp [spec_HazardsOf.row]) (Ev.end (fun k => by
    simp only [impl_hazards.l0]
    rw [if_neg (by omega)])) (2 ^ n) 0 (by omega)
  refine Ev.congr (fun k => ?_) h0
  unfold impl_hazards.f
  rw [if_pos (Int.natCast_nonneg n), shl_one (by omega)]
  rfl

/-! ### facts on impl_HazardsOf -/
--IMPORT M5
open Go.Proofs.Ytpnbeonpicekhaa.M in
theorem impl_HazardsOf.ev (a : Int) (l : List S71) (hl : l.length ≤ 1048576) : Ev (fun k => impl_HazardsOf.f k a l) (spec_HazardsOf.r a l) := by
  unfold spec_HazardsOf.r impl_HazardsOf.f
  rw [impl_areValid.ev]
  cases hv : spec_l28Terms.ok a l with
  | false => exact Ev.now _
  | true =>
    obtain ⟨n, rfl, hn, h40⟩ := spec_HazardsOf.ok_n hv
    simp only [Option.bind_some, if_true, Int.toNat_natCast]
    exact Ev.bind (impl_hazards.ev hn l hl) (Ev.now _)

/-! ### facts on laws_eqIntS -/
--IMPORT M5
open Go.Proofs.Ytpnbeonpicekhaa.M in
theorem laws_eqIntS.ev (l : List Int) (h : l.length ≤ 1048576) : Ev (fun k => laws_eqIntS.f k l l) true := by
  have key : ∀ d i, i + d = l.length → Ev (fun k => laws_eqIntS.l0 k l l (i : Int)) true := by
    refine Ev.count (fun k i => laws_eqIntS.l0 k l l (i : Int)) l.length _ ?_ ?_
    · intro i hi hn
      refine Ev.step (fun k => ?_) hn
      simp only [laws_eqIntS.l0, if_true]
      rw [if_pos (by omega), if_pos (by omega), if_pos (by omega), w64 (by omega) (by omega)]; rfl
    · refine Ev.end (fun k => ?_)
      simp only [laws_eqIntS.l0]
      rw [if_neg (by omega)]
  refine Ev.congr (fun k => ?_) (key l.length 0 (by omega))
  unfold laws_eqIntS.f
  rw [if_pos rfl]; rfl

/-! ### facts on laws_eqIntSS -/
--IMPORT M5
open Go.Proofs.Ytpnbeonpicekhaa.M in
theorem laws_eqIntSS.ev (l : List (List Int)) (h : l.length ≤ 1048576) (hr : ∀ r, r ∈ l → r.length ≤ 1048576) : Ev (fun k => laws_eqIntSS.f k l l) true := by
  have key : ∀ d i, i + d = l.length → Ev (fun k => laws_eqIntSS.l0 k l l (i : Int)) true := by
    refine Ev.count (fun k i => laws_eqIntSS.l0 k l l (i : Int)) l.length _ ?_ ?_
    · intro i hi hn
      have hm : (rd_L3 l (i : Int)).length ≤ 1048576 := by
        unfold rd_L3
        rw [Int.toNat_natCast, List.getD_eq_getElem?_getD, List.getElem?_eq_getElem hi]
        exact hr _ (List.getElem_mem _)
      refine Ev.step (fun k => ?_) (show Ev (fun k => (laws_eqIntS.f k (rd_L3 l (i : Int)) (rd_L3 l (i : Int))).bind fun t => if t = true then laws_eqIntSS.l0 k l l ((i + 1 : Nat) : Int) else some false) true from Ev.bind (laws_eqIntS.ev _ hm) (by simpa using hn))
      simp only [laws_eqIntSS.l0]
      rw [if_pos (by omega), if_pos (by omega), if_pos (by omega), w64 (by omega) (by omega)]; rfl
    · refine Ev.end (fun k => ?_)
      simp only [laws_eqIntSS.l0]
      rw [if_neg (by omega)]
  refine Ev.congr (fun k => ?_) (key l.length 0 (by omega))
  unfold laws_eqIntSS.f
  rw [if_pos rfl]; rfl

/-! ### facts on laws_eqTermS -/
--IMPORT M3
open Go.Proofs.Ytpnbeonpicekhaa.M in
theorem laws_eqTermS.ev (l : List S71) (h : l.length ≤ 1048576) : Ev (fun k => laws_eqTermS.f k l l) true := by
  have key : ∀ d i, i + d = l.length → Ev (fun k => laws_eqTermS.l0 k l l (i : Int)) true := by
    refine Ev.count (fun k i => laws_eqTermS.l0 k l l (i : Int)) l.length _ ?_ ?_
    · intro i hi hn
      refine Ev.step (fun k => ?_) hn
      simp only [laws_eqTermS.l0, laws_eqTerm.f, if_true, Option.bind_some]
      rw [if_pos (by omega), if_pos (by omega), if_pos (by omega), w64 (by omega) (by omega)]; rfl
    · refine Ev.end (fun k => ?_)
      simp only [laws_eqTermS.l0]
      rw [if_neg (by omega)]
  refine Ev.congr (fun k => ?_) (key l.length 0 (by omega))
  unfold laws_eqTermS.f
  rw [if_pos rfl]; rfl

/-! ### facts on laws_markTermS -/
--IMPORT M5
/-- terms with a, a + 1, a + 2, .. in their fields -/
def laws_markTermS.up (a : Int) (n : Nat) : List S71 := (List.range n).map (fun j : Nat => (⟨a + 2 * (j : Int), a + 2 * (j : Int) + 1⟩ : S71))
theorem laws_markTermS.up_length (a : Int) (n : Nat) : (laws_markTermS.up a n).length = n := by simp [laws_markTermS.up]
theorem laws_markTermS.up_rd {a : Int} {n i : Nat} (h : i < n) : rd_T71 (laws_markTermS.up a n) (i : Int) = ⟨a + 2 * (i : Int), a + 2 * (i : Int) + 1⟩ := by simp [rd_T71, laws_markTermS.up, List.getD_eq_getElem?_getD, h]
theorem laws_markTermS.up_set {a : Int} {l : List S71} {i : Nat} (h : i < l.length) : (laws_markTermS.up a i ++ l.drop i).set i ⟨a + 2 * (i : Int), a + 2 * (i : Int) + 1⟩ = laws_markTermS.up a (i + 1) ++ l.drop (i + 1) := by
  apply List.ext_getElem?
  intro j
  rw [List.getElem?_set]
  by_cases hj : i = j
  · subst hj
    rw [if_pos rfl, if_pos (by simp [laws_markTermS.up_length]; omega), List.getElem?_append_left (by rw [laws_markTermS.up_length]; omega)]
    simp [laws_markTermS.up]
  · rw [if_neg hj]
    by_cases h2 : j < i
    · rw [List.getElem?_append_left (by rw [laws_markTermS.up_length]; omega), List.getElem?_append_left (by rw [laws_markTermS.up_length]; omega)]
      simp [laws_markTermS.up, h2, show j < i + 1 by omega]
    · rw [List.getElem?_append_right (by rw [laws_markTermS.up_length]; omega), List.getElem?_append_right (by rw [laws_markTermS.up_length]; omega), laws_markTermS.up_length, laws_markTermS.up_length, List.getElem?_drop, List.getElem?_drop]
      congr 1; omega
open Go.Proofs.Ytpnbeonpicekhaa.M in
theorem laws_markTermS.ev (l : List S71) (h : l.length ≤ 1048576) : Ev (fun k => laws_markTermS.f k l 1) (1 + 2 * (l.length : Int), laws_markTermS.up 1 l.length) := by
  have key : ∀ d i, i + d = l.length → Ev (fun k => laws_markTermS.l0 k (laws_markTermS.up 1 i ++ l.drop i) (1 + 2 * (i : Int)) (i : Int)) (1 + 2 * (l.length : Int), laws_markTermS.up 1 l.length) := by
    refine Ev.count (fun k i => laws_markTermS.l0 k (laws_markTermS.up 1 i ++ l.drop i) (1 + 2 * (i : Int)) (i : Int)) l.length _ ?_ ?_
    · intro i hi hn
      have hlen : (laws_markTermS.up 1 i ++ l.drop i).length = l.length := by simp [laws_markTermS.up_length]; omega
      refine Ev.step (fun k => ?_) hn
      simp only [laws_markTermS.l0, Option.bind_some]
      rw [if_pos (by rw [hlen]; omega), if_pos (by omega), Int.toNat_natCast, List.set_set, w64 (by omega) (by omega), w64 (by omega) (by omega), w64 (by omega) (by omega)]
      have e0 : (rd_T71 ((laws_markTermS.up 1 i ++ l.drop i).set i ⟨1 + 2 * (i : Int), (rd_T71 (laws_markTermS.up 1 i ++ l.drop i) (i : Int)).f1⟩) (i : Int)).f0 = 1 + 2 * (i : Int) := by
        simp [rd_T71, List.getD_eq_getElem?_getD, hlen, hi]
      rw [e0, laws_markTermS.up_set hi]
      congr 1 <;> omega
    · refine Ev.end (fun k => ?_)
      simp only [laws_markTermS.l0]
      rw [if_neg (by simp [laws_markTermS.up_length])]
      simp
  have h0 := key l.length 0 (by omega)
  rw [show laws_markTermS.up 1 0 ++ l.drop 0 = l from by simp [laws_markTermS.up]] at h0
  refine Ev.congr (fun k => ?_) h0
  unfold laws_markTermS.f
  rfl

/-! ### facts on laws_markIntS -/
--IMPORT M5
open Go.Proofs.Ytpnbeonpicekhaa.M in
theorem laws_markIntS.ev (l : List Int) (a : Int) (h : l.length ≤ 1048576) (ha : 0 ≤ a) (hb : a ≤ 1000000000000) : Ev (fun k => laws_markIntS.f k l a) (a + (l.length : Int), upTo a l.length) := by
  have key : ∀ d i, i + d = l.length → Ev (fun k => laws_markIntS.l0 k (upTo a i ++ l.drop i) (a + (i : Int)) (i : Int)) (a + (l.length : Int), upTo a l.length) := by
    refine Ev.count (fun k i => laws_markIntS.l0 k (upTo a i ++ l.drop i) (a + (i : Int)) (i : Int)) l.length _ ?_ ?_
    · intro i hi hn
      refine Ev.step (fun k => ?_) hn
      simp only [laws_markIntS.l0]
      rw [if_pos (by rw [upTo_len (by omega)]; omega), if_pos (by omega), Int.toNat_natCast, upTo_set hi, w64 (by omega) (by omega), w64 (by omega) (by omega)]
      congr 1; omega
    · refine Ev.end (fun k => ?_)
      simp only [laws_markIntS.l0]
      rw [upTo_all, if_neg (by rw [upTo_length]; omega)]
  have h0 := key l.length 0 (by omega)
  rw [upTo_zero] at h0
  refine Ev.congr (fun k => ?_) h0
  unfold laws_markIntS.f
  simp

/-! ### facts on laws_heldIntS -/
--IMPORT M5
open Go.Proofs.Ytpnbeonpicekhaa.M in
theorem laws_heldIntS.ev (n : Nat) (a : Int) (h : n ≤ 1048576) (ha : 0 ≤ a) (hb : a ≤ 1000000000000) : Ev (fun k => laws_heldIntS.f k (upTo a n) a) (a + (n : Int)) := by
  have key : ∀ d i, i + d = n → Ev (fun k => laws_heldIntS.l0 k (upTo a n) (a + (i : Int)) (i : Int)) (a + (n : Int)) := by
    refine Ev.count (fun k i => laws_heldIntS.l0 k (upTo a n) (a + (i : Int)) (i : Int)) n _ ?_ ?_
    · intro i hi hn
      refine Ev.step (fun k => ?_) hn
      simp only [laws_heldIntS.l0]
      rw [if_pos (by rw [upTo_length]; omega), if_pos (by omega), upTo_rd hi, if_pos rfl, w64 (by omega) (by omega), w64 (by omega) (by omega)]
      congr 1; omega
    · refine Ev.end (fun k => ?_)
      simp only [laws_heldIntS.l0]
      rw [if_neg (by rw [upTo_length]; omega)]
  refine Ev.congr (fun k => ?_) (key n 0 (by omega))
  unfold laws_heldIntS.f
  simp

/-! ### facts on laws_heldIntSS -/
--IMPORT M5
open Go.Proofs.Ytpnbeonpicekhaa.M in
theorem laws_heldIntSS.got (l : List (List Int)) (a : Int) (j : Nat) (hj : j < l.length) : ∀ i, j < i → i ≤ l.length → (laws_markIntSS.val l a i).2.getD j [] = upTo (laws_markIntSS.val l a j).1 (l.getD j []).length
  | 0, h, _ => absurd h (by omega)
  | i + 1, h, hi => by
    rw [laws_markIntSS.val]
    by_cases hij : j = i
    · subst hij
      simp only [List.getD_eq_getElem?_getD]
      rw [List.getElem?_set_self (by rw [laws_markIntSS.val_len]; exact hj)]
      rfl
    · simp only [List.getD_eq_getElem?_getD]
      rw [List.getElem?_set_ne (by omega)]
      have := laws_heldIntSS.got l a j hj i (by omega) (by omega)
      simpa only [List.getD_eq_getElem?_getD] using this
open Go.Proofs.Ytpnbeonpicekhaa.M in
theorem laws_heldIntSS.ev (l : List (List Int)) (h : l.length ≤ 1000) (hr : ∀ r, r ∈ l → r.length ≤ 1000) : Ev (fun k => laws_heldIntSS.f k (laws_markIntSS.rows l 1) 1) (laws_markIntSS.val l 1 l.length).1 := by
  have hL := laws_markIntSS.rows_len l 1
  have key : ∀ d i, i + d = l.length → Ev (fun k => laws_heldIntSS.l0 k (laws_markIntSS.rows l 1) (laws_markIntSS.val l 1 i).1 (i : Int)) (laws_markIntSS.val l 1 l.length).1 := by
    refine Ev.count (fun k i => laws_heldIntSS.l0 k (laws_markIntSS.rows l 1) (laws_markIntSS.val l 1 i).1 (i : Int)) l.length _ ?_ ?_
    · intro i hi hn
      obtain ⟨b1, b2⟩ := laws_markIntSS.val_le l 1 hr i (by omega)
      have hm : (l.getD i []).length ≤ 1000 := by
        rw [List.getD_eq_getElem?_getD, List.getElem?_eq_getElem hi]
        exact hr _ (List.getElem_mem _)
      have e1 : rd_L3 (laws_markIntSS.rows l 1) (i : Int) = upTo (laws_markIntSS.val l 1 i).1 (l.getD i []).length := by
        unfold rd_L3 laws_markIntSS.rows
        rw [Int.toNat_natCast]
        exact laws_heldIntSS.got l 1 i hi l.length hi (Nat.le_refl _)
      have e2 : (laws_markIntSS.val l 1 (i + 1)).1 = (laws_markIntSS.val l 1 i).1 + ((l.getD i []).length : Int) := rfl
      have hv := laws_heldIntS.ev (l.getD i []).length (laws_markIntSS.val l 1 i).1 (by omega) (by omega) (by omega)
      refine Ev.step (fun k => ?_) (show Ev (fun k => (laws_heldIntS.f k (upTo (laws_markIntSS.val l 1 i).1 (l.getD i []).length) (laws_markIntSS.val l 1 i).1).bind fun t => if t < 0 then some (-1) else laws_heldIntSS.l0 k (laws_markIntSS.rows l 1) t ((i + 1 : Nat) : Int)) (laws_markIntSS.val l 1 l.length).1 from Ev.bind hv (by
        rw [← e2]
        have : ¬ ((laws_markIntSS.val l 1 (i + 1)).1 < 0) := by rw [e2]; omega
        simp only [this, if_false]
        exact hn))
      simp only [laws_heldIntSS.l0]
      rw [if_pos (by rw [hL]; omega), if_pos (by omega), e1, w64 (by omega) (by omega)]; rfl
    · refine Ev.end (fun k => ?_)
      simp only [laws_heldIntSS.l0]
      rw [if_neg (by rw [hL]; omega)]
  refine Ev.congr (fun k => ?_) (key l.length 0 (by omega))
  unfold laws_heldIntSS.f
  rfl

/-! ### facts on laws_FnExactHazardsOf -/
--IMPORT M5
theorem laws_FnExactHazardsOf.short (a : Int) (l : List S71) : (spec_HazardsOf.r a l).1.length ≤ 1000 ∧ ∀ r, r ∈ (spec_HazardsOf.r a l).1 → r.length ≤ 1000 := by
  unfold spec_HazardsOf.r
  split
  · rename_i h
    obtain ⟨n, rfl, hn, _⟩ := spec_HazardsOf.ok_n h
    simp only [Int.toNat_natCast]
    have one : ∀ x i r, r ∈ spec_HazardsOf.one l x i → r.length ≤ 1000 := by
      intro x i r hr
      unfold spec_HazardsOf.one at hr
      split at hr
      · rw [List.mem_singleton] at hr; subst hr; simp
      · cases hr
    have row : ∀ x i r, r ∈ spec_HazardsOf.row l x i → r.length ≤ 1000 := by
      intro x i
      induction i with
      | zero => intro r hr; cases hr
      | succ i ih => intro r hr; rw [spec_HazardsOf.row, List.mem_append] at hr; exact hr.elim (ih r) (one x i r)
    have all : ∀ m r, r ∈ spec_HazardsOf.all n l m → r.length ≤ 1000 := by
      intro m
      induction m with
      | zero => intro r hr; cases hr
      | succ m ih => intro r hr; rw [spec_HazardsOf.all, List.mem_append] at hr; exact hr.elim (ih r) (row m n r)
    refine ⟨?_, all _⟩
    have h1 := spec_HazardsOf.all_le n l (2 ^ n)
    have h2 : 2 ^ n * n ≤ 2 ^ 5 * 5 := Nat.mul_le_mul (Nat.pow_le_pow_right (by decide) hn) hn
    omega
  · exact ⟨by simp, fun r hr => by cases hr⟩
open Go.Proofs.Ytpnbeonpicekhaa.M in
theorem laws_FnExactHazardsOf.pure_ : laws_FnExactHazardsOf.Pure := by
  intro a l _ hm hwf
  unfold maxLen at hm
  by_cases hl : l.length ≤ 1048576
  · obtain ⟨K1, h1⟩ : ∃ K, ∀ k, K ≤ k → laws_toTermS.f k l = some (l.map laws_toTermS.conv) := laws_toTermS.ev l hl
    have hl2 : (l.map laws_toTermS.conv).length ≤ 1048576 := by simpa using hl
    have hw := laws_toTermS.wf l hwf
    generalize l.map laws_toTermS.conv = m at h1 hl2 hw
    obtain ⟨K2, h2⟩ : ∃ K, ∀ k, K ≤ k → spec_HazardsOf.f k a m = some (spec_HazardsOf.r a m) := spec_HazardsOf.ev a m hl2 hw
    obtain ⟨K3, h3⟩ : ∃ K, ∀ k, K ≤ k → impl_HazardsOf.f k a m = some (spec_HazardsOf.r a m) := impl_HazardsOf.ev a m hl2
    obtain ⟨K4, h4⟩ : ∃ K, ∀ k, K ≤ k → laws_eqTermS.f k m m = some true := laws_eqTermS.ev m hl2
    obtain ⟨s1, s2⟩ := laws_FnExactHazardsOf.short a m
    generalize spec_HazardsOf.r a m = rb at h2 h3 s1 s2
    obtain ⟨r, b⟩ := rb
    simp only [] at s1 s2
    obtain ⟨K5, h5⟩ : ∃ K, ∀ k, K ≤ k → laws_eqIntSS.f k r r = some true := laws_eqIntSS.ev r (by omega) (fun x hx => Nat.le_trans (s2 x hx) (by decide))
    obtain ⟨K6, h6⟩ : ∃ K, ∀ k, K ≤ k → laws_markTermS.f k m 1 = some (1 + 2 * (m.length : Int), laws_markTermS.up 1 m.length) := laws_markTermS.ev m hl2
    obtain ⟨K7, h7⟩ : ∃ K, ∀ k, K ≤ k → laws_heldIntSS.f k (laws_markIntSS.rows r 1) 1 = some (laws_markIntSS.val r 1 r.length).1 := laws_heldIntSS.ev r s1 s2
    have h8 : laws_markIntSS.g r 1 = some (laws_markIntSS.val r 1 r.length).1 := by
      unfold laws_markIntSS.g laws_markIntSS.f
      rw [if_pos ⟨s1, s2, by decide, by decide⟩]; rfl
    have hv := (laws_markIntSS.val_le r 1 s2 r.length (Nat.le_refl _)).1
    generalize (laws_markIntSS.val r 1 r.length).1 = v at h7 h8 hv
    have hz := laws_toTermS.sz l hl
    have hn : ¬ (1048576 - (l.length : Int) < 0) := by omega
    have n2 : ¬ (1 + 2 * (m.length : Int) < 0) := by omega
    have n3 : ¬ (v < 0) := by omega
    refine ⟨K1 + K2 + K3 + K4 + K5 + K6 + K7 + 3, ?_⟩
    simp (disch := omega) only [laws_FnExactHazardsOf.f, h1, h2, h3, h4, h5, h6, h7, h8, hz, hn, n2, n3, ↓reduceIte, Option.bind_some, bne_self_eq_false, Bool.false_eq_true]
    simp (disch := omega) only [laws_FnExactHazardsOf.j0, h1, h2, h3, h4, h5, h6, h7, h8, hz, hn, n2, n3, ↓reduceIte, Option.bind_some, bne_self_eq_false, Bool.false_eq_true]
    simp (disch := omega) only [laws_FnExactHazardsOf.j1, h1, h2, h3, h4, h5, h6, h7, h8, hz, hn, n2, n3, ↓reduceIte, Option.bind_some, bne_self_eq_false, Bool.false_eq_true]
    simp (disch := omega) only [laws_FnExactHazardsOf.j2, h1, h2, h3, h4, h5, h6, h7, h8, hz, hn, n2, n3, ↓reduceIte, Option.bind_some, bne_self_eq_false, Bool.false_eq_true]
  · have e : wrap64 (1048576 - (l.length : Int)) < 0 := by rw [w64 (by omega) (by omega)]; omega
    exact ⟨0, by unfold laws_FnExactHazardsOf.f laws_szTermS.f; rw [if_pos e]; simp⟩

end Go.Proofs.Ytpnbeonpicekhaa.Print
