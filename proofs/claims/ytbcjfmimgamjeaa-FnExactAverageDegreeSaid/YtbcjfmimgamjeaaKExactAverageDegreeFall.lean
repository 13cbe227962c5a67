/- Functions of the given program as plain Lean functions, with proofs that their calls compute them, or lemmas on these. Laid by a program of this repo for the seat Ytbcjfmimgamjeaa; Lean checks it. -/
import Derived.Test.YtbcjfmimgamjeaaKExactAverageDegree0
import Derived.Test.YtbcjfmimgamjeaaKExactAverageDegree1
import Derived.Test.YtbcjfmimgamjeaaKExactAverageDegree2
import Derived.Test.YtbcjfmimgamjeaaKExactAverageDegree3
import Derived.Test.YtbcjfmimgamjeaaKExactAverageDegree4
import Derived.Test.YtbcjfmimgamjeaaKExactAverageDegree6
import Derived.Test.YtbcjfmimgamjeaaKExactAverageDegree7
import Derived.Test.YtbcjfmimgamjeaaKExactAverageDegree10
import Derived.Test.YtbcjfmimgamjeaaKExactAverageDegree11
import Derived.Test.YtbcjfmimgamjeaaKExactAverageDegree12
import Derived.Test.YtbcjfmimgamjeaaKExactAverageDegree14
import Derived.Test.YtbcjfmimgamjeaaKExactAverageDegree16
import Derived.Test.YtbcjfmimgamjeaaKExactAverageDegree17
import Derived.Test.YtbcjfmimgamjeaaM0
import Derived.Test.YtbcjfmimgamjeaaM12
import Derived.Test.YtbcjfmimgamjeaaM1
import Derived.Test.YtbcjfmimgamjeaaM8
import Derived.Test.YtbcjfmimgamjeaaM5
namespace Go.Proofs.Ytbcjfmimgamjeaa.Print
open Go.RowKit Go.Proofs.YtbcjfmimgamjeaaW.PrintWords Go.Proofs.YtbcjfmimgamjeaaW.PrintLast Go.Proofs.YtbcjfmimgamjeaaW.PrintMore
attribute [local go_sem] max2_int min2_int max_two min_two max_three min_three max_four min_four   -- for this text's walks alone
set_option linter.unusedVariables false
set_option linter.unusedSimpArgs false

/-! ### facts on spec_l1In -/
theorem spec_l1In.ev (a b c : Int) : spec_l1In.f a b c = some (decide (b ≤ a ∧ a ≤ c)) := by
  unfold spec_l1In.f
  by_cases h : b ≤ a
  · rw [if_pos h]; simp [h]
  · rw [if_neg h]; simp [h]

/-! ### facts on spec_IsTable -/
--IMPORT M0
open Go.Proofs.Ytbcjfmimgamjeaa.M in
theorem spec_IsTable.ev (a b : Int) : spec_IsTable.f a b = some (isT a b) := by
  unfold spec_IsTable.f isT
  rw [spec_l1In.ev]
  by_cases h : 0 ≤ a ∧ a ≤ 5
  · obtain ⟨n, rfl⟩ := nat_of h.1
    have hn : n ≤ 5 := by omega
    simp only [Option.bind_some, h, and_self, decide_true, if_true]
    rw [full_word hn, spec_l1In.ev]
    simp only [Option.bind_some, Int.toNat_natCast, h, true_and]
    congr 1
    apply decide_eq_decide.mpr
    omega
  · have h' : ¬ (0 ≤ a ∧ a ≤ 5 ∧ 0 ≤ b ∧ b < ((2 ^ 2 ^ a.toNat : Nat) : Int)) := fun e => h ⟨e.1, e.2.1⟩
    simp only [h, h', decide_false, Option.bind_some, Bool.false_eq_true, if_false]

/-! ### facts on spec_l24Fine -/
--IMPORT M12
/-- a table of at most four variables, and a number of them -/
def spec_l24Fine.ok (a b k : Int) : Bool := Go.Proofs.Ytbcjfmimgamjeaa.M.isT a b && decide (a ≤ 4) && decide (0 ≤ k ∧ k ≤ a)
open Go.Proofs.Ytbcjfmimgamjeaa.M in
theorem spec_l24Fine.ev (a b k : Int) : spec_l24Fine.f a b k = some (spec_l24Fine.ok a b k) := by
  unfold spec_l24Fine.f spec_l24Fine.ok
  rw [spec_IsTable.ev, Option.bind_some]
  cases isT a b with
  | false => rfl
  | true =>
    rw [if_pos rfl, Bool.true_and]
    by_cases h : a ≤ 4
    · rw [if_pos h, decide_eq_true h, spec_l1In.ev]; rfl
    · rw [if_neg h, decide_eq_false h]; rfl
open Go.Proofs.Ytbcjfmimgamjeaa.M in
theorem spec_l24Fine.nat {a b k : Int} (h : spec_l24Fine.ok a b k = true) : ∃ n v kk : Nat, a = (n : Int) ∧ b = (v : Int) ∧ k = (kk : Int) ∧ n ≤ 4 ∧ v < 2 ^ 2 ^ n ∧ kk ≤ n := by
  unfold spec_l24Fine.ok at h
  rw [Bool.and_eq_true, Bool.and_eq_true] at h
  obtain ⟨n, v, rfl, rfl, hn, hv⟩ := isT_nat h.1.1
  have h1 := of_decide_eq_true h.1.2
  have h2 := of_decide_eq_true h.2
  exact ⟨n, v, k.toNat, rfl, rfl, by omega, by omega, hv, by omega⟩
open Go.Proofs.Ytbcjfmimgamjeaa.M in
theorem spec_l24Fine.mk {n v kk : Nat} (hn : n ≤ 4) (hv : v < 2 ^ 2 ^ n) (hk : kk ≤ n) : spec_l24Fine.ok (n : Int) (v : Int) (kk : Int) = true := by
  unfold spec_l24Fine.ok
  rw [isT_mk (by omega) hv, decide_eq_true (show (n : Int) ≤ 4 by omega), decide_eq_true (show 0 ≤ (kk : Int) ∧ (kk : Int) ≤ (n : Int) by omega)]; rfl

/-! ### facts on spec_l2Count -/
--IMPORT M1
open Go.Proofs.Ytbcjfmimgamjeaa.M in
theorem spec_l2Count.loop : ∀ (d w acc : Nat), w < 2 ^ d → d ≤ 62 → acc + d ≤ 1000 → Ev (fun k => spec_l2Count.l0 k acc w) ((acc + cnt w.testBit d : Nat) : Int)
  | 0, w, acc, hw, _, ha => by
    obtain rfl : w = 0 := by omega
    refine Ev.end (fun k => ?_)
    simp only [spec_l2Count.l0]
    rw [if_neg (by omega)]; rfl
  | d + 1, w, acc, hw, hd, ha => by
    by_cases h0 : w = 0
    · subst h0
      refine Ev.end (fun k => ?_)
      simp only [spec_l2Count.l0]
      rw [if_neg (by omega), cnt_zero]; rfl
    · have h := spec_l2Count.loop d (w / 2) (acc + w % 2) (by rw [Nat.pow_succ] at hw; omega) (by omega) (by omega)
      rw [show acc + w % 2 + cnt (w / 2).testBit d = acc + cnt w.testBit (d + 1) by rw [cnt_half]; omega] at h
      refine Ev.step (fun k => ?_) h
      have hp := p63 (n := d + 1) hd
      simp only [spec_l2Count.l0]
      rw [if_pos (by omega)]
      have e1 : Go.bits .and .i64 (w : Int) 1 = ((w % 2 : Nat) : Int) := by
        rw [← Nat.and_one_is_mod]; exact and_nat (b := 1) (by omega) (by decide)
      rw [e1, w64 (by omega) (by omega)]
      congr 1
open Go.Proofs.Ytbcjfmimgamjeaa.M in
theorem spec_l2Count.ev {w : Nat} (h : w < 2 ^ 32) : Ev (fun k => spec_l2Count.f k w) ((pc w : Nat) : Int) := by
  have := spec_l2Count.loop 32 w 0 h (by omega) (by omega)
  rw [Nat.zero_add] at this
  exact this

/-! ### facts on spec_l3Restrict -/
--IMPORT M0
open Go.Proofs.Ytbcjfmimgamjeaa.M in
theorem spec_l3Restrict.ins_ev : ∀ x : Nat, x < 16 → ∀ i : Nat, i < 5 → ∀ b : Nat, b < 2 → (spec_l3Insert.f (x : Int) (i : Int) (b : Int) = some ((ins x i b : Nat) : Int) ∧ ins x i b < 32) :=
  allB_dec3 (P := fun x i b => spec_l3Insert.f (x : Int) (i : Int) (b : Int) = some ((ins x i b : Nat) : Int) ∧ ins x i b < 32) (by decide +kernel)
open Go.Proofs.Ytbcjfmimgamjeaa.M in
theorem spec_l3Restrict.ev {n v i b : Nat} (h1 : 1 ≤ n) (hn : n ≤ 5) (hv : v < 2 ^ 63) (hi : i < n) (hb : b ≤ 1) : Ev (fun k => spec_l3Restrict.f k n v i b) (((n - 1 : Nat) : Int), ((rstW n v i b : Nat) : Int)) := by
  have h16 := half16 hn
  have en : wrap64 ((n : Int) - 1) = ((n - 1 : Nat) : Int) := by rw [w64 (by omega) (by omega)]; omega
  have key : ∀ d x, x + d = 2 ^ (n - 1) → Ev (fun k => spec_l3Restrict.l0 k i b ((prefW (fun x => v.testBit (ins x i b)) x : Nat) : Int) (x : Int) n v) (((n - 1 : Nat) : Int), ((rstW n v i b : Nat) : Int)) := by
    refine Ev.count (fun k x => spec_l3Restrict.l0 k i b ((prefW (fun x => v.testBit (ins x i b)) x : Nat) : Int) (x : Int) n v) (2 ^ (n - 1)) _ ?_ ?_
    · intro x hx h
      refine Ev.step (fun k => ?_) h
      obtain ⟨e1, e2⟩ := spec_l3Restrict.ins_ev x (by omega) i (by omega) b (by omega)
      simp only [spec_l3Restrict.l0]
      rw [en, if_pos (Int.natCast_nonneg _), shl_one (by omega), if_pos (by omega), e1, Option.bind_some, if_pos (Int.natCast_nonneg _), if_pos (Int.natCast_nonneg _), bit_nat hv (by omega), prefW_step (g := fun x => v.testBit (ins x i b)) (by omega), w64 (by omega) (by omega)]
      rfl
    · refine Ev.end (fun k => ?_)
      simp only [spec_l3Restrict.l0]
      rw [en, if_pos (Int.natCast_nonneg _), shl_one (by omega), if_neg (by omega)]; rfl
  exact key (2 ^ (n - 1)) 0 (by omega)

/-! ### facts on spec_RealCoefficients -/
--IMPORT M8
open Go.Proofs.Ytbcjfmimgamjeaa.M in
/-- what an input adds to a coefficient -/
def spec_RealCoefficients.T (v m x : Nat) : Int := if x &&& m = x then (if pc (m ^^^ x) % 2 = 1 then -(((v.testBit x).toNat : Nat) : Int) else (((v.testBit x).toNat : Nat) : Int)) else 0
open Go.Proofs.Ytbcjfmimgamjeaa.M in
theorem spec_RealCoefficients.T_bound (v m x : Nat) : -1 ≤ spec_RealCoefficients.T v m x ∧ spec_RealCoefficients.T v m x ≤ 1 := by
  have := toNat_le (v.testBit x)
  unfold spec_RealCoefficients.T; split
  · split <;> omega
  · omega
open Go.Proofs.Ytbcjfmimgamjeaa.M in
/-- a coefficient -/
def spec_RealCoefficients.C (v m : Nat) : Int := sumZ (spec_RealCoefficients.T v m) (m + 1)
open Go.Proofs.Ytbcjfmimgamjeaa.M in
theorem spec_RealCoefficients.stop (v m : Nat) : ∀ d, sumZ (spec_RealCoefficients.T v m) (m + 1 + d) = spec_RealCoefficients.C v m
  | 0 => rfl
  | d + 1 => by
    have e : spec_RealCoefficients.T v m (m + 1 + d) = 0 := by
      unfold spec_RealCoefficients.T
      rw [if_neg]
      intro h
      have : (m + 1 + d) &&& m ≤ m := Nat.and_le_right
      omega
    rw [← Nat.add_assoc, sumZ, spec_RealCoefficients.stop v m d, e, Int.add_zero]
open Go.Proofs.Ytbcjfmimgamjeaa.M in
theorem spec_RealCoefficients.full {n v m : Nat} (hm : m < 2 ^ n) : sumZ (spec_RealCoefficients.T v m) (2 ^ n) = spec_RealCoefficients.C v m := by
  have := spec_RealCoefficients.stop v m (2 ^ n - (m + 1))
  rw [show m + 1 + (2 ^ n - (m + 1)) = 2 ^ n by omega] at this
  exact this
open Go.Proofs.Ytbcjfmimgamjeaa.M in
theorem spec_RealCoefficients.tm (p : Nat) : Int.tmod ((p : Nat) : Int) 2 = ((p % 2 : Nat) : Int) := by
  rw [Int.tmod_eq_emod_of_nonneg (Int.natCast_nonneg p)]; omega
open Go.Proofs.Ytbcjfmimgamjeaa.M in
theorem spec_RealCoefficients.ev {n v : Nat} (hn : n ≤ 5) (hv : v < 2 ^ 2 ^ n) : Ev (fun k => spec_RealCoefficients.f k n v) (listZ (2 ^ n) (spec_RealCoefficients.C v)) := by
  have h5 := pow_le_5 hn
  have hvb : v < 2 ^ 63 := Nat.lt_trans hv (full_p63 hn)
  have hT : spec_IsTable.f (n : Int) (v : Int) = some true := by rw [spec_IsTable.ev, isT_mk hn hv]
  clear hv
  generalize hR : listZ (2 ^ n) (spec_RealCoefficients.C v) = R
  have row : ∀ m, m < 2 ^ n → Ev (fun k => spec_RealCoefficients.l0 k (listZ (m + 1) (spec_RealCoefficients.C v)) ((m + 1 : Nat) : Int) n v) R → Ev (fun k => spec_RealCoefficients.l0 k (listZ m (spec_RealCoefficients.C v)) (m : Int) n v) R := by
    intro m hm hnext
    have inner := Ev.count (fun k x => spec_RealCoefficients.l1 k (listZ m (spec_RealCoefficients.C v)) (m : Int) (sumZ (spec_RealCoefficients.T v m) x) (x : Int) n v) (m + 1) R (fun x hx h => by
      have hb := sumZ_bound (spec_RealCoefficients.T_bound v m) x
      have htb := toNat_le (v.testBit x)
      have e1 : wrap64 ((x : Int) + 1) = ((x + 1 : Nat) : Int) := up1 (by omega)
      have ea : Go.bits .and .i64 (x : Int) (m : Int) = ((x &&& m : Nat) : Int) := and_nat (by omega) (by omega)
      have ex : Go.bits .xor .i64 (m : Int) (x : Int) = ((m ^^^ x : Nat) : Int) := xor_nat (by omega) (by omega)
      have eb : Go.bits .and .i64 (shr .i64 (v : Int) (x : Int)) 1 = (((v.testBit x).toNat : Nat) : Int) := bit_nat hvb (by omega)
      by_cases hq : x &&& m = x
      · have hc := spec_l2Count.ev (w := m ^^^ x) (Nat.xor_lt_two_pow (n := 32) (by omega) (by omega))
        have es : sumZ (spec_RealCoefficients.T v m) (x + 1) = sumZ (spec_RealCoefficients.T v m) x + (if pc (m ^^^ x) % 2 = 1 then -(((v.testBit x).toNat : Nat) : Int) else (((v.testBit x).toNat : Nat) : Int)) := by rw [sumZ]; congr 1; unfold spec_RealCoefficients.T; rw [if_pos hq]
        rw [es] at h
        have htm := spec_RealCoefficients.tm (pc (m ^^^ x))
        generalize pc (m ^^^ x) = p at hc h htm
        generalize ((v.testBit x).toNat) = b at h htb eb
        generalize sumZ (spec_RealCoefficients.T v m) x = s at h hb
        have hw1 : wrap64 (s - (b : Int)) = s - (b : Int) := w64 (by omega) (by omega)
        have hw2 : wrap64 (s + (b : Int)) = s + (b : Int) := w64 (by omega) (by omega)
        refine Ev.step (f := fun k => (spec_l2Count.f k ((m ^^^ x : Nat) : Int)).bind fun t => if (Int.tmod t 2) = 1 then spec_RealCoefficients.l1 k (listZ m (spec_RealCoefficients.C v)) (m : Int) (s - (b : Int)) ((x + 1 : Nat) : Int) n v else spec_RealCoefficients.l1 k (listZ m (spec_RealCoefficients.C v)) (m : Int) (s + (b : Int)) ((x + 1 : Nat) : Int) n v) (fun k => ?_) (Ev.bind hc ?_)
        · simp only [spec_RealCoefficients.l1]
          rw [if_pos (by omega), ea, if_pos (by omega), ex, eb, hw1, hw2, e1]
          simp only [if_pos (Int.natCast_nonneg x)]
        · by_cases hp : p % 2 = 1
          · rw [if_pos hp] at h
            exact Ev.congr (fun k => if_pos (by rw [htm]; omega)) h
          · rw [if_neg hp] at h
            exact Ev.congr (fun k => if_neg (by rw [htm]; omega)) h
      · have es : sumZ (spec_RealCoefficients.T v m) (x + 1) = sumZ (spec_RealCoefficients.T v m) x := by rw [sumZ]; unfold spec_RealCoefficients.T; rw [if_neg hq, Int.add_zero]
        rw [es] at h
        refine Ev.step (fun k => ?_) h
        simp only [spec_RealCoefficients.l1]
        rw [if_pos (by omega), ea, if_neg (by omega), e1]) (Ev.step (fun k => by
      simp only [spec_RealCoefficients.l1]
      rw [if_neg (by omega), if_pos (by rw [listZ_length]; omega), up1 (by omega)]
      rw [show sumZ (spec_RealCoefficients.T v m) (m + 1) = spec_RealCoefficients.C v m from rfl, listZ_snoc]) hnext) (m + 1) 0 (by omega)
    refine Ev.step (f := fun k => spec_RealCoefficients.j1 k (listZ m (spec_RealCoefficients.C v)) (m : Int) true n v) (fun k => ?_) (Ev.step (fun k => ?_) inner)
    · simp only [spec_RealCoefficients.l0]
      rw [hT, Option.bind_some, if_pos rfl, if_pos (Int.natCast_nonneg n), shl_one (by omega), decide_eq_true (by omega)]
    · simp only [spec_RealCoefficients.j1]
      rw [if_pos trivial]; rfl
  exact Ev.count (fun k m => spec_RealCoefficients.l0 k (listZ m (spec_RealCoefficients.C v)) (m : Int) n v) (2 ^ n) R row (Ev.step (f := fun k => spec_RealCoefficients.j1 k (listZ (2 ^ n) (spec_RealCoefficients.C v)) ((2 ^ n : Nat) : Int) false n v) (fun k => by
    simp only [spec_RealCoefficients.l0]
    rw [hT, Option.bind_some, if_pos rfl, if_pos (Int.natCast_nonneg n), shl_one (by omega), decide_eq_false (by omega)]) (Ev.end (fun k => by
    simp only [spec_RealCoefficients.j1]
    rw [if_neg (by decide), hR]))) (2 ^ n) 0 (by omega)

/-! ### facts on spec_RealDegree -/
--IMPORT M12
--IMPORT M8
open Go.Proofs.Ytbcjfmimgamjeaa.M in
/-- is a coefficient not 0 -/
def spec_RealDegree.p (n v : Nat) (m : Nat) : Bool := (listZ (2 ^ n) (spec_RealCoefficients.C v)).getD m 0 != 0
open Go.Proofs.Ytbcjfmimgamjeaa.M in
/-- the degree -/
def spec_RealDegree.deg (n v : Nat) : Int := impl_degree.most (spec_RealDegree.p n v) (2 ^ n)
open Go.Proofs.Ytbcjfmimgamjeaa.M in
theorem spec_RealDegree.ev {n v : Nat} (hn : n ≤ 5) (hv : v < 2 ^ 2 ^ n) : Ev (fun k => spec_RealDegree.f k n v) (spec_RealDegree.deg n v) := by
  have h5 := pow_le_5 hn
  have hT : spec_IsTable.f (n : Int) (v : Int) = some true := by rw [spec_IsTable.ev, isT_mk hn hv]
  have hc := spec_RealCoefficients.ev hn hv
  refine Ev.congr (f := fun k => (spec_RealCoefficients.f k n v).bind fun t => spec_RealDegree.l0 k t (-1) 0) (fun k => by unfold spec_RealDegree.f; rw [hT, Option.bind_some, if_pos rfl]) (Ev.bind hc ?_)
  clear hv hc hT
  unfold spec_RealDegree.deg
  have hp : ∀ i, spec_RealDegree.p n v i = ((listZ (2 ^ n) (spec_RealCoefficients.C v)).getD i 0 != 0) := fun i => rfl
  have hl : (listZ (2 ^ n) (spec_RealCoefficients.C v)).length = 2 ^ n := listZ_length _ _
  generalize listZ (2 ^ n) (spec_RealCoefficients.C v) = c at *
  generalize spec_RealDegree.p n v = p at *
  exact Ev.count (fun k i => spec_RealDegree.l0 k c (impl_degree.most p i) (i : Int)) (2 ^ n) _ (fun i hi h => by
    have e1 : wrap64 ((i : Int) + 1) = ((i + 1 : Nat) : Int) := up1 (by omega)
    have hx : rd c (i : Int) = c.getD i 0 := rd_nat c i
    have hpi := hp i
    rw [impl_degree.most] at h
    by_cases hz : c.getD i 0 = 0
    · have : p i = false := by rw [hpi, hz]; rfl
      rw [this, if_neg (by decide)] at h
      refine Ev.step (fun k => ?_) h
      simp only [spec_RealDegree.l0]
      rw [if_pos (by omega), if_pos (Int.natCast_nonneg i), hx, if_pos hz, e1]
    · have : p i = true := by rw [hpi]; exact bne_iff_ne.mpr hz
      rw [this, if_pos rfl] at h
      have hcnt := spec_l2Count.ev (w := i) (by omega)
      refine Ev.step (f := fun k => (spec_l2Count.f k (i : Int)).bind fun t => spec_RealDegree.l0 k c (mx (impl_degree.most p i) t) ((i + 1 : Nat) : Int)) (fun k => ?_) (Ev.bind hcnt h)
      simp only [spec_RealDegree.l0]
      rw [if_pos (by omega), if_pos (Int.natCast_nonneg i), hx, if_neg hz, e1]) (Ev.end (fun k => by
    simp only [spec_RealDegree.l0]
    rw [if_neg (by omega)])) (2 ^ n) 0 (by omega)

/-! ### facts on spec_AverageDegree -/
--IMPORT M12
--IMPORT M8
open Go.Proofs.Ytbcjfmimgamjeaa.M in
/-- the degree of a word, 0 for constants -/
def spec_AverageDegree.H (k x : Nat) : Int := mx (spec_RealDegree.deg k x) 0
open Go.Proofs.Ytbcjfmimgamjeaa.M in
def spec_AverageDegree.S (k : Nat) (l : List Nat) : Int := l.foldl (fun s x => wrap64 (s + spec_AverageDegree.H k x)) 0
open Go.Proofs.Ytbcjfmimgamjeaa.M in
theorem spec_AverageDegree.S_snoc (k : Nat) (l : List Nat) (x : Nat) : spec_AverageDegree.S k (l ++ [x]) = wrap64 (spec_AverageDegree.S k l + mx 0 (spec_RealDegree.deg k x)) := by
  unfold spec_AverageDegree.S
  rw [List.foldl_append]
  show wrap64 (_ + spec_AverageDegree.H k x) = _
  have : spec_AverageDegree.H k x = mx 0 (spec_RealDegree.deg k x) := by
    unfold spec_AverageDegree.H mx
    split <;> split <;> omega
  rw [this]
open Go.Proofs.Ytbcjfmimgamjeaa.M in
/-- the answer -/
def spec_AverageDegree.r (a b k : Int) : Int := if spec_l24Fine.ok a b k = true then spec_AverageDegree.S k.toNat (cutAll a.toNat b.toNat k.toNat (2 ^ a.toNat)) else -1
open Go.Proofs.Ytbcjfmimgamjeaa.M in
/-- the table is cut, and its degree added -/
theorem spec_AverageDegree.cut {n v m u kk : Nat} (hn : n ≤ 4) (hv : v < 2 ^ 2 ^ n) (hm : m < 2 ^ n) (hk : pc m + kk = n) (hu : u ≤ m) (s R : Int) (h : Ev (fun q => spec_AverageDegree.l1 q (kk : Int) (wrap64 (s + mx 0 (spec_RealDegree.deg kk (cutS n v m u n).2))) (m : Int) ((u + 1 : Nat) : Int) n v) R) :
    Ev (fun q => spec_AverageDegree.l2 q (kk : Int) s (m : Int) (u : Int) ((n : Int) - 1) n v n v) R := by
  have h16 := pow16 hn
  have hw := cut_word (u := u) hn hv hm hk
  have hkk : kk ≤ 5 := by omega
  have hd := spec_RealDegree.ev (n := kk) (v := (cutS n v m u n).2) hkk hw.2
  have hok := fun d (hd : d ≤ n) => cut_ok (m := m) (u := u) hn hv d hd
  have h63 : ∀ d, d ≤ n → (cutS n v m u d).2 < 2 ^ 63 := fun d hd => Nat.lt_trans (hok d hd).2.2 (full_p63 (by have := (hok d hd).2.1; omega))
  have hb1 : ∀ d, d ≤ n → n - d ≤ (cutS n v m u d).1 := fun d hd => (hok d hd).1
  have hb2 : ∀ d, d ≤ n → (cutS n v m u d).1 ≤ n := fun d hd => (hok d hd).2.1
  have e0 : (cutS n v m u n).1 = kk := hw.1
  clear hok hw hv
  have key := Ev.count (fun q d => spec_AverageDegree.l2 q (kk : Int) s (m : Int) (u : Int) ((n : Int) - 1 - (d : Int)) n v ((cutS n v m u d).1 : Int) ((cutS n v m u d).2 : Int)) n R (fun d hd' hn' => by
    have a1 := hb1 d (by omega)
    have a2 := hb2 d (by omega)
    have a3 := h63 d (by omega)
    obtain ⟨i, hi⟩ : ∃ i, i = n - 1 - d := ⟨_, rfl⟩
    have ei : (n : Int) - 1 - (d : Int) = (i : Int) := by omega
    have ei2 : (n : Int) - 1 - ((d + 1 : Nat) : Int) = (i : Int) - 1 := by omega
    have ew : wrap64 ((i : Int) - 1) = (i : Int) - 1 := w64 (by omega) (by omega)
    have ebm : Go.bits .and .i64 (shr .i64 (m : Int) (i : Int)) 1 = (((m.testBit i).toNat : Nat) : Int) := bit_nat (by omega) (by omega)
    have ebu : Go.bits .and .i64 (shr .i64 (u : Int) (i : Int)) 1 = (((u.testBit i).toNat : Nat) : Int) := bit_nat (by omega) (by omega)
    rw [ei2] at hn'
    rw [ei]
    cases hb : m.testBit i with
    | true =>
      have ec : cutS n v m u (d + 1) = ((cutS n v m u d).1 - 1, rstW (cutS n v m u d).1 (cutS n v m u d).2 i (u.testBit i).toNat) := by rw [cutS, ← hi, if_pos hb]
      rw [ec] at hn'
      generalize cutS n v m u d = cd at *
      obtain ⟨b, w⟩ := cd
      simp only [] at a1 a2 a3 hn' ⊢
      have hr := spec_l3Restrict.ev (n := b) (v := w) (i := i) (b := (u.testBit i).toNat) (by omega) (by omega) a3 (by omega) (toNat_le _)
      refine Ev.step (f := fun q => (spec_l3Restrict.f q (b : Int) (w : Int) (i : Int) (((u.testBit i).toNat : Nat) : Int)).bind fun t => spec_AverageDegree.l2 q (kk : Int) s (m : Int) (u : Int) ((i : Int) - 1) n v t.1 t.2) (fun q => ?_) (Ev.bind hr hn')
      simp only [spec_AverageDegree.l2]
      rw [if_pos (show (i : Int) ≥ 0 by omega), if_pos (Int.natCast_nonneg i), ebm, hb, if_pos (by decide), ebu, ew]
    | false =>
      have ec : cutS n v m u (d + 1) = cutS n v m u d := by rw [cutS, ← hi, if_neg (by rw [hb]; decide)]
      rw [ec] at hn'
      refine Ev.step (fun q => ?_) hn'
      simp only [spec_AverageDegree.l2]
      rw [if_pos (show (i : Int) ≥ 0 by omega), if_pos (Int.natCast_nonneg i), ebm, hb, if_neg (by decide), ew]) (by
    rw [e0]
    refine Ev.step (f := fun q => (spec_RealDegree.f q (kk : Int) ((cutS n v m u n).2 : Int)).bind fun t => spec_AverageDegree.l1 q (kk : Int) (wrap64 (s + mx 0 t)) (m : Int) ((u + 1 : Nat) : Int) n v) (fun q => ?_) (Ev.bind hd h)
    simp only [spec_AverageDegree.l2]
    rw [if_neg (by omega), up1 (by omega)]) n 0 (by omega)
  have e1 : (n : Int) - 1 - ((0 : Nat) : Int) = (n : Int) - 1 := by omega
  rw [e1] at key
  exact key
open Go.Proofs.Ytbcjfmimgamjeaa.M in
theorem spec_AverageDegree.ev (a b k : Int) : Ev (fun q => spec_AverageDegree.f q a b k) (spec_AverageDegree.r a b k) := by
  unfold spec_AverageDegree.r
  refine Ev.congr (f := fun q => if spec_l24Fine.ok a b k = true then spec_AverageDegree.l0 q k 0 0 a b else some (-1)) (fun q => by unfold spec_AverageDegree.f; rw [spec_l24Fine.ev]; rfl) ?_
  cases hok : spec_l24Fine.ok a b k with
  | false => exact Ev.now _
  | true =>
    obtain ⟨n, v, kk, rfl, rfl, rfl, hn, hv, hk⟩ := spec_l24Fine.nat hok
    simp only [if_true, Int.toNat_natCast]
    have h16 := pow16 hn
    generalize hR : spec_AverageDegree.S kk (cutAll n v kk (2 ^ n)) = R
    have HV := Aside0.mk hv
    clear hv
    have ewn : wrap64 ((n : Int) - 1) = (n : Int) - 1 := w64 (by omega) (by omega)
    have row : ∀ m, m < 2 ^ n → Ev (fun q => spec_AverageDegree.l0 q (kk : Int) (spec_AverageDegree.S kk (cutAll n v kk (m + 1))) ((m + 1 : Nat) : Int) n v) R → Ev (fun q => spec_AverageDegree.l0 q (kk : Int) (spec_AverageDegree.S kk (cutAll n v kk m)) (m : Int) n v) R := by
      intro m hm hnext
      have hpn : pc m ≤ n := by have := left_all n (by omega) m (by omega) hm; omega
      have hcount := spec_l2Count.ev (w := m) (by omega)
      have ew : wrap64 ((n : Int) - ((pc m : Nat) : Int)) = (n : Int) - ((pc m : Nat) : Int) := w64 (by omega) (by omega)
      by_cases hpk : pc m + kk = n
      · rw [cutAll, if_pos hpk, cutRow_full hm] at hnext
        have inner := Ev.count (fun q u => spec_AverageDegree.l1 q (kk : Int) (spec_AverageDegree.S kk (cutAll n v kk m ++ cutRow n v m u)) (m : Int) (u : Int) n v) (m + 1) R (fun u hu hn' => by
          have ea : Go.bits .and .i64 (u : Int) (m : Int) = ((u &&& m : Nat) : Int) := and_nat (by omega) (by omega)
          by_cases hz : andn u m = 0
          · have hum : u &&& m = u := subset_iff.mpr hz
            rw [cutRow, if_pos hz, ← List.append_assoc, spec_AverageDegree.S_snoc] at hn'
            generalize spec_AverageDegree.S kk (cutAll n v kk m ++ cutRow n v m u) = s at hn' ⊢
            have hcut := spec_AverageDegree.cut hn HV.out hm hpk (by omega) s R hn'
            refine Ev.step (f := fun q => (spec_l2Count.f q (m : Int)).bind fun t => if (wrap64 ((n : Int) - t)) = (kk : Int) then spec_AverageDegree.j2 q (kk : Int) s (m : Int) (u : Int) false n v else spec_AverageDegree.j2 q (kk : Int) s (m : Int) (u : Int) true n v) (fun q => ?_) (Ev.bind hcount (Ev.congr (fun q => if_pos (by rw [ew]; omega)) (Ev.step (fun q => ?_) hcut)))
            · simp only [spec_AverageDegree.l1]
              rw [if_pos (by omega), ea, hum, bne_self_eq_false]
            · simp only [spec_AverageDegree.j2]
              rw [if_neg (by decide), ewn]
          · rw [cutRow, if_neg hz] at hn'
            have hum : ¬ u &&& m = u := fun e => hz (subset_iff.mp e)
            generalize spec_AverageDegree.S kk (cutAll n v kk m ++ cutRow n v m u) = s at hn' ⊢
            refine Ev.step (f := fun q => (spec_l2Count.f q (m : Int)).bind fun t => spec_AverageDegree.j2 q (kk : Int) s (m : Int) (u : Int) true n v) (fun q => ?_) (Ev.bind hcount (Ev.step (fun q => ?_) hn'))
            · simp only [spec_AverageDegree.l1]
              have hbn : (((u &&& m : Nat) : Int) != (u : Int)) = true := bne_iff_ne.mpr (by omega)
              rw [if_pos (by omega), ea, hbn]
              simp only [ite_self]
            · simp only [spec_AverageDegree.j2]
              rw [if_pos trivial, up1 (by omega)]) (Ev.step (fun q => by
          simp only [spec_AverageDegree.l1]
          rw [if_neg (by omega), up1 (by omega)]) hnext) (m + 1) 0 (by omega)
        refine Ev.step (fun q => ?_) inner
        simp only [spec_AverageDegree.l0]
        rw [if_pos (Int.natCast_nonneg n), shl_one (by omega), if_pos (by omega), show cutRow n v m 0 = [] from rfl, List.append_nil]; rfl
      · rw [cutAll, if_neg hpk] at hnext
        generalize spec_AverageDegree.S kk (cutAll n v kk m) = s at hnext ⊢
        have inner := Ev.count (fun q u => spec_AverageDegree.l1 q (kk : Int) s (m : Int) (u : Int) n v) (m + 1) R (fun u hu hn' => by
          refine Ev.step (f := fun q => (spec_l2Count.f q (m : Int)).bind fun t => if (wrap64 ((n : Int) - t)) = (kk : Int) then spec_AverageDegree.j2 q (kk : Int) s (m : Int) (u : Int) ((Go.bits .and .i64 (u : Int) (m : Int)) != (u : Int)) n v else spec_AverageDegree.j2 q (kk : Int) s (m : Int) (u : Int) true n v) (fun q => ?_) (Ev.bind hcount (Ev.congr (fun q => if_neg (by rw [ew]; omega)) (Ev.step (fun q => ?_) hn')))
          · simp only [spec_AverageDegree.l1]
            rw [if_pos (by omega)]
          · simp only [spec_AverageDegree.j2]
            rw [if_pos trivial, up1 (by omega)]) (Ev.step (fun q => by
          simp only [spec_AverageDegree.l1]
          rw [if_neg (by omega), up1 (by omega)]) hnext) (m + 1) 0 (by omega)
        refine Ev.step (fun q => ?_) inner
        simp only [spec_AverageDegree.l0]
        rw [if_pos (Int.natCast_nonneg n), shl_one (by omega), if_pos (by omega)]; rfl
    exact Ev.count (fun q m => spec_AverageDegree.l0 q (kk : Int) (spec_AverageDegree.S kk (cutAll n v kk m)) (m : Int) n v) (2 ^ n) R row (Ev.end (fun q => by
      simp only [spec_AverageDegree.l0]
      rw [if_pos (Int.natCast_nonneg n), shl_one (by omega), if_neg (by omega), hR])) (2 ^ n) 0 (by omega)

/-! ### facts on impl_isBits -/
theorem impl_isBits.ev (a : Int) : impl_isBits.f a = some (decide (0 ≤ a ∧ a ≤ 5)) := by
  unfold impl_isBits.f
  by_cases h : 0 ≤ a
  · rw [if_pos h]; simp [h]
  · rw [if_neg h]; simp [h]

/-! ### facts on impl_IsTable -/
--IMPORT M0
open Go.Proofs.Ytbcjfmimgamjeaa.M in
theorem impl_IsTable.ev (a b : Int) : impl_IsTable.f a b = some (isT a b) := by
  unfold impl_IsTable.f isT
  rw [impl_isBits.ev]
  by_cases h : 0 ≤ a ∧ a ≤ 5
  · obtain ⟨n, rfl⟩ := nat_of h.1
    have hn : n ≤ 5 := by omega
    simp only [Option.bind_some, h, and_self, decide_true, if_true]
    by_cases hb : b ≥ 0
    · obtain ⟨v, rfl⟩ := nat_of hb
      have h5 := pow_le_5 hn
      rw [if_pos hb]
      unfold impl_Table_size.f
      rw [if_pos (Int.natCast_nonneg n), shl_one (by omega)]
      simp only [Option.bind_some]
      rw [if_pos (Int.natCast_nonneg _), shr_nat (by omega)]
      congr 1
      rw [Bool.eq_iff_iff]
      simp only [beq_iff_eq, decide_eq_true_eq, Int.toNat_natCast]
      have hz : v / 2 ^ 2 ^ n = 0 ↔ v < 2 ^ 2 ^ n := Nat.div_eq_zero_iff_lt (Nat.two_pow_pos _)
      rw [show (((v / 2 ^ 2 ^ n : Nat) : Int) = 0 ↔ v / 2 ^ 2 ^ n = 0) from by omega, hz]
      obtain ⟨P, hP⟩ : ∃ P, P = 2 ^ 2 ^ n := ⟨_, rfl⟩
      rw [← hP]
      simp only [h, true_and]
      omega
    · rw [if_neg hb]
      congr 1
      symm
      apply decide_eq_false
      omega
  · have h' : ¬ (0 ≤ a ∧ a ≤ 5 ∧ 0 ≤ b ∧ b < ((2 ^ 2 ^ a.toNat : Nat) : Int)) := fun e => h ⟨e.1, e.2.1⟩
    simp only [h, h', decide_false, Option.bind_some, Bool.false_eq_true, if_false]

/-! ### facts on impl_isSmall -/
--IMPORT M5
open Go.Proofs.Ytbcjfmimgamjeaa.M in
theorem impl_isSmall.ev (a b m : Int) : impl_isSmall.f a b m = some (isT a b && decide (a ≤ m)) := by
  unfold impl_isSmall.f
  rw [impl_IsTable.ev, Option.bind_some]
  cases isT a b <;> simp

/-! ### facts on impl_ones -/
--IMPORT M1
open Go.Proofs.Ytbcjfmimgamjeaa.M in
theorem bits_OnesCount64.ev {w : Nat} (h : w < 2 ^ 32) : bits_OnesCount64.f w = some ((pc w : Nat) : Int) := by
  unfold bits_OnesCount64.f
  rw [sA_eq h, sB_eq (sA_lt h), sC_eq (sB_lt (sA_lt h))]
  exact congrArg some (swar_end h rfl _ rfl)
open Go.Proofs.Ytbcjfmimgamjeaa.M in
theorem impl_ones.ev {w : Nat} (h : w < 2 ^ 32) : impl_ones.f w = some ((pc w : Nat) : Int) := by
  unfold impl_ones.f
  rw [u64n (by omega), bits_OnesCount64.ev h]; rfl

/-! ### facts on impl_Table_restrict -/
--IMPORT M0
open Go.Proofs.Ytbcjfmimgamjeaa.M in
theorem impl_Table_restrict.ev {n v i b : Nat} (h1 : 1 ≤ n) (hn : n ≤ 5) (hv : v < 2 ^ 32) (hi : i < n) (hb : b ≤ 1) : impl_Table_restrict.f n v i b = some (((n - 1 : Nat) : Int), ((rstW n v i b : Nat) : Int)) := by
  unfold impl_Table_restrict.f
  rw [if_pos ⟨by omega, by omega, by omega, by omega, by omega, by omega, by omega, by omega⟩]
  simp only [Int.toNat_natCast]
  rw [show ((n : Int) - 1) = ((n - 1 : Nat) : Int) by omega]; rfl

/-! ### facts on impl_Table_coefficients -/
--IMPORT M8
open Go.Proofs.Ytbcjfmimgamjeaa.M in
theorem impl_Table_coefficients.ev {n v : Nat} (hn : n ≤ 5) (hv : v < 2 ^ 2 ^ n) : Ev (fun k => impl_Table_coefficients.f k n v) (listZ (2 ^ n) (spec_RealCoefficients.C v)) := by
  have h5 := pow_le_5 hn
  have hvb : v < 2 ^ 63 := Nat.lt_trans hv (full_p63 hn)
  have hsz : impl_Table_size.f (n : Int) (v : Int) = some ((2 ^ n : Nat) : Int) := by
    unfold impl_Table_size.f
    rw [if_pos (Int.natCast_nonneg n), shl_one (by omega)]
  clear hv
  have inner : ∀ m, m < 2 ^ n → ∀ (r : List Int), Ev (fun k => impl_Table_coefficients.l0 k (listZ (2 ^ n) (fun j => if j < m + 1 then spec_RealCoefficients.C v j else 0)) ((2 ^ n : Nat) : Int) ((m + 1 : Nat) : Int) n v) r →
      ∀ d x, x + d = 2 ^ n → Ev (fun k => impl_Table_coefficients.l1 k (listZ (2 ^ n) (fun j => if j < m then spec_RealCoefficients.C v j else if j = m then sumZ (spec_RealCoefficients.T v m) x else 0)) (m : Int) ((2 ^ n : Nat) : Int) (m : Int) ((2 ^ n : Nat) : Int) (x : Int) n v) r := by
    intro m hm r he
    refine Ev.count (fun k x => impl_Table_coefficients.l1 k (listZ (2 ^ n) (fun j => if j < m then spec_RealCoefficients.C v j else if j = m then sumZ (spec_RealCoefficients.T v m) x else 0)) (m : Int) ((2 ^ n : Nat) : Int) (m : Int) ((2 ^ n : Nat) : Int) (x : Int) n v) (2 ^ n) r ?_ ?_
    · intro x hx h
      have hb := sumZ_bound (spec_RealCoefficients.T_bound v m) x
      have htb := toNat_le (v.testBit x)
      have e1 : wrap64 ((x : Int) + 1) = ((x + 1 : Nat) : Int) := up1 (by omega)
      have ea : Go.bits .andNot .i64 (x : Int) (m : Int) = ((andn x m : Nat) : Int) := andNot_nat (by omega) (by omega)
      have ex : Go.bits .xor .i64 (m : Int) (x : Int) = ((m ^^^ x : Nat) : Int) := xor_nat (by omega) (by omega)
      have eb : Go.bits .and .i64 (shr .i64 (v : Int) (x : Int)) 1 = (((v.testBit x).toNat : Nat) : Int) := bit_nat hvb (by omega)
      refine Ev.step (fun k => ?_) h
      simp only [impl_Table_coefficients.l1]
      unfold impl_Table_at.f
      rw [if_pos (by omega), ea]
      by_cases hq : x &&& m = x
      · have hq0 : andn x m = 0 := subset_iff.mp hq
        have hc := impl_ones.ev (w := m ^^^ x) (Nat.xor_lt_two_pow (n := 32) (by omega) (by omega))
        have htm := spec_RealCoefficients.tm (pc (m ^^^ x))
        rw [if_pos (by omega), ex, hc, Option.bind_some, htm, e1, eb]
        have hset : ∀ y : Int, y = spec_RealCoefficients.T v m x → (listZ (2 ^ n) (fun j => if j < m then spec_RealCoefficients.C v j else if j = m then sumZ (spec_RealCoefficients.T v m) x else 0)).set m (wrap64 (sumZ (spec_RealCoefficients.T v m) x + y)) = listZ (2 ^ n) (fun j => if j < m then spec_RealCoefficients.C v j else if j = m then sumZ (spec_RealCoefficients.T v m) (x + 1) else 0) := by
          intro y hy
          refine listZ_set hm ?_ (fun j hj hne => ?_)
          · have hTb := spec_RealCoefficients.T_bound v m x
            rw [if_neg (by omega), if_pos rfl, w64 (by omega) (by omega), hy]; rfl
          · by_cases h1 : j < m
            · rw [if_pos h1, if_pos h1]
            · rw [if_neg h1, if_neg h1, if_neg hne, if_neg hne]
        by_cases hp : pc (m ^^^ x) % 2 = 1
        · rw [if_neg (by omega), if_pos (by omega), if_pos (by rw [listZ_length]; omega), if_pos (Int.natCast_nonneg x), Option.bind_some, listZ_rd hm, if_neg (by omega), if_pos rfl, Int.toNat_natCast, Int.sub_eq_add_neg,
            hset (-(((v.testBit x).toNat : Nat) : Int)) (by unfold spec_RealCoefficients.T; rw [if_pos hq, if_pos hp])]
        · rw [if_pos (by omega), if_pos (by omega), if_pos (by rw [listZ_length]; omega), if_pos (Int.natCast_nonneg x), Option.bind_some, listZ_rd hm, if_neg (by omega), if_pos rfl, Int.toNat_natCast,
            hset ((((v.testBit x).toNat : Nat) : Int)) (by unfold spec_RealCoefficients.T; rw [if_pos hq, if_neg hp])]
      · have hq0 : ¬ andn x m = 0 := fun e => hq (subset_iff.mpr e)
        rw [if_neg (by omega), e1]
        have es : sumZ (spec_RealCoefficients.T v m) (x + 1) = sumZ (spec_RealCoefficients.T v m) x := by rw [sumZ]; unfold spec_RealCoefficients.T; rw [if_neg hq, Int.add_zero]
        rw [es]
    · refine Ev.step (fun k => ?_) he
      simp only [impl_Table_coefficients.l1]
      rw [if_neg (by omega), up1 (by omega)]
      rw [listZ_congr (f' := fun j => if j < m + 1 then spec_RealCoefficients.C v j else 0) (fun j hj => by
        by_cases h1 : j < m
        · rw [if_pos h1, if_pos (by omega)]
        · rw [if_neg h1]
          by_cases h2 : j = m
          · rw [if_pos h2, if_pos (by omega), h2, spec_RealCoefficients.full hm]
          · rw [if_neg h2, if_neg (by omega)])]
  have key : ∀ d m, m + d = 2 ^ n → Ev (fun k => impl_Table_coefficients.l0 k (listZ (2 ^ n) (fun j => if j < m then spec_RealCoefficients.C v j else 0)) ((2 ^ n : Nat) : Int) (m : Int) n v) (listZ (2 ^ n) (spec_RealCoefficients.C v)) := by
    refine Ev.count (fun k m => impl_Table_coefficients.l0 k (listZ (2 ^ n) (fun j => if j < m then spec_RealCoefficients.C v j else 0)) ((2 ^ n : Nat) : Int) (m : Int) n v) (2 ^ n) _ ?_ ?_
    · intro m hm h
      refine Ev.step (fun k => ?_) (inner m hm _ h (2 ^ n) 0 (by omega))
      simp only [impl_Table_coefficients.l0]
      rw [if_pos (by omega), hsz, Option.bind_some]
      rw [listZ_congr (f' := fun j => if j < m then spec_RealCoefficients.C v j else if j = m then sumZ (spec_RealCoefficients.T v m) 0 else 0) (fun j hj => by
        by_cases h1 : j < m
        · rw [if_pos h1, if_pos h1]
        · rw [if_neg h1, if_neg h1]
          by_cases h2 : j = m
          · rw [if_pos h2]; rfl
          · rw [if_neg h2])]
      rfl
    · refine Ev.end (fun k => ?_)
      simp only [impl_Table_coefficients.l0]
      rw [if_neg (by omega), listZ_congr (f' := spec_RealCoefficients.C v) (fun j hj => by rw [if_pos hj])]
  have h0 := key (2 ^ n) 0 (by omega)
  rw [listZ_zero (f := fun j => if j < 0 then spec_RealCoefficients.C v j else 0) (fun j _ => by rw [if_neg (by omega)])] at h0
  refine Ev.congr (fun k => ?_) h0
  unfold impl_Table_coefficients.f
  rw [hsz, Option.bind_some, if_pos (Int.natCast_nonneg _), if_pos (by rw [Int.toNat_natCast]; omega), Int.toNat_natCast, Option.bind_some, List.length_replicate]; rfl

/-! ### facts on impl_RealDegree -/
--IMPORT M12
--IMPORT M8
open Go.Proofs.Ytbcjfmimgamjeaa.M in
theorem impl_RealDegree.ev {n v : Nat} (hn : n ≤ 5) (hv : v < 2 ^ 2 ^ n) : Ev (fun k => impl_RealDegree.f k n v) (spec_RealDegree.deg n v) := by
  have hT : impl_IsTable.f (n : Int) (v : Int) = some true := by rw [impl_IsTable.ev, isT_mk hn hv]
  have hc := impl_Table_coefficients.ev hn hv
  refine Ev.congr (f := fun k => (impl_Table_coefficients.f k n v).bind fun c => if 0 ≤ (n : Int) ∧ (n : Int) ≤ 5 ∧ c.length = 2 ^ (n : Int).toNat then some (impl_degree.most (fun m => c.getD m 0 != 0) (2 ^ (n : Int).toNat)) else none) (fun k => by unfold impl_RealDegree.f; rw [hT, Option.bind_some, if_pos rfl]) (Ev.bind hc ?_)
  refine Ev.const ?_
  rw [if_pos ⟨Int.natCast_nonneg n, by omega, by rw [listZ_length, Int.toNat_natCast]⟩, Int.toNat_natCast]
  rfl

/-! ### facts on impl_AverageDegree -/
--IMPORT M12
--IMPORT M8
open Go.Proofs.Ytbcjfmimgamjeaa.M in
/-- one bound for all words -/
theorem impl_AverageDegree.all_k {k : Nat} (hk : k ≤ 5) : ∀ N : Nat, N ≤ 2 ^ 2 ^ k → ∃ K : Nat, ∀ q, K ≤ q → ∀ x : Nat, x < N → impl_RealDegree.f q (k : Int) (x : Int) = some (spec_RealDegree.deg k x)
  | 0, _ => ⟨0, fun q _ x hx => absurd hx (Nat.not_lt_zero x)⟩
  | N + 1, h => by
    obtain ⟨K, hK⟩ := impl_AverageDegree.all_k hk N (Nat.le_of_succ_le h)
    obtain ⟨L, hL⟩ := impl_RealDegree.ev (n := k) (v := N) hk h
    refine ⟨K + L, fun q hq x hx => ?_⟩
    rcases Nat.lt_succ_iff_lt_or_eq.mp hx with hx | rfl
    · exact hK q (Nat.le_trans (Nat.le_add_right _ _) hq) x hx
    · exact hL q (Nat.le_trans (Nat.le_add_left _ _) hq)
open Go.Proofs.Ytbcjfmimgamjeaa.M in
theorem impl_AverageDegree.ev (a b k : Int) : Ev (fun q => impl_AverageDegree.f q a b k) (spec_AverageDegree.r a b k) := by
  unfold spec_AverageDegree.r
  cases hok : spec_l24Fine.ok a b k with
  | true =>
    obtain ⟨n, v, kk, rfl, rfl, rfl, hn, hv, hk⟩ := spec_l24Fine.nat hok
    have hvi : (v : Int) < ((2 ^ 2 ^ n : Nat) : Int) := by exact_mod_cast hv
    obtain ⟨K, hK⟩ := impl_AverageDegree.all_k (k := kk) (by omega) (2 ^ 2 ^ kk) (Nat.le_refl _)
    have hlt := cutAll_lt (k := kk) hn hv (2 ^ n) (Nat.le_refl _)
    have hT := isT_mk (n := n) (v := v) (by omega) hv
    refine Ev.since K fun q hq => ?_
    unfold impl_AverageDegree.f
    rw [impl_isSmall.ev, Option.bind_some, hT, decide_eq_true (show (n : Int) ≤ 4 by omega), if_pos ⟨rfl, by omega, by omega⟩, if_pos rfl]
    simp only [Int.toNat_natCast]
    rw [if_pos ⟨⟨by omega, by omega, by omega, hvi⟩, fun x hx => by rw [hK q hq x hx]; rfl⟩]
    congr 1
    unfold impl_sumOverCubes.sum spec_AverageDegree.S
    have key : ∀ (l : List Nat) (s : Int), (∀ x ∈ l, x < 2 ^ 2 ^ kk) → l.foldl (fun s x => wrap64 (s + impl_AverageDegree.h q kk x)) s = l.foldl (fun s x => wrap64 (s + spec_AverageDegree.H kk x)) s := by
      intro l
      induction l with
      | nil => intro s _; rfl
      | cons y t ih =>
        intro s hl
        have e : impl_AverageDegree.h q kk y = spec_AverageDegree.H kk y := by unfold impl_AverageDegree.h spec_AverageDegree.H; rw [hK q hq y (hl y (List.mem_cons_self ..))]; rfl
        rw [List.foldl_cons, List.foldl_cons, e]
        exact ih _ (fun x hx => hl x (List.mem_cons_of_mem _ hx))
    exact key _ 0 hlt
  | false =>
    have hno : ¬ ((isT a b && decide (a ≤ 4)) = true ∧ 0 ≤ k ∧ k ≤ a) := fun e => by
      unfold spec_l24Fine.ok at hok
      obtain ⟨e1, e2, e3⟩ := e
      rw [e1, decide_eq_true ⟨e2, e3⟩] at hok
      cases hok
    refine Ev.of_some fun q => ?_
    unfold impl_AverageDegree.f
    rw [impl_isSmall.ev, Option.bind_some, if_neg hno, if_neg (by decide)]

/-! ### facts on laws_FnExactAverageDegree -/
--IMPORT M12
open Go.Proofs.Ytbcjfmimgamjeaa.M in
theorem laws_FnExactAverageDegree.pure_ : laws_FnExactAverageDegree.Pure := by
  intro a b k _ _ _
  have hs := spec_AverageDegree.ev a b k
  have hi := impl_AverageDegree.ev a b k
  generalize spec_AverageDegree.r a b k = r at hs hi
  obtain ⟨K5, h5⟩ : ∃ K, ∀ q, K ≤ q → spec_AverageDegree.f q a b k = some r := hs
  obtain ⟨K6, h6⟩ : ∃ K, ∀ q, K ≤ q → impl_AverageDegree.f q a b k = some r := hi
  refine ⟨K5 + K6 + 3, ?_⟩
  simp (disch := omega) only [laws_FnExactAverageDegree.f, laws_toTable.f, h5, h6, ↓reduceIte, Option.bind_some, bne_self_eq_false, Bool.false_eq_true]

end Go.Proofs.Ytbcjfmimgamjeaa.Print
