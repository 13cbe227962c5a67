/- Functions of the given program as plain Lean functions, with proofs that their calls compute them, or lemmas on these. Laid by a program of this repo for the seat Ytonaebjpnmiilaa; Lean checks it. -/
import Derived.Test.YtonaebjpnmiilaaKLearning12
import Derived.Test.YtonaebjpnmiilaaKLearning3
import Derived.Test.YtonaebjpnmiilaaKLearning14
import Derived.Test.YtonaebjpnmiilaaKLearning2
import Derived.Test.YtonaebjpnmiilaaKLearning23
import Derived.Test.YtonaebjpnmiilaaKLearning24
import Derived.Test.YtonaebjpnmiilaaM24
namespace Go.Proofs.Ytonaebjpnmiilaa.Print
open Go.RowKit Go.Proofs.YtonaebjpnmiilaaW.PrintWords Go.Proofs.YtonaebjpnmiilaaW.PrintLast Go.Proofs.YtonaebjpnmiilaaW.PrintMore
attribute [local go_sem] max2_int min2_int max_two min_two max_three min_three max_four min_four   -- for this text's walks alone
set_option linter.unusedVariables false
set_option linter.unusedSimpArgs false

/-! ### facts on spec_l1New -/
--IMPORT M14
open Go.Proofs.Ytonaebjpnmiilaa.M in
theorem spec_l1New.ok (b : List Int) (hb : b.length ≤ 1048576) : Tot (fun k => spec_l1New.f k b) (fun r => r.1 = b ∧ r.2.1 = 0) := by
  unfold spec_l1New.f
  refine Tot.up (S := Int) (fun i s k => spec_l1New.l0 k b s (i : Int)) b.length (fun _ _ => True) ?_ ?_ b.length 0 _ (by omega) trivial
  · intro i s hi _ hn
    by_cases h4 : (i : Int) < 4000
    · refine Tot.step (fun k => ?_) (hn (Go.bits .and .i64 (wrap64 ((wrap64 ((wrap64 (s * 131)) + (wrap64 (rd b i)))) + 7)) 1073741823) trivial)
      simp only [spec_l1New.l0]
      rw [if_pos (Int.ofNat_lt.mpr hi), if_pos h4, if_pos (Int.natCast_nonneg i), up1 (by omega)]
    · refine Tot.end (b, 0, s) ⟨rfl, rfl⟩ (fun k => ?_)
      simp only [spec_l1New.l0]
      rw [if_pos (Int.ofNat_lt.mpr hi), if_neg h4]
  · intro s _
    refine Tot.end (b, 0, s) ⟨rfl, rfl⟩ (fun k => ?_)
    simp only [spec_l1New.l0]
    rw [if_neg (by omega)]

/-! ### facts on spec_l1In -/
theorem spec_l1In.ev (a b c : Int) : spec_l1In.f a b c = some (decide (b ≤ a ∧ a ≤ c)) := by
  unfold spec_l1In.f
  by_cases h : b ≤ a
  · rw [if_pos h]; simp [h]
  · rw [if_neg h]; simp [h]

/-! ### facts on spec_IsTable -/
--IMPORT M0
open Go.Proofs.Ytonaebjpnmiilaa.M in
theorem spec_IsTable.ev (a b : Int) : spec_IsTable.f a b = some (isT a b) := by
  unfold spec_IsTable.f isT
  rw [spec_l1In.ev]
  by_cases h : 0 ≤ a ∧ a ≤ 5
  · obtain ⟨n, rfl⟩ := nat_of h.1
    have hn : n ≤ 5 := by omega
    simp only [Option.bind_some, h, and_self, decide_true, if_true]
    rw [full_word hn, spec_l1In.ev]
    simp only [Option.bind_some, Int.toNat_natCast, h, true_and]
    congr 1
    apply decide_eq_decide.mpr
    omega
  · have h' : ¬ (0 ≤ a ∧ a ≤ 5 ∧ 0 ≤ b ∧ b < ((2 ^ 2 ^ a.toNat : Nat) : Int)) := fun e => h ⟨e.1, e.2.1⟩
    simp only [h, h', decide_false, Option.bind_some, Bool.false_eq_true, if_false]

/-! ### facts on spec_SamplesOf -/
--IMPORT M5
/-- a table's sample at an input -/
def spec_SamplesOf.samp (v : Nat) (x : Int) : S57 := ⟨x, (((v.testBit x.toNat).toNat : Nat) : Int)⟩
open Go.Proofs.Ytonaebjpnmiilaa.M in
def spec_SamplesOf.okay (a b : Int) (l : List Int) : Bool := isT a b && (decide (l.length ≤ 40) && l.all (inR a.toNat))
def spec_SamplesOf.res (a b : Int) (l : List Int) : List S57 × Bool := if spec_SamplesOf.okay a b l = true then (l.map (spec_SamplesOf.samp b.toNat), true) else ([], false)
open Go.Proofs.Ytonaebjpnmiilaa.M in
theorem spec_SamplesOf.ev (a b : Int) (l : List Int) : Ev (fun k => spec_SamplesOf.f k a b l) (spec_SamplesOf.res a b l) := by
  unfold spec_SamplesOf.res spec_SamplesOf.okay
  cases ht : isT a b with
  | false =>
    refine Ev.congr (f := fun k => spec_SamplesOf.j0 k l [] true a b) (fun k => ?_) (Ev.end (fun k => by simp only [spec_SamplesOf.j0, if_true, Bool.false_and, Bool.false_eq_true, if_false]))
    unfold spec_SamplesOf.f
    rw [spec_IsTable.ev, ht]; rfl
  | true =>
    obtain ⟨n, v, rfl, rfl, hn, hv⟩ := isT_nat ht
    have h32 := full_lt hn
    have h5 := pow_le_5 hn
    have h1 := Nat.two_pow_pos n
    rw [Bool.true_and, Int.toNat_natCast, Int.toNat_natCast]
    by_cases h40 : l.length ≤ 40
    · rw [decide_eq_true h40, Bool.true_and]
      have step : ∀ i, i < l.length → ∀ o : List S57, o.length ≤ 1000 → ∀ q, inR n (l.getD i 0) = q → ∀ k, spec_SamplesOf.l0 (k + 1) l o (i : Int) (n : Int) (v : Int) = if q = true then spec_SamplesOf.l0 k l (o ++ [spec_SamplesOf.samp v (l.getD i 0)]) ((i + 1 : Nat) : Int) (n : Int) (v : Int) else some ([], false) := by
        intro i hi o ho q hq k
        simp only [spec_SamplesOf.l0]
        rw [if_pos (by omega), if_pos (by omega), if_pos (Int.natCast_nonneg n), shl_one (by omega), w64 (by omega) (by omega), spec_l1In.ev, rd_nat, up1 (by omega)]
        simp only [Option.bind_some]
        have e : decide (0 ≤ l.getD i 0 ∧ l.getD i 0 ≤ ((2 ^ n : Nat) : Int) - 1) = q := by rw [← hq]; unfold inR; exact decide_eq_decide.mpr (by omega)
        rw [e]
        cases q with
        | false => rfl
        | true =>
          obtain ⟨y, hy, hy2⟩ := inR_nat hq
          rw [if_pos rfl, if_pos rfl, hy, if_pos (Int.natCast_nonneg y), if_pos (by omega), bit_nat (by omega) (by omega)]
          unfold spec_SamplesOf.samp
          rw [Int.toNat_natCast]
      refine Ev.congr (f := fun k => spec_SamplesOf.j0 k l [] (decide ((l.length : Int) > 40)) n v) (fun k => ?_) (Ev.step (f := fun k => spec_SamplesOf.l0 k l [] 0 n v) (fun k => ?_) ?_)
      · unfold spec_SamplesOf.f
        rw [spec_IsTable.ev, ht]; rfl
      · simp only [spec_SamplesOf.j0]
        rw [decide_eq_false (by omega), if_neg (by decide)]
      · cases ha : l.all (inR n) with
        | true =>
          have key : ∀ d i, i + d = l.length → Ev (fun k => spec_SamplesOf.l0 k l ((l.take i).map (spec_SamplesOf.samp v)) (i : Int) n v) (l.map (spec_SamplesOf.samp v), true) := by
            refine Ev.count (fun k i => spec_SamplesOf.l0 k l ((l.take i).map (spec_SamplesOf.samp v)) (i : Int) n v) l.length _ ?_ ?_
            · intro i hi h
              refine Ev.step (fun k => ?_) h
              rw [step i hi _ (by simp; omega) true (all_true_at ha hi) k, if_pos rfl, take_more l 0 hi, List.map_append]; rfl
            · refine Ev.end (fun k => ?_)
              simp only [spec_SamplesOf.l0]
              rw [if_neg (by omega), List.take_length]
          exact key l.length 0 (by omega)
        | false =>
          obtain ⟨j, hj, hf⟩ := all_false_at ha
          exact Ev.bad (fun k i => spec_SamplesOf.l0 k l ((l.take i).map (spec_SamplesOf.samp v)) (i : Int) n v) l.length ([], false) (fun i => inR n (l.getD i 0))
            (fun i hi h he => Ev.step (fun k => by rw [step i hi _ (by simp; omega) true h k, if_pos rfl, take_more l 0 hi, List.map_append]; rfl) he)
            (fun i hi h => Ev.end (fun k => by rw [step i hi _ (by simp; omega) false h k]; rfl)) l.length 0 (by omega) ⟨j, by omega, hj, hf⟩
    · rw [decide_eq_false h40, Bool.false_and]
      refine Ev.congr (f := fun k => spec_SamplesOf.j0 k l [] (decide ((l.length : Int) > 40)) n v) (fun k => ?_) (Ev.end (fun k => ?_))
      · unfold spec_SamplesOf.f
        rw [spec_IsTable.ev, ht]; rfl
      · simp only [spec_SamplesOf.j0]
        rw [decide_eq_true (by omega), if_pos rfl]; rfl

/-! ### facts on spec_l1Byte -/
--IMPORT M14
open Go.Proofs.Ytonaebjpnmiilaa.M in
theorem spec_l1Byte.ok (b : List Int) (i h : Int) (hb : b.length ≤ 1048576) (hi : 0 ≤ i) : ∃ x i' h', spec_l1Byte.f b i h = some (x, i', h') ∧ 0 ≤ x ∧ x ≤ 255 ∧ 0 ≤ i' := by
  unfold spec_l1Byte.f
  by_cases hc : i < (b.length : Int)
  · rw [if_pos hc, if_pos hi, w64 (x := i + 1) (by omega) (by omega)]
    exact ⟨_, _, _, rfl, (and_255 _).1, (and_255 _).2, by omega⟩
  · rw [if_neg hc]
    exact ⟨_, _, _, rfl, (and_255 _).1, (and_255 _).2, hi⟩

/-! ### facts on spec_l1Below -/
--IMPORT M14
open Go.Proofs.Ytonaebjpnmiilaa.M in
/-- a number below n -/
theorem spec_l1Below.ok (b : List Int) (i h n : Int) (hb : b.length ≤ 1048576) (hi : 0 ≤ i) (h1 : 1 ≤ n) (h2 : n ≤ 256) : ∃ x i' h', spec_l1Below.f b i h n = some (x, i', h') ∧ 0 ≤ x ∧ x < n ∧ 0 ≤ i' := by
  obtain ⟨x, i', h', e, e1, e2, e3⟩ := spec_l1Byte.ok b i h hb hi
  unfold spec_l1Below.f
  rw [if_neg (by omega), if_pos h2, e, Option.bind_some, if_neg (by omega)]
  exact ⟨_, _, _, rfl, Int.tmod_nonneg n e1, Int.tmod_lt_of_pos x (by omega), e3⟩

/-! ### facts on spec_l1PickInt -/
--IMPORT M14
open Go.Proofs.Ytonaebjpnmiilaa.M in
theorem spec_l1PickInt.ok (b : List Int) (i h : Int) (l : List Int) (hb : b.length ≤ 1048576) (hi : 0 ≤ i) (h1 : 1 ≤ l.length) (h2 : l.length ≤ 256) : ∃ x i' h', spec_l1PickInt.f b i h l = some (x, i', h') ∧ x ∈ l ∧ 0 ≤ i' := by
  obtain ⟨x, i', h', e, e1, e2, e3⟩ := spec_l1Below.ok b i h (l.length : Int) hb hi (by omega) (by omega)
  unfold spec_l1PickInt.f
  rw [e, Option.bind_some, if_pos e1, if_pos e2]
  refine ⟨_, _, _, rfl, ?_, e3⟩
  obtain ⟨j, rfl⟩ := nat_of e1
  have hj : j < l.length := by omega
  show rd l (j : Int) ∈ l
  simp [rd, List.getD_eq_getElem?_getD, hj]

/-! ### facts on spec_l2Count -/
--IMPORT M1
open Go.Proofs.Ytonaebjpnmiilaa.M in
theorem spec_l2Count.loop : ∀ (d w acc : Nat), w < 2 ^ d → d ≤ 62 → acc + d ≤ 1000 → Ev (fun k => spec_l2Count.l0 k acc w) ((acc + cnt w.testBit d : Nat) : Int)
  | 0, w, acc, hw, _, ha => by
    obtain rfl : w = 0 := by omega
    refine Ev.end (fun k => ?_)
    simp only [spec_l2Count.l0]
    rw [if_neg (by omega)]; rfl
  | d + 1, w, acc, hw, hd, ha => by
    by_cases h0 : w = 0
    · subst h0
      refine Ev.end (fun k => ?_)
      simp only [spec_l2Count.l0]
      rw [if_neg (by omega), cnt_zero]; rfl
    · have h := spec_l2Count.loop d (w / 2) (acc + w % 2) (by rw [Nat.pow_succ] at hw; omega) (by omega) (by omega)
      rw [show acc + w % 2 + cnt (w / 2).testBit d = acc + cnt w.testBit (d + 1) by rw [cnt_half]; omega] at h
      refine Ev.step (fun k => ?_) h
      have hp := p63 (n := d + 1) hd
      simp only [spec_l2Count.l0]
      rw [if_pos (by omega)]
      have e1 : Go.bits .and .i64 (w : Int) 1 = ((w % 2 : Nat) : Int) := by
        rw [← Nat.and_one_is_mod]; exact and_nat (b := 1) (by omega) (by decide)
      rw [e1, w64 (by omega) (by omega)]
      congr 1
open Go.Proofs.Ytonaebjpnmiilaa.M in
theorem spec_l2Count.ev {w : Nat} (h : w < 2 ^ 32) : Ev (fun k => spec_l2Count.f k w) ((pc w : Nat) : Int) := by
  have := spec_l2Count.loop 32 w 0 h (by omega) (by omega)
  rw [Nat.zero_add] at this
  exact this

/-! ### facts on spec_l2Full -/
--IMPORT M0
open Go.Proofs.Ytonaebjpnmiilaa.M in
theorem spec_l2Full.ev {n : Nat} (h : n ≤ 5) : spec_l2Full.f n = some (((2 ^ 2 ^ n : Nat) : Int) - 1) := by
  unfold spec_l2Full.f
  rw [if_pos (Int.natCast_nonneg n), full_word h]

/-! ### facts on spec_l2Draw -/
--IMPORT M14
--IMPORT M1
open Go.Proofs.Ytonaebjpnmiilaa.M in
/-- the end of all its ways -/
theorem spec_l2Draw.fin {n : Nat} (hn : n ≤ 4) (x i h : Int) : ∃ W, (if (n : Int) = 0 then ((spec_l2Full.f (n : Int)).bind fun t => (some ((n : Int), Go.bits .and .i64 (Go.bits .and .i64 x 1) t, i, h))) else ((spec_l2Full.f (n : Int)).bind fun t => (some ((n : Int), Go.bits .and .i64 x t, i, h)))) = some ((n : Int), W, i, h) := by
  rw [spec_l2Full.ev (by omega)]
  by_cases e : (n : Int) = 0
  · rw [if_pos e]; exact ⟨_, rfl⟩
  · rw [if_neg e]; exact ⟨_, rfl⟩
open Go.Proofs.Ytonaebjpnmiilaa.M in
theorem spec_l2Draw.pow_le {n : Nat} (hn : n ≤ 4) : 2 ^ n ≤ 16 := Nat.pow_le_pow_right (n := 2) (by decide) hn
open Go.Proofs.Ytonaebjpnmiilaa.M in
theorem spec_l2Draw.ok0 (b : List Int) (i h : Int) (hi : 0 ≤ i) {n : Nat} (hn : n ≤ 4) (x : Int) : Tot (fun k => spec_l2Draw.l0 k n x 0 b i h) (fun r => r.1 = (n : Int) ∧ 0 ≤ r.2.2.1) := by
  have h16 := spec_l2Draw.pow_le hn
  have hn0 : (0 : Int) ≤ (n : Int) := Int.natCast_nonneg n
  have hs := shl_one (n := n) (by omega)
  refine Tot.up (S := Int) (fun j s k => spec_l2Draw.l0 k n s (j : Int) b i h) (2 ^ n) (fun _ _ => True) ?_ ?_ (2 ^ n) 0 x (by omega) trivial
  · intro j s hj _ hnx
    have hlt : (j : Int) < ((2 ^ n : Nat) : Int) := Int.ofNat_lt.mpr hj
    have hj0 : (0 : Int) ≤ (j : Int) := Int.natCast_nonneg j
    have hu := up1 (x := j) (by omega)
    refine Tot.step (f := fun k => (spec_l2Count.f k j).bind fun t => if wrap64 (2 * t) > (n : Int) then spec_l2Draw.l0 k n (Go.bits .or .i64 s (shl .i64 1 (j : Int))) ((j + 1 : Nat) : Int) b i h else spec_l2Draw.l0 k n s ((j + 1 : Nat) : Int) b i h) (fun k => ?_) (Tot.bind (Tot.ev (P := fun _ => True) (spec_l2Count.ev (w := j) (by omega)) trivial) (fun t _ => Tot.ite _ (fun _ => hnx _ trivial) (fun _ => hnx _ trivial)))
    simp only [spec_l2Draw.l0, hs, hn0, hlt, hj0, hu, ↓reduceIte]
  · intro s _
    obtain ⟨W, hW⟩ := spec_l2Draw.fin hn s i h
    refine Tot.end ((n : Int), W, i, h) ⟨rfl, hi⟩ (fun k => ?_)
    · simp only [spec_l2Draw.l0, hs, hn0, Int.lt_irrefl, ↓reduceIte]
      exact hW
open Go.Proofs.Ytonaebjpnmiilaa.M in
theorem spec_l2Draw.ok1 (b : List Int) (i h : Int) (hi : 0 ≤ i) {n : Nat} (hn : n ≤ 4) (x : Int) : Tot (fun k => spec_l2Draw.l1 k n x 0 b i h) (fun r => r.1 = (n : Int) ∧ 0 ≤ r.2.2.1) := by
  have h16 := spec_l2Draw.pow_le hn
  have hn0 : (0 : Int) ≤ (n : Int) := Int.natCast_nonneg n
  have hs := shl_one (n := n) (by omega)
  refine Tot.up (S := Int) (fun j s k => spec_l2Draw.l1 k n s (j : Int) b i h) (2 ^ n) (fun _ _ => True) ?_ ?_ (2 ^ n) 0 x (by omega) trivial
  · intro j s hj _ hnx
    have hlt : (j : Int) < ((2 ^ n : Nat) : Int) := Int.ofNat_lt.mpr hj
    have hj0 : (0 : Int) ≤ (j : Int) := Int.natCast_nonneg j
    have hu := up1 (x := j) (by omega)
    refine Tot.step (f := fun k => (spec_l2Count.f k j).bind fun t => if Int.tmod t 2 = 1 then spec_l2Draw.l1 k n (Go.bits .or .i64 s (shl .i64 1 (j : Int))) ((j + 1 : Nat) : Int) b i h else spec_l2Draw.l1 k n s ((j + 1 : Nat) : Int) b i h) (fun k => ?_) (Tot.bind (Tot.ev (P := fun _ => True) (spec_l2Count.ev (w := j) (by omega)) trivial) (fun t _ => Tot.ite _ (fun _ => hnx _ trivial) (fun _ => hnx _ trivial)))
    simp only [spec_l2Draw.l1, hs, hn0, hlt, hj0, hu, ↓reduceIte]
  · intro s _
    obtain ⟨W, hW⟩ := spec_l2Draw.fin hn s i h
    refine Tot.end ((n : Int), W, i, h) ⟨rfl, hi⟩ (fun k => ?_)
    · simp only [spec_l2Draw.l1, hs, hn0, Int.lt_irrefl, ↓reduceIte]
      exact hW
open Go.Proofs.Ytonaebjpnmiilaa.M in
theorem spec_l2Draw.ok2 (b : List Int) (i h y : Int) (hi : 0 ≤ i) {n : Nat} (hn : n ≤ 4) (x : Int) : Tot (fun k => spec_l2Draw.l2 k n x y 0 b i h) (fun r => r.1 = (n : Int) ∧ 0 ≤ r.2.2.1) := by
  have h16 := spec_l2Draw.pow_le hn
  have hn0 : (0 : Int) ≤ (n : Int) := Int.natCast_nonneg n
  have hs := shl_one (n := n) (by omega)
  refine Tot.up (S := Int) (fun j s k => spec_l2Draw.l2 k n s y (j : Int) b i h) (2 ^ n) (fun _ _ => True) ?_ ?_ (2 ^ n) 0 x (by omega) trivial
  · intro j s hj _ hnx
    have hlt : (j : Int) < ((2 ^ n : Nat) : Int) := Int.ofNat_lt.mpr hj
    have hj0 : (0 : Int) ≤ (j : Int) := Int.natCast_nonneg j
    have hu := up1 (x := j) (by omega)
    refine Tot.step (f := fun k => if Go.bits .and .i64 (j : Int) y = y then spec_l2Draw.l2 k n (Go.bits .or .i64 s (shl .i64 1 (j : Int))) y ((j + 1 : Nat) : Int) b i h else spec_l2Draw.l2 k n s y ((j + 1 : Nat) : Int) b i h) (fun k => ?_) (Tot.ite _ (fun _ => hnx _ trivial) (fun _ => hnx _ trivial))
    simp only [spec_l2Draw.l2, hs, hn0, hlt, hj0, hu, ↓reduceIte]
  · intro s _
    obtain ⟨W, hW⟩ := spec_l2Draw.fin hn s i h
    refine Tot.end ((n : Int), W, i, h) ⟨rfl, hi⟩ (fun k => ?_)
    · simp only [spec_l2Draw.l2, hs, hn0, Int.lt_irrefl, ↓reduceIte]
      exact hW
open Go.Proofs.Ytonaebjpnmiilaa.M in
theorem spec_l2Draw.ok3 (b : List Int) (hb : b.length ≤ 1048576) (i h : Int) (hi : 0 ≤ i) {n : Nat} (hn : n ≤ 4) (x : Int) : Tot (fun k => spec_l2Draw.l3 k n x 0 b i h) (fun r => r.1 = (n : Int) ∧ 0 ≤ r.2.2.1) := by
  have h16 := spec_l2Draw.pow_le hn
  have hn0 : (0 : Int) ≤ (n : Int) := Int.natCast_nonneg n
  have hs := shl_one (n := n) (by omega)
  refine Tot.up (S := Int × Int × Int) (fun j s k => spec_l2Draw.l3 k n s.1 (j : Int) b s.2.1 s.2.2) (2 ^ n) (fun _ s => 0 ≤ s.2.1) ?_ ?_ (2 ^ n) 0 (x, i, h) (by omega) hi
  · rintro j ⟨s, i, h⟩ hj hi hnx
    have hlt : (j : Int) < ((2 ^ n : Nat) : Int) := Int.ofNat_lt.mpr hj
    have hj0 : (0 : Int) ≤ (j : Int) := Int.natCast_nonneg j
    have hu := up1 (x := j) (by omega)
    obtain ⟨q, i', h', e, _, _, e3⟩ := spec_l1Below.ok b i h 2 hb hi (by decide) (by decide)
    refine Tot.step (f := fun k => spec_l2Draw.l3 k n (Go.bits .or .i64 s (shl .i64 q (j : Int))) ((j + 1 : Nat) : Int) b i' h') (fun k => ?_) (hnx (_, i', h') e3)
    simp only [spec_l2Draw.l3, hs, hn0, hlt, hj0, hu, e, Option.bind_some, ↓reduceIte]
  · rintro ⟨s, i, h⟩ hi
    obtain ⟨W, hW⟩ := spec_l2Draw.fin hn s i h
    refine Tot.end ((n : Int), W, i, h) ⟨rfl, hi⟩ (fun k => ?_)
    · simp only [spec_l2Draw.l3, hs, hn0, Int.lt_irrefl, ↓reduceIte]
      exact hW
open Go.Proofs.Ytonaebjpnmiilaa.M in
theorem spec_l2Draw.var {n j : Nat} (hn : n ≤ 4) (hj : j ≤ 4) : Tot (fun k => spec_l2Variable.f k n j) (fun _ => True) := by
  have h16 := spec_l2Draw.pow_le hn
  have hn0 : (0 : Int) ≤ (n : Int) := Int.natCast_nonneg n
  have hj1 : (0 : Int) ≤ (j : Int) := Int.natCast_nonneg j
  have hs := shl_one (n := n) (by omega)
  refine Tot.up (S := Int) (fun x s k => spec_l2Variable.l0 k n j s (x : Int)) (2 ^ n) (fun _ _ => True) ?_ ?_ (2 ^ n) 0 0 (by omega) trivial
  · intro x s hx _ hnx
    have hlt : (x : Int) < ((2 ^ n : Nat) : Int) := Int.ofNat_lt.mpr hx
    have hx0 : (0 : Int) ≤ (x : Int) := Int.natCast_nonneg x
    have hu := up1 (x := x) (by omega)
    refine Tot.step (f := fun k => if Go.bits .and .i64 (shr .i64 (x : Int) (j : Int)) 1 = 1 then spec_l2Variable.l0 k n j (Go.bits .or .i64 s (shl .i64 1 (x : Int))) ((x + 1 : Nat) : Int) else spec_l2Variable.l0 k n j s ((x + 1 : Nat) : Int)) (fun k => ?_) (Tot.ite _ (fun _ => hnx _ trivial) (fun _ => hnx _ trivial))
    simp only [spec_l2Variable.l0, hs, hn0, hj1, hlt, hx0, hu, ↓reduceIte]
  · intro s _
    refine Tot.end s trivial (fun k => ?_)
    simp only [spec_l2Variable.l0, hs, hn0, Int.lt_irrefl, ↓reduceIte]
open Go.Proofs.Ytonaebjpnmiilaa.M in
theorem spec_l2Draw.ok (b : List Int) (hb : b.length ≤ 1048576) (i h : Int) (hi : 0 ≤ i) {n : Nat} (hn : n ≤ 4) : Tot (fun k => spec_l2Draw.f k b i h n) (fun r => r.1 = (n : Int) ∧ 0 ≤ r.2.2.1) := by
  obtain ⟨q, i', h', e, q1, q2, e3⟩ := spec_l1Below.ok b i h 6 hb hi (by decide) (by decide)
  have h16 := spec_l2Draw.pow_le hn
  have hn0 : (0 : Int) ≤ (n : Int) := Int.natCast_nonneg n
  have hs := shl_one (n := n) (by omega)
  have hp := Nat.two_pow_pos n
  unfold spec_l2Draw.f
  simp only [e, Option.bind_some]
  refine Tot.ite _ (fun _ => ?_) (fun _ => Tot.ite _ (fun _ => spec_l2Draw.ok0 b i' h' e3 hn 0) (fun _ => Tot.ite _ (fun _ => spec_l2Draw.ok1 b i' h' e3 hn 0) (fun _ => Tot.ite _ (fun _ => ?_) (fun _ => spec_l2Draw.ok3 b hb i' h' e3 hn 0))))
  · have hm : 1 ≤ mx 1 (n : Int) ∧ mx 1 (n : Int) ≤ 4 := by unfold mx; split <;> omega
    obtain ⟨y, i2, h2, e2, y1, y2, y3⟩ := spec_l1Below.ok b i' h' (mx 1 (n : Int)) hb e3 hm.1 (by omega)
    simp only [e2, Option.bind_some]
    obtain ⟨j, rfl⟩ := nat_of y1
    refine Tot.bind (spec_l2Draw.var hn (j := j) (by omega)) (fun t _ => ?_)
    obtain ⟨W, hW⟩ := spec_l2Draw.fin hn t i2 h2
    exact Tot.congr (fun k => hW) (Tot.now _ ⟨rfl, y3⟩)
  · simp only [hn0, hs, ↓reduceIte]
    obtain ⟨y, i2, h2, e2, y1, y2, y3⟩ := spec_l1Below.ok b i' h' ((2 ^ n : Nat) : Int) hb e3 (by omega) (by omega)
    simp only [e2, Option.bind_some]
    exact spec_l2Draw.ok2 b i2 h2 y y3 hn 0

/-! ### facts on spec_l2Any -/
--IMPORT M14
open Go.Proofs.Ytonaebjpnmiilaa.M in
theorem spec_l2Any.ok (b : List Int) (hb : b.length ≤ 1048576) (i h : Int) (hi : 0 ≤ i) : Tot (fun k => spec_l2Any.f k b i h) (fun r => 0 ≤ r.2.2.1) := by
  obtain ⟨q, i', h', e, q1, q2, e3⟩ := spec_l1Below.ok b i h 5 hb hi (by decide) (by decide)
  unfold spec_l2Any.f
  simp only [e, Option.bind_some]
  obtain ⟨n, rfl⟩ := nat_of q1
  refine Tot.bind (spec_l2Draw.ok b hb i' h' e3 (n := n) (by omega)) (fun r hr => ?_)
  obtain ⟨y, i2, h2, e2, _, _, y3⟩ := spec_l1Below.ok b r.2.2.1 r.2.2.2 14 hb hr.2 (by decide) (by decide)
  simp only [e2, Option.bind_some]
  obtain ⟨z0, i3, h3, w0, _, z1⟩ := spec_l1PickInt.ok b i2 h2 [(-1), 6, 5, 0, 9223372036854775807] hb y3 (by decide) (by decide)
  obtain ⟨z2, i4, h4, w1, _, z3⟩ := spec_l1PickInt.ok b i2 h2 [(-1), 0, 1, 65536, 9223372036854775807] hb y3 (by decide) (by decide)
  simp only [w0, w1, Option.bind_some]
  exact Tot.ite _ (fun _ => Tot.now _ z1) (fun _ => Tot.ite _ (fun _ => Tot.now _ z3) (fun _ => Tot.now _ y3))

/-! ### facts on spec_l1Once -/
--IMPORT M14
open Go.Proofs.Ytonaebjpnmiilaa.M in
theorem spec_l1Once.ok (b : List Int) (i h n : Int) (hb : b.length ≤ 1048576) (hi : 0 ≤ i) (h1 : 1 ≤ n) (h2 : n ≤ 256) : ∃ x i' h', spec_l1Once.f b i h n = some (x, i', h') ∧ 0 ≤ i' := by
  obtain ⟨y, i2, h3, e, _, _, y3⟩ := spec_l1Below.ok b i h n hb hi h1 h2
  unfold spec_l1Once.f
  rw [e, Option.bind_some]
  exact ⟨_, _, _, rfl, y3⟩

/-! ### facts on spec_l25Draw -/
--IMPORT M14
open Go.Proofs.Ytonaebjpnmiilaa.M in
theorem spec_l25Draw.j3_ok (b : List Int) (hb : b.length ≤ 1048576) (L : List S57) (fl : Bool) (i h a w : Int) (hi : 0 ≤ i) (hfl : fl = true → 0 < L.length) : Tot (fun k => spec_l25Draw.j3 k L fl b i h a w) (fun r => 0 ≤ r.2.2.2.1) := by
  cases fl with
  | true =>
    have hpos : 0 < (L.length : Int) := by have := hfl rfl; omega
    obtain ⟨x, i1, h1, e1, _, p1⟩ := spec_l1PickInt.ok b i h [(-1), 16, 9223372036854775807] hb hi (by decide) (by decide)
    obtain ⟨y, i2, h2, e2, _, p2⟩ := spec_l1PickInt.ok b i1 h1 [4, 4, 4, 3, a] hb p1 (by simp) (by simp)
    refine Tot.end (y, w, L.set (0 : Int).toNat (⟨x, (rd_T57 L 0).f1⟩ : S57), i2, h2) p2 (fun k => ?_)
    simp only [spec_l25Draw.j3, e1, e2, hpos, Option.bind_some, ↓reduceIte]
  | false =>
    obtain ⟨y, i2, h2, e2, _, p2⟩ := spec_l1PickInt.ok b i h [4, 4, 4, 3, a] hb hi (by simp) (by simp)
    refine Tot.end (y, w, L, i2, h2) p2 (fun k => ?_)
    simp only [spec_l25Draw.j3, e2, Option.bind_some, Bool.false_eq_true, ↓reduceIte]
open Go.Proofs.Ytonaebjpnmiilaa.M in
theorem spec_l25Draw.j2_ok (b : List Int) (hb : b.length ≤ 1048576) (L : List S57) (i h a w : Int) (hi : 0 ≤ i) : Tot (fun k => spec_l25Draw.j2 k L b i h a w) (fun r => 0 ≤ r.2.2.2.1) := by
  by_cases hL : (L.length : Int) > 0
  · obtain ⟨x, i1, h1, e1, p1⟩ := spec_l1Once.ok b i h 12 hb hi (by decide) (by decide)
    refine Tot.step (fun k => ?_) (spec_l25Draw.j3_ok b hb L x i1 h1 a w p1 (fun _ => by omega))
    simp only [spec_l25Draw.j2]
    rw [if_pos hL, e1, Option.bind_some]
  · refine Tot.step (fun k => ?_) (spec_l25Draw.j3_ok b hb L false i h a w hi (fun e => by cases e))
    simp only [spec_l25Draw.j2]
    rw [if_neg hL]
open Go.Proofs.Ytonaebjpnmiilaa.M in
theorem spec_l25Draw.j1_ok (b : List Int) (hb : b.length ≤ 1048576) (L : List S57) (fl : Bool) (i h a w : Int) (hi : 0 ≤ i) (hfl : fl = true → 0 < L.length) : Tot (fun k => spec_l25Draw.j1 k L fl b i h a w) (fun r => 0 ≤ r.2.2.2.1) := by
  cases fl with
  | true =>
    have hpos : 0 < (L.length : Int) := by have := hfl rfl; omega
    obtain ⟨x, i1, h1, e1, _, p1⟩ := spec_l1PickInt.ok b i h [0, 1, 2] hb hi (by decide) (by decide)
    refine Tot.step (fun k => ?_) (spec_l25Draw.j2_ok b hb (L.set (0 : Int).toNat (⟨(rd_T57 L 0).f0, x⟩ : S57)) i1 h1 a w p1)
    simp only [spec_l25Draw.j1, ↓reduceIte]
    rw [e1, Option.bind_some, if_pos hpos]
  | false =>
    refine Tot.step (fun k => ?_) (spec_l25Draw.j2_ok b hb L i h a w hi)
    simp only [spec_l25Draw.j1, Bool.false_eq_true, ↓reduceIte]
open Go.Proofs.Ytonaebjpnmiilaa.M in
theorem spec_l25Draw.l0_ok (b : List Int) (hb : b.length ≤ 1048576) (a w : Int) : ∀ (n : Nat) (q : List Int) (i h : Int), 0 ≤ i → q.length + n ≤ 1000 → Tot (fun k => spec_l25Draw.l0 k q (n : Int) b i h a w) (fun r => 0 ≤ r.2.2.2.1)
  | 0, q, i, h, hi, hq => by
    have hs : Tot (fun k => spec_SamplesOf.f k 4 ((mx 0 w) % 65536) q) (fun r => r = spec_SamplesOf.res 4 ((mx 0 w) % 65536) q) := Tot.ev (spec_SamplesOf.ev 4 ((mx 0 w) % 65536) q) rfl
    refine Tot.step (f := fun k => (spec_SamplesOf.f k 4 ((mx 0 w) % 65536) q).bind fun t => if (t.1.length : Int) > 0 then ((spec_l1Once.f b i h 6).bind fun u => (spec_l25Draw.j1 k t.1 u.1 b u.2.1 u.2.2 a w)) else (spec_l25Draw.j1 k t.1 false b i h a w)) (fun k => ?_) (Tot.bind hs (fun t _ => ?_))
    · simp only [spec_l25Draw.l0]
      rw [if_neg (by omega)]
    · obtain ⟨x, i1, h1, e1, p1⟩ := spec_l1Once.ok b i h 6 hb hi (by decide) (by decide)
      simp only [e1, Option.bind_some]
      exact Tot.ite _ (fun hL => spec_l25Draw.j1_ok b hb t.1 x i1 h1 a w p1 (fun _ => by omega)) (fun _ => spec_l25Draw.j1_ok b hb t.1 false i h a w hi (fun e => by cases e))
  | n + 1, q, i, h, hi, hq => by
    obtain ⟨x, i1, h1, e1, _, _, p1⟩ := spec_l1Below.ok b i h 16 hb hi (by decide) (by decide)
    refine Tot.step (fun k => ?_) (spec_l25Draw.l0_ok b hb a w n (q ++ [x]) i1 h1 p1 (by simp; omega))
    simp only [spec_l25Draw.l0]
    rw [if_pos (by omega), e1, Option.bind_some, if_pos (by omega)]
    congr 1
    rw [w64 (by omega) (by omega)]; omega
open Go.Proofs.Ytonaebjpnmiilaa.M in
theorem spec_l25Draw.ok (b : List Int) (hb : b.length ≤ 1048576) (i h : Int) (hi : 0 ≤ i) : Tot (fun k => spec_l25Draw.f k b i h) (fun r => 0 ≤ r.2.2.2.1) := by
  unfold spec_l25Draw.f
  refine Tot.bind (spec_l2Any.ok b hb i h hi) (fun r hr => ?_)
  obtain ⟨y, i2, h2, e2, y1, y2, y3⟩ := spec_l1Below.ok b r.2.2.1 r.2.2.2 8 hb hr (by decide) (by decide)
  simp only [e2, Option.bind_some]
  obtain ⟨n, rfl⟩ := nat_of y1
  exact spec_l25Draw.l0_ok b hb _ _ n [] i2 h2 y3 (by simp; omega)

/-! ### facts on spec_l25Both -/
--IMPORT M14
open Go.Proofs.Ytonaebjpnmiilaa.M in
theorem spec_l25Both.ok (b : List Int) (hb : b.length ≤ 1048576) : Tot (fun k => spec_l25Both.f k b) (fun _ => True) := by
  unfold spec_l25Both.f
  refine Tot.bind (spec_l1New.ok b hb) (fun r hr => ?_)
  obtain ⟨r1, r2, r3⟩ := r
  obtain ⟨rfl, rfl⟩ := hr
  refine Tot.bind (spec_l25Draw.ok r1 hb 0 r3 (Int.le_refl 0)) (fun s hs => ?_)
  obtain ⟨x, i1, h1, e1, _, p1⟩ := spec_l1PickInt.ok r1 s.2.2.2.1 s.2.2.2.2 [4, 4, 4, 5, 3, (-1), 6] hb hs (by decide) (by decide)
  simp only [e1, Option.bind_some]
  exact Tot.now _ trivial

/-! ### facts on spec_DrawConsistentSets -/
--IMPORT M14
open Go.Proofs.Ytonaebjpnmiilaa.M in
theorem spec_DrawConsistentSets.ok (b : List Int) (hb : b.length ≤ 1048576) : Tot (fun k => spec_DrawConsistentSets.f k b) (fun _ => True) := by
  unfold spec_DrawConsistentSets.f
  exact Tot.bind (spec_l25Both.ok b hb) (fun s _ => Tot.now _ trivial)

/-! ### facts on impl_isBits -/
theorem impl_isBits.ev (a : Int) : impl_isBits.f a = some (decide (0 ≤ a ∧ a ≤ 5)) := by
  unfold impl_isBits.f
  by_cases h : 0 ≤ a
  · rw [if_pos h]; simp [h]
  · rw [if_neg h]; simp [h]

/-! ### facts on spec_IsSampleList -/
--IMPORT M3
open Go.Proofs.Ytonaebjpnmiilaa.M in
theorem spec_IsSampleList.sample {n : Nat} {l : List S57} (hn : n ≤ 5) (h : impl_IsSampleList.f (n : Int) l = some true) : l.length ≤ 40 ∧ ∀ j, j < l.length → ∃ x y : Nat, (l.getD j z57).f0 = (x : Int) ∧ (l.getD j z57).f1 = (y : Int) ∧ x < 2 ^ n ∧ y ≤ 1 := by
  have h := Option.some.inj h
  rw [Bool.and_eq_true, Bool.and_eq_true] at h
  obtain ⟨⟨h1, h2⟩, h3⟩ := h
  have h2 := of_decide_eq_true h2
  refine ⟨h2, fun j hj => ?_⟩
  rw [List.all_eq_true] at h3
  have h4 := h3 _ (List.getElem_mem hj)
  have e : l.getD j z57 = l[j] := by simp [List.getD_eq_getElem?_getD, hj]
  rw [e]
  unfold impl_IsSampleList.ok at h4
  rw [Bool.and_eq_true] at h4
  obtain ⟨h5, h6⟩ := h4
  have h5 := of_decide_eq_true h5
  have h6 := of_decide_eq_true h6
  rw [Int.toNat_natCast] at h5
  exact ⟨l[j].f0.toNat, l[j].f1.toNat, by omega, by omega, by omega, by omega⟩
open Go.Proofs.Ytonaebjpnmiilaa.M in
theorem spec_IsSampleList.list_n {a : Int} {l : List S57} (h : impl_IsSampleList.f a l = some true) : ∃ n : Nat, a = (n : Int) ∧ n ≤ 5 ∧ l.length ≤ 40 := by
  have h' := Option.some.inj h
  rw [Bool.and_eq_true, Bool.and_eq_true] at h'
  have h1 := of_decide_eq_true h'.1.1
  have h2 := of_decide_eq_true h'.1.2
  exact ⟨a.toNat, by omega, by omega, h2⟩
open Go.Proofs.Ytonaebjpnmiilaa.M in
theorem spec_IsSampleList.ev (a : Int) (l : List S57) (r : Bool) (h : impl_IsSampleList.f a l = some r) : Ev (fun k => spec_IsSampleList.f k a l) r := by
  have hr := Option.some.inj h
  unfold spec_IsSampleList.f
  rw [spec_l1In.ev]
  by_cases ha : 0 ≤ a ∧ a ≤ 5
  · rw [decide_eq_true ha, Bool.true_and] at hr
    obtain ⟨n, rfl⟩ := nat_of ha.1
    have h5 := pow_le_5 (n := n) (by omega)
    simp only [decide_eq_true ha, Option.bind_some, if_true]
    by_cases h40 : l.length ≤ 40
    · rw [decide_eq_true h40, Bool.true_and] at hr
      have key : ∀ d i, i + d = l.length → Ev (fun k => spec_IsSampleList.l0 k n l (i : Int)) ((l.drop i).all (impl_IsSampleList.ok n)) := by
        intro d
        induction d with
        | zero =>
          intro i hi
          obtain rfl : i = l.length := by omega
          refine Ev.end (fun k => ?_)
          simp only [spec_IsSampleList.l0]
          rw [if_neg (by omega)]; simp
        | succ d ih =>
          intro i hi
          have hd : l.drop i = l.getD i z57 :: l.drop (i + 1) := by
            rw [List.drop_eq_getElem_cons (by omega)]
            simp [List.getD_eq_getElem?_getD, show i < l.length by omega]
          have hx : rd_T57 l (i : Int) = l.getD i z57 := by simp [rd_T57]
          rw [hd, List.all_cons]
          generalize l.getD i z57 = x at *
          have hpos := Nat.two_pow_pos n
          have es : wrap64 (shl .i64 1 (n : Int) - 1) = ((2 ^ n : Nat) : Int) - 1 := by rw [shl_one (by omega), w64 (by omega) (by omega)]
          have P1 : (0 ≤ x.f0 ∧ x.f0 ≤ ((2 ^ n : Nat) : Int) - 1) ↔ (0 ≤ x.f0 ∧ x.f0 < ((2 ^ n : Nat) : Int)) := by omega
          have P2 : (0 ≤ x.f1 ∧ x.f1 ≤ 1) ↔ (x.f1 = 0 ∨ x.f1 = 1) := by omega
          by_cases o1 : 0 ≤ x.f0 ∧ x.f0 < ((2 ^ n : Nat) : Int)
          · by_cases o2 : x.f1 = 0 ∨ x.f1 = 1
            · have ok : impl_IsSampleList.ok n x = true := by unfold impl_IsSampleList.ok; rw [Int.toNat_natCast, decide_eq_true o1, decide_eq_true o2]; rfl
              rw [ok, Bool.true_and]
              refine Ev.step (fun k => ?_) (ih (i + 1) (by omega))
              simp only [spec_IsSampleList.l0]
              rw [if_pos (by omega), if_pos (by omega), if_pos (Int.natCast_nonneg n), hx, es, spec_l1In.ev, spec_l1In.ev, decide_eq_true (P1.mpr o1), decide_eq_true (P2.mpr o2), Option.bind_some, if_pos rfl, Option.bind_some, if_pos rfl, w64 (by omega) (by omega)]; rfl
            · have ok : impl_IsSampleList.ok n x = false := by unfold impl_IsSampleList.ok; rw [decide_eq_false o2, Bool.and_false]
              rw [ok, Bool.false_and]
              refine Ev.end (fun k => ?_)
              simp only [spec_IsSampleList.l0]
              rw [if_pos (by omega), if_pos (by omega), if_pos (Int.natCast_nonneg n), hx, es, spec_l1In.ev, spec_l1In.ev, decide_eq_true (P1.mpr o1), decide_eq_false (fun e => o2 (P2.mp e)), Option.bind_some, if_pos rfl, Option.bind_some, if_neg (by decide)]
          · have ok : impl_IsSampleList.ok n x = false := by unfold impl_IsSampleList.ok; rw [Int.toNat_natCast, decide_eq_false o1, Bool.false_and]
            rw [ok, Bool.false_and]
            refine Ev.end (fun k => ?_)
            simp only [spec_IsSampleList.l0]
            rw [if_pos (by omega), if_pos (by omega), if_pos (Int.natCast_nonneg n), hx, es, spec_l1In.ev, decide_eq_false (fun e => o1 (P1.mp e)), Option.bind_some, if_neg (by decide)]
      have h0 := key l.length 0 (by omega)
      rw [List.drop_zero, hr] at h0
      refine Ev.step (fun k => ?_) h0
      simp only [spec_IsSampleList.j0]
      rw [if_neg (by simp; omega)]; rfl
    · rw [decide_eq_false h40] at hr
      subst hr
      refine Ev.end (fun k => ?_)
      simp only [spec_IsSampleList.j0]
      rw [if_pos (by simp; omega)]; rfl
  · rw [decide_eq_false ha] at hr
    subst hr
    simp only [decide_eq_false ha, Option.bind_some]
    refine Ev.end (fun k => ?_)
    rw [if_neg (by decide)]
    simp only [spec_IsSampleList.j0, if_true]; rfl

/-! ### facts on spec_l25Fits -/
--IMPORT M10
open Go.Proofs.Ytonaebjpnmiilaa.M in
/-- do two samples not contradict -/
def spec_l25Fits.okB (l : List S57) (m : Int) (i j : Nat) : Bool := !((Go.bits .and .i64 (l.getD i z57).f0 m == Go.bits .and .i64 (l.getD j z57).f0 m) && ((l.getD i z57).f1 != (l.getD j z57).f1))
open Go.Proofs.Ytonaebjpnmiilaa.M in
def spec_l25Fits.fits (l : List S57) (m : Int) : Bool := allB l.length (fun i => allB i (spec_l25Fits.okB l m i))
theorem spec_l25Fits.eqB {l : List S57} {m : Int} {i j : Nat} {x y x' y' : Int} (e1 : (l.getD i z57).f0 = x) (e2 : (l.getD i z57).f1 = y) (e1' : (l.getD j z57).f0 = x') (e2' : (l.getD j z57).f1 = y') :
    spec_l25Fits.okB l m i j = true ↔ ¬ (Go.bits .and .i64 x m = Go.bits .and .i64 x' m ∧ y ≠ y') := by
  unfold spec_l25Fits.okB
  rw [e1, e2, e1', e2']
  simp
  exact Decidable.imp_iff_not_or.symm
open Go.Proofs.Ytonaebjpnmiilaa.M in
theorem spec_l25Fits.ev {n : Nat} (hn : n ≤ 5) (l : List S57) (hv : impl_IsSampleList.f (n : Int) l = some true) (m : Nat) (hm : m < 2 ^ 63) : Ev (fun k => spec_l25Fits.f k l m) (spec_l25Fits.fits l m) := by
  obtain ⟨h40, hs⟩ := spec_IsSampleList.sample hn hv
  have h5 := pow_le_5 hn
  have go : ∀ i, i < l.length → ∀ j, j < i → spec_l25Fits.okB l m i j = true → ∀ r, Ev (fun k => spec_l25Fits.l1 k l (m : Int) (i : Int) ((j + 1 : Nat) : Int)) r → Ev (fun k => spec_l25Fits.l1 k l (m : Int) (i : Int) (j : Int)) r := by
    intro i hi j hj hb r hn'
    obtain ⟨x, y, e1, e2, hx, hy⟩ := hs i hi
    obtain ⟨x', y', e1', e2', hx', hy'⟩ := hs j (by omega)
    have e3 : rd_T57 l (i : Int) = l.getD i z57 := by simp [rd_T57]
    have e4 : rd_T57 l (j : Int) = l.getD j z57 := by simp [rd_T57]
    have ht := xor_and_int (a := x) (b := x') (m := m) (by omega) (by omega) hm
    have hk := (spec_l25Fits.eqB (m := (m : Int)) e1 e2 e1' e2').mp hb
    refine Ev.step (fun k => ?_) hn'
    simp only [spec_l25Fits.l1]
    rw [if_pos (by omega), if_pos (by omega), if_pos (by omega), if_pos (by omega), if_pos (by omega), e3, e4, e1, e2, e1', e2', up1 (by omega)]
    by_cases c1 : Go.bits .and .i64 (x : Int) (m : Int) = Go.bits .and .i64 (x' : Int) (m : Int)
    · rw [if_pos (ht.mpr c1), if_pos (Classical.byContradiction fun c2 => hk ⟨c1, c2⟩)]
    · rw [if_neg (fun e => c1 (ht.mp e))]
  have stop : ∀ i, i < l.length → ∀ j, j < i → spec_l25Fits.okB l m i j = false → Ev (fun k => spec_l25Fits.l1 k l (m : Int) (i : Int) (j : Int)) false := by
    intro i hi j hj hb
    obtain ⟨x, y, e1, e2, hx, hy⟩ := hs i hi
    obtain ⟨x', y', e1', e2', hx', hy'⟩ := hs j (by omega)
    have e3 : rd_T57 l (i : Int) = l.getD i z57 := by simp [rd_T57]
    have e4 : rd_T57 l (j : Int) = l.getD j z57 := by simp [rd_T57]
    have ht := xor_and_int (a := x) (b := x') (m := m) (by omega) (by omega) hm
    have hk : Go.bits .and .i64 (x : Int) (m : Int) = Go.bits .and .i64 (x' : Int) (m : Int) ∧ (y : Int) ≠ (y' : Int) := Classical.byContradiction fun c => by rw [(spec_l25Fits.eqB (m := (m : Int)) e1 e2 e1' e2').mpr c] at hb; cases hb
    refine Ev.end (fun k => ?_)
    simp only [spec_l25Fits.l1]
    rw [if_pos (by omega), if_pos (by omega), if_pos (by omega), if_pos (by omega), if_pos (by omega), e3, e4, e1, e2, e1', e2', if_pos (ht.mpr hk.1), if_neg hk.2]
  have h := Ev.all (fun k i => spec_l25Fits.l0 k l (m : Int) (i : Int)) l.length (fun i => allB i (spec_l25Fits.okB l m i)) true false (fun i hi ho r hn' => by
    have h := Ev.all_on (fun k j => spec_l25Fits.l1 k l (m : Int) (i : Int) (j : Int)) i (spec_l25Fits.okB l m i) r false (go i hi) ho (Ev.step (fun k => by
      simp only [spec_l25Fits.l1]
      rw [if_neg (by omega), up1 (by omega)]) hn')
    refine Ev.step (fun k => ?_) h
    simp only [spec_l25Fits.l0]
    rw [if_pos (by omega)]; rfl) (fun i hi ho => by
    have h := Ev.all_bad (fun k j => spec_l25Fits.l1 k l (m : Int) (i : Int) (j : Int)) i (spec_l25Fits.okB l m i) false (go i hi) (stop i hi) ho
    refine Ev.step (fun k => ?_) h
    simp only [spec_l25Fits.l0]
    rw [if_pos (by omega)]; rfl) (Ev.end (fun k => by
    simp only [spec_l25Fits.l0]
    rw [if_neg (by omega)]))
  have e : (if allB l.length (fun i => allB i (spec_l25Fits.okB l m i)) = true then true else false) = spec_l25Fits.fits l m := by unfold spec_l25Fits.fits; cases allB l.length (fun i => allB i (spec_l25Fits.okB l m i)) <;> rfl
  rw [e] at h
  exact h

/-! ### facts on impl_decides -/
--IMPORT M10
open Go.Proofs.Ytonaebjpnmiilaa.M in
theorem impl_decides.ev {n : Nat} (hn : n ≤ 5) (l : List S57) (hv : impl_IsSampleList.f (n : Int) l = some true) (m : Nat) : Ev (fun k => impl_decides.f k l m) (spec_l25Fits.fits l m) := by
  obtain ⟨h40, hs⟩ := spec_IsSampleList.sample hn hv
  have h5 := pow_le_5 hn
  have go : ∀ i, i < l.length → ∀ j, j < i → spec_l25Fits.okB l m i j = true → ∀ r, Ev (fun k => impl_decides.l1 k l (m : Int) l (l.length : Int) (i : Int) (l.take i) (i : Int) ((j + 1 : Nat) : Int) (l.getD i z57).f0 (l.getD i z57).f1) r → Ev (fun k => impl_decides.l1 k l (m : Int) l (l.length : Int) (i : Int) (l.take i) (i : Int) (j : Int) (l.getD i z57).f0 (l.getD i z57).f1) r := by
    intro i hi j hj hb r hn'
    obtain ⟨x, y, e1, e2, hx, hy⟩ := hs i hi
    obtain ⟨x', y', e1', e2', hx', hy'⟩ := hs j (by omega)
    have e4 : rd_T57 (l.take i) (j : Int) = l.getD j z57 := by simp [rd_T57, List.getD_eq_getElem?_getD, List.getElem?_take, hj]
    have hk := (spec_l25Fits.eqB (m := (m : Int)) e1 e2 e1' e2').mp hb
    refine Ev.step (fun k => ?_) hn'
    simp only [impl_decides.l1]
    rw [if_pos (by omega), if_pos (by omega), if_pos (by rw [List.length_take]; omega), e4, e1, e2, e1', e2', up1 (by omega)]
    by_cases c1 : Go.bits .and .i64 (x : Int) (m : Int) = Go.bits .and .i64 (x' : Int) (m : Int)
    · rw [if_pos c1, if_pos (Classical.byContradiction fun c2 => hk ⟨c1, c2⟩)]
    · rw [if_neg c1]
  have stop : ∀ i, i < l.length → ∀ j, j < i → spec_l25Fits.okB l m i j = false → Ev (fun k => impl_decides.l1 k l (m : Int) l (l.length : Int) (i : Int) (l.take i) (i : Int) (j : Int) (l.getD i z57).f0 (l.getD i z57).f1) false := by
    intro i hi j hj hb
    obtain ⟨x, y, e1, e2, hx, hy⟩ := hs i hi
    obtain ⟨x', y', e1', e2', hx', hy'⟩ := hs j (by omega)
    have e4 : rd_T57 (l.take i) (j : Int) = l.getD j z57 := by simp [rd_T57, List.getD_eq_getElem?_getD, List.getElem?_take, hj]
    have hk : Go.bits .and .i64 (x : Int) (m : Int) = Go.bits .and .i64 (x' : Int) (m : Int) ∧ (y : Int) ≠ (y' : Int) := Classical.byContradiction fun c => by rw [(spec_l25Fits.eqB (m := (m : Int)) e1 e2 e1' e2').mpr c] at hb; cases hb
    refine Ev.end (fun k => ?_)
    simp only [impl_decides.l1]
    rw [if_pos (by omega), if_pos (by omega), if_pos (by rw [List.length_take]; omega), e4, e1, e2, e1', e2', if_pos hk.1, if_neg hk.2]
  have start : ∀ i, i < l.length → ∀ k, impl_decides.l0 (k + 1) l (m : Int) l (l.length : Int) (i : Int) = impl_decides.l1 k l (m : Int) l (l.length : Int) (i : Int) (l.take i) (i : Int) ((0 : Nat) : Int) (l.getD i z57).f0 (l.getD i z57).f1 := by
    intro i hi k
    have e3 : rd_T57 l (i : Int) = l.getD i z57 := by simp [rd_T57]
    have e5 : ((l.take i).length : Int) = (i : Int) := by rw [List.length_take]; omega
    simp only [impl_decides.l0]
    rw [if_pos (by omega), if_pos (by omega), if_pos (by omega), if_pos (by omega), Option.bind_some, e3, Int.toNat_natCast, e5]; rfl
  have h := Ev.all (fun k i => impl_decides.l0 k l (m : Int) l (l.length : Int) (i : Int)) l.length (fun i => allB i (spec_l25Fits.okB l m i)) true false (fun i hi ho r hn' => by
    have h := Ev.all_on (fun k j => impl_decides.l1 k l (m : Int) l (l.length : Int) (i : Int) (l.take i) (i : Int) (j : Int) (l.getD i z57).f0 (l.getD i z57).f1) i (spec_l25Fits.okB l m i) r false (go i hi) ho (Ev.step (fun k => by
      simp only [impl_decides.l1]
      rw [if_neg (by omega), up1 (by omega)]) hn')
    exact Ev.step (start i hi) h) (fun i hi ho => by
    have h := Ev.all_bad (fun k j => impl_decides.l1 k l (m : Int) l (l.length : Int) (i : Int) (l.take i) (i : Int) (j : Int) (l.getD i z57).f0 (l.getD i z57).f1) i (spec_l25Fits.okB l m i) false (go i hi) (stop i hi) ho
    exact Ev.step (start i hi) h) (Ev.end (fun k => by
    simp only [impl_decides.l0]
    rw [if_neg (by omega)]))
  have e : (if allB l.length (fun i => allB i (spec_l25Fits.okB l m i)) = true then true else false) = spec_l25Fits.fits l m := by unfold spec_l25Fits.fits; cases allB l.length (fun i => allB i (spec_l25Fits.okB l m i)) <;> rfl
  rw [e] at h
  exact h

/-! ### facts on spec_ConsistentSets -/
--IMPORT M10
open Go.Proofs.Ytonaebjpnmiilaa.M in
/-- does a set of variables tell all values, and none of the list's sets lies in it -/
def spec_ConsistentSets.okm (l : List S57) (out : List Nat) (m : Nat) : Bool := spec_l25Fits.fits l m && !(out.any (fun x => x &&& m == x))
/-- the sets below m -/
def spec_ConsistentSets.sets (l : List S57) : Nat → List Nat
  | 0 => []
  | m + 1 => if spec_ConsistentSets.okm l (spec_ConsistentSets.sets l m) m = true then spec_ConsistentSets.sets l m ++ [m] else spec_ConsistentSets.sets l m
theorem spec_ConsistentSets.sets_lt (l : List S57) : ∀ m, ∀ x ∈ spec_ConsistentSets.sets l m, x < m
  | 0, x, h => by simp [spec_ConsistentSets.sets] at h
  | m + 1, x, h => by
    rw [spec_ConsistentSets.sets] at h
    split at h
    · rcases List.mem_append.mp h with h | h
      · have := spec_ConsistentSets.sets_lt l m x h; omega
      · simp at h; omega
    · have := spec_ConsistentSets.sets_lt l m x h; omega
theorem spec_ConsistentSets.sets_len (l : List S57) : ∀ m, (spec_ConsistentSets.sets l m).length ≤ m
  | 0 => by simp [spec_ConsistentSets.sets]
  | m + 1 => by
    have := spec_ConsistentSets.sets_len l m
    rw [spec_ConsistentSets.sets]
    split <;> simp <;> omega
open Go.Proofs.Ytonaebjpnmiilaa.M in
/-- the answer -/
def spec_ConsistentSets.r (a : Int) (l : List S57) : List Int × Bool := if impl_IsSampleList.f a l = some true then (ints (spec_ConsistentSets.sets l (2 ^ a.toNat)), true) else ([], false)
open Go.Proofs.Ytonaebjpnmiilaa.M in
theorem spec_ConsistentSets.any_take (out : List Nat) (p : Nat → Bool) (i : Nat) (hi : i < out.length) : (out.take (i + 1)).any p = ((out.take i).any p || p (out.getD i 0)) := by
  rw [take_more out 0 hi, List.any_append]; simp
open Go.Proofs.Ytonaebjpnmiilaa.M in
theorem spec_ConsistentSets.ev (a : Int) (l : List S57) : Ev (fun k => spec_ConsistentSets.f k a l) (spec_ConsistentSets.r a l) := by
  obtain ⟨q, hq⟩ : ∃ q, impl_IsSampleList.f a l = some q := ⟨_, rfl⟩
  have h1 := spec_IsSampleList.ev a l q hq
  refine Ev.congr (f := fun k => (spec_IsSampleList.f k a l).bind fun t => if t = true then spec_ConsistentSets.l0 k a l [] 0 else some ([], false)) (fun k => rfl) (Ev.bind h1 ?_)
  cases q with
  | false =>
    have : spec_ConsistentSets.r a l = ([], false) := by unfold spec_ConsistentSets.r; rw [if_neg (by rw [hq]; simp)]
    rw [this]
    exact Ev.now _
  | true =>
    have hr : spec_ConsistentSets.r a l = (ints (spec_ConsistentSets.sets l (2 ^ a.toNat)), true) := by unfold spec_ConsistentSets.r; rw [if_pos hq]
    obtain ⟨n, rfl, hn, h40⟩ := spec_IsSampleList.list_n hq
    rw [hr, Int.toNat_natCast]
    simp only [if_true]
    clear hr
    have h5 := pow_le_5 hn
    generalize hR : (ints (spec_ConsistentSets.sets l (2 ^ n)), true) = R
    have row : ∀ m, m < 2 ^ n → Ev (fun k => spec_ConsistentSets.l0 k n l (ints (spec_ConsistentSets.sets l (m + 1))) ((m + 1 : Nat) : Int)) R → Ev (fun k => spec_ConsistentSets.l0 k n l (ints (spec_ConsistentSets.sets l m)) (m : Int)) R := by
      intro m hm hnext
      have hlt := spec_ConsistentSets.sets_lt l m
      have hlen := spec_ConsistentSets.sets_len l m
      have hfin : ∀ b, b = spec_ConsistentSets.okm l (spec_ConsistentSets.sets l m) m → Ev (fun k => spec_ConsistentSets.l1 k n l (ints (spec_ConsistentSets.sets l m)) (m : Int) b ((spec_ConsistentSets.sets l m).length : Int)) R := by
        intro b hb
        rw [spec_ConsistentSets.sets, ← hb] at hnext
        cases b with
        | true =>
          rw [if_pos rfl, ints_append] at hnext
          refine Ev.step (fun k => ?_) hnext
          simp only [spec_ConsistentSets.l1]
          rw [if_neg (by rw [ints_length]; omega), if_pos trivial, if_pos (by rw [ints_length]; omega), up1 (by omega)]
        | false =>
          rw [if_neg (by decide)] at hnext
          refine Ev.step (fun k => ?_) hnext
          simp only [spec_ConsistentSets.l1]
          rw [if_neg (by rw [ints_length]; omega), if_neg (by decide), up1 (by omega)]
      unfold spec_ConsistentSets.okm at hfin
      generalize spec_ConsistentSets.sets l m = out at *
      generalize hfit : spec_l25Fits.fits l m = fit at *
      have loop := Ev.count (fun k i => spec_ConsistentSets.l1 k n l (ints out) (m : Int) (fit && !((out.take i).any (fun x => x &&& m == x))) (i : Int)) out.length R (fun i hi hn' => by
        have ha := spec_ConsistentSets.any_take out (fun x => x &&& m == x) i hi
        rw [ha] at hn'
        have hoi : out.getD i 0 < 32 := by
          have : out.getD i 0 ∈ out := by rw [List.getD_eq_getElem?_getD, List.getElem?_eq_getElem hi]; exact List.getElem_mem hi
          have := hlt _ this
          omega
        have ei : (i : Int) < ((ints out).length : Int) := by rw [ints_length]; omega
        cases hb : (fit && !((out.take i).any (fun x => x &&& m == x))) with
        | true =>
          rw [Bool.and_eq_true] at hb
          have hb2 : (out.take i).any (fun x => x &&& m == x) = false := by simpa using hb.2
          rw [hb.1, hb2, Bool.false_or, Bool.true_and] at hn'
          refine Ev.step (fun k => ?_) hn'
          simp only [spec_ConsistentSets.l1]
          rw [if_pos ei, if_pos trivial, if_pos (by omega), rd_ints, and_nat (by omega) (by omega), up1 (by omega)]
          have e : ((((out.getD i 0 &&& m : Nat) : Int)) != ((out.getD i 0 : Nat) : Int)) = !(out.getD i 0 &&& m == out.getD i 0) := by
            generalize out.getD i 0 = z
            by_cases h : z &&& m = z
            · rw [h, bne_self_eq_false, beq_self_eq_true]; rfl
            · have h2 : ((z &&& m : Nat) : Int) ≠ (z : Int) := by omega
              rw [bne_iff_ne.mpr h2, beq_eq_false_iff_ne.mpr h]; rfl
          rw [e]
        | false =>
          have e2 : (fit && !((out.take i).any (fun x => x &&& m == x) || (out.getD i 0 &&& m == out.getD i 0))) = false := by
            revert hb; cases fit <;> cases (out.take i).any (fun x => x &&& m == x) <;> simp
          rw [e2] at hn'
          refine Ev.step (fun k => ?_) hn'
          simp only [spec_ConsistentSets.l1]
          rw [if_pos ei, if_neg (by decide), up1 (by omega)]) (hfin _ (by rw [List.take_length])) out.length 0 (by omega)
      have hfs := spec_l25Fits.ev hn l hq m (by omega)
      rw [hfit] at hfs
      simp only [List.take_zero, List.any_nil, Bool.not_false, Bool.and_true] at loop
      refine Ev.step (f := fun k => (spec_l25Fits.f k l m).bind fun t => spec_ConsistentSets.l1 k n l (ints out) (m : Int) t 0) (fun k => ?_) (Ev.bind hfs loop)
      simp only [spec_ConsistentSets.l0]
      rw [if_pos (Int.natCast_nonneg n), shl_one (by omega), if_pos (by omega)]
    exact Ev.count (fun k m => spec_ConsistentSets.l0 k n l (ints (spec_ConsistentSets.sets l m)) (m : Int)) (2 ^ n) R row (Ev.end (fun k => by
      simp only [spec_ConsistentSets.l0]
      rw [if_pos (Int.natCast_nonneg n), shl_one (by omega), if_neg (by omega), hR])) (2 ^ n) 0 (by omega)

/-! ### facts on impl_consistent -/
--IMPORT M10
open Go.Proofs.Ytonaebjpnmiilaa.M in
theorem impl_consistent.fresh_eq (out : List Nat) (m : Nat) (h : ∀ x ∈ out, x < 32) (hm : m < 32) : impl_consistent.fresh (ints out) (m : Int) = !(out.any (fun x => x &&& m == x)) := by
  unfold impl_consistent.fresh ints
  rw [List.any_map]
  congr 1
  induction out with
  | nil => rfl
  | cons x t ih =>
    rw [List.any_cons, List.any_cons, ih (fun y hy => h y (List.mem_cons_of_mem _ hy))]
    congr 1
    have hx := h x List.mem_cons_self
    show (Go.bits .andNot .i64 (x : Int) (m : Int) == 0) = (x &&& m == x)
    rw [andNot_nat (by omega) (by omega)]
    by_cases hs : x &&& m = x
    · rw [subset_iff.mp hs, hs]; simp
    · have hz : andn x m ≠ 0 := fun e => hs (subset_iff.mpr e)
      have e1 : (((andn x m : Nat) : Int) == 0) = false := by rw [beq_eq_false_iff_ne]; omega
      rw [e1]; simp [hs]
open Go.Proofs.Ytonaebjpnmiilaa.M in
theorem impl_consistent.ev {n : Nat} (hn : n ≤ 5) (l : List S57) (hv : impl_IsSampleList.f (n : Int) l = some true) : Ev (fun k => impl_consistent.f k n l) (ints (spec_ConsistentSets.sets l (2 ^ n))) := by
  have h5 := pow_le_5 hn
  have key : ∀ m, m ≤ 2 ^ n → Ev (fun k => impl_consistent.con (fun m => impl_decides.f k l (m : Int)) m) (ints (spec_ConsistentSets.sets l m)) := by
    intro m
    induction m with
    | zero => intro _; exact Ev.now _
    | succ m ih =>
      intro hm
      have hlt := spec_ConsistentSets.sets_lt l m
      refine Ev.bind (ih (by omega)) (Ev.bind (impl_decides.ev hn l hv m) ?_)
      rw [spec_ConsistentSets.sets, impl_consistent.fresh_eq _ m (fun x hx => by have := hlt x hx; omega) (by omega)]
      unfold spec_ConsistentSets.okm
      cases spec_l25Fits.fits l m <;> cases (spec_ConsistentSets.sets l m).any (fun x => x &&& m == x) <;> simp [ints_append] <;> exact Ev.now _
  refine Ev.congr (fun k => ?_) (key (2 ^ n) (Nat.le_refl _))
  unfold impl_consistent.f
  rw [if_pos (by omega), Int.toNat_natCast]

/-! ### facts on impl_ConsistentSets -/
--IMPORT M10
open Go.Proofs.Ytonaebjpnmiilaa.M in
theorem impl_ConsistentSets.ev (a : Int) (l : List S57) : Ev (fun k => impl_ConsistentSets.f k a l) (spec_ConsistentSets.r a l) := by
  obtain ⟨q, hq⟩ : ∃ q, impl_IsSampleList.f a l = some q := ⟨_, rfl⟩
  cases q with
  | false =>
    have : spec_ConsistentSets.r a l = ([], false) := by unfold spec_ConsistentSets.r; rw [if_neg (by rw [hq]; simp)]
    rw [this]
    refine Ev.congr (fun k => ?_) (Ev.now _)
    unfold impl_ConsistentSets.f
    rw [hq]; rfl
  | true =>
    have hr : spec_ConsistentSets.r a l = (ints (spec_ConsistentSets.sets l (2 ^ a.toNat)), true) := by unfold spec_ConsistentSets.r; rw [if_pos hq]
    obtain ⟨n, rfl, hn, h40⟩ := spec_IsSampleList.list_n hq
    rw [hr, Int.toNat_natCast]
    refine Ev.congr (f := fun k => (impl_consistent.f k n l).bind fun t => some (t, true)) (fun k => ?_) (Ev.bind (impl_consistent.ev hn l hq) (Ev.now _))
    unfold impl_ConsistentSets.f
    rw [hq]; rfl

/-! ### facts on impl_IsTable -/
--IMPORT M0
open Go.Proofs.Ytonaebjpnmiilaa.M in
theorem impl_IsTable.ev (a b : Int) : impl_IsTable.f a b = some (isT a b) := by
  unfold impl_IsTable.f isT
  rw [impl_isBits.ev]
  by_cases h : 0 ≤ a ∧ a ≤ 5
  · obtain ⟨n, rfl⟩ := nat_of h.1
    have hn : n ≤ 5 := by omega
    simp only [Option.bind_some, h, and_self, decide_true, if_true]
    by_cases hb : b ≥ 0
    · obtain ⟨v, rfl⟩ := nat_of hb
      have h5 := pow_le_5 hn
      rw [if_pos hb]
      unfold impl_Table_size.f
      rw [if_pos (Int.natCast_nonneg n), shl_one (by omega)]
      simp only [Option.bind_some]
      rw [if_pos (Int.natCast_nonneg _), shr_nat (by omega)]
      congr 1
      rw [Bool.eq_iff_iff]
      simp only [beq_iff_eq, decide_eq_true_eq, Int.toNat_natCast]
      have hz : v / 2 ^ 2 ^ n = 0 ↔ v < 2 ^ 2 ^ n := Nat.div_eq_zero_iff_lt (Nat.two_pow_pos _)
      rw [show (((v / 2 ^ 2 ^ n : Nat) : Int) = 0 ↔ v / 2 ^ 2 ^ n = 0) from by omega, hz]
      obtain ⟨P, hP⟩ : ∃ P, P = 2 ^ 2 ^ n := ⟨_, rfl⟩
      rw [← hP]
      simp only [h, true_and]
      omega
    · rw [if_neg hb]
      congr 1
      symm
      apply decide_eq_false
      omega
  · have h' : ¬ (0 ≤ a ∧ a ≤ 5 ∧ 0 ≤ b ∧ b < ((2 ^ 2 ^ a.toNat : Nat) : Int)) := fun e => h ⟨e.1, e.2.1⟩
    simp only [h, h', decide_false, Option.bind_some, Bool.false_eq_true, if_false]

/-! ### facts on impl_Table_restrict -/
--IMPORT M0
open Go.Proofs.Ytonaebjpnmiilaa.M in
theorem impl_Table_restrict.ev {n v i b : Nat} (h1 : 1 ≤ n) (hn : n ≤ 5) (hv : v < 2 ^ 32) (hi : i < n) (hb : b ≤ 1) : impl_Table_restrict.f n v i b = some (((n - 1 : Nat) : Int), ((rstW n v i b : Nat) : Int)) := by
  unfold impl_Table_restrict.f
  rw [if_pos ⟨by omega, by omega, by omega, by omega, by omega, by omega, by omega, by omega⟩]
  simp only [Int.toNat_natCast]
  rw [show ((n : Int) - 1) = ((n - 1 : Nat) : Int) by omega]; rfl

/-! ### facts on impl_ones -/
--IMPORT M1
open Go.Proofs.Ytonaebjpnmiilaa.M in
theorem bits_OnesCount64.ev {w : Nat} (h : w < 2 ^ 32) : bits_OnesCount64.f w = some ((pc w : Nat) : Int) := by
  unfold bits_OnesCount64.f
  rw [sA_eq h, sB_eq (sA_lt h), sC_eq (sB_lt (sA_lt h))]
  exact congrArg some (swar_end h rfl _ rfl)
open Go.Proofs.Ytonaebjpnmiilaa.M in
theorem impl_ones.ev {w : Nat} (h : w < 2 ^ 32) : impl_ones.f w = some ((pc w : Nat) : Int) := by
  unfold impl_ones.f
  rw [u64n (by omega), bits_OnesCount64.ev h]; rfl

/-! ### facts on spec_DrawSamplesOf -/
--IMPORT M14
open Go.Proofs.Ytonaebjpnmiilaa.M in
theorem spec_DrawSamplesOf.l0_ok (b : List Int) (hb : b.length ≤ 1048576) (a w : Int) : ∀ (n : Nat) (q : List Int) (i h : Int), 0 ≤ i → q.length + n ≤ 1000 → Tot (fun k => spec_DrawSamplesOf.l0 k q (n : Int) b i h a w) (fun _ => True)
  | 0, q, i, h, hi, hq => Tot.end (a, w, q) trivial (fun k => by
    simp only [spec_DrawSamplesOf.l0]
    rw [if_neg (by omega)])
  | n + 1, q, i, h, hi, hq => by
    obtain ⟨x, i1, h1, e1, _, _, p1⟩ := spec_l1Below.ok b i h 17 hb hi (by decide) (by decide)
    refine Tot.step (fun k => ?_) (spec_DrawSamplesOf.l0_ok b hb a w n (q ++ [wrap64 (x - 1)]) i1 h1 p1 (by simp; omega))
    simp only [spec_DrawSamplesOf.l0]
    rw [if_pos (by omega), e1, Option.bind_some, if_pos (by omega)]
    congr 1
    rw [w64 (by omega) (by omega)]; omega
open Go.Proofs.Ytonaebjpnmiilaa.M in
theorem spec_DrawSamplesOf.ok (b : List Int) (hb : b.length ≤ 1048576) : Tot (fun k => spec_DrawSamplesOf.f k b) (fun _ => True) := by
  unfold spec_DrawSamplesOf.f
  refine Tot.bind (spec_l1New.ok b hb) (fun r hr => ?_)
  obtain ⟨r1, r2, r3⟩ := r
  obtain ⟨rfl, rfl⟩ := hr
  refine Tot.bind (spec_l2Any.ok r1 hb 0 r3 (Int.le_refl 0)) (fun s hs => ?_)
  obtain ⟨y, i2, h2, e2, y1, y2, y3⟩ := spec_l1Below.ok r1 s.2.2.1 s.2.2.2 5 hb hs (by decide) (by decide)
  simp only [e2, Option.bind_some]
  obtain ⟨n, rfl⟩ := nat_of y1
  exact spec_DrawSamplesOf.l0_ok r1 hb _ _ n [] i2 h2 y3 (by simp; omega)

/-! ### facts on impl_SamplesOf -/
--IMPORT M5
open Go.Proofs.Ytonaebjpnmiilaa.M in
theorem impl_SamplesOf.ev (a b : Int) (l : List Int) : Ev (fun k => impl_SamplesOf.f k a b l) (spec_SamplesOf.res a b l) := by
  unfold spec_SamplesOf.res spec_SamplesOf.okay
  cases ht : isT a b with
  | false =>
    refine Ev.congr (f := fun k => impl_SamplesOf.j0 k l true a b) (fun k => ?_) (Ev.end (fun k => by simp only [impl_SamplesOf.j0, if_true, Bool.false_and, Bool.false_eq_true, if_false]))
    unfold impl_SamplesOf.f
    rw [impl_IsTable.ev, ht]; rfl
  | true =>
    obtain ⟨n, v, rfl, rfl, hn, hv⟩ := isT_nat ht
    have h32 := full_lt hn
    have h5 := pow_le_5 hn
    have h1 := Nat.two_pow_pos n
    rw [Bool.true_and, Int.toNat_natCast, Int.toNat_natCast]
    by_cases h40 : l.length ≤ 40
    · rw [decide_eq_true h40, Bool.true_and]
      have inp : ∀ c : Int, impl_isInput.f (n : Int) c = some (inR n c) := fun c => by
        unfold impl_isInput.f inR
        by_cases h : c ≥ 0
        · rw [if_pos h, if_pos (Int.natCast_nonneg n), shl_one (by omega)]
          congr 1
          apply decide_eq_decide.mpr
          omega
        · rw [if_neg h]
          congr 1; symm
          apply decide_eq_false; omega
      have step : ∀ i, i < l.length → ∀ q, inR n (l.getD i 0) = q → ∀ k, impl_SamplesOf.l0 (k + 1) (fillAt (spec_SamplesOf.samp v) z57 l i) l (l.length : Int) (i : Int) (n : Int) (v : Int) = if q = true then impl_SamplesOf.l0 k (fillAt (spec_SamplesOf.samp v) z57 l (i + 1)) l (l.length : Int) ((i + 1 : Nat) : Int) (n : Int) (v : Int) else some ([], false) := by
        intro i hi q hq k
        have hlen := fillAt_length (spec_SamplesOf.samp v) z57 l (i := i) (by omega)
        simp only [impl_SamplesOf.l0]
        rw [if_pos (by omega), if_pos (by omega), if_pos (by omega), rd_nat, inp, hq, up1 (by omega)]
        simp only [Option.bind_some]
        cases q with
        | false => rfl
        | true =>
          obtain ⟨y, hy, hy2⟩ := inR_nat hq
          have e := fillAt_set (spec_SamplesOf.samp v) z57 l 0 hi
          rw [hy] at e
          unfold spec_SamplesOf.samp at e
          rw [Int.toNat_natCast] at e
          rw [if_pos rfl, if_pos rfl, hy]
          unfold impl_Table_at.f
          rw [if_pos (Int.natCast_nonneg y), bit_nat (by omega) (by omega), Option.bind_some, if_pos (by rw [hlen]; omega), Int.toNat_natCast]
          unfold spec_SamplesOf.samp
          rw [e]
      refine Ev.congr (f := fun k => impl_SamplesOf.j0 k l (decide ((l.length : Int) > 40)) n v) (fun k => ?_) (Ev.step (f := fun k => impl_SamplesOf.l0 k (List.replicate l.length z57) l (l.length : Int) 0 n v) (fun k => ?_) ?_)
      · unfold impl_SamplesOf.f
        rw [impl_IsTable.ev, ht]; rfl
      · simp only [impl_SamplesOf.j0]
        rw [decide_eq_false (by omega), if_neg (by decide), if_pos (by omega), if_pos (by rw [Int.toNat_natCast]; omega), Int.toNat_natCast]
      · rw [← fillAt_zero (spec_SamplesOf.samp v)]
        cases ha : l.all (inR n) with
        | true =>
          have key : ∀ d i, i + d = l.length → Ev (fun k => impl_SamplesOf.l0 k (fillAt (spec_SamplesOf.samp v) z57 l i) l (l.length : Int) (i : Int) n v) (l.map (spec_SamplesOf.samp v), true) := by
            refine Ev.count (fun k i => impl_SamplesOf.l0 k (fillAt (spec_SamplesOf.samp v) z57 l i) l (l.length : Int) (i : Int) n v) l.length _ ?_ ?_
            · intro i hi h
              exact Ev.step (fun k => by rw [step i hi true (all_true_at ha hi) k, if_pos rfl]) h
            · refine Ev.end (fun k => ?_)
              simp only [impl_SamplesOf.l0]
              rw [if_neg (by omega), fillAt_all]
          exact key l.length 0 (by omega)
        | false =>
          obtain ⟨j, hj, hf⟩ := all_false_at ha
          exact Ev.bad (fun k i => impl_SamplesOf.l0 k (fillAt (spec_SamplesOf.samp v) z57 l i) l (l.length : Int) (i : Int) n v) l.length ([], false) (fun i => inR n (l.getD i 0))
            (fun i hi h he => Ev.step (fun k => by rw [step i hi true h k, if_pos rfl]) he)
            (fun i hi h => Ev.end (fun k => by rw [step i hi false h k]; rfl)) l.length 0 (by omega) ⟨j, by omega, hj, hf⟩
    · rw [decide_eq_false h40, Bool.false_and]
      refine Ev.congr (f := fun k => impl_SamplesOf.j0 k l (decide ((l.length : Int) > 40)) n v) (fun k => ?_) (Ev.end (fun k => ?_))
      · unfold impl_SamplesOf.f
        rw [impl_IsTable.ev, ht]; rfl
      · simp only [impl_SamplesOf.j0]
        rw [decide_eq_true (by omega), if_pos rfl]; rfl

/-! ### facts on spec_LeastSet -/
--IMPORT M10
/-- the first of the least of the first i + 1 sets -/
def spec_LeastSet.best (l : List Nat) : Nat → Nat
  | 0 => l.getD 0 0
  | i + 1 => if Go.Proofs.Ytonaebjpnmiilaa.M.pc (l.getD (i + 1) 0) < Go.Proofs.Ytonaebjpnmiilaa.M.pc (spec_LeastSet.best l i) then l.getD (i + 1) 0 else spec_LeastSet.best l i
theorem spec_LeastSet.best_mem (l : List Nat) : ∀ i, i < l.length → spec_LeastSet.best l i ∈ l
  | 0, h => by rw [spec_LeastSet.best, List.getD_eq_getElem?_getD, List.getElem?_eq_getElem h]; exact List.getElem_mem h
  | i + 1, h => by
    rw [spec_LeastSet.best]
    split
    · rw [List.getD_eq_getElem?_getD, List.getElem?_eq_getElem h]; exact List.getElem_mem h
    · exact spec_LeastSet.best_mem l i (by omega)
open Go.Proofs.Ytonaebjpnmiilaa.M in
/-- the answer -/
def spec_LeastSet.r (a : Int) (l : List S57) : Int × Bool := if impl_IsSampleList.f a l = some true ∧ (spec_ConsistentSets.sets l (2 ^ a.toNat)).length ≠ 0 then (((spec_LeastSet.best (spec_ConsistentSets.sets l (2 ^ a.toNat)) ((spec_ConsistentSets.sets l (2 ^ a.toNat)).length - 1) : Nat) : Int), true) else (0, false)
open Go.Proofs.Ytonaebjpnmiilaa.M in
theorem spec_LeastSet.bad (l : List Int) : Ev (fun k => spec_LeastSet.j0 k l true) (0, false) := Ev.end (fun k => by simp only [spec_LeastSet.j0, if_true])
open Go.Proofs.Ytonaebjpnmiilaa.M in
theorem spec_LeastSet.ev (a : Int) (l : List S57) : Ev (fun k => spec_LeastSet.f k a l) (spec_LeastSet.r a l) := by
  obtain ⟨q, hq⟩ : ∃ q, impl_IsSampleList.f a l = some q := ⟨_, rfl⟩
  refine Ev.bind (spec_ConsistentSets.ev a l) ?_
  unfold spec_ConsistentSets.r spec_LeastSet.r
  cases q with
  | false =>
    rw [if_neg (by rw [hq]; simp), if_neg (by rw [hq]; simp)]
    exact spec_LeastSet.bad []
  | true =>
    obtain ⟨n, rfl, hn, h40⟩ := spec_IsSampleList.list_n hq
    have h5 := pow_le_5 hn
    rw [if_pos hq, Int.toNat_natCast]
    have hlt := spec_ConsistentSets.sets_lt l (2 ^ n)
    have hlen := spec_ConsistentSets.sets_len l (2 ^ n)
    generalize spec_ConsistentSets.sets l (2 ^ n) = out at *
    simp only [if_true]
    by_cases hz : out.length = 0
    · have e : (((ints out).length : Int) == 0) = true := by rw [ints_length, hz]; rfl
      rw [if_neg (fun e => e.2 hz), e]
      exact spec_LeastSet.bad _
    · have e : (((ints out).length : Int) == 0) = false := by rw [ints_length]; exact beq_eq_false_iff_ne.mpr (by omega)
      rw [if_pos ⟨hq, hz⟩, e]
      have h32 : ∀ i, i < out.length → out.getD i 0 < 2 ^ 32 := fun i hi => by
        have : out.getD i 0 ∈ out := by rw [List.getD_eq_getElem?_getD, List.getElem?_eq_getElem hi]; exact List.getElem_mem hi
        have := hlt _ this; omega
      have loop := Ev.count (fun k i => spec_LeastSet.l0 k (ints out) ((spec_LeastSet.best out i : Nat) : Int) ((i + 1 : Nat) : Int)) (out.length - 1) (((spec_LeastSet.best out (out.length - 1) : Nat) : Int), true) (fun i hi hn' => by
        have hbm := hlt _ (spec_LeastSet.best_mem out i (by omega))
        have c1 := spec_l2Count.ev (h32 (i + 1) (by omega))
        have c2 := spec_l2Count.ev (w := spec_LeastSet.best out i) (by omega)
        refine Ev.step (f := fun k => (spec_l2Count.f k ((out.getD (i + 1) 0 : Nat) : Int)).bind fun t => (spec_l2Count.f k ((spec_LeastSet.best out i : Nat) : Int)).bind fun u => if t < u then spec_LeastSet.l0 k (ints out) ((out.getD (i + 1) 0 : Nat) : Int) ((i + 1 + 1 : Nat) : Int) else spec_LeastSet.l0 k (ints out) ((spec_LeastSet.best out i : Nat) : Int) ((i + 1 + 1 : Nat) : Int)) (fun k => ?_) (Ev.bind c1 (Ev.bind c2 ?_))
        · simp only [spec_LeastSet.l0]
          rw [if_pos (by rw [ints_length]; omega), if_pos (by omega), rd_ints, up1 (by omega)]
        · rw [spec_LeastSet.best] at hn'
          by_cases hp : pc (out.getD (i + 1) 0) < pc (spec_LeastSet.best out i)
          · rw [if_pos hp] at hn'
            exact Ev.congr (fun k => if_pos (by omega)) hn'
          · rw [if_neg hp] at hn'
            exact Ev.congr (fun k => if_neg (by omega)) hn') (Ev.end (fun k => by
        simp only [spec_LeastSet.l0]
        rw [if_neg (by rw [ints_length]; omega)])) (out.length - 1) 0 (by omega)
      refine Ev.step (fun k => ?_) loop
      simp only [spec_LeastSet.j0, Bool.false_eq_true, if_false]
      rw [if_pos (by rw [ints_length]; omega)]
      have := rd_ints out 0
      rw [show rd (ints out) 0 = ((out.getD 0 0 : Nat) : Int) from this]; rfl

/-! ### facts on impl_LeastSet -/
--IMPORT M10
open Go.Proofs.Ytonaebjpnmiilaa.M in
theorem impl_LeastSet.best_eq (out : List Nat) (h : ∀ x ∈ out, x < 32) : ∀ i, i < out.length → slices_MinFunc_int_int.best impl_LeastSet.cf (ints out) i = ((spec_LeastSet.best out i : Nat) : Int)
  | 0, hi => by rw [slices_MinFunc_int_int.best, spec_LeastSet.best, ints_getD]
  | i + 1, hi => by
    have ih := impl_LeastSet.best_eq out h i (by omega)
    have hb := h _ (spec_LeastSet.best_mem out i (by omega))
    have hg : out.getD (i + 1) 0 < 32 := by
      have : out.getD (i + 1) 0 ∈ out := by rw [List.getD_eq_getElem?_getD, List.getElem?_eq_getElem hi]; exact List.getElem_mem hi
      exact h _ this
    rw [slices_MinFunc_int_int.best, spec_LeastSet.best, ih, ints_getD]
    have e : impl_LeastSet.cf ((out.getD (i + 1) 0 : Nat) : Int) ((spec_LeastSet.best out i : Nat) : Int) = ((pc (out.getD (i + 1) 0) : Nat) : Int) - ((pc (spec_LeastSet.best out i) : Nat) : Int) := by
      unfold impl_LeastSet.cf
      rw [impl_ones.ev (by omega), impl_ones.ev (by omega), Option.getD_some, Option.getD_some]
      have h1 := pc_le (out.getD (i + 1) 0)
      have h2 := pc_le (spec_LeastSet.best out i)
      exact w64 (by omega) (by omega)
    rw [e]
    by_cases hp : pc (out.getD (i + 1) 0) < pc (spec_LeastSet.best out i)
    · rw [if_pos hp, if_pos (by omega)]
    · rw [if_neg hp, if_neg (by omega)]
open Go.Proofs.Ytonaebjpnmiilaa.M in
theorem impl_LeastSet.ev (a : Int) (l : List S57) : Ev (fun k => impl_LeastSet.f k a l) (spec_LeastSet.r a l) := by
  obtain ⟨q, hq⟩ : ∃ q, impl_IsSampleList.f a l = some q := ⟨_, rfl⟩
  unfold impl_LeastSet.f spec_LeastSet.r
  cases q with
  | false =>
    rw [hq, if_neg (by simp)]
    exact Ev.now _
  | true =>
    obtain ⟨n, rfl, hn, h40⟩ := spec_IsSampleList.list_n hq
    have h5 := pow_le_5 hn
    have hc := impl_consistent.ev hn l hq
    rw [hq, Int.toNat_natCast]
    have hlt := spec_ConsistentSets.sets_lt l (2 ^ n)
    generalize spec_ConsistentSets.sets l (2 ^ n) = out at *
    simp only [Option.bind_some, if_true, true_and]
    refine Ev.bind hc ?_
    rw [ints_length]
    by_cases hz : out.length = 0
    · rw [if_neg (fun e : out.length ≠ 0 => e hz)]
      exact Ev.congr (fun k => if_pos hz) (Ev.now _)
    · rw [if_pos hz]
      refine Ev.congr (fun k => if_neg hz) ?_
      rw [impl_LeastSet.best_eq out (fun x hx => by have := hlt x hx; omega) (out.length - 1) (by omega)]
      exact Ev.now _

/-! ### facts on spec_DrawLearnTable -/
--IMPORT M14
open Go.Proofs.Ytonaebjpnmiilaa.M in
theorem spec_DrawLearnTable.ok (b : List Int) (hb : b.length ≤ 1048576) : Tot (fun k => spec_DrawLearnTable.f k b) (fun _ => True) := by
  unfold spec_DrawLearnTable.f
  refine Tot.bind (spec_l25Both.ok b hb) (fun s _ => ?_)
  refine Tot.bind (Tot.ev (P := fun _ => True) (spec_LeastSet.ev s.1 s.2) trivial) (fun t _ => ?_)
  have h0 : 0 ≤ (b.length : Int) % 7 := by omega
  have h7 : (b.length : Int) % 7 < ((([0, 1, 3, 5, 15, (-1), 16] : List Int).length : Nat) : Int) := by show _ < (7 : Int); omega
  simp only [Option.bind_some]
  refine Tot.ite _ (fun _ => Tot.ite _ (fun _ => Tot.now _ trivial) (fun _ => ?_)) (fun _ => ?_)
  all_goals exact Tot.congr (fun k => (if_pos h0).trans (if_pos h7)) (Tot.now _ trivial)

/-! ### facts on spec_LearnTable -/
--IMPORT M10
open Go.Proofs.Ytonaebjpnmiilaa.M in
/-- the answer -/
def spec_LearnTable.r (a : Int) (l : List S57) (m : Int) : Int × Int × Bool := if impl_IsSampleList.f a l = some true ∧ inR a.toNat m = true then (a, ((impl_LearnTable.word l m a.toNat : Nat) : Int), true) else (0, 0, false)
open Go.Proofs.Ytonaebjpnmiilaa.M in
theorem spec_LearnTable.hit_of (l : List S57) (m x : Int) (i : Nat) (hi : i < l.length) (hb : ∀ j, j < i → impl_LearnTable.agree m x (l.getD j z57) = false) (h : impl_LearnTable.agree m x (l.getD i z57) = true) : impl_LearnTable.hit l m x = ((l.getD i z57).f1 == 1) := by
  have e : l.findIdx? (impl_LearnTable.agree m x) = some i := by
    rw [List.findIdx?_eq_some_iff_getElem]
    refine ⟨hi, ?_, fun j hj => ?_⟩
    · simpa [List.getD_eq_getElem?_getD, hi] using h
    · have := hb j hj
      simpa [List.getD_eq_getElem?_getD, show j < l.length by omega] using this
  unfold impl_LearnTable.hit; rw [e]
theorem spec_LearnTable.hit_none (l : List S57) (m x : Int) (hb : ∀ j, j < l.length → impl_LearnTable.agree m x (l.getD j z57) = false) : impl_LearnTable.hit l m x = false := by
  have e : l.findIdx? (impl_LearnTable.agree m x) = none := by
    rw [List.findIdx?_eq_none_iff]
    intro y hy
    obtain ⟨j, hj, rfl⟩ := List.getElem_of_mem hy
    have := hb j hj
    simpa [List.getD_eq_getElem?_getD, hj] using this
  unfold impl_LearnTable.hit; rw [e]
open Go.Proofs.Ytonaebjpnmiilaa.M in
theorem spec_LearnTable.bad (a : Int) (l : List S57) (m : Int) : Ev (fun k => spec_LearnTable.j0 k a l m true) (0, 0, false) := Ev.end (fun k => by simp only [spec_LearnTable.j0, if_true])
open Go.Proofs.Ytonaebjpnmiilaa.M in
theorem spec_LearnTable.ev (a : Int) (l : List S57) (m : Int) : Ev (fun k => spec_LearnTable.f k a l m) (spec_LearnTable.r a l m) := by
  obtain ⟨q, hq⟩ : ∃ q, impl_IsSampleList.f a l = some q := ⟨_, rfl⟩
  have h1 := spec_IsSampleList.ev a l q hq
  refine Ev.bind h1 ?_
  cases q with
  | false =>
    have : spec_LearnTable.r a l m = (0, 0, false) := by unfold spec_LearnTable.r; rw [if_neg (by rw [hq]; simp)]
    rw [this]
    exact spec_LearnTable.bad a l m
  | true =>
    obtain ⟨n, rfl, hn, h40⟩ := spec_IsSampleList.list_n hq
    have h5 := pow_le_5 hn
    have hpos := Nat.two_pow_pos n
    have es : wrap64 (shl .i64 1 (n : Int) - 1) = ((2 ^ n : Nat) : Int) - 1 := by rw [shl_one (by omega), w64 (by omega) (by omega)]
    have e1 : decide (0 ≤ m ∧ m ≤ ((2 ^ n : Nat) : Int) - 1) = inR n m := by unfold inR; apply decide_eq_decide.mpr; omega
    simp only [if_true, Int.natCast_nonneg, es, spec_l1In.ev, e1, Option.bind_some]
    cases hb : inR n m with
    | false =>
      have : spec_LearnTable.r (n : Int) l m = (0, 0, false) := by unfold spec_LearnTable.r; rw [if_neg (by rw [Int.toNat_natCast, hb]; simp)]
      rw [this]
      exact spec_LearnTable.bad n l m
    | true =>
      have hr : spec_LearnTable.r (n : Int) l m = ((n : Int), ((impl_LearnTable.word l m n : Nat) : Int), true) := by unfold spec_LearnTable.r; rw [if_pos ⟨hq, by rw [Int.toNat_natCast, hb]⟩, Int.toNat_natCast]
      rw [hr]
      clear hr
      obtain ⟨mm, rfl, hmm⟩ := inR_nat hb
      obtain ⟨_, hs⟩ := spec_IsSampleList.sample hn hq
      unfold impl_LearnTable.word
      generalize hR : ((n : Int), ((Go.Proofs.Ytonaebjpnmiilaa.M.prefW (fun x => impl_LearnTable.hit l (mm : Int) (x : Int)) (2 ^ n) : Nat) : Int), true) = R
      generalize hg : (fun x : Nat => impl_LearnTable.hit l (mm : Int) (x : Int)) = g at *
      have row : ∀ x, x < 2 ^ n → Ev (fun k => spec_LearnTable.l0 k n l mm ((prefW g (x + 1) : Nat) : Int) ((x + 1 : Nat) : Int)) R → Ev (fun k => spec_LearnTable.l0 k n l mm ((prefW g x : Nat) : Int) (x : Int)) R := by
        intro x hx hnext
        have hgx : g x = impl_LearnTable.hit l (mm : Int) (x : Int) := by rw [← hg]
        have inner : ∀ d i, i + d = l.length → (∀ j, j < i → impl_LearnTable.agree (mm : Int) (x : Int) (l.getD j z57) = false) → Ev (fun k => spec_LearnTable.l1 k n l mm ((prefW g x : Nat) : Int) (x : Int) (i : Int)) R := by
          intro d
          induction d with
          | zero =>
            intro i hi hno
            obtain rfl : i = l.length := by omega
            rw [spec_LearnTable.hit_none l _ _ hno] at hgx
            rw [prefW_skip hgx] at hnext
            refine Ev.step (fun k => ?_) hnext
            simp only [spec_LearnTable.l1]
            rw [if_neg (by omega), up1 (by omega)]
          | succ d ih =>
            intro i hi hno
            obtain ⟨y, v, e1, e2, hy, hv⟩ := hs i (by omega)
            have e3 : rd_T57 l (i : Int) = l.getD i z57 := by simp [rd_T57]
            have ht := xor_and_int (a := y) (b := x) (m := mm) (by omega) (by omega) (by omega)
            have ea : impl_LearnTable.agree (mm : Int) (x : Int) (l.getD i z57) = (Go.bits .and .i64 (y : Int) (mm : Int) == Go.bits .and .i64 (x : Int) (mm : Int)) := by unfold impl_LearnTable.agree; rw [e1]
            by_cases c : Go.bits .and .i64 (y : Int) (mm : Int) = Go.bits .and .i64 (x : Int) (mm : Int)
            · rw [spec_LearnTable.hit_of l _ _ i (by omega) hno (by rw [ea]; exact beq_iff_eq.mpr c), e2] at hgx
              have hv2 : v = (g x).toNat := by
                rw [hgx]
                obtain rfl | rfl : v = 0 ∨ v = 1 := by omega
                · rfl
                · rfl
              refine Ev.step (fun k => ?_) hnext
              simp only [spec_LearnTable.l1]
              rw [if_pos (by omega), if_pos (by omega), e3, e1, e2, if_pos (ht.mpr c), if_pos (by omega), hv2, prefW_step (by omega), up1 (by omega)]
            · have hf : impl_LearnTable.agree (mm : Int) (x : Int) (l.getD i z57) = false := by rw [ea]; exact beq_eq_false_iff_ne.mpr c
              refine Ev.step (fun k => ?_) (ih (i + 1) (by omega) (fun j hj => by
                by_cases e : j = i
                · subst e; exact hf
                · exact hno j (by omega)))
              simp only [spec_LearnTable.l1]
              rw [if_pos (by omega), if_pos (by omega), e3, e1, if_neg (fun e => c (ht.mp e)), up1 (by omega)]
        refine Ev.step (fun k => ?_) (inner l.length 0 (by omega) (fun j hj => by omega))
        simp only [spec_LearnTable.l0]
        rw [if_pos (Int.natCast_nonneg n), shl_one (by omega), if_pos (by omega)]; rfl
      have h0 := Ev.count (fun k x => spec_LearnTable.l0 k n l mm ((prefW g x : Nat) : Int) (x : Int)) (2 ^ n) R row (Ev.end (fun k => by
        simp only [spec_LearnTable.l0]
        rw [if_pos (Int.natCast_nonneg n), shl_one (by omega), if_neg (by omega), ← hR])) (2 ^ n) 0 (by omega)
      refine Ev.step (fun k => ?_) h0
      simp only [spec_LearnTable.j0, Bool.not_true, Bool.false_eq_true, if_false]
      rfl

/-! ### facts on impl_LearnTable -/
--IMPORT M10
open Go.Proofs.Ytonaebjpnmiilaa.M in
theorem impl_LearnTable.ev (a : Int) (l : List S57) (m : Int) : impl_LearnTable.f a l m = some (spec_LearnTable.r a l m) := by
  obtain ⟨q, hq⟩ : ∃ q, impl_IsSampleList.f a l = some q := ⟨_, rfl⟩
  unfold impl_LearnTable.f spec_LearnTable.r
  rw [hq]
  cases q with
  | false =>
    show some (0, 0, false) = _
    rw [if_neg (by simp)]
  | true =>
    rw [Option.bind_some, if_pos rfl]
    cases hb : inR a.toNat m with
    | true => rw [if_pos rfl, if_pos ⟨rfl, rfl⟩]
    | false => rw [if_neg (by decide), if_neg (by simp)]

/-! ### facts on spec_DrawIsConsistent -/
--IMPORT M14
open Go.Proofs.Ytonaebjpnmiilaa.M in
theorem spec_DrawIsConsistent.ok (b : List Int) (hb : b.length ≤ 1048576) : Tot (fun k => spec_DrawIsConsistent.f k b) (fun _ => True) := by
  unfold spec_DrawIsConsistent.f
  refine Tot.bind (spec_l1New.ok b hb) (fun r hr => ?_)
  obtain ⟨r1, r2, r3⟩ := r
  obtain ⟨rfl, rfl⟩ := hr
  exact Tot.bind (spec_l25Draw.ok r1 hb 0 r3 (Int.le_refl 0)) (fun s _ => Tot.now _ trivial)

/-! ### facts on spec_DrawLeastSet -/
--IMPORT M14
open Go.Proofs.Ytonaebjpnmiilaa.M in
theorem spec_DrawLeastSet.ok (b : List Int) (hb : b.length ≤ 1048576) : Tot (fun k => spec_DrawLeastSet.f k b) (fun _ => True) := by
  unfold spec_DrawLeastSet.f
  exact Tot.bind (spec_l25Both.ok b hb) (fun s _ => Tot.now _ trivial)

/-! ### facts on spec_DrawErrorsOf -/
--IMPORT M14
open Go.Proofs.Ytonaebjpnmiilaa.M in
theorem spec_DrawErrorsOf.ok (b : List Int) (hb : b.length ≤ 1048576) : Tot (fun k => spec_DrawErrorsOf.f k b) (fun _ => True) := by
  unfold spec_DrawErrorsOf.f
  refine Tot.bind (spec_l1New.ok b hb) (fun r hr => ?_)
  obtain ⟨r1, r2, r3⟩ := r
  obtain ⟨rfl, rfl⟩ := hr
  exact Tot.bind (spec_l25Draw.ok r1 hb 0 r3 (Int.le_refl 0)) (fun s _ => Tot.now _ trivial)

/-! ### facts on spec_DrawIsSampleList -/
--IMPORT M14
open Go.Proofs.Ytonaebjpnmiilaa.M in
theorem spec_DrawIsSampleList.ok (b : List Int) (hb : b.length ≤ 1048576) : Tot (fun k => spec_DrawIsSampleList.f k b) (fun _ => True) := by
  unfold spec_DrawIsSampleList.f
  exact Tot.bind (spec_l25Both.ok b hb) (fun s _ => Tot.now _ trivial)

/-! ### facts on spec_ErrorsOf -/
--IMPORT M5
/-- is a table's value at a sample another one -/
def spec_ErrorsOf.errB (v : Nat) (l : List S57) (j : Nat) : Bool := decide ((((v.testBit (l.getD j z57).f0.toNat).toNat : Nat) : Int) ≠ (l.getD j z57).f1)
open Go.Proofs.Ytonaebjpnmiilaa.M in
/-- how many samples have another value -/
def spec_ErrorsOf.errs (a b : Int) (l : List S57) : Int := if isT a b = true ∧ impl_IsSampleList.f a l = some true then ((cnt (spec_ErrorsOf.errB b.toNat l) l.length : Nat) : Int) else -1
open Go.Proofs.Ytonaebjpnmiilaa.M in
theorem spec_ErrorsOf.ev (a b : Int) (l : List S57) : Ev (fun k => spec_ErrorsOf.f k a b l) (spec_ErrorsOf.errs a b l) := by
  unfold spec_ErrorsOf.errs
  by_cases hc : isT a b = true ∧ impl_IsSampleList.f a l = some true
  · rw [if_pos hc]
    obtain ⟨h1, h2⟩ := hc
    obtain ⟨n, v, rfl, rfl, hn, hv⟩ := isT_nat h1
    have h32 := full_lt hn
    have h5 := pow_le_5 hn
    obtain ⟨h40, hs⟩ := spec_IsSampleList.sample hn h2
    rw [Int.toNat_natCast]
    have key : ∀ d i, i + d = l.length → Ev (fun k => spec_ErrorsOf.l0 k l ((cnt (spec_ErrorsOf.errB v l) i : Nat) : Int) (i : Int) n v) ((cnt (spec_ErrorsOf.errB v l) l.length : Nat) : Int) := by
      refine Ev.count (fun k i => spec_ErrorsOf.l0 k l ((cnt (spec_ErrorsOf.errB v l) i : Nat) : Int) (i : Int) n v) l.length _ ?_ ?_
      · intro i hi h
        have hle := cnt_le (spec_ErrorsOf.errB v l) i
        refine Ev.step (fun k => ?_) h
        obtain ⟨x, y, e1, e2, hx, hy⟩ := hs i hi
        have e3 : rd_T57 l (i : Int) = l.getD i z57 := by simp [rd_T57]
        have eb : spec_ErrorsOf.errB v l i = decide ((((v.testBit x).toNat : Nat) : Int) ≠ (y : Int)) := by unfold spec_ErrorsOf.errB; rw [e1, e2, Int.toNat_natCast]
        simp only [spec_ErrorsOf.l0]
        rw [if_pos (by omega), if_pos (by omega), e3, e1, e2, if_pos (by omega), bit_nat (by omega) (by omega), up1 (by omega), up1 (by omega), cnt, eb]
        by_cases hq : (((v.testBit x).toNat : Nat) : Int) = (y : Int)
        · rw [if_pos hq, decide_eq_false (by omega)]; rfl
        · rw [if_neg hq, decide_eq_true hq]; rfl
      · refine Ev.end (fun k => ?_)
        simp only [spec_ErrorsOf.l0]
        rw [if_neg (by omega)]
    have hl := spec_IsSampleList.ev (n : Int) l true h2
    refine Ev.congr (f := fun k => (spec_IsSampleList.f k n l).bind fun t => spec_ErrorsOf.j0 k l (!t) n v) (fun k => ?_) (Ev.bind hl (Ev.step (fun k => ?_) (key l.length 0 (by omega))))
    · unfold spec_ErrorsOf.f
      rw [spec_IsTable.ev, h1]; rfl
    · simp only [spec_ErrorsOf.j0]
      rw [if_neg (by decide)]; rfl
  · rw [if_neg hc]
    have hj : Ev (fun k => spec_ErrorsOf.j0 k l true a b) (-1) := Ev.end (fun k => by simp only [spec_ErrorsOf.j0, if_true])
    cases h1 : isT a b with
    | false =>
      refine Ev.congr (fun k => ?_) hj
      unfold spec_ErrorsOf.f
      rw [spec_IsTable.ev, h1]; rfl
    | true =>
      obtain ⟨q, hq⟩ : ∃ q, impl_IsSampleList.f a l = some q := ⟨_, rfl⟩
      cases q with
      | true => exact absurd ⟨h1, hq⟩ hc
      | false =>
        refine Ev.congr (f := fun k => (spec_IsSampleList.f k a l).bind fun t => spec_ErrorsOf.j0 k l (!t) a b) (fun k => ?_) (Ev.bind (spec_IsSampleList.ev a l false hq) hj)
        unfold spec_ErrorsOf.f
        rw [spec_IsTable.ev, h1]; rfl

/-! ### facts on impl_ErrorsOf -/
--IMPORT M5
open Go.Proofs.Ytonaebjpnmiilaa.M in
theorem impl_ErrorsOf.ev (a b : Int) (l : List S57) : Ev (fun k => impl_ErrorsOf.f k a b l) (spec_ErrorsOf.errs a b l) := by
  unfold spec_ErrorsOf.errs
  by_cases hc : isT a b = true ∧ impl_IsSampleList.f a l = some true
  · rw [if_pos hc]
    obtain ⟨h1, h2⟩ := hc
    obtain ⟨n, v, rfl, rfl, hn, hv⟩ := isT_nat h1
    have h32 := full_lt hn
    have h5 := pow_le_5 hn
    obtain ⟨h40, hs⟩ := spec_IsSampleList.sample hn h2
    rw [Int.toNat_natCast]
    have key : ∀ d i, i + d = l.length → Ev (fun k => impl_ErrorsOf.l0 k ((cnt (spec_ErrorsOf.errB v l) i : Nat) : Int) l (l.length : Int) (i : Int) n v) ((cnt (spec_ErrorsOf.errB v l) l.length : Nat) : Int) := by
      refine Ev.count (fun k i => impl_ErrorsOf.l0 k ((cnt (spec_ErrorsOf.errB v l) i : Nat) : Int) l (l.length : Int) (i : Int) n v) l.length _ ?_ ?_
      · intro i hi h
        have hle := cnt_le (spec_ErrorsOf.errB v l) i
        refine Ev.step (fun k => ?_) h
        obtain ⟨x, y, e1, e2, hx, hy⟩ := hs i hi
        have e3 : rd_T57 l (i : Int) = l.getD i z57 := by simp [rd_T57]
        simp only [impl_ErrorsOf.l0]
        rw [if_pos (by omega), if_pos (by omega), if_pos (by omega), e3, e1, e2]
        unfold impl_Table_at.f
        rw [if_pos (Int.natCast_nonneg x), bit_nat (by omega) (by omega)]
        simp only [Option.bind_some]
        have eb : spec_ErrorsOf.errB v l i = decide ((((v.testBit x).toNat : Nat) : Int) ≠ (y : Int)) := by unfold spec_ErrorsOf.errB; rw [e1, e2, Int.toNat_natCast]
        have ex : Go.bits .xor .i64 (((v.testBit x).toNat : Nat) : Int) (y : Int) = (((spec_ErrorsOf.errB v l i).toNat : Nat) : Int) := by
          rw [eb, xor_nat (Nat.lt_trans (toNat_lt _) (by decide)) (by omega)]
          obtain rfl | rfl : y = 0 ∨ y = 1 := by omega
          all_goals cases v.testBit x <;> rfl
        have hb := toNat_le (spec_ErrorsOf.errB v l i)
        rw [ex, w64 (by omega) (by omega), up1 (by omega), cnt]
        congr 1
      · refine Ev.end (fun k => ?_)
        simp only [impl_ErrorsOf.l0]
        rw [if_neg (by omega)]
    refine Ev.congr (f := fun k => impl_ErrorsOf.j0 k l false n v) (fun k => ?_) (Ev.step (fun k => ?_) (key l.length 0 (by omega)))
    · unfold impl_ErrorsOf.f
      rw [impl_IsTable.ev, h1, h2]; rfl
    · simp only [impl_ErrorsOf.j0]
      rw [if_neg (by decide)]; rfl
  · rw [if_neg hc]
    refine Ev.congr (f := fun k => impl_ErrorsOf.j0 k l true a b) (fun k => ?_) (Ev.end (fun k => by simp only [impl_ErrorsOf.j0, if_true]))
    unfold impl_ErrorsOf.f
    rw [impl_IsTable.ev]
    cases h1 : isT a b with
    | false => rfl
    | true =>
      obtain ⟨q, hq⟩ : ∃ q, impl_IsSampleList.f a l = some q := ⟨_, rfl⟩
      cases q with
      | true => exact absurd ⟨h1, hq⟩ hc
      | false => rw [hq]; rfl

/-! ### facts on impl_IsConsistent -/
--IMPORT M5
theorem impl_IsConsistent.ev (a b : Int) (l : List S57) : Ev (fun k => impl_IsConsistent.f k a b l) (spec_ErrorsOf.errs a b l == 0) := Ev.bind (impl_ErrorsOf.ev a b l) (Ev.now _)

/-! ### facts on spec_IsConsistent -/
--IMPORT M5
/-! ### facts on laws_FnLearning -/
--IMPORT M24
--IMPORT M14
--IMPORT M10
--IMPORT M4
open Go.Proofs.Ytonaebjpnmiilaa.M in
/-- a list that is fine: each sample's input and value -/
theorem laws_FnLearning.smp {n : Nat} {l : List S57} (hn : n ≤ 5) (hl : impl_IsSampleList.f (n : Int) l = some true) {j : Nat} (hj : j < l.length) : ∃ x y : Nat, (l.getD j z57).f0 = (x : Int) ∧ (l.getD j z57).f1 = (y : Int) ∧ x < 2 ^ n ∧ y ≤ 1 := (spec_IsSampleList.sample hn hl).2 j hj
open Go.Proofs.Ytonaebjpnmiilaa.M in
theorem laws_FnLearning.fits_eq {l : List S57} {m : Int} (hf : spec_l25Fits.fits l m = true) {i j : Nat} (hi : i < l.length) (hj : j < l.length) (h : Go.bits .and .i64 (l.getD i z57).f0 m = Go.bits .and .i64 (l.getD j z57).f0 m) : (l.getD i z57).f1 = (l.getD j z57).f1 := by
  have key : ∀ i j, i < l.length → j < i → Go.bits .and .i64 (l.getD i z57).f0 m = Go.bits .and .i64 (l.getD j z57).f0 m → (l.getD i z57).f1 = (l.getD j z57).f1 := by
    intro i j hi hj h
    unfold spec_l25Fits.fits at hf
    have h1 := (spec_l25Fits.eqB rfl rfl rfl rfl).mp (allB_of (allB_of hf i hi) j hj)
    by_cases e : (l.getD i z57).f1 = (l.getD j z57).f1
    · exact e
    · exact absurd ⟨h, e⟩ h1
  rcases Nat.lt_trichotomy i j with h1 | h1 | h1
  · exact (key j i hj h1 h.symm).symm
  · rw [h1]
  · exact key i j hi h1 h
open Go.Proofs.Ytonaebjpnmiilaa.M in
/-- what is learned at a sample's input is its value -/
theorem laws_FnLearning.hit_fit {l : List S57} {m : Int} (hf : spec_l25Fits.fits l m = true) {j : Nat} (hj : j < l.length) : impl_LearnTable.hit l m (l.getD j z57).f0 = ((l.getD j z57).f1 == 1) := by
  unfold impl_LearnTable.hit
  cases e : l.findIdx? (impl_LearnTable.agree m (l.getD j z57).f0) with
  | none =>
    exfalso
    have h1 := List.findIdx?_eq_none_iff.mp e l[j] (List.getElem_mem hj)
    have e1 : l.getD j z57 = l[j] := by simp [List.getD_eq_getElem?_getD, hj]
    rw [e1] at h1
    unfold impl_LearnTable.agree at h1
    rw [beq_self_eq_true] at h1
    cases h1
  | some i =>
    obtain ⟨hi, h1, _⟩ := List.findIdx?_eq_some_iff_getElem.mp e
    have e1 : l.getD i z57 = l[i] := by simp [List.getD_eq_getElem?_getD, hi]
    rw [← e1] at h1
    unfold impl_LearnTable.agree at h1
    show ((l.getD i z57).f1 == 1) = _
    rw [laws_FnLearning.fits_eq hf hi hj (beq_iff_eq.mp h1)]
open Go.Proofs.Ytonaebjpnmiilaa.M in
theorem laws_FnLearning.cnt_no {p : Nat → Bool} : ∀ {m : Nat}, (∀ i, i < m → p i = false) → cnt p m = 0
  | 0, _ => rfl
  | m + 1, h => by rw [cnt, laws_FnLearning.cnt_no (fun i hi => h i (by omega)), h m (by omega)]; rfl
open Go.Proofs.Ytonaebjpnmiilaa.M in
theorem laws_FnLearning.errs_no {n v : Nat} {l : List S57} (hn : n ≤ 5) (hv : v < 2 ^ 2 ^ n) (hl : impl_IsSampleList.f (n : Int) l = some true) (h : ∀ j, j < l.length → v.testBit (l.getD j z57).f0.toNat = ((l.getD j z57).f1 == 1)) : spec_ErrorsOf.errs (n : Int) (v : Int) l = 0 := by
  unfold spec_ErrorsOf.errs
  rw [if_pos ⟨isT_mk hn hv, hl⟩, laws_FnLearning.cnt_no]
  · rfl
  · intro j hj
    obtain ⟨x, y, e1, e2, hx, hy⟩ := laws_FnLearning.smp hn hl hj
    have h1 := h j hj
    unfold spec_ErrorsOf.errB
    rw [Int.toNat_natCast, h1, e2]
    have : y = 0 ∨ y = 1 := by omega
    rcases this with rfl | rfl <;> rfl
open Go.Proofs.Ytonaebjpnmiilaa.M in
/-- the learned table has no errors -/
theorem laws_FnLearning.learn_errs {n m : Nat} {l : List S57} (hn : n ≤ 5) (hl : impl_IsSampleList.f (n : Int) l = some true) (hf : spec_l25Fits.fits l (m : Int) = true) : spec_ErrorsOf.errs (n : Int) ((impl_LearnTable.word l (m : Int) n : Nat) : Int) l = 0 := by
  refine laws_FnLearning.errs_no hn (prefW_lt _ _) hl (fun j hj => ?_)
  obtain ⟨x, y, e1, e2, hx, hy⟩ := laws_FnLearning.smp hn hl hj
  have h1 := laws_FnLearning.hit_fit hf hj
  unfold impl_LearnTable.word
  rw [testBit_prefW, e1, Int.toNat_natCast, decide_eq_true hx, Bool.true_and, ← h1, e1]
open Go.Proofs.Ytonaebjpnmiilaa.M in
/-- it depends on no variable out of the set -/
theorem laws_FnLearning.learn_rst {n m i : Nat} (l : List S57) (hn : n ≤ 5) (hm : m < 32) (hi : i < n) (hb : m.testBit i = false) : rstW n (impl_LearnTable.word l (m : Int) n) i 0 = rstW n (impl_LearnTable.word l (m : Int) n) i 1 := by
  have h5 := pow_le_5 hn
  have h16 := half16 hn
  unfold rstW
  refine prefW_congr (fun z hz => ?_)
  obtain ⟨r0, r1⟩ := ins_room n (by omega) z (by omega) i (by omega) hi hz
  have hmk := ins_mask z (by omega) i (by omega) m hm hb
  unfold impl_LearnTable.word
  rw [testBit_prefW, testBit_prefW, decide_eq_true r0, decide_eq_true r1, Bool.true_and, Bool.true_and]
  have e : impl_LearnTable.agree (m : Int) ((ins z i 0 : Nat) : Int) = impl_LearnTable.agree (m : Int) ((ins z i 1 : Nat) : Int) := by
    funext s
    unfold impl_LearnTable.agree
    rw [and_nat (a := ins z i 0) (b := m) (by omega) (by omega), and_nat (a := ins z i 1) (b := m) (by omega) (by omega), hmk]
  unfold impl_LearnTable.hit
  rw [e]
/-! the least sets -/
theorem laws_FnLearning.sets_fit (l : List S57) : ∀ M, ∀ x ∈ spec_ConsistentSets.sets l M, spec_l25Fits.fits l (x : Int) = true
  | 0, x, h => by simp [spec_ConsistentSets.sets] at h
  | M + 1, x, h => by
    rw [spec_ConsistentSets.sets] at h
    split at h
    · rename_i hok
      rcases List.mem_append.mp h with h | h
      · exact laws_FnLearning.sets_fit l M x h
      · obtain rfl : x = M := by simpa using h
        unfold spec_ConsistentSets.okm at hok
        rw [Bool.and_eq_true] at hok
        exact hok.1
    · exact laws_FnLearning.sets_fit l M x h
theorem laws_FnLearning.sets_up (l : List S57) (m x : Nat) (h : x ∈ spec_ConsistentSets.sets l m) : ∀ d, x ∈ spec_ConsistentSets.sets l (m + d)
  | 0 => h
  | d + 1 => by
    rw [← Nat.add_assoc, spec_ConsistentSets.sets]
    split
    · exact List.mem_append.mpr (.inl (laws_FnLearning.sets_up l m x h d))
    · exact laws_FnLearning.sets_up l m x h d
/-- each set that tells all values holds a least one -/
theorem laws_FnLearning.sets_some (l : List S57) {m M : Nat} (hf : spec_l25Fits.fits l (m : Int) = true) (hm : m < M) : ∃ x ∈ spec_ConsistentSets.sets l M, x &&& m = x := by
  suffices h : ∃ x ∈ spec_ConsistentSets.sets l (m + 1), x &&& m = x by
    obtain ⟨x, h1, h2⟩ := h
    have := laws_FnLearning.sets_up l (m + 1) x h1 (M - (m + 1))
    rw [show m + 1 + (M - (m + 1)) = M by omega] at this
    exact ⟨x, this, h2⟩
  rw [spec_ConsistentSets.sets]
  by_cases hok : spec_ConsistentSets.okm l (spec_ConsistentSets.sets l m) m = true
  · rw [if_pos hok]
    exact ⟨m, List.mem_append.mpr (.inr (by simp)), Nat.and_self m⟩
  · rw [if_neg hok]
    unfold spec_ConsistentSets.okm at hok
    rw [hf, Bool.true_and, Bool.not_eq_true'] at hok
    have h1 : (spec_ConsistentSets.sets l m).any (fun x => x &&& m == x) = true := by
      cases hq : (spec_ConsistentSets.sets l m).any (fun x => x &&& m == x) with
      | true => rfl
      | false => exact absurd hq hok
    obtain ⟨x, hx, h2⟩ := List.any_eq_true.mp h1
    exact ⟨x, hx, beq_iff_eq.mp h2⟩
open Go.Proofs.Ytonaebjpnmiilaa.M in
theorem laws_FnLearning.best_le (l : List Nat) : ∀ i, i < l.length → ∀ j, j ≤ i → pc (spec_LeastSet.best l i) ≤ pc (l.getD j 0)
  | 0, _, j, hj => by obtain rfl : j = 0 := by omega
                      exact Nat.le_refl _
  | i + 1, hi, j, hj => by
    have ih := laws_FnLearning.best_le l i (by omega)
    rw [spec_LeastSet.best]
    by_cases hji : j = i + 1
    · subst hji
      split
      · exact Nat.le_refl _
      · omega
    · have := ih j (by omega)
      split <;> omega
open Go.Proofs.Ytonaebjpnmiilaa.M in
/-- the samples of a table are told by the variables that it depends on -/
theorem laws_FnLearning.own_fits {n v V : Nat} (hn : n ≤ 5) {q : List Int} (hq : ∀ x ∈ q, inR n x = true) (hVl : V < 32) (hV : ∀ i, i < n → V.testBit i = false → rstW n v i 0 = rstW n v i 1) : spec_l25Fits.fits (q.map (spec_SamplesOf.samp v)) (V : Int) = true := by
  have h5 := pow_le_5 hn
  have hget : ∀ j, j < q.length → ∃ x : Nat, x < 2 ^ n ∧ ((q.map (spec_SamplesOf.samp v)).getD j z57).f0 = (x : Int) ∧ ((q.map (spec_SamplesOf.samp v)).getD j z57).f1 = (((v.testBit x).toNat : Nat) : Int) := by
    intro j hj
    obtain ⟨x, hx, hlt⟩ := inR_nat (hq q[j] (List.getElem_mem hj))
    refine ⟨x, hlt, ?_⟩
    have e : (q.map (spec_SamplesOf.samp v)).getD j z57 = spec_SamplesOf.samp v (x : Int) := by
      rw [← hx]
      simp [List.getD_eq_getElem?_getD, hj]
    rw [e]
    exact ⟨rfl, rfl⟩
  unfold spec_l25Fits.fits
  rw [List.length_map]
  refine allB_iff.mpr (fun i hi => allB_iff.mpr (fun j hj => ?_))
  obtain ⟨x, hx, a1, a2⟩ := hget i hi
  obtain ⟨y, hy, b1, b2⟩ := hget j (by omega)
  refine (spec_l25Fits.eqB a1 a2 b1 b2).mpr (fun h => ?_)
  obtain ⟨h1, h2⟩ := h
  rw [and_nat (by omega) (by omega), and_nat (by omega) (by omega)] at h1
  exact h2 (by rw [told_by hn hV hx hy (by exact_mod_cast h1)])
open Go.Proofs.Ytonaebjpnmiilaa.M in
theorem laws_FnLearning.own_list {n : Nat} (hn : n ≤ 5) (v : Nat) {q : List Int} (hq : ∀ x ∈ q, inR n x = true) (h40 : q.length ≤ 40) : impl_IsSampleList.f (n : Int) (q.map (spec_SamplesOf.samp v)) = some true := by
  unfold impl_IsSampleList.f
  have h1 : (q.map (spec_SamplesOf.samp v)).all (impl_IsSampleList.ok (n : Int)) = true := by
    rw [List.all_eq_true]
    intro s hs
    obtain ⟨x, hx, rfl⟩ := List.mem_map.mp hs
    obtain ⟨y, rfl, hy⟩ := inR_nat (hq x hx)
    unfold impl_IsSampleList.ok spec_SamplesOf.samp
    rw [Bool.and_eq_true]
    refine ⟨decide_eq_true ⟨Int.natCast_nonneg _, by show (y : Int) < _; rw [Int.toNat_natCast]; exact_mod_cast hy⟩, decide_eq_true ?_⟩
    dsimp only
    cases v.testBit (y : Int).toNat
    · exact .inl rfl
    · exact .inr rfl
  rw [h1, decide_eq_true (show 0 ≤ (n : Int) ∧ (n : Int) ≤ 5 by omega), List.length_map, decide_eq_true h40]; rfl
open Go.Proofs.Ytonaebjpnmiilaa.M in
theorem laws_FnLearning.same_ev (L : List Int) (hL : L.length ≤ 1000000) : Ev (fun q => laws_sameInts.f q L L) true := by
  refine Ev.congr (f := fun q => laws_sameInts.l0 q L L 0) (fun q => by unfold laws_sameInts.f; rw [if_pos rfl]) ?_
  exact Ev.count (fun q i => laws_sameInts.l0 q L L (i : Int)) L.length _ (fun i hi h => by
    refine Ev.step (fun q => ?_) h
    simp only [laws_sameInts.l0]
    rw [if_pos (by omega), if_pos (Int.natCast_nonneg i), if_pos (by omega), if_pos trivial, up1 (by omega)]) (Ev.end (fun q => by
    simp only [laws_sameInts.l0]
    rw [if_neg (by omega)])) L.length 0 (by omega)
open Go.Proofs.Ytonaebjpnmiilaa.M in
theorem laws_FnLearning.sameS_ev (L : List S57) (hL : L.length ≤ 1000000) : Ev (fun q => laws_sameSamples.f q L L) true := by
  refine Ev.congr (f := fun q => laws_sameSamples.l0 q L L 0) (fun q => by unfold laws_sameSamples.f; rw [if_pos rfl]) ?_
  exact Ev.count (fun q i => laws_sameSamples.l0 q L L (i : Int)) L.length _ (fun i hi h => by
    refine Ev.step (fun q => ?_) h
    simp only [laws_sameSamples.l0]
    rw [if_pos (by omega), if_pos (Int.natCast_nonneg i), if_pos (by omega), if_neg (by simp), up1 (by omega)]) (Ev.end (fun q => by
    simp only [laws_sameSamples.l0]
    rw [if_neg (by omega)])) L.length 0 (by omega)
open Go.Proofs.Ytonaebjpnmiilaa.M in
theorem laws_FnLearning.has_ev (L : List Nat) (x : Nat) (hx : x ∈ L) (hL : L.length ≤ 1000000) : Ev (fun q => laws_has.f q (ints L) (x : Int)) true := by
  have hl : (ints L).length = L.length := ints_length L
  have hr : ∀ i : Nat, rd (ints L) (i : Int) = ((L.getD i 0 : Nat) : Int) := fun i => by rw [rd_nat, ints_getD]
  obtain ⟨j, hj, he⟩ := List.getElem_of_mem hx
  refine Ev.bad (fun q i => laws_has.l0 q (ints L) (x : Int) (i : Int)) L.length true (fun i => L.getD i 0 != x) (fun i hi hk h => ?_) (fun i hi hk => ?_) L.length 0 (by omega) ⟨j, Nat.zero_le _, hj, by simp [List.getD_eq_getElem?_getD, hj, he]⟩
  · have hne : ¬ L.getD i 0 = x := bne_iff_ne.mp hk
    refine Ev.step (fun q => ?_) h
    simp only [laws_has.l0]
    rw [if_pos (by omega), if_pos (Int.natCast_nonneg i), hr, if_neg (by omega), up1 (by omega)]
  · have he : L.getD i 0 = x := by simpa using hk
    refine Ev.end (fun q => ?_)
    simp only [laws_has.l0]
    rw [if_pos (by omega), if_pos (Int.natCast_nonneg i), hr, if_pos (by omega)]
/-! the variables of a table -/
def laws_FnLearning.dep (n v i : Nat) : Bool := !(Go.Proofs.Ytonaebjpnmiilaa.M.rstW n v i 0 == Go.Proofs.Ytonaebjpnmiilaa.M.rstW n v i 1)
def laws_FnLearning.vars (n v : Nat) : Nat → List Nat
  | 0 => []
  | i + 1 => if laws_FnLearning.dep n v i = true then laws_FnLearning.vars n v i ++ [i] else laws_FnLearning.vars n v i
open Go.Proofs.Ytonaebjpnmiilaa.M in
theorem laws_FnLearning.vars_len (n v : Nat) : ∀ m, (laws_FnLearning.vars n v m).length = cnt (laws_FnLearning.dep n v) m
  | 0 => rfl
  | m + 1 => by
    have ih := laws_FnLearning.vars_len n v m
    rw [laws_FnLearning.vars, cnt]
    cases h : laws_FnLearning.dep n v m
    · rw [if_neg (by decide), ih]; rfl
    · rw [if_pos rfl, List.length_append, ih]; rfl
theorem laws_FnLearning.vars_mem (n v : Nat) : ∀ m, ∀ i ∈ laws_FnLearning.vars n v m, i < m ∧ laws_FnLearning.dep n v i = true
  | 0, i, h => by simp [laws_FnLearning.vars] at h
  | m + 1, i, h => by
    rw [laws_FnLearning.vars] at h
    split at h
    · rename_i hd
      rcases List.mem_append.mp h with h | h
      · have := laws_FnLearning.vars_mem n v m i h; exact ⟨by omega, this.2⟩
      · obtain rfl : i = m := by simpa using h
        exact ⟨by omega, hd⟩
    · have := laws_FnLearning.vars_mem n v m i h; exact ⟨by omega, this.2⟩
open Go.Proofs.Ytonaebjpnmiilaa.M in
theorem laws_FnLearning.dep_ev {n v i : Nat} (hn : n ≤ 5) (hv : v < 2 ^ 2 ^ n) (hi : i < n) : impl_Table_depends.f (n : Int) (v : Int) (i : Int) = some (laws_FnLearning.dep n v i) := by
  have h32 := full_lt hn
  have e0 := impl_Table_restrict.ev (n := n) (v := v) (i := i) (b := 0) (by omega) hn (by omega) hi (by omega)
  have e1 := impl_Table_restrict.ev (n := n) (v := v) (i := i) (b := 1) (by omega) hn (by omega) hi (by omega)
  have e0 : impl_Table_restrict.f (n : Int) (v : Int) (i : Int) 0 = some (((n - 1 : Nat) : Int), ((rstW n v i 0 : Nat) : Int)) := e0
  have e1 : impl_Table_restrict.f (n : Int) (v : Int) (i : Int) 1 = some (((n - 1 : Nat) : Int), ((rstW n v i 1 : Nat) : Int)) := e1
  unfold impl_Table_depends.f laws_FnLearning.dep
  rw [e0, e1]
  simp only [Option.bind_some, beq_self_eq_true, Bool.not_true, Bool.false_or]
  congr 2
  rw [Bool.eq_iff_iff, beq_iff_eq, beq_iff_eq]; omega
open Go.Proofs.Ytonaebjpnmiilaa.M in
theorem laws_FnLearning.vars_ev {n v : Nat} (hn : n ≤ 5) (hv : v < 2 ^ 2 ^ n) : Ev (fun k => impl_VariablesOf.f k (n : Int) (v : Int)) (ints (laws_FnLearning.vars n v n)) := by
  refine Ev.congr (f := fun k => impl_VariablesOf.l0 k (ints (laws_FnLearning.vars n v 0)) (n : Int) ((0 : Nat) : Int) (n : Int) (v : Int)) (fun k => by unfold impl_VariablesOf.f; rw [impl_IsTable.ev, isT_mk hn hv]; rfl) ?_
  refine Ev.count (fun k i => impl_VariablesOf.l0 k (ints (laws_FnLearning.vars n v i)) (n : Int) (i : Int) (n : Int) (v : Int)) n _ (fun i hi h => ?_) (Ev.end (fun k => ?_)) n 0 (by omega)
  · have hd := laws_FnLearning.dep_ev hn hv hi
    have hl := laws_FnLearning.vars_len n v i
    have hc := cnt_le (laws_FnLearning.dep n v) i
    have hil := ints_length (laws_FnLearning.vars n v i)
    rw [laws_FnLearning.vars] at h
    refine Ev.step (fun k => ?_) h
    simp only [impl_VariablesOf.l0]
    rw [if_pos (by omega), hd, Option.bind_some, up1 (by omega)]
    cases laws_FnLearning.dep n v i
    · rw [if_neg (by decide), if_neg (by decide)]
    · rw [if_pos rfl, if_pos (by omega), if_pos rfl, ints_append]
  · simp only [impl_VariablesOf.l0]
    rw [if_neg (by omega)]
/-- the set of a table's variables -/
def laws_FnLearning.mask (n v : Nat) : Nat := Go.Proofs.Ytonaebjpnmiilaa.M.prefW (laws_FnLearning.dep n v) n
open Go.Proofs.Ytonaebjpnmiilaa.M in
theorem laws_FnLearning.mask_rst {n v i : Nat} (hi : i < n) (h : (laws_FnLearning.mask n v).testBit i = false) : rstW n v i 0 = rstW n v i 1 := by
  unfold laws_FnLearning.mask at h
  rw [testBit_prefW, decide_eq_true hi, Bool.true_and] at h
  unfold laws_FnLearning.dep at h
  simpa using h
open Go.Proofs.Ytonaebjpnmiilaa.M in
/-- the six that are drawn again -/
theorem laws_FnLearning.j6_ev (l : List Int) (hb : l.length ≤ 1048576) : Ev (fun k => laws_FnLearning.j6 k l) true := by
  obtain ⟨⟨a1, a2, a3⟩, _, hA⟩ := spec_DrawLearnTable.ok l hb
  obtain ⟨⟨b1, b2, b3⟩, _, hB⟩ := spec_DrawIsConsistent.ok l hb
  obtain ⟨⟨c1, c2⟩, _, hC⟩ := spec_DrawLeastSet.ok l hb
  obtain ⟨⟨d1, d2, d3⟩, _, hD⟩ := spec_DrawErrorsOf.ok l hb
  obtain ⟨⟨e1, e2⟩, _, hE⟩ := spec_DrawIsSampleList.ok l hb
  have hA1 := impl_LearnTable.ev a1 a2 a3
  have hA2 := spec_LearnTable.ev a1 a2 a3
  have hB1 := impl_IsConsistent.ev b1 b2 b3
  have hB2 : Ev (fun k => spec_IsConsistent.f k b1 b2 b3) (spec_ErrorsOf.errs b1 b2 b3 == 0) := Ev.bind (spec_ErrorsOf.ev b1 b2 b3) (Ev.now _)
  have hC1 := impl_LeastSet.ev c1 c2
  have hC2 := spec_LeastSet.ev c1 c2
  have hD1 := impl_ErrorsOf.ev d1 d2 d3
  have hD2 := spec_ErrorsOf.ev d1 d2 d3
  obtain ⟨q, hq⟩ : ∃ q, impl_IsSampleList.f e1 e2 = some q := ⟨_, rfl⟩
  have hE2 := spec_IsSampleList.ev e1 e2 q hq
  generalize spec_LearnTable.r a1 a2 a3 = ra at *
  generalize (spec_ErrorsOf.errs b1 b2 b3 == 0) = rb at *
  generalize spec_LeastSet.r c1 c2 = rc at *
  generalize spec_ErrorsOf.errs d1 d2 d3 = rdd at *
  obtain ⟨K1, k1⟩ := hA
  obtain ⟨K2, k2⟩ := hB
  obtain ⟨K3, k3⟩ := hC
  obtain ⟨K4, k4⟩ := hD
  obtain ⟨K5, k5⟩ := hE
  obtain ⟨K6, k6⟩ := hA2
  obtain ⟨K7, k7⟩ := hB1
  obtain ⟨K8, k8⟩ := hB2
  obtain ⟨K9, k9⟩ := hC1
  obtain ⟨L1, l1⟩ := hC2
  obtain ⟨L2, l2⟩ := hD1
  obtain ⟨L3, l3⟩ := hD2
  obtain ⟨L4, l4⟩ := hE2
  refine Ev.since (K1 + K2 + K3 + K4 + K5 + K6 + K7 + K8 + K9 + L1 + L2 + L3 + L4 + 1) fun q' hq' => ?_
  obtain ⟨p, rfl⟩ : ∃ p, q' = p + 1 := ⟨q' - 1, by omega⟩
  replace k1 := k1 p (by omega)
  replace k2 := k2 p (by omega)
  replace k3 := k3 p (by omega)
  replace k4 := k4 p (by omega)
  replace k5 := k5 p (by omega)
  replace k6 := k6 p (by omega)
  replace k7 := k7 p (by omega)
  replace k8 := k8 p (by omega)
  replace k9 := k9 p (by omega)
  replace l1 := l1 p (by omega)
  replace l2 := l2 p (by omega)
  replace l3 := l3 p (by omega)
  replace l4 := l4 p (by omega)
  simp only [laws_FnLearning.j6, k1, k2, k3, k4, k5, k6, k7, k8, k9, l1, l2, l3, l4, hA1, hq, Option.bind_some, ↓reduceIte, beq_self_eq_true, Bool.and_self]
open Go.Proofs.Ytonaebjpnmiilaa.M in
/-- a table's own samples -/
theorem laws_FnLearning.j5_ev (l : List Int) (hb : l.length ≤ 1048576) (a b : Int) (q : List Int) (one : Bool) (hone : one = (spec_SamplesOf.res a b q).2) : Ev (fun k => laws_FnLearning.j5 k l one (spec_SamplesOf.res a b q).1 false a b) true := by
  have h6 := laws_FnLearning.j6_ev l hb
  unfold spec_SamplesOf.res at hone ⊢
  cases hok : spec_SamplesOf.okay a b q with
  | false =>
    rw [hok] at hone
    simp only [Bool.false_eq_true, ↓reduceIte] at hone ⊢
    subst hone
    refine Ev.step (fun k => ?_) h6
    simp only [laws_FnLearning.j5, Bool.false_eq_true, ↓reduceIte]
  | true =>
    rw [hok] at hone
    simp only [↓reduceIte] at hone ⊢
    subst hone
    unfold spec_SamplesOf.okay at hok
    rw [Bool.and_eq_true, Bool.and_eq_true] at hok
    obtain ⟨ht, h40, hall⟩ := hok
    have h40 := of_decide_eq_true h40
    obtain ⟨n, v, rfl, rfl, hn, hv⟩ := isT_nat ht
    rw [Int.toNat_natCast] at hall
    have hin : ∀ x ∈ q, inR n x = true := fun x hx => List.all_eq_true.mp hall x hx
    have h5 := pow_le_5 hn
    simp only [Int.toNat_natCast]
    have hlist := laws_FnLearning.own_list hn v hin h40
    have hVlt : laws_FnLearning.mask n v < 2 ^ n := prefW_lt _ _
    have hfit := laws_FnLearning.own_fits (V := laws_FnLearning.mask n v) hn hin (by omega) (fun i hi h => laws_FnLearning.mask_rst hi h)
    have herr := laws_FnLearning.errs_no hn hv hlist (fun j hj => by
      rw [List.length_map] at hj
      have e : (q.map (spec_SamplesOf.samp v)).getD j z57 = spec_SamplesOf.samp v q[j] := by simp [List.getD_eq_getElem?_getD, hj]
      rw [e]
      unfold spec_SamplesOf.samp
      dsimp only
      cases v.testBit q[j].toNat <;> rfl)
    obtain ⟨x, hx, hxm⟩ := laws_FnLearning.sets_some (M := 2 ^ n) (q.map (spec_SamplesOf.samp v)) hfit hVlt
    have hls := impl_LeastSet.ev (n : Int) (q.map (spec_SamplesOf.samp v))
    have hcon := impl_IsConsistent.ev (n : Int) (v : Int) (q.map (spec_SamplesOf.samp v))
    rw [herr] at hcon
    have hvar := laws_FnLearning.vars_ev hn hv
    have hsl := spec_ConsistentSets.sets_lt (q.map (spec_SamplesOf.samp v)) (2 ^ n)
    generalize q.map (spec_SamplesOf.samp v) = B at *
    have hne : (spec_ConsistentSets.sets B (2 ^ n)).length ≠ 0 := by
      intro e
      rw [List.length_eq_zero_iff] at e
      rw [e] at hx; cases hx
    unfold spec_LeastSet.r at hls
    rw [Int.toNat_natCast, if_pos ⟨hlist, hne⟩] at hls
    have hbm := spec_LeastSet.best_mem (spec_ConsistentSets.sets B (2 ^ n)) ((spec_ConsistentSets.sets B (2 ^ n)).length - 1) (by omega)
    have hbl := laws_FnLearning.best_le (spec_ConsistentSets.sets B (2 ^ n)) ((spec_ConsistentSets.sets B (2 ^ n)).length - 1) (by omega)
    obtain ⟨j, hj, hje⟩ := List.getElem_of_mem hx
    have hjd : (spec_ConsistentSets.sets B (2 ^ n)).getD j 0 = x := by simp [List.getD_eq_getElem?_getD, hj, hje]
    have hbj := hbl j (by omega)
    rw [hjd] at hbj
    generalize spec_LeastSet.best (spec_ConsistentSets.sets B (2 ^ n)) ((spec_ConsistentSets.sets B (2 ^ n)).length - 1) = best at *
    have hblt := hsl best hbm
    have hb32 : best < 32 := by omega
    have hcount : impl_CountOnes.f 5 (best : Int) = some ((pc best : Nat) : Int) := by
      unfold impl_CountOnes.f
      have e : isT ((5 : Nat) : Int) (best : Int) = true := isT_mk (by decide) (Nat.lt_of_lt_of_le hb32 (by decide))
      have e : isT 5 (best : Int) = true := e
      rw [impl_IsTable.ev, e, Option.bind_some, if_pos rfl, impl_ones.ev (by omega)]; rfl
    have hpx := pc_part hxm
    have hpm : pc (laws_FnLearning.mask n v) = cnt (laws_FnLearning.dep n v) n := pc_prefW _ (by omega)
    have hvl : (ints (laws_FnLearning.vars n v n)).length = cnt (laws_FnLearning.dep n v) n := by rw [ints_length, laws_FnLearning.vars_len]
    generalize ints (laws_FnLearning.vars n v n) = VV at *
    obtain ⟨K1, k1⟩ := hls
    obtain ⟨K2, k2⟩ := hcon
    obtain ⟨K3, k3⟩ := hvar
    obtain ⟨K4, k4⟩ := h6
    refine Ev.since (K1 + K2 + K3 + K4 + 1) fun p' hp' => ?_
    obtain ⟨p, rfl⟩ : ∃ p, p' = p + 1 := ⟨p' - 1, by omega⟩
    replace k1 := k1 p (by omega)
    replace k2 := k2 p (by omega)
    replace k3 := k3 p (by omega)
    replace k4 := k4 p (by omega)
    have hle : ¬ ((pc best : Nat) : Int) > (VV.length : Int) := by omega
    simp only [laws_FnLearning.j5, k1, k2, k3, hcount, hle, Option.bind_some, Bool.false_eq_true, ↓reduceIte, beq_self_eq_true]
    exact k4
open Go.Proofs.Ytonaebjpnmiilaa.M in
theorem laws_FnLearning.j4_ev (l : List Int) (hb : l.length ≤ 1048576) : Ev (fun k => laws_FnLearning.j4 k l false) true := by
  obtain ⟨⟨a, b, q⟩, _, hD⟩ := spec_DrawSamplesOf.ok l hb
  have h1 := impl_SamplesOf.ev a b q
  have h2 := spec_SamplesOf.ev a b q
  have h3 := laws_FnLearning.sameS_ev (spec_SamplesOf.res a b q).1 (by
    unfold spec_SamplesOf.res
    split
    · rename_i hok
      unfold spec_SamplesOf.okay at hok
      rw [Bool.and_eq_true, Bool.and_eq_true] at hok
      have := of_decide_eq_true hok.2.1
      dsimp only
      rw [List.length_map]; omega
    · simp)
  have h5 := laws_FnLearning.j5_ev l hb a b q _ rfl
  generalize spec_SamplesOf.res a b q = R at *
  obtain ⟨K1, k1⟩ := hD
  obtain ⟨K2, k2⟩ := h1
  obtain ⟨K3, k3⟩ := h2
  obtain ⟨K4, k4⟩ := h3
  obtain ⟨K5, k5⟩ := h5
  refine Ev.since (K1 + K2 + K3 + K4 + K5 + 1) fun p' hp' => ?_
  obtain ⟨p, rfl⟩ : ∃ p, p' = p + 1 := ⟨p' - 1, by omega⟩
  replace k1 := k1 p (by omega)
  replace k2 := k2 p (by omega)
  replace k3 := k3 p (by omega)
  replace k4 := k4 p (by omega)
  replace k5 := k5 p (by omega)
  simp only [laws_FnLearning.j4, k1, k2, k3, k4, Option.bind_some, Bool.false_eq_true, ↓reduceIte, bne_self_eq_false, Bool.not_true]
  exact k5
open Go.Proofs.Ytonaebjpnmiilaa.M in
/-- the learned table's variables lie in the set -/
theorem laws_FnLearning.l1_ev (l : List Int) {n m i : Nat} (q : List S57) (T : List Nat) (hn : n ≤ 5) (hm : m < 32) (hi : i < T.length) (hT : T.length ≤ 1000) (he : T.getD i 0 = m)
    (h : Ev (fun k => laws_FnLearning.l0 k l (n : Int) q (ints T) ((i + 1 : Nat) : Int)) true) :
    Ev (fun k => laws_FnLearning.l1 k l (n : Int) q (ints T) (i : Int) (ints (laws_FnLearning.vars n (impl_LearnTable.word q (m : Int) n) n)) 0) true := by
  have hlen := ints_length T
  have hmem := laws_FnLearning.vars_mem n (impl_LearnTable.word q (m : Int) n) n
  have hvl := laws_FnLearning.vars_len n (impl_LearnTable.word q (m : Int) n) n
  have hcl := cnt_le (laws_FnLearning.dep n (impl_LearnTable.word q (m : Int) n)) n
  have hin : ∀ t ∈ laws_FnLearning.vars n (impl_LearnTable.word q (m : Int) n) n, t < n ∧ m.testBit t = true := fun t ht => by
    obtain ⟨h1, h2⟩ := hmem t ht
    refine ⟨h1, ?_⟩
    cases hb : m.testBit t with
    | true => rfl
    | false =>
      have := laws_FnLearning.learn_rst q hn hm h1 hb
      unfold laws_FnLearning.dep at h2
      rw [this, beq_self_eq_true] at h2
      cases h2
  clear hmem
  generalize laws_FnLearning.vars n (impl_LearnTable.word q (m : Int) n) n = V at *
  have hVl := ints_length V
  have hr : rd (ints T) (i : Int) = (m : Int) := by rw [rd_nat, ints_getD, he]
  refine Ev.count (fun k j => laws_FnLearning.l1 k l (n : Int) q (ints T) (i : Int) (ints V) (j : Int)) V.length _ (fun j hj hnext => ?_) (Ev.step (fun k => ?_) h) V.length 0 (by omega)
  · have hv : rd (ints V) (j : Int) = ((V.getD j 0 : Nat) : Int) := by rw [rd_nat, ints_getD]
    obtain ⟨t1, t2⟩ := hin (V.getD j 0) (by simp [List.getD_eq_getElem?_getD, hj])
    have hbit : Go.bits .and .i64 (shr .i64 (m : Int) ((V.getD j 0 : Nat) : Int)) 1 = (((m.testBit (V.getD j 0)).toNat : Nat) : Int) := bit_nat (by omega) (by omega)
    refine Ev.step (fun k => ?_) hnext
    simp only [laws_FnLearning.l1]
    rw [if_pos (by omega), if_pos (by omega), if_pos (by omega), if_pos (by omega), hv, if_pos (by omega), hr, hbit, t2, if_neg (by decide), up1 (by omega)]
  · simp only [laws_FnLearning.l1]
    rw [if_neg (by omega), up1 (by omega)]
open Go.Proofs.Ytonaebjpnmiilaa.M in
theorem laws_FnLearning.l0_ev (l : List Int) (hb : l.length ≤ 1048576) (a : Int) (q : List S57) : Ev (fun k => laws_FnLearning.l0 k l a q (spec_ConsistentSets.r a q).1 0) true := by
  have h4 := laws_FnLearning.j4_ev l hb
  have hls := impl_LeastSet.ev a q
  unfold spec_ConsistentSets.r
  by_cases hq : impl_IsSampleList.f a q = some true
  · rw [if_pos hq]
    obtain ⟨n, rfl, hn, h40⟩ := spec_IsSampleList.list_n hq
    simp only [Int.toNat_natCast]
    unfold spec_LeastSet.r at hls
    rw [Int.toNat_natCast] at hls
    have h5 := pow_le_5 hn
    have hlt := spec_ConsistentSets.sets_lt q (2 ^ n)
    have hln := spec_ConsistentSets.sets_len q (2 ^ n)
    have hfit := laws_FnLearning.sets_fit q (2 ^ n)
    have hbm := spec_LeastSet.best_mem (spec_ConsistentSets.sets q (2 ^ n)) ((spec_ConsistentSets.sets q (2 ^ n)).length - 1)
    generalize spec_ConsistentSets.sets q (2 ^ n) = T at *
    have hlen := ints_length T
    refine Ev.count (fun k i => laws_FnLearning.l0 k l (n : Int) q (ints T) (i : Int)) T.length _ (fun i hi h => ?_) ?_ T.length 0 (by omega)
    · obtain ⟨m, hm⟩ : ∃ m, T.getD i 0 = m := ⟨_, rfl⟩
      have hmT : m ∈ T := by rw [← hm]; simp [List.getD_eq_getElem?_getD, hi]
      have hml := hlt m hmT
      have hr : rd (ints T) (i : Int) = (m : Int) := by rw [rd_nat, ints_getD, hm]
      have hv : impl_LearnTable.word q (m : Int) n < 2 ^ 2 ^ n := prefW_lt _ _
      have hL := impl_LearnTable.ev (n : Int) q (m : Int)
      have hinR : inR n (m : Int) = true := decide_eq_true ⟨Int.natCast_nonneg _, by exact_mod_cast hml⟩
      unfold spec_LearnTable.r at hL
      rw [Int.toNat_natCast, if_pos ⟨hq, hinR⟩] at hL
      have her := laws_FnLearning.learn_errs hn hq (hfit m hmT)
      have hC := impl_IsConsistent.ev (n : Int) ((impl_LearnTable.word q (m : Int) n : Nat) : Int) q
      have hE := impl_ErrorsOf.ev (n : Int) ((impl_LearnTable.word q (m : Int) n : Nat) : Int) q
      rw [her] at hC hE
      have hV := laws_FnLearning.vars_ev hn hv
      have h1 := laws_FnLearning.l1_ev l q T hn (by omega) hi (by omega) hm h
      generalize impl_LearnTable.word q (m : Int) n = W at *
      generalize ints (laws_FnLearning.vars n W n) = VV at *
      obtain ⟨K1, k1⟩ := hC
      obtain ⟨K2, k2⟩ := hE
      obtain ⟨K3, k3⟩ := hV
      obtain ⟨K4, k4⟩ := h1
      refine Ev.since (K1 + K2 + K3 + K4 + 2) fun p' hp' => ?_
      obtain ⟨p, rfl⟩ : ∃ p, p' = p + 2 := ⟨p' - 2, by omega⟩
      replace k1 := k1 (p + 1) (by omega)
      replace k2 := k2 (p + 1) (by omega)
      replace k3 := k3 p (by omega)
      replace k4 := k4 p (by omega)
      have c1 : (i : Int) < ((ints T).length : Int) := by omega
      show laws_FnLearning.l0 (p + 1 + 1) l (n : Int) q (ints T) (i : Int) = some true
      rw [laws_FnLearning.l0]
      simp only [c1, hr, hL, k1, k2, Int.natCast_nonneg, Option.bind_some, ↓reduceIte, beq_self_eq_true, bne_self_eq_false]
      rw [laws_FnLearning.j2]
      simp only [k3, Option.bind_some, Bool.false_eq_true, ↓reduceIte]
      exact k4
    · by_cases hz : T.length = 0
      · rw [if_neg (fun e => e.2 hz)] at hls
        obtain ⟨K1, k1⟩ := hls
        obtain ⟨K2, k2⟩ := h4
        refine Ev.since (K1 + K2 + 1) fun p' hp' => ?_
        obtain ⟨p, rfl⟩ : ∃ p, p' = p + 1 := ⟨p' - 1, by omega⟩
        replace k1 := k1 p (by omega)
        replace k2 := k2 p (by omega)
        have c1 : ¬ ((T.length : Nat) : Int) < ((ints T).length : Int) := by omega
        have c2 : decide (((ints T).length : Int) > 0) = false := decide_eq_false (by omega)
        rw [laws_FnLearning.l0]
        simp only [c1, c2, k1, Option.bind_some, Bool.false_eq_true, ↓reduceIte, bne_self_eq_false]
        exact k2
      · rw [if_pos ⟨hq, hz⟩] at hls
        have hbm := hbm (by omega)
        generalize spec_LeastSet.best T (T.length - 1) = best at *
        have hh := laws_FnLearning.has_ev T best hbm (by omega)
        obtain ⟨K1, k1⟩ := hls
        obtain ⟨K2, k2⟩ := h4
        obtain ⟨K3, k3⟩ := hh
        refine Ev.since (K1 + K2 + K3 + 1) fun p' hp' => ?_
        obtain ⟨p, rfl⟩ : ∃ p, p' = p + 1 := ⟨p' - 1, by omega⟩
        replace k1 := k1 p (by omega)
        replace k2 := k2 p (by omega)
        replace k3 := k3 p (by omega)
        have c1 : ¬ ((T.length : Nat) : Int) < ((ints T).length : Int) := by omega
        have c2 : decide (((ints T).length : Int) > 0) = true := decide_eq_true (by omega)
        rw [laws_FnLearning.l0]
        simp only [c1, c2, k1, k3, Option.bind_some, Bool.false_eq_true, ↓reduceIte, bne_self_eq_false, Bool.not_true]
        exact k2
  · rw [if_neg hq]
    unfold spec_LeastSet.r at hls
    rw [if_neg (fun e => hq e.1)] at hls
    obtain ⟨K1, k1⟩ := hls
    obtain ⟨K2, k2⟩ := h4
    refine Ev.since (K1 + K2 + 1) fun p' hp' => ?_
    obtain ⟨p, rfl⟩ : ∃ p, p' = p + 1 := ⟨p' - 1, by omega⟩
    replace k1 := k1 p (by omega)
    replace k2 := k2 p (by omega)
    rw [laws_FnLearning.l0]
    simp only [k1, List.length_nil, Int.natCast_zero, Int.lt_irrefl, gt_iff_lt, decide_false, Option.bind_some, Bool.false_eq_true, ↓reduceIte, bne_self_eq_false]
    exact k2
open Go.Proofs.Ytonaebjpnmiilaa.M in
theorem laws_FnLearning.pure_ : laws_FnLearning.Pure := by
  intro l _ _ _
  by_cases hb : l.length ≤ 1048576
  · have hbig : laws_big.f l = some false := by unfold laws_big.f; rw [decide_eq_false (by omega)]
    obtain ⟨⟨a, q⟩, _, hD⟩ := spec_DrawConsistentSets.ok l hb
    suffices hfin : Ev (fun k => laws_FnLearning.f k l) true by
      obtain ⟨K, hK⟩ := hfin
      exact ⟨K, hK K (Nat.le_refl _)⟩
    have h1 := impl_ConsistentSets.ev a q
    have h2 := spec_ConsistentSets.ev a q
    have h0 := laws_FnLearning.l0_ev l hb a q
    obtain ⟨w, hw⟩ : ∃ w, impl_IsSampleList.f a q = some w := ⟨_, rfl⟩
    have hsnd : (spec_ConsistentSets.r a q).2 = w ∧ (spec_ConsistentSets.r a q).1.length ≤ 1000 := by
      unfold spec_ConsistentSets.r
      cases w with
      | true =>
        obtain ⟨n, rfl, hn, h40⟩ := spec_IsSampleList.list_n hw
        have h5 := pow_le_5 hn
        have hln := spec_ConsistentSets.sets_len q (2 ^ n)
        rw [if_pos hw]
        simp only [Int.toNat_natCast]
        exact ⟨trivial, by rw [ints_length]; omega⟩
      | false =>
        rw [if_neg (by rw [hw]; simp)]
        exact ⟨rfl, by simp⟩
    obtain ⟨hs, hl⟩ := hsnd
    have h3 := laws_FnLearning.same_ev (spec_ConsistentSets.r a q).1 (by omega)
    generalize spec_ConsistentSets.r a q = R at *
    obtain ⟨K1, k1⟩ := hD
    obtain ⟨K2, k2⟩ := h1
    obtain ⟨K3, k3⟩ := h2
    obtain ⟨K4, k4⟩ := h3
    obtain ⟨K5, k5⟩ := h0
    refine Ev.since (K1 + K2 + K3 + K4 + K5 + 1) fun p' hp' => ?_
    obtain ⟨p, rfl⟩ : ∃ p, p' = p + 1 := ⟨p' - 1, by omega⟩
    replace k1 := k1 (p + 1) (by omega)
    replace k2 := k2 (p + 1) (by omega)
    replace k3 := k3 (p + 1) (by omega)
    replace k4 := k4 (p + 1) (by omega)
    replace k5 := k5 p (by omega)
    simp only [laws_FnLearning.f, hbig, k1, k2, k3, k4, hw, hs, Option.bind_some, Bool.false_eq_true, ↓reduceIte, bne_self_eq_false, laws_FnLearning.j0]
    exact k5
  · refine ⟨0, ?_⟩
    unfold laws_FnLearning.f laws_big.f
    rw [decide_eq_true (by omega), Option.bind_some, if_pos rfl]

end Go.Proofs.Ytonaebjpnmiilaa.Print
