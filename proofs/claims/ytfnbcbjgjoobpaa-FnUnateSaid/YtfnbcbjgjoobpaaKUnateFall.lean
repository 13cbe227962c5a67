/- Functions of the given program as plain Lean functions, with proofs that their calls compute them, or lemmas on these. Laid by a program of this repo for the seat Ytfnbcbjgjoobpaa; Lean checks it. -/
import Derived.Test.YtfnbcbjgjoobpaaKUnate0
import Derived.Test.YtfnbcbjgjoobpaaKUnate2
import Derived.Test.YtfnbcbjgjoobpaaKUnate3
import Derived.Test.YtfnbcbjgjoobpaaKUnate4
import Derived.Test.YtfnbcbjgjoobpaaKUnate5
import Derived.Test.YtfnbcbjgjoobpaaKUnate8
import Derived.Test.YtfnbcbjgjoobpaaKUnate9
import Derived.Test.YtfnbcbjgjoobpaaKUnate10
import Derived.Test.YtfnbcbjgjoobpaaKUnate11
import Derived.Test.YtfnbcbjgjoobpaaKUnate12
import Derived.Test.YtfnbcbjgjoobpaaKUnate16
import Derived.Test.YtfnbcbjgjoobpaaKUnate17
import Derived.Test.YtfnbcbjgjoobpaaKUnate18
import Derived.Test.YtfnbcbjgjoobpaaM14
import Derived.Test.YtfnbcbjgjoobpaaM0
import Derived.Test.YtfnbcbjgjoobpaaM1
import Derived.Test.YtfnbcbjgjoobpaaM2
import Derived.Test.YtfnbcbjgjoobpaaM5
import Derived.Test.YtfnbcbjgjoobpaaM13
import Derived.Test.YtfnbcbjgjoobpaaM7
namespace Go.Proofs.Ytfnbcbjgjoobpaa.Print
open Go.RowKit Go.Proofs.YtfnbcbjgjoobpaaW.PrintWords Go.Proofs.YtfnbcbjgjoobpaaW.PrintLast Go.Proofs.YtfnbcbjgjoobpaaW.PrintMore
attribute [local go_sem] max2_int min2_int max_two min_two max_three min_three max_four min_four   -- for this text's walks alone
set_option linter.unusedVariables false
set_option linter.unusedSimpArgs false

/-! ### facts on spec_l1Byte -/
--IMPORT M14
open Go.Proofs.Ytfnbcbjgjoobpaa.M in
theorem spec_l1Byte.ok (b : List Int) (i h : Int) (hb : b.length ≤ 1048576) (hi : 0 ≤ i) : ∃ x i' h', spec_l1Byte.f b i h = some (x, i', h') ∧ 0 ≤ x ∧ x ≤ 255 ∧ 0 ≤ i' := by
  unfold spec_l1Byte.f
  by_cases hc : i < (b.length : Int)
  · rw [if_pos hc, if_pos hi, w64 (x := i + 1) (by omega) (by omega)]
    exact ⟨_, _, _, rfl, (and_255 _).1, (and_255 _).2, by omega⟩
  · rw [if_neg hc]
    exact ⟨_, _, _, rfl, (and_255 _).1, (and_255 _).2, hi⟩

/-! ### facts on spec_l1Below -/
--IMPORT M14
open Go.Proofs.Ytfnbcbjgjoobpaa.M in
/-- a number below n -/
theorem spec_l1Below.ok (b : List Int) (i h n : Int) (hb : b.length ≤ 1048576) (hi : 0 ≤ i) (h1 : 1 ≤ n) (h2 : n ≤ 256) : ∃ x i' h', spec_l1Below.f b i h n = some (x, i', h') ∧ 0 ≤ x ∧ x < n ∧ 0 ≤ i' := by
  obtain ⟨x, i', h', e, e1, e2, e3⟩ := spec_l1Byte.ok b i h hb hi
  unfold spec_l1Below.f
  rw [if_neg (by omega), if_pos h2, e, Option.bind_some, if_neg (by omega)]
  exact ⟨_, _, _, rfl, Int.tmod_nonneg n e1, Int.tmod_lt_of_pos x (by omega), e3⟩

/-! ### facts on spec_l1PickInt -/
--IMPORT M14
open Go.Proofs.Ytfnbcbjgjoobpaa.M in
theorem spec_l1PickInt.ok (b : List Int) (i h : Int) (l : List Int) (hb : b.length ≤ 1048576) (hi : 0 ≤ i) (h1 : 1 ≤ l.length) (h2 : l.length ≤ 256) : ∃ x i' h', spec_l1PickInt.f b i h l = some (x, i', h') ∧ x ∈ l ∧ 0 ≤ i' := by
  obtain ⟨x, i', h', e, e1, e2, e3⟩ := spec_l1Below.ok b i h (l.length : Int) hb hi (by omega) (by omega)
  unfold spec_l1PickInt.f
  rw [e, Option.bind_some, if_pos e1, if_pos e2]
  refine ⟨_, _, _, rfl, ?_, e3⟩
  obtain ⟨j, rfl⟩ := nat_of e1
  have hj : j < l.length := by omega
  show rd l (j : Int) ∈ l
  simp [rd, List.getD_eq_getElem?_getD, hj]

/-! ### facts on spec_l2Full -/
--IMPORT M0
open Go.Proofs.Ytfnbcbjgjoobpaa.M in
theorem spec_l2Full.ev {n : Nat} (h : n ≤ 5) : spec_l2Full.f n = some (((2 ^ 2 ^ n : Nat) : Int) - 1) := by
  unfold spec_l2Full.f
  rw [if_pos (Int.natCast_nonneg n), full_word h]

/-! ### facts on spec_l2Count -/
--IMPORT M1
open Go.Proofs.Ytfnbcbjgjoobpaa.M in
theorem spec_l2Count.loop : ∀ (d w acc : Nat), w < 2 ^ d → d ≤ 62 → acc + d ≤ 1000 → Ev (fun k => spec_l2Count.l0 k acc w) ((acc + cnt w.testBit d : Nat) : Int)
  | 0, w, acc, hw, _, ha => by
    obtain rfl : w = 0 := by omega
    refine Ev.end (fun k => ?_)
    simp only [spec_l2Count.l0]
    rw [if_neg (by omega)]; rfl
  | d + 1, w, acc, hw, hd, ha => by
    by_cases h0 : w = 0
    · subst h0
      refine Ev.end (fun k => ?_)
      simp only [spec_l2Count.l0]
      rw [if_neg (by omega), cnt_zero]; rfl
    · have h := spec_l2Count.loop d (w / 2) (acc + w % 2) (by rw [Nat.pow_succ] at hw; omega) (by omega) (by omega)
      rw [show acc + w % 2 + cnt (w / 2).testBit d = acc + cnt w.testBit (d + 1) by rw [cnt_half]; omega] at h
      refine Ev.step (fun k => ?_) h
      have hp := p63 (n := d + 1) hd
      simp only [spec_l2Count.l0]
      rw [if_pos (by omega)]
      have e1 : Go.bits .and .i64 (w : Int) 1 = ((w % 2 : Nat) : Int) := by
        rw [← Nat.and_one_is_mod]; exact and_nat (b := 1) (by omega) (by decide)
      rw [e1, w64 (by omega) (by omega)]
      congr 1
open Go.Proofs.Ytfnbcbjgjoobpaa.M in
theorem spec_l2Count.ev {w : Nat} (h : w < 2 ^ 32) : Ev (fun k => spec_l2Count.f k w) ((pc w : Nat) : Int) := by
  have := spec_l2Count.loop 32 w 0 h (by omega) (by omega)
  rw [Nat.zero_add] at this
  exact this

/-! ### facts on spec_l2Draw -/
--IMPORT M14
--IMPORT M1
open Go.Proofs.Ytfnbcbjgjoobpaa.M in
/-- the end of all its ways -/
theorem spec_l2Draw.fin {n : Nat} (hn : n ≤ 4) (x i h : Int) : ∃ W, (if (n : Int) = 0 then ((spec_l2Full.f (n : Int)).bind fun t => (some ((n : Int), Go.bits .and .i64 (Go.bits .and .i64 x 1) t, i, h))) else ((spec_l2Full.f (n : Int)).bind fun t => (some ((n : Int), Go.bits .and .i64 x t, i, h)))) = some ((n : Int), W, i, h) := by
  rw [spec_l2Full.ev (by omega)]
  by_cases e : (n : Int) = 0
  · rw [if_pos e]; exact ⟨_, rfl⟩
  · rw [if_neg e]; exact ⟨_, rfl⟩
open Go.Proofs.Ytfnbcbjgjoobpaa.M in
theorem spec_l2Draw.pow_le {n : Nat} (hn : n ≤ 4) : 2 ^ n ≤ 16 := Nat.pow_le_pow_right (n := 2) (by decide) hn
open Go.Proofs.Ytfnbcbjgjoobpaa.M in
theorem spec_l2Draw.ok0 (b : List Int) (i h : Int) (hi : 0 ≤ i) {n : Nat} (hn : n ≤ 4) (x : Int) : Tot (fun k => spec_l2Draw.l0 k n x 0 b i h) (fun r => r.1 = (n : Int) ∧ 0 ≤ r.2.2.1) := by
  have h16 := spec_l2Draw.pow_le hn
  have hn0 : (0 : Int) ≤ (n : Int) := Int.natCast_nonneg n
  have hs := shl_one (n := n) (by omega)
  refine Tot.up (S := Int) (fun j s k => spec_l2Draw.l0 k n s (j : Int) b i h) (2 ^ n) (fun _ _ => True) ?_ ?_ (2 ^ n) 0 x (by omega) trivial
  · intro j s hj _ hnx
    have hlt : (j : Int) < ((2 ^ n : Nat) : Int) := Int.ofNat_lt.mpr hj
    have hj0 : (0 : Int) ≤ (j : Int) := Int.natCast_nonneg j
    have hu := up1 (x := j) (by omega)
    refine Tot.step (f := fun k => (spec_l2Count.f k j).bind fun t => if wrap64 (2 * t) > (n : Int) then spec_l2Draw.l0 k n (Go.bits .or .i64 s (shl .i64 1 (j : Int))) ((j + 1 : Nat) : Int) b i h else spec_l2Draw.l0 k n s ((j + 1 : Nat) : Int) b i h) (fun k => ?_) (Tot.bind (Tot.ev (P := fun _ => True) (spec_l2Count.ev (w := j) (by omega)) trivial) (fun t _ => Tot.ite _ (fun _ => hnx _ trivial) (fun _ => hnx _ trivial)))
    simp only [spec_l2Draw.l0, hs, hn0, hlt, hj0, hu, ↓reduceIte]
  · intro s _
    obtain ⟨W, hW⟩ := spec_l2Draw.fin hn s i h
    refine Tot.end ((n : Int), W, i, h) ⟨rfl, hi⟩ (fun k => ?_)
    · simp only [spec_l2Draw.l0, hs, hn0, Int.lt_irrefl, ↓reduceIte]
      exact hW
open Go.Proofs.Ytfnbcbjgjoobpaa.M in
theorem spec_l2Draw.ok1 (b : List Int) (i h : Int) (hi : 0 ≤ i) {n : Nat} (hn : n ≤ 4) (x : Int) : Tot (fun k => spec_l2Draw.l1 k n x 0 b i h) (fun r => r.1 = (n : Int) ∧ 0 ≤ r.2.2.1) := by
  have h16 := spec_l2Draw.pow_le hn
  have hn0 : (0 : Int) ≤ (n : Int) := Int.natCast_nonneg n
  have hs := shl_one (n := n) (by omega)
  refine Tot.up (S := Int) (fun j s k => spec_l2Draw.l1 k n s (j : Int) b i h) (2 ^ n) (fun _ _ => True) ?_ ?_ (2 ^ n) 0 x (by omega) trivial
  · intro j s hj _ hnx
    have hlt : (j : Int) < ((2 ^ n : Nat) : Int) := Int.ofNat_lt.mpr hj
    have hj0 : (0 : Int) ≤ (j : Int) := Int.natCast_nonneg j
    have hu := up1 (x := j) (by omega)
    refine Tot.step (f := fun k => (spec_l2Count.f k j).bind fun t => if Int.tmod t 2 = 1 then spec_l2Draw.l1 k n (Go.bits .or .i64 s (shl .i64 1 (j : Int))) ((j + 1 : Nat) : Int) b i h else spec_l2Draw.l1 k n s ((j + 1 : Nat) : Int) b i h) (fun k => ?_) (Tot.bind (Tot.ev (P := fun _ => True) (spec_l2Count.ev (w := j) (by omega)) trivial) (fun t _ => Tot.ite _ (fun _ => hnx _ trivial) (fun _ => hnx _ trivial)))
    simp only [spec_l2Draw.l1, hs, hn0, hlt, hj0, hu, ↓reduceIte]
  · intro s _
    obtain ⟨W, hW⟩ := spec_l2Draw.fin hn s i h
    refine Tot.end ((n : Int), W, i, h) ⟨rfl, hi⟩ (fun k => ?_)
    · simp only [spec_l2Draw.l1, hs, hn0, Int.lt_irrefl, ↓reduceIte]
      exact hW
open Go.Proofs.Ytfnbcbjgjoobpaa.M in
theorem spec_l2Draw.ok2 (b : List Int) (i h y : Int) (hi : 0 ≤ i) {n : Nat} (hn : n ≤ 4) (x : Int) : Tot (fun k => spec_l2Draw.l2 k n x y 0 b i h) (fun r => r.1 = (n : Int) ∧ 0 ≤ r.2.2.1) := by
  have h16 := spec_l2Draw.pow_le hn
  have hn0 : (0 : Int) ≤ (n : Int) := Int.natCast_nonneg n
  have hs := shl_one (n := n) (by omega)
  refine Tot.up (S := Int) (fun j s k => spec_l2Draw.l2 k n s y (j : Int) b i h) (2 ^ n) (fun _ _ => True) ?_ ?_ (2 ^ n) 0 x (by omega) trivial
  · intro j s hj _ hnx
    have hlt : (j : Int) < ((2 ^ n : Nat) : Int) := Int.ofNat_lt.mpr hj
    have hj0 : (0 : Int) ≤ (j : Int) := Int.natCast_nonneg j
    have hu := up1 (x := j) (by omega)
    refine Tot.step (f := fun k => if Go.bits .and .i64 (j : Int) y = y then spec_l2Draw.l2 k n (Go.bits .or .i64 s (shl .i64 1 (j : Int))) y ((j + 1 : Nat) : Int) b i h else spec_l2Draw.l2 k n s y ((j + 1 : Nat) : Int) b i h) (fun k => ?_) (Tot.ite _ (fun _ => hnx _ trivial) (fun _ => hnx _ trivial))
    simp only [spec_l2Draw.l2, hs, hn0, hlt, hj0, hu, ↓reduceIte]
  · intro s _
    obtain ⟨W, hW⟩ := spec_l2Draw.fin hn s i h
    refine Tot.end ((n : Int), W, i, h) ⟨rfl, hi⟩ (fun k => ?_)
    · simp only [spec_l2Draw.l2, hs, hn0, Int.lt_irrefl, ↓reduceIte]
      exact hW
open Go.Proofs.Ytfnbcbjgjoobpaa.M in
theorem spec_l2Draw.ok3 (b : List Int) (hb : b.length ≤ 1048576) (i h : Int) (hi : 0 ≤ i) {n : Nat} (hn : n ≤ 4) (x : Int) : Tot (fun k => spec_l2Draw.l3 k n x 0 b i h) (fun r => r.1 = (n : Int) ∧ 0 ≤ r.2.2.1) := by
  have h16 := spec_l2Draw.pow_le hn
  have hn0 : (0 : Int) ≤ (n : Int) := Int.natCast_nonneg n
  have hs := shl_one (n := n) (by omega)
  refine Tot.up (S := Int × Int × Int) (fun j s k => spec_l2Draw.l3 k n s.1 (j : Int) b s.2.1 s.2.2) (2 ^ n) (fun _ s => 0 ≤ s.2.1) ?_ ?_ (2 ^ n) 0 (x, i, h) (by omega) hi
  · rintro j ⟨s, i, h⟩ hj hi hnx
    have hlt : (j : Int) < ((2 ^ n : Nat) : Int) := Int.ofNat_lt.mpr hj
    have hj0 : (0 : Int) ≤ (j : Int) := Int.natCast_nonneg j
    have hu := up1 (x := j) (by omega)
    obtain ⟨q, i', h', e, _, _, e3⟩ := spec_l1Below.ok b i h 2 hb hi (by decide) (by decide)
    refine Tot.step (f := fun k => spec_l2Draw.l3 k n (Go.bits .or .i64 s (shl .i64 q (j : Int))) ((j + 1 : Nat) : Int) b i' h') (fun k => ?_) (hnx (_, i', h') e3)
    simp only [spec_l2Draw.l3, hs, hn0, hlt, hj0, hu, e, Option.bind_some, ↓reduceIte]
  · rintro ⟨s, i, h⟩ hi
    obtain ⟨W, hW⟩ := spec_l2Draw.fin hn s i h
    refine Tot.end ((n : Int), W, i, h) ⟨rfl, hi⟩ (fun k => ?_)
    · simp only [spec_l2Draw.l3, hs, hn0, Int.lt_irrefl, ↓reduceIte]
      exact hW
open Go.Proofs.Ytfnbcbjgjoobpaa.M in
theorem spec_l2Draw.var {n j : Nat} (hn : n ≤ 4) (hj : j ≤ 4) : Tot (fun k => spec_l2Variable.f k n j) (fun _ => True) := by
  have h16 := spec_l2Draw.pow_le hn
  have hn0 : (0 : Int) ≤ (n : Int) := Int.natCast_nonneg n
  have hj1 : (0 : Int) ≤ (j : Int) := Int.natCast_nonneg j
  have hs := shl_one (n := n) (by omega)
  refine Tot.up (S := Int) (fun x s k => spec_l2Variable.l0 k n j s (x : Int)) (2 ^ n) (fun _ _ => True) ?_ ?_ (2 ^ n) 0 0 (by omega) trivial
  · intro x s hx _ hnx
    have hlt : (x : Int) < ((2 ^ n : Nat) : Int) := Int.ofNat_lt.mpr hx
    have hx0 : (0 : Int) ≤ (x : Int) := Int.natCast_nonneg x
    have hu := up1 (x := x) (by omega)
    refine Tot.step (f := fun k => if Go.bits .and .i64 (shr .i64 (x : Int) (j : Int)) 1 = 1 then spec_l2Variable.l0 k n j (Go.bits .or .i64 s (shl .i64 1 (x : Int))) ((x + 1 : Nat) : Int) else spec_l2Variable.l0 k n j s ((x + 1 : Nat) : Int)) (fun k => ?_) (Tot.ite _ (fun _ => hnx _ trivial) (fun _ => hnx _ trivial))
    simp only [spec_l2Variable.l0, hs, hn0, hj1, hlt, hx0, hu, ↓reduceIte]
  · intro s _
    refine Tot.end s trivial (fun k => ?_)
    simp only [spec_l2Variable.l0, hs, hn0, Int.lt_irrefl, ↓reduceIte]
open Go.Proofs.Ytfnbcbjgjoobpaa.M in
theorem spec_l2Draw.ok (b : List Int) (hb : b.length ≤ 1048576) (i h : Int) (hi : 0 ≤ i) {n : Nat} (hn : n ≤ 4) : Tot (fun k => spec_l2Draw.f k b i h n) (fun r => r.1 = (n : Int) ∧ 0 ≤ r.2.2.1) := by
  obtain ⟨q, i', h', e, q1, q2, e3⟩ := spec_l1Below.ok b i h 6 hb hi (by decide) (by decide)
  have h16 := spec_l2Draw.pow_le hn
  have hn0 : (0 : Int) ≤ (n : Int) := Int.natCast_nonneg n
  have hs := shl_one (n := n) (by omega)
  have hp := Nat.two_pow_pos n
  unfold spec_l2Draw.f
  simp only [e, Option.bind_some]
  refine Tot.ite _ (fun _ => ?_) (fun _ => Tot.ite _ (fun _ => spec_l2Draw.ok0 b i' h' e3 hn 0) (fun _ => Tot.ite _ (fun _ => spec_l2Draw.ok1 b i' h' e3 hn 0) (fun _ => Tot.ite _ (fun _ => ?_) (fun _ => spec_l2Draw.ok3 b hb i' h' e3 hn 0))))
  · have hm : 1 ≤ mx 1 (n : Int) ∧ mx 1 (n : Int) ≤ 4 := by unfold mx; split <;> omega
    obtain ⟨y, i2, h2, e2, y1, y2, y3⟩ := spec_l1Below.ok b i' h' (mx 1 (n : Int)) hb e3 hm.1 (by omega)
    simp only [e2, Option.bind_some]
    obtain ⟨j, rfl⟩ := nat_of y1
    refine Tot.bind (spec_l2Draw.var hn (j := j) (by omega)) (fun t _ => ?_)
    obtain ⟨W, hW⟩ := spec_l2Draw.fin hn t i2 h2
    exact Tot.congr (fun k => hW) (Tot.now _ ⟨rfl, y3⟩)
  · simp only [hn0, hs, ↓reduceIte]
    obtain ⟨y, i2, h2, e2, y1, y2, y3⟩ := spec_l1Below.ok b i' h' ((2 ^ n : Nat) : Int) hb e3 (by omega) (by omega)
    simp only [e2, Option.bind_some]
    exact spec_l2Draw.ok2 b i2 h2 y y3 hn 0

/-! ### facts on spec_l2Any -/
--IMPORT M14
open Go.Proofs.Ytfnbcbjgjoobpaa.M in
theorem spec_l2Any.ok (b : List Int) (hb : b.length ≤ 1048576) (i h : Int) (hi : 0 ≤ i) : Tot (fun k => spec_l2Any.f k b i h) (fun r => 0 ≤ r.2.2.1) := by
  obtain ⟨q, i', h', e, q1, q2, e3⟩ := spec_l1Below.ok b i h 5 hb hi (by decide) (by decide)
  unfold spec_l2Any.f
  simp only [e, Option.bind_some]
  obtain ⟨n, rfl⟩ := nat_of q1
  refine Tot.bind (spec_l2Draw.ok b hb i' h' e3 (n := n) (by omega)) (fun r hr => ?_)
  obtain ⟨y, i2, h2, e2, _, _, y3⟩ := spec_l1Below.ok b r.2.2.1 r.2.2.2 14 hb hr.2 (by decide) (by decide)
  simp only [e2, Option.bind_some]
  obtain ⟨z0, i3, h3, w0, _, z1⟩ := spec_l1PickInt.ok b i2 h2 [(-1), 6, 5, 0, 9223372036854775807] hb y3 (by decide) (by decide)
  obtain ⟨z2, i4, h4, w1, _, z3⟩ := spec_l1PickInt.ok b i2 h2 [(-1), 0, 1, 65536, 9223372036854775807] hb y3 (by decide) (by decide)
  simp only [w0, w1, Option.bind_some]
  exact Tot.ite _ (fun _ => Tot.now _ z1) (fun _ => Tot.ite _ (fun _ => Tot.now _ z3) (fun _ => Tot.now _ y3))

/-! ### facts on spec_l1Once -/
--IMPORT M14
open Go.Proofs.Ytfnbcbjgjoobpaa.M in
theorem spec_l1Once.ok (b : List Int) (i h n : Int) (hb : b.length ≤ 1048576) (hi : 0 ≤ i) (h1 : 1 ≤ n) (h2 : n ≤ 256) : ∃ x i' h', spec_l1Once.f b i h n = some (x, i', h') ∧ 0 ≤ i' := by
  obtain ⟨x, i', h', e, e1, e2, e3⟩ := spec_l1Below.ok b i h n hb hi h1 h2
  unfold spec_l1Once.f
  rw [e, Option.bind_some]
  exact ⟨_, _, _, rfl, e3⟩

/-! ### facts on spec_l1In -/
theorem spec_l1In.ev (a b c : Int) : spec_l1In.f a b c = some (decide (b ≤ a ∧ a ≤ c)) := by
  unfold spec_l1In.f
  by_cases h : b ≤ a
  · rw [if_pos h]; simp [h]
  · rw [if_neg h]; simp [h]

/-! ### facts on spec_IsTable -/
--IMPORT M0
open Go.Proofs.Ytfnbcbjgjoobpaa.M in
theorem spec_IsTable.ev (a b : Int) : spec_IsTable.f a b = some (isT a b) := by
  unfold spec_IsTable.f isT
  rw [spec_l1In.ev]
  by_cases h : 0 ≤ a ∧ a ≤ 5
  · obtain ⟨n, rfl⟩ := nat_of h.1
    have hn : n ≤ 5 := by omega
    simp only [Option.bind_some, h, and_self, decide_true, if_true]
    rw [full_word hn, spec_l1In.ev]
    simp only [Option.bind_some, Int.toNat_natCast, h, true_and]
    congr 1
    apply decide_eq_decide.mpr
    omega
  · have h' : ¬ (0 ≤ a ∧ a ≤ 5 ∧ 0 ≤ b ∧ b < ((2 ^ 2 ^ a.toNat : Nat) : Int)) := fun e => h ⟨e.1, e.2.1⟩
    simp only [h, h', decide_false, Option.bind_some, Bool.false_eq_true, if_false]

/-! ### facts on spec_MonotoneHull -/
--IMPORT M14
--IMPORT M2
open Go.Proofs.Ytfnbcbjgjoobpaa.M in
theorem spec_MonotoneHull.ok (a b : Int) : Tot (fun k => spec_MonotoneHull.f k a b) (fun _ => True) := by
  unfold spec_MonotoneHull.f
  simp only [spec_IsTable.ev, Option.bind_some]
  cases ht : isT a b with
  | false => exact Tot.congr (fun k => if_neg (by decide)) (Tot.now _ trivial)
  | true =>
    refine Tot.congr (fun k => if_pos rfl) ?_
    obtain ⟨n, v, rfl, rfl, hn, hv⟩ := isT_nat ht
    have h32 := pow_le_5 hn
    have hn0 : (0 : Int) ≤ (n : Int) := Int.natCast_nonneg n
    have hs := shl_one (n := n) (by omega)
    refine Tot.up (S := Int) (fun x s k => spec_MonotoneHull.l0 k s (x : Int) n v) (2 ^ n) (fun _ _ => True) ?_ ?_ (2 ^ n) 0 0 (by omega) trivial
    · intro x s hx _ hnx
      have hlt : (x : Int) < ((2 ^ n : Nat) : Int) := Int.ofNat_lt.mpr hx
      have hx0 : (0 : Int) ≤ (x : Int) := Int.natCast_nonneg x
      have hux := up1 (x := x) (by omega)
      refine Tot.step (f := fun k => spec_MonotoneHull.l1 k s (x : Int) 0 n v) (fun k => by simp only [spec_MonotoneHull.l0, hs, hn0, hlt, ↓reduceIte]) ?_
      refine Tot.up (S := Int) (fun y s k => spec_MonotoneHull.l1 k s (x : Int) (y : Int) n v) (x + 1) (fun _ _ => True) ?_ ?_ (x + 1) 0 s (by omega) trivial
      · intro y s hy _ hny
        have hle : (y : Int) ≤ (x : Int) := by omega
        have hy0 : (0 : Int) ≤ (y : Int) := Int.natCast_nonneg y
        have huy := up1 (x := y) (by omega)
        refine Tot.step (f := fun k => if Go.bits .and .i64 (y : Int) (x : Int) = (y : Int) then (if Go.bits .and .i64 (shr .i64 (v : Int) (y : Int)) 1 = 1 then spec_MonotoneHull.l1 k (Go.bits .or .i64 s (shl .i64 1 (x : Int))) (x : Int) ((y + 1 : Nat) : Int) n v else spec_MonotoneHull.l1 k s (x : Int) ((y + 1 : Nat) : Int) n v) else spec_MonotoneHull.l1 k s (x : Int) ((y + 1 : Nat) : Int) n v) (fun k => by simp only [spec_MonotoneHull.l1, hle, hy0, hx0, huy, ↓reduceIte]) (Tot.ite _ (fun _ => Tot.ite _ (fun _ => hny _ trivial) (fun _ => hny _ trivial)) (fun _ => hny _ trivial))
      · intro s _
        refine Tot.step (f := fun k => spec_MonotoneHull.l0 k s ((x + 1 : Nat) : Int) n v) (fun k => ?_) (hnx s trivial)
        simp only [spec_MonotoneHull.l1]
        rw [if_neg (by omega), hux]
    · intro s _
      refine Tot.end ((n : Int), s, true) trivial (fun k => ?_)
      simp only [spec_MonotoneHull.l0, hs, hn0, Int.lt_irrefl, ↓reduceIte]

/-! ### facts on spec_l15Draw -/
--IMPORT M14
open Go.Proofs.Ytfnbcbjgjoobpaa.M in
theorem spec_l15Draw.ok (b : List Int) (hb : b.length ≤ 1048576) (i h : Int) (hi : 0 ≤ i) : Tot (fun k => spec_l15Draw.f k b i h) (fun r => 0 ≤ r.2.2.1) := by
  unfold spec_l15Draw.f
  refine Tot.bind (spec_l2Any.ok b hb i h hi) (fun r hr => Tot.bind (spec_MonotoneHull.ok r.1 r.2.1) (fun s _ => ?_))
  obtain ⟨y, i2, h2, e2, y3⟩ := spec_l1Once.ok b r.2.2.1 r.2.2.2 4 hb hr (by decide) (by decide)
  simp only [e2, Option.bind_some]
  exact Tot.ite _ (fun _ => Tot.ite _ (fun _ => Tot.now _ y3) (fun _ => Tot.now _ y3)) (fun _ => Tot.now _ hr)

/-! ### facts on spec_l3Shift -/
--IMPORT M2
open Go.Proofs.Ytfnbcbjgjoobpaa.M in
/-- the word after m rounds: each input's bit at the place with s turned -/
def spec_l3Shift.sh (v s : Nat) : Nat → Nat
  | 0 => 0
  | m + 1 => spec_l3Shift.sh v s m ||| (v.testBit m).toNat * 2 ^ (m ^^^ s)
theorem spec_l3Shift.one_bit (b : Bool) (p j : Nat) : (b.toNat * 2 ^ p).testBit j = (b && decide (j = p)) := by
  cases b
  · simp
  · rw [show true.toNat = 1 from rfl, Nat.one_mul, Nat.testBit_two_pow, Bool.true_and]
    exact decide_eq_decide.mpr ⟨fun e => e.symm, fun e => e.symm⟩
theorem spec_l3Shift.back {a b s : Nat} : a = b ^^^ s ↔ a ^^^ s = b := by
  constructor
  · rintro rfl; rw [Nat.xor_assoc, Nat.xor_self, Nat.xor_zero]
  · rintro rfl; rw [Nat.xor_assoc, Nat.xor_self, Nat.xor_zero]
theorem spec_l3Shift.sh_bit (v s j : Nat) : ∀ m, (spec_l3Shift.sh v s m).testBit j = (decide (j ^^^ s < m) && v.testBit (j ^^^ s))
  | 0 => by simp [spec_l3Shift.sh]
  | m + 1 => by
    rw [spec_l3Shift.sh, Nat.testBit_or, spec_l3Shift.sh_bit v s j m, spec_l3Shift.one_bit]
    by_cases h : j ^^^ s = m
    · have h2 : j = m ^^^ s := spec_l3Shift.back.mpr h
      rw [decide_eq_true h2, decide_eq_false (show ¬ j ^^^ s < m from by omega), decide_eq_true (show j ^^^ s < m + 1 from by omega), h]; simp
    · have h2 : ¬ j = m ^^^ s := fun e => h (spec_l3Shift.back.mp e)
      rw [decide_eq_false h2, Bool.and_false, Bool.or_false]
      congr 1
      exact decide_eq_decide.mpr ⟨fun e => by omega, fun e => by omega⟩
open Go.Proofs.Ytfnbcbjgjoobpaa.M in
theorem spec_l3Shift.sh_all {n v s : Nat} (hs : s < 2 ^ n) : spec_l3Shift.sh v s (2 ^ n) = prefW (fun x => v.testBit (x ^^^ s)) (2 ^ n) := by
  apply Nat.eq_of_testBit_eq; intro j
  rw [spec_l3Shift.sh_bit, testBit_prefW]
  by_cases hj : j < 2 ^ n
  · rw [decide_eq_true hj, decide_eq_true (Nat.xor_lt_two_pow hj hs)]
  · rw [decide_eq_false hj, decide_eq_false (fun e => hj (by have := Nat.xor_lt_two_pow e hs; rwa [Nat.xor_assoc, Nat.xor_self, Nat.xor_zero] at this))]
open Go.Proofs.Ytfnbcbjgjoobpaa.M in
theorem spec_l3Shift.sh_lt {v s : Nat} (hs : s < 2 ^ 5) : ∀ m, m ≤ 32 → spec_l3Shift.sh v s m < 2 ^ 32
  | 0, _ => by simp [spec_l3Shift.sh]
  | m + 1, h => by
    have hx : m ^^^ s < 2 ^ 5 := Nat.xor_lt_two_pow (by omega) hs
    have h1 : 2 ^ (m ^^^ s) < 2 ^ 32 := Nat.pow_lt_pow_right (by decide) (by omega)
    refine Nat.or_lt_two_pow (spec_l3Shift.sh_lt hs m (by omega)) ?_
    cases v.testBit m <;> simp <;> omega
open Go.Proofs.Ytfnbcbjgjoobpaa.M in
theorem spec_l3Shift.ev {n v s : Nat} (hn : n ≤ 5) (hv : v < 2 ^ 63) (hs : s < 2 ^ n) : Ev (fun k => spec_l3Shift.f k n v s) ((n : Int), ((prefW (fun x => v.testBit (x ^^^ s)) (2 ^ n) : Nat) : Int)) := by
  have h5 := pow_le_5 hn
  rw [← spec_l3Shift.sh_all hs]
  have hs5 : s < 2 ^ 5 := by omega
  have key : ∀ d x, x + d = 2 ^ n → Ev (fun k => spec_l3Shift.l0 k s ((spec_l3Shift.sh v s x : Nat) : Int) (x : Int) n v) ((n : Int), ((spec_l3Shift.sh v s (2 ^ n) : Nat) : Int)) := by
    refine Ev.count (fun k x => spec_l3Shift.l0 k s ((spec_l3Shift.sh v s x : Nat) : Int) (x : Int) n v) (2 ^ n) _ ?_ ?_
    · intro x hx h
      refine Ev.step (fun k => ?_) h
      have hy : x ^^^ s < 2 ^ 5 := Nat.xor_lt_two_pow (by omega) hs5
      have h1 : 2 ^ (x ^^^ s) < 2 ^ 32 := Nat.pow_lt_pow_right (by decide) (by omega)
      have h2 : (v.testBit x).toNat * 2 ^ (x ^^^ s) < 2 ^ 63 := by cases v.testBit x <;> simp <;> omega
      have h3 := spec_l3Shift.sh_lt (v := v) hs5 x (by omega)
      simp only [spec_l3Shift.l0]
      rw [if_pos (Int.natCast_nonneg _), shl_one (by omega), if_pos (by omega), if_pos (Int.natCast_nonneg _), xor_nat (by omega) (by omega), if_pos (Int.natCast_nonneg _), bit_nat hv (by omega), shl_nat (by omega) h2, or_nat (by omega) h2, up1 (by omega)]
      rfl
    · refine Ev.end (fun k => ?_)
      simp only [spec_l3Shift.l0]
      rw [if_pos (Int.natCast_nonneg _), shl_one (by omega), if_neg (by omega)]
  exact key (2 ^ n) 0 (by omega)

/-! ### facts on spec_ShiftTable -/
--IMPORT M14
--IMPORT M2
open Go.Proofs.Ytfnbcbjgjoobpaa.M in
theorem spec_ShiftTable.ok (a b s : Int) : Tot (fun k => spec_ShiftTable.f k a b s) (fun _ => True) := by
  unfold spec_ShiftTable.f
  simp only [spec_IsTable.ev, Option.bind_some]
  cases ht : isT a b with
  | false => exact Tot.congr (fun k => if_neg (by decide)) (Tot.now _ trivial)
  | true =>
    refine Tot.congr (fun k => if_pos rfl) ?_
    obtain ⟨n, v, rfl, rfl, hn, hv⟩ := isT_nat ht
    have h32 := pow_le_5 hn
    have hp := full_p63 hn
    have hn0 : (0 : Int) ≤ (n : Int) := Int.natCast_nonneg n
    have e1 : wrap64 (((2 ^ n : Nat) : Int) - 1) = ((2 ^ n : Nat) : Int) - 1 := by have := Nat.two_pow_pos n; exact w64 (by omega) (by omega)
    simp only [hn0, shl_one (n := n) (by omega), e1, spec_l1In.ev, Option.bind_some, ↓reduceIte]
    by_cases hs : 0 ≤ s ∧ s ≤ ((2 ^ n : Nat) : Int) - 1
    · refine Tot.congr (fun k => if_pos (decide_eq_true hs)) ?_
      obtain ⟨j, rfl⟩ := nat_of hs.1
      exact Tot.bind (Tot.ev (P := fun _ => True) (spec_l3Shift.ev hn (by omega) (by omega)) trivial) (fun r _ => Tot.now _ trivial)
    · exact Tot.congr (fun k => if_neg (by rw [decide_eq_false hs]; decide)) (Tot.now _ trivial)

/-! ### facts on spec_l26Draw -/
--IMPORT M14
open Go.Proofs.Ytfnbcbjgjoobpaa.M in
theorem spec_l26Draw.ok (b : List Int) (hb : b.length ≤ 1048576) (i h : Int) (hi : 0 ≤ i) : Tot (fun k => spec_l26Draw.f k b i h) (fun r => 0 ≤ r.2.2.1) := by
  unfold spec_l26Draw.f
  refine Tot.bind (spec_l15Draw.ok b hb i h hi) (fun r hr => ?_)
  obtain ⟨y, i2, h2, e2, _, _, y3⟩ := spec_l1Below.ok b r.2.2.1 r.2.2.2 9 hb hr (by decide) (by decide)
  simp only [e2, Option.bind_some]
  exact Tot.bind (spec_ShiftTable.ok r.1 r.2.1 y) (fun s _ => Tot.ite _ (fun _ => Tot.now _ y3) (fun _ => Tot.now _ y3))

/-! ### facts on spec_l1New -/
--IMPORT M14
open Go.Proofs.Ytfnbcbjgjoobpaa.M in
theorem spec_l1New.ok (b : List Int) (hb : b.length ≤ 1048576) : Tot (fun k => spec_l1New.f k b) (fun r => r.1 = b ∧ r.2.1 = 0) := by
  unfold spec_l1New.f
  refine Tot.up (S := Int) (fun i s k => spec_l1New.l0 k b s (i : Int)) b.length (fun _ _ => True) ?_ ?_ b.length 0 _ (by omega) trivial
  · intro i s hi _ hn
    by_cases h4 : (i : Int) < 4000
    · refine Tot.step (fun k => ?_) (hn (Go.bits .and .i64 (wrap64 ((wrap64 ((wrap64 (s * 131)) + (wrap64 (rd b i)))) + 7)) 1073741823) trivial)
      simp only [spec_l1New.l0]
      rw [if_pos (Int.ofNat_lt.mpr hi), if_pos h4, if_pos (Int.natCast_nonneg i), up1 (by omega)]
    · refine Tot.end (b, 0, s) ⟨rfl, rfl⟩ (fun k => ?_)
      simp only [spec_l1New.l0]
      rw [if_pos (Int.ofNat_lt.mpr hi), if_neg h4]
  · intro s _
    refine Tot.end (b, 0, s) ⟨rfl, rfl⟩ (fun k => ?_)
    simp only [spec_l1New.l0]
    rw [if_neg (by omega)]

/-! ### facts on spec_DrawIsUnate -/
--IMPORT M14
open Go.Proofs.Ytfnbcbjgjoobpaa.M in
theorem spec_DrawIsUnate.ok (b : List Int) (hb : b.length ≤ 1048576) : Tot (fun k => spec_DrawIsUnate.f k b) (fun _ => True) := by
  unfold spec_DrawIsUnate.f
  refine Tot.bind (spec_l1New.ok b hb) (fun r hr => ?_)
  obtain ⟨r1, r2, r3⟩ := r
  obtain ⟨rfl, rfl⟩ := hr
  exact Tot.bind (spec_l26Draw.ok r1 hb 0 r3 (Int.le_refl 0)) (fun s _ => Tot.now _ trivial)

/-! ### facts on impl_isBits -/
theorem impl_isBits.ev (a : Int) : impl_isBits.f a = some (decide (0 ≤ a ∧ a ≤ 5)) := by
  unfold impl_isBits.f
  by_cases h : 0 ≤ a
  · rw [if_pos h]; simp [h]
  · rw [if_neg h]; simp [h]

/-! ### facts on impl_IsTable -/
--IMPORT M0
open Go.Proofs.Ytfnbcbjgjoobpaa.M in
theorem impl_IsTable.ev (a b : Int) : impl_IsTable.f a b = some (isT a b) := by
  unfold impl_IsTable.f isT
  rw [impl_isBits.ev]
  by_cases h : 0 ≤ a ∧ a ≤ 5
  · obtain ⟨n, rfl⟩ := nat_of h.1
    have hn : n ≤ 5 := by omega
    simp only [Option.bind_some, h, and_self, decide_true, if_true]
    by_cases hb : b ≥ 0
    · obtain ⟨v, rfl⟩ := nat_of hb
      have h5 := pow_le_5 hn
      rw [if_pos hb]
      unfold impl_Table_size.f
      rw [if_pos (Int.natCast_nonneg n), shl_one (by omega)]
      simp only [Option.bind_some]
      rw [if_pos (Int.natCast_nonneg _), shr_nat (by omega)]
      congr 1
      rw [Bool.eq_iff_iff]
      simp only [beq_iff_eq, decide_eq_true_eq, Int.toNat_natCast]
      have hz : v / 2 ^ 2 ^ n = 0 ↔ v < 2 ^ 2 ^ n := Nat.div_eq_zero_iff_lt (Nat.two_pow_pos _)
      rw [show (((v / 2 ^ 2 ^ n : Nat) : Int) = 0 ↔ v / 2 ^ 2 ^ n = 0) from by omega, hz]
      obtain ⟨P, hP⟩ : ∃ P, P = 2 ^ 2 ^ n := ⟨_, rfl⟩
      rw [← hP]
      simp only [h, true_and]
      omega
    · rw [if_neg hb]
      congr 1
      symm
      apply decide_eq_false
      omega
  · have h' : ¬ (0 ≤ a ∧ a ≤ 5 ∧ 0 ≤ b ∧ b < ((2 ^ 2 ^ a.toNat : Nat) : Int)) := fun e => h ⟨e.1, e.2.1⟩
    simp only [h, h', decide_false, Option.bind_some, Bool.false_eq_true, if_false]

/-! ### facts on impl_Table_restrict -/
--IMPORT M0
open Go.Proofs.Ytfnbcbjgjoobpaa.M in
theorem impl_Table_restrict.ev {n v i b : Nat} (h1 : 1 ≤ n) (hn : n ≤ 5) (hv : v < 2 ^ 32) (hi : i < n) (hb : b ≤ 1) : impl_Table_restrict.f n v i b = some (((n - 1 : Nat) : Int), ((rstW n v i b : Nat) : Int)) := by
  unfold impl_Table_restrict.f
  rw [if_pos ⟨by omega, by omega, by omega, by omega, by omega, by omega, by omega, by omega⟩]
  simp only [Int.toNat_natCast]
  rw [show ((n : Int) - 1) = ((n - 1 : Nat) : Int) by omega]; rfl

/-! ### facts on impl_Table_polarity -/
--IMPORT M0
open Go.Proofs.Ytfnbcbjgjoobpaa.M in
theorem impl_Table_polarity.ev {n v i : Nat} (h1 : 1 ≤ n) (hn : n ≤ 5) (hv : v < 2 ^ 32) (hi : i < n) : impl_Table_polarity.f n v i = some (polV n v i) := by
  have r0 := rstW_lt hn v i 0
  have r1 := rstW_lt hn v i 1
  unfold impl_Table_polarity.f
  have q0 := impl_Table_restrict.ev (b := 0) h1 hn hv hi (by omega)
  have q1 := impl_Table_restrict.ev (b := 1) h1 hn hv hi (by omega)
  have q0' : impl_Table_restrict.f n v i 0 = _ := q0
  have q1' : impl_Table_restrict.f n v i 1 = _ := q1
  rw [q0', Option.bind_some, q1', Option.bind_some]
  rw [andNot_nat (by omega) (by omega), andNot_nat (by omega) (by omega)]
  unfold polV pol
  have s1 := subset_iff (a := rstW n v i 0) (v := rstW n v i 1)
  have s2 := subset_iff (a := rstW n v i 1) (v := rstW n v i 0)
  generalize rstW n v i 0 = a at *
  generalize rstW n v i 1 = b at *
  by_cases e1 : a = b
  · rw [if_pos e1, if_pos (by omega)]
  · rw [if_neg e1, if_neg (by omega)]
    by_cases e2 : a &&& b = a
    · rw [if_pos e2, if_pos (by rw [s1.mp e2]; rfl)]
    · have z := fun e => e2 (s1.mpr e)
      rw [if_neg e2, if_neg (by omega)]
      by_cases e3 : b &&& a = b
      · rw [if_pos e3, if_pos (by rw [s2.mp e3]; rfl)]
      · have z := fun e => e3 (s2.mpr e)
        rw [if_neg e3, if_neg (by omega)]

/-! ### facts on impl_Table_unateShift -/
--IMPORT M0
open Go.Proofs.Ytfnbcbjgjoobpaa.M in
theorem impl_Table_unateShift.ev {n v : Nat} (hn : n ≤ 5) (hv : v < 2 ^ 2 ^ n) : Ev (fun k => impl_Table_unateShift.f k n v) (if noTwo (polV n v) n = true then (((prefW (fun i => polV n v i == -1) n : Nat) : Int), true) else (0, false)) := by
  have h32 := full_lt hn
  have key : ∀ d i, i + d = n → (∀ j, j < i → polV n v j ≠ 2) → Ev (fun k => impl_Table_unateShift.l0 k ((prefW (fun i => polV n v i == -1) i : Nat) : Int) n (i : Int) n v) (if noTwo (polV n v) n = true then (((prefW (fun i => polV n v i == -1) n : Nat) : Int), true) else (0, false)) := by
    intro d
    induction d with
    | zero =>
      intro i hi hj
      obtain rfl : i = n := by omega
      rw [noTwo_true hj, if_pos rfl]
      refine Ev.end (fun k => ?_)
      simp only [impl_Table_unateShift.l0]
      rw [if_neg (by omega)]
    | succ d ih =>
      intro i hi hj
      have hp := impl_Table_polarity.ev (n := n) (v := v) (i := i) (by omega) hn (by omega) (by omega)
      by_cases h2 : polV n v i = 2
      · rw [noTwo_false h2 (by omega), if_neg (by decide)]
        refine Ev.end (fun k => ?_)
        simp only [impl_Table_unateShift.l0]
        rw [if_pos (by omega), hp, Option.bind_some, if_neg (by rw [h2]; decide), if_pos h2]
      · have hnext := ih (i + 1) (by omega) (fun j hj' => by
          by_cases e : j = i
          · rw [e]; exact h2
          · exact hj j (by omega))
        refine Ev.step (fun k => ?_) hnext
        simp only [impl_Table_unateShift.l0]
        rw [if_pos (by omega), hp, Option.bind_some, w64 (by omega) (by omega)]
        by_cases h1 : polV n v i = -1
        · rw [if_pos h1, if_pos (by omega), prefW_step_one (g := fun i => polV n v i == -1) (by omega) (by rw [h1]; rfl)]; rfl
        · rw [if_neg h1, if_neg h2, prefW_skip (g := fun i => polV n v i == -1) (beq_eq_false_iff_ne.mpr h1)]; rfl
  exact key n 0 (by omega) (fun j hj => by omega)

/-! ### facts on impl_UnateShift -/
--IMPORT M0
open Go.Proofs.Ytfnbcbjgjoobpaa.M in
theorem impl_UnateShift.evT {n v : Nat} (hn : n ≤ 5) (hv : v < 2 ^ 2 ^ n) : Ev (fun k => impl_UnateShift.f k n v) (if noTwo (polV n v) n = true then (((prefW (fun i => polV n v i == -1) n : Nat) : Int), true) else (0, false)) := by
  unfold impl_UnateShift.f
  rw [impl_IsTable.ev, isT_mk hn hv]
  simp only [Option.bind_some, if_true]
  exact Ev.bind (impl_Table_unateShift.ev hn hv) (Ev.now _)
open Go.Proofs.Ytfnbcbjgjoobpaa.M in
theorem impl_UnateShift.evF {a b : Int} (ht : isT a b = false) : Ev (fun k => impl_UnateShift.f k a b) (0, false) := by
  unfold impl_UnateShift.f
  rw [impl_IsTable.ev, ht]
  simp only [Option.bind_some, Bool.false_eq_true, if_false]
  exact Ev.now _

/-! ### facts on impl_IsUnate -/
--IMPORT M0
open Go.Proofs.Ytfnbcbjgjoobpaa.M in
theorem impl_IsUnate.evT {n v : Nat} (hn : n ≤ 5) (hv : v < 2 ^ 2 ^ n) : Ev (fun k => impl_IsUnate.f k n v) (noTwo (polV n v) n) := by
  refine Ev.bind (impl_UnateShift.evT hn hv) ?_
  cases noTwo (polV n v) n
  · exact Ev.now _
  · exact Ev.now _
open Go.Proofs.Ytfnbcbjgjoobpaa.M in
theorem impl_IsUnate.evF {a b : Int} (ht : isT a b = false) : Ev (fun k => impl_IsUnate.f k a b) false := Ev.bind (impl_UnateShift.evF ht) (Ev.now _)

/-! ### facts on impl_Table_shift -/
--IMPORT M2
open Go.Proofs.Ytfnbcbjgjoobpaa.M in
theorem impl_Table_shift.ev {n v s : Nat} (hn : n ≤ 5) (hv : v < 2 ^ 32) (hs : s < 2 ^ n) : impl_Table_shift.f n v s = some ((n : Int), ((prefW (fun x => v.testBit (x ^^^ s)) (2 ^ n) : Nat) : Int)) := by
  have h5 := pow_le_5 hn
  unfold impl_Table_shift.f
  rw [if_pos ⟨by omega, by omega, by omega, by omega, by omega, by omega⟩]
  simp only [Int.toNat_natCast]

/-! ### facts on spec_l3Restrict -/
--IMPORT M0
open Go.Proofs.Ytfnbcbjgjoobpaa.M in
theorem spec_l3Restrict.ins_ev : ∀ x : Nat, x < 16 → ∀ i : Nat, i < 5 → ∀ b : Nat, b < 2 → (spec_l3Insert.f (x : Int) (i : Int) (b : Int) = some ((ins x i b : Nat) : Int) ∧ ins x i b < 32) :=
  allB_dec3 (P := fun x i b => spec_l3Insert.f (x : Int) (i : Int) (b : Int) = some ((ins x i b : Nat) : Int) ∧ ins x i b < 32) (by decide +kernel)
open Go.Proofs.Ytfnbcbjgjoobpaa.M in
theorem spec_l3Restrict.ev {n v i b : Nat} (h1 : 1 ≤ n) (hn : n ≤ 5) (hv : v < 2 ^ 63) (hi : i < n) (hb : b ≤ 1) : Ev (fun k => spec_l3Restrict.f k n v i b) (((n - 1 : Nat) : Int), ((rstW n v i b : Nat) : Int)) := by
  have h16 := half16 hn
  have en : wrap64 ((n : Int) - 1) = ((n - 1 : Nat) : Int) := by rw [w64 (by omega) (by omega)]; omega
  have key : ∀ d x, x + d = 2 ^ (n - 1) → Ev (fun k => spec_l3Restrict.l0 k i b ((prefW (fun x => v.testBit (ins x i b)) x : Nat) : Int) (x : Int) n v) (((n - 1 : Nat) : Int), ((rstW n v i b : Nat) : Int)) := by
    refine Ev.count (fun k x => spec_l3Restrict.l0 k i b ((prefW (fun x => v.testBit (ins x i b)) x : Nat) : Int) (x : Int) n v) (2 ^ (n - 1)) _ ?_ ?_
    · intro x hx h
      refine Ev.step (fun k => ?_) h
      obtain ⟨e1, e2⟩ := spec_l3Restrict.ins_ev x (by omega) i (by omega) b (by omega)
      simp only [spec_l3Restrict.l0]
      rw [en, if_pos (Int.natCast_nonneg _), shl_one (by omega), if_pos (by omega), e1, Option.bind_some, if_pos (Int.natCast_nonneg _), if_pos (Int.natCast_nonneg _), bit_nat hv (by omega), prefW_step (g := fun x => v.testBit (ins x i b)) (by omega), w64 (by omega) (by omega)]
      rfl
    · refine Ev.end (fun k => ?_)
      simp only [spec_l3Restrict.l0]
      rw [en, if_pos (Int.natCast_nonneg _), shl_one (by omega), if_neg (by omega)]; rfl
  exact key (2 ^ (n - 1)) 0 (by omega)

/-! ### facts on spec_l26Polarity -/
--IMPORT M0
open Go.Proofs.Ytfnbcbjgjoobpaa.M in
theorem spec_l26Polarity.ev {n v i : Nat} (h1 : 1 ≤ n) (hn : n ≤ 5) (hv : v < 2 ^ 63) (hi : i < n) : Ev (fun k => spec_l26Polarity.f k n v i) (polV n v i) := by
  have r0 := rstW_lt hn v i 0
  have r1 := rstW_lt hn v i 1
  refine Ev.bind (spec_l3Restrict.ev (b := 0) h1 hn hv hi (by omega)) (Ev.bind (spec_l3Restrict.ev (b := 1) h1 hn hv hi (by omega)) (Ev.of_some (fun k => ?_)))
  show (if ((rstW n v i 0 : Nat) : Int) = ((rstW n v i 1 : Nat) : Int) then _ else _) = _
  unfold polV pol
  rw [and_nat (by omega) (by omega)]
  generalize rstW n v i 0 = a at *
  generalize rstW n v i 1 = b at *
  by_cases e1 : a = b
  · rw [if_pos e1, if_pos (by omega)]
  · rw [if_neg e1, if_neg (by omega)]
    by_cases e2 : a &&& b = a
    · rw [if_pos e2, if_pos (by rw [e2])]
    · rw [if_neg e2, if_neg (by omega)]
      rw [Nat.and_comm b a]
      by_cases e3 : a &&& b = b
      · rw [if_pos e3, if_pos (by rw [e3])]
      · rw [if_neg e3, if_neg (by omega)]

/-! ### facts on spec_IsUnate -/
--IMPORT M0
open Go.Proofs.Ytfnbcbjgjoobpaa.M in
theorem spec_IsUnate.evT {n v : Nat} (hn : n ≤ 5) (hv : v < 2 ^ 2 ^ n) : Ev (fun k => spec_IsUnate.f k n v) (noTwo (polV n v) n) := by
  have h32 := full_lt hn
  have ht := isT_mk hn hv
  have key : ∀ d i, i + d = n → (∀ j, j < i → polV n v j ≠ 2) → Ev (fun k => spec_IsUnate.l0 k (i : Int) n v) (noTwo (polV n v) n) := by
    intro d
    induction d with
    | zero =>
      intro i hi hj
      obtain rfl : i = n := by omega
      rw [noTwo_true hj]
      refine Ev.step (f := fun k => spec_IsUnate.j1 k (i : Int) false i v) (fun k => ?_) ?_
      · simp only [spec_IsUnate.l0]
        rw [spec_IsTable.ev, ht, Option.bind_some, if_pos rfl, decide_eq_false (by omega)]
      · refine Ev.end (fun k => ?_)
        simp only [spec_IsUnate.j1, Bool.false_eq_true, if_false]
        rw [spec_IsTable.ev, ht, Option.bind_some]
    | succ d ih =>
      intro i hi hj
      refine Ev.step (f := fun k => spec_IsUnate.j1 k (i : Int) true n v) (fun k => ?_) ?_
      · simp only [spec_IsUnate.l0]
        rw [spec_IsTable.ev, ht, Option.bind_some, if_pos rfl, decide_eq_true (by omega)]
      · refine Ev.step (f := fun k => (spec_l26Polarity.f k n v i).bind fun t => if t = 2 then some false else spec_IsUnate.l0 k (wrap64 ((i : Int) + 1)) n v) (fun k => ?_) ?_
        · simp only [spec_IsUnate.j1, if_true]
        · refine Ev.bind (spec_l26Polarity.ev (by omega) hn (by omega) (by omega)) ?_
          by_cases h2 : polV n v i = 2
          · rw [noTwo_false h2 (by omega)]
            exact Ev.of_some (fun k => if_pos h2)
          · have hnext := ih (i + 1) (by omega) (fun j hj' => by
              by_cases e : j = i
              · rw [e]; exact h2
              · exact hj j (by omega))
            refine Ev.congr (fun k => ?_) hnext
            rw [if_neg h2, w64 (by omega) (by omega)]; rfl
  exact key n 0 (by omega) (fun j hj => by omega)
open Go.Proofs.Ytfnbcbjgjoobpaa.M in
theorem spec_IsUnate.evF {a b : Int} (ht : isT a b = false) : Ev (fun k => spec_IsUnate.f k a b) false := by
  refine Ev.step (f := fun k => spec_IsUnate.j1 k 0 false a b) (fun k => ?_) ?_
  · unfold spec_IsUnate.f
    simp only [spec_IsUnate.l0]
    rw [spec_IsTable.ev, ht, Option.bind_some, if_neg (by decide)]
  · refine Ev.end (fun k => ?_)
    simp only [spec_IsUnate.j1, Bool.false_eq_true, if_false]
    rw [spec_IsTable.ev, ht, Option.bind_some]

/-! ### facts on spec_UnateShift -/
--IMPORT M0
open Go.Proofs.Ytfnbcbjgjoobpaa.M in
theorem spec_UnateShift.evT {n v : Nat} (hn : n ≤ 5) (hv : v < 2 ^ 2 ^ n) : Ev (fun k => spec_UnateShift.f k n v) (if noTwo (polV n v) n = true then (((prefW (fun i => polV n v i == -1) n : Nat) : Int), true) else (0, false)) := by
  have h32 := full_lt hn
  refine Ev.bind (spec_IsUnate.evT hn hv) ?_
  cases noTwo (polV n v) n with
  | false => exact Ev.now _
  | true =>
    simp only [if_true]
    have key : ∀ d i, i + d = n → Ev (fun k => spec_UnateShift.l0 k ((prefW (fun i => polV n v i == -1) i : Nat) : Int) (i : Int) n v) (((prefW (fun i => polV n v i == -1) n : Nat) : Int), true) := by
      refine Ev.count (fun k i => spec_UnateShift.l0 k ((prefW (fun i => polV n v i == -1) i : Nat) : Int) (i : Int) n v) n _ ?_ ?_
      · intro i hi hnext
        refine Ev.step (f := fun k => (spec_l26Polarity.f k n v i).bind fun t => if t = -1 then (if 0 ≤ (i : Int) then spec_UnateShift.l0 k (Go.bits .or .i64 ((prefW (fun i => polV n v i == -1) i : Nat) : Int) (shl .i64 1 (i : Int))) (wrap64 ((i : Int) + 1)) n v else none) else spec_UnateShift.l0 k ((prefW (fun i => polV n v i == -1) i : Nat) : Int) (wrap64 ((i : Int) + 1)) n v) (fun k => ?_) ?_
        · simp only [spec_UnateShift.l0]
          rw [if_pos (by omega)]
        · refine Ev.bind (spec_l26Polarity.ev (by omega) hn (by omega) hi) (Ev.congr (fun k => ?_) hnext)
          rw [w64 (by omega) (by omega)]
          by_cases h1 : polV n v i = -1
          · rw [if_pos h1, if_pos (by omega), prefW_step_one (g := fun i => polV n v i == -1) (by omega) (by rw [h1]; rfl)]; rfl
          · rw [if_neg h1, prefW_skip (g := fun i => polV n v i == -1) (beq_eq_false_iff_ne.mpr h1)]; rfl
      · refine Ev.end (fun k => ?_)
        simp only [spec_UnateShift.l0]
        rw [if_neg (by omega)]
    exact key n 0 (by omega)
open Go.Proofs.Ytfnbcbjgjoobpaa.M in
theorem spec_UnateShift.evF {a b : Int} (ht : isT a b = false) : Ev (fun k => spec_UnateShift.f k a b) (0, false) := Ev.bind (spec_IsUnate.evF ht) (Ev.now _)

/-! ### facts on impl_hasInput -/
--IMPORT M5
open Go.Proofs.Ytfnbcbjgjoobpaa.M in
theorem impl_hasInput.ev (a b x : Int) : impl_hasInput.f a b x = some (isT a b && inR a.toNat x) := by
  unfold impl_hasInput.f
  rw [impl_IsTable.ev]
  cases h : isT a b with
  | false => rfl
  | true =>
    obtain ⟨n, v, rfl, rfl, hn, hv⟩ := isT_nat h
    rw [Option.bind_some, if_pos rfl]
    unfold impl_isInput.f inR
    rw [Int.toNat_natCast]
    by_cases hx : x ≥ 0
    · rw [if_pos hx, if_pos (Int.natCast_nonneg n), shl_one (by omega), Option.bind_some]
      congr 1
      rw [Bool.true_and]
      apply decide_eq_decide.mpr
      omega
    · rw [if_neg hx, Option.bind_some]
      congr 1; symm
      rw [Bool.true_and]
      apply decide_eq_false; omega

/-! ### facts on impl_Table_isMonotone -/
--IMPORT M13
--IMPORT M2
open Go.Proofs.Ytfnbcbjgjoobpaa.M in
theorem impl_Table_isMonotone.ev {n v : Nat} (hn : n ≤ 5) (hv : v < 2 ^ 2 ^ n) : Ev (fun k => impl_Table_isMonotone.f k n v) (monW n v n) := by
  have h32 := full_lt hn
  have key : ∀ d i, i + d = n → monW n v i = true → Ev (fun k => impl_Table_isMonotone.l0 k n i n v) (monW n v n) := by
    intro d
    induction d with
    | zero =>
      intro i hi hm
      obtain rfl : i = n := by omega
      rw [hm]
      refine Ev.end (fun k => ?_)
      simp only [impl_Table_isMonotone.l0]
      rw [if_neg (by omega)]
    | succ d ih =>
      intro i hi hm
      have e0 := impl_Table_restrict.ev (n := n) (v := v) (i := i) (b := 0) (by omega) hn (by omega) (by omega) (by decide)
      have e1 := impl_Table_restrict.ev (n := n) (v := v) (i := i) (b := 1) (by omega) hn (by omega) (by omega) (by decide)
      have l0 := rstW_lt hn v i 0
      have l1 := rstW_lt hn v i 1
      have ea : Go.bits .andNot .i64 ((rstW n v i 0 : Nat) : Int) ((rstW n v i 1 : Nat) : Int) = ((andn (rstW n v i 0) (rstW n v i 1) : Nat) : Int) := andNot_nat (by omega) (by omega)
      have hlt : (i : Int) < (n : Int) := by omega
      have z0 : ((0 : Nat) : Int) = 0 := rfl
      have z1 : ((1 : Nat) : Int) = 1 := rfl
      rw [z0] at e0
      rw [z1] at e1
      by_cases hq : andn (rstW n v i 0) (rstW n v i 1) = 0
      · have hm2 : monW n v (i + 1) = true := monW_iff.mpr (fun j hj => by
          by_cases e : j = i
          · rw [e]; exact hq
          · exact monW_iff.mp hm j (by omega))
        refine Ev.step (fun k => ?_) (ih (i + 1) (by omega) hm2)
        simp only [impl_Table_isMonotone.l0, hlt, e0, e1, Option.bind_some, ea, hq, up1 (x := i) (by omega), z0, ↓reduceIte]
      · have hf : monW n v n = false := by
          cases hc : monW n v n with
          | false => rfl
          | true => exact absurd (monW_iff.mp hc i (by omega)) hq
        rw [hf]
        have hq2 : ¬ ((andn (rstW n v i 0) (rstW n v i 1) : Nat) : Int) = 0 := by omega
        refine Ev.end (fun k => ?_)
        simp only [impl_Table_isMonotone.l0, hlt, e0, e1, Option.bind_some, ea, hq2, ↓reduceIte]
  exact key n 0 (by omega) rfl

/-! ### facts on spec_DrawPolarityOf -/
--IMPORT M14
open Go.Proofs.Ytfnbcbjgjoobpaa.M in
theorem spec_DrawPolarityOf.ok (b : List Int) (hb : b.length ≤ 1048576) : Tot (fun k => spec_DrawPolarityOf.f k b) (fun _ => True) := by
  unfold spec_DrawPolarityOf.f
  refine Tot.bind (spec_l1New.ok b hb) (fun r hr => ?_)
  obtain ⟨r1, r2, r3⟩ := r
  obtain ⟨rfl, rfl⟩ := hr
  refine Tot.bind (spec_l26Draw.ok r1 hb 0 r3 (Int.le_refl 0)) (fun s hs => ?_)
  obtain ⟨y, i2, h2, e2, _, _, y3⟩ := spec_l1Below.ok r1 s.2.2.1 s.2.2.2 6 hb hs (by decide) (by decide)
  simp only [e2, Option.bind_some]
  exact Tot.now _ trivial

/-! ### facts on impl_hasVariable -/
--IMPORT M0
open Go.Proofs.Ytfnbcbjgjoobpaa.M in
theorem impl_hasVariable.ev (a b i : Int) : impl_hasVariable.f a b i = some (isT a b && decide (0 ≤ i ∧ i < a)) := by
  unfold impl_hasVariable.f
  rw [impl_IsTable.ev, Option.bind_some]
  cases isT a b with
  | false => rfl
  | true =>
    rw [if_pos rfl]
    by_cases h : 0 ≤ i
    · rw [if_pos h]; simp [h]
    · rw [if_neg h]; simp [h]

/-! ### facts on spec_DrawCountUnate -/
--IMPORT M14
open Go.Proofs.Ytfnbcbjgjoobpaa.M in
theorem spec_DrawCountUnate.ok (b : List Int) (hb : b.length ≤ 1048576) : Tot (fun k => spec_DrawCountUnate.f k b) (fun _ => True) := by
  unfold spec_DrawCountUnate.f
  refine Tot.bind (spec_l1New.ok b hb) (fun r hr => ?_)
  obtain ⟨r1, r2, r3⟩ := r
  obtain ⟨rfl, rfl⟩ := hr
  obtain ⟨y, i2, h2, e2, _, _, y3⟩ := spec_l1Below.ok r1 0 r3 6 hb (Int.le_refl 0) (by decide) (by decide)
  simp only [e2, Option.bind_some]
  exact Tot.now _ trivial

/-! ### facts on impl_CountUnate -/
--IMPORT M7
open Go.Proofs.Ytfnbcbjgjoobpaa.M in
theorem impl_CountUnate.evT {n : Nat} (hn : n ≤ 4) : Ev (fun k => impl_CountUnate.f k n) ((cnt (fun i => noTwo (polV n i) n) (2 ^ 2 ^ n) : Nat) : Int) := by
  have h := cntO_ev (g := fun k i => impl_IsUnate.f k (n : Int) (i : Int)) (p := fun i => noTwo (polV n i) n) (m := 2 ^ 2 ^ n) (fun i hi => impl_IsUnate.evT (by omega) hi)
  refine Ev.congr (fun k => ?_) (Ev.bind (f := fun _ (c : Nat) => some ((c : Nat) : Int)) h (Ev.now _))
  unfold impl_CountUnate.f
  rw [if_pos (by omega), Int.toNat_natCast]
open Go.Proofs.Ytfnbcbjgjoobpaa.M in
theorem impl_CountUnate.evF {a : Int} (h : ¬ (0 ≤ a ∧ a ≤ 4)) : Ev (fun k => impl_CountUnate.f k a) (-1) := by
  refine Ev.of_some (fun k => ?_)
  unfold impl_CountUnate.f
  rw [if_neg h]

/-! ### facts on spec_CountUnate -/
--IMPORT M7
open Go.Proofs.Ytfnbcbjgjoobpaa.M in
theorem spec_CountUnate.evT {n : Nat} (hn : n ≤ 4) : Ev (fun k => spec_CountUnate.f k n) ((cnt (fun i => noTwo (polV n i) n) (2 ^ 2 ^ n) : Nat) : Int) := by
  have h16 : 2 ^ n ≤ 16 := Nat.pow_le_pow_right (n := 2) (by decide) hn
  have hfl := spec_l2Full.ev (n := n) (by omega)
  have hu : ∀ x : Nat, x < 2 ^ 2 ^ n → Ev (fun k => spec_IsUnate.f k (n : Int) (x : Int)) (noTwo (polV n x) n) := fun x hx => spec_IsUnate.evT (by omega) hx
  have hM2 : 2 ^ 2 ^ n ≤ 65536 := Nat.pow_le_pow_right (n := 2) (by decide) h16
  generalize 2 ^ 2 ^ n = M at *
  clear h16
  have key : ∀ d x, x + d = M → Ev (fun k => spec_CountUnate.l0 k n ((cnt (fun i => noTwo (polV n i) n) x : Nat) : Int) (x : Int)) ((cnt (fun i => noTwo (polV n i) n) M : Nat) : Int) := by
    refine Ev.count (fun k x => spec_CountUnate.l0 k n ((cnt (fun i => noTwo (polV n i) n) x : Nat) : Int) (x : Int)) M _ ?_ ?_
    · intro x hx h
      have hle := cnt_le (fun i => noTwo (polV n i) n) x
      refine Ev.step (f := fun k => (spec_IsUnate.f k n x).bind fun t => if t = true then spec_CountUnate.l0 k n (((cnt (fun i => noTwo (polV n i) n) x + 1 : Nat)) : Int) ((x + 1 : Nat) : Int) else spec_CountUnate.l0 k n ((cnt (fun i => noTwo (polV n i) n) x : Nat) : Int) ((x + 1 : Nat) : Int)) (fun k => ?_) (Ev.bind (hu x hx) ?_)
      · simp only [spec_CountUnate.l0]
        rw [hfl, Option.bind_some, if_pos (by omega), up1 (by omega), up1 (by omega)]
      · cases hb : noTwo (polV n x) n with
        | true =>
          refine Ev.congr (fun k => if_pos rfl) ?_
          rw [cnt, hb] at h; exact h
        | false =>
          refine Ev.congr (fun k => if_neg (by decide)) ?_
          rw [cnt, hb] at h; exact h
    · refine Ev.end (fun k => ?_)
      simp only [spec_CountUnate.l0]
      rw [hfl, Option.bind_some, if_neg (by omega)]
  refine Ev.congr (fun k => ?_) (key M 0 (by omega))
  unfold spec_CountUnate.f
  rw [spec_l1In.ev, decide_eq_true (by omega)]; rfl
open Go.Proofs.Ytfnbcbjgjoobpaa.M in
theorem spec_CountUnate.evF {a : Int} (h : ¬ (0 ≤ a ∧ a ≤ 4)) : Ev (fun k => spec_CountUnate.f k a) (-1) := by
  refine Ev.of_some (fun k => ?_)
  unfold spec_CountUnate.f
  rw [spec_l1In.ev, decide_eq_false h]; rfl

/-! ### facts on laws_FnUnate -/
--IMPORT M13
--IMPORT M14
--IMPORT M2
open Go.Proofs.Ytfnbcbjgjoobpaa.M in
/-- is a table monotone -/
def laws_FnUnate.mon (a b : Int) : Bool := isT a b && monW a.toNat b.toNat a.toNat
open Go.Proofs.Ytfnbcbjgjoobpaa.M in
theorem laws_FnUnate.mon_ev (a b : Int) : Ev (fun k => impl_IsMonotone.f k a b) (laws_FnUnate.mon a b) := by
  unfold impl_IsMonotone.f laws_FnUnate.mon
  simp only [impl_IsTable.ev, Option.bind_some]
  cases ht : isT a b with
  | false => exact Ev.congr (fun k => if_neg (by decide)) (Ev.now _)
  | true =>
    obtain ⟨n, v, rfl, rfl, hn, hv⟩ := isT_nat ht
    rw [Int.toNat_natCast, Int.toNat_natCast, Bool.true_and]
    exact Ev.congr (fun k => if_pos rfl) (Ev.bind (impl_Table_isMonotone.ev hn hv) (Ev.now _))
open Go.Proofs.Ytfnbcbjgjoobpaa.M in
/-- the polarity of a variable -/
def laws_FnUnate.polar (a b i : Int) : Int := if isT a b = true ∧ 0 ≤ i ∧ i < a then polV a.toNat b.toNat i.toNat else -2
open Go.Proofs.Ytfnbcbjgjoobpaa.M in
theorem laws_FnUnate.polar_i (a b i : Int) : impl_PolarityOf.f a b i = some (laws_FnUnate.polar a b i) := by
  unfold impl_PolarityOf.f laws_FnUnate.polar
  rw [impl_hasVariable.ev, Option.bind_some]
  cases ht : isT a b with
  | false => rw [Bool.false_and, if_neg (by decide), if_neg (by simp)]
  | true =>
    obtain ⟨n, v, rfl, rfl, hn, hv⟩ := isT_nat ht
    have h32 := full_lt hn
    rw [Bool.true_and]
    by_cases hi : 0 ≤ i ∧ i < (n : Int)
    · obtain ⟨j, rfl⟩ := nat_of hi.1
      rw [decide_eq_true hi, if_pos rfl, if_pos ⟨rfl, hi⟩, impl_Table_polarity.ev (by omega) hn (by omega) (by omega)]
      simp only [Int.toNat_natCast, Option.bind_some]
    · rw [decide_eq_false hi, if_neg (by decide), if_neg (fun e => hi e.2)]
open Go.Proofs.Ytfnbcbjgjoobpaa.M in
theorem laws_FnUnate.polar_s (a b i : Int) : Ev (fun k => spec_PolarityOf.f k a b i) (laws_FnUnate.polar a b i) := by
  unfold spec_PolarityOf.f laws_FnUnate.polar
  simp only [spec_IsTable.ev, Option.bind_some]
  cases ht : isT a b with
  | false =>
    rw [if_neg (by simp)]
    exact Ev.congr (fun k => if_neg (by decide)) (Ev.now _)
  | true =>
    obtain ⟨n, v, rfl, rfl, hn, hv⟩ := isT_nat ht
    have h32 := full_lt hn
    have en : wrap64 ((n : Int) - 1) = (n : Int) - 1 := w64 (by omega) (by omega)
    simp only [en, spec_l1In.ev, Option.bind_some, if_true]
    by_cases hi : 0 ≤ i ∧ i < (n : Int)
    · have hi' : 0 ≤ i ∧ i ≤ (n : Int) - 1 := ⟨hi.1, by omega⟩
      obtain ⟨j, rfl⟩ := nat_of hi.1
      rw [if_pos (by first | exact ⟨rfl, hi⟩ | exact ⟨trivial, hi⟩)]
      simp only [Int.toNat_natCast]
      exact Ev.congr (fun k => if_pos (decide_eq_true hi')) (Ev.bind (spec_l26Polarity.ev (by omega) hn (by omega) (by omega)) (Ev.now _))
    · have hi' : ¬ (0 ≤ i ∧ i ≤ (n : Int) - 1) := fun e => hi ⟨e.1, by omega⟩
      rw [if_neg (fun e => hi e.2)]
      exact Ev.congr (fun k => if_neg (by rw [decide_eq_false hi']; decide)) (Ev.now _)
open Go.Proofs.Ytfnbcbjgjoobpaa.M in
theorem laws_FnUnate.dep (a b i : Int) (h : laws_FnUnate.polar a b i > -2) : impl_DependsOn.f a b i = some (!(laws_FnUnate.polar a b i == 0)) := by
  unfold impl_DependsOn.f
  unfold laws_FnUnate.polar at h ⊢
  by_cases hc : isT a b = true ∧ 0 ≤ i ∧ i < a
  · rw [if_pos hc]
    obtain ⟨ht, hi⟩ := hc
    rw [impl_hasVariable.ev, Option.bind_some, ht, Bool.true_and, decide_eq_true hi, if_pos rfl]
    obtain ⟨n, v, rfl, rfl, hn, hv⟩ := isT_nat ht
    have h32 := full_lt hn
    obtain ⟨j, rfl⟩ := nat_of hi.1
    have e0 := impl_Table_restrict.ev (n := n) (v := v) (i := j) (b := 0) (by omega) hn (by omega) (by omega) (by decide)
    have e1 := impl_Table_restrict.ev (n := n) (v := v) (i := j) (b := 1) (by omega) hn (by omega) (by omega) (by decide)
    have z0 : ((0 : Nat) : Int) = 0 := rfl
    have z1 : ((1 : Nat) : Int) = 1 := rfl
    rw [z0] at e0
    rw [z1] at e1
    unfold impl_Table_depends.f
    rw [e0, Option.bind_some, e1, Option.bind_some]
    simp only [Int.toNat_natCast, beq_self_eq_true, Bool.not_true, Bool.false_or, Option.bind_some]
    congr 2
    have hz := pol_zero (a := rstW n v j 0) (b := rstW n v j 1)
    show (((rstW n v j 0 : Nat) : Int) == ((rstW n v j 1 : Nat) : Int)) = (pol (rstW n v j 0) (rstW n v j 1) == 0)
    by_cases e : rstW n v j 0 = rstW n v j 1
    · rw [hz.mpr e, e]; simp
    · have e2 : ¬ pol (rstW n v j 0) (rstW n v j 1) = 0 := fun h => e (hz.mp h)
      rw [beq_eq_false_iff_ne.mpr e2, beq_eq_false_iff_ne.mpr (by omega)]
  · rw [if_neg hc] at h; omega
open Go.Proofs.Ytfnbcbjgjoobpaa.M in
theorem laws_FnUnate.count (m : Int) : ∃ r, Ev (fun k => spec_CountUnate.f k m) r ∧ Ev (fun k => impl_CountUnate.f k m) r := by
  by_cases h : 0 ≤ m ∧ m ≤ 4
  · obtain ⟨n, rfl⟩ := nat_of h.1
    exact ⟨_, spec_CountUnate.evT (n := n) (by omega), impl_CountUnate.evT (n := n) (by omega)⟩
  · exact ⟨_, spec_CountUnate.evF h, impl_CountUnate.evF h⟩
open Go.Proofs.Ytfnbcbjgjoobpaa.M in
theorem laws_FnUnate.j3_ev (l : List Int) (hb : l.length ≤ 1048576) : Ev (fun k => laws_FnUnate.j3 k l false) true := by
  obtain ⟨m, _, hm⟩ := spec_DrawCountUnate.ok l hb
  obtain ⟨r, hs, hi⟩ := laws_FnUnate.count m
  refine Ev.step (f := fun k => (spec_DrawCountUnate.f k l).bind fun t => (impl_CountUnate.f k t).bind fun u => (spec_CountUnate.f k t).bind fun w => some (u == w)) (fun k => ?_) (Ev.bind hm (Ev.bind hi (Ev.bind hs (Ev.const (by simp)))))
  simp only [laws_FnUnate.j3, Bool.false_eq_true, ↓reduceIte]
open Go.Proofs.Ytfnbcbjgjoobpaa.M in
theorem laws_FnUnate.j2_ev (l : List Int) (hb : l.length ≤ 1048576) : Ev (fun k => laws_FnUnate.j2 k l false) true := by
  obtain ⟨⟨a, b, i⟩, _, hP⟩ := spec_DrawPolarityOf.ok l hb
  have h3 := laws_FnUnate.j3_ev l hb
  have hi := laws_FnUnate.polar_i a b i
  have hs := laws_FnUnate.polar_s a b i
  have hd := laws_FnUnate.dep a b i
  generalize laws_FnUnate.polar a b i = p at *
  refine Ev.step (f := fun k => (spec_DrawPolarityOf.f k l).bind fun t => (impl_PolarityOf.f t.1 t.2.1 t.2.2).bind fun u => (spec_PolarityOf.f k t.1 t.2.1 t.2.2).bind fun w => if u = w then (if u > (-2) then ((impl_DependsOn.f t.1 t.2.1 t.2.2).bind fun d => laws_FnUnate.j3 k l ((u == 0) == d)) else laws_FnUnate.j3 k l false) else laws_FnUnate.j3 k l true) (fun k => ?_) (Ev.bind hP (Ev.bind (Ev.const hi) (Ev.bind hs ?_)))
  · simp only [laws_FnUnate.j2, Bool.false_eq_true, ↓reduceIte]
  · refine Ev.congr (fun k => if_pos rfl) ?_
    by_cases h : p > -2
    · refine Ev.congr (fun k => if_pos h) ?_
      refine Ev.bind (Ev.const (hd h)) ?_
      have e : ((p == 0) == !(p == 0)) = false := by cases (p == 0) <;> rfl
      rw [e]; exact h3
    · exact Ev.congr (fun k => if_neg h) h3
open Go.Proofs.Ytfnbcbjgjoobpaa.M in
theorem laws_FnUnate.j1_ev (l : List Int) (hb : l.length ≤ 1048576) (q : Bool) (s a b : Int) (h : laws_FnUnate.mon a b = true → q = true ∧ s = 0) : Ev (fun k => laws_FnUnate.j1 k l q s a b) true := by
  have h2 := laws_FnUnate.j2_ev l hb
  have hm := laws_FnUnate.mon_ev a b
  refine Ev.step (f := fun k => (impl_IsMonotone.f k a b).bind fun t => if t = true then (if q = true then laws_FnUnate.j2 k l (s != 0) else laws_FnUnate.j2 k l true) else laws_FnUnate.j2 k l false) (fun k => rfl) (Ev.bind hm ?_)
  cases hq : laws_FnUnate.mon a b with
  | false => exact Ev.congr (fun k => if_neg (by decide)) h2
  | true =>
    obtain ⟨rfl, rfl⟩ := h hq
    exact Ev.congr (fun k => if_pos rfl) (Ev.congr (fun k => if_pos rfl) h2)
open Go.Proofs.Ytfnbcbjgjoobpaa.M in
theorem laws_FnUnate.pure_ : laws_FnUnate.Pure := by
  intro l _ _ _
  by_cases hb : l.length ≤ 1048576
  · have hbig : laws_big.f l = some false := by unfold laws_big.f; rw [decide_eq_false (by omega)]
    obtain ⟨⟨a, b⟩, _, hD⟩ := spec_DrawIsUnate.ok l hb
    suffices hfin : Ev (fun k => laws_FnUnate.f k l) true by
      obtain ⟨K, hK⟩ := hfin
      exact ⟨K, hK K (Nat.le_refl _)⟩
    unfold laws_FnUnate.f
    simp only [hbig, Option.bind_some, Bool.false_eq_true, ↓reduceIte]
    refine Ev.bind hD ?_
    simp only []
    cases ht : isT a b with
    | false =>
      have hmon : laws_FnUnate.mon a b = false := by unfold laws_FnUnate.mon; rw [ht]; rfl
      have ho1 : Ev (fun k => impl_OrientedTable.f k a b) (0, 0, false) := Ev.bind (impl_UnateShift.evF ht) (Ev.now _)
      have ho2 : Ev (fun k => spec_OrientedTable.f k a b) (0, 0, false) := Ev.bind (spec_UnateShift.evF ht) (Ev.now _)
      refine Ev.bind (impl_IsUnate.evF ht) (Ev.bind ho1 (Ev.bind ho2 (Ev.bind (impl_UnateShift.evF ht) (Ev.bind (spec_UnateShift.evF ht) (Ev.bind (spec_IsUnate.evF ht) ?_)))))
      simp only [bne_self_eq_false, beq_self_eq_true, Bool.not_true, Bool.or_self, Bool.false_eq_true, ↓reduceIte]
      refine Ev.step (f := fun k => laws_FnUnate.j1 k l false 0 a b) (fun k => by simp only [laws_FnUnate.j0, Bool.false_eq_true, ↓reduceIte]) (laws_FnUnate.j1_ev l hb false 0 a b (fun h => by rw [hmon] at h; cases h))
    | true =>
      obtain ⟨n, v, rfl, rfl, hn, hv⟩ := isT_nat ht
      have h32 := full_lt hn
      have hmon : laws_FnUnate.mon (n : Int) (v : Int) = monW n v n := by unfold laws_FnUnate.mon; rw [ht]; simp only [Int.toNat_natCast, Bool.true_and]
      have hs := spec_UnateShift.evT hn hv
      have hi := impl_UnateShift.evT hn hv
      have hu1 := impl_IsUnate.evT hn hv
      have hu2 := spec_IsUnate.evT hn hv
      have hp := fallW_lt n v
      by_cases h : noTwo (polV n v) n = true
      · rw [if_pos h] at hs hi
        rw [h] at hu1 hu2
        have hum := unate_mono hn h
        have htw := shW_twice hv hp
        have hw := shW_lt n v (fallW n v)
        have hmu : monW n v n = true → fallW n v = 0 := fun e => (mono_unate e).2
        have hs : Ev (fun k => spec_UnateShift.f k n v) (((fallW n v : Nat) : Int), true) := hs
        have hi : Ev (fun k => impl_UnateShift.f k n v) (((fallW n v : Nat) : Int), true) := hi
        have ho1 : Ev (fun k => impl_OrientedTable.f k n v) ((n : Int), ((shW n v (fallW n v) : Nat) : Int), true) := Ev.bind hi (Ev.congr (fun k => if_pos rfl) (Ev.bind (Ev.const (impl_Table_shift.ev hn (by omega) hp)) (Ev.now _)))
        have ho2 : Ev (fun k => spec_OrientedTable.f k n v) ((n : Int), ((shW n v (fallW n v) : Nat) : Int), true) := Ev.bind hs (Ev.congr (fun k => if_pos rfl) (Ev.bind (spec_l3Shift.ev hn (by omega) hp) (Ev.now _)))
        have hsh : impl_ShiftTable.f (n : Int) ((shW n v (fallW n v) : Nat) : Int) ((fallW n v : Nat) : Int) = some ((n : Int), (v : Int), true) := by
          have e := impl_Table_shift.ev (n := n) (v := shW n v (fallW n v)) (s := fallW n v) hn (by omega) hp
          have e2 : prefW (fun x => (shW n v (fallW n v)).testBit (x ^^^ fallW n v)) (2 ^ n) = v := htw
          rw [e2] at e
          unfold impl_ShiftTable.f
          rw [impl_hasInput.ev, isT_mk hn hw, Option.bind_some]
          have hr : inR (n : Int).toNat ((fallW n v : Nat) : Int) = true := by
            unfold inR
            rw [Int.toNat_natCast]
            exact decide_eq_true ⟨Int.natCast_nonneg _, by exact_mod_cast hp⟩
          rw [hr, Bool.and_self, if_pos rfl, e]; rfl
        have hm2 : Ev (fun k => impl_IsMonotone.f k (n : Int) ((shW n v (fallW n v) : Nat) : Int)) true := by
          have e := laws_FnUnate.mon_ev (n : Int) ((shW n v (fallW n v) : Nat) : Int)
          unfold laws_FnUnate.mon at e
          rw [isT_mk hn hw, Int.toNat_natCast, Int.toNat_natCast, hum] at e
          exact e
        generalize shW n v (fallW n v) = sw at *
        generalize fallW n v = fw at *
        refine Ev.bind hu1 (Ev.bind ho1 (Ev.bind ho2 (Ev.bind hi (Ev.bind hs (Ev.bind hu2 ?_)))))
        simp only [bne_self_eq_false, beq_self_eq_true, Bool.not_true, Bool.or_self, Bool.false_eq_true, ↓reduceIte]
        refine Ev.step (f := fun k => (impl_IsMonotone.f k (n : Int) (sw : Int)).bind fun t => if t = true then laws_FnUnate.j1 k l true (fw : Int) n v else some false) (fun k => ?_) (Ev.bind hm2 (Ev.congr (fun k => if_pos rfl) (laws_FnUnate.j1_ev l hb true (fw : Int) n v (fun e => ⟨rfl, by rw [hmu (by rw [← hmon]; exact e)]; rfl⟩))))
        simp only [laws_FnUnate.j0, hsh, Option.bind_some, beq_self_eq_true, Bool.not_true, Bool.or_self, Bool.false_eq_true, ↓reduceIte]
      · rw [if_neg h] at hs hi
        have hf : noTwo (polV n v) n = false := by simpa using h
        rw [hf] at hu1 hu2
        have ho1 : Ev (fun k => impl_OrientedTable.f k n v) (0, 0, false) := Ev.bind hi (Ev.now _)
        have ho2 : Ev (fun k => spec_OrientedTable.f k n v) (0, 0, false) := Ev.bind hs (Ev.now _)
        refine Ev.bind hu1 (Ev.bind ho1 (Ev.bind ho2 (Ev.bind hi (Ev.bind hs (Ev.bind hu2 ?_)))))
        simp only [bne_self_eq_false, beq_self_eq_true, Bool.not_true, Bool.or_self, Bool.false_eq_true, ↓reduceIte]
        refine Ev.step (f := fun k => laws_FnUnate.j1 k l false 0 n v) (fun k => by simp only [laws_FnUnate.j0, Bool.false_eq_true, ↓reduceIte]) (laws_FnUnate.j1_ev l hb false 0 n v (fun e => by rw [hmon] at e; exact absurd (mono_unate e).1 h))
  · refine ⟨0, ?_⟩
    unfold laws_FnUnate.f laws_big.f
    rw [decide_eq_true (by omega), Option.bind_some, if_pos rfl]

end Go.Proofs.Ytfnbcbjgjoobpaa.Print
