import Derived.Test.YtfoopehlmnejaaaGreatDoorKSizes2
import Derived.Test.YtfoopehlmnejaaaGreatDoorKSizes11
import Derived.Test.YtfoopehlmnejaaaGreatDoorKSizes23
import Derived.Test.YtfoopehlmnejaaaGreatDoorKSizes33
import Derived.Test.YtfoopehlmnejaaaGreatDoorKSizes34
import Derived.Test.YtfoopehlmnejaaaGreatDoorKSizes35
import Derived.Test.YtfoopehlmnejaaaGreatDoorM35
namespace Go.Proofs.YtfoopehlmnejaaaGreatDoor.Print
open Go.RowKit Go.Proofs.YtfoopehlmnejaaaGreatDoorW.PrintWords Go.Proofs.YtfoopehlmnejaaaGreatDoorW.PrintLast Go.Proofs.YtfoopehlmnejaaaGreatDoorW.PrintMore
attribute [local go_sem] max2_int min2_int max_two min_two max_three min_three max_four min_four   -- for this text's walks alone
set_option linter.unusedVariables false
set_option linter.unusedSimpArgs false

open Go.Proofs.YtfoopehlmnejaaaGreatDoor.M
theorem spec_l1Byte.ok (b : List Int) (i h : Int) (hb : b.length ≤ 1048576) (hi : 0 ≤ i) : ∃ x i' h', spec_l1Byte.f b i h = some (x, i', h') ∧ 0 ≤ x ∧ x ≤ 255 ∧ 0 ≤ i' := by
 unfold spec_l1Byte.f
 by_cases hc : i < (b.length : Int)
 ·rw [if_pos hc, if_pos hi, w64 (x := i + 1) (by omega) (by omega)]
  exact ⟨_, _, _, rfl, (and_255 _).1, (and_255 _).2, by omega⟩
 ·rw [if_neg hc]
  exact ⟨_, _, _, rfl, (and_255 _).1, (and_255 _).2, hi⟩

theorem spec_l1Below.ok (b : List Int) (i h n : Int) (hb : b.length ≤ 1048576) (hi : 0 ≤ i) (h1 : 1 ≤ n) (h2 : n ≤ 256) : ∃ x i' h', spec_l1Below.f b i h n = some (x, i', h') ∧ 0 ≤ x ∧ x < n ∧ 0 ≤ i' := by
 obtain ⟨x, i', h', e, e1, e2, e3⟩ := spec_l1Byte.ok b i h hb hi
 unfold spec_l1Below.f
 rw [if_neg (by omega), if_pos h2, e, Option.bind_some, if_neg (by omega)]
 exact ⟨_, _, _, rfl, Int.tmod_nonneg n e1, Int.tmod_lt_of_pos x (by omega), e3⟩
theorem spec_l1Below.big (b : List Int) (i h n : Int) (hb : b.length ≤ 1048576) (hi : 0 ≤ i) (h1 : 256 < n) : ∃ x i' h', spec_l1Below.f b i h n = some (x, i', h') ∧ 0 ≤ i' := by
 obtain ⟨x1, i1, h1', e1, _, _, p1⟩ := spec_l1Byte.ok b i h hb hi
 obtain ⟨x2, i2, h2', e2, _, _, p2⟩ := spec_l1Byte.ok b i1 h1' hb p1
 obtain ⟨x3, i3, h3', e3, _, _, p3⟩ := spec_l1Byte.ok b i2 h2' hb p2
 obtain ⟨x4, i4, h4', e4, _, _, p4⟩ := spec_l1Byte.ok b i3 h3' hb p3
 unfold spec_l1Below.f
 rw [if_neg (by omega), if_neg (by omega), e1, Option.bind_some, e2, Option.bind_some, e3, Option.bind_some, e4, Option.bind_some, if_neg (by omega)]
 exact ⟨_, _, _, rfl, p4⟩

theorem spec_l2Full.ev {n : Nat} (h : n ≤ 5) : spec_l2Full.f n = some (((2 ^ 2 ^ n : Nat) : Int) - 1) := by
 unfold spec_l2Full.f
 rw [if_pos (Int.natCast_nonneg n), full_word h]

theorem spec_l2Count.loop : ∀ (d w acc : Nat), w < 2 ^ d → d ≤ 62 → acc + d ≤ 1000 → Ev (fun k => spec_l2Count.l0 k acc w) ((acc + cnt w.testBit d : Nat) : Int)
 | 0, w, acc, hw, _, ha => by
  obtain rfl : w = 0 := by omega
  refine Ev.end (fun k => ?_)
  simp only [spec_l2Count.l0]
  rw [if_neg (by omega)]; rfl
 | d + 1, w, acc, hw, hd, ha => by
  by_cases h0 : w = 0
  ·subst h0
   refine Ev.end (fun k => ?_)
   simp only [spec_l2Count.l0]
   rw [if_neg (by omega), cnt_zero]; rfl
  ·have h := spec_l2Count.loop d (w / 2) (acc + w % 2) (by rw [Nat.pow_succ] at hw; omega) (by omega) (by omega)
   rw [show acc + w % 2 + cnt (w / 2).testBit d = acc + cnt w.testBit (d + 1) by rw [cnt_half]; omega] at h
   refine Ev.step (fun k => ?_) h
   have hp := p63 (n := d + 1) hd
   simp only [spec_l2Count.l0]
   rw [if_pos (by omega)]
   have e1 : Go.bits .and .i64 (w : Int) 1 = ((w % 2 : Nat) : Int) := by
    rw [← Nat.and_one_is_mod]; exact and_nat (b := 1) (by omega) (by decide)
   rw [e1, w64 (by omega) (by omega)]
   congr 1
theorem spec_l2Count.ev {w : Nat} (h : w < 2 ^ 32) : Ev (fun k => spec_l2Count.f k w) ((pc w : Nat) : Int) := by
 have := spec_l2Count.loop 32 w 0 h (by omega) (by omega)
 rw [Nat.zero_add] at this
 exact this

theorem spec_l2Draw.fin {n : Nat} (hn : n ≤ 4) (x i h : Int) : ∃ W, (if (n : Int) = 0 then ((spec_l2Full.f (n : Int)).bind fun t => (some ((n : Int), Go.bits .and .i64 (Go.bits .and .i64 x 1) t, i, h))) else ((spec_l2Full.f (n : Int)).bind fun t => (some ((n : Int), Go.bits .and .i64 x t, i, h)))) = some ((n : Int), W, i, h) := by
 rw [spec_l2Full.ev (by omega)]
 by_cases e : (n : Int) = 0
 ·rw [if_pos e]; exact ⟨_, rfl⟩
 ·rw [if_neg e]; exact ⟨_, rfl⟩
theorem spec_l2Draw.pow_le {n : Nat} (hn : n ≤ 4) : 2 ^ n ≤ 16 := Nat.pow_le_pow_right (n := 2) (by decide) hn
theorem spec_l2Draw.ok0 (b : List Int) (i h : Int) (hi : 0 ≤ i) {n : Nat} (hn : n ≤ 4) (x : Int) : Tot (fun k => spec_l2Draw.l0 k n x 0 b i h) (fun r => r.1 = (n : Int) ∧ 0 ≤ r.2.2.1) := by
 have h16 := spec_l2Draw.pow_le hn
 have hn0 : (0 : Int) ≤ (n : Int) := Int.natCast_nonneg n
 have hs := shl_one (n := n) (by omega)
 refine Tot.up (S := Int) (fun j s k => spec_l2Draw.l0 k n s (j : Int) b i h) (2 ^ n) (fun _ _ => True) ?_ ?_ (2 ^ n) 0 x (by omega) trivial
 ·intro j s hj _ hnx
  have hlt : (j : Int) < ((2 ^ n : Nat) : Int) := Int.ofNat_lt.mpr hj
  have hj0 : (0 : Int) ≤ (j : Int) := Int.natCast_nonneg j
  have hu := up1 (x := j) (by omega)
  refine Tot.step (f := fun k => (spec_l2Count.f k j).bind fun t => if wrap64 (2 * t) > (n : Int) then spec_l2Draw.l0 k n (Go.bits .or .i64 s (shl .i64 1 (j : Int))) ((j + 1 : Nat) : Int) b i h else spec_l2Draw.l0 k n s ((j + 1 : Nat) : Int) b i h) (fun k => ?_) (Tot.bind (Tot.ev (P := fun _ => True) (spec_l2Count.ev (w := j) (by omega)) trivial) (fun t _ => Tot.ite _ (fun _ => hnx _ trivial) (fun _ => hnx _ trivial)))
  simp only [spec_l2Draw.l0, hs, hn0, hlt, hj0, hu, ↓reduceIte]
 ·intro s _
  obtain ⟨W, hW⟩ := spec_l2Draw.fin hn s i h
  refine Tot.end ((n : Int), W, i, h) ⟨rfl, hi⟩ (fun k => ?_)
  ·simp only [spec_l2Draw.l0, hs, hn0, Int.lt_irrefl, ↓reduceIte]
   exact hW
theorem spec_l2Draw.ok1 (b : List Int) (i h : Int) (hi : 0 ≤ i) {n : Nat} (hn : n ≤ 4) (x : Int) : Tot (fun k => spec_l2Draw.l1 k n x 0 b i h) (fun r => r.1 = (n : Int) ∧ 0 ≤ r.2.2.1) := by
 have h16 := spec_l2Draw.pow_le hn
 have hn0 : (0 : Int) ≤ (n : Int) := Int.natCast_nonneg n
 have hs := shl_one (n := n) (by omega)
 refine Tot.up (S := Int) (fun j s k => spec_l2Draw.l1 k n s (j : Int) b i h) (2 ^ n) (fun _ _ => True) ?_ ?_ (2 ^ n) 0 x (by omega) trivial
 ·intro j s hj _ hnx
  have hlt : (j : Int) < ((2 ^ n : Nat) : Int) := Int.ofNat_lt.mpr hj
  have hj0 : (0 : Int) ≤ (j : Int) := Int.natCast_nonneg j
  have hu := up1 (x := j) (by omega)
  refine Tot.step (f := fun k => (spec_l2Count.f k j).bind fun t => if Int.tmod t 2 = 1 then spec_l2Draw.l1 k n (Go.bits .or .i64 s (shl .i64 1 (j : Int))) ((j + 1 : Nat) : Int) b i h else spec_l2Draw.l1 k n s ((j + 1 : Nat) : Int) b i h) (fun k => ?_) (Tot.bind (Tot.ev (P := fun _ => True) (spec_l2Count.ev (w := j) (by omega)) trivial) (fun t _ => Tot.ite _ (fun _ => hnx _ trivial) (fun _ => hnx _ trivial)))
  simp only [spec_l2Draw.l1, hs, hn0, hlt, hj0, hu, ↓reduceIte]
 ·intro s _
  obtain ⟨W, hW⟩ := spec_l2Draw.fin hn s i h
  refine Tot.end ((n : Int), W, i, h) ⟨rfl, hi⟩ (fun k => ?_)
  ·simp only [spec_l2Draw.l1, hs, hn0, Int.lt_irrefl, ↓reduceIte]
   exact hW
theorem spec_l2Draw.ok2 (b : List Int) (i h y : Int) (hi : 0 ≤ i) {n : Nat} (hn : n ≤ 4) (x : Int) : Tot (fun k => spec_l2Draw.l2 k n x y 0 b i h) (fun r => r.1 = (n : Int) ∧ 0 ≤ r.2.2.1) := by
 have h16 := spec_l2Draw.pow_le hn
 have hn0 : (0 : Int) ≤ (n : Int) := Int.natCast_nonneg n
 have hs := shl_one (n := n) (by omega)
 refine Tot.up (S := Int) (fun j s k => spec_l2Draw.l2 k n s y (j : Int) b i h) (2 ^ n) (fun _ _ => True) ?_ ?_ (2 ^ n) 0 x (by omega) trivial
 ·intro j s hj _ hnx
  have hlt : (j : Int) < ((2 ^ n : Nat) : Int) := Int.ofNat_lt.mpr hj
  have hj0 : (0 : Int) ≤ (j : Int) := Int.natCast_nonneg j
  have hu := up1 (x := j) (by omega)
  refine Tot.step (f := fun k => if Go.bits .and .i64 (j : Int) y = y then spec_l2Draw.l2 k n (Go.bits .or .i64 s (shl .i64 1 (j : Int))) y ((j + 1 : Nat) : Int) b i h else spec_l2Draw.l2 k n s y ((j + 1 : Nat) : Int) b i h) (fun k => ?_) (Tot.ite _ (fun _ => hnx _ trivial) (fun _ => hnx _ trivial))
  simp only [spec_l2Draw.l2, hs, hn0, hlt, hj0, hu, ↓reduceIte]
 ·intro s _
  obtain ⟨W, hW⟩ := spec_l2Draw.fin hn s i h
  refine Tot.end ((n : Int), W, i, h) ⟨rfl, hi⟩ (fun k => ?_)
  ·simp only [spec_l2Draw.l2, hs, hn0, Int.lt_irrefl, ↓reduceIte]
   exact hW
theorem spec_l2Draw.ok3 (b : List Int) (hb : b.length ≤ 1048576) (i h : Int) (hi : 0 ≤ i) {n : Nat} (hn : n ≤ 4) (x : Int) : Tot (fun k => spec_l2Draw.l3 k n x 0 b i h) (fun r => r.1 = (n : Int) ∧ 0 ≤ r.2.2.1) := by
 have h16 := spec_l2Draw.pow_le hn
 have hn0 : (0 : Int) ≤ (n : Int) := Int.natCast_nonneg n
 have hs := shl_one (n := n) (by omega)
 refine Tot.up (S := Int × Int × Int) (fun j s k => spec_l2Draw.l3 k n s.1 (j : Int) b s.2.1 s.2.2) (2 ^ n) (fun _ s => 0 ≤ s.2.1) ?_ ?_ (2 ^ n) 0 (x, i, h) (by omega) hi
 ·rintro j ⟨s, i, h⟩ hj hi hnx
  have hlt : (j : Int) < ((2 ^ n : Nat) : Int) := Int.ofNat_lt.mpr hj
  have hj0 : (0 : Int) ≤ (j : Int) := Int.natCast_nonneg j
  have hu := up1 (x := j) (by omega)
  obtain ⟨q, i', h', e, _, _, e3⟩ := spec_l1Below.ok b i h 2 hb hi (by decide) (by decide)
  refine Tot.step (f := fun k => spec_l2Draw.l3 k n (Go.bits .or .i64 s (shl .i64 q (j : Int))) ((j + 1 : Nat) : Int) b i' h') (fun k => ?_) (hnx (_, i', h') e3)
  simp only [spec_l2Draw.l3, hs, hn0, hlt, hj0, hu, e, Option.bind_some, ↓reduceIte]
 ·rintro ⟨s, i, h⟩ hi
  obtain ⟨W, hW⟩ := spec_l2Draw.fin hn s i h
  refine Tot.end ((n : Int), W, i, h) ⟨rfl, hi⟩ (fun k => ?_)
  ·simp only [spec_l2Draw.l3, hs, hn0, Int.lt_irrefl, ↓reduceIte]
   exact hW
theorem spec_l2Draw.var {n j : Nat} (hn : n ≤ 4) (hj : j ≤ 4) : Tot (fun k => spec_l2Variable.f k n j) (fun _ => True) := by
 have h16 := spec_l2Draw.pow_le hn
 have hn0 : (0 : Int) ≤ (n : Int) := Int.natCast_nonneg n
 have hj1 : (0 : Int) ≤ (j : Int) := Int.natCast_nonneg j
 have hs := shl_one (n := n) (by omega)
 refine Tot.up (S := Int) (fun x s k => spec_l2Variable.l0 k n j s (x : Int)) (2 ^ n) (fun _ _ => True) ?_ ?_ (2 ^ n) 0 0 (by omega) trivial
 ·intro x s hx _ hnx
  have hlt : (x : Int) < ((2 ^ n : Nat) : Int) := Int.ofNat_lt.mpr hx
  have hx0 : (0 : Int) ≤ (x : Int) := Int.natCast_nonneg x
  have hu := up1 (x := x) (by omega)
  refine Tot.step (f := fun k => if Go.bits .and .i64 (shr .i64 (x : Int) (j : Int)) 1 = 1 then spec_l2Variable.l0 k n j (Go.bits .or .i64 s (shl .i64 1 (x : Int))) ((x + 1 : Nat) : Int) else spec_l2Variable.l0 k n j s ((x + 1 : Nat) : Int)) (fun k => ?_) (Tot.ite _ (fun _ => hnx _ trivial) (fun _ => hnx _ trivial))
  simp only [spec_l2Variable.l0, hs, hn0, hj1, hlt, hx0, hu, ↓reduceIte]
 ·intro s _
  refine Tot.end s trivial (fun k => ?_)
  simp only [spec_l2Variable.l0, hs, hn0, Int.lt_irrefl, ↓reduceIte]
theorem spec_l2Draw.ok (b : List Int) (hb : b.length ≤ 1048576) (i h : Int) (hi : 0 ≤ i) {n : Nat} (hn : n ≤ 4) : Tot (fun k => spec_l2Draw.f k b i h n) (fun r => r.1 = (n : Int) ∧ 0 ≤ r.2.2.1) := by
 obtain ⟨q, i', h', e, q1, q2, e3⟩ := spec_l1Below.ok b i h 6 hb hi (by decide) (by decide)
 have h16 := spec_l2Draw.pow_le hn
 have hn0 : (0 : Int) ≤ (n : Int) := Int.natCast_nonneg n
 have hs := shl_one (n := n) (by omega)
 have hp := Nat.two_pow_pos n
 unfold spec_l2Draw.f
 simp only [e, Option.bind_some]
 refine Tot.ite _ (fun _ => ?_) (fun _ => Tot.ite _ (fun _ => spec_l2Draw.ok0 b i' h' e3 hn 0) (fun _ => Tot.ite _ (fun _ => spec_l2Draw.ok1 b i' h' e3 hn 0) (fun _ => Tot.ite _ (fun _ => ?_) (fun _ => spec_l2Draw.ok3 b hb i' h' e3 hn 0))))
 ·have hm : 1 ≤ mx 1 (n : Int) ∧ mx 1 (n : Int) ≤ 4 := by unfold mx; split <;> omega
  obtain ⟨y, i2, h2, e2, y1, y2, y3⟩ := spec_l1Below.ok b i' h' (mx 1 (n : Int)) hb e3 hm.1 (by omega)
  simp only [e2, Option.bind_some]
  obtain ⟨j, rfl⟩ := nat_of y1
  refine Tot.bind (spec_l2Draw.var hn (j := j) (by omega)) (fun t _ => ?_)
  obtain ⟨W, hW⟩ := spec_l2Draw.fin hn t i2 h2
  exact Tot.congr (fun k => hW) (Tot.now _ ⟨rfl, y3⟩)
 ·simp only [hn0, hs, ↓reduceIte]
  obtain ⟨y, i2, h2, e2, y1, y2, y3⟩ := spec_l1Below.ok b i' h' ((2 ^ n : Nat) : Int) hb e3 (by omega) (by omega)
  simp only [e2, Option.bind_some]
  exact spec_l2Draw.ok2 b i2 h2 y y3 hn 0

theorem spec_l1PickInt.ok (b : List Int) (i h : Int) (l : List Int) (hb : b.length ≤ 1048576) (hi : 0 ≤ i) (h1 : 1 ≤ l.length) (h2 : l.length ≤ 256) : ∃ x i' h', spec_l1PickInt.f b i h l = some (x, i', h') ∧ x ∈ l ∧ 0 ≤ i' := by
 obtain ⟨x, i', h', e, e1, e2, e3⟩ := spec_l1Below.ok b i h (l.length : Int) hb hi (by omega) (by omega)
 unfold spec_l1PickInt.f
 rw [e, Option.bind_some, if_pos e1, if_pos e2]
 refine ⟨_, _, _, rfl, ?_, e3⟩
 obtain ⟨j, rfl⟩ := nat_of e1
 have hj : j < l.length := by omega
 show rd l (j : Int) ∈ l
 simp [rd, List.getD_eq_getElem?_getD, hj]

theorem spec_l2Any.ok (b : List Int) (hb : b.length ≤ 1048576) (i h : Int) (hi : 0 ≤ i) : Tot (fun k => spec_l2Any.f k b i h) (fun r => 0 ≤ r.2.2.1) := by
 obtain ⟨q, i', h', e, q1, q2, e3⟩ := spec_l1Below.ok b i h 5 hb hi (by decide) (by decide)
 unfold spec_l2Any.f
 simp only [e, Option.bind_some]
 obtain ⟨n, rfl⟩ := nat_of q1
 refine Tot.bind (spec_l2Draw.ok b hb i' h' e3 (n := n) (by omega)) (fun r hr => ?_)
 obtain ⟨y, i2, h2, e2, _, _, y3⟩ := spec_l1Below.ok b r.2.2.1 r.2.2.2 14 hb hr.2 (by decide) (by decide)
 simp only [e2, Option.bind_some]
 obtain ⟨z0, i3, h3, w0, _, z1⟩ := spec_l1PickInt.ok b i2 h2 [(-1), 6, 5, 0, 9223372036854775807] hb y3 (by decide) (by decide)
 obtain ⟨z2, i4, h4, w1, _, z3⟩ := spec_l1PickInt.ok b i2 h2 [(-1), 0, 1, 65536, 9223372036854775807] hb y3 (by decide) (by decide)
 simp only [w0, w1, Option.bind_some]
 exact Tot.ite _ (fun _ => Tot.now _ z1) (fun _ => Tot.ite _ (fun _ => Tot.now _ z3) (fun _ => Tot.now _ y3))

theorem spec_l1Once.ok (b : List Int) (i h n : Int) (hb : b.length ≤ 1048576) (hi : 0 ≤ i) (h1 : 1 ≤ n) (h2 : n ≤ 256) : ∃ x i' h', spec_l1Once.f b i h n = some (x, i', h') ∧ 0 ≤ i' := by
 obtain ⟨y, i2, h3, e, _, _, y3⟩ := spec_l1Below.ok b i h n hb hi h1 h2
 unfold spec_l1Once.f
 rw [e, Option.bind_some]
 exact ⟨_, _, _, rfl, y3⟩

theorem spec_l22Small.ok (b : List Int) (hb : b.length ≤ 1048576) (i h : Int) (hi : 0 ≤ i) : Tot (fun k => spec_l22Small.f k b i h) (fun r => 0 ≤ r.2.2.1) := by
 obtain ⟨x, i1, h1, e1, p1⟩ := spec_l1Once.ok b i h 8 hb hi (by decide) (by decide)
 unfold spec_l22Small.f
 simp only [e1, Option.bind_some]
 refine Tot.ite _ (fun _ => ?_) (fun _ => ?_)
 ·exact Tot.bind (spec_l2Any.ok b hb i1 h1 p1) (fun r hr => Tot.now _ hr)
 ·obtain ⟨q, i2, h2, e2, q1, q2, q3⟩ := spec_l1Below.ok b i1 h1 4 hb p1 (by decide) (by decide)
  simp only [e2, Option.bind_some]
  obtain ⟨n, rfl⟩ := nat_of q1
  exact Tot.bind (spec_l2Draw.ok b hb i2 h2 q3 (n := n) (by omega)) (fun r hr => Tot.now _ hr.2)

theorem spec_l1New.ok (b : List Int) (hb : b.length ≤ 1048576) : Tot (fun k => spec_l1New.f k b) (fun r => r.1 = b ∧ r.2.1 = 0) := by
 unfold spec_l1New.f
 refine Tot.up (S := Int) (fun i s k => spec_l1New.l0 k b s (i : Int)) b.length (fun _ _ => True) ?_ ?_ b.length 0 _ (by omega) trivial
 ·intro i s hi _ hn
  by_cases h4 : (i : Int) < 4000
  ·refine Tot.step (fun k => ?_) (hn (Go.bits .and .i64 (wrap64 ((wrap64 ((wrap64 (s * 131)) + (wrap64 (rd b i)))) + 7)) 1073741823) trivial)
   simp only [spec_l1New.l0]
   rw [if_pos (Int.ofNat_lt.mpr hi), if_pos h4, if_pos (Int.natCast_nonneg i), up1 (by omega)]
  ·refine Tot.end (b, 0, s) ⟨rfl, rfl⟩ (fun k => ?_)
   simp only [spec_l1New.l0]
   rw [if_pos (Int.ofNat_lt.mpr hi), if_neg h4]
 ·intro s _
  refine Tot.end (b, 0, s) ⟨rfl, rfl⟩ (fun k => ?_)
  simp only [spec_l1New.l0]
  rw [if_neg (by omega)]

theorem spec_DrawSmallestFormula.ok (b : List Int) (hb : b.length ≤ 1048576) : Tot (fun k => spec_DrawSmallestFormula.f k b) (fun _ => True) := by
 unfold spec_DrawSmallestFormula.f
 refine Tot.bind (spec_l1New.ok b hb) (fun r hr => ?_)
 obtain ⟨r1, r2, r3⟩ := r
 obtain ⟨rfl, rfl⟩ := hr
 exact Tot.bind (spec_l22Small.ok r1 hb 0 r3 (Int.le_refl 0)) (fun s _ => Tot.now _ trivial)

theorem impl_isBits.ev (a : Int) : impl_isBits.f a = some (decide (0 ≤ a ∧ a ≤ 5)) := by
 unfold impl_isBits.f
 by_cases h : 0 ≤ a
 ·rw [if_pos h]; simp [h]
 ·rw [if_neg h]; simp [h]

theorem impl_IsTable.ev (a b : Int) : impl_IsTable.f a b = some (isT a b) := by
 unfold impl_IsTable.f isT
 rw [impl_isBits.ev]
 by_cases h : 0 ≤ a ∧ a ≤ 5
 ·obtain ⟨n, rfl⟩ := nat_of h.1
  have hn : n ≤ 5 := by omega
  simp only [Option.bind_some, h, and_self, decide_true, if_true]
  by_cases hb : b ≥ 0
  ·obtain ⟨v, rfl⟩ := nat_of hb
   have h5 := pow_le_5 hn
   rw [if_pos hb]
   unfold impl_Table_size.f
   rw [if_pos (Int.natCast_nonneg n), shl_one (by omega)]
   simp only [Option.bind_some]
   rw [if_pos (Int.natCast_nonneg _), shr_nat (by omega)]
   congr 1
   rw [Bool.eq_iff_iff]
   simp only [beq_iff_eq, decide_eq_true_eq, Int.toNat_natCast]
   have hz : v / 2 ^ 2 ^ n = 0 ↔ v < 2 ^ 2 ^ n := Nat.div_eq_zero_iff_lt (Nat.two_pow_pos _)
   rw [show (((v / 2 ^ 2 ^ n : Nat) : Int) = 0 ↔ v / 2 ^ 2 ^ n = 0) from by omega, hz]
   obtain ⟨P, hP⟩ : ∃ P, P = 2 ^ 2 ^ n := ⟨_, rfl⟩
   rw [← hP]
   simp only [h, true_and]
   omega
  ·rw [if_neg hb]
   congr 1
   symm
   apply decide_eq_false
   omega
 ·have h' : ¬ (0 ≤ a ∧ a ≤ 5 ∧ 0 ≤ b ∧ b < ((2 ^ 2 ^ a.toNat : Nat) : Int)) := fun e => h ⟨e.1, e.2.1⟩
  simp only [h, h', decide_false, Option.bind_some, Bool.false_eq_true, if_false]

theorem impl_isSmall.ev (a b m : Int) : impl_isSmall.f a b m = some (isT a b && decide (a ≤ m)) := by
 unfold impl_isSmall.f
 rw [impl_IsTable.ev, Option.bind_some]
 cases isT a b <;> simp

theorem impl_Table_not.ev {n v : Nat} (hn : n ≤ 5) (hv : v < 2 ^ 2 ^ n) : impl_Table_not.f n v = some ((n : Int), ((notW (2 ^ n) v : Nat) : Int)) := by
 have h5 := pow_le_5 hn
 have hf := full_p63 hn
 have hp := Nat.two_pow_pos (2 ^ n)
 unfold impl_Table_not.f impl_Table_size.f
 rw [if_pos (Int.natCast_nonneg n)]
 simp only [Option.bind_some]
 have hs : 0 ≤ shl .i64 1 (n : Int) := by rw [shl_one (by omega)]; exact Int.natCast_nonneg _
 rw [if_pos hs, full_word' hn]
 have e : ((2 ^ 2 ^ n : Nat) : Int) - 1 = ((2 ^ 2 ^ n - 1 : Nat) : Int) := by omega
 rw [e, xor_nat (by omega) (by omega)]; rfl

theorem impl_Table_smallest.szN_le {n : Nat} (hn : n ≤ 3) : szN n ≤ 256 := by
 have h8 := Nat.pow_le_pow_right (show 0 < 2 by decide) hn
 have := Nat.pow_le_pow_right (show 0 < 2 by decide) (show 2 ^ n ≤ 8 by simpa using h8)
 simpa [szN] using this
theorem impl_Table_smallest.notE {n v : Nat} (hn : n ≤ 3) (hv : v < szN n) : impl_Table_not.f (n : Int) (v : Int) = some ((n : Int), ((v ^^^ (szN n - 1) : Nat) : Int)) := impl_Table_not.ev (by omega) hv
theorem impl_Table_smallest.varE {n i : Nat} (hn : n ≤ 3) (hi : i < n) : impl_variable.f (n : Int) (i : Int) = some ((n : Int), ((szVar n i : Nat) : Int)) := by
 unfold impl_variable.f
 rw [if_pos ⟨by omega, by omega, by omega, by omega⟩]; rfl
theorem impl_Table_smallest.lett {i : Nat} (hi : i < 3) : strOfNums [(97 + ((i : Int) % 256)) % 256] = ⟨#[UInt8.ofNat (97 + i)]⟩ := by
 have : i = 0 ∨ i = 1 ∨ i = 2 := by omega
 rcases this with rfl | rfl | rfl <;> rfl
theorem impl_Table_smallest.let_step {n w i : Nat} {rest : Option ByteArray} {z : ByteArray} (hn : n ≤ 3) (hw : w < szN n) (hi : i < n) (h : Ev (fun q => impl_Table_smallest.l0 q (szL n) (n : Int) ((i + 1 : Nat) : Int) (n : Int) (w : Int)) (rest.getD z)) :
  Ev (fun q => impl_Table_smallest.l0 q (szL n) (n : Int) (i : Int) (n : Int) (w : Int)) (((smLet n w i).or rest).getD z) := by
 have hv := szVar_ok hn hi
 have b4 : (i : Int) < (n : Int) := by omega
 have i3 : i < 3 := by omega
 have eb : ∀ x y : Nat, (((x : Nat) : Int) == (y : Int)) = decide (x = y) := fun x y => by rw [Bool.eq_iff_iff, beq_iff_eq, decide_eq_true_eq]; omega
 have e1 : wrap64 ((i : Int) + 1) = ((i + 1 : Nat) : Int) := by rw [w64 (by omega) (by omega)]; rfl
 refine Ev.step (f := ?f) ?h ?k
 case h =>
  intro q; simp only [impl_Table_smallest.l0]
  rw [if_pos b4, Option.bind_some, impl_Table_smallest.varE hn hi, Option.bind_some, impl_Table_smallest.lett i3]
 case k =>
  show Ev (fun q => if (((n : Int) == (n : Int)) && ((w : Int) == ((szVar n i : Nat) : Int))) = true then _ else (impl_Table_not.f (n : Int) ((szVar n i : Nat) : Int)).bind _) _
  simp only [beq_self_eq_true, Bool.true_and, eb, impl_Table_smallest.notE hn hv.1, Option.bind_some, hv.2.2.2]
  unfold smLet
  by_cases c1 : w = szVar n i
  ·rw [if_pos c1]
   exact Ev.congr (fun q => if_pos (decide_eq_true c1)) (Ev.now _)
  ·rw [if_neg c1]
   refine Ev.congr (fun q => if_neg (by rw [decide_eq_true_eq]; exact c1)) ?_
   by_cases c2 : w = szN n - 1 - szVar n i
   ·rw [if_pos c2]
    refine Ev.congr (fun q => if_pos (decide_eq_true c2)) ?_
    refine Ev.congr (fun q => if_pos (by show 1 + 1 ≤ 9223372036854775807; decide)) ?_
    exact Ev.now _
   ·rw [if_neg c2]
    refine Ev.congr (fun q => if_neg (by rw [decide_eq_true_eq]; exact c2)) ?_
    rw [e1]
    exact h
theorem impl_Table_smallest.lets {n w : Nat} {R : Option ByteArray} {z : ByteArray} (hn : n ≤ 3) (hw : w < szN n) (h : Ev (fun q => impl_Table_smallest.j1 q (szL n) (n : Int) (w : Int)) (R.getD z)) :
  Ev (fun q => if (szT n w : Int) = 1 then impl_Table_smallest.l0 q (szL n) (n : Int) 0 (n : Int) (w : Int) else impl_Table_smallest.j1 q (szL n) (n : Int) (w : Int)) (((smL n w).or R).getD z) := by
 have hend : Ev (fun q => impl_Table_smallest.l0 q (szL n) (n : Int) (n : Int) (n : Int) (w : Int)) (R.getD z) := by
  refine Ev.step (f := fun q => impl_Table_smallest.j1 q (szL n) (n : Int) (w : Int)) (fun q => ?_) h
  simp only [impl_Table_smallest.l0]; rw [if_neg (by omega)]
 unfold smL
 by_cases hT : szT n w = 1
 ·rw [if_pos hT]
  refine Ev.congr (fun q => if_pos (by omega)) ?_
  exact scan_loop (fun q i => impl_Table_smallest.l0 q (szL n) (n : Int) (i : Int) (n : Int) (w : Int)) (smLet n w) n z R (fun i rest hi hr => impl_Table_smallest.let_step hn hw hi hr) hend n 0 (by omega)
 ·rw [if_neg hT]
  exact Ev.congr (fun q => if_neg (by omega)) h
def impl_Table_smallest.opb (o : Nat) : Int := if o = 0 then 38 else 124
theorem impl_Table_smallest.opb_str {o : Nat} (ho : o < 2) : strOfNums [impl_Table_smallest.opb o] = Go.Proofs.YtfoopehlmnejaaaGreatDoor.M.smOp o := by
 have : o = 0 ∨ o = 1 := by omega
 rcases this with rfl | rfl <;> rfl
theorem impl_Table_smallest.opb_rd {o : Nat} (ho : o < 2) : rd [38, 124] (o : Int) = impl_Table_smallest.opb o := by
 have : o = 0 ∨ o = 1 := by omega
 rcases this with rfl | rfl <;> rfl
def impl_Table_smallest.IH (n k : Nat) : Prop := ∀ a : Nat, a < szN n → szT n a < k → Ev (fun q => impl_Table_smallest.f q (n : Int) (a : Int) (szL n)) (smT n k a)
def impl_Table_smallest.L2 (n w o : Nat) (q : Nat) (a : Int) := impl_Table_smallest.l2 q (szL n) (impl_Table_smallest.opb o) [38, 124] 2 (o : Int) (szL n) ((szL n).length : Int) a (n : Int) (w : Int)
def impl_Table_smallest.L3 (n w o a : Nat) (q : Nat) (b : Int) := impl_Table_smallest.l3 q (szL n) (impl_Table_smallest.opb o) (a : Int) (szT n a : Int) [38, 124] 2 (o : Int) (szL n) ((szL n).length : Int) (a : Int) (szL n) ((szL n).length : Int) b (n : Int) (w : Int)
theorem impl_Table_smallest.b_step {n w k o a b : Nat} {rest : Option ByteArray} (hn : n ≤ 3) (hk : k ≤ 12) (ih : impl_Table_smallest.IH n k) (hw : w < szN n) (hwk : szT n w < k + 1) (ho : o < 2) (wa : a < szN n) (za : szT n a ≠ 0) (wb : b < szN n) (haw : szT n a < szT n w)
  (h : Ev (fun q => impl_Table_smallest.L3 n w o a q ((b + 1 : Nat) : Int)) (rest.getD ⟨#[]⟩)) :
  Ev (fun q => impl_Table_smallest.L3 n w o a q (b : Int)) (((smR n w k o a b).or rest).getD ⟨#[]⟩) := by
 have hN := impl_Table_smallest.szN_le hn
 have ta := szT_le hn (w := a) wa
 have tb := szT_le hn (w := b) wb
 have a63 : a < 2 ^ 63 := by omega
 have b63 : b < 2 ^ 63 := by omega
 have c1 : (b : Int) < ((szL n).length : Int) := by rw [szL_len]; omega
 have c2 : (0 : Int) ≤ (b : Int) := by omega
 have c6 : (0 : Int) ≤ (w : Int) := by omega
 have c7 : (w : Int) < ((szL n).length : Int) := by rw [szL_len]; omega
 have es : szT n a + szT n b = szT n w ↔ ((szT n a + szT n b : Nat) : Int) = (szT n w : Int) := by omega
 have hab : szT n a + szT n b = szT n w → szT n b ≠ 0 → szT n a < k ∧ szT n b < k := by omega
 have gb : szT n b ≠ 0 ↔ (szT n b : Int) ≥ 1 := by omega
 have ro : o = 0 ∨ o = 1 := by omega
 have eb : ∀ x y : Nat, (((x : Nat) : Int) == (y : Int)) = decide (x = y) := fun x y => by rw [Bool.eq_iff_iff, beq_iff_eq, decide_eq_true_eq]; omega
 have ew : wrap64 ((szT n a : Int) + (szT n b : Int)) = ((szT n a + szT n b : Nat) : Int) := by rw [w64 (by omega) (by omega)]; omega
 have e1 : wrap64 ((b : Int) + 1) = ((b + 1 : Nat) : Int) := by rw [w64 (by omega) (by omega)]; rfl
 clear ta tb hN
 -- the last join
 have j7 : ∀ y : Bool, (y = true ↔ smFit n w o a b) → Ev (fun q => impl_Table_smallest.j7 q (szL n) (impl_Table_smallest.opb o) (a : Int) (szT n a : Int) (b : Int) [38, 124] 2 (o : Int) (szL n) ((szL n).length : Int) (a : Int) (szL n) ((szL n).length : Int) (b : Int) y (n : Int) (w : Int)) (((smR n w k o a b).or rest).getD ⟨#[]⟩) := by
  intro y hy
  cases y with
  | true =>
   have hf := hy.mp rfl
   obtain ⟨ka, kb⟩ := hab hf.2.2.2.1 hf.2.2.1
   have hr : smR n w k o a b = some (smOp o ++ smT n k a ++ smT n k b) := if_pos hf
   rw [hr]
   have h1 := smT_short n a hk
   have h2 := smT_short n b hk
   have hz : (smOp o).size = 1 := by rcases ro with rfl | rfl <;> rfl
   refine Ev.step (f := ?f1) ?h1 ?k1
   case h1 => intro q; simp only [impl_Table_smallest.j7]; rw [if_pos trivial, Option.bind_some, impl_Table_smallest.opb_str ho]
   case k1 =>
    refine Ev.bind (ih a wa ka) ?_
    refine Ev.congr (fun q => if_pos (by omega)) ?_
    refine Ev.bind (ih b wb kb) ?_
    refine Ev.congr (fun q => if_pos (by rw [ByteArray.size_append]; omega)) ?_
    exact Ev.now _
  | false =>
   have hr : smR n w k o a b = none := if_neg (fun hf => by cases hy.mpr hf)
   rw [hr]
   refine Ev.step (f := fun q => impl_Table_smallest.L3 n w o a q ((b + 1 : Nat) : Int)) (fun q => ?_) h
   simp only [impl_Table_smallest.j7, impl_Table_smallest.L3]
   rw [if_neg (by decide), e1]
 -- the join with what the pair makes
 have j6 : ∀ x : Nat, x = (if o = 0 then a &&& b else a ||| b) → Ev (fun q => impl_Table_smallest.j6 q (szL n) (impl_Table_smallest.opb o) (a : Int) (szT n a : Int) (b : Int) (szT n b : Int) (x : Int) [38, 124] 2 (o : Int) (szL n) ((szL n).length : Int) (a : Int) (szL n) ((szL n).length : Int) (b : Int) (n : Int) (w : Int)) (((smR n w k o a b).or rest).getD ⟨#[]⟩) := by
  intro x hx
  by_cases zb : szT n b = 0
  ·refine Ev.step (f := ?f2) ?h2 ?k2
   case h2 => intro q; simp only [impl_Table_smallest.j6]; rw [if_neg (fun hc => absurd zb (gb.mpr hc))]
   case k2 => exact j7 false ⟨fun hc => (by cases hc), fun hf => absurd zb hf.2.2.1⟩
  ·by_cases s : szT n a + szT n b = szT n w
   ·refine Ev.step (f := ?f3) ?h3 ?k3
    case h3 => intro q; simp only [impl_Table_smallest.j6]; rw [if_pos (gb.mp zb), if_pos c6, if_pos c7, rd_szL hw, ew, if_pos (es.mp s), eb]
    case k3 =>
     refine j7 _ ?_
     rw [decide_eq_true_eq]
     exact ⟨fun hc => ⟨za, haw, zb, s, by rw [← hx]; exact hc⟩, fun hf => by rw [hx]; exact hf.2.2.2.2⟩
   ·refine Ev.step (f := ?f4) ?h4 ?k4
    case h4 => intro q; simp only [impl_Table_smallest.j6]; rw [if_pos (gb.mp zb), if_pos c6, if_pos c7, rd_szL hw, ew, if_neg (fun hc => s (es.mpr hc))]
    case k4 => exact j7 false ⟨fun hc => (by cases hc), fun hf => absurd hf.2.2.2.1 s⟩
 rcases ro with rfl | rfl
 ·have hj := j6 (a &&& b) rfl
  rw [← and_nat a63 b63] at hj
  refine Ev.step (fun q => ?_) hj
  simp only [impl_Table_smallest.L3, impl_Table_smallest.l3]
  rw [if_pos c1, if_pos c2, if_pos c1, if_neg (by decide), rd_szL wb]
 ·have hj := j6 (a ||| b) rfl
  rw [← or_nat a63 b63] at hj
  refine Ev.step (fun q => ?_) hj
  simp only [impl_Table_smallest.L3, impl_Table_smallest.l3]
  rw [if_pos c1, if_pos c2, if_pos c1, if_pos (by rfl), rd_szL wb]
theorem impl_Table_smallest.a_step {n w k o a : Nat} {rest : Option ByteArray} (hn : n ≤ 3) (hk : k ≤ 12) (ih : impl_Table_smallest.IH n k) (hw : w < szN n) (hwk : szT n w < k + 1) (ho : o < 2) (wa : a < szN n)
  (h : Ev (fun q => impl_Table_smallest.L2 n w o q ((a + 1 : Nat) : Int)) (rest.getD ⟨#[]⟩)) :
  Ev (fun q => impl_Table_smallest.L2 n w o q (a : Int)) (((smA n w k o a).or rest).getD ⟨#[]⟩) := by
 have hN := impl_Table_smallest.szN_le hn
 have c1 : (a : Int) < ((szL n).length : Int) := by rw [szL_len]; omega
 have c2 : (0 : Int) ≤ (a : Int) := by omega
 have c6 : (0 : Int) ≤ (w : Int) := by omega
 have c7 : (w : Int) < ((szL n).length : Int) := by rw [szL_len]; omega
 have cx : ¬ ((szN n : Int) < ((szL n).length : Int)) := by rw [szL_len]; omega
 have g0 : szT n a = 0 → (szT n a : Int) < 1 := by omega
 have g1 : szT n a ≠ 0 → ¬ (szT n a : Int) < 1 := by omega
 have gw : decide ((szT n a : Int) ≥ (szT n w : Int)) = decide (szT n w ≤ szT n a) := by rw [decide_eq_decide]; omega
 have e1 : wrap64 ((a : Int) + 1) = ((a + 1 : Nat) : Int) := by rw [w64 (by omega) (by omega)]; rfl
 have j4 : ∀ y : Bool, (y = true → smA n w k o a = none) → (y = false → szT n a ≠ 0 ∧ szT n a < szT n w) → Ev (fun q => impl_Table_smallest.j4 q (szL n) (impl_Table_smallest.opb o) (a : Int) (szT n a : Int) [38, 124] 2 (o : Int) (szL n) ((szL n).length : Int) (a : Int) y (n : Int) (w : Int)) (((smA n w k o a).or rest).getD ⟨#[]⟩) := by
  intro y h1 h2
  cases y with
  | true =>
   rw [h1 rfl]
   refine Ev.step (f := fun q => impl_Table_smallest.L2 n w o q ((a + 1 : Nat) : Int)) (fun q => ?_) h
   simp only [impl_Table_smallest.j4, impl_Table_smallest.L2]
   rw [if_pos trivial, e1]
  | false =>
   obtain ⟨za, haw⟩ := h2 rfl
   have hend : Ev (fun q => impl_Table_smallest.L3 n w o a q (szN n : Int)) (rest.getD ⟨#[]⟩) := by
    refine Ev.step (f := fun q => impl_Table_smallest.L2 n w o q ((a + 1 : Nat) : Int)) (fun q => ?_) h
    simp only [impl_Table_smallest.L3, impl_Table_smallest.l3, impl_Table_smallest.L2]
    rw [if_neg cx, e1]
   have key := scan_loop (fun q b => impl_Table_smallest.L3 n w o a q (b : Int)) (smR n w k o a) (szN n) (⟨#[]⟩ : ByteArray) rest (fun b rst hb hr => impl_Table_smallest.b_step hn hk ih hw hwk ho wa za hb haw hr) hend (szN n) 0 (by omega)
   refine Ev.step (f := fun q => impl_Table_smallest.L3 n w o a q 0) (fun q => ?_) key
   simp only [impl_Table_smallest.j4, impl_Table_smallest.L3]
   rw [if_neg (by decide)]
 by_cases z : szT n a = 0
 ·refine Ev.step (f := ?f1) ?h1 ?k1
  case h1 => intro q; simp only [impl_Table_smallest.L2, impl_Table_smallest.l2]; rw [if_pos c1, if_pos c2, if_pos c1, rd_szL wa, if_pos (g0 z)]
  case k1 => exact j4 true (fun _ => smA_none (.inl z)) (fun hc => by cases hc)
 ·refine Ev.step (f := ?f2) ?h2 ?k2
  case h2 => intro q; simp only [impl_Table_smallest.L2, impl_Table_smallest.l2]; rw [if_pos c1, if_pos c2, if_pos c1, rd_szL wa, if_neg (g1 z), if_pos c6, if_pos c7, rd_szL hw, gw]
  case k2 => exact j4 _ (fun hc => smA_none (.inr (of_decide_eq_true hc))) (fun hc => ⟨z, Nat.lt_of_not_le (of_decide_eq_false hc)⟩)
def impl_Table_smallest.L1 (n w : Nat) (q : Nat) (o : Int) := impl_Table_smallest.l1 q (szL n) [38, 124] 2 o (n : Int) (w : Int)
theorem impl_Table_smallest.o_step {n w k o : Nat} {rest : Option ByteArray} (hn : n ≤ 3) (hk : k ≤ 12) (ih : impl_Table_smallest.IH n k) (hw : w < szN n) (hwk : szT n w < k + 1) (ho : o < 2)
  (h : Ev (fun q => impl_Table_smallest.L1 n w q ((o + 1 : Nat) : Int)) (rest.getD ⟨#[]⟩)) :
  Ev (fun q => impl_Table_smallest.L1 n w q (o : Int)) (((smO n w k o).or rest).getD ⟨#[]⟩) := by
 have cx : ¬ ((szN n : Int) < ((szL n).length : Int)) := by rw [szL_len]; omega
 have c1 : (o : Int) < 2 := by omega
 have c2 : (0 : Int) ≤ (o : Int) := by omega
 have c3 : (o : Int) < (([38, 124] : List Int).length : Int) := c1
 have e1 : wrap64 ((o : Int) + 1) = ((o + 1 : Nat) : Int) := by rw [w64 (by omega) (by omega)]; rfl
 have hend : Ev (fun q => impl_Table_smallest.L2 n w o q (szN n : Int)) (rest.getD ⟨#[]⟩) := by
  refine Ev.step (f := fun q => impl_Table_smallest.L1 n w q ((o + 1 : Nat) : Int)) (fun q => ?_) h
  simp only [impl_Table_smallest.L2, impl_Table_smallest.l2, impl_Table_smallest.L1]
  rw [if_neg cx, e1]
 have key := scan_loop (fun q a => impl_Table_smallest.L2 n w o q (a : Int)) (smA n w k o) (szN n) (⟨#[]⟩ : ByteArray) rest (fun a rst ha hr => impl_Table_smallest.a_step hn hk ih hw hwk ho ha hr) hend (szN n) 0 (by omega)
 refine Ev.step (f := fun q => impl_Table_smallest.L2 n w o q 0) (fun q => ?_) key
 simp only [impl_Table_smallest.L1, impl_Table_smallest.l1, impl_Table_smallest.L2]
 rw [if_pos c1, if_pos c2, if_pos c3, impl_Table_smallest.opb_rd ho]
theorem impl_Table_smallest.pairs {n w k : Nat} (hn : n ≤ 3) (hk : k ≤ 12) (ih : impl_Table_smallest.IH n k) (hw : w < szN n) (hwk : szT n w < k + 1) :
  Ev (fun q => impl_Table_smallest.j1 q (szL n) (n : Int) (w : Int)) ((scan (smO n w k) 0 2).getD ⟨#[]⟩) := by
 have key := scan_loop (fun q o => impl_Table_smallest.L1 n w q (o : Int)) (smO n w k) 2 (⟨#[]⟩ : ByteArray) none
  (fun o rst ho hr => impl_Table_smallest.o_step hn hk ih hw hwk ho hr) (Ev.end (fun q => by simp only [impl_Table_smallest.L1, impl_Table_smallest.l1]; rw [if_neg (by decide)]; rfl)) 2 0 (by omega)
 rw [or_none_r] at key
 refine Ev.step (f := fun q => impl_Table_smallest.L1 n w q 0) (fun q => ?_) key
 simp only [impl_Table_smallest.j1, impl_Table_smallest.L1, Option.bind_some]
 rfl
theorem impl_Table_smallest.ends {n : Nat} (hn : n ≤ 3) : (impl_Table_at.f (n : Int) ((szN n - 1 : Nat) : Int) 0).bind (fun t => (impl_FormatInt.f t).bind fun u => some u) = some ⟨#[49]⟩ := by
 have : n = 0 ∨ n = 1 ∨ n = 2 ∨ n = 3 := by omega
 rcases this with rfl | rfl | rfl | rfl <;> decide +kernel
theorem impl_Table_smallest.start {n : Nat} (hn : n ≤ 3) : (impl_Table_at.f (n : Int) 0 0).bind (fun t => (impl_FormatInt.f t).bind fun u => some u) = some ⟨#[48]⟩ := by
 have : n = 0 ∨ n = 1 ∨ n = 2 ∨ n = 3 := by omega
 rcases this with rfl | rfl | rfl | rfl <;> decide +kernel
theorem impl_Table_smallest.same {n w : Nat} (hn : n ≤ 3) (hw : w < szN n) : impl_Table_isSame.f (n : Int) (w : Int) = some (decide (w = 0) || decide (w + 1 = szN n)) := by
 unfold impl_Table_isSame.f
 by_cases h0 : w = 0
 ·subst h0; rw [if_pos (show ((0 : Nat) : Int) = 0 from rfl)]; rfl
 ·have h0' : ¬ (w : Int) = 0 := by omega
  rw [if_neg h0', impl_Table_smallest.notE hn hw, Option.bind_some, decide_eq_false h0, Bool.false_or]
  congr 1
  rw [Bool.eq_iff_iff, beq_iff_eq, decide_eq_true_eq]
  have hx : w ^^^ (szN n - 1) = 0 ↔ w = szN n - 1 := by
   constructor
   ·intro h
    have h2 : (w ^^^ (szN n - 1)) ^^^ (szN n - 1) = w := by rw [Nat.xor_assoc, Nat.xor_self, Nat.xor_zero]
    rw [h, Nat.zero_xor] at h2
    exact h2.symm
   ·intro h; rw [h, Nat.xor_self]
  have hp := @szN_pos n
  omega
theorem impl_Table_smallest.all {n : Nat} (hn : n ≤ 3) : ∀ k, k ≤ 12 → impl_Table_smallest.IH n k
 | 0, _, a, _, h => by omega
 | k + 1, hk, w, hw, hwk => by
  have ih := impl_Table_smallest.all hn k (by omega)
  have hN2 := @szN_pos n
  rw [smT_succ]
  by_cases h0 : w = 0
  ·subst h0
   rw [if_pos rfl]
   refine Ev.end (fun q => ?_)
   simp only [impl_Table_smallest.f]
   rw [impl_Table_smallest.same hn hw, Option.bind_some, if_pos (by rfl)]
   exact impl_Table_smallest.start hn
  ·rw [if_neg h0]
   by_cases h1 : w + 1 = szN n
   ·rw [if_pos h1]
    obtain rfl : w = szN n - 1 := by omega
    refine Ev.end (fun q => ?_)
    simp only [impl_Table_smallest.f]
    rw [impl_Table_smallest.same hn hw, Option.bind_some, if_pos (by rw [decide_eq_true h1, Bool.or_true])]
    exact impl_Table_smallest.ends hn
   ·rw [if_neg h1]
    have c6 : (0 : Int) ≤ (w : Int) := by omega
    have c7 : (w : Int) < ((szL n).length : Int) := by rw [szL_len]; omega
    refine Ev.step (fun q => ?_) (impl_Table_smallest.lets hn hw (impl_Table_smallest.pairs hn (by omega) ih hw hwk))
    simp only [impl_Table_smallest.f]
    rw [impl_Table_smallest.same hn hw, Option.bind_some, decide_eq_false h0, decide_eq_false h1, if_neg (by decide), if_pos c6, if_pos c7, rd_szL hw]
theorem impl_Table_smallest.ev {n w : Nat} (hn : n ≤ 3) (hw : w < szN n) : Ev (fun q => impl_Table_smallest.f q (n : Int) (w : Int) (szL n)) (smT n 12 w) := impl_Table_smallest.all hn 12 (Nat.le_refl _) w hw (by have := szT_le hn hw; omega)

theorem spec_l1In.ev (a b c : Int) : spec_l1In.f a b c = some (decide (b ≤ a ∧ a ≤ c)) := by
 unfold spec_l1In.f
 by_cases h : b ≤ a
 ·rw [if_pos h]; simp [h]
 ·rw [if_neg h]; simp [h]

theorem spec_IsTable.ev (a b : Int) : spec_IsTable.f a b = some (isT a b) := by
 unfold spec_IsTable.f isT
 rw [spec_l1In.ev]
 by_cases h : 0 ≤ a ∧ a ≤ 5
 ·obtain ⟨n, rfl⟩ := nat_of h.1
  have hn : n ≤ 5 := by omega
  simp only [Option.bind_some, h, and_self, decide_true, if_true]
  rw [full_word hn, spec_l1In.ev]
  simp only [Option.bind_some, Int.toNat_natCast, h, true_and]
  congr 1
  apply decide_eq_decide.mpr
  omega
 ·have h' : ¬ (0 ≤ a ∧ a ≤ 5 ∧ 0 ≤ b ∧ b < ((2 ^ 2 ^ a.toNat : Nat) : Int)) := fun e => h ⟨e.1, e.2.1⟩
  simp only [h, h', decide_false, Option.bind_some, Bool.false_eq_true, if_false]

theorem spec_l22Write.full {n : Nat} (hn : n ≤ 3) : spec_l2Full.f (n : Int) = some ((szN n : Int) - 1) := by
 unfold spec_l2Full.f
 rw [if_pos (Int.natCast_nonneg n), full_word (by omega)]; rfl
theorem spec_l22Write.varE {n i : Nat} (hn : n ≤ 3) (hi : i < n) : Ev (fun q => spec_l2Variable.f q (n : Int) (i : Int)) ((szVar n i : Nat) : Int) := by
 have h : allB 4 (fun n => allB n fun i => decide (spec_l2Variable.f 10 (n : Int) (i : Int) = some ((szVar n i : Nat) : Int))) = true := by decide +kernel
 have h1 := of_decide_eq_true (allB_of (allB4 h hn) i hi)
 exact Ev.of (spec_l2Variable.mono _ _) h1
theorem spec_l22Write.abc {i : Nat} (hi : i < 3) : ((⟨#[97, 98, 99, 100, 101]⟩ : ByteArray).extract (i : Int).toNat ((i + 1 : Nat) : Int).toNat) = ⟨#[UInt8.ofNat (97 + i)]⟩ := by
 have : i = 0 ∨ i = 1 ∨ i = 2 := by omega
 rcases this with rfl | rfl | rfl <;> rfl
theorem spec_l22Write.let_step {n w i : Nat} {rest : Option ByteArray} {z : ByteArray} (hn : n ≤ 3) (hw : w < szN n) (hi : i < n) (hT : szT n w = 1) (h : Ev (fun q => spec_l22Write.l0 q (szL n) (n : Int) (w : Int) ((i + 1 : Nat) : Int)) (rest.getD z)) :
  Ev (fun q => spec_l22Write.l0 q (szL n) (n : Int) (w : Int) (i : Int)) (((smLet n w i).or rest).getD z) := by
 have hv := szVar_ok hn hi
 have hN : szN n ≤ 256 := by
  have h8 := Nat.pow_le_pow_right (show 0 < 2 by decide) hn
  have := Nat.pow_le_pow_right (show 0 < 2 by decide) (show 2 ^ n ≤ 8 by simpa using h8)
  simpa [szN] using this
 have b1 : (0 : Int) ≤ (i : Int) := by omega
 have b2 : (i : Int) ≤ ((i + 1 : Nat) : Int) := by omega
 have b3 : ((i + 1 : Nat) : Int) ≤ 5 := by omega
 have b4 : (i : Int) < (n : Int) := by omega
 have b5 : (0 : Int) ≤ (w : Int) := by omega
 have b6 : (w : Int) < ((szL n).length : Int) := by rw [szL_len]; omega
 have n1 : w ≠ szVar n i → ¬ (w : Int) = ((szVar n i : Nat) : Int) := by omega
 have n2 : w ≠ szN n - 1 - szVar n i → ¬ (w : Int) = ((szN n - 1 - szVar n i : Nat) : Int) := by omega
 have i3 : i < 3 := by omega
 have e2 : wrap64 ((szN n : Int) - 1 - (szVar n i : Nat)) = ((szN n - 1 - szVar n i : Nat) : Int) := by rw [w64 (by omega) (by omega)]; omega
 have e1 : wrap64 ((i : Int) + 1) = ((i + 1 : Nat) : Int) := by rw [w64 (by omega) (by omega)]; rfl
 clear hv hN
 refine Ev.step (f := fun q => spec_l22Write.j1 q (szL n) (n : Int) (w : Int) (i : Int) true) (fun q => ?_) ?_
 ·simp only [spec_l22Write.l0]
  rw [if_pos b4, if_pos b5, if_pos b6, rd_szL hw, hT]; rfl
 ·refine Ev.step (f := ?f) ?h ?k
  case h => intro q; simp only [spec_l22Write.j1]; rw [if_pos trivial]
  case k =>
   refine Ev.bind (spec_l22Write.varE hn hi) ?_
   unfold smLet
   by_cases c1 : w = szVar n i
   ·refine Ev.congr (fun q => if_pos (by rw [← c1])) ?_
    rw [if_pos c1, e1]
    refine Ev.of_some (fun q => ?_)
    rw [if_pos b1, if_pos b2, if_pos b3, spec_l22Write.abc i3]; rfl
   ·refine Ev.congr (fun q => if_neg (n1 c1)) ?_
    rw [if_neg c1]
    refine Ev.bind (Ev.const (spec_l22Write.full hn)) ?_
    refine Ev.bind (spec_l22Write.varE hn hi) ?_
    rw [e2]
    by_cases c2 : w = szN n - 1 - szVar n i
    ·refine Ev.congr (fun q => if_pos (by rw [← c2])) ?_
     rw [if_pos c2, e1]
     refine Ev.of_some (fun q => ?_)
     rw [if_pos b1, if_pos b2, if_pos b3, spec_l22Write.abc i3, if_pos (by show 1 + 1 ≤ 9223372036854775807; decide)]; rfl
    ·refine Ev.congr (fun q => if_neg (n2 c2)) ?_
     rw [if_neg c2, e1]
     exact h
theorem spec_l22Write.lets {n w : Nat} {R : Option ByteArray} {z : ByteArray} (hn : n ≤ 3) (hw : w < szN n) (h : Ev (fun q => spec_l22Write.l1 q (szL n) (n : Int) (w : Int) 0) (R.getD z)) :
  Ev (fun q => spec_l22Write.l0 q (szL n) (n : Int) (w : Int) 0) (((smL n w).or R).getD z) := by
 have hend : Ev (fun q => spec_l22Write.l0 q (szL n) (n : Int) (w : Int) (n : Int)) (R.getD z) := by
  refine Ev.step (f := fun q => spec_l22Write.j1 q (szL n) (n : Int) (w : Int) (n : Int) false) (fun q => ?_) ?_
  ·simp only [spec_l22Write.l0]; rw [if_neg (by omega)]
  ·refine Ev.step (f := fun q => spec_l22Write.l1 q (szL n) (n : Int) (w : Int) 0) (fun q => ?_) h
   simp only [spec_l22Write.j1]; rw [if_neg (by decide)]
 unfold smL
 by_cases hT : szT n w = 1
 ·rw [if_pos hT]
  exact scan_loop (fun q i => spec_l22Write.l0 q (szL n) (n : Int) (w : Int) (i : Int)) (smLet n w) n z R (fun i rest hi hr => spec_l22Write.let_step hn hw hi hT hr) hend n 0 (by omega)
 ·rw [if_neg hT]
  by_cases h0 : n = 0
  ·subst h0; exact hend
  ·refine Ev.step (f := fun q => spec_l22Write.j1 q (szL n) (n : Int) (w : Int) 0 false) (fun q => ?_) ?_
   ·simp only [spec_l22Write.l0]
    rw [if_pos (by omega), if_pos (by omega), if_pos (by rw [szL_len]; omega), rd_szL hw]
    congr 1
    rw [beq_eq_false_iff_ne]; omega
   ·refine Ev.step (f := fun q => spec_l22Write.l1 q (szL n) (n : Int) (w : Int) 0) (fun q => ?_) h
    simp only [spec_l22Write.j1]; rw [if_neg (by decide)]
def spec_l22Write.IH (n k : Nat) : Prop := ∀ a : Nat, a < szN n → szT n a < k → Ev (fun q => spec_l22Write.f q (szL n) (n : Int) (a : Int)) (smT n k a)
theorem spec_l22Write.szN_le {n : Nat} (hn : n ≤ 3) : szN n ≤ 256 := by
 have h8 := Nat.pow_le_pow_right (show 0 < 2 by decide) hn
 have := Nat.pow_le_pow_right (show 0 < 2 by decide) (show 2 ^ n ≤ 8 by simpa using h8)
 simpa [szN] using this
theorem spec_l22Write.hit {n w k o a b : Nat} {p : ByteArray} {g : Nat → Option ByteArray} {r : Option ByteArray} (hk : k ≤ 12) (hp : p.size = 1) (ha : Ev (fun q => spec_l22Write.f q (szL n) (n : Int) (a : Int)) (smT n k a)) (hb : Ev (fun q => spec_l22Write.f q (szL n) (n : Int) (b : Int)) (smT n k b)) :
  Ev (fun q => (spec_l22Write.f q (szL n) (n : Int) (a : Int)).bind fun t => if 1 + t.size ≤ 9223372036854775807 then ((spec_l22Write.f q (szL n) (n : Int) (b : Int)).bind fun u => if (p ++ t).size + u.size ≤ 9223372036854775807 then some ((p ++ t) ++ u) else none) else none) (p ++ smT n k a ++ smT n k b) := by
 have h1 := smT_short n a hk
 have h2 := smT_short n b hk
 refine Ev.bind ha ?_
 refine Ev.congr (fun q => if_pos (by omega)) ?_
 refine Ev.bind hb ?_
 refine Ev.congr (fun q => if_pos (by rw [ByteArray.size_append]; omega)) ?_
 exact Ev.now _
theorem spec_l22Write.b_step {n w k o a b : Nat} {rest : Option ByteArray} (hn : n ≤ 3) (hk : k ≤ 12) (ih : spec_l22Write.IH n k) (hw : w < szN n) (hwk : szT n w < k + 1) (ho : o < 2) (ha1 : 1 ≤ a) (ha2 : a < szN n - 1) (hb1 : 1 ≤ b) (hb2 : b < szN n - 1) (haw : szT n a < szT n w)
  (h : Ev (fun q => spec_l22Write.l3 q (szL n) (n : Int) (w : Int) (o : Int) (a : Int) ((b + 1 : Nat) : Int)) (rest.getD ⟨#[]⟩)) :
  Ev (fun q => spec_l22Write.l3 q (szL n) (n : Int) (w : Int) (o : Int) (a : Int) (b : Int)) (((smR n w k o a b).or rest).getD ⟨#[]⟩) := by
 have hN := spec_l22Write.szN_le hn
 have za : szT n a ≠ 0 := by rw [Ne, szT_zero hn (by omega)]; omega
 have zb : szT n b ≠ 0 := by rw [Ne, szT_zero hn (by omega)]; omega
 have ta := szT_le hn (w := a) (by omega)
 have tb := szT_le hn (w := b) (by omega)
 have wa : a < szN n := by omega
 have wb : b < szN n := by omega
 have a63 : a < 2 ^ 63 := by omega
 have b63 : b < 2 ^ 63 := by omega
 have c1 : (b : Int) < (szN n : Int) - 1 := by omega
 have c2 : (0 : Int) ≤ (a : Int) := by omega
 have c3 : (a : Int) < ((szL n).length : Int) := by rw [szL_len]; omega
 have c4 : (0 : Int) ≤ (b : Int) := by omega
 have c5 : (b : Int) < ((szL n).length : Int) := by rw [szL_len]; omega
 have c6 : (0 : Int) ≤ (w : Int) := by omega
 have c7 : (w : Int) < ((szL n).length : Int) := by rw [szL_len]; omega
 have es : szT n a + szT n b = szT n w ↔ ((szT n a + szT n b : Nat) : Int) = (szT n w : Int) := by omega
 have hab : szT n a + szT n b = szT n w → szT n a < k ∧ szT n b < k := by omega
 have ro : o = 0 ∨ o = 1 := by omega
 have eb : ∀ x y : Nat, (((x : Nat) : Int) == (y : Int)) = decide (x = y) := fun x y => by rw [Bool.eq_iff_iff, beq_iff_eq, decide_eq_true_eq]; omega
 have ew : wrap64 ((szT n a : Int) + (szT n b : Int)) = ((szT n a + szT n b : Nat) : Int) := by rw [w64 (by omega) (by omega)]; omega
 have e1 : wrap64 ((b : Int) + 1) = ((b + 1 : Nat) : Int) := by rw [w64 (by omega) (by omega)]; rfl
 clear ta tb hN
 by_cases s : szT n a + szT n b = szT n w
 ·obtain ⟨ka, kb⟩ := hab s
  refine Ev.step (f := fun q => spec_l22Write.j5 q (szL n) (n : Int) (w : Int) (o : Int) (a : Int) (b : Int) (decide (o = 0) && decide (a &&& b = w))) (fun q => ?_) ?_
  ·simp only [spec_l22Write.l3]
   rw [spec_l22Write.full hn, Option.bind_some, if_pos c1, if_pos c2, if_pos c3, if_pos c4, if_pos c5, if_pos c6, if_pos c7, rd_szL wa, rd_szL wb, rd_szL hw, ew, if_pos (es.mp s)]
   rcases ro with rfl | rfl
   ·rw [if_pos (show ((0 : Nat) : Int) = 0 from rfl), and_nat a63 b63, eb]; rfl
   ·rw [if_neg (show ¬ ((1 : Nat) : Int) = 0 by decide)]; rfl
  ·have key : ∀ x, x = (decide (o = 0) && decide (a &&& b = w)) → Ev (fun q => spec_l22Write.j5 q (szL n) (n : Int) (w : Int) (o : Int) (a : Int) (b : Int) x) (((smR n w k o a b).or rest).getD ⟨#[]⟩) := by
    intro x hx
    cases x with
    | true =>
     have hx' := hx.symm
     rw [Bool.and_eq_true, decide_eq_true_eq, decide_eq_true_eq] at hx'
     obtain ⟨rfl, h2⟩ := hx'
     have hr : smR n w k 0 a b = some (smOp 0 ++ smT n k a ++ smT n k b) := if_pos ⟨za, haw, zb, s, by rw [if_pos rfl]; exact h2⟩
     rw [hr]
     refine Ev.step (f := ?f1) ?h1 ?k1
     case h1 => intro q; simp only [spec_l22Write.j5]; rw [if_pos trivial]
     case k1 => exact spec_l22Write.hit (o := 0) (g := fun _ => none) (r := none) (w := w) hk rfl (ih a wa ka) (ih b wb kb)
    | false =>
     refine Ev.step (f := fun q => spec_l22Write.j6 q (szL n) (n : Int) (w : Int) (o : Int) (a : Int) (b : Int) (decide (o = 1) && decide (a ||| b = w))) (fun q => ?_) ?_
     ·simp only [spec_l22Write.j5]
      rw [if_neg (by decide)]
      rcases ro with rfl | rfl
      ·rw [if_neg (show ¬ ((0 : Nat) : Int) = 1 by decide)]; rfl
      ·rw [if_pos (show ((1 : Nat) : Int) = 1 from rfl), or_nat a63 b63, eb]; rfl
     ·have key2 : ∀ y, y = (decide (o = 1) && decide (a ||| b = w)) → Ev (fun q => spec_l22Write.j6 q (szL n) (n : Int) (w : Int) (o : Int) (a : Int) (b : Int) y) (((smR n w k o a b).or rest).getD ⟨#[]⟩) := by
       intro y hy
       cases y with
       | true =>
        have hy' := hy.symm
        rw [Bool.and_eq_true, decide_eq_true_eq, decide_eq_true_eq] at hy'
        obtain ⟨rfl, h2⟩ := hy'
        have hr : smR n w k 1 a b = some (smOp 1 ++ smT n k a ++ smT n k b) := if_pos ⟨za, haw, zb, s, by rw [if_neg (by decide)]; exact h2⟩
        rw [hr]
        refine Ev.step (f := ?f2) ?h2 ?k2
        case h2 => intro q; simp only [spec_l22Write.j6]; rw [if_pos trivial]
        case k2 => exact spec_l22Write.hit (o := 0) (g := fun _ => none) (r := none) (w := w) hk rfl (ih a wa ka) (ih b wb kb)
       | false =>
        have hr : smR n w k o a b = none := by
         refine if_neg ?_
         rintro ⟨_, _, _, _, h5⟩
         rcases ro with rfl | rfl
         ·rw [if_pos rfl] at h5; rw [h5] at hx; simp at hx
         ·rw [if_neg (by decide)] at h5; rw [h5] at hy; simp at hy
        rw [hr]
        refine Ev.step (f := fun q => spec_l22Write.l3 q (szL n) (n : Int) (w : Int) (o : Int) (a : Int) ((b + 1 : Nat) : Int)) (fun q => ?_) h
        simp only [spec_l22Write.j6]
        rw [if_neg (by decide), e1]
      exact key2 _ rfl
   exact key _ rfl
 ·have hr : smR n w k o a b = none := smR_none (.inr (.inr (.inr s)))
  rw [hr]
  refine Ev.step (f := fun q => spec_l22Write.l3 q (szL n) (n : Int) (w : Int) (o : Int) (a : Int) ((b + 1 : Nat) : Int)) (fun q => ?_) h
  simp only [spec_l22Write.l3]
  rw [spec_l22Write.full hn, Option.bind_some, if_pos c1, if_pos c2, if_pos c3, if_pos c4, if_pos c5, if_pos c6, if_pos c7, rd_szL wa, rd_szL wb, rd_szL hw, ew, if_neg (fun hc => s (es.mpr hc)), e1]
theorem spec_l22Write.a_step {n w k o a : Nat} {rest : Option ByteArray} (hn : n ≤ 3) (hk : k ≤ 12) (ih : spec_l22Write.IH n k) (hw : w < szN n) (hwk : szT n w < k + 1) (ho : o < 2) (ha1 : 1 ≤ a) (ha2 : a < szN n - 1)
  (h : Ev (fun q => spec_l22Write.l2 q (szL n) (n : Int) (w : Int) (o : Int) ((a + 1 : Nat) : Int)) (rest.getD ⟨#[]⟩)) :
  Ev (fun q => spec_l22Write.l2 q (szL n) (n : Int) (w : Int) (o : Int) (a : Int)) (((smA n w k o a).or rest).getD ⟨#[]⟩) := by
 have hN := spec_l22Write.szN_le hn
 have hN2 := @szN_pos n
 have wa : a < szN n := by omega
 have c1 : (a : Int) < (szN n : Int) - 1 := by omega
 have c2 : (0 : Int) ≤ (a : Int) := by omega
 have c3 : (a : Int) < ((szL n).length : Int) := by rw [szL_len]; omega
 have c6 : (0 : Int) ≤ (w : Int) := by omega
 have c7 : (w : Int) < ((szL n).length : Int) := by rw [szL_len]; omega
 have cx : ¬ (((szN n - 1 : Nat) : Int) < (szN n : Int) - 1) := by omega
 have ng : szT n a < szT n w → ¬ ((szT n a : Int) ≥ (szT n w : Int)) := by omega
 have pg : ¬ szT n a < szT n w → (szT n a : Int) ≥ (szT n w : Int) := by omega
 have e1 : wrap64 ((a : Int) + 1) = ((a + 1 : Nat) : Int) := by rw [w64 (by omega) (by omega)]; rfl
 by_cases haw : szT n a < szT n w
 ·have hend : Ev (fun q => spec_l22Write.l3 q (szL n) (n : Int) (w : Int) (o : Int) (a : Int) ((szN n - 1 : Nat) : Int)) (rest.getD ⟨#[]⟩) := by
   refine Ev.step (f := fun q => spec_l22Write.l2 q (szL n) (n : Int) (w : Int) (o : Int) ((a + 1 : Nat) : Int)) (fun q => ?_) h
   simp only [spec_l22Write.l3]
   rw [spec_l22Write.full hn, Option.bind_some, if_neg cx, e1]
  rw [smA_trim hn]
  have key := scan_loop (fun q b => spec_l22Write.l3 q (szL n) (n : Int) (w : Int) (o : Int) (a : Int) (b + 1 : Nat)) (fun b => smR n w k o a (b + 1)) (szN n - 2) (⟨#[]⟩ : ByteArray) rest
   (fun b rst hb hr => spec_l22Write.b_step hn hk ih hw hwk ho ha1 ha2 (by omega) (by omega) haw hr) (by rw [show szN n - 2 + 1 = szN n - 1 by omega]; exact hend) (szN n - 2) 0 (by omega)
  have esh : ∀ d i, scan (fun b => smR n w k o a (b + 1)) i d = scan (smR n w k o a) (i + 1) d := by
   intro d
   induction d with
   | zero => intro i; rfl
   | succ d ihd => intro i; show (smR n w k o a (i + 1)).or _ = (smR n w k o a (i + 1)).or _; rw [ihd]
  rw [esh] at key
  refine Ev.step (f := fun q => spec_l22Write.l3 q (szL n) (n : Int) (w : Int) (o : Int) (a : Int) 1) (fun q => ?_) key
  simp only [spec_l22Write.l2]
  rw [spec_l22Write.full hn, Option.bind_some, if_pos c1, if_pos c2, if_pos c3, if_pos c6, if_pos c7, rd_szL wa, rd_szL hw, if_neg (ng haw)]
 ·rw [smA_none (.inr (by omega))]
  refine Ev.step (f := fun q => spec_l22Write.l2 q (szL n) (n : Int) (w : Int) (o : Int) ((a + 1 : Nat) : Int)) (fun q => ?_) h
  simp only [spec_l22Write.l2]
  rw [spec_l22Write.full hn, Option.bind_some, if_pos c1, if_pos c2, if_pos c3, if_pos c6, if_pos c7, rd_szL wa, rd_szL hw, if_pos (pg haw), e1]
theorem spec_l22Write.o_step {n w k o : Nat} {rest : Option ByteArray} (hn : n ≤ 3) (hk : k ≤ 12) (ih : spec_l22Write.IH n k) (hw : w < szN n) (hwk : szT n w < k + 1) (ho : o < 2)
  (h : Ev (fun q => spec_l22Write.l1 q (szL n) (n : Int) (w : Int) ((o + 1 : Nat) : Int)) (rest.getD ⟨#[]⟩)) :
  Ev (fun q => spec_l22Write.l1 q (szL n) (n : Int) (w : Int) (o : Int)) (((smO n w k o).or rest).getD ⟨#[]⟩) := by
 have hN := spec_l22Write.szN_le hn
 have hN2 := @szN_pos n
 have cx : ¬ (((szN n - 1 : Nat) : Int) < (szN n : Int) - 1) := by omega
 have c1 : (o : Int) < 2 := by omega
 have e1 : wrap64 ((o : Int) + 1) = ((o + 1 : Nat) : Int) := by rw [w64 (by omega) (by omega)]; rfl
 have hend : Ev (fun q => spec_l22Write.l2 q (szL n) (n : Int) (w : Int) (o : Int) ((szN n - 1 : Nat) : Int)) (rest.getD ⟨#[]⟩) := by
  refine Ev.step (f := fun q => spec_l22Write.l1 q (szL n) (n : Int) (w : Int) ((o + 1 : Nat) : Int)) (fun q => ?_) h
  simp only [spec_l22Write.l2]
  rw [spec_l22Write.full hn, Option.bind_some, if_neg cx, e1]
 rw [smO_trim hn]
 have key := scan_loop (fun q a => spec_l22Write.l2 q (szL n) (n : Int) (w : Int) (o : Int) (a + 1 : Nat)) (fun a => smA n w k o (a + 1)) (szN n - 2) (⟨#[]⟩ : ByteArray) rest
  (fun a rst ha hr => spec_l22Write.a_step hn hk ih hw hwk ho (by omega) (by omega) hr) (by rw [show szN n - 2 + 1 = szN n - 1 by omega]; exact hend) (szN n - 2) 0 (by omega)
 have esh : ∀ d i, scan (fun a => smA n w k o (a + 1)) i d = scan (smA n w k o) (i + 1) d := by
  intro d
  induction d with
  | zero => intro i; rfl
  | succ d ihd => intro i; show (smA n w k o (i + 1)).or _ = (smA n w k o (i + 1)).or _; rw [ihd]
 rw [esh] at key
 refine Ev.step (f := fun q => spec_l22Write.l2 q (szL n) (n : Int) (w : Int) (o : Int) 1) (fun q => ?_) key
 simp only [spec_l22Write.l1]
 rw [if_pos c1]
theorem spec_l22Write.pairs {n w k : Nat} (hn : n ≤ 3) (hk : k ≤ 12) (ih : spec_l22Write.IH n k) (hw : w < szN n) (hwk : szT n w < k + 1) :
  Ev (fun q => spec_l22Write.l1 q (szL n) (n : Int) (w : Int) 0) ((scan (smO n w k) 0 2).getD ⟨#[]⟩) := by
 have key := scan_loop (fun q o => spec_l22Write.l1 q (szL n) (n : Int) (w : Int) (o : Int)) (smO n w k) 2 (⟨#[]⟩ : ByteArray) none
  (fun o rst ho hr => spec_l22Write.o_step hn hk ih hw hwk ho hr) (Ev.end (fun q => by simp only [spec_l22Write.l1]; rw [if_neg (by decide)]; rfl)) 2 0 (by omega)
 rw [or_none_r] at key
 exact key
theorem spec_l22Write.all {n : Nat} (hn : n ≤ 3) : ∀ k, k ≤ 12 → spec_l22Write.IH n k
 | 0, _, a, _, h => by omega
 | k + 1, hk, w, hw, hwk => by
  have ih := spec_l22Write.all hn k (by omega)
  have hN2 := @szN_pos n
  rw [smT_succ]
  by_cases h0 : w = 0
  ·subst h0
   rw [if_pos rfl]
   exact Ev.end (fun q => by simp only [spec_l22Write.f]; rw [if_pos (by rfl)])
  ·rw [if_neg h0]
   have h0' : ¬ (w : Int) = 0 := by omega
   by_cases h1 : w + 1 = szN n
   ·rw [if_pos h1]
    have h1' : (w : Int) = (szN n : Int) - 1 := by omega
    exact Ev.end (fun q => by simp only [spec_l22Write.f]; rw [if_neg h0', spec_l22Write.full hn, Option.bind_some, if_pos h1'])
   ·rw [if_neg h1]
    have h1' : ¬ (w : Int) = (szN n : Int) - 1 := by omega
    refine Ev.step (f := fun q => spec_l22Write.l0 q (szL n) (n : Int) (w : Int) 0) (fun q => by simp only [spec_l22Write.f]; rw [if_neg h0', spec_l22Write.full hn, Option.bind_some, if_neg h1']) ?_
    exact spec_l22Write.lets hn hw (spec_l22Write.pairs hn (by omega) ih hw hwk)
theorem spec_l22Write.ev {n w : Nat} (hn : n ≤ 3) (hw : w < szN n) : Ev (fun q => spec_l22Write.f q (szL n) (n : Int) (w : Int)) (smT n 12 w) := spec_l22Write.all hn 12 (Nat.le_refl _) w hw (by have := szT_le hn hw; omega)

def spec_SmallestFormula.r (a b : Int) : ByteArray × Bool := if isT a b = true ∧ a ≤ 3 then (smT a.toNat 12 b.toNat, true) else (⟨#[]⟩, false)
theorem spec_SmallestFormula.ev (a b : Int) : Ev (fun q => spec_SmallestFormula.f q a b) (spec_SmallestFormula.r a b) := by
 unfold spec_SmallestFormula.r spec_SmallestFormula.f
 refine Ev.bind (Ev.const (spec_IsTable.ev a b)) ?_
 cases ht : isT a b with
 | false =>
  rw [if_neg (by simp)]
  refine Ev.congr (fun q => if_neg (by simp)) ?_
  exact Ev.end (fun q => by simp only [spec_SmallestFormula.j0]; rw [if_pos trivial])
 | true =>
  refine Ev.congr (fun q => if_pos rfl) ?_
  obtain ⟨n, v, rfl, rfl, hn, hv⟩ := isT_nat ht
  by_cases h : (n : Int) ≤ 3
  ·rw [if_pos ⟨rfl, h⟩, decide_eq_false (by omega)]
   refine Ev.step (f := ?f) ?h ?k
   case h => intro q; simp only [spec_SmallestFormula.j0]; rw [if_neg (by decide)]
   case k =>
    refine Ev.bind (Ev.const (r := szL n) ?_) ?_
    ·unfold spec_l22Sizes.f
     rw [if_pos (by omega), Int.toNat_natCast]
    ·refine Ev.bind (spec_l22Write.ev (by omega) hv) ?_
     exact Ev.now _
  ·rw [if_neg (fun e => h e.2), decide_eq_true (by omega)]
   exact Ev.end (fun q => by simp only [spec_SmallestFormula.j0]; rw [if_pos trivial])

theorem impl_SmallestFormula.ev (a b : Int) : Ev (fun q => impl_SmallestFormula.f q a b) (spec_SmallestFormula.r a b) := by
 unfold spec_SmallestFormula.r impl_SmallestFormula.f
 refine Ev.bind (Ev.const (impl_isSmall.ev a b 3)) ?_
 cases ht : isT a b with
 | false =>
  rw [if_neg (by simp)]
  refine Ev.congr (fun q => if_neg (by simp)) ?_
  exact Ev.now _
 | true =>
  obtain ⟨n, v, rfl, rfl, hn, hv⟩ := isT_nat ht
  by_cases h : (n : Int) ≤ 3
  ·rw [if_pos ⟨rfl, h⟩]
   refine Ev.congr (fun q => if_pos (by rw [decide_eq_true h]; rfl)) ?_
   refine Ev.bind (Ev.const (r := szL n) ?_) ?_
   ·unfold impl_sizes.f
    rw [if_pos (by omega), Int.toNat_natCast]
   ·refine Ev.bind (impl_Table_smallest.ev (by omega) hv) ?_
    exact Ev.now _
  ·rw [if_neg (fun e => h e.2)]
   refine Ev.congr (fun q => if_neg (by rw [decide_eq_false h]; simp)) ?_
   exact Ev.now _

def spec_FormulaSize.r (a b : Int) : Int := if isT a b = true ∧ a ≤ 3 then rd (szL a.toNat) b else -1
theorem spec_FormulaSize.ev (a b : Int) : spec_FormulaSize.f a b = some (spec_FormulaSize.r a b) := by
 unfold spec_FormulaSize.f spec_FormulaSize.r
 rw [spec_IsTable.ev, Option.bind_some]
 cases ht : isT a b with
 | false => rw [if_neg (by simp), if_neg (by simp)]
 | true =>
  obtain ⟨n, v, rfl, rfl, hn, hv⟩ := isT_nat ht
  by_cases h : (n : Int) ≤ 3
  ·rw [if_pos ⟨rfl, h⟩, if_pos ⟨rfl, h⟩]
   unfold spec_l22Sizes.f
   rw [if_pos (by omega), Option.bind_some, Int.toNat_natCast, szL_len, if_pos ⟨by omega, by show (v : Int) < ((2 ^ 2 ^ n : Nat) : Int); exact_mod_cast hv⟩]
  ·rw [if_neg (fun e => h e.2), if_neg (fun e => h e.2)]

theorem impl_FormulaSize.ev (a b : Int) : impl_FormulaSize.f a b = some (spec_FormulaSize.r a b) := by
 unfold impl_FormulaSize.f spec_FormulaSize.r
 rw [impl_isSmall.ev, Option.bind_some]
 cases ht : isT a b with
 | false => rw [Bool.false_and, if_neg (by decide), if_neg (by simp)]
 | true =>
  obtain ⟨n, v, rfl, rfl, hn, hv⟩ := isT_nat ht
  rw [Bool.true_and]
  by_cases h : (n : Int) ≤ 3
  ·rw [decide_eq_true h, if_pos rfl, if_pos ⟨rfl, h⟩]
   unfold impl_sizes.f
   rw [if_pos (by omega), Option.bind_some, Int.toNat_natCast, szL_len, if_pos ⟨by omega, by show (v : Int) < ((2 ^ 2 ^ n : Nat) : Int); exact_mod_cast hv⟩]
  ·rw [decide_eq_false h, if_neg (by decide), if_neg (by omega)]

theorem impl_edges.inner {n a b : Nat} (hn : n ≤ 5) (ha : a < 2 ^ 63) (hb : b < 2 ^ 63) {x : Nat} (hx : x < 2 ^ n) {S : Nat} (hS : S ≤ 1000) {r : Int}
  (he : Ev (fun k => impl_edges.l0 k n a b ((S + edgesAt n a b x : Nat) : Int) ((2 ^ n : Nat) : Int) ((x + 1 : Nat) : Int)) r) :
  ∀ d i, i + d = n → Ev (fun k => impl_edges.l1 k n a b ((S + sumN (edgeB a b x) i : Nat) : Int) (x : Int) ((2 ^ n : Nat) : Int) (x : Int) (n : Int) (i : Int)) r := by
 have h5 := pow_le_5 hn
 refine Ev.count (fun k i => impl_edges.l1 k n a b ((S + sumN (edgeB a b x) i : Nat) : Int) (x : Int) ((2 ^ n : Nat) : Int) (x : Int) (n : Int) (i : Int)) n r ?_ ?_
 ·intro i hi h
  refine Ev.step (fun k => ?_) h
  have hle := sumN_le (edgeB_le a b x) i
  have hf := flip_lt (lt_pow5 hx hn) (show i < 5 by omega)
  simp only [impl_edges.l1]
  have e1 : Go.bits .and .i64 (Go.bits .and .i64 (shr .i64 (a : Int) (x : Int)) 1) (shr .i64 (b : Int) ((x ^^^ 2 ^ i : Nat) : Int)) = ((edgeB a b x i : Nat) : Int) := by
   rw [bit_nat ha (by omega), shr_nat (by omega), and_nat (Nat.lt_trans (toNat_lt _) (by decide)) (Nat.lt_of_le_of_lt (Nat.div_le_self _ _) hb)]
   unfold edgeB
   cases a.testBit x
   ·simp
   ·rw [show (true).toNat = 1 from rfl, Nat.and_comm, bit_of]; rfl
  rw [if_pos (by omega), if_pos (by omega), if_pos (by omega), flip_int (lt_pow5 hx hn) (by omega), if_pos (Int.natCast_nonneg _), e1, up1 (by omega)]
  have e2 := edgeB_le a b x i
  rw [w64 (by omega) (by omega)]
  show _ = impl_edges.l1 k n a b ((S + (sumN (edgeB a b x) i + edgeB a b x i) : Nat) : Int) _ _ _ _ _
  congr 1; omega
 ·refine Ev.step (fun k => ?_) he
  simp only [impl_edges.l1]
  rw [if_neg (by omega), up1 (by omega)]; rfl
theorem impl_edges.ev {n a b : Nat} (hn : n ≤ 5) (ha : a < 2 ^ 63) (hb : b < 2 ^ 63) : Ev (fun k => impl_edges.f k n a b) ((edgesN n a b : Nat) : Int) := by
 have h5 := pow_le_5 hn
 have key : ∀ d x, x + d = 2 ^ n → Ev (fun k => impl_edges.l0 k n a b ((sumN (edgesAt n a b) x : Nat) : Int) ((2 ^ n : Nat) : Int) (x : Int)) ((edgesN n a b : Nat) : Int) := by
  refine Ev.count (fun k x => impl_edges.l0 k n a b ((sumN (edgesAt n a b) x : Nat) : Int) ((2 ^ n : Nat) : Int) (x : Int)) (2 ^ n) _ ?_ ?_
  ·intro x hx h
   have hS := edgesUp_le n a b x
   have hS2 : x * n ≤ 32 * 5 := Nat.mul_le_mul (by omega) hn
   refine Ev.step (f := fun k => impl_edges.l1 k n a b ((sumN (edgesAt n a b) x + sumN (edgeB a b x) 0 : Nat) : Int) (x : Int) ((2 ^ n : Nat) : Int) (x : Int) (n : Int) ((0 : Nat) : Int)) (fun k => ?_) (impl_edges.inner hn ha hb hx (by omega) h n 0 (by omega))
   simp only [impl_edges.l0]
   rw [if_pos (by omega)]; rfl
  ·refine Ev.end (fun k => ?_)
   simp only [impl_edges.l0]
   rw [if_neg (by omega)]; rfl
 refine Ev.congr (fun k => ?_) (key (2 ^ n) 0 (by omega))
 unfold impl_edges.f
 rw [if_pos (Int.natCast_nonneg _), shl_one (by omega)]; rfl

theorem bits_OnesCount64.ev {w : Nat} (h : w < 2 ^ 32) : bits_OnesCount64.f w = some ((pc w : Nat) : Int) := by
 unfold bits_OnesCount64.f
 rw [sA_eq h, sB_eq (sA_lt h), sC_eq (sB_lt (sA_lt h))]
 exact congrArg some (swar_end h rfl _ rfl)
theorem impl_ones.ev {w : Nat} (h : w < 2 ^ 32) : impl_ones.f w = some ((pc w : Nat) : Int) := by
 unfold impl_ones.f
 rw [u64n (by omega), bits_OnesCount64.ev h]; rfl

theorem impl_Table_restrict.ev {n v i b : Nat} (h1 : 1 ≤ n) (hn : n ≤ 5) (hv : v < 2 ^ 32) (hi : i < n) (hb : b ≤ 1) : impl_Table_restrict.f n v i b = some (((n - 1 : Nat) : Int), ((rstW n v i b : Nat) : Int)) := by
 unfold impl_Table_restrict.f
 rw [if_pos ⟨by omega, by omega, by omega, by omega, by omega, by omega, by omega, by omega⟩]
 simp only [Int.toNat_natCast]
 rw [show ((n : Int) - 1) = ((n - 1 : Nat) : Int) by omega]; rfl

theorem impl_areSets.set {m : Nat} (hm : m ≤ 5) (a : Int) : impl_isSet.f m a = some (decide (0 ≤ a ∧ a < ((2 ^ 2 ^ m : Nat) : Int))) := by
 have h5 := pow_le_5 hm
 unfold impl_isSet.f
 by_cases h : a ≥ 0
 ·obtain ⟨v, rfl⟩ := nat_of h
  rw [if_pos h, if_pos (Int.natCast_nonneg m), shlu_one (by omega), shr_nat (by omega)]
  congr 1
  rw [Bool.eq_iff_iff]
  simp only [beq_iff_eq, decide_eq_true_eq]
  have hz : v / 2 ^ 2 ^ m = 0 ↔ v < 2 ^ 2 ^ m := Nat.div_eq_zero_iff_lt (Nat.two_pow_pos _)
  rw [show (((v / 2 ^ 2 ^ m : Nat) : Int) = 0 ↔ v / 2 ^ 2 ^ m = 0) from by omega, hz]
  generalize 2 ^ 2 ^ m = P
  omega
 ·rw [if_neg h]
  congr 1; symm
  apply decide_eq_false; omega
theorem impl_areSets.ev (n a b : Int) : impl_areSets.f n a b = some (decide (0 ≤ n ∧ n ≤ 4 ∧ 0 ≤ a ∧ a < ((2 ^ 2 ^ n.toNat : Nat) : Int) ∧ 0 ≤ b ∧ b < ((2 ^ 2 ^ n.toNat : Nat) : Int))) := by
 unfold impl_areSets.f
 by_cases h : 0 ≤ n
 ·rw [if_pos h]
  by_cases h4 : n ≤ 4
  ·rw [if_pos h4]
   obtain ⟨m, rfl⟩ := nat_of h
   rw [impl_areSets.set (by omega), impl_areSets.set (by omega)]
   simp only [Option.bind_some, Int.toNat_natCast]
   by_cases ha : 0 ≤ a ∧ a < ((2 ^ 2 ^ m : Nat) : Int)
   ·rw [decide_eq_true ha, if_pos rfl]
    congr 1
    apply decide_eq_decide.mpr
    exact ⟨fun e => ⟨h, h4, ha.1, ha.2, e.1, e.2⟩, fun e => ⟨e.2.2.2.2.1, e.2.2.2.2.2⟩⟩
   ·rw [decide_eq_false ha, if_neg (by decide)]
    congr 1; symm
    exact decide_eq_false (fun e => ha ⟨e.2.2.1, e.2.2.2.1⟩)
  ·rw [if_neg h4]
   congr 1; symm
   apply decide_eq_false; omega
 ·rw [if_neg h]
  congr 1; symm
  apply decide_eq_false; omega

theorem spec_DrawSizesOf.ok (b : List Int) (hb : b.length ≤ 1048576) : Tot (fun k => spec_DrawSizesOf.f k b) (fun _ => True) := by
 unfold spec_DrawSizesOf.f
 refine Tot.bind (spec_l1New.ok b hb) (fun r hr => ?_)
 obtain ⟨r1, r2, r3⟩ := r
 obtain ⟨rfl, rfl⟩ := hr
 obtain ⟨q, i2, h2, e2, q1, q2, q3⟩ := spec_l1Below.ok r1 0 r3 6 hb (Int.le_refl 0) (by decide) (by decide)
 simp only [e2, Option.bind_some]
 exact Tot.now _ trivial

def spec_SizesOf.r (a : Int) : List Int × Bool := if 0 ≤ a ∧ a ≤ 3 then (szL a.toNat, true) else ([], false)
theorem spec_SizesOf.ev (a : Int) : spec_SizesOf.f a = some (spec_SizesOf.r a) := by
 unfold spec_SizesOf.f spec_SizesOf.r
 rw [spec_l1In.ev, Option.bind_some]
 by_cases h : 0 ≤ a ∧ a ≤ 3
 ·rw [decide_eq_true h, if_pos rfl, if_pos h]
  unfold spec_l22Sizes.f
  rw [if_pos h]; rfl
 ·rw [decide_eq_false h, if_neg (by decide), if_neg h]
theorem spec_SizesOf.len (a : Int) : (spec_SizesOf.r a).1.length ≤ 256 := by
 unfold spec_SizesOf.r
 by_cases h : 0 ≤ a ∧ a ≤ 3
 ·rw [if_pos h]
  show (szL a.toNat).length ≤ 256
  rw [szL_len]
  have h8 := Nat.pow_le_pow_right (show 0 < 2 by decide) (show a.toNat ≤ 3 by omega)
  have := Nat.pow_le_pow_right (show 0 < 2 by decide) (show 2 ^ a.toNat ≤ 8 by simpa using h8)
  simpa [szN] using this
 ·rw [if_neg h]; exact Nat.zero_le _

theorem impl_SizesOf.ev (a : Int) : impl_SizesOf.f a = some (spec_SizesOf.r a) := by
 unfold impl_SizesOf.f spec_SizesOf.r
 by_cases h1 : a < 0
 ·rw [if_pos h1, if_neg (by omega)]
 ·rw [if_neg h1]
  by_cases h2 : a > 3
  ·rw [if_pos h2, if_neg (by omega)]
  ·rw [if_neg h2, if_pos (by omega)]
   unfold impl_sizes.f
   rw [if_pos (by omega)]; rfl

def spec_LargestSize.top (l : List Int) : Nat → Int
 | 0 => 0
 | i + 1 => mx (spec_LargestSize.top l i) (rd l (i : Int))
def spec_LargestSize.r (a : Int) : Int := if (spec_SizesOf.r a).2 = true then spec_LargestSize.top (spec_SizesOf.r a).1 (spec_SizesOf.r a).1.length else -1
theorem spec_LargestSize.ev (a : Int) : Ev (fun k => spec_LargestSize.f k a) (spec_LargestSize.r a) := by
 have hlen := spec_SizesOf.len a
 have hs := spec_SizesOf.ev a
 unfold spec_LargestSize.r
 generalize spec_SizesOf.r a = q at *
 obtain ⟨l, b⟩ := q
 simp only [] at hlen
 cases b with
 | false =>
  refine Ev.of_some (fun k => ?_)
  unfold spec_LargestSize.f
  rw [hs]; rfl
 | true =>
  have key : ∀ d i, i + d = l.length → Ev (fun k => spec_LargestSize.l0 k l (spec_LargestSize.top l i) (i : Int)) (spec_LargestSize.top l l.length) := by
   refine Ev.count (fun k i => spec_LargestSize.l0 k l (spec_LargestSize.top l i) (i : Int)) l.length _ ?_ ?_
   ·intro i hi hn
    refine Ev.step (fun k => ?_) hn
    simp only [spec_LargestSize.l0]
    rw [if_pos (by omega), if_pos (by omega), w64 (by omega) (by omega)]; rfl
   ·refine Ev.end (fun k => ?_)
    simp only [spec_LargestSize.l0]
    rw [if_neg (by omega)]
  refine Ev.congr (fun k => ?_) (key l.length 0 (by omega))
  unfold spec_LargestSize.f
  rw [hs]; rfl

theorem impl_LargestSize.best (l : List Int) (h0 : rd l 0 = 0) : ∀ i, slices_Max_int_int.best l i = spec_LargestSize.top l (i + 1)
 | 0 => by
  have e : l.getD 0 0 = 0 := h0
  rw [slices_Max_int_int.best, e]
  show (0 : Int) = mx 0 (rd l ((0 : Nat) : Int))
  rw [show ((0 : Nat) : Int) = 0 from rfl, h0]; rfl
 | i + 1 => by
  have e : l.getD (i + 1) 0 = rd l ((i + 1 : Nat) : Int) := by unfold rd; rw [Int.toNat_natCast]
  rw [slices_Max_int_int.best, impl_LargestSize.best l h0 i, e]
  rfl
theorem impl_LargestSize.ev (a : Int) : impl_LargestSize.f a = some (spec_LargestSize.r a) := by
 unfold impl_LargestSize.f spec_LargestSize.r
 rw [impl_SizesOf.ev, Option.bind_some]
 unfold spec_SizesOf.r
 by_cases h : 0 ≤ a ∧ a ≤ 3
 ·rw [if_pos h, if_pos rfl, if_pos rfl]
  have hp := szN_pos (n := a.toNat)
  have hl := szL_len a.toNat
  have h0 : rd (szL a.toNat) ((0 : Nat) : Int) = 0 := by
   rw [rd_szL (by omega), (szT_zero (by omega) (by omega)).mpr (.inl rfl)]; rfl
  unfold slices_Max_int_int.f
  show (if 0 < (szL a.toNat).length then _ else _ : Option Int).bind _ = _
  rw [if_pos (by omega), Option.bind_some, impl_LargestSize.best _ h0]
  show some _ = some (spec_LargestSize.top (szL a.toNat) (szL a.toNat).length)
  rw [show (szL a.toNat).length - 1 + 1 = (szL a.toNat).length by omega]
 ·rw [if_neg h]; rfl

theorem spec_DrawCountOfSize.ok (b : List Int) (hb : b.length ≤ 1048576) : Tot (fun k => spec_DrawCountOfSize.f k b) (fun _ => True) := by
 unfold spec_DrawCountOfSize.f
 refine Tot.bind (spec_l1New.ok b hb) (fun r hr => ?_)
 obtain ⟨r1, r2, r3⟩ := r
 obtain ⟨rfl, rfl⟩ := hr
 obtain ⟨q, i2, h2, e2, q1, q2, q3⟩ := spec_l1Below.ok r1 0 r3 5 hb (Int.le_refl 0) (by decide) (by decide)
 obtain ⟨y, i3, h3, e3, y1, y2, y3⟩ := spec_l1Below.ok r1 i2 h2 12 hb q3 (by decide) (by decide)
 simp only [e2, e3, Option.bind_some]
 exact Tot.now _ trivial

theorem spec_l23Draw.ok (b : List Int) (hb : b.length ≤ 1048576) : Tot (fun k => spec_l23Draw.f k b) (fun _ => True) := by
 unfold spec_l23Draw.f
 refine Tot.bind (spec_l1New.ok b hb) (fun r hr => ?_)
 obtain ⟨r1, r2, r3⟩ := r
 obtain ⟨rfl, rfl⟩ := hr
 obtain ⟨q, i2, h2, e2, q1, q3⟩ := spec_l1PickInt.ok r1 0 r3 [4, 3, 3, 2, 0, 5, (-1)] hb (Int.le_refl 0) (by decide) (by decide)
 obtain ⟨y, i3, h3, e3, y3⟩ := spec_l1Below.big r1 i2 h2 257 hb q3 (by decide)
 obtain ⟨z, i4, h4, e4, z1, z2, z3⟩ := spec_l1Below.ok r1 i3 h3 256 hb y3 (by decide) (by decide)
 simp only [e2, e3, e4, Option.bind_some]
 exact Tot.now _ trivial

theorem spec_DrawEdgesBetween.ok (b : List Int) (hb : b.length ≤ 1048576) : Tot (fun k => spec_DrawEdgesBetween.f k b) (fun _ => True) := by
 unfold spec_DrawEdgesBetween.f
 exact Tot.bind (spec_l23Draw.ok b hb) (fun s _ => Tot.now _ trivial)

theorem spec_DrawPairBound.ok (b : List Int) (hb : b.length ≤ 1048576) : Tot (fun k => spec_DrawPairBound.f k b) (fun _ => True) := by
 unfold spec_DrawPairBound.f
 exact Tot.bind (spec_l23Draw.ok b hb) (fun s _ => Tot.now _ trivial)

theorem spec_DrawTableBound.ok (b : List Int) (hb : b.length ≤ 1048576) : Tot (fun k => spec_DrawTableBound.f k b) (fun _ => True) := by
 unfold spec_DrawTableBound.f
 refine Tot.bind (spec_l1New.ok b hb) (fun r hr => ?_)
 obtain ⟨r1, r2, r3⟩ := r
 obtain ⟨rfl, rfl⟩ := hr
 exact Tot.bind (spec_l2Any.ok r1 hb 0 r3 (Int.le_refl 0)) (fun s _ => Tot.now _ trivial)

theorem spec_DrawBestPair.ok (b : List Int) (hb : b.length ≤ 1048576) : Tot (fun k => spec_DrawBestPair.f k b) (fun _ => True) := by
 unfold spec_DrawBestPair.f
 refine Tot.bind (spec_l1New.ok b hb) (fun r hr => ?_)
 obtain ⟨r1, r2, r3⟩ := r
 obtain ⟨rfl, rfl⟩ := hr
 exact Tot.bind (spec_l22Small.ok r1 hb 0 r3 (Int.le_refl 0)) (fun s _ => Tot.now _ trivial)

def spec_l23Fine.is (n a b : Int) : Bool := decide (0 ≤ n ∧ n ≤ 4 ∧ 0 ≤ a ∧ a < ((2 ^ 2 ^ n.toNat : Nat) : Int) ∧ 0 ≤ b ∧ b < ((2 ^ 2 ^ n.toNat : Nat) : Int))
theorem spec_l23Fine.nat {n a b : Int} (h : spec_l23Fine.is n a b = true) : ∃ m x y : Nat, n = (m : Int) ∧ a = (x : Int) ∧ b = (y : Int) ∧ m ≤ 4 ∧ x < 2 ^ 2 ^ m ∧ y < 2 ^ 2 ^ m := by
 obtain ⟨h1, h2, h3, h4, h5, h6⟩ := of_decide_eq_true h
 obtain ⟨m, rfl⟩ := nat_of h1
 obtain ⟨x, rfl⟩ := nat_of h3
 obtain ⟨y, rfl⟩ := nat_of h5
 rw [Int.toNat_natCast] at h4 h6
 exact ⟨m, x, y, rfl, rfl, rfl, by omega, by exact_mod_cast h4, by exact_mod_cast h6⟩
theorem spec_l23Fine.ev (n a b : Int) : spec_l23Fine.f n a b = some (spec_l23Fine.is n a b) := by
 unfold spec_l23Fine.f spec_l23Fine.is
 rw [spec_l1In.ev]
 by_cases h : 0 ≤ n ∧ n ≤ 4
 ·obtain ⟨m, rfl⟩ := nat_of h.1
  have hm : m ≤ 5 := by omega
  rw [decide_eq_true h]
  simp only [Option.bind_some, if_true, spec_l2Full.ev hm, spec_l1In.ev, Int.toNat_natCast]
  have P1 : ∀ z : Int, z ≤ ((2 ^ 2 ^ m : Nat) : Int) - 1 ↔ z < ((2 ^ 2 ^ m : Nat) : Int) := fun z => by omega
  by_cases ha : 0 ≤ a ∧ a ≤ ((2 ^ 2 ^ m : Nat) : Int) - 1
  ·rw [decide_eq_true ha, if_pos rfl]
   congr 1
   apply decide_eq_decide.mpr
   exact ⟨fun e => ⟨h.1, h.2, ha.1, (P1 _).mp ha.2, e.1, (P1 _).mp e.2⟩, fun e => ⟨e.2.2.2.2.1, (P1 _).mpr e.2.2.2.2.2⟩⟩
  ·rw [decide_eq_false ha, if_neg (by decide)]
   congr 1; symm
   exact decide_eq_false (fun e => ha ⟨e.2.2.1, (P1 _).mpr e.2.2.2.1⟩)
 ·have h' : ¬ (0 ≤ n ∧ n ≤ 4 ∧ 0 ≤ a ∧ a < ((2 ^ 2 ^ n.toNat : Nat) : Int) ∧ 0 ≤ b ∧ b < ((2 ^ 2 ^ n.toNat : Nat) : Int)) := fun e => h ⟨e.1, e.2.1⟩
  simp only [h, h', decide_false, Option.bind_some, Bool.false_eq_true, if_false]

theorem spec_l23Edges.inner {n a b : Nat} (hn : n ≤ 5) (ha : a < 2 ^ 63) (hb : b < 2 ^ 63) {x : Nat} (hx : x < 2 ^ n) {S : Nat} (hS : S ≤ 1000) {r : Int}
  (he : Ev (fun k => spec_l23Edges.l0 k n a b ((S + edgesAt n a b x : Nat) : Int) ((x + 1 : Nat) : Int)) r) :
  ∀ d i, i + d = n → Ev (fun k => spec_l23Edges.l1 k n a b ((S + sumN (edgeB a b x) i : Nat) : Int) (x : Int) (i : Int)) r := by
 have h5 := pow_le_5 hn
 refine Ev.count (fun k i => spec_l23Edges.l1 k n a b ((S + sumN (edgeB a b x) i : Nat) : Int) (x : Int) (i : Int)) n r ?_ ?_
 ·intro i hi h
  refine Ev.step (fun k => ?_) h
  have hle := sumN_le (edgeB_le a b x) i
  have hf := flip_lt (lt_pow5 hx hn) (show i < 5 by omega)
  simp only [spec_l23Edges.l1]
  rw [if_pos (by omega), if_pos (by omega), bit_nat ha (by omega)]
  have eb : edgeB a b x i = (a.testBit x && b.testBit (x ^^^ 2 ^ i)).toNat := rfl
  show _ = spec_l23Edges.l1 k n a b ((S + (sumN (edgeB a b x) i + edgeB a b x i) : Nat) : Int) (x : Int) ((i + 1 : Nat) : Int)
  rw [eb]
  cases a.testBit x
  ·rw [if_neg (by decide), up1 (by omega)]; rfl
  ·rw [if_pos (by rfl), if_pos (by omega), flip_int (lt_pow5 hx hn) (by omega), if_pos (Int.natCast_nonneg _), bit_nat hb (by omega)]
   cases b.testBit (x ^^^ 2 ^ i)
   ·rw [if_neg (by decide), up1 (by omega)]; rfl
   ·rw [if_pos (by rfl), up1 (by omega), up1 (by omega)]; rfl
 ·refine Ev.step (fun k => ?_) he
  simp only [spec_l23Edges.l1]
  rw [if_neg (by omega), up1 (by omega)]; rfl
theorem spec_l23Edges.ev {n a b : Nat} (hn : n ≤ 5) (ha : a < 2 ^ 63) (hb : b < 2 ^ 63) : Ev (fun k => spec_l23Edges.f k n a b) ((edgesN n a b : Nat) : Int) := by
 have h5 := pow_le_5 hn
 have key : ∀ d x, x + d = 2 ^ n → Ev (fun k => spec_l23Edges.l0 k n a b ((sumN (edgesAt n a b) x : Nat) : Int) (x : Int)) ((edgesN n a b : Nat) : Int) := by
  refine Ev.count (fun k x => spec_l23Edges.l0 k n a b ((sumN (edgesAt n a b) x : Nat) : Int) (x : Int)) (2 ^ n) _ ?_ ?_
  ·intro x hx h
   have hS := edgesUp_le n a b x
   have hS2 : x * n ≤ 32 * 5 := Nat.mul_le_mul (by omega) hn
   refine Ev.step (f := fun k => spec_l23Edges.l1 k n a b ((sumN (edgesAt n a b) x + sumN (edgeB a b x) 0 : Nat) : Int) (x : Int) ((0 : Nat) : Int)) (fun k => ?_) (spec_l23Edges.inner hn ha hb hx (by omega) h n 0 (by omega))
   simp only [spec_l23Edges.l0]
   rw [if_pos (Int.natCast_nonneg _), shl_one (by omega), if_pos (by omega)]; rfl
  ·refine Ev.end (fun k => ?_)
   simp only [spec_l23Edges.l0]
   rw [if_pos (Int.natCast_nonneg _), shl_one (by omega), if_neg (by omega)]; rfl
 exact key (2 ^ n) 0 (by omega)

def spec_PairBound.bnd (x y e : Int) : Option Int := if wrap64 (x * y) = 0 then some 0 else some (wrap64 (Int.tdiv (wrap64 ((wrap64 ((wrap64 (e * e)) + (wrap64 (x * y)))) - 1)) (wrap64 (x * y))))
def spec_PairBound.val (m x y : Nat) : Int := (spec_PairBound.bnd ((pc x : Nat) : Int) ((pc y : Nat) : Int) ((edgesN m x y : Nat) : Int)).getD 0
theorem spec_PairBound.getD_of {o : Option Int} (h : ∃ r, o = some r) : o = some (o.getD 0) := by
 obtain ⟨r, rfl⟩ := h; rfl
theorem spec_PairBound.bnd_some (m x y : Nat) : spec_PairBound.bnd ((pc x : Nat) : Int) ((pc y : Nat) : Int) ((edgesN m x y : Nat) : Int) = some (spec_PairBound.val m x y) := by
 exact spec_PairBound.getD_of (ite_some _ _ _)
theorem spec_PairBound.ev {m x y : Nat} (hm : m ≤ 4) (hx : x < 2 ^ 2 ^ m) (hy : y < 2 ^ 2 ^ m) : Ev (fun k => spec_PairBound.f k m x y) (spec_PairBound.val m x y) := by
 have hf := full_p63 (n := m) (by omega)
 have h32 := full_lt (n := m) (by omega)
 obtain ⟨K1, e1⟩ := spec_l23Edges.ev (n := m) (a := x) (b := y) (by omega) (by omega) (by omega)
 obtain ⟨K3, e3⟩ := spec_l2Count.ev (w := x) (by omega)
 obtain ⟨K4, e4⟩ := spec_l2Count.ev (w := y) (by omega)
 refine ⟨max K1 (max K3 K4), fun k hk => ?_⟩
 have q1 : spec_l23Edges.f k m x y = some _ := e1 k (by omega)
 have q3 : spec_l2Count.f k x = some _ := e3 k (by omega)
 have q4 : spec_l2Count.f k y = some _ := e4 k (by omega)
 have ht : spec_l23Fine.is (m : Int) (x : Int) (y : Int) = true := decide_eq_true ⟨Int.natCast_nonneg _, by omega, Int.natCast_nonneg _, by rw [Int.toNat_natCast]; exact_mod_cast hx, Int.natCast_nonneg _, by rw [Int.toNat_natCast]; exact_mod_cast hy⟩
 have hb := spec_PairBound.bnd_some m x y
 show spec_PairBound.f k m x y = some _
 generalize spec_PairBound.val m x y = r at hb ⊢
 unfold spec_PairBound.f
 rw [spec_l23Fine.ev, ht, Option.bind_some, if_pos rfl, q3, Option.bind_some, q4, Option.bind_some, q1]
 exact hb

theorem impl_bound.ev {m x y : Nat} (hm : m ≤ 4) (hx : x < 2 ^ 2 ^ m) (hy : y < 2 ^ 2 ^ m) : Ev (fun k => impl_bound.f k m x y) (spec_PairBound.val m x y) := by
 have hf := full_p63 (n := m) (by omega)
 have h32 := full_lt (n := m) (by omega)
 obtain ⟨K1, e1⟩ := impl_edges.ev (n := m) (a := x) (b := y) (by omega) (by omega) (by omega)
 refine ⟨K1, fun k hk => ?_⟩
 have q1 : impl_edges.f k m x y = some _ := e1 k (by omega)
 have hb := spec_PairBound.bnd_some m x y
 show impl_bound.f k m x y = some _
 generalize spec_PairBound.val m x y = r at hb ⊢
 unfold impl_bound.f
 rw [impl_ones.ev (w := x) (by omega), impl_ones.ev (w := y) (by omega), Option.bind_some, Option.bind_some, q1]
 exact hb

def spec_BestPair.stepB (V : Nat → Nat → Int) (v a b : Nat) (s : Int × Int × Int) : Int × Int × Int := if b &&& v = 0 then (if V a b > s.2.2 then ((a : Int), (b : Int), V a b) else s) else s
def spec_BestPair.stepA (V : Nat → Nat → Int) (v w a : Nat) (s : Int × Int × Int) : Int × Int × Int := if a &&& v = a then iter (spec_BestPair.stepB V v a) 0 (w + 1) s else s
def spec_BestPair.res (V : Nat → Nat → Int) (v w : Nat) : Int × Int × Int × Bool := ((iter (spec_BestPair.stepA V v w) 0 (v + 1) (0, 0, 0)).1, (iter (spec_BestPair.stepA V v w) 0 (v + 1) (0, 0, 0)).2.1, (iter (spec_BestPair.stepA V v w) 0 (v + 1) (0, 0, 0)).2.2, true)
theorem spec_BestPair.inner {n v w : Nat} (hn : n ≤ 5) (hv : v < 2 ^ 2 ^ n) (hw : w = 2 ^ 2 ^ n - 1 - v) (V : Nat → Nat → Int)
  (hV : ∀ a b : Nat, a < 2 ^ 2 ^ n → b < 2 ^ 2 ^ n → Ev (fun k => spec_PairBound.f k n a b) (V a b)) {a : Nat} (ha : a < 2 ^ 2 ^ n) (s : Int × Int × Int) {r : Int × Int × Int × Bool}
  (h : Ev (fun k => spec_BestPair.l0 k (iter (spec_BestPair.stepB V v a) 0 (w + 1) s).1 (iter (spec_BestPair.stepB V v a) 0 (w + 1) s).2.1 (iter (spec_BestPair.stepB V v a) 0 (w + 1) s).2.2 ((a + 1 : Nat) : Int) n v) r) :
  Ev (fun k => spec_BestPair.l1 k s.1 s.2.1 s.2.2 a ((0 : Nat) : Int) n v) r := by
 have hf := full_p63 hn
 have h32 := full_lt hn
 have ew : wrap64 (((2 ^ 2 ^ n : Nat) : Int) - 1 - (v : Int)) = (w : Int) := by
  rw [w64 (by omega) (by omega)]; omega
 refine Ev.up (fun k s b => spec_BestPair.l1 k s.1 s.2.1 s.2.2 a (b : Int) n v) (w + 1) (fun _ _ => True) (spec_BestPair.stepB V v a) r (fun _ _ _ _ => trivial) ?_ (w + 1) 0 s (by omega) trivial ?_
 ·intro b s hb _ hn2
  have hbb : b < 2 ^ 2 ^ n := by omega
  have hs : ∀ k, spec_BestPair.l1 (k + 1) s.1 s.2.1 s.2.2 a (b : Int) n v = if b &&& v = 0 then (spec_PairBound.f k n a b).bind fun t => (if t > s.2.2 then spec_BestPair.l1 k a b t a ((b + 1 : Nat) : Int) n v else spec_BestPair.l1 k s.1 s.2.1 s.2.2 a ((b + 1 : Nat) : Int) n v) else spec_BestPair.l1 k s.1 s.2.1 s.2.2 a ((b + 1 : Nat) : Int) n v := by
   intro k
   simp only [spec_BestPair.l1]
   rw [spec_l2Full.ev hn, Option.bind_some, ew, if_pos (by omega), and_nat (by omega) (by omega), up1 (by omega)]
   by_cases e : b &&& v = 0
   ·rw [if_pos (by omega), if_pos e]
   ·rw [if_neg (by omega), if_neg e]
  refine Ev.step hs ?_
  by_cases e : b &&& v = 0
  ·simp only [if_pos e]
   refine Ev.bind (hV a b ha hbb) ?_
   simp only [spec_BestPair.stepB, if_pos e] at hn2
   by_cases g : V a b > s.2.2
   ·simp only [if_pos g] at hn2 ⊢; exact hn2
   ·simp only [if_neg g] at hn2 ⊢; exact hn2
  ·simp only [if_neg e]
   simp only [spec_BestPair.stepB, if_neg e] at hn2
   exact hn2
 ·intro _
  refine Ev.step (fun k => ?_) h
  simp only [spec_BestPair.l1]
  rw [spec_l2Full.ev hn, Option.bind_some, ew, if_neg (by omega), up1 (by omega)]
theorem spec_BestPair.loop {n v w : Nat} (hn : n ≤ 5) (hv : v < 2 ^ 2 ^ n) (hw : w = 2 ^ 2 ^ n - 1 - v) (V : Nat → Nat → Int)
  (hV : ∀ a b : Nat, a < 2 ^ 2 ^ n → b < 2 ^ 2 ^ n → Ev (fun k => spec_PairBound.f k n a b) (V a b)) :
  Ev (fun k => spec_BestPair.l0 k 0 0 0 0 n v) (spec_BestPair.res V v w) := by
 have hf := full_p63 hn
 have h32 := full_lt hn
 refine Ev.up (fun k s a => spec_BestPair.l0 k s.1 s.2.1 s.2.2 (a : Int) n v) (v + 1) (fun _ _ => True) (spec_BestPair.stepA V v w) (spec_BestPair.res V v w) (fun _ _ _ _ => trivial) ?_ (v + 1) 0 (0, 0, 0) (by omega) trivial ?_
 ·intro a s ha _ hn2
  by_cases e : a &&& v = a
  ·refine Ev.step (fun k => ?_) (spec_BestPair.inner hn hv hw V hV (a := a) (by omega) s (by simpa only [spec_BestPair.stepA, if_pos e] using hn2))
   simp only [spec_BestPair.l0]
   rw [if_pos (by omega), and_nat (by omega) (by omega), if_pos (by omega)]; rfl
  ·simp only [spec_BestPair.stepA, if_neg e] at hn2
   refine Ev.step (fun k => ?_) hn2
   simp only [spec_BestPair.l0]
   rw [if_pos (by omega), and_nat (by omega) (by omega), if_neg (by omega), up1 (by omega)]
 ·intro _
  refine Ev.end (fun k => ?_)
  simp only [spec_BestPair.l0]
  rw [if_neg (by omega)]; rfl
def spec_BestPair.r (a b : Int) : Int × Int × Int × Bool := if isT a b = true ∧ a ≤ 3 then spec_BestPair.res (spec_PairBound.val a.toNat) b.toNat (notW (2 ^ a.toNat) b.toNat) else (0, 0, 0, false)
theorem spec_BestPair.evr (a b : Int) : Ev (fun k => spec_BestPair.f k a b) (spec_BestPair.r a b) := by
 unfold spec_BestPair.r spec_BestPair.f
 refine Ev.bind (Ev.const (spec_IsTable.ev a b)) ?_
 cases ht : isT a b with
 | false =>
  rw [if_neg (by simp)]
  refine Ev.congr (fun q => if_neg (by simp)) ?_
  exact Ev.end (fun q => by simp only [spec_BestPair.j0]; rw [if_pos trivial])
 | true =>
  refine Ev.congr (fun q => if_pos rfl) ?_
  obtain ⟨n, v, rfl, rfl, hn, hv⟩ := isT_nat ht
  by_cases h : (n : Int) ≤ 3
  ·rw [if_pos ⟨rfl, h⟩, decide_eq_false (by omega), Int.toNat_natCast, Int.toNat_natCast]
   have hs := spec_BestPair.loop hn hv (notW_is hv) (spec_PairBound.val n) (fun a b ha hb => spec_PairBound.ev (by omega) ha hb)
   refine Ev.step (fun k => ?_) hs
   simp only [spec_BestPair.j0]
   rw [if_neg (by decide)]
  ·rw [if_neg (fun e => h e.2), decide_eq_true (by omega)]
   exact Ev.end (fun q => by simp only [spec_BestPair.j0]; rw [if_pos trivial])
def spec_BestPair.P (V : Nat → Nat → Int) (v w : Nat) (s : Int × Int × Int) : Prop := ∃ a b : Nat, s = ((a : Int), (b : Int), V a b) ∧ a &&& v = a ∧ b &&& v = 0 ∧ a ≤ v ∧ b ≤ w
theorem spec_BestPair.stepA_keep {V : Nat → Nat → Int} {v w : Nat} (i : Nat) (s : Int × Int × Int) (hi : i < v + 1) (hs : spec_BestPair.P V v w s) : spec_BestPair.P V v w (spec_BestPair.stepA V v w i s) := by
 unfold spec_BestPair.stepA
 by_cases e : i &&& v = i
 ·rw [if_pos e]
  refine iter_keep (N := w + 1) (P := spec_BestPair.P V v w) (fun b s hb hs => ?_) (w + 1) 0 s (by omega) hs
  unfold spec_BestPair.stepB
  by_cases e2 : b &&& v = 0
  ·rw [if_pos e2]
   by_cases g : V i b > s.2.2
   ·rw [if_pos g]; exact ⟨i, b, rfl, e, e2, by omega, by omega⟩
   ·rw [if_neg g]; exact hs
  ·rw [if_neg e2]; exact hs
 ·rw [if_neg e]; exact hs
theorem spec_BestPair.res_keep {V : Nat → Nat → Int} {v w : Nat} (h0 : V 0 0 = 0) (hw : w &&& v = 0) : ∃ a b : Nat, spec_BestPair.res V v w = ((a : Int), (b : Int), V a b, true) ∧ a &&& v = a ∧ b &&& v = 0 ∧ a ≤ v ∧ b ≤ w ∧ V v w ≤ V a b := by
 have start : spec_BestPair.P V v w (0, 0, 0) := ⟨0, 0, by rw [h0]; rfl, Nat.zero_and v, Nat.zero_and v, Nat.zero_le _, Nat.zero_le _⟩
 have hP := iter_keep (N := v + 1) (P := spec_BestPair.P V v w) (fun i s hi hs => spec_BestPair.stepA_keep i s hi hs) (v + 1) 0 (0, 0, 0) (by omega) start
 have hmax : V v w ≤ (iter (spec_BestPair.stepA V v w) 0 (v + 1) (0, 0, 0)).2.2 := by
  rw [iter_snoc, Nat.zero_add]
  generalize iter (spec_BestPair.stepA V v w) 0 v (0, 0, 0) = s
  unfold spec_BestPair.stepA
  rw [if_pos (Nat.and_self v), iter_snoc, Nat.zero_add]
  generalize iter (spec_BestPair.stepB V v v) 0 w s = s2
  unfold spec_BestPair.stepB
  rw [if_pos hw]
  by_cases g : V v w > s2.2.2
  ·rw [if_pos g]; exact Int.le_refl _
  ·rw [if_neg g]; omega
 obtain ⟨a, b, e, h1, h2, h3, h4⟩ := hP
 refine ⟨a, b, ?_, h1, h2, h3, h4, ?_⟩
 ·unfold spec_BestPair.res; rw [e]
 ·rw [e] at hmax; exact hmax
theorem spec_BestPair.val0 (n : Nat) : spec_PairBound.val n 0 0 = 0 := by
 unfold spec_PairBound.val spec_PairBound.bnd
 have e : pc 0 = 0 := by decide
 rw [e, if_pos (by rw [show ((0 : Nat) : Int) * ((0 : Nat) : Int) = 0 from rfl, w64 (by omega) (by omega)])]; rfl
theorem spec_BestPair.r_lt (a b : Int) : (spec_BestPair.r a b).1 ≤ 4294967296 ∧ (spec_BestPair.r a b).2.1 ≤ 4294967296 := by
 unfold spec_BestPair.r
 by_cases h : isT a b = true ∧ a ≤ 3
 ·rw [if_pos h]
  obtain ⟨n, v, rfl, rfl, hn, hv⟩ := isT_nat h.1
  rw [Int.toNat_natCast, Int.toNat_natCast]
  obtain ⟨x, y, e, h1, h2, h3, h4, h5⟩ := spec_BestPair.res_keep (spec_BestPair.val0 n) (notW_and hv)
  have h32 := full_lt hn
  have hw := notW_lt hv
  rw [e]
  constructor
  ·show (x : Int) ≤ _; omega
  ·show (y : Int) ≤ _; omega
 ·rw [if_neg h]; exact ⟨by decide, by decide⟩

theorem impl_BestPair.inner {n v w : Nat} (hn : n ≤ 5) (hv : v < 2 ^ 2 ^ n) (hw : w < 2 ^ 2 ^ n) (V : Nat → Nat → Int)
  (hV : ∀ a b : Nat, a < 2 ^ 2 ^ n → b < 2 ^ 2 ^ n → Ev (fun k => impl_bound.f k n a b) (V a b)) {a : Nat} (ha : a < 2 ^ 2 ^ n) (hs : a &&& v = a) (s : Int × Int × Int) {r : Int × Int × Int × Bool}
  (h : Ev (fun k => impl_BestPair.l0 k (iter (spec_BestPair.stepB V v a) 0 (w + 1) s).1 (iter (spec_BestPair.stepB V v a) 0 (w + 1) s).2.1 (iter (spec_BestPair.stepB V v a) 0 (w + 1) s).2.2 ((v + 1 : Nat) : Int) ((a + 1 : Nat) : Int) n v) r) :
  Ev (fun k => impl_BestPair.l1 k s.1 s.2.1 s.2.2 a ((v + 1 : Nat) : Int) a ((w + 1 : Nat) : Int) ((0 : Nat) : Int) n v) r := by
 have hf := full_p63 hn
 have h32 := full_lt hn
 have h0 := subset_iff.mp hs
 refine Ev.up (fun k s b => impl_BestPair.l1 k s.1 s.2.1 s.2.2 a ((v + 1 : Nat) : Int) a ((w + 1 : Nat) : Int) (b : Int) n v) (w + 1) (fun _ _ => True) (spec_BestPair.stepB V v a) r (fun _ _ _ _ => trivial) ?_ (w + 1) 0 s (by omega) trivial ?_
 ·intro b s hb _ hn2
  have hbb : b < 2 ^ 2 ^ n := by omega
  have hs1 : ∀ k, impl_BestPair.l1 (k + 1) s.1 s.2.1 s.2.2 a ((v + 1 : Nat) : Int) a ((w + 1 : Nat) : Int) (b : Int) n v = impl_BestPair.j2 k s.1 s.2.1 s.2.2 a b ((v + 1 : Nat) : Int) a ((w + 1 : Nat) : Int) (b : Int) (((b &&& v : Nat) : Int) != 0) n v := by
   intro k
   simp only [impl_BestPair.l1]
   rw [if_pos (by omega), andNot_nat (by omega) (by omega), h0, if_pos (show ((0 : Nat) : Int) = 0 from rfl), and_nat (by omega) (by omega)]
  have hs2 : ∀ k, impl_BestPair.j2 (k + 1) s.1 s.2.1 s.2.2 a b ((v + 1 : Nat) : Int) a ((w + 1 : Nat) : Int) (b : Int) (((b &&& v : Nat) : Int) != 0) n v = if b &&& v = 0 then (impl_bound.f k n a b).bind fun t => (if t > s.2.2 then impl_BestPair.l1 k a b t a ((v + 1 : Nat) : Int) a ((w + 1 : Nat) : Int) ((b + 1 : Nat) : Int) n v else impl_BestPair.l1 k s.1 s.2.1 s.2.2 a ((v + 1 : Nat) : Int) a ((w + 1 : Nat) : Int) ((b + 1 : Nat) : Int) n v) else impl_BestPair.l1 k s.1 s.2.1 s.2.2 a ((v + 1 : Nat) : Int) a ((w + 1 : Nat) : Int) ((b + 1 : Nat) : Int) n v := by
   intro k
   simp only [impl_BestPair.j2]
   rw [up1 (by omega)]
   by_cases e : b &&& v = 0
   ·rw [if_pos e, e, if_neg (show ¬ (((0 : Nat) : Int) != 0) = true from by decide)]
   ·rw [if_neg e, if_pos (bne_iff_ne.mpr (by omega))]
  refine Ev.step hs1 (Ev.step hs2 ?_)
  by_cases e : b &&& v = 0
  ·simp only [if_pos e]
   refine Ev.bind (hV a b ha hbb) ?_
   simp only [spec_BestPair.stepB, if_pos e] at hn2
   by_cases g : V a b > s.2.2
   ·simp only [if_pos g] at hn2 ⊢; exact hn2
   ·simp only [if_neg g] at hn2 ⊢; exact hn2
  ·simp only [if_neg e]
   simp only [spec_BestPair.stepB, if_neg e] at hn2
   exact hn2
 ·intro _
  refine Ev.step (fun k => ?_) h
  simp only [impl_BestPair.l1]
  rw [if_neg (by omega), up1 (by omega)]
theorem impl_BestPair.skip {n v w : Nat} (hn : n ≤ 5) (hv : v < 2 ^ 2 ^ n) (hw : w < 2 ^ 2 ^ n) {a : Nat} (ha : a < 2 ^ 2 ^ n) (hs : ¬ a &&& v = a) (s : Int × Int × Int) {r : Int × Int × Int × Bool}
  (h : Ev (fun k => impl_BestPair.l0 k s.1 s.2.1 s.2.2 ((v + 1 : Nat) : Int) ((a + 1 : Nat) : Int) n v) r) :
  Ev (fun k => impl_BestPair.l1 k s.1 s.2.1 s.2.2 a ((v + 1 : Nat) : Int) a ((w + 1 : Nat) : Int) ((0 : Nat) : Int) n v) r := by
 have hf := full_p63 hn
 have h32 := full_lt hn
 have h0 : ¬ andn a v = 0 := fun e => hs (subset_iff.mpr e)
 refine Ev.count (fun k b => impl_BestPair.l1 k s.1 s.2.1 s.2.2 a ((v + 1 : Nat) : Int) a ((w + 1 : Nat) : Int) (b : Int) n v) (w + 1) r ?_ ?_ (w + 1) 0 (by omega)
 ·intro b hb hn2
  refine Ev.step (f := fun k => impl_BestPair.j2 k s.1 s.2.1 s.2.2 a b ((v + 1 : Nat) : Int) a ((w + 1 : Nat) : Int) (b : Int) true n v) (fun k => ?_) (Ev.step (fun k => ?_) hn2)
  ·simp only [impl_BestPair.l1]
   rw [if_pos (by omega), andNot_nat (by omega) (by omega), if_neg (by omega)]
  ·simp only [impl_BestPair.j2]
   rw [if_pos trivial, up1 (by omega)]
 ·refine Ev.step (fun k => ?_) h
  simp only [impl_BestPair.l1]
  rw [if_neg (by omega), up1 (by omega)]
theorem impl_BestPair.loop {n v w : Nat} (hn : n ≤ 5) (hv : v < 2 ^ 2 ^ n) (hw : w = notW (2 ^ n) v) (V : Nat → Nat → Int)
  (hV : ∀ a b : Nat, a < 2 ^ 2 ^ n → b < 2 ^ 2 ^ n → Ev (fun k => impl_bound.f k n a b) (V a b)) :
  Ev (fun k => impl_BestPair.l0 k 0 0 0 ((v + 1 : Nat) : Int) 0 n v) (spec_BestPair.res V v w) := by
 have hf := full_p63 hn
 have h32 := full_lt hn
 have hwl : w < 2 ^ 2 ^ n := by rw [hw]; exact notW_lt hv
 have ew : ∀ W, (((W + 1 : Nat) : Int)) = (W : Int) + 1 := fun W => by omega
 refine Ev.up (fun k s a => impl_BestPair.l0 k s.1 s.2.1 s.2.2 ((v + 1 : Nat) : Int) (a : Int) n v) (v + 1) (fun _ _ => True) (spec_BestPair.stepA V v w) (spec_BestPair.res V v w) (fun _ _ _ _ => trivial) ?_ (v + 1) 0 (0, 0, 0) (by omega) trivial ?_
 ·intro a s ha _ hn2
  have h1 : ∀ k, impl_BestPair.l0 (k + 1) s.1 s.2.1 s.2.2 ((v + 1 : Nat) : Int) (a : Int) n v = impl_BestPair.l1 k s.1 s.2.1 s.2.2 a ((v + 1 : Nat) : Int) a ((w + 1 : Nat) : Int) ((0 : Nat) : Int) n v := by
   intro k
   simp only [impl_BestPair.l0]
   rw [if_pos (by omega), impl_Table_not.ev hn hv, Option.bind_some, ← hw]
   show impl_BestPair.l1 k s.1 s.2.1 s.2.2 a ((v + 1 : Nat) : Int) a (wrap64 ((w : Int) + 1)) 0 n v = _
   rw [up1 (by omega)]; rfl
  refine Ev.step h1 ?_
  by_cases e : a &&& v = a
  ·exact impl_BestPair.inner hn hv hwl V hV (by omega) e s (by simpa only [spec_BestPair.stepA, if_pos e] using hn2)
  ·exact impl_BestPair.skip hn hv hwl (by omega) e s (by simpa only [spec_BestPair.stepA, if_neg e] using hn2)
 ·intro _
  refine Ev.end (fun k => ?_)
  simp only [impl_BestPair.l0]
  rw [if_neg (by omega)]; rfl
theorem impl_BestPair.evr (a b : Int) : Ev (fun k => impl_BestPair.f k a b) (spec_BestPair.r a b) := by
 unfold spec_BestPair.r impl_BestPair.f
 refine Ev.bind (Ev.const (impl_isSmall.ev a b 3)) ?_
 cases ht : isT a b with
 | false =>
  rw [if_neg (by simp)]
  refine Ev.congr (fun q => if_neg (by simp)) ?_
  exact Ev.now _
 | true =>
  obtain ⟨n, v, rfl, rfl, hn, hv⟩ := isT_nat ht
  by_cases h : (n : Int) ≤ 3
  ·rw [if_pos ⟨rfl, h⟩, Int.toNat_natCast, Int.toNat_natCast]
   have h32 := full_lt hn
   refine Ev.congr (fun q => if_pos (by rw [decide_eq_true h]; rfl)) ?_
   refine Ev.congr (fun k => ?_) (impl_BestPair.loop hn hv rfl (spec_PairBound.val n) (fun a b ha hb => impl_bound.ev (by omega) ha hb))
   show impl_BestPair.l0 k 0 0 0 (wrap64 ((v : Int) + 1)) 0 n v = _
   rw [up1 (by omega)]
  ·rw [if_neg (fun e => h e.2)]
   refine Ev.congr (fun q => if_neg (by rw [decide_eq_false h]; simp)) ?_
   exact Ev.now _

theorem spec_DrawIsSeparated.okj (b : List Int) (hb : b.length ≤ 1048576) (i h : Int) (hi : 0 ≤ i) (x y u v : Int) (c : Bool) (hx : x ≤ 9223372036854775807) (hy : y ≤ 9223372036854775807) : Tot (fun k => spec_DrawIsSeparated.j0 k x y c b i h u v) (fun r => r.2.2.1 ≤ 9223372036854775807 ∧ r.2.2.2 ≤ 9223372036854775807) := by
 obtain ⟨q, i2, h2, e2, q1, q2, q3⟩ := spec_l1Below.ok b i h 17 hb hi (by decide) (by decide)
 obtain ⟨z, i3, h3, e3, z1, z2, z3⟩ := spec_l1Below.ok b i2 h2 16 hb q3 (by decide) (by decide)
 cases c with
 | true =>
  refine Tot.end (u, v, x, y) ⟨hx, hy⟩ (fun k => ?_)
  simp only [spec_DrawIsSeparated.j0]; rw [if_pos trivial]
 | false =>
  refine Tot.end (u, v, wrap64 (q - 1), z) ⟨?_, ?_⟩ (fun k => ?_)
  ·rw [w64 (by omega) (by omega)]; show q - 1 ≤ _; omega
  ·show z ≤ _; omega
  ·simp only [spec_DrawIsSeparated.j0]; rw [if_neg (by decide), e2, Option.bind_some, e3, Option.bind_some]
theorem spec_DrawIsSeparated.ok (b : List Int) (hb : b.length ≤ 1048576) : Tot (fun k => spec_DrawIsSeparated.f k b) (fun r => r.2.2.1 ≤ 9223372036854775807 ∧ r.2.2.2 ≤ 9223372036854775807) := by
 unfold spec_DrawIsSeparated.f
 refine Tot.bind (spec_l1New.ok b hb) (fun r hr => ?_)
 obtain ⟨r1, r2, r3⟩ := r
 obtain ⟨rfl, rfl⟩ := hr
 refine Tot.bind (spec_l22Small.ok r1 hb 0 r3 (Int.le_refl 0)) (fun s hs => ?_)
 obtain ⟨p1, p2⟩ := spec_BestPair.r_lt s.1 s.2.1
 refine Tot.bind (Tot.ev (P := fun t => t.1 ≤ 4294967296 ∧ t.2.1 ≤ 4294967296) (spec_BestPair.evr s.1 s.2.1) ⟨p1, p2⟩) (fun t ht => ?_)
 refine Tot.ite _ (fun _ => ?_) (fun _ => ?_)
 ·obtain ⟨x, i1, h1, e1, q1⟩ := spec_l1Once.ok r1 s.2.2.1 s.2.2.2 2 hb hs (by decide) (by decide)
  simp only [e1, Option.bind_some]
  exact spec_DrawIsSeparated.okj r1 hb i1 h1 q1 _ _ _ _ _ (by omega) (by omega)
 ·exact spec_DrawIsSeparated.okj r1 hb _ _ hs _ _ _ _ _ (by omega) (by omega)

def spec_CountOfSize.r (a s : Int) : Int := if (spec_SizesOf.r a).2 = true then ((cnt (fun j => rd (spec_SizesOf.r a).1 (j : Int) == s) (spec_SizesOf.r a).1.length : Nat) : Int) else -1
theorem spec_CountOfSize.ev (a s : Int) : Ev (fun k => spec_CountOfSize.f k a s) (spec_CountOfSize.r a s) := by
 have hlen := spec_SizesOf.len a
 have hs := spec_SizesOf.ev a
 unfold spec_CountOfSize.r
 generalize spec_SizesOf.r a = q at *
 obtain ⟨l, b⟩ := q
 simp only [] at hlen
 cases b with
 | false =>
  refine Ev.of_some (fun k => ?_)
  unfold spec_CountOfSize.f
  rw [hs]; rfl
 | true =>
  have key : ∀ d i, i + d = l.length → Ev (fun k => spec_CountOfSize.l0 k s l ((cnt (fun j => rd l (j : Int) == s) i : Nat) : Int) (i : Int)) ((cnt (fun j => rd l (j : Int) == s) l.length : Nat) : Int) := by
   refine Ev.count (fun k i => spec_CountOfSize.l0 k s l ((cnt (fun j => rd l (j : Int) == s) i : Nat) : Int) (i : Int)) l.length _ ?_ ?_
   ·intro i hi hn
    have hle := cnt_le (fun j => rd l (j : Int) == s) i
    refine Ev.step (fun k => ?_) hn
    simp only [spec_CountOfSize.l0]
    rw [if_pos (by omega), if_pos (by omega), cnt]
    by_cases e : rd l (i : Int) = s
    ·rw [if_pos e, beq_iff_eq.mpr e, w64 (by omega) (by omega), w64 (by omega) (by omega)]; rfl
    ·rw [if_neg e, beq_eq_false_iff_ne.mpr e, w64 (by omega) (by omega)]; rfl
   ·refine Ev.end (fun k => ?_)
    simp only [spec_CountOfSize.l0]
    rw [if_neg (by omega)]
  refine Ev.congr (fun k => ?_) (key l.length 0 (by omega))
  unfold spec_CountOfSize.f
  rw [hs]; rfl

theorem impl_CountOfSize.ev (a s : Int) : Ev (fun k => impl_CountOfSize.f k a s) (spec_CountOfSize.r a s) := by
 have hlen := spec_SizesOf.len a
 have hs := impl_SizesOf.ev a
 unfold spec_CountOfSize.r
 generalize spec_SizesOf.r a = q at *
 obtain ⟨l, b⟩ := q
 simp only [] at hlen
 cases b with
 | false =>
  refine Ev.of_some (fun k => ?_)
  unfold impl_CountOfSize.f
  rw [hs]; rfl
 | true =>
  have key : ∀ d i, i + d = l.length → Ev (fun k => impl_CountOfSize.l0 k s ((cnt (fun j => rd l (j : Int) == s) i : Nat) : Int) l (l.length : Int) (i : Int)) ((cnt (fun j => rd l (j : Int) == s) l.length : Nat) : Int) := by
   refine Ev.count (fun k i => impl_CountOfSize.l0 k s ((cnt (fun j => rd l (j : Int) == s) i : Nat) : Int) l (l.length : Int) (i : Int)) l.length _ ?_ ?_
   ·intro i hi hn
    have hle := cnt_le (fun j => rd l (j : Int) == s) i
    refine Ev.step (fun k => ?_) hn
    simp only [impl_CountOfSize.l0]
    rw [if_pos (by omega), if_pos (by omega), if_pos (by omega), cnt]
    by_cases e : rd l (i : Int) = s
    ·rw [if_pos e, beq_iff_eq.mpr e, w64 (by omega) (by omega), w64 (by omega) (by omega)]; rfl
    ·rw [if_neg e, beq_eq_false_iff_ne.mpr e, w64 (by omega) (by omega)]; rfl
   ·refine Ev.end (fun k => ?_)
    simp only [impl_CountOfSize.l0]
    rw [if_neg (by omega)]
  refine Ev.congr (fun k => ?_) (key l.length 0 (by omega))
  unfold impl_CountOfSize.f
  rw [hs]; rfl

theorem laws_FnSizes.same_ev (L : List Int) (hL : L.length ≤ 1000000) : Ev (fun q => laws_sameInts.f q L L) true := by
 refine Ev.congr (f := fun q => laws_sameInts.l0 q L L 0) (fun q => by unfold laws_sameInts.f; rw [if_pos rfl]) ?_
 exact Ev.count (fun q i => laws_sameInts.l0 q L L (i : Int)) L.length _ (fun i hi h => by
  refine Ev.step (fun q => ?_) h
  simp only [laws_sameInts.l0]
  rw [if_pos (by omega), if_pos (Int.natCast_nonneg i), if_pos (by omega), if_pos trivial, up1 (by omega)]) (Ev.end (fun q => by
  simp only [laws_sameInts.l0]
  rw [if_neg (by omega)])) L.length 0 (by omega)
def laws_FnSizes.vars (n v : Nat) : Nat → List Nat
 | 0 => []
 | i + 1 => if Go.Proofs.YtfoopehlmnejaaaGreatDoor.M.szDep n v i = true then laws_FnSizes.vars n v i ++ [i] else laws_FnSizes.vars n v i
theorem laws_FnSizes.vars_len (n v : Nat) : ∀ m, (laws_FnSizes.vars n v m).length = cnt (szDep n v) m
 | 0 => rfl
 | m + 1 => by
  have ih := laws_FnSizes.vars_len n v m
  rw [laws_FnSizes.vars, cnt]
  cases h : szDep n v m
  ·rw [if_neg (by decide), ih]; rfl
  ·rw [if_pos rfl, List.length_append, ih]; rfl
theorem laws_FnSizes.dep_ev {n v i : Nat} (hn : n ≤ 5) (hv : v < 2 ^ 2 ^ n) (hi : i < n) : impl_Table_depends.f (n : Int) (v : Int) (i : Int) = some (szDep n v i) := by
 have h32 := full_lt hn
 have e0 := impl_Table_restrict.ev (n := n) (v := v) (i := i) (b := 0) (by omega) hn (by omega) hi (by omega)
 have e1 := impl_Table_restrict.ev (n := n) (v := v) (i := i) (b := 1) (by omega) hn (by omega) hi (by omega)
 have e0 : impl_Table_restrict.f (n : Int) (v : Int) (i : Int) 0 = some (((n - 1 : Nat) : Int), ((rstW n v i 0 : Nat) : Int)) := e0
 have e1 : impl_Table_restrict.f (n : Int) (v : Int) (i : Int) 1 = some (((n - 1 : Nat) : Int), ((rstW n v i 1 : Nat) : Int)) := e1
 unfold impl_Table_depends.f szDep
 rw [e0, e1]
 simp only [Option.bind_some, beq_self_eq_true, Bool.not_true, Bool.false_or]
 congr 2
 rw [Bool.eq_iff_iff, beq_iff_eq, beq_iff_eq]; omega
theorem laws_FnSizes.vars_ev {n v : Nat} (hn : n ≤ 5) (hv : v < 2 ^ 2 ^ n) : Ev (fun k => impl_VariablesOf.f k (n : Int) (v : Int)) (ints (laws_FnSizes.vars n v n)) := by
 refine Ev.congr (f := fun k => impl_VariablesOf.l0 k (ints (laws_FnSizes.vars n v 0)) (n : Int) ((0 : Nat) : Int) (n : Int) (v : Int)) (fun k => by unfold impl_VariablesOf.f; rw [impl_IsTable.ev, isT_mk hn hv]; rfl) ?_
 refine Ev.count (fun k i => impl_VariablesOf.l0 k (ints (laws_FnSizes.vars n v i)) (n : Int) (i : Int) (n : Int) (v : Int)) n _ (fun i hi h => ?_) (Ev.end (fun k => ?_)) n 0 (by omega)
 ·have hd := laws_FnSizes.dep_ev hn hv hi
  have hl := laws_FnSizes.vars_len n v i
  have hc := cnt_le (szDep n v) i
  have hil := ints_length (laws_FnSizes.vars n v i)
  rw [laws_FnSizes.vars] at h
  refine Ev.step (fun k => ?_) h
  simp only [impl_VariablesOf.l0]
  rw [if_pos (by omega), hd, Option.bind_some, up1 (by omega)]
  cases szDep n v i
  ·rw [if_neg (by decide), if_neg (by decide)]
  ·rw [if_pos rfl, if_pos (by omega), if_pos rfl, ints_append]
 ·simp only [impl_VariablesOf.l0]
  rw [if_neg (by omega)]
theorem laws_FnSizes.edges_both (n a b : Int) : ∃ r, Ev (fun k => spec_EdgesBetween.f k n a b) r ∧ Ev (fun k => impl_EdgesBetween.f k n a b) r := by
 unfold spec_EdgesBetween.f impl_EdgesBetween.f
 rw [spec_l23Fine.ev, impl_areSets.ev]
 cases h : spec_l23Fine.is n a b with
 | false =>
  have h2 : decide (0 ≤ n ∧ n ≤ 4 ∧ 0 ≤ a ∧ a < ((2 ^ 2 ^ n.toNat : Nat) : Int) ∧ 0 ≤ b ∧ b < ((2 ^ 2 ^ n.toNat : Nat) : Int)) = false := h
  rw [h2]
  exact ⟨-1, Ev.now _, Ev.now _⟩
 | true =>
  have h2 : decide (0 ≤ n ∧ n ≤ 4 ∧ 0 ≤ a ∧ a < ((2 ^ 2 ^ n.toNat : Nat) : Int) ∧ 0 ≤ b ∧ b < ((2 ^ 2 ^ n.toNat : Nat) : Int)) = true := h
  rw [h2]
  obtain ⟨m, x, y, rfl, rfl, rfl, hm, hx, hy⟩ := spec_l23Fine.nat h
  have hf := full_p63 (n := m) (by omega)
  simp only [Option.bind_some, ↓reduceIte]
  exact ⟨((edgesN m x y : Nat) : Int), Ev.bind (spec_l23Edges.ev (n := m) (a := x) (b := y) (by omega) (by omega) (by omega)) (Ev.now _), Ev.bind (impl_edges.ev (n := m) (a := x) (b := y) (by omega) (by omega) (by omega)) (Ev.now _)⟩
theorem laws_FnSizes.pair_impl {m x y : Nat} (hm : m ≤ 4) (hx : x < 2 ^ 2 ^ m) (hy : y < 2 ^ 2 ^ m) : Ev (fun k => impl_PairBound.f k m x y) (spec_PairBound.val m x y) := by
 have hb := impl_bound.ev hm hx hy
 generalize spec_PairBound.val m x y = r at *
 have h : spec_l23Fine.is (m : Int) (x : Int) (y : Int) = true := decide_eq_true ⟨Int.natCast_nonneg _, by omega, Int.natCast_nonneg _, by rw [Int.toNat_natCast]; exact_mod_cast hx, Int.natCast_nonneg _, by rw [Int.toNat_natCast]; exact_mod_cast hy⟩
 have h2 : impl_areSets.f (m : Int) (x : Int) (y : Int) = some true := by rw [impl_areSets.ev]; exact congrArg some h
 clear h hx hy
 generalize (m : Int) = M1 at *
 generalize (x : Int) = X1 at *
 generalize (y : Int) = Y1 at *
 refine Ev.congr (f := fun k => (impl_bound.f k M1 X1 Y1).bind fun t => some t) (fun k => ?_) (Ev.bind hb (Ev.now r))
 show impl_PairBound.f k M1 X1 Y1 = (impl_bound.f k M1 X1 Y1).bind fun t => some t
 unfold impl_PairBound.f
 rw [h2, Option.bind_some, if_pos rfl]
theorem laws_FnSizes.pair_both (n a b : Int) : ∃ r, Ev (fun k => spec_PairBound.f k n a b) r ∧ Ev (fun k => impl_PairBound.f k n a b) r := by
 cases h : spec_l23Fine.is n a b with
 | false =>
  have h2 : decide (0 ≤ n ∧ n ≤ 4 ∧ 0 ≤ a ∧ a < ((2 ^ 2 ^ n.toNat : Nat) : Int) ∧ 0 ≤ b ∧ b < ((2 ^ 2 ^ n.toNat : Nat) : Int)) = false := h
  unfold spec_PairBound.f impl_PairBound.f
  rw [spec_l23Fine.ev, impl_areSets.ev, h, h2]
  exact ⟨-1, Ev.now _, Ev.now _⟩
 | true =>
  obtain ⟨m, x, y, rfl, rfl, rfl, hm, hx, hy⟩ := spec_l23Fine.nat h
  exact ⟨_, spec_PairBound.ev hm hx hy, laws_FnSizes.pair_impl hm hx hy⟩
theorem laws_FnSizes.tab_impl {n v : Nat} (hn : n ≤ 4) (hv : v < 2 ^ 2 ^ n) : Ev (fun k => impl_TableBound.f k (n : Int) (v : Int)) (spec_PairBound.val n v (notW (2 ^ n) v)) := by
 have hb := impl_bound.ev hn hv (notW_lt hv)
 generalize spec_PairBound.val n v (notW (2 ^ n) v) = r at *
 have h1 : impl_isSmall.f (n : Int) (v : Int) 4 = some true := by rw [impl_isSmall.ev, isT_mk (by omega) hv, decide_eq_true (show (n : Int) ≤ 4 by omega)]; rfl
 have h2 := impl_Table_not.ev (n := n) (by omega) hv
 generalize ((notW (2 ^ n) v : Nat) : Int) = W at *
 clear hv
 generalize (n : Int) = N1 at *
 generalize (v : Int) = V1 at *
 refine Ev.congr (f := fun k => (impl_bound.f k N1 V1 W).bind fun t => some t) (fun k => ?_) (Ev.bind hb (Ev.now r))
 show impl_TableBound.f k N1 V1 = (impl_bound.f k N1 V1 W).bind fun t => some t
 unfold impl_TableBound.f
 rw [h1, Option.bind_some, if_pos rfl, h2, Option.bind_some]
theorem laws_FnSizes.tab_both (a b : Int) : ∃ r, Ev (fun k => spec_TableBound.f k a b) r ∧ Ev (fun k => impl_TableBound.f k a b) r := by
 cases ht : isT a b with
 | false =>
  unfold spec_TableBound.f impl_TableBound.f
  rw [spec_IsTable.ev, impl_isSmall.ev, ht]
  refine ⟨-1, Ev.end (fun k => ?_), Ev.now _⟩
  simp only [Option.bind_some, Bool.false_eq_true, ↓reduceIte, spec_TableBound.j0]
 | true =>
  obtain ⟨n, v, rfl, rfl, hn, hv⟩ := isT_nat ht
  by_cases h4 : (n : Int) ≤ 4
  ·refine ⟨_, ?_, laws_FnSizes.tab_impl (by omega) hv⟩
   have hf := full_p63 (n := n) (by omega)
   have hw := notW_lt hv
   unfold spec_TableBound.f
   rw [spec_IsTable.ev, ht]
   refine Ev.step (fun k => ?_) (spec_PairBound.ev (m := n) (by omega) hv hw)
   have e : wrap64 (((2 ^ 2 ^ n : Nat) : Int) - 1 - (v : Int)) = ((notW (2 ^ n) v : Nat) : Int) := by
    rw [notW_is hv, w64 (by omega) (by omega)]; omega
   simp only [Option.bind_some, ↓reduceIte, spec_TableBound.j0]
   rw [if_neg (by simpa using h4), spec_l2Full.ev (by omega), Option.bind_some, e, Option.bind_fun_some]
  ·unfold spec_TableBound.f impl_TableBound.f
   rw [spec_IsTable.ev, impl_isSmall.ev, ht, decide_eq_false h4, decide_eq_true (show (n : Int) > 4 by omega)]
   refine ⟨-1, Ev.end (fun k => ?_), Ev.now _⟩
   simp only [Option.bind_some, ↓reduceIte, spec_TableBound.j0]
theorem laws_FnSizes.sep_both (a0 a1 b c : Int) (hb2 : b ≤ 9223372036854775807) (hc2 : c ≤ 9223372036854775807) : ∃ r, spec_IsSeparated.f a0 a1 b c = some r ∧ impl_IsSeparated.f a0 a1 b c = some r := by
 unfold spec_IsSeparated.f impl_IsSeparated.f
 rw [spec_IsTable.ev, impl_IsTable.ev]
 cases ht : isT a0 a1 with
 | false => exact ⟨false, rfl, rfl⟩
 | true =>
  obtain ⟨n, v, rfl, rfl, hn, hv⟩ := isT_nat ht
  have h5 := pow_le_5 hn
  have hf := full_p63 hn
  have hp := Nat.two_pow_pos (2 ^ n)
  simp only [Option.bind_some, if_true, spec_l2Full.ev hn, spec_l1In.ev, impl_Table_not.ev hn hv]
  by_cases hb : 0 ≤ b
  ·obtain ⟨x, rfl⟩ := nat_of hb
   by_cases hc : 0 ≤ c
   ·obtain ⟨y, rfl⟩ := nat_of hc
    rw [and_nat (by omega) (by omega), and_nat (by omega) (by omega), andNot_nat (by omega) (by omega), andNot_nat (by omega) (Nat.lt_of_lt_of_le (notW_lt hv) (by omega))]
    have s1 := subset_iff (a := x) (v := v)
    have s2 : andn y (notW (2 ^ n) v) = 0 ↔ y < 2 ^ 2 ^ n ∧ y &&& v = 0 := apart_iff (b := y) hv
    have s3 : x &&& v = x → x < 2 ^ 2 ^ n := fun e => by rw [← e]; exact Nat.lt_of_le_of_lt Nat.and_le_right hv
    generalize hP : 2 ^ 2 ^ n = P at *
    generalize notW (2 ^ n) v = u at *
    by_cases e1 : x &&& v = x
    ·have e2 := s1.mp e1
     have e3 := s3 e1
     by_cases e4 : y < P
     ·have e5 : (andn y (u) = 0) ↔ y &&& v = 0 := ⟨fun e => (s2.mp e).2, fun e => s2.mpr ⟨e4, e⟩⟩
      have i1 : ((x : Int)) ≤ (P : Int) - 1 := by omega
      have i2 : ((y : Int)) ≤ (P : Int) - 1 := by omega
      by_cases e6 : y &&& v = 0
      ·simp [e1, e2, i1, i2, e6, e5.mpr e6]
      ·have e7 := fun e => e6 (e5.mp e)
       have z1 : (((andn y u : Nat) : Int) == 0) = false := beq_eq_false_iff_ne.mpr (by omega)
       have z2 : (((y &&& v : Nat) : Int) == 0) = false := beq_eq_false_iff_ne.mpr (by omega)
       simp [e1, e2, i1, i2, z1, z2]
     ·have i1 : ((x : Int)) ≤ (P : Int) - 1 := by omega
      have i2 : ¬ ((y : Int)) ≤ (P : Int) - 1 := by omega
      have e7 : ¬ andn y u = 0 := fun e => e4 (s2.mp e).1
      simp [e1, e2, i1, i2, e7]
    ·have e2 : ¬ andn x v = 0 := fun e => e1 (s1.mpr e)
     have e3 : ¬ ((x &&& v : Nat) : Int) = (x : Int) := by omega
     by_cases i1 : ((x : Int)) ≤ (P : Int) - 1 <;> by_cases i2 : ((y : Int)) ≤ (P : Int) - 1 <;> simp [e1, e2, e3, i1, i2]
   ·generalize hP : 2 ^ 2 ^ n = P at *
    by_cases i1 : ((x : Int)) ≤ (P : Int) - 1 <;> simp [hc, i1]
  ·simp [hb]
theorem laws_FnSizes.sep_yes {n v x y : Nat} (hn : n ≤ 5) (hv : v < 2 ^ 2 ^ n) (h1 : x &&& v = x) (h2 : y &&& v = 0) (hx : x < 2 ^ 2 ^ n) (hy : y < 2 ^ 2 ^ n) : impl_IsSeparated.f (n : Int) (v : Int) (x : Int) (y : Int) = some true := by
 have h5 := pow_le_5 hn
 have hf := full_p63 hn
 have s1 := (subset_iff (a := x) (v := v)).mp h1
 have s2 : andn y (notW (2 ^ n) v) = 0 := (apart_iff (b := y) hv).mpr ⟨hy, h2⟩
 unfold impl_IsSeparated.f
 rw [impl_IsTable.ev, isT_mk hn hv, Option.bind_some, if_pos rfl, if_pos (Int.natCast_nonneg x), if_pos (Int.natCast_nonneg y), andNot_nat (by omega) (by omega), s1, if_pos (show ((0 : Nat) : Int) = 0 from rfl), impl_Table_not.ev hn hv, Option.bind_some, andNot_nat (by omega) (Nat.lt_of_lt_of_le (notW_lt hv) (by omega)), s2]
 rfl
theorem laws_FnSizes.val_le {n v a b : Nat} (hn : n ≤ 3) (hv : v < 2 ^ 2 ^ n) (ha : a &&& v = a) (hb : b &&& v = 0) (hl : b < 2 ^ 2 ^ n - v) : spec_PairBound.val n a b ≤ ((szT n v : Nat) : Int) := by
 have hk := kr_bound hn (show v < szN n from hv) ha hb (show b < szN n - v from hl)
 have hle : a ≤ v := by rw [← ha]; exact Nat.and_le_right
 rw [cnt_pc (by omega) (by omega), cnt_pc (by omega) (by omega)] at hk
 have hs := szT_le hn (show v < szN n from hv)
 have hx : pc a ≤ 32 := cnt_le a.testBit 32
 have hy : pc b ≤ 32 := cnt_le b.testBit 32
 unfold spec_PairBound.val spec_PairBound.bnd
 generalize edgesN n a b = e at *
 generalize szT n v = s at *
 have hd : pc a * pc b ≤ 1024 := Nat.mul_le_mul hx hy
 have e1 : ((pc a : Nat) : Int) * ((pc b : Nat) : Int) = ((pc a * pc b : Nat) : Int) := by push_cast; rfl
 have e2 : ((e : Nat) : Int) * ((e : Nat) : Int) = ((e * e : Nat) : Int) := by push_cast; rfl
 rw [e1, e2]
 generalize pc a * pc b = d at *
 have hsd : s * d ≤ 10 * 1024 := Nat.mul_le_mul hs hd
 generalize hE : e * e = E at *
 rw [w64 (x := (d : Int)) (by omega) (by omega)]
 by_cases hz : (d : Int) = 0
 ·rw [if_pos hz]; show (0 : Int) ≤ _; omega
 ·rw [if_neg hz, w64 (x := (E : Int)) (by omega) (by omega), w64 (x := (E : Int) + (d : Int)) (by omega) (by omega), w64 (x := (E : Int) + (d : Int) - 1) (by omega) (by omega)]
  have hdp : 0 < d := by omega
  have hq := div_up hdp hk
  have e3 : Int.tdiv ((E : Int) + (d : Int) - 1) (d : Int) = (((E + d - 1) / d : Nat) : Int) := by
   rw [show (E : Int) + (d : Int) - 1 = ((E + d - 1 : Nat) : Int) by omega]
   exact (Int.ofNat_tdiv _ _).symm
  obtain ⟨Q, hQ⟩ : ∃ Q, Q = (E + d - 1) / d := ⟨_, rfl⟩
  rw [← hQ] at hq e3
  rw [e3]
  clear e3 hQ
  rw [w64 (by omega) (by omega)]
  show (Q : Int) ≤ _
  omega
theorem laws_FnSizes.size_ev {n v : Nat} (hn : n ≤ 3) (hv : v < 2 ^ 2 ^ n) : spec_FormulaSize.r (n : Int) (v : Int) = ((szT n v : Nat) : Int) := by
 unfold spec_FormulaSize.r
 rw [if_pos ⟨isT_mk (by omega) hv, by omega⟩, Int.toNat_natCast, rd_szL hv]
theorem laws_FnSizes.const_ev {n v : Nat} (hn : n ≤ 3) (hv : v < 2 ^ 2 ^ n) : impl_IsConstant.f (n : Int) (v : Int) = some (decide (v = 0) || decide (v + 1 = szN n)) := by
 unfold impl_IsConstant.f
 rw [impl_IsTable.ev, isT_mk (by omega) hv, Option.bind_some, if_pos rfl, impl_Table_smallest.same hn hv]; rfl
theorem laws_FnSizes.j2_ev (l : List Int) (hb : l.length ≤ 1048576) : Ev (fun k => laws_FnSizes.j2 k l false) true := by
 obtain ⟨⟨a1, a2⟩, _, hA⟩ := spec_DrawCountOfSize.ok l hb
 obtain ⟨⟨b1, b2, b3⟩, _, hB⟩ := spec_DrawEdgesBetween.ok l hb
 obtain ⟨⟨c1, c2, c3⟩, _, hC⟩ := spec_DrawPairBound.ok l hb
 obtain ⟨⟨d1, d2⟩, _, hD⟩ := spec_DrawTableBound.ok l hb
 obtain ⟨⟨e1, e2⟩, _, hE⟩ := spec_DrawBestPair.ok l hb
 obtain ⟨⟨f1, f2, f3, f4⟩, ⟨hf3, hf4⟩, hF⟩ := spec_DrawIsSeparated.ok l hb
 have hA1 := impl_CountOfSize.ev a1 a2
 have hA2 := spec_CountOfSize.ev a1 a2
 obtain ⟨rb, hB2, hB1⟩ := laws_FnSizes.edges_both b1 b2 b3
 obtain ⟨rc, hC2, hC1⟩ := laws_FnSizes.pair_both c1 c2 c3
 obtain ⟨rdd, hD2, hD1⟩ := laws_FnSizes.tab_both d1 d2
 have hE1 := impl_BestPair.evr e1 e2
 have hE2 := spec_BestPair.evr e1 e2
 obtain ⟨rf, hF2, hF1⟩ := laws_FnSizes.sep_both f1 f2 f3 f4 hf3 hf4
 generalize spec_CountOfSize.r a1 a2 = ra at *
 generalize spec_BestPair.r e1 e2 = re at *
 obtain ⟨K1, k1⟩ := hA
 obtain ⟨K2, k2⟩ := hB
 obtain ⟨K3, k3⟩ := hC
 obtain ⟨K4, k4⟩ := hD
 obtain ⟨K5, k5⟩ := hE
 obtain ⟨K6, k6⟩ := hF
 obtain ⟨K7, k7⟩ := hA1
 obtain ⟨K8, k8⟩ := hA2
 obtain ⟨K9, k9⟩ := hB1
 obtain ⟨L1, l1⟩ := hB2
 obtain ⟨L2, l2⟩ := hC1
 obtain ⟨L3, l3⟩ := hC2
 obtain ⟨L4, l4⟩ := hD1
 obtain ⟨L5, l5⟩ := hD2
 obtain ⟨L6, l6⟩ := hE1
 obtain ⟨L7, l7⟩ := hE2
 refine Ev.since (K1 + K2 + K3 + K4 + K5 + K6 + K7 + K8 + K9 + L1 + L2 + L3 + L4 + L5 + L6 + L7 + 1) fun q' hq' => ?_
 obtain ⟨p, rfl⟩ : ∃ p, q' = p + 1 := ⟨q' - 1, by omega⟩
 replace k1 := k1 p (by omega)
 replace k2 := k2 p (by omega)
 replace k3 := k3 p (by omega)
 replace k4 := k4 p (by omega)
 replace k5 := k5 p (by omega)
 replace k6 := k6 p (by omega)
 replace k7 := k7 p (by omega)
 replace k8 := k8 p (by omega)
 replace k9 := k9 p (by omega)
 replace l1 := l1 p (by omega)
 replace l2 := l2 p (by omega)
 replace l3 := l3 p (by omega)
 replace l4 := l4 p (by omega)
 replace l5 := l5 p (by omega)
 replace l6 := l6 p (by omega)
 replace l7 := l7 p (by omega)
 simp only [laws_FnSizes.j2, k1, k2, k3, k4, k5, k6, k7, k8, k9, l1, l2, l3, l4, l5, l6, l7, hF1, hF2, Option.bind_some, Bool.false_eq_true, ↓reduceIte, beq_self_eq_true]
theorem laws_FnSizes.j1_ev (l : List Int) (hb : l.length ≤ 1048576) : Ev (fun k => laws_FnSizes.j1 k l) true := by
 obtain ⟨a, _, hA⟩ := spec_DrawSizesOf.ok l hb
 have h1 := impl_SizesOf.ev a
 have h2 := spec_SizesOf.ev a
 have h3 := laws_FnSizes.same_ev (spec_SizesOf.r a).1 (Nat.le_trans (spec_SizesOf.len a) (by decide))
 have h4 := impl_LargestSize.ev a
 have h5 := spec_LargestSize.ev a
 have h6 := laws_FnSizes.j2_ev l hb
 generalize spec_SizesOf.r a = R at *
 generalize spec_LargestSize.r a = S at *
 obtain ⟨K1, k1⟩ := hA
 obtain ⟨K2, k2⟩ := h3
 obtain ⟨K3, k3⟩ := h5
 obtain ⟨K4, k4⟩ := h6
 refine Ev.since (K1 + K2 + K3 + K4 + 1) fun q' hq' => ?_
 obtain ⟨p, rfl⟩ : ∃ p, q' = p + 1 := ⟨q' - 1, by omega⟩
 replace k1 := k1 p (by omega)
 replace k2 := k2 p (by omega)
 replace k3 := k3 p (by omega)
 replace k4 := k4 p (by omega)
 simp only [laws_FnSizes.j1, k1, k2, k3, h1, h2, h4, Option.bind_some, ↓reduceIte, bne_self_eq_false, Bool.false_eq_true]
 exact k4
theorem laws_FnSizes.j0_ev (l : List Int) (hb : l.length ≤ 1048576) (a b : Int) : Ev (fun k => laws_FnSizes.j0 k l (spec_SmallestFormula.r a b).2 (spec_SmallestFormula.r a b).1 (spec_FormulaSize.r a b) false a b) true := by
 have h1 := laws_FnSizes.j1_ev l hb
 unfold spec_SmallestFormula.r
 by_cases ht : isT a b = true ∧ a ≤ 3
 ·rw [if_pos ht]
  obtain ⟨ht, h3⟩ := ht
  obtain ⟨n, v, rfl, rfl, hn, hv⟩ := isT_nat ht
  have hn3 : n ≤ 3 := by omega
  have hf := full_p63 hn
  have h32 := full_lt hn
  have hw := notW_lt hv
  rw [laws_FnSizes.size_ev hn3 hv, Int.toNat_natCast, Int.toNat_natCast]
  obtain ⟨T, t1, t2, t3⟩ := smT_read hn3 (show v < szN n from hv) (k := 12) (by omega)
  have hT : impl_TableOfFormula.f (smT n 12 v) (n : Int) = some ((n : Int), ((v : Nat) : Int), true) := by
   unfold impl_TableOfFormula.f
   rw [if_pos ⟨by omega, by omega⟩, t1, Option.bind_some, Int.toNat_natCast, t2]; rfl
  have hL : impl_LeavesOf.f (smT n 12 v) = some ((max 1 (szT n v) : Nat) : Int) := by
   unfold impl_LeavesOf.f
   rw [t1, ← t3]
  obtain ⟨x, y, e1, e2, e3, e4, e5, e6⟩ := spec_BestPair.res_keep (w := notW (2 ^ n) v) (spec_BestPair.val0 n) (notW_and hv)
  have hB := impl_BestPair.evr (n : Int) (v : Int)
  have hr : spec_BestPair.r (n : Int) (v : Int) = ((x : Int), (y : Int), spec_PairBound.val n x y, true) := by
   unfold spec_BestPair.r
   rw [if_pos ⟨ht, h3⟩, Int.toNat_natCast, Int.toNat_natCast, e1]
  rw [hr] at hB
  have hN : spec_NotTable.f (n : Int) (v : Int) = some ((n : Int), ((v ^^^ (szN n - 1) : Nat) : Int), true) := by
   unfold spec_NotTable.f
   rw [spec_IsTable.ev, ht, Option.bind_some, if_pos rfl, spec_l2Full.ev hn, Option.bind_some]
   have e : wrap64 (((2 ^ 2 ^ n : Nat) : Int) - 1 - (v : Int)) = ((notW (2 ^ n) v : Nat) : Int) := by
    rw [notW_is hv, w64 (by omega) (by omega)]; omega
   rw [e]; rfl
  have hC := laws_FnSizes.const_ev hn3 hv
  have hV := laws_FnSizes.vars_ev hn hv
  have hVl : (ints (laws_FnSizes.vars n v n)).length ≤ szT n v := by
   rw [ints_length, laws_FnSizes.vars_len]
   exact szT_dep hn3 hv
  have hTB := laws_FnSizes.tab_impl (n := n) (by omega) hv
  have hx : x < 2 ^ 2 ^ n := by omega
  have hy : y < 2 ^ 2 ^ n := by omega
  have hS := laws_FnSizes.sep_yes hn hv e2 e3 hx hy
  have hP := laws_FnSizes.pair_impl (m := n) (by omega) hx hy
  have hle := laws_FnSizes.val_le hn3 hv e2 e3 (by have := notW_is hv; omega)
  have hF : impl_FormulaSize.f (n : Int) ((v ^^^ (szN n - 1) : Nat) : Int) = some ((szT n v : Nat) : Int) := by
   rw [impl_FormulaSize.ev, laws_FnSizes.size_ev hn3 (show v ^^^ (szN n - 1) < 2 ^ 2 ^ n from hw), szT_not hn3 hv]
  have hpos : ¬ (v = 0 ∨ v + 1 = szN n) → szT n v ≠ 0 := fun h e => h ((szT_zero hn3 (show v < szN n from hv)).mp e)
  generalize spec_PairBound.val n x y = B at *
  generalize spec_PairBound.val n v (notW (2 ^ n) v) = C at *
  generalize ints (laws_FnSizes.vars n v n) = VV at *
  generalize szT n v = s at *
  generalize smT n 12 v = S at *
  generalize v ^^^ (szN n - 1) = u at *
  obtain ⟨K1, k1⟩ := hB
  obtain ⟨K2, k2⟩ := hV
  obtain ⟨K3, k3⟩ := hTB
  obtain ⟨K4, k4⟩ := hP
  obtain ⟨K5, k5⟩ := h1
  refine Ev.since (K1 + K2 + K3 + K4 + K5 + 1) fun p' hp' => ?_
  obtain ⟨p, rfl⟩ : ∃ p, p' = p + 1 := ⟨p' - 1, by omega⟩
  replace k1 := k1 p (by omega)
  replace k2 := k2 p (by omega)
  replace k3 := k3 p (by omega)
  replace k4 := k4 p (by omega)
  replace k5 := k5 p (by omega)
  have n1 : ¬ ((s : Nat) : Int) < (VV.length : Int) := by omega
  have n2 : ¬ B > ((s : Nat) : Int) := by omega
  have n3 : ¬ C > B := by omega
  by_cases hc : v = 0 ∨ v + 1 = szN n
  ·have hC2 : impl_IsConstant.f (n : Int) (v : Int) = some true := by
    rw [hC]
    rcases hc with h | h
    ·rw [decide_eq_true h]; rfl
    ·rw [decide_eq_true h, Bool.or_true]
   clear hC
   simp only [laws_FnSizes.j0, hT, hN, hC2, hS, hF, k1, k2, k3, k4, n1, n2, n3, bsm, Bool.false_eq_true, ↓reduceIte, beq_self_eq_true, Bool.not_true, Bool.or_self]
   exact k5
  ·have hC2 : impl_IsConstant.f (n : Int) (v : Int) = some false := by
    rw [hC, decide_eq_false (fun e => hc (.inl e)), decide_eq_false (fun e => hc (.inr e))]; rfl
   have hs0 := hpos hc
   have hL2 : impl_LeavesOf.f S = some ((s : Nat) : Int) := by rw [hL, Nat.max_eq_right (by omega)]
   clear hC hL
   simp only [laws_FnSizes.j0, hT, hN, hC2, hL2, hS, hF, k1, k2, k3, k4, n1, n2, n3, bsm, Bool.false_eq_true, ↓reduceIte, beq_self_eq_true, Bool.not_true, Bool.or_self]
   exact k5
 ·rw [if_neg ht]
  refine Ev.step (fun k => ?_) h1
  simp only [laws_FnSizes.j0, Bool.false_eq_true, ↓reduceIte]
theorem laws_FnSizes.pure_ : laws_FnSizes.Pure := by
 intro l hl _ _
 by_cases hb : l.length ≤ 1048576
 ·obtain ⟨⟨a, b⟩, _, hD⟩ := spec_DrawSmallestFormula.ok l hb
  have h1 := impl_SmallestFormula.ev a b
  have h2 := spec_SmallestFormula.ev a b
  have h3 := impl_FormulaSize.ev a b
  have h4 := spec_FormulaSize.ev a b
  have h5 := laws_FnSizes.j0_ev l hb a b
  have hbig : laws_big.f l = some false := by
   unfold laws_big.f
   rw [decide_eq_false (by omega)]
  generalize spec_SmallestFormula.r a b = R at *
  generalize spec_FormulaSize.r a b = s at *
  obtain ⟨K1, k1⟩ := hD
  obtain ⟨K2, k2⟩ := h1
  obtain ⟨K3, k3⟩ := h2
  obtain ⟨K4, k4⟩ := h5
  refine ⟨K1 + K2 + K3 + K4, ?_⟩
  replace k1 := k1 (K1 + K2 + K3 + K4) (by omega)
  replace k2 := k2 (K1 + K2 + K3 + K4) (by omega)
  replace k3 := k3 (K1 + K2 + K3 + K4) (by omega)
  replace k4 := k4 (K1 + K2 + K3 + K4) (by omega)
  simp only [laws_FnSizes.f, hbig, k1, k2, k3, h3, h4, Option.bind_some, Bool.false_eq_true, ↓reduceIte, bne_self_eq_false]
  exact k4
 ·refine ⟨0, ?_⟩
  have hbig : laws_big.f l = some true := by
   unfold laws_big.f
   rw [decide_eq_true (by omega)]
  simp only [laws_FnSizes.f, hbig, Option.bind_some, ↓reduceIte]

end Go.Proofs.YtfoopehlmnejaaaGreatDoor.Print
