/- Functions of the given program as plain Lean functions, with proofs that their calls compute them, or lemmas on these. Laid by a program of this repo for the seat Ythekbiofjhkecaa; Lean checks it. -/
import Derived.Test.YthekbiofjhkecaaKRandom1
import Derived.Test.YthekbiofjhkecaaKRandom24
import Derived.Test.YthekbiofjhkecaaKRandom8
import Derived.Test.YthekbiofjhkecaaKRandom25
import Derived.Test.YthekbiofjhkecaaKRandom27
import Derived.Test.YthekbiofjhkecaaM23
namespace Go.Proofs.Ythekbiofjhkecaa.Print
open Go.RowKit Go.Proofs.YthekbiofjhkecaaW.PrintWords Go.Proofs.YthekbiofjhkecaaW.PrintLast Go.Proofs.YthekbiofjhkecaaW.PrintMore
attribute [local go_sem] max2_int min2_int max_two min_two max_three min_three max_four min_four   -- for this text's walks alone
set_option linter.unusedVariables false
set_option linter.unusedSimpArgs false

/-! ### facts on spec_l1New -/
--IMPORT M14
open Go.Proofs.Ythekbiofjhkecaa.M in
theorem spec_l1New.ok (b : List Int) (hb : b.length ≤ 1048576) : Tot (fun k => spec_l1New.f k b) (fun r => r.1 = b ∧ r.2.1 = 0) := by
  unfold spec_l1New.f
  refine Tot.up (S := Int) (fun i s k => spec_l1New.l0 k b s (i : Int)) b.length (fun _ _ => True) ?_ ?_ b.length 0 _ (by omega) trivial
  · intro i s hi _ hn
    by_cases h4 : (i : Int) < 4000
    · refine Tot.step (fun k => ?_) (hn (Go.bits .and .i64 (wrap64 ((wrap64 ((wrap64 (s * 131)) + (wrap64 (rd b i)))) + 7)) 1073741823) trivial)
      simp only [spec_l1New.l0]
      rw [if_pos (Int.ofNat_lt.mpr hi), if_pos h4, if_pos (Int.natCast_nonneg i), up1 (by omega)]
    · refine Tot.end (b, 0, s) ⟨rfl, rfl⟩ (fun k => ?_)
      simp only [spec_l1New.l0]
      rw [if_pos (Int.ofNat_lt.mpr hi), if_neg h4]
  · intro s _
    refine Tot.end (b, 0, s) ⟨rfl, rfl⟩ (fun k => ?_)
    simp only [spec_l1New.l0]
    rw [if_neg (by omega)]

/-! ### facts on spec_l1Byte -/
--IMPORT M14
open Go.Proofs.Ythekbiofjhkecaa.M in
theorem spec_l1Byte.ok (b : List Int) (i h : Int) (hb : b.length ≤ 1048576) (hi : 0 ≤ i) : ∃ x i' h', spec_l1Byte.f b i h = some (x, i', h') ∧ 0 ≤ x ∧ x ≤ 255 ∧ 0 ≤ i' := by
  unfold spec_l1Byte.f
  by_cases hc : i < (b.length : Int)
  · rw [if_pos hc, if_pos hi, w64 (x := i + 1) (by omega) (by omega)]
    exact ⟨_, _, _, rfl, (and_255 _).1, (and_255 _).2, by omega⟩
  · rw [if_neg hc]
    exact ⟨_, _, _, rfl, (and_255 _).1, (and_255 _).2, hi⟩

/-! ### facts on spec_l1Below -/
--IMPORT M14
open Go.Proofs.Ythekbiofjhkecaa.M in
/-- a number below n -/
theorem spec_l1Below.ok (b : List Int) (i h n : Int) (hb : b.length ≤ 1048576) (hi : 0 ≤ i) (h1 : 1 ≤ n) (h2 : n ≤ 256) : ∃ x i' h', spec_l1Below.f b i h n = some (x, i', h') ∧ 0 ≤ x ∧ x < n ∧ 0 ≤ i' := by
  obtain ⟨x, i', h', e, e1, e2, e3⟩ := spec_l1Byte.ok b i h hb hi
  unfold spec_l1Below.f
  rw [if_neg (by omega), if_pos h2, e, Option.bind_some, if_neg (by omega)]
  exact ⟨_, _, _, rfl, Int.tmod_nonneg n e1, Int.tmod_lt_of_pos x (by omega), e3⟩

/-! ### facts on spec_l2Count -/
--IMPORT M1
open Go.Proofs.Ythekbiofjhkecaa.M in
theorem spec_l2Count.loop : ∀ (d w acc : Nat), w < 2 ^ d → d ≤ 62 → acc + d ≤ 1000 → Ev (fun k => spec_l2Count.l0 k acc w) ((acc + cnt w.testBit d : Nat) : Int)
  | 0, w, acc, hw, _, ha => by
    obtain rfl : w = 0 := by omega
    refine Ev.end (fun k => ?_)
    simp only [spec_l2Count.l0]
    rw [if_neg (by omega)]; rfl
  | d + 1, w, acc, hw, hd, ha => by
    by_cases h0 : w = 0
    · subst h0
      refine Ev.end (fun k => ?_)
      simp only [spec_l2Count.l0]
      rw [if_neg (by omega), cnt_zero]; rfl
    · have h := spec_l2Count.loop d (w / 2) (acc + w % 2) (by rw [Nat.pow_succ] at hw; omega) (by omega) (by omega)
      rw [show acc + w % 2 + cnt (w / 2).testBit d = acc + cnt w.testBit (d + 1) by rw [cnt_half]; omega] at h
      refine Ev.step (fun k => ?_) h
      have hp := p63 (n := d + 1) hd
      simp only [spec_l2Count.l0]
      rw [if_pos (by omega)]
      have e1 : Go.bits .and .i64 (w : Int) 1 = ((w % 2 : Nat) : Int) := by
        rw [← Nat.and_one_is_mod]; exact and_nat (b := 1) (by omega) (by decide)
      rw [e1, w64 (by omega) (by omega)]
      congr 1
open Go.Proofs.Ythekbiofjhkecaa.M in
theorem spec_l2Count.ev {w : Nat} (h : w < 2 ^ 32) : Ev (fun k => spec_l2Count.f k w) ((pc w : Nat) : Int) := by
  have := spec_l2Count.loop 32 w 0 h (by omega) (by omega)
  rw [Nat.zero_add] at this
  exact this

/-! ### facts on spec_l2Full -/
--IMPORT M0
open Go.Proofs.Ythekbiofjhkecaa.M in
theorem spec_l2Full.ev {n : Nat} (h : n ≤ 5) : spec_l2Full.f n = some (((2 ^ 2 ^ n : Nat) : Int) - 1) := by
  unfold spec_l2Full.f
  rw [if_pos (Int.natCast_nonneg n), full_word h]

/-! ### facts on spec_l2Draw -/
--IMPORT M14
--IMPORT M1
open Go.Proofs.Ythekbiofjhkecaa.M in
/-- the end of all its ways -/
theorem spec_l2Draw.fin {n : Nat} (hn : n ≤ 4) (x i h : Int) : ∃ W, (if (n : Int) = 0 then ((spec_l2Full.f (n : Int)).bind fun t => (some ((n : Int), Go.bits .and .i64 (Go.bits .and .i64 x 1) t, i, h))) else ((spec_l2Full.f (n : Int)).bind fun t => (some ((n : Int), Go.bits .and .i64 x t, i, h)))) = some ((n : Int), W, i, h) := by
  rw [spec_l2Full.ev (by omega)]
  by_cases e : (n : Int) = 0
  · rw [if_pos e]; exact ⟨_, rfl⟩
  · rw [if_neg e]; exact ⟨_, rfl⟩
open Go.Proofs.Ythekbiofjhkecaa.M in
theorem spec_l2Draw.pow_le {n : Nat} (hn : n ≤ 4) : 2 ^ n ≤ 16 := Nat.pow_le_pow_right (n := 2) (by decide) hn
open Go.Proofs.Ythekbiofjhkecaa.M in
theorem spec_l2Draw.ok0 (b : List Int) (i h : Int) (hi : 0 ≤ i) {n : Nat} (hn : n ≤ 4) (x : Int) : Tot (fun k => spec_l2Draw.l0 k n x 0 b i h) (fun r => r.1 = (n : Int) ∧ 0 ≤ r.2.2.1) := by
  have h16 := spec_l2Draw.pow_le hn
  have hn0 : (0 : Int) ≤ (n : Int) := Int.natCast_nonneg n
  have hs := shl_one (n := n) (by omega)
  refine Tot.up (S := Int) (fun j s k => spec_l2Draw.l0 k n s (j : Int) b i h) (2 ^ n) (fun _ _ => True) ?_ ?_ (2 ^ n) 0 x (by omega) trivial
  · intro j s hj _ hnx
    have hlt : (j : Int) < ((2 ^ n : Nat) : Int) := Int.ofNat_lt.mpr hj
    have hj0 : (0 : Int) ≤ (j : Int) := Int.natCast_nonneg j
    have hu := up1 (x := j) (by omega)
    refine Tot.step (f := fun k => (spec_l2Count.f k j).bind fun t => if wrap64 (2 * t) > (n : Int) then spec_l2Draw.l0 k n (Go.bits .or .i64 s (shl .i64 1 (j : Int))) ((j + 1 : Nat) : Int) b i h else spec_l2Draw.l0 k n s ((j + 1 : Nat) : Int) b i h) (fun k => ?_) (Tot.bind (Tot.ev (P := fun _ => True) (spec_l2Count.ev (w := j) (by omega)) trivial) (fun t _ => Tot.ite _ (fun _ => hnx _ trivial) (fun _ => hnx _ trivial)))
    simp only [spec_l2Draw.l0, hs, hn0, hlt, hj0, hu, ↓reduceIte]
  · intro s _
    obtain ⟨W, hW⟩ := spec_l2Draw.fin hn s i h
    refine Tot.end ((n : Int), W, i, h) ⟨rfl, hi⟩ (fun k => ?_)
    · simp only [spec_l2Draw.l0, hs, hn0, Int.lt_irrefl, ↓reduceIte]
      exact hW
open Go.Proofs.Ythekbiofjhkecaa.M in
theorem spec_l2Draw.ok1 (b : List Int) (i h : Int) (hi : 0 ≤ i) {n : Nat} (hn : n ≤ 4) (x : Int) : Tot (fun k => spec_l2Draw.l1 k n x 0 b i h) (fun r => r.1 = (n : Int) ∧ 0 ≤ r.2.2.1) := by
  have h16 := spec_l2Draw.pow_le hn
  have hn0 : (0 : Int) ≤ (n : Int) := Int.natCast_nonneg n
  have hs := shl_one (n := n) (by omega)
  refine Tot.up (S := Int) (fun j s k => spec_l2Draw.l1 k n s (j : Int) b i h) (2 ^ n) (fun _ _ => True) ?_ ?_ (2 ^ n) 0 x (by omega) trivial
  · intro j s hj _ hnx
    have hlt : (j : Int) < ((2 ^ n : Nat) : Int) := Int.ofNat_lt.mpr hj
    have hj0 : (0 : Int) ≤ (j : Int) := Int.natCast_nonneg j
    have hu := up1 (x := j) (by omega)
    refine Tot.step (f := fun k => (spec_l2Count.f k j).bind fun t => if Int.tmod t 2 = 1 then spec_l2Draw.l1 k n (Go.bits .or .i64 s (shl .i64 1 (j : Int))) ((j + 1 : Nat) : Int) b i h else spec_l2Draw.l1 k n s ((j + 1 : Nat) : Int) b i h) (fun k => ?_) (Tot.bind (Tot.ev (P := fun _ => True) (spec_l2Count.ev (w := j) (by omega)) trivial) (fun t _ => Tot.ite _ (fun _ => hnx _ trivial) (fun _ => hnx _ trivial)))
    simp only [spec_l2Draw.l1, hs, hn0, hlt, hj0, hu, ↓reduceIte]
  · intro s _
    obtain ⟨W, hW⟩ := spec_l2Draw.fin hn s i h
    refine Tot.end ((n : Int), W, i, h) ⟨rfl, hi⟩ (fun k => ?_)
    · simp only [spec_l2Draw.l1, hs, hn0, Int.lt_irrefl, ↓reduceIte]
      exact hW
open Go.Proofs.Ythekbiofjhkecaa.M in
theorem spec_l2Draw.ok2 (b : List Int) (i h y : Int) (hi : 0 ≤ i) {n : Nat} (hn : n ≤ 4) (x : Int) : Tot (fun k => spec_l2Draw.l2 k n x y 0 b i h) (fun r => r.1 = (n : Int) ∧ 0 ≤ r.2.2.1) := by
  have h16 := spec_l2Draw.pow_le hn
  have hn0 : (0 : Int) ≤ (n : Int) := Int.natCast_nonneg n
  have hs := shl_one (n := n) (by omega)
  refine Tot.up (S := Int) (fun j s k => spec_l2Draw.l2 k n s y (j : Int) b i h) (2 ^ n) (fun _ _ => True) ?_ ?_ (2 ^ n) 0 x (by omega) trivial
  · intro j s hj _ hnx
    have hlt : (j : Int) < ((2 ^ n : Nat) : Int) := Int.ofNat_lt.mpr hj
    have hj0 : (0 : Int) ≤ (j : Int) := Int.natCast_nonneg j
    have hu := up1 (x := j) (by omega)
    refine Tot.step (f := fun k => if Go.bits .and .i64 (j : Int) y = y then spec_l2Draw.l2 k n (Go.bits .or .i64 s (shl .i64 1 (j : Int))) y ((j + 1 : Nat) : Int) b i h else spec_l2Draw.l2 k n s y ((j + 1 : Nat) : Int) b i h) (fun k => ?_) (Tot.ite _ (fun _ => hnx _ trivial) (fun _ => hnx _ trivial))
    simp only [spec_l2Draw.l2, hs, hn0, hlt, hj0, hu, ↓reduceIte]
  · intro s _
    obtain ⟨W, hW⟩ := spec_l2Draw.fin hn s i h
    refine Tot.end ((n : Int), W, i, h) ⟨rfl, hi⟩ (fun k => ?_)
    · simp only [spec_l2Draw.l2, hs, hn0, Int.lt_irrefl, ↓reduceIte]
      exact hW
open Go.Proofs.Ythekbiofjhkecaa.M in
theorem spec_l2Draw.ok3 (b : List Int) (hb : b.length ≤ 1048576) (i h : Int) (hi : 0 ≤ i) {n : Nat} (hn : n ≤ 4) (x : Int) : Tot (fun k => spec_l2Draw.l3 k n x 0 b i h) (fun r => r.1 = (n : Int) ∧ 0 ≤ r.2.2.1) := by
  have h16 := spec_l2Draw.pow_le hn
  have hn0 : (0 : Int) ≤ (n : Int) := Int.natCast_nonneg n
  have hs := shl_one (n := n) (by omega)
  refine Tot.up (S := Int × Int × Int) (fun j s k => spec_l2Draw.l3 k n s.1 (j : Int) b s.2.1 s.2.2) (2 ^ n) (fun _ s => 0 ≤ s.2.1) ?_ ?_ (2 ^ n) 0 (x, i, h) (by omega) hi
  · rintro j ⟨s, i, h⟩ hj hi hnx
    have hlt : (j : Int) < ((2 ^ n : Nat) : Int) := Int.ofNat_lt.mpr hj
    have hj0 : (0 : Int) ≤ (j : Int) := Int.natCast_nonneg j
    have hu := up1 (x := j) (by omega)
    obtain ⟨q, i', h', e, _, _, e3⟩ := spec_l1Below.ok b i h 2 hb hi (by decide) (by decide)
    refine Tot.step (f := fun k => spec_l2Draw.l3 k n (Go.bits .or .i64 s (shl .i64 q (j : Int))) ((j + 1 : Nat) : Int) b i' h') (fun k => ?_) (hnx (_, i', h') e3)
    simp only [spec_l2Draw.l3, hs, hn0, hlt, hj0, hu, e, Option.bind_some, ↓reduceIte]
  · rintro ⟨s, i, h⟩ hi
    obtain ⟨W, hW⟩ := spec_l2Draw.fin hn s i h
    refine Tot.end ((n : Int), W, i, h) ⟨rfl, hi⟩ (fun k => ?_)
    · simp only [spec_l2Draw.l3, hs, hn0, Int.lt_irrefl, ↓reduceIte]
      exact hW
open Go.Proofs.Ythekbiofjhkecaa.M in
theorem spec_l2Draw.var {n j : Nat} (hn : n ≤ 4) (hj : j ≤ 4) : Tot (fun k => spec_l2Variable.f k n j) (fun _ => True) := by
  have h16 := spec_l2Draw.pow_le hn
  have hn0 : (0 : Int) ≤ (n : Int) := Int.natCast_nonneg n
  have hj1 : (0 : Int) ≤ (j : Int) := Int.natCast_nonneg j
  have hs := shl_one (n := n) (by omega)
  refine Tot.up (S := Int) (fun x s k => spec_l2Variable.l0 k n j s (x : Int)) (2 ^ n) (fun _ _ => True) ?_ ?_ (2 ^ n) 0 0 (by omega) trivial
  · intro x s hx _ hnx
    have hlt : (x : Int) < ((2 ^ n : Nat) : Int) := Int.ofNat_lt.mpr hx
    have hx0 : (0 : Int) ≤ (x : Int) := Int.natCast_nonneg x
    have hu := up1 (x := x) (by omega)
    refine Tot.step (f := fun k => if Go.bits .and .i64 (shr .i64 (x : Int) (j : Int)) 1 = 1 then spec_l2Variable.l0 k n j (Go.bits .or .i64 s (shl .i64 1 (x : Int))) ((x + 1 : Nat) : Int) else spec_l2Variable.l0 k n j s ((x + 1 : Nat) : Int)) (fun k => ?_) (Tot.ite _ (fun _ => hnx _ trivial) (fun _ => hnx _ trivial))
    simp only [spec_l2Variable.l0, hs, hn0, hj1, hlt, hx0, hu, ↓reduceIte]
  · intro s _
    refine Tot.end s trivial (fun k => ?_)
    simp only [spec_l2Variable.l0, hs, hn0, Int.lt_irrefl, ↓reduceIte]
open Go.Proofs.Ythekbiofjhkecaa.M in
theorem spec_l2Draw.ok (b : List Int) (hb : b.length ≤ 1048576) (i h : Int) (hi : 0 ≤ i) {n : Nat} (hn : n ≤ 4) : Tot (fun k => spec_l2Draw.f k b i h n) (fun r => r.1 = (n : Int) ∧ 0 ≤ r.2.2.1) := by
  obtain ⟨q, i', h', e, q1, q2, e3⟩ := spec_l1Below.ok b i h 6 hb hi (by decide) (by decide)
  have h16 := spec_l2Draw.pow_le hn
  have hn0 : (0 : Int) ≤ (n : Int) := Int.natCast_nonneg n
  have hs := shl_one (n := n) (by omega)
  have hp := Nat.two_pow_pos n
  unfold spec_l2Draw.f
  simp only [e, Option.bind_some]
  refine Tot.ite _ (fun _ => ?_) (fun _ => Tot.ite _ (fun _ => spec_l2Draw.ok0 b i' h' e3 hn 0) (fun _ => Tot.ite _ (fun _ => spec_l2Draw.ok1 b i' h' e3 hn 0) (fun _ => Tot.ite _ (fun _ => ?_) (fun _ => spec_l2Draw.ok3 b hb i' h' e3 hn 0))))
  · have hm : 1 ≤ mx 1 (n : Int) ∧ mx 1 (n : Int) ≤ 4 := by unfold mx; split <;> omega
    obtain ⟨y, i2, h2, e2, y1, y2, y3⟩ := spec_l1Below.ok b i' h' (mx 1 (n : Int)) hb e3 hm.1 (by omega)
    simp only [e2, Option.bind_some]
    obtain ⟨j, rfl⟩ := nat_of y1
    refine Tot.bind (spec_l2Draw.var hn (j := j) (by omega)) (fun t _ => ?_)
    obtain ⟨W, hW⟩ := spec_l2Draw.fin hn t i2 h2
    exact Tot.congr (fun k => hW) (Tot.now _ ⟨rfl, y3⟩)
  · simp only [hn0, hs, ↓reduceIte]
    obtain ⟨y, i2, h2, e2, y1, y2, y3⟩ := spec_l1Below.ok b i' h' ((2 ^ n : Nat) : Int) hb e3 (by omega) (by omega)
    simp only [e2, Option.bind_some]
    exact spec_l2Draw.ok2 b i2 h2 y y3 hn 0

/-! ### facts on spec_l1PickInt -/
--IMPORT M14
open Go.Proofs.Ythekbiofjhkecaa.M in
theorem spec_l1PickInt.ok (b : List Int) (i h : Int) (l : List Int) (hb : b.length ≤ 1048576) (hi : 0 ≤ i) (h1 : 1 ≤ l.length) (h2 : l.length ≤ 256) : ∃ x i' h', spec_l1PickInt.f b i h l = some (x, i', h') ∧ x ∈ l ∧ 0 ≤ i' := by
  obtain ⟨x, i', h', e, e1, e2, e3⟩ := spec_l1Below.ok b i h (l.length : Int) hb hi (by omega) (by omega)
  unfold spec_l1PickInt.f
  rw [e, Option.bind_some, if_pos e1, if_pos e2]
  refine ⟨_, _, _, rfl, ?_, e3⟩
  obtain ⟨j, rfl⟩ := nat_of e1
  have hj : j < l.length := by omega
  show rd l (j : Int) ∈ l
  simp [rd, List.getD_eq_getElem?_getD, hj]

/-! ### facts on spec_l2Any -/
--IMPORT M14
open Go.Proofs.Ythekbiofjhkecaa.M in
theorem spec_l2Any.ok (b : List Int) (hb : b.length ≤ 1048576) (i h : Int) (hi : 0 ≤ i) : Tot (fun k => spec_l2Any.f k b i h) (fun r => 0 ≤ r.2.2.1) := by
  obtain ⟨q, i', h', e, q1, q2, e3⟩ := spec_l1Below.ok b i h 5 hb hi (by decide) (by decide)
  unfold spec_l2Any.f
  simp only [e, Option.bind_some]
  obtain ⟨n, rfl⟩ := nat_of q1
  refine Tot.bind (spec_l2Draw.ok b hb i' h' e3 (n := n) (by omega)) (fun r hr => ?_)
  obtain ⟨y, i2, h2, e2, _, _, y3⟩ := spec_l1Below.ok b r.2.2.1 r.2.2.2 14 hb hr.2 (by decide) (by decide)
  simp only [e2, Option.bind_some]
  obtain ⟨z0, i3, h3, w0, _, z1⟩ := spec_l1PickInt.ok b i2 h2 [(-1), 6, 5, 0, 9223372036854775807] hb y3 (by decide) (by decide)
  obtain ⟨z2, i4, h4, w1, _, z3⟩ := spec_l1PickInt.ok b i2 h2 [(-1), 0, 1, 65536, 9223372036854775807] hb y3 (by decide) (by decide)
  simp only [w0, w1, Option.bind_some]
  exact Tot.ite _ (fun _ => Tot.now _ z1) (fun _ => Tot.ite _ (fun _ => Tot.now _ z3) (fun _ => Tot.now _ y3))

/-! ### facts on spec_l24Both -/
--IMPORT M14
open Go.Proofs.Ythekbiofjhkecaa.M in
theorem spec_l24Both.ok (b : List Int) (hb : b.length ≤ 1048576) : Tot (fun k => spec_l24Both.f k b) (fun _ => True) := by
  unfold spec_l24Both.f
  refine Tot.bind (spec_l1New.ok b hb) (fun r hr => ?_)
  obtain ⟨r1, r2, r3⟩ := r
  obtain ⟨rfl, rfl⟩ := hr
  refine Tot.bind (spec_l2Any.ok r1 hb 0 r3 (Int.le_refl 0)) (fun s hs => ?_)
  obtain ⟨y, i2, h2, e2, _, _, y3⟩ := spec_l1Below.ok r1 s.2.2.1 s.2.2.2 6 hb hs (by decide) (by decide)
  simp only [e2, Option.bind_some]
  exact Tot.now _ trivial

/-! ### facts on spec_DrawOnesInCubes -/
--IMPORT M14
open Go.Proofs.Ythekbiofjhkecaa.M in
theorem spec_DrawOnesInCubes.ok (b : List Int) (hb : b.length ≤ 1048576) : Tot (fun k => spec_DrawOnesInCubes.f k b) (fun _ => True) := by
  unfold spec_DrawOnesInCubes.f
  exact Tot.bind (spec_l24Both.ok b hb) (fun s _ => Tot.now _ trivial)

/-! ### facts on impl_isBits -/
theorem impl_isBits.ev (a : Int) : impl_isBits.f a = some (decide (0 ≤ a ∧ a ≤ 5)) := by
  unfold impl_isBits.f
  by_cases h : 0 ≤ a
  · rw [if_pos h]; simp [h]
  · rw [if_neg h]; simp [h]

/-! ### facts on impl_IsTable -/
--IMPORT M0
open Go.Proofs.Ythekbiofjhkecaa.M in
theorem impl_IsTable.ev (a b : Int) : impl_IsTable.f a b = some (isT a b) := by
  unfold impl_IsTable.f isT
  rw [impl_isBits.ev]
  by_cases h : 0 ≤ a ∧ a ≤ 5
  · obtain ⟨n, rfl⟩ := nat_of h.1
    have hn : n ≤ 5 := by omega
    simp only [Option.bind_some, h, and_self, decide_true, if_true]
    by_cases hb : b ≥ 0
    · obtain ⟨v, rfl⟩ := nat_of hb
      have h5 := pow_le_5 hn
      rw [if_pos hb]
      unfold impl_Table_size.f
      rw [if_pos (Int.natCast_nonneg n), shl_one (by omega)]
      simp only [Option.bind_some]
      rw [if_pos (Int.natCast_nonneg _), shr_nat (by omega)]
      congr 1
      rw [Bool.eq_iff_iff]
      simp only [beq_iff_eq, decide_eq_true_eq, Int.toNat_natCast]
      have hz : v / 2 ^ 2 ^ n = 0 ↔ v < 2 ^ 2 ^ n := Nat.div_eq_zero_iff_lt (Nat.two_pow_pos _)
      rw [show (((v / 2 ^ 2 ^ n : Nat) : Int) = 0 ↔ v / 2 ^ 2 ^ n = 0) from by omega, hz]
      obtain ⟨P, hP⟩ : ∃ P, P = 2 ^ 2 ^ n := ⟨_, rfl⟩
      rw [← hP]
      simp only [h, true_and]
      omega
    · rw [if_neg hb]
      congr 1
      symm
      apply decide_eq_false
      omega
  · have h' : ¬ (0 ≤ a ∧ a ≤ 5 ∧ 0 ≤ b ∧ b < ((2 ^ 2 ^ a.toNat : Nat) : Int)) := fun e => h ⟨e.1, e.2.1⟩
    simp only [h, h', decide_false, Option.bind_some, Bool.false_eq_true, if_false]

/-! ### facts on impl_isSmall -/
--IMPORT M5
open Go.Proofs.Ythekbiofjhkecaa.M in
theorem impl_isSmall.ev (a b m : Int) : impl_isSmall.f a b m = some (isT a b && decide (a ≤ m)) := by
  unfold impl_isSmall.f
  rw [impl_IsTable.ev, Option.bind_some]
  cases isT a b <;> simp

/-! ### facts on impl_ones -/
--IMPORT M1
open Go.Proofs.Ythekbiofjhkecaa.M in
theorem bits_OnesCount64.ev {w : Nat} (h : w < 2 ^ 32) : bits_OnesCount64.f w = some ((pc w : Nat) : Int) := by
  unfold bits_OnesCount64.f
  rw [sA_eq h, sB_eq (sA_lt h), sC_eq (sB_lt (sA_lt h))]
  exact congrArg some (swar_end h rfl _ rfl)
open Go.Proofs.Ythekbiofjhkecaa.M in
theorem impl_ones.ev {w : Nat} (h : w < 2 ^ 32) : impl_ones.f w = some ((pc w : Nat) : Int) := by
  unfold impl_ones.f
  rw [u64n (by omega), bits_OnesCount64.ev h]; rfl

/-! ### facts on impl_Table_restrict -/
--IMPORT M0
/-! ### facts on impl_Table_not -/
--IMPORT M0
/-! ### facts on spec_l1In -/
theorem spec_l1In.ev (a b c : Int) : spec_l1In.f a b c = some (decide (b ≤ a ∧ a ≤ c)) := by
  unfold spec_l1In.f
  by_cases h : b ≤ a
  · rw [if_pos h]; simp [h]
  · rw [if_neg h]; simp [h]

/-! ### facts on spec_IsTable -/
--IMPORT M0
open Go.Proofs.Ythekbiofjhkecaa.M in
theorem spec_IsTable.ev (a b : Int) : spec_IsTable.f a b = some (isT a b) := by
  unfold spec_IsTable.f isT
  rw [spec_l1In.ev]
  by_cases h : 0 ≤ a ∧ a ≤ 5
  · obtain ⟨n, rfl⟩ := nat_of h.1
    have hn : n ≤ 5 := by omega
    simp only [Option.bind_some, h, and_self, decide_true, if_true]
    rw [full_word hn, spec_l1In.ev]
    simp only [Option.bind_some, Int.toNat_natCast, h, true_and]
    congr 1
    apply decide_eq_decide.mpr
    omega
  · have h' : ¬ (0 ≤ a ∧ a ≤ 5 ∧ 0 ≤ b ∧ b < ((2 ^ 2 ^ a.toNat : Nat) : Int)) := fun e => h ⟨e.1, e.2.1⟩
    simp only [h, h', decide_false, Option.bind_some, Bool.false_eq_true, if_false]

/-! ### facts on spec_l24Fine -/
--IMPORT M12
/-- a table of at most four variables, and a number of them -/
def spec_l24Fine.ok (a b k : Int) : Bool := Go.Proofs.Ythekbiofjhkecaa.M.isT a b && decide (a ≤ 4) && decide (0 ≤ k ∧ k ≤ a)
open Go.Proofs.Ythekbiofjhkecaa.M in
theorem spec_l24Fine.ev (a b k : Int) : spec_l24Fine.f a b k = some (spec_l24Fine.ok a b k) := by
  unfold spec_l24Fine.f spec_l24Fine.ok
  rw [spec_IsTable.ev, Option.bind_some]
  cases isT a b with
  | false => rfl
  | true =>
    rw [if_pos rfl, Bool.true_and]
    by_cases h : a ≤ 4
    · rw [if_pos h, decide_eq_true h, spec_l1In.ev]; rfl
    · rw [if_neg h, decide_eq_false h]; rfl
open Go.Proofs.Ythekbiofjhkecaa.M in
theorem spec_l24Fine.nat {a b k : Int} (h : spec_l24Fine.ok a b k = true) : ∃ n v kk : Nat, a = (n : Int) ∧ b = (v : Int) ∧ k = (kk : Int) ∧ n ≤ 4 ∧ v < 2 ^ 2 ^ n ∧ kk ≤ n := by
  unfold spec_l24Fine.ok at h
  rw [Bool.and_eq_true, Bool.and_eq_true] at h
  obtain ⟨n, v, rfl, rfl, hn, hv⟩ := isT_nat h.1.1
  have h1 := of_decide_eq_true h.1.2
  have h2 := of_decide_eq_true h.2
  exact ⟨n, v, k.toNat, rfl, rfl, by omega, by omega, hv, by omega⟩
open Go.Proofs.Ythekbiofjhkecaa.M in
theorem spec_l24Fine.mk {n v kk : Nat} (hn : n ≤ 4) (hv : v < 2 ^ 2 ^ n) (hk : kk ≤ n) : spec_l24Fine.ok (n : Int) (v : Int) (kk : Int) = true := by
  unfold spec_l24Fine.ok
  rw [isT_mk (by omega) hv, decide_eq_true (show (n : Int) ≤ 4 by omega), decide_eq_true (show 0 ≤ (kk : Int) ∧ (kk : Int) ≤ (n : Int) by omega)]; rfl

/-! ### facts on spec_l6Word -/
--IMPORT M12
open Go.Proofs.Ythekbiofjhkecaa.M in
theorem spec_l6Word.ev {n m u : Nat} (hn : n ≤ 5) (hm : m < 2 ^ 32) : Ev (fun k => spec_l6Word.f k (n : Int) (m : Int) (u : Int)) ((prefW (fun x => x &&& m == u) (2 ^ n) : Nat) : Int) := by
  have h5 := pow_le_5 hn
  obtain ⟨g, hg⟩ : ∃ g : Nat → Bool, g = (fun x => x &&& m == u) := ⟨_, rfl⟩
  rw [← hg]
  have hgi : ∀ i, g i = (i &&& m == u) := fun i => by rw [hg]
  clear hg
  exact Ev.count (fun k i => spec_l6Word.l0 k (n : Int) ((prefW g i : Nat) : Int) (i : Int) (m : Int) (u : Int)) (2 ^ n) _ (fun i hi hn' => by
    have ea : Go.bits .and .i64 (i : Int) (m : Int) = ((i &&& m : Nat) : Int) := and_nat (by omega) (by omega)
    by_cases hq : i &&& m = u
    · have hg : g i = true := by rw [hgi]; exact beq_iff_eq.mpr hq
      refine Ev.step (fun k => ?_) hn'
      simp only [spec_l6Word.l0]
      rw [if_pos (Int.natCast_nonneg n), shl_one (n := n) (by omega), if_pos (by omega), ea, if_pos (by omega), if_pos (by omega), prefW_step_one (by omega) hg, up1 (by omega)]
    · have hg : g i = false := by rw [hgi]; exact beq_eq_false_iff_ne.mpr hq
      rw [prefW_skip hg] at hn'
      refine Ev.step (fun k => ?_) hn'
      simp only [spec_l6Word.l0]
      rw [if_pos (Int.natCast_nonneg n), shl_one (n := n) (by omega), if_pos (by omega), ea, if_neg (by omega), up1 (by omega)]) (Ev.end (fun k => by
    simp only [spec_l6Word.l0]
    rw [if_pos (Int.natCast_nonneg n), shl_one (n := n) (by omega), if_neg (by omega)])) (2 ^ n) 0 (by omega)

/-! ### facts on spec_OnesInCubes -/
--IMPORT M12
open Go.Proofs.Ythekbiofjhkecaa.M in
/-- the answer -/
def spec_OnesInCubes.r (a b k : Int) : List Int := if spec_l24Fine.ok a b k = true then impl_OnesInCubes.tally (2 ^ k.toNat + 1) (cutAll a.toNat b.toNat k.toNat (2 ^ a.toNat)) else []
open Go.Proofs.Ythekbiofjhkecaa.M in
theorem spec_OnesInCubes.ev (a b k : Int) : Ev (fun q => spec_OnesInCubes.f q a b k) (spec_OnesInCubes.r a b k) := by
  unfold spec_OnesInCubes.r
  refine Ev.congr (f := fun q => if spec_l24Fine.ok a b k = true then (if 0 ≤ k then (if 0 ≤ (wrap64 ((shl .i64 1 k) + 1)) then (if (wrap64 ((shl .i64 1 k) + 1) : Int).toNat ≤ 35184372088832 then (spec_OnesInCubes.l0 q k (List.replicate (wrap64 ((shl .i64 1 k) + 1) : Int).toNat 0) 0 a b) else (none)) else (none)) else (none)) else some []) (fun q => by unfold spec_OnesInCubes.f; rw [spec_l24Fine.ev]; rfl) ?_
  cases hok : spec_l24Fine.ok a b k with
  | false => exact Ev.now _
  | true =>
    obtain ⟨n, v, kk, rfl, rfl, rfl, hn, hv, hk⟩ := spec_l24Fine.nat hok
    have h16 := pow16 hn
    have h16k := pow16 (n := kk) (by omega)
    have hf := full_p63 (n := n) (by omega)
    have el : wrap64 ((shl .i64 1 (kk : Int)) + 1) = ((2 ^ kk + 1 : Nat) : Int) := by
      rw [shl_one (n := kk) (by omega)]
      clear hf hv
      generalize 2 ^ kk = P at h16k ⊢
      rw [w64 (by omega) (by omega)]; omega
    simp only [if_true, Int.toNat_natCast, Int.natCast_nonneg, el]
    refine Ev.congr (fun q => if_pos (by omega)) ?_
    generalize hlen : 2 ^ kk + 1 = len
    have htl := fun l => impl_OnesInCubes.tally_len len l
    have hts := fun l x => impl_OnesInCubes.tally_snoc len l x
    generalize hR : impl_OnesInCubes.tally len (cutAll n v kk (2 ^ n)) = R
    have row : ∀ m, m < 2 ^ n → Ev (fun q => spec_OnesInCubes.l0 q (kk : Int) (impl_OnesInCubes.tally len (cutAll n v kk (m + 1))) ((m + 1 : Nat) : Int) n v) R → Ev (fun q => spec_OnesInCubes.l0 q (kk : Int) (impl_OnesInCubes.tally len (cutAll n v kk m)) (m : Int) n v) R := by
      intro m hm hnext
      have hpn : pc m ≤ n := by have := left_all n (by omega) m (by omega) hm; omega
      have hcount := spec_l2Count.ev (w := m) (by omega)
      have ew : wrap64 ((n : Int) - ((pc m : Nat) : Int)) = (n : Int) - ((pc m : Nat) : Int) := w64 (by omega) (by omega)
      have skip : ∀ (L : List Nat) (u : Nat), u ≤ 1000 → Ev (fun q => spec_OnesInCubes.l1 q (kk : Int) (impl_OnesInCubes.tally len L) (m : Int) ((u + 1 : Nat) : Int) n v) R → Ev (fun q => spec_OnesInCubes.j2 q (kk : Int) (impl_OnesInCubes.tally len L) (m : Int) (u : Int) true n v) R := fun L u hu h => Ev.step (fun q => by
        simp only [spec_OnesInCubes.j2, if_true]
        rw [up1 (by omega)]) h
      by_cases hpk : pc m + kk = n
      · rw [cutAll, if_pos hpk, cutRow_full hm] at hnext
        have inner := Ev.count (fun q u => spec_OnesInCubes.l1 q (kk : Int) (impl_OnesInCubes.tally len (cutAll n v kk m ++ cutRow n v m u)) (m : Int) (u : Int) n v) (m + 1) R (fun u hu hn' => by
          have ea : Go.bits .and .i64 (u : Int) (m : Int) = ((u &&& m : Nat) : Int) := and_nat (by omega) (by omega)
          by_cases hz : andn u m = 0
          · have hum : u &&& m = u := subset_iff.mpr hz
            rw [cutRow, if_pos hz, ← List.append_assoc, hts] at hn'
            have hco := cube_ones hn hv hm hpk (by omega) hz
            have hcw := (cut_word (u := u) hn hv hm hpk).2
            have hpl : pc (cutS n v m u n).2 < len := by
              have h1 := pc_of_lt hcw (32 - 2 ^ kk)
              have h2 := cnt_le (cutS n v m u n).2.testBit (2 ^ kk)
              unfold pc
              rw [show 32 = 2 ^ kk + (32 - 2 ^ kk) by omega, h1]
              omega
            have h6 := spec_l6Word.ev (n := n) (m := m) (u := u) (by omega) (by omega)
            have hw6 := prefW_lt (fun x => x &&& m == u) (2 ^ n)
            have hlt32 : v &&& prefW (fun x => x &&& m == u) (2 ^ n) < 2 ^ 32 := Nat.lt_of_le_of_lt Nat.and_le_left (Nat.lt_of_lt_of_le hv (full_lt (by omega)))
            have hc2 := spec_l2Count.ev hlt32
            rw [← hco] at hc2
            have eand : Go.bits .and .i64 (v : Int) ((prefW (fun x => x &&& m == u) (2 ^ n) : Nat) : Int) = ((v &&& prefW (fun x => x &&& m == u) (2 ^ n) : Nat) : Int) := and_nat (by omega) (by omega)
            have hl2 := htl (cutAll n v kk m ++ cutRow n v m u)
            unfold impl_OnesInCubes.add at hn'
            generalize impl_OnesInCubes.tally len (cutAll n v kk m ++ cutRow n v m u) = T at hn' hl2 ⊢
            generalize prefW (fun x => x &&& m == u) (2 ^ n) = W6 at h6 hc2 eand
            generalize pc (cutS n v m u n).2 = P at hn' hpl hc2
            have hj : Ev (fun q => spec_OnesInCubes.j2 q (kk : Int) T (m : Int) (u : Int) false n v) R := by
              refine Ev.step (f := fun q => (spec_l6Word.f q n m u).bind fun t => (spec_l2Count.f q (Go.bits .and .i64 (v : Int) t)).bind fun t502 => if 0 ≤ t502 then (if t502 < (T.length : Int) then (spec_OnesInCubes.l1 q (kk : Int) (T.set (t502 : Int).toNat (wrap64 ((rd T t502) + 1))) m ((u + 1 : Nat) : Int) n v) else none) else none) (fun q => ?_) (Ev.bind h6 ?_)
              · simp only [spec_OnesInCubes.j2, Bool.false_eq_true, if_false]
                rw [up1 (by omega)]
              · rw [eand]
                refine Ev.bind hc2 (Ev.congr (fun q => (if_pos (Int.natCast_nonneg P)).trans (if_pos (by omega))) ?_)
                rw [Int.toNat_natCast]
                exact hn'
            refine Ev.step (f := fun q => (spec_l2Count.f q (m : Int)).bind fun t => if (wrap64 ((n : Int) - t)) = (kk : Int) then spec_OnesInCubes.j2 q (kk : Int) T (m : Int) (u : Int) false n v else spec_OnesInCubes.j2 q (kk : Int) T (m : Int) (u : Int) true n v) (fun q => ?_) (Ev.bind hcount (Ev.congr (fun q => if_pos (by rw [ew]; omega)) hj))
            simp only [spec_OnesInCubes.l1]
            rw [if_pos (by omega), ea, hum, bne_self_eq_false]
          · rw [cutRow, if_neg hz] at hn'
            have hum : ((u &&& m : Nat) : Int) ≠ (u : Int) := fun e => hz (subset_iff.mp (by omega))
            have hj := skip _ u (by omega) hn'
            refine Ev.step (f := fun q => (spec_l2Count.f q (m : Int)).bind fun t => spec_OnesInCubes.j2 q (kk : Int) (impl_OnesInCubes.tally len (cutAll n v kk m ++ cutRow n v m u)) (m : Int) (u : Int) true n v) (fun q => ?_) (Ev.bind hcount hj)
            simp only [spec_OnesInCubes.l1]
            rw [if_pos (by omega), ea, bne_iff_ne.mpr hum]
            simp only [ite_self]) (Ev.step (fun q => by
          simp only [spec_OnesInCubes.l1]
          rw [if_neg (by omega), up1 (by omega)]) hnext) (m + 1) 0 (by omega)
        refine Ev.step (fun q => ?_) inner
        simp only [spec_OnesInCubes.l0]
        rw [if_pos (Int.natCast_nonneg n), shl_one (by omega), if_pos (by omega), show cutRow n v m 0 = [] from rfl, List.append_nil]; rfl
      · rw [cutAll, if_neg hpk] at hnext
        have inner := Ev.count (fun q u => spec_OnesInCubes.l1 q (kk : Int) (impl_OnesInCubes.tally len (cutAll n v kk m)) (m : Int) (u : Int) n v) (m + 1) R (fun u hu hn' => by
          have hj := skip _ u (by omega) hn'
          refine Ev.step (f := fun q => (spec_l2Count.f q (m : Int)).bind fun t => if (wrap64 ((n : Int) - t)) = (kk : Int) then spec_OnesInCubes.j2 q (kk : Int) (impl_OnesInCubes.tally len (cutAll n v kk m)) (m : Int) (u : Int) ((Go.bits .and .i64 (u : Int) (m : Int)) != (u : Int)) n v else spec_OnesInCubes.j2 q (kk : Int) (impl_OnesInCubes.tally len (cutAll n v kk m)) (m : Int) (u : Int) true n v) (fun q => ?_) (Ev.bind hcount (Ev.congr (fun q => if_neg (by rw [ew]; omega)) hj))
          simp only [spec_OnesInCubes.l1]
          rw [if_pos (by omega)]) (Ev.step (fun q => by
          simp only [spec_OnesInCubes.l1]
          rw [if_neg (by omega), up1 (by omega)]) hnext) (m + 1) 0 (by omega)
        refine Ev.step (fun q => ?_) inner
        simp only [spec_OnesInCubes.l0]
        rw [if_pos (Int.natCast_nonneg n), shl_one (by omega), if_pos (by omega)]; rfl
    exact Ev.count (fun q m => spec_OnesInCubes.l0 q (kk : Int) (impl_OnesInCubes.tally len (cutAll n v kk m)) (m : Int) n v) (2 ^ n) R row (Ev.end (fun q => by
      simp only [spec_OnesInCubes.l0]
      rw [if_pos (Int.natCast_nonneg n), shl_one (by omega), if_neg (by omega), hR])) (2 ^ n) 0 (by omega)

/-! ### facts on impl_OnesInCubes -/
--IMPORT M12
open Go.Proofs.Ythekbiofjhkecaa.M in
theorem impl_OnesInCubes.ev (a b k : Int) : impl_OnesInCubes.f a b k = some (spec_OnesInCubes.r a b k) := by
  unfold impl_OnesInCubes.f spec_OnesInCubes.r
  rw [impl_isSmall.ev, Option.bind_some]
  cases hok : spec_l24Fine.ok a b k with
  | true =>
    obtain ⟨n, v, kk, rfl, rfl, rfl, hn, hv, hk⟩ := spec_l24Fine.nat hok
    have hvi : (v : Int) < ((2 ^ 2 ^ n : Nat) : Int) := by exact_mod_cast hv
    rw [isT_mk (by omega) hv, decide_eq_true (show (n : Int) ≤ 4 by omega), if_pos ⟨rfl, by omega, by omega⟩, if_pos rfl]
    simp only [Int.toNat_natCast]
    rw [if_pos ⟨by omega, by omega, by omega, hvi⟩]
  | false =>
    have hno : ¬ ((isT a b && decide (a ≤ 4)) = true ∧ 0 ≤ k ∧ k ≤ a) := fun e => by
      unfold spec_l24Fine.ok at hok
      obtain ⟨e1, e2, e3⟩ := e
      rw [e1, decide_eq_true ⟨e2, e3⟩] at hok
      cases hok
    rw [if_neg hno, if_neg (by decide)]

/-! ### facts on spec_l3Cube -/
--IMPORT M12
open Go.Proofs.Ythekbiofjhkecaa.M in
theorem spec_l3Cube.loop {n v m u : Nat} (hn : n ≤ 5) (hv : v < 2 ^ 2 ^ n) (hm : m < 2 ^ 32) : ∀ (d i : Nat) (c : Int), i + d = 2 ^ n → Ev (fun k => spec_l3Cube.l0 k (m : Int) (u : Int) c (i : Int) (n : Int) (v : Int)) (cubeGo c (((List.range' i d).filter (fun x => x &&& m == u)).map v.testBit))
  | 0, i, c, h => by
    have h5 := pow_le_5 hn
    refine Ev.end (fun k => ?_)
    simp only [spec_l3Cube.l0]
    rw [if_pos (Int.natCast_nonneg n), shl_one (by omega), if_neg (by omega)]; rfl
  | d + 1, i, c, h => by
    have h5 := pow_le_5 hn
    have hf := full_p63 hn
    have ih := fun c => spec_l3Cube.loop (u := u) hn hv hm d (i + 1) c (by omega)
    have e1 : wrap64 ((i : Int) + 1) = ((i + 1 : Nat) : Int) := up1 (by omega)
    have ea : Go.bits .and .i64 (i : Int) (m : Int) = ((i &&& m : Nat) : Int) := and_nat (by omega) (by omega)
    have eb := bit_nat (a := v) (n := i) (by omega) (by omega)
    rw [List.range'_succ]
    by_cases hq : i &&& m = u
    · have hf2 : ((i :: List.range' (i + 1) d).filter (fun x => x &&& m == u)) = i :: ((List.range' (i + 1) d).filter (fun x => x &&& m == u)) := by
        rw [List.filter_cons, if_pos (beq_iff_eq.mpr hq)]
      rw [hf2, List.map_cons, cubeGo]
      by_cases hc : c ≥ 0
      · rw [if_pos hc]
        by_cases hcb : c = (((v.testBit i).toNat : Nat) : Int)
        · rw [if_pos hcb]
          refine Ev.step (fun k => ?_) (ih _)
          simp only [spec_l3Cube.l0]
          rw [if_pos (Int.natCast_nonneg n), shl_one (by omega), if_pos (by omega), ea, if_pos (by omega), if_pos (by omega), if_pos hc, eb, if_pos hcb, e1]
        · rw [if_neg hcb]
          refine Ev.end (fun k => ?_)
          simp only [spec_l3Cube.l0]
          rw [if_pos (Int.natCast_nonneg n), shl_one (by omega), if_pos (by omega), ea, if_pos (by omega), if_pos (by omega), if_pos hc, eb, if_neg hcb]
      · rw [if_neg hc]
        refine Ev.step (fun k => ?_) (ih _)
        simp only [spec_l3Cube.l0]
        rw [if_pos (Int.natCast_nonneg n), shl_one (by omega), if_pos (by omega), ea, if_pos (by omega), if_pos (by omega), if_neg hc, eb, e1]
    · have hf2 : ((i :: List.range' (i + 1) d).filter (fun x => x &&& m == u)) = ((List.range' (i + 1) d).filter (fun x => x &&& m == u)) := by
        rw [List.filter_cons, if_neg (fun e => hq (beq_iff_eq.mp e))]
      rw [hf2]
      refine Ev.step (fun k => ?_) (ih c)
      simp only [spec_l3Cube.l0]
      rw [if_pos (Int.natCast_nonneg n), shl_one (by omega), if_pos (by omega), ea, if_neg (by omega), e1]
open Go.Proofs.Ythekbiofjhkecaa.M in
theorem spec_l3Cube.ev {n v m u : Nat} (hn : n ≤ 5) (hv : v < 2 ^ 2 ^ n) (hm : m < 2 ^ 32) : Ev (fun k => spec_l3Cube.f k (n : Int) (v : Int) (m : Int) (u : Int)) (cubeGo (-1) (((List.range (2 ^ n)).filter (fun x => x &&& m == u)).map v.testBit)) := by
  rw [List.range_eq_range']
  exact spec_l3Cube.loop hn hv hm (2 ^ n) 0 (-1) (by omega)

/-! ### facts on spec_ConstantCubes -/
--IMPORT M12
/-- is a word of k variables constant -/
def spec_ConstantCubes.isC (k x : Nat) : Bool := decide (x = 0 ∨ x = 2 ^ 2 ^ k - 1)
open Go.Proofs.Ythekbiofjhkecaa.M in
/-- how many of a list's words are constant -/
def spec_ConstantCubes.num (k : Nat) (l : List Nat) : Nat := (l.filter (spec_ConstantCubes.isC k)).length
open Go.Proofs.Ythekbiofjhkecaa.M in
/-- the answer -/
def spec_ConstantCubes.r (a b k : Int) : Int := if spec_l24Fine.ok a b k = true then ((spec_ConstantCubes.num k.toNat (cutAll a.toNat b.toNat k.toNat (2 ^ a.toNat)) : Nat) : Int) else -1
theorem spec_ConstantCubes.num_le (k : Nat) (l : List Nat) : spec_ConstantCubes.num k l ≤ l.length := List.length_filter_le _ _
theorem spec_ConstantCubes.num_snoc (k : Nat) (l : List Nat) (x : Nat) : spec_ConstantCubes.num k (l ++ [x]) = spec_ConstantCubes.num k l + (spec_ConstantCubes.isC k x).toNat := by
  unfold spec_ConstantCubes.num
  rw [List.filter_append, List.length_append]
  cases h : spec_ConstantCubes.isC k x <;> simp [h]
open Go.Proofs.Ythekbiofjhkecaa.M in
theorem spec_ConstantCubes.ev (a b k : Int) : Ev (fun q => spec_ConstantCubes.f q a b k) (spec_ConstantCubes.r a b k) := by
  unfold spec_ConstantCubes.r
  refine Ev.congr (f := fun q => if spec_l24Fine.ok a b k = true then spec_ConstantCubes.l0 q k 0 0 a b else some (-1)) (fun q => by unfold spec_ConstantCubes.f; rw [spec_l24Fine.ev]; rfl) ?_
  cases hok : spec_l24Fine.ok a b k with
  | false => exact Ev.now _
  | true =>
    obtain ⟨n, v, kk, rfl, rfl, rfl, hn, hv, hk⟩ := spec_l24Fine.nat hok
    simp only [if_true, Int.toNat_natCast]
    have h16 := pow16 hn
    have hf := full_p63 (n := n) (by omega)
    have hbnd : ∀ m, m ≤ 2 ^ n → (cutAll n v kk m).length ≤ 256 := fun m hm => by have := cutAll_len (v := v) (k := kk) hn m hm; omega
    generalize hR : ((spec_ConstantCubes.num kk (cutAll n v kk (2 ^ n)) : Nat) : Int) = R
    have row : ∀ m, m < 2 ^ n → Ev (fun q => spec_ConstantCubes.l0 q (kk : Int) ((spec_ConstantCubes.num kk (cutAll n v kk (m + 1)) : Nat) : Int) ((m + 1 : Nat) : Int) n v) R → Ev (fun q => spec_ConstantCubes.l0 q (kk : Int) ((spec_ConstantCubes.num kk (cutAll n v kk m) : Nat) : Int) (m : Int) n v) R := by
      intro m hm hnext
      have hl := hbnd m (by omega)
      have hpn : pc m ≤ n := by have := left_all n (by omega) m (by omega) hm; omega
      have hcount := spec_l2Count.ev (w := m) (by omega)
      have ew : wrap64 ((n : Int) - ((pc m : Nat) : Int)) = (n : Int) - ((pc m : Nat) : Int) := w64 (by omega) (by omega)
      by_cases hpk : pc m + kk = n
      · rw [cutAll, if_pos hpk, cutRow_full hm] at hnext
        have inner := Ev.count (fun q u => spec_ConstantCubes.l1 q (kk : Int) ((spec_ConstantCubes.num kk (cutAll n v kk m ++ cutRow n v m u) : Nat) : Int) (m : Int) (u : Int) n v) (m + 1) R (fun u hu hn' => by
          have hrl := cutRow_len n v m u
          have hnl := spec_ConstantCubes.num_le kk (cutAll n v kk m ++ cutRow n v m u)
          rw [List.length_append] at hnl
          have ea : Go.bits .and .i64 (u : Int) (m : Int) = ((u &&& m : Nat) : Int) := and_nat (by omega) (by omega)
          by_cases hz : andn u m = 0
          · have hum : u &&& m = u := subset_iff.mpr hz
            rw [cutRow, if_pos hz, ← List.append_assoc, spec_ConstantCubes.num_snoc] at hn'
            have hcv := cube_vals hn hv hm hpk (by omega) hz
            have hcw := (cut_word (u := u) hn hv hm hpk).2
            have hcc := cube_const hcw
            rw [hcv] at hcc
            have h3 := spec_l3Cube.ev (n := n) (v := v) (m := m) (u := u) (by omega) hv (by omega)
            generalize cubeGo (-1) (((List.range (2 ^ n)).filter (fun x => x &&& m == u)).map v.testBit) = z at h3 hcc
            have eC : spec_ConstantCubes.isC kk (cutS n v m u n).2 = decide (z < 2) := by unfold spec_ConstantCubes.isC; exact decide_eq_decide.mpr hcc.symm
            rw [eC] at hn'
            refine Ev.step (f := fun q => (spec_l2Count.f q (m : Int)).bind fun t => if (wrap64 ((n : Int) - t)) = (kk : Int) then (spec_l3Cube.f q n v m u).bind fun y => if y < 2 then spec_ConstantCubes.l1 q (kk : Int) (((spec_ConstantCubes.num kk (cutAll n v kk m ++ cutRow n v m u)) + 1 : Nat) : Int) (m : Int) ((u + 1 : Nat) : Int) n v else spec_ConstantCubes.l1 q (kk : Int) ((spec_ConstantCubes.num kk (cutAll n v kk m ++ cutRow n v m u) : Nat) : Int) (m : Int) ((u + 1 : Nat) : Int) n v else spec_ConstantCubes.l1 q (kk : Int) ((spec_ConstantCubes.num kk (cutAll n v kk m ++ cutRow n v m u) : Nat) : Int) (m : Int) ((u + 1 : Nat) : Int) n v) (fun q => ?_) (Ev.bind hcount (Ev.congr (fun q => if_pos (by rw [ew]; omega)) (Ev.bind h3 ?_)))
            · simp only [spec_ConstantCubes.l1]
              rw [if_pos (by omega), ea, hum, if_pos rfl, up1 (by omega), up1 (by omega)]
            · by_cases hz2 : z < 2
              · rw [decide_eq_true hz2] at hn'
                exact Ev.congr (fun q => if_pos hz2) hn'
              · rw [decide_eq_false hz2] at hn'
                exact Ev.congr (fun q => if_neg hz2) hn'
          · rw [cutRow, if_neg hz] at hn'
            have hum : ¬ u &&& m = u := fun e => hz (subset_iff.mp e)
            refine Ev.step (f := fun q => (spec_l2Count.f q (m : Int)).bind fun t => spec_ConstantCubes.l1 q (kk : Int) ((spec_ConstantCubes.num kk (cutAll n v kk m ++ cutRow n v m u) : Nat) : Int) (m : Int) ((u + 1 : Nat) : Int) n v) (fun q => ?_) (Ev.bind hcount hn')
            simp only [spec_ConstantCubes.l1]
            rw [if_pos (by omega), ea, if_neg (by omega), up1 (by omega)]
            simp only [ite_self]) (Ev.step (fun q => by
          simp only [spec_ConstantCubes.l1]
          rw [if_neg (by omega), up1 (by omega)]) hnext) (m + 1) 0 (by omega)
        refine Ev.step (fun q => ?_) inner
        simp only [spec_ConstantCubes.l0]
        rw [if_pos (Int.natCast_nonneg n), shl_one (by omega), if_pos (by omega), show cutRow n v m 0 = [] from rfl, List.append_nil]; rfl
      · rw [cutAll, if_neg hpk] at hnext
        have inner := Ev.count (fun q u => spec_ConstantCubes.l1 q (kk : Int) ((spec_ConstantCubes.num kk (cutAll n v kk m) : Nat) : Int) (m : Int) (u : Int) n v) (m + 1) R (fun u hu hn' => by
          refine Ev.step (f := fun q => (spec_l2Count.f q (m : Int)).bind fun t => if (wrap64 ((n : Int) - t)) = (kk : Int) then (if (Go.bits .and .i64 (u : Int) (m : Int)) = (u : Int) then ((spec_l3Cube.f q n v m u).bind fun t201 => (if t201 < 2 then (spec_ConstantCubes.l1 q (kk : Int) (wrap64 (((spec_ConstantCubes.num kk (cutAll n v kk m) : Nat) : Int) + 1)) m (wrap64 ((u : Int) + 1)) n v) else (spec_ConstantCubes.l1 q (kk : Int) ((spec_ConstantCubes.num kk (cutAll n v kk m) : Nat) : Int) m (wrap64 ((u : Int) + 1)) n v))) else (spec_ConstantCubes.l1 q (kk : Int) ((spec_ConstantCubes.num kk (cutAll n v kk m) : Nat) : Int) m (wrap64 ((u : Int) + 1)) n v)) else spec_ConstantCubes.l1 q (kk : Int) ((spec_ConstantCubes.num kk (cutAll n v kk m) : Nat) : Int) (m : Int) ((u + 1 : Nat) : Int) n v) (fun q => ?_) (Ev.bind hcount (Ev.congr (fun q => if_neg (by rw [ew]; omega)) hn'))
          simp only [spec_ConstantCubes.l1]
          rw [if_pos (by omega), up1 (x := u) (by omega)]) (Ev.step (fun q => by
          simp only [spec_ConstantCubes.l1]
          rw [if_neg (by omega), up1 (by omega)]) hnext) (m + 1) 0 (by omega)
        refine Ev.step (fun q => ?_) inner
        simp only [spec_ConstantCubes.l0]
        rw [if_pos (Int.natCast_nonneg n), shl_one (by omega), if_pos (by omega)]; rfl
    exact Ev.count (fun q m => spec_ConstantCubes.l0 q (kk : Int) ((spec_ConstantCubes.num kk (cutAll n v kk m) : Nat) : Int) (m : Int) n v) (2 ^ n) R row (Ev.end (fun q => by
      simp only [spec_ConstantCubes.l0]
      rw [if_pos (Int.natCast_nonneg n), shl_one (by omega), if_neg (by omega), hR])) (2 ^ n) 0 (by omega)

/-! ### facts on impl_ConstantCubes -/
--IMPORT M12
open Go.Proofs.Ythekbiofjhkecaa.M in
theorem impl_ConstantCubes.sum_num (k : Nat) : ∀ (l : List Nat) (c : Nat), c + l.length ≤ 1000000 → l.foldl (fun s x => wrap64 (s + impl_ConstantCubes.one k x)) (c : Int) = ((c + spec_ConstantCubes.num k l : Nat) : Int)
  | [], c, _ => rfl
  | x :: t, c, h => by
    rw [List.foldl_cons]
    rw [List.length_cons] at h
    by_cases hx : x = 0 ∨ x = 2 ^ 2 ^ k - 1
    · have e1 : impl_ConstantCubes.one k x = 1 := by unfold impl_ConstantCubes.one; rw [if_pos hx]
      have e2 : spec_ConstantCubes.num k (x :: t) = 1 + spec_ConstantCubes.num k t := by unfold spec_ConstantCubes.num spec_ConstantCubes.isC; rw [List.filter_cons, if_pos (decide_eq_true hx), List.length_cons]; omega
      rw [e1, up1 (by omega), impl_ConstantCubes.sum_num k t (c + 1) (by omega), e2, Nat.add_assoc]
    · have e1 : impl_ConstantCubes.one k x = 0 := by unfold impl_ConstantCubes.one; rw [if_neg hx]
      have e2 : spec_ConstantCubes.num k (x :: t) = spec_ConstantCubes.num k t := by unfold spec_ConstantCubes.num spec_ConstantCubes.isC; rw [List.filter_cons, if_neg (by simpa using hx)]
      rw [e1, Int.add_zero, w64 (by omega) (by omega), impl_ConstantCubes.sum_num k t c (by omega), e2]
open Go.Proofs.Ythekbiofjhkecaa.M in
theorem impl_ConstantCubes.ev (a b k : Int) : impl_ConstantCubes.f a b k = some (spec_ConstantCubes.r a b k) := by
  unfold impl_ConstantCubes.f spec_ConstantCubes.r
  rw [impl_isSmall.ev, Option.bind_some]
  cases hok : spec_l24Fine.ok a b k with
  | true =>
    obtain ⟨n, v, kk, rfl, rfl, rfl, hn, hv, hk⟩ := spec_l24Fine.nat hok
    have hl := cutAll_len (v := v) (k := kk) hn (2 ^ n) (Nat.le_refl _)
    have h16 := pow16 hn
    have hvi : (v : Int) < ((2 ^ 2 ^ n : Nat) : Int) := by exact_mod_cast hv
    rw [isT_mk (by omega) hv, decide_eq_true (show (n : Int) ≤ 4 by omega), if_pos ⟨rfl, by omega, by omega⟩, if_pos rfl]
    simp only [Int.toNat_natCast]
    rw [if_pos ⟨by omega, by omega, by omega, hvi⟩]
    congr 1
    have := impl_ConstantCubes.sum_num kk (cutAll n v kk (2 ^ n)) 0 (by omega)
    rw [Nat.zero_add] at this
    exact this
  | false =>
    have hno : ¬ ((isT a b && decide (a ≤ 4)) = true ∧ 0 ≤ k ∧ k ≤ a) := fun e => by
      unfold spec_l24Fine.ok at hok
      obtain ⟨e1, e2, e3⟩ := e
      rw [e1, decide_eq_true ⟨e2, e3⟩] at hok
      cases hok
    rw [if_neg hno, if_neg (by decide)]

/-! ### facts on spec_l7Least -/
--IMPORT M18
open Go.Proofs.Ythekbiofjhkecaa.M in
theorem spec_l7Least.mnx (b R0 R1 : Nat) (h0 : R0 ≤ 100) (h1 : R1 ≤ 100) : mn (b : Int) (wrap64 (1 + (mx (R0 : Int) (R1 : Int)))) = ((min b (1 + max R0 R1) : Nat) : Int) := by
  have e : mx (R0 : Int) (R1 : Int) = ((max R0 R1 : Nat) : Int) := by unfold mx; split <;> omega
  rw [e, w64 (by omega) (by omega)]
  unfold mn
  split <;> omega
open Go.Proofs.Ythekbiofjhkecaa.M in
theorem spec_l7Least.hasBit {m i : Nat} (hm : m < 2 ^ 63) (hi : i ≤ 62) : Go.bits .and .i64 (m : Int) (shl .i64 1 (i : Int)) = (((m.testBit i).toNat * 2 ^ i : Nat) : Int) := by
  have e : m &&& 2 ^ i = (m.testBit i).toNat * 2 ^ i := by
    apply Nat.eq_of_testBit_eq; intro j
    rw [Nat.testBit_and, Nat.testBit_two_pow]
    by_cases h : i = j
    · subst h; cases m.testBit i <;> simp
    · cases m.testBit i <;> simp [h, Nat.testBit_two_pow]
  rw [shl_one hi, and_nat hm (p63 hi), e]
open Go.Proofs.Ythekbiofjhkecaa.M in
theorem spec_l7Least.ev {n v : Nat} (hn : n ≤ 4) (hv : v < 2 ^ 2 ^ n) : ∀ d m u, Cb n m u → pc m + d = n → Ev (fun k => spec_l7Least.f k (n : Int) (v : Int) (m : Int) (u : Int)) ((ldC 10 n v d m u : Nat) : Int) := by
  have h16 := pow16 hn
  intro d
  induction d with
  | zero =>
    intro m u hc hp
    have hm := hc.hm
    have hcon := hc.con (v := v) (by omega)
    have h3 := spec_l3Cube.ev (n := n) (v := v) (m := m) (u := u) (by omega) hv (by omega)
    refine Ev.step (f := fun k => (spec_l3Cube.f k (n : Int) (v : Int) (m : Int) (u : Int)).bind fun t => if t < 2 then some 0 else spec_l7Least.l0 k (m : Int) (u : Int) 10 0 (n : Int) (v : Int)) (fun k => rfl) (Ev.bind h3 (Ev.congr (fun k => if_pos (of_decide_eq_true hcon)) (Ev.now _)))
  | succ d ih =>
    intro m u hc hp
    have hm := hc.hm
    have hu := hc.hu
    have h3 := spec_l3Cube.ev (n := n) (v := v) (m := m) (u := u) (by omega) hv (by omega)
    refine Ev.step (f := fun k => (spec_l3Cube.f k (n : Int) (v : Int) (m : Int) (u : Int)).bind fun t => if t < 2 then some 0 else spec_l7Least.l0 k (m : Int) (u : Int) 10 0 (n : Int) (v : Int)) (fun k => rfl) (Ev.bind h3 ?_)
    by_cases hcon : conL v (inX n m u) = true
    · have e : ldC 10 n v (d + 1) m u = 0 := by rw [ldC, if_pos hcon]
      rw [e]
      exact Ev.congr (fun k => if_pos (of_decide_eq_true hcon)) (Ev.now _)
    · have e : ldC 10 n v (d + 1) m u = bestOf (fun i => max (ldC 10 n v d (m ||| 2 ^ i) u) (ldC 10 n v d (m ||| 2 ^ i) (u ||| 2 ^ i))) 10 (frL n m) := by rw [ldC, if_neg hcon]
      rw [e]
      refine Ev.congr (fun k => if_neg (fun h => hcon (decide_eq_true h))) ?_
      exact Ev.count (fun q i => spec_l7Least.l0 q (m : Int) (u : Int) ((bestOf (fun i => max (ldC 10 n v d (m ||| 2 ^ i) u) (ldC 10 n v d (m ||| 2 ^ i) (u ||| 2 ^ i))) 10 (frL i m) : Nat) : Int) (i : Int) (n : Int) (v : Int)) n _ (fun i hi hnext => by
        cases hb : m.testBit i with
        | true =>
          rw [frL_succ_held hb] at hnext
          refine Ev.step (fun q => ?_) hnext
          have hp2 := Nat.two_pow_pos i
          simp only [spec_l7Least.l0]
          rw [if_pos (show (i : Int) < (n : Int) by omega), if_pos (Int.natCast_nonneg i), spec_l7Least.hasBit (by omega) (by omega), hb, if_neg (by rw [show true.toNat * 2 ^ i = 2 ^ i from Nat.one_mul _]; omega), up1 (by omega)]
        | false =>
          have hmem : i ∈ frL n m := by unfold frL; exact List.mem_filter.mpr ⟨List.mem_range.mpr hi, by rw [hb]; rfl⟩
          obtain ⟨q0, q1, q2⟩ := hc.step hmem
          have l0 := ldC_le (b := 10) (v := v) (by omega) q0 (d := d) (by omega)
          have l1 := ldC_le (b := 10) (v := v) (by omega) q1 (d := d) (by omega)
          rw [frL_succ_free hb, bestOf_snoc] at hnext
          refine Ev.step (f := fun q => (spec_l7Least.f q (n : Int) (v : Int) ((m ||| 2 ^ i : Nat) : Int) (u : Int)).bind fun t113 => (spec_l7Least.f q (n : Int) (v : Int) ((m ||| 2 ^ i : Nat) : Int) ((u ||| 2 ^ i : Nat) : Int)).bind fun t114 => spec_l7Least.l0 q (m : Int) (u : Int) (mn ((bestOf (fun i => max (ldC 10 n v d (m ||| 2 ^ i) u) (ldC 10 n v d (m ||| 2 ^ i) (u ||| 2 ^ i))) 10 (frL i m) : Nat) : Int) (wrap64 (1 + (mx t113 t114)))) ((i + 1 : Nat) : Int) (n : Int) (v : Int)) (fun q => ?_) (Ev.bind (ih _ _ q0 (by omega)) (Ev.bind (ih _ _ q1 (by omega)) ?_))
          · have hp2 := p63 (n := i) (by omega)
            simp only [spec_l7Least.l0]
            rw [if_pos (show (i : Int) < (n : Int) by omega), if_pos (Int.natCast_nonneg i), spec_l7Least.hasBit (by omega) (by omega), hb, if_pos (by simp), up1 (by omega), shl_one (by omega), or_nat (by omega) hp2, or_nat (by omega) hp2]
          · rw [spec_l7Least.mnx _ _ _ (by omega) (by omega)]
            exact hnext) (Ev.end (fun q => by
        simp only [spec_l7Least.l0]
        rw [if_neg (by omega)])) n 0 (by omega)

/-! ### facts on spec_DepthSum -/
--IMPORT M18
open Go.Proofs.Ythekbiofjhkecaa.M in
/-- the least depth of a word -/
def spec_DepthSum.H (k x : Nat) : Int := ((ldC k k x k 0 0 : Nat) : Int)
open Go.Proofs.Ythekbiofjhkecaa.M in
def spec_DepthSum.S (k : Nat) (l : List Nat) : Int := l.foldl (fun s x => wrap64 (s + spec_DepthSum.H k x)) 0
open Go.Proofs.Ythekbiofjhkecaa.M in
theorem spec_DepthSum.S_snoc (k : Nat) (l : List Nat) (x : Nat) : spec_DepthSum.S k (l ++ [x]) = wrap64 (spec_DepthSum.S k l + spec_DepthSum.H k x) := by
  unfold spec_DepthSum.S
  rw [List.foldl_append]; rfl
open Go.Proofs.Ythekbiofjhkecaa.M in
/-- the answer -/
def spec_DepthSum.r (a b k : Int) : Int := if spec_l24Fine.ok a b k = true then spec_DepthSum.S k.toNat (cutAll a.toNat b.toNat k.toNat (2 ^ a.toNat)) else -1
open Go.Proofs.Ythekbiofjhkecaa.M in
theorem spec_DepthSum.ev (a b k : Int) : Ev (fun q => spec_DepthSum.f q a b k) (spec_DepthSum.r a b k) := by
  unfold spec_DepthSum.r
  refine Ev.congr (f := fun q => if spec_l24Fine.ok a b k = true then spec_DepthSum.l0 q k 0 0 a b else some (-1)) (fun q => by unfold spec_DepthSum.f; rw [spec_l24Fine.ev]; rfl) ?_
  cases hok : spec_l24Fine.ok a b k with
  | false => exact Ev.now _
  | true =>
    obtain ⟨n, v, kk, rfl, rfl, rfl, hn, hv, hk⟩ := spec_l24Fine.nat hok
    simp only [if_true, Int.toNat_natCast]
    have h16 := pow16 hn
    have HV := Aside0.mk hv
    clear hv
    generalize hR : spec_DepthSum.S kk (cutAll n v kk (2 ^ n)) = R
    have row : ∀ m, m < 2 ^ n → Ev (fun q => spec_DepthSum.l0 q (kk : Int) (spec_DepthSum.S kk (cutAll n v kk (m + 1))) ((m + 1 : Nat) : Int) n v) R → Ev (fun q => spec_DepthSum.l0 q (kk : Int) (spec_DepthSum.S kk (cutAll n v kk m)) (m : Int) n v) R := by
      intro m hm hnext
      have hpn : pc m ≤ n := by have := left_all n (by omega) m (by omega) hm; omega
      have hcount := spec_l2Count.ev (w := m) (by omega)
      have ew : wrap64 ((n : Int) - ((pc m : Nat) : Int)) = (n : Int) - ((pc m : Nat) : Int) := w64 (by omega) (by omega)
      by_cases hpk : pc m + kk = n
      · rw [cutAll, if_pos hpk, cutRow_full hm] at hnext
        have inner := Ev.count (fun q u => spec_DepthSum.l1 q (kk : Int) (spec_DepthSum.S kk (cutAll n v kk m ++ cutRow n v m u)) (m : Int) (u : Int) n v) (m + 1) R (fun u hu hn' => by
          have ea : Go.bits .and .i64 (u : Int) (m : Int) = ((u &&& m : Nat) : Int) := and_nat (by omega) (by omega)
          by_cases hz : andn u m = 0
          · have hum : u &&& m = u := subset_iff.mpr hz
            have hcb : Cb n m u := ⟨hn, hm, by omega, hz⟩
            have hw := ldC_whole (b := kk) (c := 10) (Nat.le_refl kk) (by omega) hcb HV.out hpk
            have hs := spec_l7Least.ev hn HV.out kk m u hcb hpk
            rw [cutRow, if_pos hz, ← List.append_assoc, spec_DepthSum.S_snoc] at hn'
            unfold spec_DepthSum.H at hn'
            rw [hw] at hn'
            generalize spec_DepthSum.S kk (cutAll n v kk m ++ cutRow n v m u) = s at hn' ⊢
            refine Ev.step (f := fun q => (spec_l2Count.f q (m : Int)).bind fun t => if (wrap64 ((n : Int) - t)) = (kk : Int) then (spec_l7Least.f q n v m u).bind fun y => spec_DepthSum.l1 q (kk : Int) (wrap64 (s + y)) (m : Int) ((u + 1 : Nat) : Int) n v else spec_DepthSum.l1 q (kk : Int) s (m : Int) ((u + 1 : Nat) : Int) n v) (fun q => ?_) (Ev.bind hcount (Ev.congr (fun q => if_pos (by rw [ew]; omega)) (Ev.bind hs hn')))
            simp only [spec_DepthSum.l1]
            rw [if_pos (by omega), ea, hum, if_pos rfl, up1 (by omega)]
          · rw [cutRow, if_neg hz] at hn'
            have hum : ¬ u &&& m = u := fun e => hz (subset_iff.mp e)
            generalize spec_DepthSum.S kk (cutAll n v kk m ++ cutRow n v m u) = s at hn' ⊢
            refine Ev.step (f := fun q => (spec_l2Count.f q (m : Int)).bind fun t => spec_DepthSum.l1 q (kk : Int) s (m : Int) ((u + 1 : Nat) : Int) n v) (fun q => ?_) (Ev.bind hcount hn')
            simp only [spec_DepthSum.l1]
            rw [if_pos (by omega), ea, if_neg (by omega), up1 (by omega)]
            simp only [ite_self]) (Ev.step (fun q => by
          simp only [spec_DepthSum.l1]
          rw [if_neg (by omega), up1 (by omega)]) hnext) (m + 1) 0 (by omega)
        refine Ev.step (fun q => ?_) inner
        simp only [spec_DepthSum.l0]
        rw [if_pos (Int.natCast_nonneg n), shl_one (by omega), if_pos (by omega), show cutRow n v m 0 = [] from rfl, List.append_nil]; rfl
      · rw [cutAll, if_neg hpk] at hnext
        generalize spec_DepthSum.S kk (cutAll n v kk m) = s at hnext ⊢
        have inner := Ev.count (fun q u => spec_DepthSum.l1 q (kk : Int) s (m : Int) (u : Int) n v) (m + 1) R (fun u hu hn' => by
          refine Ev.step (f := fun q => (spec_l2Count.f q (m : Int)).bind fun t => if (wrap64 ((n : Int) - t)) = (kk : Int) then (if (Go.bits .and .i64 (u : Int) (m : Int)) = (u : Int) then ((spec_l7Least.f q n v m u).bind fun t201 => (spec_DepthSum.l1 q (kk : Int) (wrap64 (s + t201)) m (wrap64 ((u : Int) + 1)) n v)) else (spec_DepthSum.l1 q (kk : Int) s m (wrap64 ((u : Int) + 1)) n v)) else spec_DepthSum.l1 q (kk : Int) s (m : Int) ((u + 1 : Nat) : Int) n v) (fun q => ?_) (Ev.bind hcount (Ev.congr (fun q => if_neg (by rw [ew]; omega)) hn'))
          simp only [spec_DepthSum.l1]
          rw [if_pos (by omega), up1 (x := u) (by omega)]) (Ev.step (fun q => by
          simp only [spec_DepthSum.l1]
          rw [if_neg (by omega), up1 (by omega)]) hnext) (m + 1) 0 (by omega)
        refine Ev.step (fun q => ?_) inner
        simp only [spec_DepthSum.l0]
        rw [if_pos (Int.natCast_nonneg n), shl_one (by omega), if_pos (by omega)]; rfl
    exact Ev.count (fun q m => spec_DepthSum.l0 q (kk : Int) (spec_DepthSum.S kk (cutAll n v kk m)) (m : Int) n v) (2 ^ n) R row (Ev.end (fun q => by
      simp only [spec_DepthSum.l0]
      rw [if_pos (Int.natCast_nonneg n), shl_one (by omega), if_neg (by omega), hR])) (2 ^ n) 0 (by omega)

/-! ### facts on impl_DepthSum -/
--IMPORT M18
open Go.Proofs.Ythekbiofjhkecaa.M in
theorem impl_DepthSum.ev (a b k : Int) : impl_DepthSum.f a b k = some (spec_DepthSum.r a b k) := by
  unfold spec_DepthSum.r
  cases hok : spec_l24Fine.ok a b k with
  | true =>
    obtain ⟨n, v, kk, rfl, rfl, rfl, hn, hv, hk⟩ := spec_l24Fine.nat hok
    have hvi : (v : Int) < ((2 ^ 2 ^ n : Nat) : Int) := by exact_mod_cast hv
    have hT := isT_mk (n := n) (v := v) (by omega) hv
    unfold impl_DepthSum.f
    rw [impl_isSmall.ev, Option.bind_some, hT, decide_eq_true (show (n : Int) ≤ 4 by omega), if_pos ⟨rfl, by omega, by omega⟩, if_pos rfl]
    simp only [Int.toNat_natCast]
    rw [if_pos ⟨⟨by omega, by omega, by omega, hvi⟩, fun x hx => by rw [impl_isSmall.ev, isT_mk (by omega) hx, decide_eq_true (show (kk : Int) ≤ 4 by omega)]; rfl⟩]
    rfl
  | false =>
    have hno : ¬ ((isT a b && decide (a ≤ 4)) = true ∧ 0 ≤ k ∧ k ≤ a) := fun e => by
      unfold spec_l24Fine.ok at hok
      obtain ⟨e1, e2, e3⟩ := e
      rw [e1, decide_eq_true ⟨e2, e3⟩] at hok
      cases hok
    unfold impl_DepthSum.f
    rw [impl_isSmall.ev, Option.bind_some, if_neg hno, if_neg (by decide)]

/-! ### facts on spec_l3Restrict -/
--IMPORT M0
open Go.Proofs.Ythekbiofjhkecaa.M in
theorem spec_l3Restrict.ins_ev : ∀ x : Nat, x < 16 → ∀ i : Nat, i < 5 → ∀ b : Nat, b < 2 → (spec_l3Insert.f (x : Int) (i : Int) (b : Int) = some ((ins x i b : Nat) : Int) ∧ ins x i b < 32) :=
  allB_dec3 (P := fun x i b => spec_l3Insert.f (x : Int) (i : Int) (b : Int) = some ((ins x i b : Nat) : Int) ∧ ins x i b < 32) (by decide +kernel)
open Go.Proofs.Ythekbiofjhkecaa.M in
theorem spec_l3Restrict.ev {n v i b : Nat} (h1 : 1 ≤ n) (hn : n ≤ 5) (hv : v < 2 ^ 63) (hi : i < n) (hb : b ≤ 1) : Ev (fun k => spec_l3Restrict.f k n v i b) (((n - 1 : Nat) : Int), ((rstW n v i b : Nat) : Int)) := by
  have h16 := half16 hn
  have en : wrap64 ((n : Int) - 1) = ((n - 1 : Nat) : Int) := by rw [w64 (by omega) (by omega)]; omega
  have key : ∀ d x, x + d = 2 ^ (n - 1) → Ev (fun k => spec_l3Restrict.l0 k i b ((prefW (fun x => v.testBit (ins x i b)) x : Nat) : Int) (x : Int) n v) (((n - 1 : Nat) : Int), ((rstW n v i b : Nat) : Int)) := by
    refine Ev.count (fun k x => spec_l3Restrict.l0 k i b ((prefW (fun x => v.testBit (ins x i b)) x : Nat) : Int) (x : Int) n v) (2 ^ (n - 1)) _ ?_ ?_
    · intro x hx h
      refine Ev.step (fun k => ?_) h
      obtain ⟨e1, e2⟩ := spec_l3Restrict.ins_ev x (by omega) i (by omega) b (by omega)
      simp only [spec_l3Restrict.l0]
      rw [en, if_pos (Int.natCast_nonneg _), shl_one (by omega), if_pos (by omega), e1, Option.bind_some, if_pos (Int.natCast_nonneg _), if_pos (Int.natCast_nonneg _), bit_nat hv (by omega), prefW_step (g := fun x => v.testBit (ins x i b)) (by omega), w64 (by omega) (by omega)]
      rfl
    · refine Ev.end (fun k => ?_)
      simp only [spec_l3Restrict.l0]
      rw [en, if_pos (Int.natCast_nonneg _), shl_one (by omega), if_neg (by omega)]; rfl
  exact key (2 ^ (n - 1)) 0 (by omega)

/-! ### facts on spec_RealCoefficients -/
--IMPORT M8
open Go.Proofs.Ythekbiofjhkecaa.M in
/-- what an input adds to a coefficient -/
def spec_RealCoefficients.T (v m x : Nat) : Int := if x &&& m = x then (if pc (m ^^^ x) % 2 = 1 then -(((v.testBit x).toNat : Nat) : Int) else (((v.testBit x).toNat : Nat) : Int)) else 0
open Go.Proofs.Ythekbiofjhkecaa.M in
theorem spec_RealCoefficients.T_bound (v m x : Nat) : -1 ≤ spec_RealCoefficients.T v m x ∧ spec_RealCoefficients.T v m x ≤ 1 := by
  have := toNat_le (v.testBit x)
  unfold spec_RealCoefficients.T; split
  · split <;> omega
  · omega
open Go.Proofs.Ythekbiofjhkecaa.M in
/-- a coefficient -/
def spec_RealCoefficients.C (v m : Nat) : Int := sumZ (spec_RealCoefficients.T v m) (m + 1)
open Go.Proofs.Ythekbiofjhkecaa.M in
theorem spec_RealCoefficients.stop (v m : Nat) : ∀ d, sumZ (spec_RealCoefficients.T v m) (m + 1 + d) = spec_RealCoefficients.C v m
  | 0 => rfl
  | d + 1 => by
    have e : spec_RealCoefficients.T v m (m + 1 + d) = 0 := by
      unfold spec_RealCoefficients.T
      rw [if_neg]
      intro h
      have : (m + 1 + d) &&& m ≤ m := Nat.and_le_right
      omega
    rw [← Nat.add_assoc, sumZ, spec_RealCoefficients.stop v m d, e, Int.add_zero]
open Go.Proofs.Ythekbiofjhkecaa.M in
theorem spec_RealCoefficients.full {n v m : Nat} (hm : m < 2 ^ n) : sumZ (spec_RealCoefficients.T v m) (2 ^ n) = spec_RealCoefficients.C v m := by
  have := spec_RealCoefficients.stop v m (2 ^ n - (m + 1))
  rw [show m + 1 + (2 ^ n - (m + 1)) = 2 ^ n by omega] at this
  exact this
open Go.Proofs.Ythekbiofjhkecaa.M in
theorem spec_RealCoefficients.tm (p : Nat) : Int.tmod ((p : Nat) : Int) 2 = ((p % 2 : Nat) : Int) := by
  rw [Int.tmod_eq_emod_of_nonneg (Int.natCast_nonneg p)]; omega
open Go.Proofs.Ythekbiofjhkecaa.M in
theorem spec_RealCoefficients.ev {n v : Nat} (hn : n ≤ 5) (hv : v < 2 ^ 2 ^ n) : Ev (fun k => spec_RealCoefficients.f k n v) (listZ (2 ^ n) (spec_RealCoefficients.C v)) := by
  have h5 := pow_le_5 hn
  have hvb : v < 2 ^ 63 := Nat.lt_trans hv (full_p63 hn)
  have hT : spec_IsTable.f (n : Int) (v : Int) = some true := by rw [spec_IsTable.ev, isT_mk hn hv]
  clear hv
  generalize hR : listZ (2 ^ n) (spec_RealCoefficients.C v) = R
  have row : ∀ m, m < 2 ^ n → Ev (fun k => spec_RealCoefficients.l0 k (listZ (m + 1) (spec_RealCoefficients.C v)) ((m + 1 : Nat) : Int) n v) R → Ev (fun k => spec_RealCoefficients.l0 k (listZ m (spec_RealCoefficients.C v)) (m : Int) n v) R := by
    intro m hm hnext
    have inner := Ev.count (fun k x => spec_RealCoefficients.l1 k (listZ m (spec_RealCoefficients.C v)) (m : Int) (sumZ (spec_RealCoefficients.T v m) x) (x : Int) n v) (m + 1) R (fun x hx h => by
      have hb := sumZ_bound (spec_RealCoefficients.T_bound v m) x
      have htb := toNat_le (v.testBit x)
      have e1 : wrap64 ((x : Int) + 1) = ((x + 1 : Nat) : Int) := up1 (by omega)
      have ea : Go.bits .and .i64 (x : Int) (m : Int) = ((x &&& m : Nat) : Int) := and_nat (by omega) (by omega)
      have ex : Go.bits .xor .i64 (m : Int) (x : Int) = ((m ^^^ x : Nat) : Int) := xor_nat (by omega) (by omega)
      have eb : Go.bits .and .i64 (shr .i64 (v : Int) (x : Int)) 1 = (((v.testBit x).toNat : Nat) : Int) := bit_nat hvb (by omega)
      by_cases hq : x &&& m = x
      · have hc := spec_l2Count.ev (w := m ^^^ x) (Nat.xor_lt_two_pow (n := 32) (by omega) (by omega))
        have es : sumZ (spec_RealCoefficients.T v m) (x + 1) = sumZ (spec_RealCoefficients.T v m) x + (if pc (m ^^^ x) % 2 = 1 then -(((v.testBit x).toNat : Nat) : Int) else (((v.testBit x).toNat : Nat) : Int)) := by rw [sumZ]; congr 1; unfold spec_RealCoefficients.T; rw [if_pos hq]
        rw [es] at h
        have htm := spec_RealCoefficients.tm (pc (m ^^^ x))
        generalize pc (m ^^^ x) = p at hc h htm
        generalize ((v.testBit x).toNat) = b at h htb eb
        generalize sumZ (spec_RealCoefficients.T v m) x = s at h hb
        have hw1 : wrap64 (s - (b : Int)) = s - (b : Int) := w64 (by omega) (by omega)
        have hw2 : wrap64 (s + (b : Int)) = s + (b : Int) := w64 (by omega) (by omega)
        refine Ev.step (f := fun k => (spec_l2Count.f k ((m ^^^ x : Nat) : Int)).bind fun t => if (Int.tmod t 2) = 1 then spec_RealCoefficients.l1 k (listZ m (spec_RealCoefficients.C v)) (m : Int) (s - (b : Int)) ((x + 1 : Nat) : Int) n v else spec_RealCoefficients.l1 k (listZ m (spec_RealCoefficients.C v)) (m : Int) (s + (b : Int)) ((x + 1 : Nat) : Int) n v) (fun k => ?_) (Ev.bind hc ?_)
        · simp only [spec_RealCoefficients.l1]
          rw [if_pos (by omega), ea, if_pos (by omega), ex, eb, hw1, hw2, e1]
          simp only [if_pos (Int.natCast_nonneg x)]
        · by_cases hp : p % 2 = 1
          · rw [if_pos hp] at h
            exact Ev.congr (fun k => if_pos (by rw [htm]; omega)) h
          · rw [if_neg hp] at h
            exact Ev.congr (fun k => if_neg (by rw [htm]; omega)) h
      · have es : sumZ (spec_RealCoefficients.T v m) (x + 1) = sumZ (spec_RealCoefficients.T v m) x := by rw [sumZ]; unfold spec_RealCoefficients.T; rw [if_neg hq, Int.add_zero]
        rw [es] at h
        refine Ev.step (fun k => ?_) h
        simp only [spec_RealCoefficients.l1]
        rw [if_pos (by omega), ea, if_neg (by omega), e1]) (Ev.step (fun k => by
      simp only [spec_RealCoefficients.l1]
      rw [if_neg (by omega), if_pos (by rw [listZ_length]; omega), up1 (by omega)]
      rw [show sumZ (spec_RealCoefficients.T v m) (m + 1) = spec_RealCoefficients.C v m from rfl, listZ_snoc]) hnext) (m + 1) 0 (by omega)
    refine Ev.step (f := fun k => spec_RealCoefficients.j1 k (listZ m (spec_RealCoefficients.C v)) (m : Int) true n v) (fun k => ?_) (Ev.step (fun k => ?_) inner)
    · simp only [spec_RealCoefficients.l0]
      rw [hT, Option.bind_some, if_pos rfl, if_pos (Int.natCast_nonneg n), shl_one (by omega), decide_eq_true (by omega)]
    · simp only [spec_RealCoefficients.j1]
      rw [if_pos trivial]; rfl
  exact Ev.count (fun k m => spec_RealCoefficients.l0 k (listZ m (spec_RealCoefficients.C v)) (m : Int) n v) (2 ^ n) R row (Ev.step (f := fun k => spec_RealCoefficients.j1 k (listZ (2 ^ n) (spec_RealCoefficients.C v)) ((2 ^ n : Nat) : Int) false n v) (fun k => by
    simp only [spec_RealCoefficients.l0]
    rw [hT, Option.bind_some, if_pos rfl, if_pos (Int.natCast_nonneg n), shl_one (by omega), decide_eq_false (by omega)]) (Ev.end (fun k => by
    simp only [spec_RealCoefficients.j1]
    rw [if_neg (by decide), hR]))) (2 ^ n) 0 (by omega)

/-! ### facts on impl_Table_coefficients -/
--IMPORT M8
open Go.Proofs.Ythekbiofjhkecaa.M in
theorem impl_Table_coefficients.ev {n v : Nat} (hn : n ≤ 5) (hv : v < 2 ^ 2 ^ n) : Ev (fun k => impl_Table_coefficients.f k n v) (listZ (2 ^ n) (spec_RealCoefficients.C v)) := by
  have h5 := pow_le_5 hn
  have hvb : v < 2 ^ 63 := Nat.lt_trans hv (full_p63 hn)
  have hsz : impl_Table_size.f (n : Int) (v : Int) = some ((2 ^ n : Nat) : Int) := by
    unfold impl_Table_size.f
    rw [if_pos (Int.natCast_nonneg n), shl_one (by omega)]
  clear hv
  have inner : ∀ m, m < 2 ^ n → ∀ (r : List Int), Ev (fun k => impl_Table_coefficients.l0 k (listZ (2 ^ n) (fun j => if j < m + 1 then spec_RealCoefficients.C v j else 0)) ((2 ^ n : Nat) : Int) ((m + 1 : Nat) : Int) n v) r →
      ∀ d x, x + d = 2 ^ n → Ev (fun k => impl_Table_coefficients.l1 k (listZ (2 ^ n) (fun j => if j < m then spec_RealCoefficients.C v j else if j = m then sumZ (spec_RealCoefficients.T v m) x else 0)) (m : Int) ((2 ^ n : Nat) : Int) (m : Int) ((2 ^ n : Nat) : Int) (x : Int) n v) r := by
    intro m hm r he
    refine Ev.count (fun k x => impl_Table_coefficients.l1 k (listZ (2 ^ n) (fun j => if j < m then spec_RealCoefficients.C v j else if j = m then sumZ (spec_RealCoefficients.T v m) x else 0)) (m : Int) ((2 ^ n : Nat) : Int) (m : Int) ((2 ^ n : Nat) : Int) (x : Int) n v) (2 ^ n) r ?_ ?_
    · intro x hx h
      have hb := sumZ_bound (spec_RealCoefficients.T_bound v m) x
      have htb := toNat_le (v.testBit x)
      have e1 : wrap64 ((x : Int) + 1) = ((x + 1 : Nat) : Int) := up1 (by omega)
      have ea : Go.bits .andNot .i64 (x : Int) (m : Int) = ((andn x m : Nat) : Int) := andNot_nat (by omega) (by omega)
      have ex : Go.bits .xor .i64 (m : Int) (x : Int) = ((m ^^^ x : Nat) : Int) := xor_nat (by omega) (by omega)
      have eb : Go.bits .and .i64 (shr .i64 (v : Int) (x : Int)) 1 = (((v.testBit x).toNat : Nat) : Int) := bit_nat hvb (by omega)
      refine Ev.step (fun k => ?_) h
      simp only [impl_Table_coefficients.l1]
      unfold impl_Table_at.f
      rw [if_pos (by omega), ea]
      by_cases hq : x &&& m = x
      · have hq0 : andn x m = 0 := subset_iff.mp hq
        have hc := impl_ones.ev (w := m ^^^ x) (Nat.xor_lt_two_pow (n := 32) (by omega) (by omega))
        have htm := spec_RealCoefficients.tm (pc (m ^^^ x))
        rw [if_pos (by omega), ex, hc, Option.bind_some, htm, e1, eb]
        have hset : ∀ y : Int, y = spec_RealCoefficients.T v m x → (listZ (2 ^ n) (fun j => if j < m then spec_RealCoefficients.C v j else if j = m then sumZ (spec_RealCoefficients.T v m) x else 0)).set m (wrap64 (sumZ (spec_RealCoefficients.T v m) x + y)) = listZ (2 ^ n) (fun j => if j < m then spec_RealCoefficients.C v j else if j = m then sumZ (spec_RealCoefficients.T v m) (x + 1) else 0) := by
          intro y hy
          refine listZ_set hm ?_ (fun j hj hne => ?_)
          · have hTb := spec_RealCoefficients.T_bound v m x
            rw [if_neg (by omega), if_pos rfl, w64 (by omega) (by omega), hy]; rfl
          · by_cases h1 : j < m
            · rw [if_pos h1, if_pos h1]
            · rw [if_neg h1, if_neg h1, if_neg hne, if_neg hne]
        by_cases hp : pc (m ^^^ x) % 2 = 1
        · rw [if_neg (by omega), if_pos (by omega), if_pos (by rw [listZ_length]; omega), if_pos (Int.natCast_nonneg x), Option.bind_some, listZ_rd hm, if_neg (by omega), if_pos rfl, Int.toNat_natCast, Int.sub_eq_add_neg,
            hset (-(((v.testBit x).toNat : Nat) : Int)) (by unfold spec_RealCoefficients.T; rw [if_pos hq, if_pos hp])]
        · rw [if_pos (by omega), if_pos (by omega), if_pos (by rw [listZ_length]; omega), if_pos (Int.natCast_nonneg x), Option.bind_some, listZ_rd hm, if_neg (by omega), if_pos rfl, Int.toNat_natCast,
            hset ((((v.testBit x).toNat : Nat) : Int)) (by unfold spec_RealCoefficients.T; rw [if_pos hq, if_neg hp])]
      · have hq0 : ¬ andn x m = 0 := fun e => hq (subset_iff.mpr e)
        rw [if_neg (by omega), e1]
        have es : sumZ (spec_RealCoefficients.T v m) (x + 1) = sumZ (spec_RealCoefficients.T v m) x := by rw [sumZ]; unfold spec_RealCoefficients.T; rw [if_neg hq, Int.add_zero]
        rw [es]
    · refine Ev.step (fun k => ?_) he
      simp only [impl_Table_coefficients.l1]
      rw [if_neg (by omega), up1 (by omega)]
      rw [listZ_congr (f' := fun j => if j < m + 1 then spec_RealCoefficients.C v j else 0) (fun j hj => by
        by_cases h1 : j < m
        · rw [if_pos h1, if_pos (by omega)]
        · rw [if_neg h1]
          by_cases h2 : j = m
          · rw [if_pos h2, if_pos (by omega), h2, spec_RealCoefficients.full hm]
          · rw [if_neg h2, if_neg (by omega)])]
  have key : ∀ d m, m + d = 2 ^ n → Ev (fun k => impl_Table_coefficients.l0 k (listZ (2 ^ n) (fun j => if j < m then spec_RealCoefficients.C v j else 0)) ((2 ^ n : Nat) : Int) (m : Int) n v) (listZ (2 ^ n) (spec_RealCoefficients.C v)) := by
    refine Ev.count (fun k m => impl_Table_coefficients.l0 k (listZ (2 ^ n) (fun j => if j < m then spec_RealCoefficients.C v j else 0)) ((2 ^ n : Nat) : Int) (m : Int) n v) (2 ^ n) _ ?_ ?_
    · intro m hm h
      refine Ev.step (fun k => ?_) (inner m hm _ h (2 ^ n) 0 (by omega))
      simp only [impl_Table_coefficients.l0]
      rw [if_pos (by omega), hsz, Option.bind_some]
      rw [listZ_congr (f' := fun j => if j < m then spec_RealCoefficients.C v j else if j = m then sumZ (spec_RealCoefficients.T v m) 0 else 0) (fun j hj => by
        by_cases h1 : j < m
        · rw [if_pos h1, if_pos h1]
        · rw [if_neg h1, if_neg h1]
          by_cases h2 : j = m
          · rw [if_pos h2]; rfl
          · rw [if_neg h2])]
      rfl
    · refine Ev.end (fun k => ?_)
      simp only [impl_Table_coefficients.l0]
      rw [if_neg (by omega), listZ_congr (f' := spec_RealCoefficients.C v) (fun j hj => by rw [if_pos hj])]
  have h0 := key (2 ^ n) 0 (by omega)
  rw [listZ_zero (f := fun j => if j < 0 then spec_RealCoefficients.C v j else 0) (fun j _ => by rw [if_neg (by omega)])] at h0
  refine Ev.congr (fun k => ?_) h0
  unfold impl_Table_coefficients.f
  rw [hsz, Option.bind_some, if_pos (Int.natCast_nonneg _), if_pos (by rw [Int.toNat_natCast]; omega), Int.toNat_natCast, Option.bind_some, List.length_replicate]; rfl

/-! ### facts on spec_RealDegree -/
--IMPORT M12
--IMPORT M8
open Go.Proofs.Ythekbiofjhkecaa.M in
/-- is a coefficient not 0 -/
def spec_RealDegree.p (n v : Nat) (m : Nat) : Bool := (listZ (2 ^ n) (spec_RealCoefficients.C v)).getD m 0 != 0
open Go.Proofs.Ythekbiofjhkecaa.M in
/-- the degree -/
def spec_RealDegree.deg (n v : Nat) : Int := impl_degree.most (spec_RealDegree.p n v) (2 ^ n)
open Go.Proofs.Ythekbiofjhkecaa.M in
theorem spec_RealDegree.ev {n v : Nat} (hn : n ≤ 5) (hv : v < 2 ^ 2 ^ n) : Ev (fun k => spec_RealDegree.f k n v) (spec_RealDegree.deg n v) := by
  have h5 := pow_le_5 hn
  have hT : spec_IsTable.f (n : Int) (v : Int) = some true := by rw [spec_IsTable.ev, isT_mk hn hv]
  have hc := spec_RealCoefficients.ev hn hv
  refine Ev.congr (f := fun k => (spec_RealCoefficients.f k n v).bind fun t => spec_RealDegree.l0 k t (-1) 0) (fun k => by unfold spec_RealDegree.f; rw [hT, Option.bind_some, if_pos rfl]) (Ev.bind hc ?_)
  clear hv hc hT
  unfold spec_RealDegree.deg
  have hp : ∀ i, spec_RealDegree.p n v i = ((listZ (2 ^ n) (spec_RealCoefficients.C v)).getD i 0 != 0) := fun i => rfl
  have hl : (listZ (2 ^ n) (spec_RealCoefficients.C v)).length = 2 ^ n := listZ_length _ _
  generalize listZ (2 ^ n) (spec_RealCoefficients.C v) = c at *
  generalize spec_RealDegree.p n v = p at *
  exact Ev.count (fun k i => spec_RealDegree.l0 k c (impl_degree.most p i) (i : Int)) (2 ^ n) _ (fun i hi h => by
    have e1 : wrap64 ((i : Int) + 1) = ((i + 1 : Nat) : Int) := up1 (by omega)
    have hx : rd c (i : Int) = c.getD i 0 := rd_nat c i
    have hpi := hp i
    rw [impl_degree.most] at h
    by_cases hz : c.getD i 0 = 0
    · have : p i = false := by rw [hpi, hz]; rfl
      rw [this, if_neg (by decide)] at h
      refine Ev.step (fun k => ?_) h
      simp only [spec_RealDegree.l0]
      rw [if_pos (by omega), if_pos (Int.natCast_nonneg i), hx, if_pos hz, e1]
    · have : p i = true := by rw [hpi]; exact bne_iff_ne.mpr hz
      rw [this, if_pos rfl] at h
      have hcnt := spec_l2Count.ev (w := i) (by omega)
      refine Ev.step (f := fun k => (spec_l2Count.f k (i : Int)).bind fun t => spec_RealDegree.l0 k c (mx (impl_degree.most p i) t) ((i + 1 : Nat) : Int)) (fun k => ?_) (Ev.bind hcnt h)
      simp only [spec_RealDegree.l0]
      rw [if_pos (by omega), if_pos (Int.natCast_nonneg i), hx, if_neg hz, e1]) (Ev.end (fun k => by
    simp only [spec_RealDegree.l0]
    rw [if_neg (by omega)])) (2 ^ n) 0 (by omega)

/-! ### facts on impl_RealDegree -/
--IMPORT M12
--IMPORT M8
open Go.Proofs.Ythekbiofjhkecaa.M in
theorem impl_RealDegree.ev {n v : Nat} (hn : n ≤ 5) (hv : v < 2 ^ 2 ^ n) : Ev (fun k => impl_RealDegree.f k n v) (spec_RealDegree.deg n v) := by
  have hT : impl_IsTable.f (n : Int) (v : Int) = some true := by rw [impl_IsTable.ev, isT_mk hn hv]
  have hc := impl_Table_coefficients.ev hn hv
  refine Ev.congr (f := fun k => (impl_Table_coefficients.f k n v).bind fun c => if 0 ≤ (n : Int) ∧ (n : Int) ≤ 5 ∧ c.length = 2 ^ (n : Int).toNat then some (impl_degree.most (fun m => c.getD m 0 != 0) (2 ^ (n : Int).toNat)) else none) (fun k => by unfold impl_RealDegree.f; rw [hT, Option.bind_some, if_pos rfl]) (Ev.bind hc ?_)
  refine Ev.const ?_
  rw [if_pos ⟨Int.natCast_nonneg n, by omega, by rw [listZ_length, Int.toNat_natCast]⟩, Int.toNat_natCast]
  rfl

/-! ### facts on spec_AverageDegree -/
--IMPORT M12
--IMPORT M8
open Go.Proofs.Ythekbiofjhkecaa.M in
/-- the degree of a word, 0 for constants -/
def spec_AverageDegree.H (k x : Nat) : Int := mx (spec_RealDegree.deg k x) 0
open Go.Proofs.Ythekbiofjhkecaa.M in
def spec_AverageDegree.S (k : Nat) (l : List Nat) : Int := l.foldl (fun s x => wrap64 (s + spec_AverageDegree.H k x)) 0
open Go.Proofs.Ythekbiofjhkecaa.M in
theorem spec_AverageDegree.S_snoc (k : Nat) (l : List Nat) (x : Nat) : spec_AverageDegree.S k (l ++ [x]) = wrap64 (spec_AverageDegree.S k l + mx 0 (spec_RealDegree.deg k x)) := by
  unfold spec_AverageDegree.S
  rw [List.foldl_append]
  show wrap64 (_ + spec_AverageDegree.H k x) = _
  have : spec_AverageDegree.H k x = mx 0 (spec_RealDegree.deg k x) := by
    unfold spec_AverageDegree.H mx
    split <;> split <;> omega
  rw [this]
open Go.Proofs.Ythekbiofjhkecaa.M in
/-- the answer -/
def spec_AverageDegree.r (a b k : Int) : Int := if spec_l24Fine.ok a b k = true then spec_AverageDegree.S k.toNat (cutAll a.toNat b.toNat k.toNat (2 ^ a.toNat)) else -1
open Go.Proofs.Ythekbiofjhkecaa.M in
/-- the table is cut, and its degree added -/
theorem spec_AverageDegree.cut {n v m u kk : Nat} (hn : n ≤ 4) (hv : v < 2 ^ 2 ^ n) (hm : m < 2 ^ n) (hk : pc m + kk = n) (hu : u ≤ m) (s R : Int) (h : Ev (fun q => spec_AverageDegree.l1 q (kk : Int) (wrap64 (s + mx 0 (spec_RealDegree.deg kk (cutS n v m u n).2))) (m : Int) ((u + 1 : Nat) : Int) n v) R) :
    Ev (fun q => spec_AverageDegree.l2 q (kk : Int) s (m : Int) (u : Int) ((n : Int) - 1) n v n v) R := by
  have h16 := pow16 hn
  have hw := cut_word (u := u) hn hv hm hk
  have hkk : kk ≤ 5 := by omega
  have hd := spec_RealDegree.ev (n := kk) (v := (cutS n v m u n).2) hkk hw.2
  have hok := fun d (hd : d ≤ n) => cut_ok (m := m) (u := u) hn hv d hd
  have h63 : ∀ d, d ≤ n → (cutS n v m u d).2 < 2 ^ 63 := fun d hd => Nat.lt_trans (hok d hd).2.2 (full_p63 (by have := (hok d hd).2.1; omega))
  have hb1 : ∀ d, d ≤ n → n - d ≤ (cutS n v m u d).1 := fun d hd => (hok d hd).1
  have hb2 : ∀ d, d ≤ n → (cutS n v m u d).1 ≤ n := fun d hd => (hok d hd).2.1
  have e0 : (cutS n v m u n).1 = kk := hw.1
  clear hok hw hv
  have key := Ev.count (fun q d => spec_AverageDegree.l2 q (kk : Int) s (m : Int) (u : Int) ((n : Int) - 1 - (d : Int)) n v ((cutS n v m u d).1 : Int) ((cutS n v m u d).2 : Int)) n R (fun d hd' hn' => by
    have a1 := hb1 d (by omega)
    have a2 := hb2 d (by omega)
    have a3 := h63 d (by omega)
    obtain ⟨i, hi⟩ : ∃ i, i = n - 1 - d := ⟨_, rfl⟩
    have ei : (n : Int) - 1 - (d : Int) = (i : Int) := by omega
    have ei2 : (n : Int) - 1 - ((d + 1 : Nat) : Int) = (i : Int) - 1 := by omega
    have ew : wrap64 ((i : Int) - 1) = (i : Int) - 1 := w64 (by omega) (by omega)
    have ebm : Go.bits .and .i64 (shr .i64 (m : Int) (i : Int)) 1 = (((m.testBit i).toNat : Nat) : Int) := bit_nat (by omega) (by omega)
    have ebu : Go.bits .and .i64 (shr .i64 (u : Int) (i : Int)) 1 = (((u.testBit i).toNat : Nat) : Int) := bit_nat (by omega) (by omega)
    rw [ei2] at hn'
    rw [ei]
    cases hb : m.testBit i with
    | true =>
      have ec : cutS n v m u (d + 1) = ((cutS n v m u d).1 - 1, rstW (cutS n v m u d).1 (cutS n v m u d).2 i (u.testBit i).toNat) := by rw [cutS, ← hi, if_pos hb]
      rw [ec] at hn'
      generalize cutS n v m u d = cd at *
      obtain ⟨b, w⟩ := cd
      simp only [] at a1 a2 a3 hn' ⊢
      have hr := spec_l3Restrict.ev (n := b) (v := w) (i := i) (b := (u.testBit i).toNat) (by omega) (by omega) a3 (by omega) (toNat_le _)
      refine Ev.step (f := fun q => (spec_l3Restrict.f q (b : Int) (w : Int) (i : Int) (((u.testBit i).toNat : Nat) : Int)).bind fun t => spec_AverageDegree.l2 q (kk : Int) s (m : Int) (u : Int) ((i : Int) - 1) n v t.1 t.2) (fun q => ?_) (Ev.bind hr hn')
      simp only [spec_AverageDegree.l2]
      rw [if_pos (show (i : Int) ≥ 0 by omega), if_pos (Int.natCast_nonneg i), ebm, hb, if_pos (by decide), ebu, ew]
    | false =>
      have ec : cutS n v m u (d + 1) = cutS n v m u d := by rw [cutS, ← hi, if_neg (by rw [hb]; decide)]
      rw [ec] at hn'
      refine Ev.step (fun q => ?_) hn'
      simp only [spec_AverageDegree.l2]
      rw [if_pos (show (i : Int) ≥ 0 by omega), if_pos (Int.natCast_nonneg i), ebm, hb, if_neg (by decide), ew]) (by
    rw [e0]
    refine Ev.step (f := fun q => (spec_RealDegree.f q (kk : Int) ((cutS n v m u n).2 : Int)).bind fun t => spec_AverageDegree.l1 q (kk : Int) (wrap64 (s + mx 0 t)) (m : Int) ((u + 1 : Nat) : Int) n v) (fun q => ?_) (Ev.bind hd h)
    simp only [spec_AverageDegree.l2]
    rw [if_neg (by omega), up1 (by omega)]) n 0 (by omega)
  have e1 : (n : Int) - 1 - ((0 : Nat) : Int) = (n : Int) - 1 := by omega
  rw [e1] at key
  exact key
open Go.Proofs.Ythekbiofjhkecaa.M in
theorem spec_AverageDegree.ev (a b k : Int) : Ev (fun q => spec_AverageDegree.f q a b k) (spec_AverageDegree.r a b k) := by
  unfold spec_AverageDegree.r
  refine Ev.congr (f := fun q => if spec_l24Fine.ok a b k = true then spec_AverageDegree.l0 q k 0 0 a b else some (-1)) (fun q => by unfold spec_AverageDegree.f; rw [spec_l24Fine.ev]; rfl) ?_
  cases hok : spec_l24Fine.ok a b k with
  | false => exact Ev.now _
  | true =>
    obtain ⟨n, v, kk, rfl, rfl, rfl, hn, hv, hk⟩ := spec_l24Fine.nat hok
    simp only [if_true, Int.toNat_natCast]
    have h16 := pow16 hn
    generalize hR : spec_AverageDegree.S kk (cutAll n v kk (2 ^ n)) = R
    have HV := Aside0.mk hv
    clear hv
    have ewn : wrap64 ((n : Int) - 1) = (n : Int) - 1 := w64 (by omega) (by omega)
    have row : ∀ m, m < 2 ^ n → Ev (fun q => spec_AverageDegree.l0 q (kk : Int) (spec_AverageDegree.S kk (cutAll n v kk (m + 1))) ((m + 1 : Nat) : Int) n v) R → Ev (fun q => spec_AverageDegree.l0 q (kk : Int) (spec_AverageDegree.S kk (cutAll n v kk m)) (m : Int) n v) R := by
      intro m hm hnext
      have hpn : pc m ≤ n := by have := left_all n (by omega) m (by omega) hm; omega
      have hcount := spec_l2Count.ev (w := m) (by omega)
      have ew : wrap64 ((n : Int) - ((pc m : Nat) : Int)) = (n : Int) - ((pc m : Nat) : Int) := w64 (by omega) (by omega)
      by_cases hpk : pc m + kk = n
      · rw [cutAll, if_pos hpk, cutRow_full hm] at hnext
        have inner := Ev.count (fun q u => spec_AverageDegree.l1 q (kk : Int) (spec_AverageDegree.S kk (cutAll n v kk m ++ cutRow n v m u)) (m : Int) (u : Int) n v) (m + 1) R (fun u hu hn' => by
          have ea : Go.bits .and .i64 (u : Int) (m : Int) = ((u &&& m : Nat) : Int) := and_nat (by omega) (by omega)
          by_cases hz : andn u m = 0
          · have hum : u &&& m = u := subset_iff.mpr hz
            rw [cutRow, if_pos hz, ← List.append_assoc, spec_AverageDegree.S_snoc] at hn'
            generalize spec_AverageDegree.S kk (cutAll n v kk m ++ cutRow n v m u) = s at hn' ⊢
            have hcut := spec_AverageDegree.cut hn HV.out hm hpk (by omega) s R hn'
            refine Ev.step (f := fun q => (spec_l2Count.f q (m : Int)).bind fun t => if (wrap64 ((n : Int) - t)) = (kk : Int) then spec_AverageDegree.j2 q (kk : Int) s (m : Int) (u : Int) false n v else spec_AverageDegree.j2 q (kk : Int) s (m : Int) (u : Int) true n v) (fun q => ?_) (Ev.bind hcount (Ev.congr (fun q => if_pos (by rw [ew]; omega)) (Ev.step (fun q => ?_) hcut)))
            · simp only [spec_AverageDegree.l1]
              rw [if_pos (by omega), ea, hum, bne_self_eq_false]
            · simp only [spec_AverageDegree.j2]
              rw [if_neg (by decide), ewn]
          · rw [cutRow, if_neg hz] at hn'
            have hum : ¬ u &&& m = u := fun e => hz (subset_iff.mp e)
            generalize spec_AverageDegree.S kk (cutAll n v kk m ++ cutRow n v m u) = s at hn' ⊢
            refine Ev.step (f := fun q => (spec_l2Count.f q (m : Int)).bind fun t => spec_AverageDegree.j2 q (kk : Int) s (m : Int) (u : Int) true n v) (fun q => ?_) (Ev.bind hcount (Ev.step (fun q => ?_) hn'))
            · simp only [spec_AverageDegree.l1]
              have hbn : (((u &&& m : Nat) : Int) != (u : Int)) = true := bne_iff_ne.mpr (by omega)
              rw [if_pos (by omega), ea, hbn]
              simp only [ite_self]
            · simp only [spec_AverageDegree.j2]
              rw [if_pos trivial, up1 (by omega)]) (Ev.step (fun q => by
          simp only [spec_AverageDegree.l1]
          rw [if_neg (by omega), up1 (by omega)]) hnext) (m + 1) 0 (by omega)
        refine Ev.step (fun q => ?_) inner
        simp only [spec_AverageDegree.l0]
        rw [if_pos (Int.natCast_nonneg n), shl_one (by omega), if_pos (by omega), show cutRow n v m 0 = [] from rfl, List.append_nil]; rfl
      · rw [cutAll, if_neg hpk] at hnext
        generalize spec_AverageDegree.S kk (cutAll n v kk m) = s at hnext ⊢
        have inner := Ev.count (fun q u => spec_AverageDegree.l1 q (kk : Int) s (m : Int) (u : Int) n v) (m + 1) R (fun u hu hn' => by
          refine Ev.step (f := fun q => (spec_l2Count.f q (m : Int)).bind fun t => if (wrap64 ((n : Int) - t)) = (kk : Int) then spec_AverageDegree.j2 q (kk : Int) s (m : Int) (u : Int) ((Go.bits .and .i64 (u : Int) (m : Int)) != (u : Int)) n v else spec_AverageDegree.j2 q (kk : Int) s (m : Int) (u : Int) true n v) (fun q => ?_) (Ev.bind hcount (Ev.congr (fun q => if_neg (by rw [ew]; omega)) (Ev.step (fun q => ?_) hn')))
          · simp only [spec_AverageDegree.l1]
            rw [if_pos (by omega)]
          · simp only [spec_AverageDegree.j2]
            rw [if_pos trivial, up1 (by omega)]) (Ev.step (fun q => by
          simp only [spec_AverageDegree.l1]
          rw [if_neg (by omega), up1 (by omega)]) hnext) (m + 1) 0 (by omega)
        refine Ev.step (fun q => ?_) inner
        simp only [spec_AverageDegree.l0]
        rw [if_pos (Int.natCast_nonneg n), shl_one (by omega), if_pos (by omega)]; rfl
    exact Ev.count (fun q m => spec_AverageDegree.l0 q (kk : Int) (spec_AverageDegree.S kk (cutAll n v kk m)) (m : Int) n v) (2 ^ n) R row (Ev.end (fun q => by
      simp only [spec_AverageDegree.l0]
      rw [if_pos (Int.natCast_nonneg n), shl_one (by omega), if_neg (by omega), hR])) (2 ^ n) 0 (by omega)

/-! ### facts on impl_AverageDegree -/
--IMPORT M12
--IMPORT M8
open Go.Proofs.Ythekbiofjhkecaa.M in
/-- one bound for all words -/
theorem impl_AverageDegree.all_k {k : Nat} (hk : k ≤ 5) : ∀ N : Nat, N ≤ 2 ^ 2 ^ k → ∃ K : Nat, ∀ q, K ≤ q → ∀ x : Nat, x < N → impl_RealDegree.f q (k : Int) (x : Int) = some (spec_RealDegree.deg k x)
  | 0, _ => ⟨0, fun q _ x hx => absurd hx (Nat.not_lt_zero x)⟩
  | N + 1, h => by
    obtain ⟨K, hK⟩ := impl_AverageDegree.all_k hk N (Nat.le_of_succ_le h)
    obtain ⟨L, hL⟩ := impl_RealDegree.ev (n := k) (v := N) hk h
    refine ⟨K + L, fun q hq x hx => ?_⟩
    rcases Nat.lt_succ_iff_lt_or_eq.mp hx with hx | rfl
    · exact hK q (Nat.le_trans (Nat.le_add_right _ _) hq) x hx
    · exact hL q (Nat.le_trans (Nat.le_add_left _ _) hq)
open Go.Proofs.Ythekbiofjhkecaa.M in
theorem impl_AverageDegree.ev (a b k : Int) : Ev (fun q => impl_AverageDegree.f q a b k) (spec_AverageDegree.r a b k) := by
  unfold spec_AverageDegree.r
  cases hok : spec_l24Fine.ok a b k with
  | true =>
    obtain ⟨n, v, kk, rfl, rfl, rfl, hn, hv, hk⟩ := spec_l24Fine.nat hok
    have hvi : (v : Int) < ((2 ^ 2 ^ n : Nat) : Int) := by exact_mod_cast hv
    obtain ⟨K, hK⟩ := impl_AverageDegree.all_k (k := kk) (by omega) (2 ^ 2 ^ kk) (Nat.le_refl _)
    have hlt := cutAll_lt (k := kk) hn hv (2 ^ n) (Nat.le_refl _)
    have hT := isT_mk (n := n) (v := v) (by omega) hv
    refine Ev.since K fun q hq => ?_
    unfold impl_AverageDegree.f
    rw [impl_isSmall.ev, Option.bind_some, hT, decide_eq_true (show (n : Int) ≤ 4 by omega), if_pos ⟨rfl, by omega, by omega⟩, if_pos rfl]
    simp only [Int.toNat_natCast]
    rw [if_pos ⟨⟨by omega, by omega, by omega, hvi⟩, fun x hx => by rw [hK q hq x hx]; rfl⟩]
    congr 1
    unfold impl_sumOverCubes.sum spec_AverageDegree.S
    have key : ∀ (l : List Nat) (s : Int), (∀ x ∈ l, x < 2 ^ 2 ^ kk) → l.foldl (fun s x => wrap64 (s + impl_AverageDegree.h q kk x)) s = l.foldl (fun s x => wrap64 (s + spec_AverageDegree.H kk x)) s := by
      intro l
      induction l with
      | nil => intro s _; rfl
      | cons y t ih =>
        intro s hl
        have e : impl_AverageDegree.h q kk y = spec_AverageDegree.H kk y := by unfold impl_AverageDegree.h spec_AverageDegree.H; rw [hK q hq y (hl y (List.mem_cons_self ..))]; rfl
        rw [List.foldl_cons, List.foldl_cons, e]
        exact ih _ (fun x hx => hl x (List.mem_cons_of_mem _ hx))
    exact key _ 0 hlt
  | false =>
    have hno : ¬ ((isT a b && decide (a ≤ 4)) = true ∧ 0 ≤ k ∧ k ≤ a) := fun e => by
      unfold spec_l24Fine.ok at hok
      obtain ⟨e1, e2, e3⟩ := e
      rw [e1, decide_eq_true ⟨e2, e3⟩] at hok
      cases hok
    refine Ev.of_some fun q => ?_
    unfold impl_AverageDegree.f
    rw [impl_isSmall.ev, Option.bind_some, if_neg hno, if_neg (by decide)]

/-! ### facts on spec_DrawCubesOf -/
--IMPORT M14
open Go.Proofs.Ythekbiofjhkecaa.M in
theorem spec_DrawCubesOf.ok (b : List Int) (hb : b.length ≤ 1048576) : Tot (fun k => spec_DrawCubesOf.f k b) (fun _ => True) := by
  unfold spec_DrawCubesOf.f
  refine Tot.bind (spec_l1New.ok b hb) (fun r hr => ?_)
  obtain ⟨r1, r2, r3⟩ := r
  obtain ⟨rfl, rfl⟩ := hr
  obtain ⟨x, i1, h1, e1, _, _, x3⟩ := spec_l1Below.ok r1 0 r3 8 hb (Int.le_refl 0) (by decide) (by decide)
  obtain ⟨y, i2, h2, e2, _, _, y3⟩ := spec_l1Below.ok r1 i1 h1 7 hb x3 (by decide) (by decide)
  simp only [e1, e2, Option.bind_some]
  exact Tot.now _ trivial

/-! ### facts on spec_DrawDepthSum -/
--IMPORT M14
open Go.Proofs.Ythekbiofjhkecaa.M in
theorem spec_DrawDepthSum.ok (b : List Int) (hb : b.length ≤ 1048576) : Tot (fun k => spec_DrawDepthSum.f k b) (fun _ => True) := by
  unfold spec_DrawDepthSum.f
  exact Tot.bind (spec_l24Both.ok b hb) (fun s _ => Tot.now _ trivial)

/-! ### facts on spec_DrawConstantCubes -/
--IMPORT M14
open Go.Proofs.Ythekbiofjhkecaa.M in
theorem spec_DrawConstantCubes.ok (b : List Int) (hb : b.length ≤ 1048576) : Tot (fun k => spec_DrawConstantCubes.f k b) (fun _ => True) := by
  unfold spec_DrawConstantCubes.f
  exact Tot.bind (spec_l24Both.ok b hb) (fun s _ => Tot.now _ trivial)

/-! ### facts on spec_DrawAverageDegree -/
--IMPORT M14
open Go.Proofs.Ythekbiofjhkecaa.M in
theorem spec_DrawAverageDegree.ok (b : List Int) (hb : b.length ≤ 1048576) : Tot (fun k => spec_DrawAverageDegree.f k b) (fun _ => True) := by
  unfold spec_DrawAverageDegree.f
  exact Tot.bind (spec_l24Both.ok b hb) (fun s _ => Tot.now _ trivial)

/-! ### facts on laws_FnRandom -/
--IMPORT M23
--IMPORT M14
open Go.Proofs.Ythekbiofjhkecaa.M in
/-- a row's sum -/
theorem laws_FnRandom.total_ev (g : Nat → Nat) (N : Nat) (hb : sumC g N ≤ 1000000000) (hN : N ≤ 1000000) : Ev (fun q => laws_total.f q (listZ N fun i => ((g i : Nat) : Int))) ((sumC g N : Nat) : Int) := by
  have hl : (listZ N fun i => ((g i : Nat) : Int)).length = N := listZ_length _ _
  have hx : ∀ i : Nat, i < N → rd (listZ N fun i => ((g i : Nat) : Int)) (i : Int) = ((g i : Nat) : Int) := fun i hi => listZ_rd hi
  unfold laws_total.f
  generalize (listZ N fun i => ((g i : Nat) : Int)) = L at *
  exact Ev.count (fun q i => laws_total.l0 q L ((sumC g i : Nat) : Int) (i : Int)) N _ (fun i hi h => by
    have h1 := sumC_mono g (i + 1) (N - (i + 1))
    rw [show i + 1 + (N - (i + 1)) = N by omega, sumC] at h1
    rw [sumC] at h
    refine Ev.step (fun q => ?_) h
    simp only [laws_total.l0]
    rw [if_pos (by omega), if_pos (Int.natCast_nonneg i), hx i hi, up1 (by omega), w64 (by omega) (by omega)]
    congr 1) (Ev.end (fun q => by
    simp only [laws_total.l0]
    rw [if_neg (by omega)])) N 0 (by omega)
open Go.Proofs.Ythekbiofjhkecaa.M in
theorem laws_FnRandom.same_ev (L : List Int) (hL : L.length ≤ 1000000) : Ev (fun q => laws_sameInts.f q L L) true := by
  refine Ev.congr (f := fun q => laws_sameInts.l0 q L L 0) (fun q => by unfold laws_sameInts.f; rw [if_pos rfl]) ?_
  exact Ev.count (fun q i => laws_sameInts.l0 q L L (i : Int)) L.length _ (fun i hi h => by
    refine Ev.step (fun q => ?_) h
    simp only [laws_sameInts.l0]
    rw [if_pos (by omega), if_pos (Int.natCast_nonneg i), if_pos (by omega), if_pos trivial, up1 (by omega)]) (Ev.end (fun q => by
    simp only [laws_sameInts.l0]
    rw [if_neg (by omega)])) L.length 0 (by omega)
open Go.Proofs.Ythekbiofjhkecaa.M in
theorem laws_FnRandom.tally_go (len : Nat) : ∀ (l : List Nat) (g : Nat → Nat), (∀ x ∈ l, pc x < len) → (∀ i, g i + l.length ≤ 1000000) → l.foldl (impl_OnesInCubes.add) (listZ len fun i => ((g i : Nat) : Int)) = listZ len fun i => ((g i + onesN l i : Nat) : Int)
  | [], g, _, _ => by simp [onesN]
  | y :: t, g, h, hb => by
    have hy := h y (List.mem_cons_self ..)
    have hgy := hb (pc y)
    rw [List.length_cons] at hgy
    have e : impl_OnesInCubes.add (listZ len fun i => ((g i : Nat) : Int)) y = listZ len fun i => ((g i + (if i = pc y then 1 else 0) : Nat) : Int) := by
      unfold impl_OnesInCubes.add
      rw [listZ_rd hy, up1 (by omega)]
      exact listZ_set hy (by rw [if_pos rfl]) (fun j _ hne => by rw [if_neg hne]; rfl)
    rw [List.foldl_cons, e, laws_FnRandom.tally_go len t (fun i => g i + if i = pc y then 1 else 0) (fun x hx => h x (List.mem_cons_of_mem _ hx)) (fun i => by have := hb i; rw [List.length_cons] at this; split <;> omega)]
    congr 1
    funext i
    rw [onesN_cons]
    congr 1
    omega
open Go.Proofs.Ythekbiofjhkecaa.M in
theorem laws_FnRandom.tally_val (len : Nat) (l : List Nat) (h : ∀ x ∈ l, pc x < len) (hb : l.length ≤ 1000000) : impl_OnesInCubes.tally len l = listZ len fun i => ((onesN l i : Nat) : Int) := by
  unfold impl_OnesInCubes.tally
  have e : List.replicate len (0 : Int) = listZ len fun i => (((fun _ => 0 : Nat → Nat) i : Nat) : Int) := (listZ_zero (fun _ _ => rfl)).symm
  rw [e, laws_FnRandom.tally_go len l (fun _ => 0) h (fun i => by omega)]
  congr 1
  funext i
  simp only [Nat.zero_add]
open Go.Proofs.Ythekbiofjhkecaa.M in
/-- a coefficient is a sum over the inputs -/
theorem laws_FnRandom.coef {n v S : Nat} (hS : S < 2 ^ n) : spec_RealCoefficients.C v S = dotC (vecC n 0 S) v := by
  rw [← spec_RealCoefficients.full hS, sumZ_map]
  unfold dotC
  rw [vecC_len]
  congr 1
  apply List.map_congr_left
  intro x hx
  have hx := List.mem_range.mp hx
  have e : (vecC n 0 S).getD x 0 = if x &&& S = x then sgB (S ^^^ x) else 0 := by
    unfold vecC
    rw [List.getD_eq_getElem?_getD, List.getElem?_map, List.getElem?_range hx]
    simp only [Option.map_some, Option.getD_some, Nat.xor_zero]
  rw [e]
  unfold spec_RealCoefficients.T sgB
  split
  · split <;> omega
  · omega
open Go.Proofs.Ythekbiofjhkecaa.M in
theorem laws_FnRandom.most_le (p : Nat → Bool) (D : Int) (hD : 0 ≤ D) : ∀ m : Nat, (∀ S, S < m → p S = true → ((pc S : Nat) : Int) ≤ D) → impl_degree.most p m ≤ D
  | 0, _ => by unfold impl_degree.most; omega
  | m + 1, h => by
    have ih := laws_FnRandom.most_le p D hD m (fun S hS => h S (by omega))
    have h1 := h m (by omega)
    rw [impl_degree.most]
    split
    · rename_i hp
      have := h1 hp
      unfold mx
      split <;> omega
    · exact ih
/-- a word's degree, 0 for constants -/
def laws_FnRandom.gW (n v : Nat) : Nat := (mx (spec_RealDegree.deg n v) 0).toNat
open Go.Proofs.Ythekbiofjhkecaa.M in
theorem laws_FnRandom.gW_eq (n v : Nat) : mx (spec_RealDegree.deg n v) 0 = ((laws_FnRandom.gW n v : Nat) : Int) := by
  unfold laws_FnRandom.gW
  have : 0 ≤ mx (spec_RealDegree.deg n v) 0 := by unfold mx; split <;> omega
  omega
open Go.Proofs.Ythekbiofjhkecaa.M in
theorem laws_FnRandom.gW_le {n v : Nat} (hn : n ≤ 4) : laws_FnRandom.gW n v ≤ ldW n v := by
  have h : spec_RealDegree.deg n v ≤ ((ldW n v : Nat) : Int) := by
    unfold spec_RealDegree.deg
    refine laws_FnRandom.most_le _ _ (Int.natCast_nonneg _) (2 ^ n) (fun S hS hp => ?_)
    have hz : spec_RealCoefficients.C v S ≠ 0 := by
      unfold spec_RealDegree.p at hp
      have e : (listZ (2 ^ n) (spec_RealCoefficients.C v)).getD S 0 = spec_RealCoefficients.C v S := by rw [← rd_nat]; exact listZ_rd hS
      rw [e] at hp
      exact bne_iff_ne.mp hp
    rw [laws_FnRandom.coef hS] at hz
    by_cases hlt : ldW n v < pc S
    · exact absurd (deg_ld (b := n) (Nat.le_refl n) (Cb.zero hn) (by rw [pc_zero]; omega) S hS (Nat.and_zero S) hlt) hz
    · omega
  have h2 := laws_FnRandom.gW_eq n v
  unfold mx at h2
  split at h2 <;> omega
open Go.Proofs.Ythekbiofjhkecaa.M in
theorem laws_FnRandom.cubes5 : ∀ i : Nat, i < 6 → ∀ j : Nat, j < 6 → (j ≤ i → (impl_CubesOf.f 120 (i : Int) (j : Int)).isSome = true ∧ spec_CubesOf.f 120 (i : Int) (j : Int) = impl_CubesOf.f 120 (i : Int) (j : Int)) := allB_dec2 (P := fun i j => j ≤ i → (impl_CubesOf.f 120 (i : Int) (j : Int)).isSome = true ∧ spec_CubesOf.f 120 (i : Int) (j : Int) = impl_CubesOf.f 120 (i : Int) (j : Int)) (by decide +kernel)
open Go.Proofs.Ythekbiofjhkecaa.M in
theorem laws_FnRandom.cubes4 : ∀ i : Nat, i < 5 → ∀ j : Nat, j < 5 → (j ≤ i → impl_CubesOf.f 120 (i : Int) (j : Int) = some ((lenC i j : Nat) : Int)) := allB_dec2 (P := fun i j => j ≤ i → impl_CubesOf.f 120 (i : Int) (j : Int) = some ((lenC i j : Nat) : Int)) (by decide +kernel)
open Go.Proofs.Ythekbiofjhkecaa.M in
theorem laws_FnRandom.mono_ev {α : Type} {g : Nat → Option α} {r : α} (hm : ∀ k, LeO (g k) (g (k + 1))) (K : Nat) (h : g K = some r) : Ev g r := by
  refine Ev.since K (fun k hk => ?_)
  have : ∀ d, g (K + d) = some r := by
    intro d
    induction d with
    | zero => exact h
    | succ d ih => exact hm _ _ ih
  rw [show k = K + (k - K) by omega]; exact this _
open Go.Proofs.Ythekbiofjhkecaa.M in
theorem laws_FnRandom.cubes_ev (a b : Int) : ∃ r, Ev (fun q => impl_CubesOf.f q a b) r ∧ Ev (fun q => spec_CubesOf.f q a b) r := by
  by_cases h : (0 ≤ a ∧ a ≤ 5) ∧ 0 ≤ b ∧ b ≤ a
  · obtain ⟨⟨h1, h2⟩, h3, h4⟩ := h
    obtain ⟨i, rfl⟩ := nat_of h1
    obtain ⟨j, rfl⟩ := nat_of h3
    obtain ⟨e1, e2⟩ := laws_FnRandom.cubes5 i (by omega) j (by omega) (by omega)
    obtain ⟨r, hr⟩ := Option.isSome_iff_exists.mp e1
    exact ⟨r, laws_FnRandom.mono_ev (fun k => impl_CubesOf.mono _ _ k) 120 hr, laws_FnRandom.mono_ev (fun k => spec_CubesOf.mono _ _ k) 120 (e2.trans hr)⟩
  · refine ⟨-1, Ev.since 1 fun q hq => ?_, Ev.since 1 fun q hq => ?_⟩
    all_goals obtain ⟨q, rfl⟩ : ∃ q', q = q' + 1 := ⟨q - 1, by omega⟩
    · unfold impl_CubesOf.f
      rw [impl_isBits.ev]
      by_cases h0 : 0 ≤ a ∧ a ≤ 5
      · by_cases h2 : b < 0
        · simp [h0, h2, impl_CubesOf.j0]
        · have h3 : a < b := by omega
          simp [h0, h2, h3, impl_CubesOf.j0]
      · simp [h0, impl_CubesOf.j0]
    · unfold spec_CubesOf.f
      rw [spec_l1In.ev]
      by_cases h0 : 0 ≤ a ∧ a ≤ 5
      · have h1 : ¬ (0 ≤ b ∧ b ≤ a) := fun e => h ⟨h0, e⟩
        simp [h0, h1, spec_l1In.ev, spec_CubesOf.j0]
      · simp [h0, spec_CubesOf.j0]
open Go.Proofs.Ythekbiofjhkecaa.M in
/-- the four that are drawn again -/
theorem laws_FnRandom.j2_ev (l : List Int) (hb : l.length ≤ 1048576) : Ev (fun k => laws_FnRandom.j2 k l) true := by
  obtain ⟨⟨a1, a2⟩, _, hA⟩ := spec_DrawCubesOf.ok l hb
  obtain ⟨⟨b1, b2, b3⟩, _, hB⟩ := spec_DrawDepthSum.ok l hb
  obtain ⟨⟨c1, c2, c3⟩, _, hC⟩ := spec_DrawConstantCubes.ok l hb
  obtain ⟨⟨d1, d2, d3⟩, _, hD⟩ := spec_DrawAverageDegree.ok l hb
  obtain ⟨ra, hA1, hA2⟩ := laws_FnRandom.cubes_ev a1 a2
  have hB1 := impl_DepthSum.ev b1 b2 b3
  have hB2 := spec_DepthSum.ev b1 b2 b3
  have hC1 := impl_ConstantCubes.ev c1 c2 c3
  have hC2 := spec_ConstantCubes.ev c1 c2 c3
  have hD1 := impl_AverageDegree.ev d1 d2 d3
  have hD2 := spec_AverageDegree.ev d1 d2 d3
  generalize spec_DepthSum.r b1 b2 b3 = rb at *
  generalize spec_ConstantCubes.r c1 c2 c3 = rc at *
  generalize spec_AverageDegree.r d1 d2 d3 = rdd at *
  obtain ⟨K1, k1⟩ := hA
  obtain ⟨K2, k2⟩ := hB
  obtain ⟨K3, k3⟩ := hC
  obtain ⟨K4, k4⟩ := hD
  obtain ⟨K5, k5⟩ := hA1
  obtain ⟨K6, k6⟩ := hA2
  obtain ⟨K7, k7⟩ := hB2
  obtain ⟨K8, k8⟩ := hC2
  obtain ⟨K9, k9⟩ := hD1
  obtain ⟨K0, k0⟩ := hD2
  refine Ev.since (K1 + K2 + K3 + K4 + K5 + K6 + K7 + K8 + K9 + K0 + 1) fun q hq => ?_
  obtain ⟨q, rfl⟩ : ∃ q', q = q' + 1 := ⟨q - 1, by omega⟩
  replace k1 := k1 q (by omega)
  replace k2 := k2 q (by omega)
  replace k3 := k3 q (by omega)
  replace k4 := k4 q (by omega)
  replace k5 := k5 q (by omega)
  replace k6 := k6 q (by omega)
  replace k7 := k7 q (by omega)
  replace k8 := k8 q (by omega)
  replace k9 := k9 q (by omega)
  replace k0 := k0 q (by omega)
  simp only [laws_FnRandom.j2, k1, k2, k3, k4, k5, k6, k7, k8, k9, k0, hB1, hC1, Option.bind_some, ↓reduceIte, beq_self_eq_true]
open Go.Proofs.Ythekbiofjhkecaa.M in
/-- the checks of what was counted -/
theorem laws_FnRandom.l0_ev (l : List Int) (hb : l.length ≤ 1048576) {n v kk : Nat} (hn : n ≤ 4) (hv : v < 2 ^ 2 ^ n) (hk : kk ≤ n) (L : List Int) (c d g : Int)
    (hL : L = listZ (2 ^ kk + 1) fun i => ((onesN (cutAll n v kk (2 ^ n)) i : Nat) : Int)) (hc : c = (((cutAll n v kk (2 ^ n)).filter fun x => decide (x = 0 ∨ x = 2 ^ 2 ^ kk - 1)).length : Int))
    (hd : d = ((sumL (ldW kk) (cutAll n v kk (2 ^ n)) : Nat) : Int)) (hg : g = ((sumL (laws_FnRandom.gW kk) (cutAll n v kk (2 ^ n)) : Nat) : Int)) :
    Ev (fun q => laws_FnRandom.l0 q l (kk : Int) L c d g ((lenC n kk : Nat) : Int) 0 0 (n : Int) (v : Int)) true := by
  have hj := laws_FnRandom.j2_ev l hb
  have hlt := cutAll_lt (k := kk) hn hv (2 ^ n) (Nat.le_refl _)
  have hlen := words_len n v kk
  have hones := ones_all hn hk hv
  have hlow := depth_low (k := kk) (by omega) _ hlt
  have hhigh := depth_high (k := kk) hn hv
  have hdeg := sumL_le (f := laws_FnRandom.gW kk) (g := ldW kk) (l := cutAll n v kk (2 ^ n)) (fun x _ => laws_FnRandom.gW_le (by omega))
  have hwhole : kk = n → sumL (ldW kk) (cutAll n v kk (2 ^ n)) = ldW n v := fun e => by subst e; exact depth_whole hn hv
  have hconst := const_two (k := kk) (by omega) _ hlt
  have hpc : ∀ x ∈ cutAll n v kk (2 ^ n), pc x < 2 ^ kk + 1 := fun x hx => by have := pc_bound (k := kk) (by omega) (hlt x hx); omega
  have htot := sum_onesN (fun _ => 1) (2 ^ kk + 1) _ hpc
  have hsum := sum_onesN (fun i => i) (2 ^ kk + 1) _ hpc
  have hle := lenC_le n (by omega) kk (by omega)
  have hper := per_div n kk
  have hD4 := ldW_le hn v
  have h16k := pow16 (n := kk) (by omega)
  have h16 := pow16 hn
  have hpn := Nat.two_pow_pos n
  have hpk := Nat.two_pow_pos kk
  have hcones : impl_CountOnes.f (n : Int) (v : Int) = some ((pc v : Nat) : Int) := by
    unfold impl_CountOnes.f
    rw [impl_IsTable.ev, isT_mk (by omega) hv, Option.bind_some, if_pos rfl, impl_ones.ev (Nat.lt_of_lt_of_le hv (full_lt (by omega)))]; rfl
  have hdep : impl_LeastDepth.f (n : Int) (v : Int) = some ((ldW n v : Nat) : Int) := by
    have hvi : (v : Int) < ((2 ^ 2 ^ n : Nat) : Int) := by exact_mod_cast hv
    unfold impl_LeastDepth.f
    rw [impl_isSmall.ev, isT_mk (by omega) hv, decide_eq_true (show (n : Int) ≤ 4 by omega)]
    simp only [Option.bind_some, Bool.and_self, ↓reduceIte, Int.toNat_natCast]
    rw [if_pos ⟨by omega, by omega, by omega, hvi⟩]; rfl
  have hpv : pc v ≤ 32 := pc_le v
  have hperle : perC n kk ≤ 1600 := by
    unfold perC
    refine Nat.le_trans (Nat.div_le_self _ _) ?_
    exact Nat.mul_le_mul (by omega : lenC n kk ≤ 100) h16k
  have hpp : perC n kk * pc v ≤ 51200 := Nat.mul_le_mul hperle hpv
  have hbl : lenC n kk * 2 ^ kk ≤ 1600 := Nat.mul_le_mul (by omega : lenC n kk ≤ 100) h16k
  have hld : lenC n kk * ldW n v ≤ 400 := Nat.mul_le_mul (by omega : lenC n kk ≤ 100) hD4
  have htot2 := laws_FnRandom.total_ev (onesN (cutAll n v kk (2 ^ n))) (2 ^ kk + 1) (by rw [show sumC (onesN (cutAll n v kk (2 ^ n))) (2 ^ kk + 1) = sumL (fun _ => 1) (cutAll n v kk (2 ^ n)) by rw [← htot]; exact sumC_congr (fun i _ => by rw [Nat.mul_one])]; rw [sumL_one]; omega) (by omega)
  rw [show sumC (onesN (cutAll n v kk (2 ^ n))) (2 ^ kk + 1) = lenC n kk by rw [← hlen, ← sumL_one, ← htot]; exact sumC_congr (fun i _ => by rw [Nat.mul_one]), ← hL] at htot2
  have hLl : L.length = 2 ^ kk + 1 := by rw [hL]; exact listZ_length _ _
  have hLx : ∀ i : Nat, i < 2 ^ kk + 1 → rd L (i : Int) = ((onesN (cutAll n v kk (2 ^ n)) i : Nat) : Int) := fun i hi => by rw [hL]; exact listZ_rd hi
  have hsum' : sumC (fun i => onesN (cutAll n v kk (2 ^ n)) i * i) (2 ^ kk + 1) = perC n kk * pc v := hsum.trans hones
  have hon := onesN_le (cutAll n v kk (2 ^ n))
  have e1 : shl .i64 1 (kk : Int) = ((2 ^ kk : Nat) : Int) := shl_one (by omega)
  have e2 : shl .i64 1 (n : Int) = ((2 ^ n : Nat) : Int) := shl_one (by omega)
  clear hones hsum htot hlt hpc hL hperle
  generalize cutAll n v kk (2 ^ n) = W at *
  generalize hP : perC n kk * pc v = PV at *
  refine Ev.count (fun q i => laws_FnRandom.l0 q l (kk : Int) L c d g ((lenC n kk : Nat) : Int) ((sumC (fun i => onesN W i * i) i : Nat) : Int) (i : Int) (n : Int) (v : Int)) (2 ^ kk + 1) _ (fun i hi h => ?_) ?_ (2 ^ kk + 1) 0 (by omega)
  · have h1 := sumC_mono (fun i => onesN W i * i) (i + 1) (2 ^ kk + 1 - (i + 1))
    rw [show i + 1 + (2 ^ kk + 1 - (i + 1)) = 2 ^ kk + 1 by omega, hsum', sumC] at h1
    rw [sumC] at h
    refine Ev.step (fun q => ?_) h
    simp only [laws_FnRandom.l0]
    have em : (i : Int) * ((onesN W i : Nat) : Int) = ((onesN W i * i : Nat) : Int) := by rw [Nat.mul_comm]; exact (Int.natCast_mul _ _).symm
    rw [if_pos (by omega), if_pos (Int.natCast_nonneg i), hLx i hi, up1 (by omega), em]
    replace h1 : sumC (fun i => onesN W i * i) i + onesN W i * i ≤ PV := h1
    replace h : Ev (fun q => laws_FnRandom.l0 q l (kk : Int) L c d g ((lenC n kk : Nat) : Int) ((sumC (fun i => onesN W i * i) i + onesN W i * i : Nat) : Int) ((i + 1 : Nat) : Int) (n : Int) (v : Int)) true := h
    generalize onesN W i * i = y at *
    rw [w64 (x := (y : Int)) (by omega) (by omega), w64 (by omega) (by omega)]
    congr 1
  · rw [hsum']
    obtain ⟨K1, k1⟩ := hj
    obtain ⟨K2, k2⟩ := htot2
    refine Ev.since (K1 + K2 + 1) fun q hq => ?_
    obtain ⟨q, rfl⟩ : ∃ q', q = q' + 1 := ⟨q - 1, by omega⟩
    replace k1 : laws_FnRandom.j2 q l = some true := k1 q (by omega)
    replace k2 : laws_total.f q L = some ((lenC n kk : Nat) : Int) := k2 q (by omega)
    simp only [laws_FnRandom.l0]
    have x0 := hLx 0 (by omega)
    have x1 := hLx (2 ^ kk) (by omega)
    have o0 := hon 0
    have o1 := hon (2 ^ kk)
    have em : ((lenC n kk : Nat) : Int) * ((2 ^ kk : Nat) : Int) = ((lenC n kk * 2 ^ kk : Nat) : Int) := (Int.natCast_mul _ _).symm
    have ep : ((perC n kk : Nat) : Int) * ((pc v : Nat) : Int) = ((perC n kk * pc v : Nat) : Int) := (Int.natCast_mul _ _).symm
    have ed : ((lenC n kk : Nat) : Int) * ((ldW n v : Nat) : Int) = ((lenC n kk * ldW n v : Nat) : Int) := (Int.natCast_mul _ _).symm
    have z0 : rd L 0 = ((onesN W 0 : Nat) : Int) := x0
    have hpq : perC n kk ≤ 1600 := by
      unfold perC
      exact Nat.le_trans (Nat.div_le_self _ _) hbl
    rw [if_neg (by omega), if_pos (by omega), if_pos (by omega), e1, e2, if_neg (by omega), if_pos (by omega), if_pos (by omega), if_pos (by omega), k2, Option.bind_some, if_pos rfl, hcones, Option.bind_some, em, w64 (x := ((lenC n kk * 2 ^ kk : Nat) : Int)) (by omega) (by omega), hper, w64 (x := ((perC n kk : Nat) : Int)) (by omega) (by omega), ep, hP, w64 (x := ((PV : Nat) : Int)) (by omega) (by omega), if_pos rfl, z0, x1]
    rw [w64 (by omega) (by omega), if_pos (by omega), w64 (by omega) (by omega), if_neg (by omega), hdep, Option.bind_some, ed, w64 (x := ((lenC n kk * ldW n v : Nat) : Int)) (by omega) (by omega), if_neg (by omega), if_neg (by omega)]
    by_cases hkn : (kk : Int) = (n : Int)
    · rw [if_pos hkn, Option.bind_some, if_pos (by have := hwhole (by omega); omega)]; exact k1
    · rw [if_neg hkn]; exact k1
open Go.Proofs.Ythekbiofjhkecaa.M in
theorem laws_FnRandom.pure_ : laws_FnRandom.Pure := by
  intro l _ _ _
  by_cases hb : l.length ≤ 1048576
  · have hbig : laws_big.f l = some false := by unfold laws_big.f; rw [decide_eq_false (by omega)]
    obtain ⟨⟨a, b, k⟩, _, hD⟩ := spec_DrawOnesInCubes.ok l hb
    suffices hfin : Ev (fun k => laws_FnRandom.f k l) true by
      obtain ⟨K, hK⟩ := hfin
      exact ⟨K, hK K (Nat.le_refl _)⟩
    have hO1 := impl_OnesInCubes.ev a b k
    have hO2 := spec_OnesInCubes.ev a b k
    have hC1 := impl_ConstantCubes.ev a b k
    have hC2 := spec_ConstantCubes.ev a b k
    have hS1 := impl_DepthSum.ev a b k
    have hS2 := spec_DepthSum.ev a b k
    have hA1 := impl_AverageDegree.ev a b k
    have hA2 := spec_AverageDegree.ev a b k
    have hrest : (spec_OnesInCubes.r a b k).length ≤ 1000000 ∧ Ev (fun q => laws_FnRandom.j0 q l k (spec_OnesInCubes.r a b k) (spec_ConstantCubes.r a b k) (spec_DepthSum.r a b k) (spec_AverageDegree.r a b k) false a b) true := by
      unfold spec_OnesInCubes.r spec_ConstantCubes.r spec_DepthSum.r spec_AverageDegree.r
      cases hok : spec_l24Fine.ok a b k with
      | false =>
        simp only [Bool.false_eq_true, ↓reduceIte]
        refine ⟨by simp, Ev.step (fun q => ?_) (laws_FnRandom.j2_ev l hb)⟩
        simp only [laws_FnRandom.j0, Bool.false_eq_true, ↓reduceIte]
        rw [if_neg (by simp)]
      | true =>
        obtain ⟨n, v, kk, rfl, rfl, rfl, hn, hv, hk⟩ := spec_l24Fine.nat hok
        simp only [↓reduceIte, Int.toNat_natCast]
        have hlt := cutAll_lt (k := kk) hn hv (2 ^ n) (Nat.le_refl _)
        have hlen := words_len n v kk
        have hle := lenC_le n (by omega) kk (by omega)
        have h16k := pow16 (n := kk) (by omega)
        have hpc : ∀ x ∈ cutAll n v kk (2 ^ n), pc x < 2 ^ kk + 1 := fun x hx => by have := pc_bound (k := kk) (by omega) (hlt x hx); omega
        refine ⟨by rw [impl_OnesInCubes.tally_len]; omega, ?_⟩
        have hcu := laws_FnRandom.mono_ev (fun q => impl_CubesOf.mono (n : Int) (kk : Int) q) 120 (laws_FnRandom.cubes4 n (by omega) kk (by omega) hk)
        have hval := laws_FnRandom.tally_val (2 ^ kk + 1) (cutAll n v kk (2 ^ n)) hpc (by omega)
        have hgo := laws_FnRandom.l0_ev l hb hn hv hk (impl_OnesInCubes.tally (2 ^ kk + 1) (cutAll n v kk (2 ^ n))) ((spec_ConstantCubes.num kk (cutAll n v kk (2 ^ n)) : Nat) : Int) (spec_DepthSum.S kk (cutAll n v kk (2 ^ n))) (spec_AverageDegree.S kk (cutAll n v kk (2 ^ n))) hval rfl (by
            unfold spec_DepthSum.S
            have := fold_sum (spec_DepthSum.H kk) (ldW kk) (cutAll n v kk (2 ^ n)) 0 (fun x _ => ⟨rfl, by have := ldW_le (k := kk) (by omega) x; omega⟩) (by omega)
            rw [Nat.zero_add] at this; exact this) (by
            unfold spec_AverageDegree.S
            have := fold_sum (spec_AverageDegree.H kk) (laws_FnRandom.gW kk) (cutAll n v kk (2 ^ n)) 0 (fun x _ => ⟨laws_FnRandom.gW_eq kk x, by have := ldW_le (k := kk) (by omega) x; have := laws_FnRandom.gW_le (n := kk) (v := x) (by omega); omega⟩) (by omega)
            rw [Nat.zero_add] at this; exact this)
        have hTl := impl_OnesInCubes.tally_len (2 ^ kk + 1) (cutAll n v kk (2 ^ n))
        refine Ev.step (f := fun q => (impl_CubesOf.f q (n : Int) (kk : Int)).bind fun t => laws_FnRandom.l0 q l (kk : Int) (impl_OnesInCubes.tally (2 ^ kk + 1) (cutAll n v kk (2 ^ n))) ((spec_ConstantCubes.num kk (cutAll n v kk (2 ^ n)) : Nat) : Int) (spec_DepthSum.S kk (cutAll n v kk (2 ^ n))) (spec_AverageDegree.S kk (cutAll n v kk (2 ^ n))) t 0 0 (n : Int) (v : Int)) (fun q => ?_) (Ev.bind hcu hgo)
        have hpos : ((impl_OnesInCubes.tally (2 ^ kk + 1) (cutAll n v kk (2 ^ n))).length : Int) > 0 := by rw [hTl]; exact Int.natCast_pos.mpr (Nat.succ_pos _)
        simp only [laws_FnRandom.j0, Bool.false_eq_true, ↓reduceIte]
        rw [if_pos hpos]
    obtain ⟨hlen, hj⟩ := hrest
    generalize spec_OnesInCubes.r a b k = ro at *
    generalize spec_ConstantCubes.r a b k = rc at *
    generalize spec_DepthSum.r a b k = rs at *
    generalize spec_AverageDegree.r a b k = ra at *
    obtain ⟨K1, k1⟩ := hD
    obtain ⟨K2, k2⟩ := hO2
    obtain ⟨K3, k3⟩ := hC2
    obtain ⟨K4, k4⟩ := hS2
    obtain ⟨K5, k5⟩ := hA1
    obtain ⟨K6, k6⟩ := hA2
    obtain ⟨K7, k7⟩ := laws_FnRandom.same_ev ro hlen
    obtain ⟨K8, k8⟩ := hj
    refine Ev.since (K1 + K2 + K3 + K4 + K5 + K6 + K7 + K8) fun q hq => ?_
    replace k1 := k1 q (by omega)
    replace k2 := k2 q (by omega)
    replace k3 := k3 q (by omega)
    replace k4 := k4 q (by omega)
    replace k5 := k5 q (by omega)
    replace k6 := k6 q (by omega)
    replace k7 := k7 q (by omega)
    replace k8 := k8 q (by omega)
    simp only [laws_FnRandom.f, hbig, k1, k2, k3, k4, k5, k6, k7, hO1, hC1, hS1, Option.bind_some, ↓reduceIte, bne_self_eq_false, Bool.false_eq_true]
    exact k8
  · refine ⟨0, ?_⟩
    unfold laws_FnRandom.f laws_big.f
    rw [decide_eq_true (by omega), Option.bind_some, if_pos rfl]

end Go.Proofs.Ythekbiofjhkecaa.Print
