/- Functions of the given program as plain Lean functions, with proofs that their calls compute them, or lemmas on these. Laid by a program of this repo for the seat YtkmicbnbclkkkaaDoor; Lean checks it. -/
import Derived.Test.YtkmicbnbclkkkaaDoorKTrees2
import Derived.Test.YtkmicbnbclkkkaaDoorKTrees16
import Derived.Test.YtkmicbnbclkkkaaDoorKTrees31
import Derived.Test.YtkmicbnbclkkkaaDoorKTrees33
import Derived.Test.YtkmicbnbclkkkaaDoorKTrees34
import Derived.Test.YtkmicbnbclkkkaaDoorM14
namespace Go.Proofs.YtkmicbnbclkkkaaDoor.Print
open Go.RowKit Go.Proofs.YtkmicbnbclkkkaaDoorW.PrintWords Go.Proofs.YtkmicbnbclkkkaaDoorW.PrintLast Go.Proofs.YtkmicbnbclkkkaaDoorW.PrintMore
attribute [local go_sem] max2_int min2_int max_two min_two max_three min_three max_four min_four   -- for this text's walks alone
set_option linter.unusedVariables false
set_option linter.unusedSimpArgs false

/-! ### facts on spec_l1Byte -/
--IMPORT M14
open Go.Proofs.YtkmicbnbclkkkaaDoor.M in
theorem spec_l1Byte.ok (b : List Int) (i h : Int) (hb : b.length ≤ 1048576) (hi : 0 ≤ i) : ∃ x i' h', spec_l1Byte.f b i h = some (x, i', h') ∧ 0 ≤ x ∧ x ≤ 255 ∧ 0 ≤ i' := by
  unfold spec_l1Byte.f
  by_cases hc : i < (b.length : Int)
  · rw [if_pos hc, if_pos hi, w64 (x := i + 1) (by omega) (by omega)]
    exact ⟨_, _, _, rfl, (and_255 _).1, (and_255 _).2, by omega⟩
  · rw [if_neg hc]
    exact ⟨_, _, _, rfl, (and_255 _).1, (and_255 _).2, hi⟩

/-! ### facts on spec_l1Below -/
--IMPORT M14
open Go.Proofs.YtkmicbnbclkkkaaDoor.M in
/-- a number below n -/
theorem spec_l1Below.ok (b : List Int) (i h n : Int) (hb : b.length ≤ 1048576) (hi : 0 ≤ i) (h1 : 1 ≤ n) (h2 : n ≤ 256) : ∃ x i' h', spec_l1Below.f b i h n = some (x, i', h') ∧ 0 ≤ x ∧ x < n ∧ 0 ≤ i' := by
  obtain ⟨x, i', h', e, e1, e2, e3⟩ := spec_l1Byte.ok b i h hb hi
  unfold spec_l1Below.f
  rw [if_neg (by omega), if_pos h2, e, Option.bind_some, if_neg (by omega)]
  exact ⟨_, _, _, rfl, Int.tmod_nonneg n e1, Int.tmod_lt_of_pos x (by omega), e3⟩
/-! ### facts on spec_l1PickInt -/
--IMPORT M14
open Go.Proofs.YtkmicbnbclkkkaaDoor.M in
theorem spec_l1PickInt.ok (b : List Int) (i h : Int) (l : List Int) (hb : b.length ≤ 1048576) (hi : 0 ≤ i) (h1 : 1 ≤ l.length) (h2 : l.length ≤ 256) : ∃ x i' h', spec_l1PickInt.f b i h l = some (x, i', h') ∧ x ∈ l ∧ 0 ≤ i' := by
  obtain ⟨x, i', h', e, e1, e2, e3⟩ := spec_l1Below.ok b i h (l.length : Int) hb hi (by omega) (by omega)
  unfold spec_l1PickInt.f
  rw [e, Option.bind_some, if_pos e1, if_pos e2]
  refine ⟨_, _, _, rfl, ?_, e3⟩
  obtain ⟨j, rfl⟩ := nat_of e1
  have hj : j < l.length := by omega
  show rd l (j : Int) ∈ l
  simp [rd, List.getD_eq_getElem?_getD, hj]

/-! ### facts on spec_l2Count -/
--IMPORT M1
open Go.Proofs.YtkmicbnbclkkkaaDoor.M in
theorem spec_l2Count.loop : ∀ (d w acc : Nat), w < 2 ^ d → d ≤ 62 → acc + d ≤ 1000 → Ev (fun k => spec_l2Count.l0 k acc w) ((acc + cnt w.testBit d : Nat) : Int)
  | 0, w, acc, hw, _, ha => by
    obtain rfl : w = 0 := by omega
    refine Ev.end (fun k => ?_)
    simp only [spec_l2Count.l0]
    rw [if_neg (by omega)]; rfl
  | d + 1, w, acc, hw, hd, ha => by
    by_cases h0 : w = 0
    · subst h0
      refine Ev.end (fun k => ?_)
      simp only [spec_l2Count.l0]
      rw [if_neg (by omega), cnt_zero]; rfl
    · have h := spec_l2Count.loop d (w / 2) (acc + w % 2) (by rw [Nat.pow_succ] at hw; omega) (by omega) (by omega)
      rw [show acc + w % 2 + cnt (w / 2).testBit d = acc + cnt w.testBit (d + 1) by rw [cnt_half]; omega] at h
      refine Ev.step (fun k => ?_) h
      have hp := p63 (n := d + 1) hd
      simp only [spec_l2Count.l0]
      rw [if_pos (by omega)]
      have e1 : Go.bits .and .i64 (w : Int) 1 = ((w % 2 : Nat) : Int) := by
        rw [← Nat.and_one_is_mod]; exact and_nat (b := 1) (by omega) (by decide)
      rw [e1, w64 (by omega) (by omega)]
      congr 1
open Go.Proofs.YtkmicbnbclkkkaaDoor.M in
theorem spec_l2Count.ev {w : Nat} (h : w < 2 ^ 32) : Ev (fun k => spec_l2Count.f k w) ((pc w : Nat) : Int) := by
  have := spec_l2Count.loop 32 w 0 h (by omega) (by omega)
  rw [Nat.zero_add] at this
  exact this

/-! ### facts on spec_l2Full -/
--IMPORT M0
open Go.Proofs.YtkmicbnbclkkkaaDoor.M in
theorem spec_l2Full.ev {n : Nat} (h : n ≤ 5) : spec_l2Full.f n = some (((2 ^ 2 ^ n : Nat) : Int) - 1) := by
  unfold spec_l2Full.f
  rw [if_pos (Int.natCast_nonneg n), full_word h]

/-! ### facts on spec_l2Draw -/
--IMPORT M14
--IMPORT M1
open Go.Proofs.YtkmicbnbclkkkaaDoor.M in
/-- the end of all its ways -/
theorem spec_l2Draw.fin {n : Nat} (hn : n ≤ 4) (x i h : Int) : ∃ W, (if (n : Int) = 0 then ((spec_l2Full.f (n : Int)).bind fun t => (some ((n : Int), Go.bits .and .i64 (Go.bits .and .i64 x 1) t, i, h))) else ((spec_l2Full.f (n : Int)).bind fun t => (some ((n : Int), Go.bits .and .i64 x t, i, h)))) = some ((n : Int), W, i, h) := by
  rw [spec_l2Full.ev (by omega)]
  by_cases e : (n : Int) = 0
  · rw [if_pos e]; exact ⟨_, rfl⟩
  · rw [if_neg e]; exact ⟨_, rfl⟩
open Go.Proofs.YtkmicbnbclkkkaaDoor.M in
theorem spec_l2Draw.pow_le {n : Nat} (hn : n ≤ 4) : 2 ^ n ≤ 16 := Nat.pow_le_pow_right (n := 2) (by decide) hn
open Go.Proofs.YtkmicbnbclkkkaaDoor.M in
theorem spec_l2Draw.ok0 (b : List Int) (i h : Int) (hi : 0 ≤ i) {n : Nat} (hn : n ≤ 4) (x : Int) : Tot (fun k => spec_l2Draw.l0 k n x 0 b i h) (fun r => r.1 = (n : Int) ∧ 0 ≤ r.2.2.1) := by
  have h16 := spec_l2Draw.pow_le hn
  have hn0 : (0 : Int) ≤ (n : Int) := Int.natCast_nonneg n
  have hs := shl_one (n := n) (by omega)
  refine Tot.up (S := Int) (fun j s k => spec_l2Draw.l0 k n s (j : Int) b i h) (2 ^ n) (fun _ _ => True) ?_ ?_ (2 ^ n) 0 x (by omega) trivial
  · intro j s hj _ hnx
    have hlt : (j : Int) < ((2 ^ n : Nat) : Int) := Int.ofNat_lt.mpr hj
    have hj0 : (0 : Int) ≤ (j : Int) := Int.natCast_nonneg j
    have hu := up1 (x := j) (by omega)
    refine Tot.step (f := fun k => (spec_l2Count.f k j).bind fun t => if wrap64 (2 * t) > (n : Int) then spec_l2Draw.l0 k n (Go.bits .or .i64 s (shl .i64 1 (j : Int))) ((j + 1 : Nat) : Int) b i h else spec_l2Draw.l0 k n s ((j + 1 : Nat) : Int) b i h) (fun k => ?_) (Tot.bind (Tot.ev (P := fun _ => True) (spec_l2Count.ev (w := j) (by omega)) trivial) (fun t _ => Tot.ite _ (fun _ => hnx _ trivial) (fun _ => hnx _ trivial)))
    simp only [spec_l2Draw.l0, hs, hn0, hlt, hj0, hu, ↓reduceIte]
  · intro s _
    obtain ⟨W, hW⟩ := spec_l2Draw.fin hn s i h
    refine Tot.end ((n : Int), W, i, h) ⟨rfl, hi⟩ (fun k => ?_)
    · simp only [spec_l2Draw.l0, hs, hn0, Int.lt_irrefl, ↓reduceIte]
      exact hW
open Go.Proofs.YtkmicbnbclkkkaaDoor.M in
theorem spec_l2Draw.ok1 (b : List Int) (i h : Int) (hi : 0 ≤ i) {n : Nat} (hn : n ≤ 4) (x : Int) : Tot (fun k => spec_l2Draw.l1 k n x 0 b i h) (fun r => r.1 = (n : Int) ∧ 0 ≤ r.2.2.1) := by
  have h16 := spec_l2Draw.pow_le hn
  have hn0 : (0 : Int) ≤ (n : Int) := Int.natCast_nonneg n
  have hs := shl_one (n := n) (by omega)
  refine Tot.up (S := Int) (fun j s k => spec_l2Draw.l1 k n s (j : Int) b i h) (2 ^ n) (fun _ _ => True) ?_ ?_ (2 ^ n) 0 x (by omega) trivial
  · intro j s hj _ hnx
    have hlt : (j : Int) < ((2 ^ n : Nat) : Int) := Int.ofNat_lt.mpr hj
    have hj0 : (0 : Int) ≤ (j : Int) := Int.natCast_nonneg j
    have hu := up1 (x := j) (by omega)
    refine Tot.step (f := fun k => (spec_l2Count.f k j).bind fun t => if Int.tmod t 2 = 1 then spec_l2Draw.l1 k n (Go.bits .or .i64 s (shl .i64 1 (j : Int))) ((j + 1 : Nat) : Int) b i h else spec_l2Draw.l1 k n s ((j + 1 : Nat) : Int) b i h) (fun k => ?_) (Tot.bind (Tot.ev (P := fun _ => True) (spec_l2Count.ev (w := j) (by omega)) trivial) (fun t _ => Tot.ite _ (fun _ => hnx _ trivial) (fun _ => hnx _ trivial)))
    simp only [spec_l2Draw.l1, hs, hn0, hlt, hj0, hu, ↓reduceIte]
  · intro s _
    obtain ⟨W, hW⟩ := spec_l2Draw.fin hn s i h
    refine Tot.end ((n : Int), W, i, h) ⟨rfl, hi⟩ (fun k => ?_)
    · simp only [spec_l2Draw.l1, hs, hn0, Int.lt_irrefl, ↓reduceIte]
      exact hW
open Go.Proofs.YtkmicbnbclkkkaaDoor.M in
theorem spec_l2Draw.ok2 (b : List Int) (i h y : Int) (hi : 0 ≤ i) {n : Nat} (hn : n ≤ 4) (x : Int) : Tot (fun k => spec_l2Draw.l2 k n x y 0 b i h) (fun r => r.1 = (n : Int) ∧ 0 ≤ r.2.2.1) := by
  have h16 := spec_l2Draw.pow_le hn
  have hn0 : (0 : Int) ≤ (n : Int) := Int.natCast_nonneg n
  have hs := shl_one (n := n) (by omega)
  refine Tot.up (S := Int) (fun j s k => spec_l2Draw.l2 k n s y (j : Int) b i h) (2 ^ n) (fun _ _ => True) ?_ ?_ (2 ^ n) 0 x (by omega) trivial
  · intro j s hj _ hnx
    have hlt : (j : Int) < ((2 ^ n : Nat) : Int) := Int.ofNat_lt.mpr hj
    have hj0 : (0 : Int) ≤ (j : Int) := Int.natCast_nonneg j
    have hu := up1 (x := j) (by omega)
    refine Tot.step (f := fun k => if Go.bits .and .i64 (j : Int) y = y then spec_l2Draw.l2 k n (Go.bits .or .i64 s (shl .i64 1 (j : Int))) y ((j + 1 : Nat) : Int) b i h else spec_l2Draw.l2 k n s y ((j + 1 : Nat) : Int) b i h) (fun k => ?_) (Tot.ite _ (fun _ => hnx _ trivial) (fun _ => hnx _ trivial))
    simp only [spec_l2Draw.l2, hs, hn0, hlt, hj0, hu, ↓reduceIte]
  · intro s _
    obtain ⟨W, hW⟩ := spec_l2Draw.fin hn s i h
    refine Tot.end ((n : Int), W, i, h) ⟨rfl, hi⟩ (fun k => ?_)
    · simp only [spec_l2Draw.l2, hs, hn0, Int.lt_irrefl, ↓reduceIte]
      exact hW
open Go.Proofs.YtkmicbnbclkkkaaDoor.M in
theorem spec_l2Draw.ok3 (b : List Int) (hb : b.length ≤ 1048576) (i h : Int) (hi : 0 ≤ i) {n : Nat} (hn : n ≤ 4) (x : Int) : Tot (fun k => spec_l2Draw.l3 k n x 0 b i h) (fun r => r.1 = (n : Int) ∧ 0 ≤ r.2.2.1) := by
  have h16 := spec_l2Draw.pow_le hn
  have hn0 : (0 : Int) ≤ (n : Int) := Int.natCast_nonneg n
  have hs := shl_one (n := n) (by omega)
  refine Tot.up (S := Int × Int × Int) (fun j s k => spec_l2Draw.l3 k n s.1 (j : Int) b s.2.1 s.2.2) (2 ^ n) (fun _ s => 0 ≤ s.2.1) ?_ ?_ (2 ^ n) 0 (x, i, h) (by omega) hi
  · rintro j ⟨s, i, h⟩ hj hi hnx
    have hlt : (j : Int) < ((2 ^ n : Nat) : Int) := Int.ofNat_lt.mpr hj
    have hj0 : (0 : Int) ≤ (j : Int) := Int.natCast_nonneg j
    have hu := up1 (x := j) (by omega)
    obtain ⟨q, i', h', e, _, _, e3⟩ := spec_l1Below.ok b i h 2 hb hi (by decide) (by decide)
    refine Tot.step (f := fun k => spec_l2Draw.l3 k n (Go.bits .or .i64 s (shl .i64 q (j : Int))) ((j + 1 : Nat) : Int) b i' h') (fun k => ?_) (hnx (_, i', h') e3)
    simp only [spec_l2Draw.l3, hs, hn0, hlt, hj0, hu, e, Option.bind_some, ↓reduceIte]
  · rintro ⟨s, i, h⟩ hi
    obtain ⟨W, hW⟩ := spec_l2Draw.fin hn s i h
    refine Tot.end ((n : Int), W, i, h) ⟨rfl, hi⟩ (fun k => ?_)
    · simp only [spec_l2Draw.l3, hs, hn0, Int.lt_irrefl, ↓reduceIte]
      exact hW
open Go.Proofs.YtkmicbnbclkkkaaDoor.M in
theorem spec_l2Draw.var {n j : Nat} (hn : n ≤ 4) (hj : j ≤ 4) : Tot (fun k => spec_l2Variable.f k n j) (fun _ => True) := by
  have h16 := spec_l2Draw.pow_le hn
  have hn0 : (0 : Int) ≤ (n : Int) := Int.natCast_nonneg n
  have hj1 : (0 : Int) ≤ (j : Int) := Int.natCast_nonneg j
  have hs := shl_one (n := n) (by omega)
  refine Tot.up (S := Int) (fun x s k => spec_l2Variable.l0 k n j s (x : Int)) (2 ^ n) (fun _ _ => True) ?_ ?_ (2 ^ n) 0 0 (by omega) trivial
  · intro x s hx _ hnx
    have hlt : (x : Int) < ((2 ^ n : Nat) : Int) := Int.ofNat_lt.mpr hx
    have hx0 : (0 : Int) ≤ (x : Int) := Int.natCast_nonneg x
    have hu := up1 (x := x) (by omega)
    refine Tot.step (f := fun k => if Go.bits .and .i64 (shr .i64 (x : Int) (j : Int)) 1 = 1 then spec_l2Variable.l0 k n j (Go.bits .or .i64 s (shl .i64 1 (x : Int))) ((x + 1 : Nat) : Int) else spec_l2Variable.l0 k n j s ((x + 1 : Nat) : Int)) (fun k => ?_) (Tot.ite _ (fun _ => hnx _ trivial) (fun _ => hnx _ trivial))
    simp only [spec_l2Variable.l0, hs, hn0, hj1, hlt, hx0, hu, ↓reduceIte]
  · intro s _
    refine Tot.end s trivial (fun k => ?_)
    simp only [spec_l2Variable.l0, hs, hn0, Int.lt_irrefl, ↓reduceIte]
open Go.Proofs.YtkmicbnbclkkkaaDoor.M in
theorem spec_l2Draw.ok (b : List Int) (hb : b.length ≤ 1048576) (i h : Int) (hi : 0 ≤ i) {n : Nat} (hn : n ≤ 4) : Tot (fun k => spec_l2Draw.f k b i h n) (fun r => r.1 = (n : Int) ∧ 0 ≤ r.2.2.1) := by
  obtain ⟨q, i', h', e, q1, q2, e3⟩ := spec_l1Below.ok b i h 6 hb hi (by decide) (by decide)
  have h16 := spec_l2Draw.pow_le hn
  have hn0 : (0 : Int) ≤ (n : Int) := Int.natCast_nonneg n
  have hs := shl_one (n := n) (by omega)
  have hp := Nat.two_pow_pos n
  unfold spec_l2Draw.f
  simp only [e, Option.bind_some]
  refine Tot.ite _ (fun _ => ?_) (fun _ => Tot.ite _ (fun _ => spec_l2Draw.ok0 b i' h' e3 hn 0) (fun _ => Tot.ite _ (fun _ => spec_l2Draw.ok1 b i' h' e3 hn 0) (fun _ => Tot.ite _ (fun _ => ?_) (fun _ => spec_l2Draw.ok3 b hb i' h' e3 hn 0))))
  · have hm : 1 ≤ mx 1 (n : Int) ∧ mx 1 (n : Int) ≤ 4 := by unfold mx; split <;> omega
    obtain ⟨y, i2, h2, e2, y1, y2, y3⟩ := spec_l1Below.ok b i' h' (mx 1 (n : Int)) hb e3 hm.1 (by omega)
    simp only [e2, Option.bind_some]
    obtain ⟨j, rfl⟩ := nat_of y1
    refine Tot.bind (spec_l2Draw.var hn (j := j) (by omega)) (fun t _ => ?_)
    obtain ⟨W, hW⟩ := spec_l2Draw.fin hn t i2 h2
    exact Tot.congr (fun k => hW) (Tot.now _ ⟨rfl, y3⟩)
  · simp only [hn0, hs, ↓reduceIte]
    obtain ⟨y, i2, h2, e2, y1, y2, y3⟩ := spec_l1Below.ok b i' h' ((2 ^ n : Nat) : Int) hb e3 (by omega) (by omega)
    simp only [e2, Option.bind_some]
    exact spec_l2Draw.ok2 b i2 h2 y y3 hn 0

/-! ### facts on spec_l2Any -/
--IMPORT M14
open Go.Proofs.YtkmicbnbclkkkaaDoor.M in
theorem spec_l2Any.ok (b : List Int) (hb : b.length ≤ 1048576) (i h : Int) (hi : 0 ≤ i) : Tot (fun k => spec_l2Any.f k b i h) (fun r => 0 ≤ r.2.2.1) := by
  obtain ⟨q, i', h', e, q1, q2, e3⟩ := spec_l1Below.ok b i h 5 hb hi (by decide) (by decide)
  unfold spec_l2Any.f
  simp only [e, Option.bind_some]
  obtain ⟨n, rfl⟩ := nat_of q1
  refine Tot.bind (spec_l2Draw.ok b hb i' h' e3 (n := n) (by omega)) (fun r hr => ?_)
  obtain ⟨y, i2, h2, e2, _, _, y3⟩ := spec_l1Below.ok b r.2.2.1 r.2.2.2 14 hb hr.2 (by decide) (by decide)
  simp only [e2, Option.bind_some]
  obtain ⟨z0, i3, h3, w0, _, z1⟩ := spec_l1PickInt.ok b i2 h2 [(-1), 6, 5, 0, 9223372036854775807] hb y3 (by decide) (by decide)
  obtain ⟨z2, i4, h4, w1, _, z3⟩ := spec_l1PickInt.ok b i2 h2 [(-1), 0, 1, 65536, 9223372036854775807] hb y3 (by decide) (by decide)
  simp only [w0, w1, Option.bind_some]
  exact Tot.ite _ (fun _ => Tot.now _ z1) (fun _ => Tot.ite _ (fun _ => Tot.now _ z3) (fun _ => Tot.now _ y3))

/-! ### facts on spec_l1New -/
--IMPORT M14
open Go.Proofs.YtkmicbnbclkkkaaDoor.M in
theorem spec_l1New.ok (b : List Int) (hb : b.length ≤ 1048576) : Tot (fun k => spec_l1New.f k b) (fun r => r.1 = b ∧ r.2.1 = 0) := by
  unfold spec_l1New.f
  refine Tot.up (S := Int) (fun i s k => spec_l1New.l0 k b s (i : Int)) b.length (fun _ _ => True) ?_ ?_ b.length 0 _ (by omega) trivial
  · intro i s hi _ hn
    by_cases h4 : (i : Int) < 4000
    · refine Tot.step (fun k => ?_) (hn (Go.bits .and .i64 (wrap64 ((wrap64 ((wrap64 (s * 131)) + (wrap64 (rd b i)))) + 7)) 1073741823) trivial)
      simp only [spec_l1New.l0]
      rw [if_pos (Int.ofNat_lt.mpr hi), if_pos h4, if_pos (Int.natCast_nonneg i), up1 (by omega)]
    · refine Tot.end (b, 0, s) ⟨rfl, rfl⟩ (fun k => ?_)
      simp only [spec_l1New.l0]
      rw [if_pos (Int.ofNat_lt.mpr hi), if_neg h4]
  · intro s _
    refine Tot.end (b, 0, s) ⟨rfl, rfl⟩ (fun k => ?_)
    simp only [spec_l1New.l0]
    rw [if_neg (by omega)]

/-! ### facts on spec_DrawBestTree -/
--IMPORT M14
open Go.Proofs.YtkmicbnbclkkkaaDoor.M in
theorem spec_DrawBestTree.ok (b : List Int) (hb : b.length ≤ 1048576) : Tot (fun k => spec_DrawBestTree.f k b) (fun _ => True) := by
  unfold spec_DrawBestTree.f
  refine Tot.bind (spec_l1New.ok b hb) (fun r hr => ?_)
  obtain ⟨r1, r2, r3⟩ := r
  obtain ⟨rfl, rfl⟩ := hr
  exact Tot.bind (spec_l2Any.ok r1 hb 0 r3 (Int.le_refl 0)) (fun s _ => Tot.now _ trivial)

/-! ### facts on impl_isBits -/
theorem impl_isBits.ev (a : Int) : impl_isBits.f a = some (decide (0 ≤ a ∧ a ≤ 5)) := by
  unfold impl_isBits.f
  by_cases h : 0 ≤ a
  · rw [if_pos h]; simp [h]
  · rw [if_neg h]; simp [h]

/-! ### facts on impl_IsTable -/
--IMPORT M0
open Go.Proofs.YtkmicbnbclkkkaaDoor.M in
theorem impl_IsTable.ev (a b : Int) : impl_IsTable.f a b = some (isT a b) := by
  unfold impl_IsTable.f isT
  rw [impl_isBits.ev]
  by_cases h : 0 ≤ a ∧ a ≤ 5
  · obtain ⟨n, rfl⟩ := nat_of h.1
    have hn : n ≤ 5 := by omega
    simp only [Option.bind_some, h, and_self, decide_true, if_true]
    by_cases hb : b ≥ 0
    · obtain ⟨v, rfl⟩ := nat_of hb
      have h5 := pow_le_5 hn
      rw [if_pos hb]
      unfold impl_Table_size.f
      rw [if_pos (Int.natCast_nonneg n), shl_one (by omega)]
      simp only [Option.bind_some]
      rw [if_pos (Int.natCast_nonneg _), shr_nat (by omega)]
      congr 1
      rw [Bool.eq_iff_iff]
      simp only [beq_iff_eq, decide_eq_true_eq, Int.toNat_natCast]
      have hz : v / 2 ^ 2 ^ n = 0 ↔ v < 2 ^ 2 ^ n := Nat.div_eq_zero_iff_lt (Nat.two_pow_pos _)
      rw [show (((v / 2 ^ 2 ^ n : Nat) : Int) = 0 ↔ v / 2 ^ 2 ^ n = 0) from by omega, hz]
      obtain ⟨P, hP⟩ : ∃ P, P = 2 ^ 2 ^ n := ⟨_, rfl⟩
      rw [← hP]
      simp only [h, true_and]
      omega
    · rw [if_neg hb]
      congr 1
      symm
      apply decide_eq_false
      omega
  · have h' : ¬ (0 ≤ a ∧ a ≤ 5 ∧ 0 ≤ b ∧ b < ((2 ^ 2 ^ a.toNat : Nat) : Int)) := fun e => h ⟨e.1, e.2.1⟩
    simp only [h, h', decide_false, Option.bind_some, Bool.false_eq_true, if_false]

/-! ### facts on impl_isSmall -/
--IMPORT M5
open Go.Proofs.YtkmicbnbclkkkaaDoor.M in
theorem impl_isSmall.ev (a b m : Int) : impl_isSmall.f a b m = some (isT a b && decide (a ≤ m)) := by
  unfold impl_isSmall.f
  rw [impl_IsTable.ev, Option.bind_some]
  cases isT a b <;> simp

/-! ### facts on spec_l1In -/
theorem spec_l1In.ev (a b c : Int) : spec_l1In.f a b c = some (decide (b ≤ a ∧ a ≤ c)) := by
  unfold spec_l1In.f
  by_cases h : b ≤ a
  · rw [if_pos h]; simp [h]
  · rw [if_neg h]; simp [h]

/-! ### facts on spec_IsTable -/
--IMPORT M0
open Go.Proofs.YtkmicbnbclkkkaaDoor.M in
theorem spec_IsTable.ev (a b : Int) : spec_IsTable.f a b = some (isT a b) := by
  unfold spec_IsTable.f isT
  rw [spec_l1In.ev]
  by_cases h : 0 ≤ a ∧ a ≤ 5
  · obtain ⟨n, rfl⟩ := nat_of h.1
    have hn : n ≤ 5 := by omega
    simp only [Option.bind_some, h, and_self, decide_true, if_true]
    rw [full_word hn, spec_l1In.ev]
    simp only [Option.bind_some, Int.toNat_natCast, h, true_and]
    congr 1
    apply decide_eq_decide.mpr
    omega
  · have h' : ¬ (0 ≤ a ∧ a ≤ 5 ∧ 0 ≤ b ∧ b < ((2 ^ 2 ^ a.toNat : Nat) : Int)) := fun e => h ⟨e.1, e.2.1⟩
    simp only [h, h', decide_false, Option.bind_some, Bool.false_eq_true, if_false]

/-! ### facts on spec_l3Cube -/
--IMPORT M12
open Go.Proofs.YtkmicbnbclkkkaaDoor.M in
theorem spec_l3Cube.loop {n v m u : Nat} (hn : n ≤ 5) (hv : v < 2 ^ 2 ^ n) (hm : m < 2 ^ 32) : ∀ (d i : Nat) (c : Int), i + d = 2 ^ n → Ev (fun k => spec_l3Cube.l0 k (m : Int) (u : Int) c (i : Int) (n : Int) (v : Int)) (cubeGo c (((List.range' i d).filter (fun x => x &&& m == u)).map v.testBit))
  | 0, i, c, h => by
    have h5 := pow_le_5 hn
    refine Ev.end (fun k => ?_)
    simp only [spec_l3Cube.l0]
    rw [if_pos (Int.natCast_nonneg n), shl_one (by omega), if_neg (by omega)]; rfl
  | d + 1, i, c, h => by
    have h5 := pow_le_5 hn
    have hf := full_p63 hn
    have ih := fun c => spec_l3Cube.loop (u := u) hn hv hm d (i + 1) c (by omega)
    have e1 : wrap64 ((i : Int) + 1) = ((i + 1 : Nat) : Int) := up1 (by omega)
    have ea : Go.bits .and .i64 (i : Int) (m : Int) = ((i &&& m : Nat) : Int) := and_nat (by omega) (by omega)
    have eb := bit_nat (a := v) (n := i) (by omega) (by omega)
    rw [List.range'_succ]
    by_cases hq : i &&& m = u
    · have hf2 : ((i :: List.range' (i + 1) d).filter (fun x => x &&& m == u)) = i :: ((List.range' (i + 1) d).filter (fun x => x &&& m == u)) := by
        rw [List.filter_cons, if_pos (beq_iff_eq.mpr hq)]
      rw [hf2, List.map_cons, cubeGo]
      by_cases hc : c ≥ 0
      · rw [if_pos hc]
        by_cases hcb : c = (((v.testBit i).toNat : Nat) : Int)
        · rw [if_pos hcb]
          refine Ev.step (fun k => ?_) (ih _)
          simp only [spec_l3Cube.l0]
          rw [if_pos (Int.natCast_nonneg n), shl_one (by omega), if_pos (by omega), ea, if_pos (by omega), if_pos (by omega), if_pos hc, eb, if_pos hcb, e1]
        · rw [if_neg hcb]
          refine Ev.end (fun k => ?_)
          simp only [spec_l3Cube.l0]
          rw [if_pos (Int.natCast_nonneg n), shl_one (by omega), if_pos (by omega), ea, if_pos (by omega), if_pos (by omega), if_pos hc, eb, if_neg hcb]
      · rw [if_neg hc]
        refine Ev.step (fun k => ?_) (ih _)
        simp only [spec_l3Cube.l0]
        rw [if_pos (Int.natCast_nonneg n), shl_one (by omega), if_pos (by omega), ea, if_pos (by omega), if_pos (by omega), if_neg hc, eb, e1]
    · have hf2 : ((i :: List.range' (i + 1) d).filter (fun x => x &&& m == u)) = ((List.range' (i + 1) d).filter (fun x => x &&& m == u)) := by
        rw [List.filter_cons, if_neg (fun e => hq (beq_iff_eq.mp e))]
      rw [hf2]
      refine Ev.step (fun k => ?_) (ih c)
      simp only [spec_l3Cube.l0]
      rw [if_pos (Int.natCast_nonneg n), shl_one (by omega), if_pos (by omega), ea, if_neg (by omega), e1]
open Go.Proofs.YtkmicbnbclkkkaaDoor.M in
theorem spec_l3Cube.ev {n v m u : Nat} (hn : n ≤ 5) (hv : v < 2 ^ 2 ^ n) (hm : m < 2 ^ 32) : Ev (fun k => spec_l3Cube.f k (n : Int) (v : Int) (m : Int) (u : Int)) (cubeGo (-1) (((List.range (2 ^ n)).filter (fun x => x &&& m == u)).map v.testBit)) := by
  rw [List.range_eq_range']
  exact spec_l3Cube.loop hn hv hm (2 ^ n) 0 (-1) (by omega)

/-! ### facts on spec_l7Least -/
--IMPORT M18
open Go.Proofs.YtkmicbnbclkkkaaDoor.M in
theorem spec_l7Least.mnx (b R0 R1 : Nat) (h0 : R0 ≤ 100) (h1 : R1 ≤ 100) : mn (b : Int) (wrap64 (1 + (mx (R0 : Int) (R1 : Int)))) = ((min b (1 + max R0 R1) : Nat) : Int) := by
  have e : mx (R0 : Int) (R1 : Int) = ((max R0 R1 : Nat) : Int) := by unfold mx; split <;> omega
  rw [e, w64 (by omega) (by omega)]
  unfold mn
  split <;> omega
open Go.Proofs.YtkmicbnbclkkkaaDoor.M in
theorem spec_l7Least.hasBit {m i : Nat} (hm : m < 2 ^ 63) (hi : i ≤ 62) : Go.bits .and .i64 (m : Int) (shl .i64 1 (i : Int)) = (((m.testBit i).toNat * 2 ^ i : Nat) : Int) := by
  have e : m &&& 2 ^ i = (m.testBit i).toNat * 2 ^ i := by
    apply Nat.eq_of_testBit_eq; intro j
    rw [Nat.testBit_and, Nat.testBit_two_pow]
    by_cases h : i = j
    · subst h; cases m.testBit i <;> simp
    · cases m.testBit i <;> simp [h, Nat.testBit_two_pow]
  rw [shl_one hi, and_nat hm (p63 hi), e]
open Go.Proofs.YtkmicbnbclkkkaaDoor.M in
theorem spec_l7Least.ev {n v : Nat} (hn : n ≤ 4) (hv : v < 2 ^ 2 ^ n) : ∀ d m u, Cb n m u → pc m + d = n → Ev (fun k => spec_l7Least.f k (n : Int) (v : Int) (m : Int) (u : Int)) ((ldC 10 n v d m u : Nat) : Int) := by
  have h16 := pow16 hn
  intro d
  induction d with
  | zero =>
    intro m u hc hp
    have hm := hc.hm
    have hcon := hc.con (v := v) (by omega)
    have h3 := spec_l3Cube.ev (n := n) (v := v) (m := m) (u := u) (by omega) hv (by omega)
    refine Ev.step (f := fun k => (spec_l3Cube.f k (n : Int) (v : Int) (m : Int) (u : Int)).bind fun t => if t < 2 then some 0 else spec_l7Least.l0 k (m : Int) (u : Int) 10 0 (n : Int) (v : Int)) (fun k => rfl) (Ev.bind h3 (Ev.congr (fun k => if_pos (of_decide_eq_true hcon)) (Ev.now _)))
  | succ d ih =>
    intro m u hc hp
    have hm := hc.hm
    have hu := hc.hu
    have h3 := spec_l3Cube.ev (n := n) (v := v) (m := m) (u := u) (by omega) hv (by omega)
    refine Ev.step (f := fun k => (spec_l3Cube.f k (n : Int) (v : Int) (m : Int) (u : Int)).bind fun t => if t < 2 then some 0 else spec_l7Least.l0 k (m : Int) (u : Int) 10 0 (n : Int) (v : Int)) (fun k => rfl) (Ev.bind h3 ?_)
    by_cases hcon : conL v (inX n m u) = true
    · have e : ldC 10 n v (d + 1) m u = 0 := by rw [ldC, if_pos hcon]
      rw [e]
      exact Ev.congr (fun k => if_pos (of_decide_eq_true hcon)) (Ev.now _)
    · have e : ldC 10 n v (d + 1) m u = bestOf (fun i => max (ldC 10 n v d (m ||| 2 ^ i) u) (ldC 10 n v d (m ||| 2 ^ i) (u ||| 2 ^ i))) 10 (frL n m) := by rw [ldC, if_neg hcon]
      rw [e]
      refine Ev.congr (fun k => if_neg (fun h => hcon (decide_eq_true h))) ?_
      exact Ev.count (fun q i => spec_l7Least.l0 q (m : Int) (u : Int) ((bestOf (fun i => max (ldC 10 n v d (m ||| 2 ^ i) u) (ldC 10 n v d (m ||| 2 ^ i) (u ||| 2 ^ i))) 10 (frL i m) : Nat) : Int) (i : Int) (n : Int) (v : Int)) n _ (fun i hi hnext => by
        cases hb : m.testBit i with
        | true =>
          rw [frL_succ_held hb] at hnext
          refine Ev.step (fun q => ?_) hnext
          have hp2 := Nat.two_pow_pos i
          simp only [spec_l7Least.l0]
          rw [if_pos (show (i : Int) < (n : Int) by omega), if_pos (Int.natCast_nonneg i), spec_l7Least.hasBit (by omega) (by omega), hb, if_neg (by rw [show true.toNat * 2 ^ i = 2 ^ i from Nat.one_mul _]; omega), up1 (by omega)]
        | false =>
          have hmem : i ∈ frL n m := by unfold frL; exact List.mem_filter.mpr ⟨List.mem_range.mpr hi, by rw [hb]; rfl⟩
          obtain ⟨q0, q1, q2⟩ := hc.step hmem
          have l0 := ldC_le (b := 10) (v := v) (by omega) q0 (d := d) (by omega)
          have l1 := ldC_le (b := 10) (v := v) (by omega) q1 (d := d) (by omega)
          rw [frL_succ_free hb, bestOf_snoc] at hnext
          refine Ev.step (f := fun q => (spec_l7Least.f q (n : Int) (v : Int) ((m ||| 2 ^ i : Nat) : Int) (u : Int)).bind fun t113 => (spec_l7Least.f q (n : Int) (v : Int) ((m ||| 2 ^ i : Nat) : Int) ((u ||| 2 ^ i : Nat) : Int)).bind fun t114 => spec_l7Least.l0 q (m : Int) (u : Int) (mn ((bestOf (fun i => max (ldC 10 n v d (m ||| 2 ^ i) u) (ldC 10 n v d (m ||| 2 ^ i) (u ||| 2 ^ i))) 10 (frL i m) : Nat) : Int) (wrap64 (1 + (mx t113 t114)))) ((i + 1 : Nat) : Int) (n : Int) (v : Int)) (fun q => ?_) (Ev.bind (ih _ _ q0 (by omega)) (Ev.bind (ih _ _ q1 (by omega)) ?_))
          · have hp2 := p63 (n := i) (by omega)
            simp only [spec_l7Least.l0]
            rw [if_pos (show (i : Int) < (n : Int) by omega), if_pos (Int.natCast_nonneg i), spec_l7Least.hasBit (by omega) (by omega), hb, if_pos (by simp), up1 (by omega), shl_one (by omega), or_nat (by omega) hp2, or_nat (by omega) hp2]
          · rw [spec_l7Least.mnx _ _ _ (by omega) (by omega)]
            exact hnext) (Ev.end (fun q => by
        simp only [spec_l7Least.l0]
        rw [if_neg (by omega)])) n 0 (by omega)

/-! ### facts on spec_l7Best -/
--IMPORT M41
open Go.Proofs.YtkmicbnbclkkkaaDoor.M in
theorem spec_l7Best.digit (c : Int) (h : c = 0 ∨ c = 1) : (⟨#[48, 49]⟩ : ByteArray).extract c.toNat (wrap64 (c + 1)).toNat = (Td.node (48 + c) .nil .nil).txt := by
  rcases h with rfl | rfl
  · have e : (wrap64 (0 + 1)).toNat = 1 := by unfold wrap64; decide
    rw [e]
    simp only [Td.txt, td_append_nil]
    rfl
  · have e : (wrap64 (1 + 1)).toNat = 2 := by unfold wrap64; decide
    rw [e]
    simp only [Td.txt, td_append_nil]
    rfl
theorem spec_l7Best.sz (a b c : Nat) (h : a = 1) (h1 : b + 1 ≤ 16) (h2 : c + 1 ≤ 16) : a + b ≤ 9223372036854775807 ∧ a + b + c ≤ 9223372036854775807 := by omega
theorem spec_l7Best.letter : ∀ i : Nat, i < 5 → (⟨#[97, 98, 99, 100, 101]⟩ : ByteArray).extract i (i + 1) = ⟨#[UInt8.ofNat (97 + i)]⟩
  | 0, _ => rfl
  | 1, _ => rfl
  | 2, _ => rfl
  | 3, _ => rfl
  | 4, _ => rfl
  | i + 5, h => by omega
open Go.Proofs.YtkmicbnbclkkkaaDoor.M in
theorem spec_l7Best.least {n v : Nat} (hn : n ≤ 4) (hv : v < 2 ^ 2 ^ n) {d m u : Nat} (hc : Cb n m u) (hp : pc m + d = n) : Ev (fun k => spec_l7Least.f k (n : Int) (v : Int) (m : Int) (u : Int)) ((ldC n n v d m u : Nat) : Int) := by
  have h := spec_l7Least.ev hn hv d m u hc hp
  rw [ldC_init (show n ≤ 10 by omega) (Nat.le_refl n) hc hp] at h
  exact h
open Go.Proofs.YtkmicbnbclkkkaaDoor.M in
theorem spec_l7Best.maxw (a b N : Nat) (ha : a ≤ 100) (hb : b ≤ 100) : (wrap64 (1 + (mx (a : Int) (b : Int))) == (N : Int)) = decide (1 + max a b = N) := by
  have e : mx (a : Int) (b : Int) = ((max a b : Nat) : Int) := by unfold mx; split <;> omega
  rw [e, w64 (by omega) (by omega), Bool.eq_iff_iff, beq_iff_eq, decide_eq_true_eq]; omega
open Go.Proofs.YtkmicbnbclkkkaaDoor.M in
theorem spec_l7Best.leaf {n v m u : Nat} (hv : v < 2 ^ 2 ^ n) (hc : Cb n m u) (hcon : conL v (inX n m u) = true) : Ev (fun k => spec_l7Best.f k (n : Int) (v : Int) (m : Int) (u : Int)) (Td.node (48 + bitC n v m u) .nil .nil).txt := by
  have h16 := pow16 hc.hn
  have hn := hc.hn
  have hm := hc.hm
  have h3 : Ev (fun k => spec_l3Cube.f k (n : Int) (v : Int) (m : Int) (u : Int)) (bitC n v m u) := spec_l3Cube.ev (n := n) (v := v) (m := m) (u := u) (by omega) hv (by omega)
  have hb := bitC_val hc hcon
  have hd := spec_l7Best.digit _ hb
  generalize bitC n v m u = c at *
  obtain ⟨K, hK⟩ := h3
  refine Ev.since (K + 1) fun q hq => ?_
  obtain ⟨q, rfl⟩ : ∃ q', q = q' + 1 := ⟨q - 1, by omega⟩
  have hK := hK q (by omega)
  dsimp only at hK
  have e1 : wrap64 (c + 1) = c + 1 := w64 (by omega) (by omega)
  simp only [spec_l7Best.f]
  rw [hK, Option.bind_some, if_pos (by omega), if_pos (by omega), if_pos (by rw [e1]; omega), if_pos (by rw [e1]; omega), hd]
open Go.Proofs.YtkmicbnbclkkkaaDoor.M in
theorem spec_l7Best.ev {n v : Nat} (hn : n ≤ 4) (hv : v < 2 ^ 2 ^ n) : ∀ d m u, Cb n m u → pc m + d = n → Ev (fun k => spec_l7Best.f k (n : Int) (v : Int) (m : Int) (u : Int)) (bestT n v d m u).txt := by
  have h16 := pow16 hn
  intro d
  induction d with
  | zero => intro m u hc hp; exact spec_l7Best.leaf hv hc (hc.con (by omega))
  | succ d ih =>
    intro m u hc hp
    rw [bestT]
    by_cases hcon : conL v (inX n m u) = true
    · rw [if_pos hcon]; exact spec_l7Best.leaf hv hc hcon
    · rw [if_neg hcon]
      obtain ⟨j, hj, j1, j2, j3⟩ := hc.best hp hcon
      rw [hj]
      simp only []
      have hm := hc.hm
      have hu := hc.hu
      have hm63 : m < 2 ^ 63 := by omega
      have hu63 : u < 2 ^ 63 := by omega
      have h3 : Ev (fun k => spec_l3Cube.f k (n : Int) (v : Int) (m : Int) (u : Int)) (bitC n v m u) := spec_l3Cube.ev (n := n) (v := v) (m := m) (u := u) (by omega) hv (by omega)
      have hb : ¬ bitC n v m u < 2 := fun e => hcon (conL_lt.mpr e)
      have hl := spec_l7Best.least hn hv hc hp
      obtain ⟨N, hN⟩ : ∃ N, N = ldC n n v (d + 1) m u := ⟨_, rfl⟩
      rw [← hN] at hl
      obtain ⟨R, hR⟩ : ∃ R, R = (Td.node ((97 + j : Nat) : Int) (bestT n v d (m ||| 2 ^ j) u) (bestT n v d (m ||| 2 ^ j) (u ||| 2 ^ j))).txt := ⟨_, rfl⟩
      rw [← hR]
      suffices hloop : ∀ e i, i + e = n → findF (isBest n v d m u) i e = some j → Ev (fun k => spec_l7Best.l0 k (m : Int) (u : Int) (N : Int) (i : Int) (n : Int) (v : Int)) R by
        have h0 := hloop n 0 (by omega) hj
        generalize bitC n v m u = c at *
        obtain ⟨K1, k1⟩ := h3
        obtain ⟨K2, k2⟩ := hl
        obtain ⟨K3, k3⟩ := h0
        refine Ev.since (K1 + K2 + K3 + 1) fun q hq => ?_
        obtain ⟨q, rfl⟩ : ∃ q', q = q' + 1 := ⟨q - 1, by omega⟩
        have k1 := k1 q (by omega)
        dsimp only at k1
        have k2 := k2 q (by omega)
        dsimp only at k2
        have k3 := k3 q (by omega)
        dsimp only at k3
        simp only [spec_l7Best.f]
        rw [k1, Option.bind_some, if_neg hb, k2, Option.bind_some]
        exact k3
      intro e
      induction e with
      | zero => intro i _ h; cases h
      | succ e ihe =>
        intro i hie hf
        have hi : i < n := by omega
        have HP := Aside0.mk (p63 (n := i) (by omega))
        have HBIT := Aside0.mk (spec_l7Least.hasBit (m := m) (i := i) (by omega) (by omega))
        have hi62 : i ≤ 62 := by omega
        have hi5 : ((i + 1 : Nat) : Int) ≤ 5 := by omega
        have hii : (i : Int) ≤ ((i + 1 : Nat) : Int) := by omega
        have hin : (i : Int) < (n : Int) := by omega
        have E1 : Aside0 ((wrap64 ((i : Int) + 1)) = ((i + 1 : Nat) : Int)) := ⟨up1 (by omega)⟩
        rw [findF] at hf
        cases hq : m.testBit i with
        | true =>
          rw [isBest_held hq, if_neg (by decide)] at hf
          obtain ⟨K, hK⟩ := ihe (i + 1) (by omega) hf
          refine Ev.since (K + 2) fun q hq2 => ?_
          obtain ⟨q, rfl⟩ : ∃ q', q = q' + 1 + 1 := ⟨q - 2, by omega⟩
          have hK := hK q (by omega)
          dsimp only at hK
          have hpp := Nat.two_pow_pos i
          simp only [spec_l7Best.l0]
          rw [if_pos hin, if_pos (Int.natCast_nonneg i), HBIT.out, hq, if_neg (by rw [show true.toNat * 2 ^ i = 2 ^ i from Nat.one_mul _]; omega)]
          simp only [spec_l7Best.j1, Bool.false_eq_true, if_false]
          rw [E1.out]
          exact hK
        | false =>
          obtain ⟨c0, c1, c2⟩ := hc.step (mem_frL hi hq)
          have l0 := spec_l7Best.least hn hv c0 (d := d) (by omega)
          have l1 := spec_l7Best.least hn hv c1 (d := d) (by omega)
          have b0 := ldC_le (v := v) (Nat.le_refl n) c0 (d := d) (by omega)
          have b1 := ldC_le (v := v) (Nat.le_refl n) c1 (d := d) (by omega)
          have HW := Aside0.mk (spec_l7Best.maxw (ldC n n v d (m ||| 2 ^ i) u) (ldC n n v d (m ||| 2 ^ i) (u ||| 2 ^ i)) N (by omega) (by omega))
          have hbe : isBest n v d m u i = decide (1 + max (ldC n n v d (m ||| 2 ^ i) u) (ldC n n v d (m ||| 2 ^ i) (u ||| 2 ^ i)) = N) := by unfold isBest; rw [hq, ← hN]; rfl
          rw [hbe] at hf
          rw [← hbe] at HW
          obtain ⟨K1, k1⟩ := l0
          obtain ⟨K2, k2⟩ := l1
          suffices hj1 : Ev (fun k => spec_l7Best.j1 k (m : Int) (u : Int) (N : Int) (i : Int) ((2 ^ i : Nat) : Int) (isBest n v d m u i) (n : Int) (v : Int)) R by
            obtain ⟨K3, k3⟩ := hj1
            refine Ev.since (K1 + K2 + K3 + 1) fun q hq2 => ?_
            obtain ⟨q, rfl⟩ : ∃ q', q = q' + 1 := ⟨q - 1, by omega⟩
            have k1 := k1 q (by omega)
            dsimp only at k1
            have k2 := k2 q (by omega)
            dsimp only at k2
            have k3 := k3 q (by omega)
            dsimp only at k3
            simp only [spec_l7Best.l0]
            rw [if_pos hin, if_pos (Int.natCast_nonneg i), HBIT.out, hq, if_pos (by simp), shl_one hi62, or_nat hm63 HP.out, or_nat hu63 HP.out, k1, Option.bind_some, k2, Option.bind_some, HW.out]
            exact k3
          by_cases hb2 : 1 + max (ldC n n v d (m ||| 2 ^ i) u) (ldC n n v d (m ||| 2 ^ i) (u ||| 2 ^ i)) = N
          · rw [decide_eq_true hb2] at hbe
            rw [decide_eq_true hb2, if_pos rfl] at hf
            obtain rfl : i = j := Option.some.inj hf
            rw [hbe]
            have i0 := ih _ _ c0 (by omega)
            have i1 := ih _ _ c1 (by omega)
            have s0 := bestT_size n v d (m ||| 2 ^ i) u
            have s1 := bestT_size n v d (m ||| 2 ^ i) (u ||| 2 ^ i)
            have hd4 : 2 ^ (d + 1) ≤ 16 := pow16 (by omega)
            have s0 := Nat.le_trans s0 hd4
            have s1 := Nat.le_trans s1 hd4
            have hR2 : R = ⟨#[UInt8.ofNat (97 + i)]⟩ ++ (bestT n v d (m ||| 2 ^ i) u).txt ++ (bestT n v d (m ||| 2 ^ i) (u ||| 2 ^ i)).txt := hR
            have hle := spec_l7Best.letter i (by omega)
            have hlz : (⟨#[UInt8.ofNat (97 + i)]⟩ : ByteArray).size = 1 := rfl
            generalize (bestT n v d (m ||| 2 ^ i) u).txt = t0 at *
            generalize (bestT n v d (m ||| 2 ^ i) (u ||| 2 ^ i)).txt = t1 at *
            generalize (⟨#[UInt8.ofNat (97 + i)]⟩ : ByteArray) = L at *
            obtain ⟨z0, z1⟩ := spec_l7Best.sz L.size t0.size t1.size hlz s0 s1
            obtain ⟨K3, k3⟩ := i0
            obtain ⟨K4, k4⟩ := i1
            refine Ev.since (K3 + K4 + 1) fun q hq2 => ?_
            obtain ⟨q, rfl⟩ : ∃ q', q = q' + 1 := ⟨q - 1, by omega⟩
            have k3 := k3 q (by omega)
            dsimp only at k3
            have k4 := k4 q (by omega)
            dsimp only at k4
            simp only [spec_l7Best.j1, if_true, E1.out, Int.toNat_natCast, hle]
            rw [if_pos (Int.natCast_nonneg i), if_pos hii, if_pos hi5, or_nat hm63 HP.out, or_nat hu63 HP.out, k3, Option.bind_some, if_pos z0, k4, Option.bind_some, if_pos (by rw [ByteArray.size_append]; exact z1), hR2]
          · rw [decide_eq_false hb2] at hbe
            rw [decide_eq_false hb2, if_neg (by decide)] at hf
            obtain ⟨K, hK⟩ := ihe (i + 1) (by omega) hf
            rw [hbe]
            refine Ev.since (K + 1) fun q hq2 => ?_
            obtain ⟨q, rfl⟩ : ∃ q', q = q' + 1 := ⟨q - 1, by omega⟩
            have hK := hK q (by omega)
            dsimp only at hK
            simp only [spec_l7Best.j1, Bool.false_eq_true, if_false]
            rw [E1.out]
            exact hK

/-! ### facts on spec_BestTree -/
--IMPORT M41
open Go.Proofs.YtkmicbnbclkkkaaDoor.M in
/-- a table's best tree -/
def spec_BestTree.r (a b : Int) : ByteArray × Bool := if isT a b = true ∧ a ≤ 4 then (bestS a.toNat b.toNat, true) else (⟨#[]⟩, false)
open Go.Proofs.YtkmicbnbclkkkaaDoor.M in
theorem spec_BestTree.size (a b : Int) : (spec_BestTree.r a b).1.size ≤ 100 := by
  unfold spec_BestTree.r
  split
  · rename_i h
    show (bestS a.toNat b.toNat).size ≤ 100
    unfold bestS
    have h1 := bestT_size a.toNat b.toNat a.toNat 0 0
    have h2 : 2 ^ (a.toNat + 1) ≤ 2 ^ 5 := Nat.pow_le_pow_right (by decide) (by omega)
    omega
  · exact Nat.zero_le _
open Go.Proofs.YtkmicbnbclkkkaaDoor.M in
theorem spec_BestTree.ev (a b : Int) : Ev (fun k => spec_BestTree.f k a b) (spec_BestTree.r a b) := by
  unfold spec_BestTree.f spec_BestTree.r
  rw [spec_IsTable.ev]
  cases ht : isT a b with
  | false => exact Ev.now _
  | true =>
    obtain ⟨n, v, rfl, rfl, hn, hv⟩ := isT_nat ht
    simp only [Option.bind_some, ↓reduceIte, Int.toNat_natCast, true_and]
    by_cases h : (n : Int) ≤ 4
    · rw [if_pos h]
      refine Ev.congr (fun k => if_neg (by omega)) ?_
      exact Ev.bind (spec_l7Best.ev (by omega) hv n 0 0 (Cb.zero (by omega)) (by rw [pc_zero]; omega)) (Ev.now _)
    · rw [if_neg h]
      exact Ev.congr (fun k => if_pos (by omega)) (Ev.now _)

/-! ### facts on impl_BestTree -/
--IMPORT M41
open Go.Proofs.YtkmicbnbclkkkaaDoor.M in
theorem impl_BestTree.ev (a b : Int) : impl_BestTree.f a b = some (spec_BestTree.r a b) := by
  unfold impl_BestTree.f spec_BestTree.r
  rw [impl_isSmall.ev, Option.bind_some]
  cases ht : isT a b with
  | false => rw [Bool.false_and, if_neg (by decide), if_neg (by simp)]
  | true =>
    obtain ⟨n, v, rfl, rfl, hn, hv⟩ := isT_nat ht
    have hvi : (v : Int) < ((2 ^ 2 ^ n : Nat) : Int) := by exact_mod_cast hv
    by_cases h : (n : Int) ≤ 4
    · rw [decide_eq_true h, Bool.and_self, if_pos rfl, if_pos ⟨by omega, h, by omega, by rw [Int.toNat_natCast]; exact hvi⟩, if_pos ⟨rfl, h⟩]
    · rw [decide_eq_false h, Bool.and_false, if_neg (by decide), if_neg (fun e => h e.2)]

/-! ### facts on impl_ones -/
--IMPORT M1
/-! ### facts on spec_LeastDepth -/
--IMPORT M41
open Go.Proofs.YtkmicbnbclkkkaaDoor.M in
def spec_LeastDepth.r (a b : Int) : Int := if isT a b = true ∧ a ≤ 4 then ((ldC a.toNat a.toNat b.toNat a.toNat 0 0 : Nat) : Int) else -1
open Go.Proofs.YtkmicbnbclkkkaaDoor.M in
theorem spec_LeastDepth.ev (a b : Int) : Ev (fun k => spec_LeastDepth.f k a b) (spec_LeastDepth.r a b) := by
  unfold spec_LeastDepth.f spec_LeastDepth.r
  rw [spec_IsTable.ev]
  cases ht : isT a b with
  | false => exact Ev.now _
  | true =>
    obtain ⟨n, v, rfl, rfl, hn, hv⟩ := isT_nat ht
    simp only [Option.bind_some, ↓reduceIte, Int.toNat_natCast, true_and]
    by_cases h : (n : Int) ≤ 4
    · rw [if_pos h]
      refine Ev.congr (fun k => if_neg (by omega)) ?_
      have hc := Cb.zero (k := n) (by omega)
      have h1 := spec_l7Least.ev (n := n) (v := v) (by omega) hv n 0 0 hc (by rw [pc_zero]; omega)
      rw [ldC_init (show n ≤ 10 by omega) (Nat.le_refl n) hc (by rw [pc_zero]; omega)] at h1
      exact Ev.bind h1 (Ev.now _)
    · rw [if_neg h]
      exact Ev.congr (fun k => if_pos (by omega)) (Ev.now _)

/-! ### facts on impl_LeastDepth -/
--IMPORT M41
open Go.Proofs.YtkmicbnbclkkkaaDoor.M in
theorem impl_LeastDepth.ev (a b : Int) : impl_LeastDepth.f a b = some (spec_LeastDepth.r a b) := by
  unfold impl_LeastDepth.f spec_LeastDepth.r
  rw [impl_isSmall.ev, Option.bind_some]
  cases ht : isT a b with
  | false => rw [Bool.false_and, if_neg (by decide), if_neg (by simp)]
  | true =>
    obtain ⟨n, v, rfl, rfl, hn, hv⟩ := isT_nat ht
    have hvi : (v : Int) < ((2 ^ 2 ^ n : Nat) : Int) := by exact_mod_cast hv
    by_cases h : (n : Int) ≤ 4
    · rw [decide_eq_true h, Bool.and_self, if_pos rfl, if_pos ⟨by omega, h, by omega, by rw [Int.toNat_natCast]; exact hvi⟩, if_pos ⟨rfl, h⟩]
    · rw [decide_eq_false h, Bool.and_false, if_neg (by decide), if_neg (fun e => h e.2)]

/-! ### facts on spec_l7Average -/
--IMPORT M41
open Go.Proofs.YtkmicbnbclkkkaaDoor.M in
theorem spec_l7Average.mnx (b I R0 R1 : Nat) (h : 1 ≤ I) (hI : I ≤ 1000) (h0 : R0 ≤ 1000) (h1 : R1 ≤ 1000) : mn (b : Int) (wrap64 ((wrap64 ((I : Int) + (R0 : Int))) + (R1 : Int))) = ((min b (1 + (I - 1 + R0 + R1)) : Nat) : Int) := by
  rw [w64 (x := (I : Int) + (R0 : Int)) (by omega) (by omega), w64 (by omega) (by omega)]
  unfold mn
  split <;> omega
open Go.Proofs.YtkmicbnbclkkkaaDoor.M in
/-- the least sum from the start 1000 -/
abbrev spec_l7Average.V (n v d m u : Nat) : Nat := avC (fun _ => 1000) n v d m u
open Go.Proofs.YtkmicbnbclkkkaaDoor.M in
abbrev spec_l7Average.G (n v d m u i : Nat) : Nat := 2 ^ (d + 1) - 1 + spec_l7Average.V n v d (m ||| 2 ^ i) u + spec_l7Average.V n v d (m ||| 2 ^ i) (u ||| 2 ^ i)
open Go.Proofs.YtkmicbnbclkkkaaDoor.M in
theorem spec_l7Average.ev {n v : Nat} (hn : n ≤ 4) (hv : v < 2 ^ 2 ^ n) : ∀ d m u, Cb n m u → pc m + d = n → Ev (fun k => spec_l7Average.f k (n : Int) (v : Int) (m : Int) (u : Int) (d : Int)) ((spec_l7Average.V n v d m u : Nat) : Int) := by
  have h16 := pow16 hn
  intro d
  have con : ∀ {d m u : Nat}, Cb n m u → conL v (inX n m u) = true → Ev (fun k => spec_l7Average.f k (n : Int) (v : Int) (m : Int) (u : Int) (d : Int)) 0 := by
    intro d m u hc hcon
    have hm := hc.hm
    have h3 : Ev (fun k => spec_l3Cube.f k (n : Int) (v : Int) (m : Int) (u : Int)) (bitC n v m u) := spec_l3Cube.ev (n := n) (v := v) (m := m) (u := u) (by omega) hv (by omega)
    have hb := conL_lt.mp hcon
    generalize bitC n v m u = c at *
    refine Ev.step (f := fun k => (spec_l3Cube.f k (n : Int) (v : Int) (m : Int) (u : Int)).bind fun t => if t < 2 then some 0 else spec_l7Average.l0 k (m : Int) (u : Int) (d : Int) 1000 0 (n : Int) (v : Int)) (fun k => rfl) (Ev.bind h3 (Ev.congr (fun k => if_pos hb) (Ev.now _)))
  induction d with
  | zero => intro m u hc hp; exact con hc (hc.con (by omega))
  | succ d ih =>
    intro m u hc hp
    by_cases hcon : conL v (inX n m u) = true
    · have e : spec_l7Average.V n v (d + 1) m u = 0 := by unfold spec_l7Average.V; rw [avC, if_pos hcon]
      rw [e]; exact con hc hcon
    · have hm := hc.hm
      have hu := hc.hu
      have h3 : Ev (fun k => spec_l3Cube.f k (n : Int) (v : Int) (m : Int) (u : Int)) (bitC n v m u) := spec_l3Cube.ev (n := n) (v := v) (m := m) (u := u) (by omega) hv (by omega)
      have hb : ¬ bitC n v m u < 2 := fun e => hcon (conL_lt.mpr e)
      generalize bitC n v m u = c at *
      have e : spec_l7Average.V n v (d + 1) m u = bestOf (spec_l7Average.G n v d m u) 1000 (frL n m) := by unfold spec_l7Average.V; rw [avC, if_neg hcon]
      rw [e]
      refine Ev.step (f := fun k => (spec_l3Cube.f k (n : Int) (v : Int) (m : Int) (u : Int)).bind fun t => if t < 2 then some 0 else spec_l7Average.l0 k (m : Int) (u : Int) ((d + 1 : Nat) : Int) 1000 0 (n : Int) (v : Int)) (fun k => rfl) (Ev.bind h3 (Ev.congr (fun k => if_neg hb) ?_))
      have hI16 : 2 ^ (d + 1) ≤ 16 := pow16 (by omega)
      have hI1 : 1 ≤ 2 ^ (d + 1) := Nat.two_pow_pos _
      have h24 : 2 ^ d * d ≤ 16 * 4 := Nat.mul_le_mul (pow16 (by omega)) (by omega)
      have hs : shl .i64 1 ((d + 1 : Nat) : Int) = ((2 ^ (d + 1) : Nat) : Int) := shl_one (by omega)
      have hd1 : wrap64 (((d + 1 : Nat) : Int) - 1) = (d : Int) := by rw [w64 (by omega) (by omega)]; omega
      have hG : ∀ i, spec_l7Average.G n v d m u i = 2 ^ (d + 1) - 1 + spec_l7Average.V n v d (m ||| 2 ^ i) u + spec_l7Average.V n v d (m ||| 2 ^ i) (u ||| 2 ^ i) := fun _ => rfl
      exact Ev.count (fun q i => spec_l7Average.l0 q (m : Int) (u : Int) ((d + 1 : Nat) : Int) ((bestOf (spec_l7Average.G n v d m u) 1000 (frL i m) : Nat) : Int) (i : Int) (n : Int) (v : Int)) n _ (fun i hi hnext => by
        have hbit := spec_l7Least.hasBit (m := m) (i := i) (by omega) (by omega)
        cases hb : m.testBit i with
        | true =>
          rw [frL_succ_held hb] at hnext
          refine Ev.step (fun q => ?_) hnext
          have hp2 := Nat.two_pow_pos i
          simp only [spec_l7Average.l0]
          rw [if_pos (show (i : Int) < (n : Int) by omega), if_pos (Int.natCast_nonneg i), hbit, hb, if_neg (by rw [show true.toNat * 2 ^ i = 2 ^ i from Nat.one_mul _]; omega), up1 (by omega)]
        | false =>
          obtain ⟨q0, q1, q2⟩ := hc.step (mem_frL hi hb)
          have l0 : spec_l7Average.V n v d (m ||| 2 ^ i) u ≤ 2 ^ d * d := avC_le q0 (by omega)
          have l1 : spec_l7Average.V n v d (m ||| 2 ^ i) (u ||| 2 ^ i) ≤ 2 ^ d * d := avC_le q1 (by omega)
          have i0 := ih _ _ q0 (by omega)
          have i1 := ih _ _ q1 (by omega)
          rw [frL_succ_free hb, bestOf_snoc, hG] at hnext
          generalize spec_l7Average.V n v d (m ||| 2 ^ i) u = R0 at *
          generalize spec_l7Average.V n v d (m ||| 2 ^ i) (u ||| 2 ^ i) = R1 at *
          generalize bestOf (spec_l7Average.G n v d m u) 1000 (frL i m) = b at *
          generalize 2 ^ (d + 1) = I at *
          have hp2 := p63 (n := i) (by omega)
          obtain ⟨K1, k1⟩ := i0
          obtain ⟨K2, k2⟩ := i1
          obtain ⟨K3, k3⟩ := hnext
          refine Ev.since (K1 + K2 + K3 + 1) fun q hq => ?_
          obtain ⟨q, rfl⟩ : ∃ q', q = q' + 1 := ⟨q - 1, by omega⟩
          have k1 := k1 q (by omega)
          dsimp only at k1
          have k2 := k2 q (by omega)
          dsimp only at k2
          have k3 := k3 q (by omega)
          dsimp only at k3
          simp only [spec_l7Average.l0]
          rw [if_pos (show (i : Int) < (n : Int) by omega), if_pos (Int.natCast_nonneg i), hbit, hb, if_pos (by simp), if_pos (Int.natCast_nonneg _), hd1, up1 (by omega), shl_one (n := i) (by omega), or_nat (by omega) hp2, or_nat (by omega) hp2, k1, Option.bind_some, k2, Option.bind_some, hs, spec_l7Average.mnx b I R0 R1 hI1 (by omega) (by omega) (by omega)]
          exact k3) (Ev.end (fun q => by
        simp only [spec_l7Average.l0]
        rw [if_neg (by omega)])) n 0 (by omega)

/-! ### facts on spec_LeastAverage -/
--IMPORT M41
open Go.Proofs.YtkmicbnbclkkkaaDoor.M in
def spec_LeastAverage.r (a b : Int) : Int := if isT a b = true ∧ a ≤ 4 then ((avW a.toNat b.toNat : Nat) : Int) else -1
open Go.Proofs.YtkmicbnbclkkkaaDoor.M in
theorem spec_LeastAverage.ev (a b : Int) : Ev (fun k => spec_LeastAverage.f k a b) (spec_LeastAverage.r a b) := by
  unfold spec_LeastAverage.f spec_LeastAverage.r
  rw [spec_IsTable.ev]
  cases ht : isT a b with
  | false => exact Ev.now _
  | true =>
    obtain ⟨n, v, rfl, rfl, hn, hv⟩ := isT_nat ht
    simp only [Option.bind_some, ↓reduceIte, Int.toNat_natCast, true_and]
    by_cases h : (n : Int) ≤ 4
    · rw [if_pos h]
      refine Ev.congr (fun k => if_neg (by omega)) ?_
      have hc := Cb.zero (k := n) (by omega)
      have h1 := spec_l7Average.ev (n := n) (v := v) (by omega) hv n 0 0 hc (by rw [pc_zero]; omega)
      have e : spec_l7Average.V n v n 0 0 = avW n v := by
        unfold spec_l7Average.V avW
        exact avC_init (fun d hd => avC_spec (by omega) d hd) (fun d hd => avC_impl n d hd) hc (by rw [pc_zero]; omega)
      rw [e] at h1
      exact Ev.bind h1 (Ev.now _)
    · rw [if_neg h]
      exact Ev.congr (fun k => if_pos (by omega)) (Ev.now _)

/-! ### facts on impl_LeastAverage -/
--IMPORT M41
open Go.Proofs.YtkmicbnbclkkkaaDoor.M in
theorem impl_LeastAverage.ev (a b : Int) : impl_LeastAverage.f a b = some (spec_LeastAverage.r a b) := by
  unfold impl_LeastAverage.f spec_LeastAverage.r
  rw [impl_isSmall.ev, Option.bind_some]
  cases ht : isT a b with
  | false => rw [Bool.false_and, if_neg (by decide), if_neg (by simp)]
  | true =>
    obtain ⟨n, v, rfl, rfl, hn, hv⟩ := isT_nat ht
    have hvi : (v : Int) < ((2 ^ 2 ^ n : Nat) : Int) := by exact_mod_cast hv
    by_cases h : (n : Int) ≤ 4
    · rw [decide_eq_true h, Bool.and_self, if_pos rfl, if_pos ⟨by omega, h, by omega, by rw [Int.toNat_natCast]; exact hvi⟩, if_pos ⟨rfl, h⟩]; rfl
    · rw [decide_eq_false h, Bool.and_false, if_neg (by decide), if_neg (fun e => h e.2)]

/-! ### facts on spec_l1Pick -/
--IMPORT M14
open Go.Proofs.YtkmicbnbclkkkaaDoor.M in
theorem spec_l1Pick.ok (b : List Int) (i h : Int) (l : List ByteArray) (B : Nat) (hb : b.length ≤ 1048576) (hi : 0 ≤ i) (h1 : 1 ≤ l.length) (h2 : l.length ≤ 256) (hB : ∀ x ∈ l, x.size ≤ B) : ∃ x i' h', spec_l1Pick.f b i h l = some (x, i', h') ∧ x.size ≤ B ∧ 0 ≤ i' := by
  obtain ⟨x, i', h', e, e1, e2, e3⟩ := spec_l1Below.ok b i h (l.length : Int) hb hi (by omega) (by omega)
  unfold spec_l1Pick.f
  rw [e, Option.bind_some, if_pos e1, if_pos e2]
  refine ⟨_, _, _, rfl, ?_, e3⟩
  obtain ⟨j, rfl⟩ := nat_of e1
  have hj : j < l.length := by omega
  apply hB
  show rdOf ByteArray.empty l (j : Int) ∈ l
  simp [rdOf, List.getD_eq_getElem?_getD, hj]

/-! ### facts on spec_l1Once -/
--IMPORT M14
open Go.Proofs.YtkmicbnbclkkkaaDoor.M in
theorem spec_l1Once.ok (b : List Int) (i h n : Int) (hb : b.length ≤ 1048576) (hi : 0 ≤ i) (h1 : 1 ≤ n) (h2 : n ≤ 256) : ∃ x i' h', spec_l1Once.f b i h n = some (x, i', h') ∧ 0 ≤ i' := by
  obtain ⟨y, i2, h3, e, _, _, y3⟩ := spec_l1Below.ok b i h n hb hi h1 h2
  unfold spec_l1Once.f
  rw [e, Option.bind_some]
  exact ⟨_, _, _, rfl, y3⟩

/-! ### facts on spec_l1Text -/
--IMPORT M14
open Go.Proofs.YtkmicbnbclkkkaaDoor.M in
theorem spec_l1Text.size (l : List Int) : (strOfNums l).size = l.length := by simp [strOfNums, ByteArray.size]
open Go.Proofs.YtkmicbnbclkkkaaDoor.M in
theorem spec_l1Text.loop (b : List Int) (hb : b.length ≤ 1048576) (st : Int) : ∀ (n : Nat) (out : List Int) (i h : Int), n ≤ 100 → out.length + n ≤ 1000 → 0 ≤ i → Tot (fun k => spec_l1Text.l0 k out st (n : Int) b i h) (fun r => r.1.size = out.length + n ∧ 0 ≤ r.2.1)
  | 0, out, i, h, _, _, hi => Tot.end (strOfNums out, i, h) ⟨spec_l1Text.size out, hi⟩ (fun k => by
      simp only [spec_l1Text.l0]
      rw [if_neg (by omega)])
  | n + 1, out, i, h, hn, ho, hi => by
    obtain ⟨x, i', h', e, e1, e2, e3⟩ := spec_l1Byte.ok b i h hb hi
    have hw : wrap64 (((n + 1 : Nat) : Int) - 1) = (n : Int) := by rw [w64 (by omega) (by omega)]; omega
    have ih := fun y => spec_l1Text.loop b hb st n (out ++ [y]) i' h' (by omega) (by rw [List.length_append]; simp; omega) e3
    have hl : out.length < 140737488355328 := by omega
    have key : ∀ y, Tot (fun k => spec_l1Text.l0 k (out ++ [y]) st (n : Int) b i' h') (fun r => r.1.size = out.length + (n + 1) ∧ 0 ≤ r.2.1) := fun y => (ih y).mono (fun r hr => ⟨by rw [hr.1, List.length_append]; simp; omega, hr.2⟩)
    have hp : ((n + 1 : Nat) : Int) > 0 := by omega
    by_cases s1 : st = 1
    · subst s1
      refine Tot.step (f := fun k => spec_l1Text.l0 k (out ++ [(Int.tmod x 2) % 256]) 1 (n : Int) b i' h') (fun k => ?_) (key _)
      simp only [spec_l1Text.l0]
      rw [if_pos hp, e, Option.bind_some, if_pos trivial, if_neg (by decide), if_pos hl, hw]
    · by_cases s2 : st = 2
      · subst s2
        refine Tot.step (f := fun k => spec_l1Text.l0 k (out ++ [(wrap64 (97 + (Int.tmod x 4))) % 256]) 2 (n : Int) b i' h') (fun k => ?_) (key _)
        simp only [spec_l1Text.l0]
        rw [if_pos hp, e, Option.bind_some, if_neg (by decide), if_pos trivial, if_pos hl, hw]
      · refine Tot.step (f := fun k => spec_l1Text.l0 k (out ++ [(x) % 256]) st (n : Int) b i' h') (fun k => ?_) (key _)
        simp only [spec_l1Text.l0]
        rw [if_pos hp, e, Option.bind_some, if_neg s1, if_neg s2, if_pos hl, hw]
open Go.Proofs.YtkmicbnbclkkkaaDoor.M in
theorem spec_l1Text.ok (b : List Int) (hb : b.length ≤ 1048576) (i h : Int) (hi : 0 ≤ i) (m : Nat) (hm : m ≤ 50) : Tot (fun k => spec_l1Text.f k b i h (m : Int)) (fun r => r.1.size ≤ 50 ∧ 0 ≤ r.2.1) := by
  obtain ⟨q, i1, h1, e1, q1, q2, p1⟩ := spec_l1Below.ok b i h 4 hb hi (by decide) (by decide)
  have hw : wrap64 ((m : Int) + 1) = ((m + 1 : Nat) : Int) := up1 (by omega)
  obtain ⟨y, i2, h2, e2, y1, y2, p2⟩ := spec_l1Below.ok b i1 h1 ((m + 1 : Nat) : Int) hb p1 (by omega) (by omega)
  obtain ⟨n, rfl⟩ := nat_of y1
  have hl := spec_l1Text.loop b hb q n [] i2 h2 (by omega) (by simp; omega) p2
  refine Tot.congr (f := fun k => spec_l1Text.l0 k [] q (n : Int) b i2 h2) (fun k => ?_) (hl.mono (fun r hr => ⟨by rw [hr.1]; simp; omega, hr.2⟩))
  unfold spec_l1Text.f
  rw [e1, Option.bind_some, hw, e2, Option.bind_some]

/-! ### facts on spec_l1Spoil -/
--IMPORT M14
open Go.Proofs.YtkmicbnbclkkkaaDoor.M in
theorem spec_l1Spoil.ok (b : List Int) (hb : b.length ≤ 1048576) (i h : Int) (hi : 0 ≤ i) (s : ByteArray) (hs : s.size ≤ 200) : Tot (fun k => spec_l1Spoil.f k b i h s) (fun r => r.1.size ≤ 1000 ∧ 0 ≤ r.2.1) := by
  by_cases h0 : (s.size : Int) = 0
  · refine Tot.congr (f := fun k => (spec_l1Text.f k b i h 3).bind fun r => some (r.1, r.2.1, r.2.2)) (fun k => by unfold spec_l1Spoil.f; rw [if_pos h0]) ?_
    exact Tot.bind (spec_l1Text.ok b hb i h hi 3 (by decide)) (fun r hr => Tot.now _ ⟨by show r.1.size ≤ 1000; omega, hr.2⟩)
  · obtain ⟨x, i1, h1, e1, x1, x2, p1⟩ := spec_l1Below.ok b i h (s.size : Int) hb hi (by omega) (by omega)
    obtain ⟨y, i2, h2, e2, y1, y2, p2⟩ := spec_l1Below.ok b i1 h1 4 hb p1 (by decide) (by decide)
    obtain ⟨z, i3, h3, e3, z1, z2, p3⟩ := spec_l1Byte.ok b i2 h2 hb p2
    obtain ⟨u, i4, h4, e4, u1, u2, p4⟩ := spec_l1Below.ok b i2 h2 255 hb p2 (by decide) (by decide)
    have hw : wrap64 (x + 1) = x + 1 := w64 (by omega) (by omega)
    have c1 : 0 ≤ x := x1
    have c2 : x ≤ (s.size : Int) := by omega
    have c3 : 0 ≤ x + 1 := by omega
    have c4 : x + 1 ≤ (s.size : Int) := by omega
    have c5 : x < (s.size : Int) := x2
    have g1 : ∀ a b : Nat, (s.extract a b).size ≤ 200 := fun a b => by rw [ByteArray.size_extract]; omega
    have g2 : ∀ v : Int, (strOfNums [v]).size = 1 := fun v => rfl
    unfold spec_l1Spoil.f
    simp only [if_neg h0, e1, e2, e3, e4, Option.bind_some, hw, if_pos c1, if_pos c2, if_pos c3, if_pos c4, if_pos c5]
    have a0 := g1 0 x.toNat
    have a1 := g1 (x + 1).toNat s.size
    have a2 := g1 x.toNat s.size
    refine Tot.ite _ (fun _ => ?_) (fun _ => Tot.ite _ (fun _ => ?_) (fun _ => Tot.ite _ (fun _ => ?_) (fun _ => ?_)))
    · rw [if_pos (by omega)]
      exact Tot.now _ ⟨by show (_ ++ _ : ByteArray).size ≤ 1000; rw [ByteArray.size_append]; omega, p2⟩
    · rw [if_pos (by rw [g2]; omega), if_pos (by rw [ByteArray.size_append, g2]; omega)]
      exact Tot.now _ ⟨by show (_ ++ _ ++ _ : ByteArray).size ≤ 1000; rw [ByteArray.size_append, ByteArray.size_append, g2]; omega, p3⟩
    · exact Tot.now _ ⟨by show (s.extract 0 x.toNat).size ≤ 1000; omega, p2⟩
    · rw [if_pos (by rw [g2]; omega), if_pos (by rw [ByteArray.size_append, g2]; omega)]
      exact Tot.now _ ⟨by show (_ ++ _ ++ _ : ByteArray).size ≤ 1000; rw [ByteArray.size_append, ByteArray.size_append, g2]; omega, p4⟩

/-! ### facts on spec_l7Any -/
--IMPORT M14
open Go.Proofs.YtkmicbnbclkkkaaDoor.M in
theorem spec_l7Any.ok (b : List Int) (hb : b.length ≤ 1048576) (i h : Int) (hi : 0 ≤ i) : Tot (fun k => spec_l7Any.f k b i h) (fun r => r.1.size ≤ 1000 ∧ 0 ≤ r.2.1) := by
  unfold spec_l7Any.f
  refine Tot.bind (spec_l2Any.ok b hb i h hi) (fun r hr => ?_)
  refine Tot.bind (P := fun t => t.1.size ≤ 100) (Tot.ev (spec_BestTree.ev r.1 r.2.1) (spec_BestTree.size _ _)) (fun t ht => ?_)
  obtain ⟨x, i1, h1, e1, x1, p1⟩ := spec_l1Pick.ok b r.2.2.1 r.2.2.2 [⟨#[]⟩, ⟨#[97, 48, 49]⟩, ⟨#[97, 97, 48, 49, 48]⟩, ⟨#[97, 48]⟩, ⟨#[48]⟩, ⟨#[97, 98, 48, 49, 99, 49, 48]⟩, ⟨#[102, 48, 49]⟩] 10 hb hr (by decide) (by decide) (by decide)
  obtain ⟨y, i2, h2, e2, p2⟩ := spec_l1Once.ok b r.2.2.1 r.2.2.2 10 hb hr (by decide) (by decide)
  simp only [e1, e2, Option.bind_some]
  refine Tot.ite _ (fun _ => Tot.ite _ (fun _ => ?_) (fun _ => Tot.now _ ⟨by show t.1.size ≤ 1000; omega, p2⟩)) (fun _ => Tot.now _ ⟨by show x.size ≤ 1000; omega, p1⟩)
  exact Tot.bind (spec_l1Spoil.ok b hb i2 h2 p2 t.1 (by omega)) (fun r hr => Tot.now _ hr)

/-! ### facts on spec_DrawTableOfTree -/
--IMPORT M14
open Go.Proofs.YtkmicbnbclkkkaaDoor.M in
theorem spec_DrawTableOfTree.ok (b : List Int) (hb : b.length ≤ 1048576) : Tot (fun k => spec_DrawTableOfTree.f k b) (fun r => r.1.size ≤ 1000) := by
  unfold spec_DrawTableOfTree.f
  refine Tot.bind (spec_l1New.ok b hb) (fun r hr => ?_)
  obtain ⟨r1, r2, r3⟩ := r
  obtain ⟨rfl, rfl⟩ := hr
  refine Tot.bind (spec_l7Any.ok r1 hb 0 r3 (Int.le_refl 0)) (fun s hs => ?_)
  obtain ⟨x, i1, h1, e1, _, _⟩ := spec_l1PickInt.ok r1 s.2.1 s.2.2 [4, 4, 5, 3, 0, (-1), 6] hb hs.2 (by decide) (by decide)
  simp only [e1, Option.bind_some]
  exact Tot.now _ hs.1

/-! ### facts on spec_l7End -/
--IMPORT M11
open Go.Proofs.YtkmicbnbclkkkaaDoor.M in
/-- where the tree ends, or -1 -/
def spec_l7End.at_ (p : Option (Td × Nat)) : Int := match p with | none => -1 | some p => ((p.2 : Nat) : Int)
open Go.Proofs.YtkmicbnbclkkkaaDoor.M in
theorem spec_l7End.first {S : ByteArray} {i : Nat} (hi : i < S.size) (a : Int) (q : Nat) : spec_l7End.f (q + 1) S (i : Int) a = spec_l7End.j0 q S (i : Int) a (decide (bt S i = 48 ∨ bt S i = 49)) := by
  simp only [spec_l7End.f]
  rw [if_neg (by omega), if_pos (by omega), if_pos (by omega)]
  generalize bt S i = c
  by_cases h1 : c = 48
  · rw [if_pos h1, decide_eq_true (.inl h1)]
  · rw [if_neg h1]; congr 1
    by_cases h2 : c = 49
    · rw [decide_eq_true (.inr h2), h2]; rfl
    · rw [decide_eq_false (by omega), beq_eq_false_iff_ne.mpr h2]
open Go.Proofs.YtkmicbnbclkkkaaDoor.M in
theorem spec_l7End.second {S : ByteArray} {i a : Nat} (hi : i < S.size) (ha : a < 32) {r : Int} (h1 : ¬ (bt S i = 48 ∨ bt S i = 49)) (h : Ev (fun q => spec_l7End.j1 q S (i : Int) (a : Int) (bt S i - 97) (decide (¬ (97 ≤ bt S i ∧ bt S i < 102) ∨ a.testBit (vr (bt S i)) = true))) r) : Ev (fun q => spec_l7End.j0 q S (i : Int) (a : Int) false) r := by
  have hr := bt_range S i
  have q1 : (0 : Int) ≤ (i : Int) := Int.natCast_nonneg i
  have q2 : (i : Int) < (S.size : Int) := by omega
  have e2 : wrap64 (wrap64 (bt S i) - 97) = bt S i - 97 := by rw [w64 (x := bt S i) (by omega) (by omega), w64 (by omega) (by omega)]
  refine Ev.step (fun q => ?_) h
  simp only [spec_l7End.j0, Bool.false_eq_true, if_false]
  rw [if_pos q1, if_pos q2, e2, spec_l1In.ev, Option.bind_some]
  generalize bt S i = c at *
  by_cases h2 : 97 ≤ c ∧ c < 102
  · obtain ⟨v, hv⟩ : ∃ v : Nat, c - 97 = (v : Int) := ⟨(c - 97).toNat, by omega⟩
    have evr : vr c = v := by unfold vr; omega
    have hb := bit_nat (a := a) (n := v) (by omega) (by omega)
    rw [decide_eq_true (show 0 ≤ c - 97 ∧ c - 97 ≤ 4 by omega), if_pos rfl, if_pos (by omega), hv, hb, evr]
    congr 1
    cases a.testBit v <;> simp [h2]
  · rw [decide_eq_false (show ¬ (0 ≤ c - 97 ∧ c - 97 ≤ 4) by omega), if_neg (by decide), decide_eq_true (.inl h2)]
open Go.Proofs.YtkmicbnbclkkkaaDoor.M in
theorem spec_l7End.ev {S : ByteArray} (hS : S.size ≤ 1000000) : ∀ (k i a : Nat), a < 32 → fre a < k → i ≤ S.size → Ev (fun q => spec_l7End.f q S (i : Int) (a : Int)) (spec_l7End.at_ (tp S k i a)) := by
  intro k
  induction k with
  | zero => intro i a _ h; omega
  | succ k ih =>
    intro i a ha hk hi
    rw [tp]
    by_cases h0 : S.size ≤ i
    · rw [if_pos h0]
      refine Ev.end (fun q => ?_)
      simp only [spec_l7End.f]
      rw [if_pos (by omega)]; rfl
    · rw [if_neg h0]
      have hlt : i < S.size := by omega
      refine Ev.step (fun q => spec_l7End.first hlt a q) ?_
      by_cases h1 : bt S i = 48 ∨ bt S i = 49
      · rw [if_pos h1, decide_eq_true h1]
        refine Ev.end (fun q => ?_)
        simp only [spec_l7End.j0, if_true]
        rw [up1 (by omega)]; rfl
      · rw [if_neg h1, decide_eq_false h1]
        refine spec_l7End.second hlt ha h1 ?_
        by_cases h2 : 97 ≤ bt S i ∧ bt S i < 102
        · rw [if_neg (fun e => e h2)]
          cases h3 : a.testBit (vr (bt S i)) with
          | true =>
            rw [if_pos rfl, decide_eq_true (.inr rfl)]
            exact Ev.end (fun q => by simp only [spec_l7End.j1, if_true]; rfl)
          | false =>
            rw [if_neg (by decide), decide_eq_false (by rintro (h | h); exact h h2; cases h)]
            obtain ⟨w1, w2, _⟩ := wth_fre a ha (vr (bt S i)) (by unfold vr; omega) h3
            obtain ⟨v, hv⟩ : ∃ v : Nat, bt S i - 97 = (v : Int) := ⟨(bt S i - 97).toNat, by omega⟩
            have evr : vr (bt S i) = v := by unfold vr; omega
            rw [evr] at w1 w2 ⊢
            rw [hv]
            have hk2 : fre (wth a v) < k := by omega
            have IH := ih (i + 1) (wth a v) w2 hk2 (by omega)
            have hlt2 : 2 ^ v < 2 ^ 63 := Nat.pow_lt_pow_right (by decide) (by omega)
            have ew : Go.bits .or .i64 (a : Int) (shl .i64 1 (v : Int)) = ((wth a v : Nat) : Int) := by rw [shl_one (by omega), or_nat (by omega) hlt2]; rfl
            have hw : wrap64 ((i : Int) + 1) = ((i + 1 : Nat) : Int) := up1 (by omega)
            cases hq : tp S k (i + 1) (wth a v) with
            | none =>
              rw [hq] at IH
              refine Ev.step (f := fun q => (spec_l7End.f q S ((i + 1 : Nat) : Int) ((wth a v : Nat) : Int)).bind fun t => if t < 0 then some (-1) else (spec_l7End.f q S t ((wth a v : Nat) : Int)).bind fun u => some u) (fun q => ?_) (Ev.bind IH (Ev.congr (fun k => if_pos (by decide)) (Ev.now _)))
              simp only [spec_l7End.j1]
              rw [if_neg (by decide), if_pos (Int.natCast_nonneg v), hw, ew]
            | some p =>
              obtain ⟨T, j⟩ := p
              obtain ⟨f1, f2, f3, f4⟩ := tp_some w2 hq
              rw [hq] at IH
              have IH2 := ih j (wth a v) w2 hk2 f3
              have e : spec_l7End.at_ ((some (T, j)).bind fun p => (tp S k p.2 (wth a v)).bind fun q => some (Td.node (bt S i) p.1 q.1, q.2)) = spec_l7End.at_ (tp S k j (wth a v)) := by
                rw [Option.bind_some]; cases tp S k j (wth a v) <;> rfl
              rw [e]
              refine Ev.step (f := fun q => (spec_l7End.f q S ((i + 1 : Nat) : Int) ((wth a v : Nat) : Int)).bind fun t => if t < 0 then some (-1) else (spec_l7End.f q S t ((wth a v : Nat) : Int)).bind fun u => some u) (fun q => ?_) (Ev.bind IH (Ev.congr (fun k => if_neg (show ¬ ((j : Nat) : Int) < 0 from Int.not_lt.mpr (Int.natCast_nonneg j))) (Ev.bind IH2 (Ev.now _))))
              simp only [spec_l7End.j1]
              rw [if_neg (by decide), if_pos (Int.natCast_nonneg v), hw, ew]
        · rw [if_pos h2, decide_eq_true (.inl h2)]
          exact Ev.end (fun q => by simp only [spec_l7End.j1, if_true]; rfl)

/-! ### facts on spec_IsTree -/
--IMPORT M11
open Go.Proofs.YtkmicbnbclkkkaaDoor.M in
theorem spec_IsTree.ev (S : ByteArray) : Ev (fun k => spec_IsTree.f k S) (treeOf S).isSome := by
  cases ht : treeOf S with
  | some T =>
    obtain ⟨a1, a2, a3, a4⟩ := treeOf_some ht
    have h1 := spec_l7End.ev (S := S) (by omega) 6 0 0 (by decide) (by decide) (by omega)
    rw [a3] at h1
    refine Ev.congr (f := fun k => (spec_l7End.f k S ((0 : Nat) : Int) ((0 : Nat) : Int)).bind fun t => some (t == (S.size : Int))) (fun k => ?_) (Ev.bind h1 ?_)
    · unfold spec_IsTree.f
      rw [if_pos (by omega), if_pos (by omega)]; rfl
    · have e : (spec_l7End.at_ (some (T, S.size)) == (S.size : Int)) = true := beq_iff_eq.mpr rfl
      rw [e]; exact Ev.now _
  | none =>
    by_cases h : S.size ≤ 63
    · by_cases h0 : 0 < S.size
      · have h1 := spec_l7End.ev (S := S) (by omega) 6 0 0 (by decide) (by decide) (by omega)
        refine Ev.congr (f := fun k => (spec_l7End.f k S ((0 : Nat) : Int) ((0 : Nat) : Int)).bind fun t => some (t == (S.size : Int))) (fun k => ?_) (Ev.bind h1 ?_)
        · unfold spec_IsTree.f
          rw [if_pos (by omega), if_pos (by omega)]; rfl
        · have e : (spec_l7End.at_ (tp S 6 0 0) == (S.size : Int)) = false := by
            unfold treeOf at ht
            cases hq : tp S 6 0 0 with
            | none => show ((-1 : Int) == _) = false; exact beq_eq_false_iff_ne.mpr (by omega)
            | some p =>
              rw [hq, Option.bind_some] at ht
              by_cases hp : p.2 = S.size
              · rw [if_pos hp] at ht; cases ht
              · show (((p.2 : Nat) : Int) == _) = false
                exact beq_eq_false_iff_ne.mpr (by omega)
          rw [e]; exact Ev.now _
      · have hz : S.size = 0 := by omega
        refine Ev.of_some (fun k => ?_)
        unfold spec_IsTree.f
        rw [if_pos (by omega), if_neg (by omega)]; rfl
    · refine Ev.of_some (fun k => ?_)
      unfold spec_IsTree.f
      rw [if_neg (by omega)]; rfl

/-! ### facts on spec_l7Skip -/
--IMPORT M11
open Go.Proofs.YtkmicbnbclkkkaaDoor.M in
theorem spec_l7Skip.ev {S : ByteArray} (hS : S.size ≤ 1000000) : ∀ (k i a : Nat) (T : Td) (j : Nat), a < 32 → tp S k i a = some (T, j) → Ev (fun q => spec_l7Skip.f q S (i : Int)) (j : Int) := by
  intro k
  induction k with
  | zero => intro i a T j _ h; simp [tp] at h
  | succ k ih =>
    intro i a T j ha h
    rw [tp] at h
    by_cases h0 : S.size ≤ i
    · rw [if_pos h0] at h; cases h
    · rw [if_neg h0] at h
      have first : ∀ q, spec_l7Skip.f (q + 1) S (i : Int) = spec_l7Skip.j0 q S (i : Int) (decide (bt S i = 48 ∨ bt S i = 49)) := fun q => by
        simp only [spec_l7Skip.f]
        rw [if_pos (by omega), if_pos (by omega)]
        generalize bt S i = c
        by_cases h1 : c = 48
        · rw [if_pos h1, decide_eq_true (.inl h1)]
        · rw [if_neg h1]; congr 1
          by_cases h2 : c = 49
          · rw [decide_eq_true (.inr h2), h2]; rfl
          · rw [decide_eq_false (by omega), beq_eq_false_iff_ne.mpr h2]
      have hw : wrap64 ((i : Int) + 1) = ((i + 1 : Nat) : Int) := up1 (by omega)
      refine Ev.step first ?_
      by_cases h1 : bt S i = 48 ∨ bt S i = 49
      · rw [if_pos h1] at h
        simp only [Option.some.injEq, Prod.mk.injEq] at h
        obtain ⟨rfl, rfl⟩ := h
        rw [decide_eq_true h1]
        refine Ev.end (fun q => ?_)
        simp only [spec_l7Skip.j0, if_true, hw]
      · rw [if_neg h1] at h
        by_cases h2 : 97 ≤ bt S i ∧ bt S i < 102
        · rw [if_neg (fun e => e h2)] at h
          cases h3 : a.testBit (vr (bt S i)) with
          | true => rw [h3, if_pos rfl] at h; cases h
          | false =>
            rw [h3, if_neg (by decide)] at h
            obtain ⟨⟨p1, p2⟩, hp, h⟩ := Option.bind_eq_some_iff.mp h
            obtain ⟨⟨q1, q2⟩, hq, h⟩ := Option.bind_eq_some_iff.mp h
            simp only [Option.some.injEq, Prod.mk.injEq] at h
            obtain ⟨rfl, rfl⟩ := h
            obtain ⟨w1, w2, _⟩ := wth_fre a ha (vr (bt S i)) (by unfold vr; omega) h3
            have i1 := ih _ _ _ _ w2 hp
            have i2 := ih _ _ _ _ w2 hq
            rw [decide_eq_false h1]
            refine Ev.step (f := fun q => (spec_l7Skip.f q S ((i + 1 : Nat) : Int)).bind fun t => (spec_l7Skip.f q S t).bind fun u => some u) (fun q => ?_) (Ev.bind i1 (Ev.bind i2 (Ev.now _)))
            simp only [spec_l7Skip.j0, Bool.false_eq_true, if_false, hw]
        · rw [if_pos h2] at h; cases h

/-! ### facts on spec_l7Run -/
--IMPORT M11
open Go.Proofs.YtkmicbnbclkkkaaDoor.M in
theorem spec_l7Run.loop {S : ByteArray} (hS : S.size ≤ 1000000) {x : Nat} (hx : x < 32) : ∀ (k i a : Nat) (T : Td) (j m : Nat), a < 32 → m ≤ 1000000 + i → tp S k i a = some (T, j) → Ev (fun q => spec_l7Run.l0 q S (x : Int) (i : Int) (m : Int)) (T.val x, ((m + T.path x : Nat) : Int)) := by
  intro k
  induction k with
  | zero => intro i a T j m _ _ h; simp [tp] at h
  | succ k ih =>
    intro i a T j m ha hm h
    rw [tp] at h
    by_cases h0 : S.size ≤ i
    · rw [if_pos h0] at h; cases h
    · rw [if_neg h0] at h
      have q1 : (0 : Int) ≤ (i : Int) := Int.natCast_nonneg i
      have q2 : (i : Int) < (S.size : Int) := by omega
      have hw : wrap64 ((i : Int) + 1) = ((i + 1 : Nat) : Int) := up1 (by omega)
      have hw2 : wrap64 ((m : Int) + 1) = ((m + 1 : Nat) : Int) := by clear hw; exact up1 (by omega)
      by_cases h1 : bt S i = 48 ∨ bt S i = 49
      · rw [if_pos h1] at h
        simp only [Option.some.injEq, Prod.mk.injEq] at h
        obtain ⟨rfl, rfl⟩ := h
        show Ev _ (bt S i - 48, ((m + 0 : Nat) : Int))
        refine Ev.step (f := fun q => spec_l7Run.j1 q S (x : Int) (i : Int) (m : Int) false) (fun q => ?_) (Ev.end (fun q => ?_))
        · simp only [spec_l7Run.l0]
          rw [if_pos q1, if_pos q2]
          rcases h1 with h1 | h1
          · rw [if_pos h1]
          · rw [if_neg (by rw [h1]; decide), h1]; rfl
        · simp only [spec_l7Run.j1]
          rw [if_neg (by decide), if_pos q1, if_pos q2]
          rcases h1 with h1 | h1 <;> (rw [h1]; rfl)
      · rw [if_neg h1] at h
        by_cases h2 : 97 ≤ bt S i ∧ bt S i < 102
        · rw [if_neg (fun e => e h2)] at h
          cases h3 : a.testBit (vr (bt S i)) with
          | true => rw [h3, if_pos rfl] at h; cases h
          | false =>
            rw [h3, if_neg (by decide)] at h
            obtain ⟨⟨p1, p2⟩, hp, h⟩ := Option.bind_eq_some_iff.mp h
            obtain ⟨⟨r1, r2⟩, hq, h⟩ := Option.bind_eq_some_iff.mp h
            simp only [Option.some.injEq, Prod.mk.injEq] at h
            obtain ⟨rfl, rfl⟩ := h
            obtain ⟨w1, w2, _⟩ := wth_fre a ha (vr (bt S i)) (by unfold vr; clear hw hw2; omega) h3
            obtain ⟨f1, f2, f3, f4⟩ := tp_some w2 hp
            have sk := spec_l7Skip.ev hS _ _ _ _ _ w2 hp
            have i1 := ih (i + 1) _ _ _ (m + 1) w2 (by clear hw hw2; omega) hp
            have i2 := ih p2 _ _ _ (m + 1) w2 (by clear hw hw2; omega) hq
            rw [val_ask x _ r1 f1, path_ask x _ r1 f1]
            obtain ⟨v, hv⟩ : ∃ v : Nat, bt S i - 97 = (v : Int) := ⟨(bt S i - 97).toNat, by clear hw hw2; omega⟩
            have evr : vr (bt S i) = v := by unfold vr; clear hw hw2; omega
            have hmod : (bt S i - 97) % 256 = (v : Int) := by clear hw hw2; omega
            have hb := bit_nat (a := x) (n := v) (by clear hw hw2; omega) (by clear hw hw2; omega)
            rw [evr]
            have n48 : ¬ bt S i = 48 := fun e => h1 (.inl e)
            have n49 : (bt S i != 49) = true := bne_iff_ne.mpr (fun e => h1 (.inr e))
            refine Ev.step (f := fun q => spec_l7Run.j1 q S (x : Int) (i : Int) (m : Int) true) (fun q => ?_) ?_
            · simp only [spec_l7Run.l0]
              rw [if_pos q1, if_pos q2, if_neg n48, n49]
            · cases hxb : x.testBit v with
              | true =>
                rw [hxb] at hb
                have e : m + (1 + r1.path x) = m + 1 + r1.path x := by clear hw hw2; omega
                rw [if_pos rfl, if_pos rfl, e]
                refine Ev.step (f := fun q => (spec_l7Skip.f q S ((i + 1 : Nat) : Int)).bind fun t => spec_l7Run.l0 q S (x : Int) t ((m + 1 : Nat) : Int)) (fun q => ?_) (Ev.bind sk i2)
                simp only [spec_l7Run.j1, if_true]
                rw [if_pos q1, if_pos q2, hmod, hb, if_pos (by decide), hw, hw2]
              | false =>
                rw [hxb] at hb
                have e : m + (1 + p1.path x) = m + 1 + p1.path x := by clear hw hw2; omega
                rw [if_neg (by decide), if_neg (by decide), e]
                refine Ev.step (fun q => ?_) i1
                simp only [spec_l7Run.j1, if_true]
                rw [if_pos q1, if_pos q2, hmod, hb, if_neg (by decide), hw, hw2]
        · rw [if_pos h2] at h; cases h
open Go.Proofs.YtkmicbnbclkkkaaDoor.M in
theorem spec_l7Run.ev {S : ByteArray} {T : Td} (ht : treeOf S = some T) {x : Nat} (hx : x < 32) : Ev (fun k => spec_l7Run.f k S (x : Int)) (T.val x, ((T.path x : Nat) : Int)) := by
  obtain ⟨a1, a2, a3, a4⟩ := treeOf_some ht
  have h := spec_l7Run.loop (S := S) (by omega) hx 6 0 0 T S.size 0 (by decide) (by omega) a3
  rw [Nat.zero_add] at h
  exact h

/-! ### facts on spec_TableOfTree -/
--IMPORT M41
open Go.Proofs.YtkmicbnbclkkkaaDoor.M in
/-- the table of a tree -/
def spec_TableOfTree.r (a0 : ByteArray) (a1 : Int) : Int × Int × Bool := match tabOf a0 a1 with | some T => (a1, ((T.word a1.toNat : Nat) : Int), true) | none => (0, 0, false)
open Go.Proofs.YtkmicbnbclkkkaaDoor.M in
theorem spec_TableOfTree.step {T : Td} (h : Dt 0 T) {x : Nat} (hx : x ≤ 61) : Go.bits .or .i64 ((prefW (fun x => T.val x == 1) x : Nat) : Int) (shl .i64 (T.val x) (x : Int)) = ((prefW (fun x => T.val x == 1) (x + 1) : Nat) : Int) := by
  have e : T.val x = ((((fun x => T.val x == 1) x).toNat : Nat) : Int) := by
    rcases h.val01 x with e | e <;> simp [e]
  rw [e]
  exact prefW_step (g := fun x => T.val x == 1) hx
open Go.Proofs.YtkmicbnbclkkkaaDoor.M in
theorem spec_TableOfTree.words {S : ByteArray} {T : Td} (ht : treeOf S = some T) (hT : Dt 0 T) {n : Nat} (hn : n ≤ 5) : Ev (fun k => spec_TableOfTree.l1 k S (n : Int) 0 0) ((n : Int), ((T.word n : Nat) : Int), true) := by
  have h5 := pow_le_5 hn
  obtain ⟨N, hN⟩ : ∃ N, N = 2 ^ n := ⟨_, rfl⟩
  have hs : shl .i64 1 (n : Int) = (N : Int) := by rw [hN]; exact shl_one (by omega)
  have hw : T.word n = prefW (fun x => T.val x == 1) N := by rw [hN]; rfl
  rw [hw]
  rw [← hN] at h5
  clear hw hN
  exact Ev.count (fun k x => spec_TableOfTree.l1 k S (n : Int) ((prefW (fun x => T.val x == 1) x : Nat) : Int) (x : Int)) N _ (fun x hx h => by
    have hr := spec_l7Run.ev ht (x := x) (by omega)
    have hst := spec_TableOfTree.step hT (x := x) (by omega)
    generalize prefW (fun x => T.val x == 1) (x + 1) = w1 at *
    generalize prefW (fun x => T.val x == 1) x = w0 at *
    generalize T.val x = V at *
    have hxN : (x : Int) < (N : Int) := by omega
    have hx1 := up1 (x := x) (by omega)
    obtain ⟨K1, k1⟩ := hr
    obtain ⟨K2, k2⟩ := h
    refine Ev.since (K1 + K2 + 1) fun q hq => ?_
    obtain ⟨q, rfl⟩ : ∃ q', q = q' + 1 := ⟨q - 1, by omega⟩
    have k1 := k1 q (by omega)
    dsimp only at k1
    have k2 := k2 q (by omega)
    dsimp only at k2
    simp only [spec_TableOfTree.l1]
    rw [if_pos (Int.natCast_nonneg n), hs, if_pos hxN, k1, Option.bind_some, if_pos (Int.natCast_nonneg x), hst, hx1]
    exact k2) (Ev.end (fun k => by
    simp only [spec_TableOfTree.l1]
    rw [if_pos (Int.natCast_nonneg n), hs, if_neg (by omega)])) N 0 (by omega)
open Go.Proofs.YtkmicbnbclkkkaaDoor.M in
theorem spec_TableOfTree.ev (S : ByteArray) (a : Int) : Ev (fun k => spec_TableOfTree.f k S a) (spec_TableOfTree.r S a) := by
  have hT := spec_IsTree.ev S
  unfold spec_TableOfTree.r tabOf
  cases ht : treeOf S with
  | none =>
    rw [ht] at hT
    refine Ev.bind hT ?_
    exact Ev.end (fun k => rfl)
  | some T =>
    rw [ht] at hT
    obtain ⟨hS, _, _, hD⟩ := treeOf_some ht
    have hwi := fun n => treeOf_within ht n
    refine Ev.bind hT ?_
    refine Ev.congr (f := fun k => spec_TableOfTree.j0 k S a (!decide (0 ≤ a ∧ a ≤ 5))) (fun k => by rw [Option.isSome_some, if_pos rfl, spec_l1In.ev]; rfl) ?_
    rw [Option.bind_some]
    by_cases h5 : 0 ≤ a ∧ a ≤ 5
    · obtain ⟨n, rfl⟩ := nat_of h5.1
      have hn : n ≤ 5 := by omega
      have hd : (!decide (0 ≤ (n : Int) ∧ (n : Int) ≤ 5)) = false := by rw [decide_eq_true h5]; rfl
      rw [hd]
      refine Ev.step (f := fun k => spec_TableOfTree.l0 k S (n : Int) 0) (fun k => rfl) ?_
      have hall := Ev.all (fun k i => spec_TableOfTree.l0 k S (n : Int) (i : Int)) S.size (fun p => decide (97 ≤ bt S p → bt S p - 97 < n)) ((n : Int), ((T.word n : Nat) : Int), true) (0, 0, false) (fun i hi hok r h => by
        have hok := of_decide_eq_true hok
        have hr := bt_range S i
        have hiS : (i : Int) < (S.size : Int) := by omega
        have hi1 := up1 (x := i) (by omega)
        refine Ev.step (fun k => ?_) h
        simp only [spec_TableOfTree.l0]
        rw [if_pos hiS, if_pos (Int.natCast_nonneg i), hi1]
        by_cases h97 : bt S i ≥ 97
        · rw [if_pos h97, if_neg (by have := hok h97; omega)]
        · rw [if_neg h97]) (fun i hi hbad => by
        have hbad := of_decide_eq_false hbad
        have hr := bt_range S i
        have hiS : (i : Int) < (S.size : Int) := by omega
        have h97 : bt S i ≥ 97 := by
          by_cases h : 97 ≤ bt S i
          · exact h
          · exact absurd (fun e => absurd e h) hbad
        have hge : ¬ bt S i - 97 < (n : Int) := fun e => hbad (fun _ => e)
        refine Ev.end (fun k => ?_)
        simp only [spec_TableOfTree.l0]
        rw [if_pos hiS, if_pos (Int.natCast_nonneg i), if_pos h97, if_pos (by omega)]) (Ev.step (fun k => by
        simp only [spec_TableOfTree.l0]
        rw [if_neg (by omega)]) (spec_TableOfTree.words ht hD hn))
      rw [← hwi n] at hall
      simp only [Int.toNat_natCast]
      by_cases hw : T.within n = true
      · rw [if_pos hw] at hall; rw [if_pos ⟨h5.1, h5.2, hw⟩]; exact hall
      · rw [if_neg hw] at hall; rw [if_neg (fun e => hw e.2.2)]; exact hall
    · rw [if_neg (fun e => h5 ⟨e.1, e.2.1⟩), decide_eq_false h5]
      exact Ev.end (fun k => rfl)

/-! ### facts on spec_DrawQueriesOf -/
--IMPORT M14
open Go.Proofs.YtkmicbnbclkkkaaDoor.M in
theorem spec_DrawQueriesOf.ok (b : List Int) (hb : b.length ≤ 1048576) : Tot (fun k => spec_DrawQueriesOf.f k b) (fun r => r.1.size ≤ 1000) := by
  unfold spec_DrawQueriesOf.f
  refine Tot.bind (spec_l1New.ok b hb) (fun r hr => ?_)
  obtain ⟨r1, r2, r3⟩ := r
  obtain ⟨rfl, rfl⟩ := hr
  refine Tot.bind (spec_l7Any.ok r1 hb 0 r3 (Int.le_refl 0)) (fun s hs => ?_)
  obtain ⟨x, i1, h1, e1, _, _⟩ := spec_l1Below.ok r1 s.2.1 s.2.2 34 hb hs.2 (by decide) (by decide)
  simp only [e1, Option.bind_some]
  exact Tot.now _ hs.1

/-! ### facts on spec_DrawAverageOf -/
--IMPORT M14
open Go.Proofs.YtkmicbnbclkkkaaDoor.M in
theorem spec_DrawAverageOf.ok (b : List Int) (hb : b.length ≤ 1048576) : Tot (fun k => spec_DrawAverageOf.f k b) (fun r => r.1.size ≤ 1000) := by
  unfold spec_DrawAverageOf.f
  refine Tot.bind (spec_l1New.ok b hb) (fun r hr => ?_)
  obtain ⟨r1, r2, r3⟩ := r
  obtain ⟨rfl, rfl⟩ := hr
  refine Tot.bind (spec_l7Any.ok r1 hb 0 r3 (Int.le_refl 0)) (fun s hs => ?_)
  obtain ⟨x, i1, h1, e1, _, _⟩ := spec_l1PickInt.ok r1 s.2.1 s.2.2 [4, 4, 5, 3, 0, (-1)] hb hs.2 (by decide) (by decide)
  simp only [e1, Option.bind_some]
  exact Tot.now _ hs.1

/-! ### facts on spec_QueriesOf -/
--IMPORT M11
open Go.Proofs.YtkmicbnbclkkkaaDoor.M in
theorem spec_QueriesOf.evT {S : ByteArray} {T : Td} (ht : treeOf S = some T) {x : Nat} (hx : x < 32) : Ev (fun k => spec_QueriesOf.f k S (x : Int)) ((T.path x : Nat) : Int) := by
  have h1 := spec_IsTree.ev S
  rw [ht] at h1
  refine Ev.bind h1 ?_
  have e : spec_l1In.f (x : Int) 0 31 = some true := by rw [spec_l1In.ev, decide_eq_true (by omega)]
  simp only [Option.isSome_some, if_true, e, Option.bind_some]
  exact Ev.bind (spec_l7Run.ev ht hx) (Ev.now _)
open Go.Proofs.YtkmicbnbclkkkaaDoor.M in
def spec_QueriesOf.r (a0 : ByteArray) (a1 : Int) : Int := match treeOf a0 with | some T => if 0 ≤ a1 ∧ a1 < 32 then ((T.path a1.toNat : Nat) : Int) else -1 | none => -1
open Go.Proofs.YtkmicbnbclkkkaaDoor.M in
theorem spec_QueriesOf.ev (S : ByteArray) (x : Int) : Ev (fun k => spec_QueriesOf.f k S x) (spec_QueriesOf.r S x) := by
  have h1 := spec_IsTree.ev S
  unfold spec_QueriesOf.r
  cases ht : treeOf S with
  | none =>
    rw [ht] at h1
    exact Ev.bind h1 (Ev.congr (fun k => if_neg (by decide)) (Ev.now _))
  | some T =>
    simp only []
    by_cases hx : 0 ≤ x ∧ x < 32
    · obtain ⟨y, rfl⟩ := nat_of hx.1
      rw [if_pos hx, Int.toNat_natCast]
      exact spec_QueriesOf.evT ht (by omega)
    · rw [if_neg hx]
      rw [ht] at h1
      refine Ev.bind h1 ?_
      have e : spec_l1In.f x 0 31 = some false := by rw [spec_l1In.ev, decide_eq_false (by omega)]
      simp only [Option.isSome_some, if_true, e, Option.bind_some]
      exact Ev.now _

/-! ### facts on spec_AverageOf -/
--IMPORT M41
open Go.Proofs.YtkmicbnbclkkkaaDoor.M in
def spec_AverageOf.r (a0 : ByteArray) (a1 : Int) : Int := match tabOf a0 a1 with | some T => ((T.askS (2 ^ a1.toNat) : Nat) : Int) | none => -1
open Go.Proofs.YtkmicbnbclkkkaaDoor.M in
theorem spec_AverageOf.ev (S : ByteArray) (a : Int) : Ev (fun k => spec_AverageOf.f k S a) (spec_AverageOf.r S a) := by
  have h := spec_TableOfTree.ev S a
  unfold spec_TableOfTree.r at h
  unfold spec_AverageOf.r
  cases ht : tabOf S a with
  | none =>
    rw [ht] at h
    exact Ev.bind h (Ev.now _)
  | some T =>
    rw [ht] at h
    obtain ⟨n, rfl, hn, htr, hD, _⟩ := tabOf_some ht
    refine Ev.bind h ?_
    refine Ev.congr (f := fun k => spec_AverageOf.l0 k S (n : Int) 0 0) (fun k => rfl) ?_
    rw [Int.toNat_natCast]
    have h5 := pow_le_5 hn
    obtain ⟨N, hN⟩ : ∃ N, N = 2 ^ n := ⟨_, rfl⟩
    have hs : shl .i64 1 (n : Int) = (N : Int) := by rw [hN]; exact shl_one (by omega)
    rw [← hN] at h5 ⊢
    clear hN h
    exact Ev.count (fun k x => spec_AverageOf.l0 k S (n : Int) ((T.askS x : Nat) : Int) (x : Int)) N _ (fun x hx h => by
      have hr := spec_QueriesOf.evT htr (x := x) (by omega)
      have hle := askS_le hD x
      have hp := hD.path5 x
      rw [askS_succ] at h
      have hxN : (x : Int) < (N : Int) := by omega
      have hx1 := up1 (x := x) (by omega)
      have hsum : wrap64 (((T.askS x : Nat) : Int) + ((T.path x : Nat) : Int)) = ((T.askS x + T.path x : Nat) : Int) := by rw [w64 (by omega) (by omega)]; push_cast; rfl
      generalize T.askS x + T.path x = s1 at *
      generalize T.askS x = s0 at *
      generalize T.path x = P at *
      obtain ⟨K1, k1⟩ := hr
      obtain ⟨K2, k2⟩ := h
      refine Ev.since (K1 + K2 + 1) fun q hq => ?_
      obtain ⟨q, rfl⟩ : ∃ q', q = q' + 1 := ⟨q - 1, by omega⟩
      have k1 := k1 q (by omega)
      dsimp only at k1
      have k2 := k2 q (by omega)
      dsimp only at k2
      simp only [spec_AverageOf.l0]
      rw [if_pos (Int.natCast_nonneg n), hs, if_pos hxN, k1, Option.bind_some, hsum, hx1]
      exact k2) (Ev.end (fun k => by
      simp only [spec_AverageOf.l0]
      rw [if_pos (Int.natCast_nonneg n), hs, if_neg (by omega)])) N 0 (by omega)

/-! ### facts on spec_DepthOfTree -/
--IMPORT M11
open Go.Proofs.YtkmicbnbclkkkaaDoor.M in
theorem spec_DepthOfTree.ev (S : ByteArray) : Ev (fun k => spec_DepthOfTree.f k S) (match treeOf S with | some T => ((T.depth : Nat) : Int) | none => -1) := by
  have h1 := spec_IsTree.ev S
  cases ht : treeOf S with
  | none =>
    rw [ht] at h1
    exact Ev.bind h1 (Ev.congr (fun k => if_neg (by decide)) (Ev.now _))
  | some T =>
    rw [ht] at h1
    obtain ⟨a1, a2, a3, a4⟩ := treeOf_some ht
    refine Ev.bind h1 (Ev.congr (fun k => if_pos rfl) ?_)
    show Ev _ ((T.depth : Nat) : Int)
    rw [← a4.max_path]
    have hle : ∀ m, m ≤ 32 → maxN (fun x => T.path x) m ≤ 5 := fun m _ => maxN_le (fun i _ => by
      have := a4.path_le i
      have := a4.depth_le (by decide)
      have := fre_le 0
      omega)
    exact Ev.count (fun k i => spec_DepthOfTree.l0 k S ((maxN (fun x => T.path x) i : Nat) : Int) (i : Int)) 32 _ (fun i hi hn => by
      refine Ev.step (f := fun k => (spec_QueriesOf.f k S (i : Int)).bind fun t => spec_DepthOfTree.l0 k S (mx ((maxN (fun x => T.path x) i : Nat) : Int) t) ((i + 1 : Nat) : Int)) (fun k => ?_) (Ev.bind (spec_QueriesOf.evT ht hi) ?_)
      · simp only [spec_DepthOfTree.l0]
        rw [if_pos (by omega), up1 (by omega)]
      · rw [mx_nat]; exact hn) (Ev.end (fun k => by
      simp only [spec_DepthOfTree.l0]
      rw [if_neg (by omega)])) 32 0 (by omega)

/-! ### facts on laws_FnTrees -/
--IMPORT M41
--IMPORT M14
open Go.Proofs.YtkmicbnbclkkkaaDoor.M in
def laws_FnTrees.D (s : ByteArray) : Int := match treeOf s with | some T => ((T.depth : Nat) : Int) | none => -1
open Go.Proofs.YtkmicbnbclkkkaaDoor.M in
theorem laws_FnTrees.depth {s : ByteArray} (h : s.size ≤ 1000) : impl_DepthOfTree.f s = some (laws_FnTrees.D s) := by
  unfold impl_DepthOfTree.f
  rw [if_pos (by omega)]; rfl
open Go.Proofs.YtkmicbnbclkkkaaDoor.M in
theorem laws_FnTrees.table {s : ByteArray} (h : s.size ≤ 1000) (n : Int) : impl_TableOfTree.f s n = some (spec_TableOfTree.r s n) := by
  unfold impl_TableOfTree.f
  rw [if_pos (by omega)]; rfl
open Go.Proofs.YtkmicbnbclkkkaaDoor.M in
theorem laws_FnTrees.average {s : ByteArray} (h : s.size ≤ 1000) (n : Int) : impl_AverageOf.f s n = some (spec_AverageOf.r s n) := by
  unfold impl_AverageOf.f
  rw [if_pos (by omega)]; rfl
open Go.Proofs.YtkmicbnbclkkkaaDoor.M in
theorem laws_FnTrees.queries {s : ByteArray} (h : s.size ≤ 1000) (n : Int) : impl_QueriesOf.f s n = some (spec_QueriesOf.r s n) := by
  unfold impl_QueriesOf.f
  rw [if_pos (by omega)]; rfl
open Go.Proofs.YtkmicbnbclkkkaaDoor.M in
theorem laws_FnTrees.isTree {s : ByteArray} (h : s.size ≤ 1000) : impl_IsTree.f s = some (treeOf s).isSome := by
  unfold impl_IsTree.f
  rw [if_pos (by omega)]
open Go.Proofs.YtkmicbnbclkkkaaDoor.M in
theorem laws_FnTrees.asked (s : ByteArray) (x : Int) : spec_QueriesOf.r s x ≤ mx 0 (laws_FnTrees.D s) := by
  unfold spec_QueriesOf.r laws_FnTrees.D
  cases ht : treeOf s with
  | none => show (-1 : Int) ≤ mx 0 (-1); unfold mx; decide
  | some T =>
    obtain ⟨_, _, _, hT⟩ := treeOf_some ht
    have hp := hT.path_le x.toNat
    simp only []
    unfold mx
    split <;> split <;> omega
open Go.Proofs.YtkmicbnbclkkkaaDoor.M in
/-- what is drawn last -/
theorem laws_FnTrees.j3_ev (l : List Int) (hb : l.length ≤ 1048576) : Ev (fun k => laws_FnTrees.j3 k l false) true := by
  obtain ⟨⟨d, x⟩, hd, hA⟩ := spec_DrawQueriesOf.ok l hb
  obtain ⟨⟨e, o⟩, he, hB⟩ := spec_DrawAverageOf.ok l hb
  have hd : d.size ≤ 1000 := hd
  have he : e.size ≤ 1000 := he
  have i1 := laws_FnTrees.queries hd x
  have i2 := laws_FnTrees.depth hd
  have i3 := laws_FnTrees.average he o
  have i4 := laws_FnTrees.isTree hd
  have s1 := spec_QueriesOf.ev d x
  have s2 : Ev (fun k => spec_DepthOfTree.f k d) (laws_FnTrees.D d) := spec_DepthOfTree.ev d
  have s3 := spec_AverageOf.ev e o
  have s4 := spec_IsTree.ev d
  have hle := laws_FnTrees.asked d x
  generalize spec_QueriesOf.r d x = rq at *
  generalize laws_FnTrees.D d = rd_ at *
  generalize spec_AverageOf.r e o = ra at *
  generalize (treeOf d).isSome = rt at *
  clear hd he
  obtain ⟨K1, k1⟩ := hA
  obtain ⟨K2, k2⟩ := hB
  obtain ⟨K3, k3⟩ := s1
  obtain ⟨K4, k4⟩ := s2
  obtain ⟨K5, k5⟩ := s3
  obtain ⟨K6, k6⟩ := s4
  refine Ev.since (K1 + K2 + K3 + K4 + K5 + K6 + 1) fun q hq => ?_
  obtain ⟨q, rfl⟩ : ∃ q', q = q' + 1 := ⟨q - 1, by omega⟩
  replace k1 := k1 q (by omega)
  replace k2 := k2 q (by omega)
  replace k3 := k3 q (by omega)
  replace k4 := k4 q (by omega)
  replace k5 := k5 q (by omega)
  replace k6 := k6 q (by omega)
  simp only [laws_FnTrees.j3, k1, k2, k3, k4, k5, k6, i1, i2, i3, i4, hle, Option.bind_some, ↓reduceIte, beq_self_eq_true, Bool.false_eq_true]
open Go.Proofs.YtkmicbnbclkkkaaDoor.M in
/-- a tree that is drawn does no better than the least ones -/
theorem laws_FnTrees.j2_ev (l : List Int) (hb : l.length ≤ 1048576) (a : ByteArray) (ha : a.size ≤ 1000) (m : Int) : Ev (fun k => laws_FnTrees.j2 k l a m (spec_TableOfTree.r a m).2.2 false (spec_TableOfTree.r a m).1 (spec_TableOfTree.r a m).2.1) true := by
  have h3 := laws_FnTrees.j3_ev l hb
  have i2 := laws_FnTrees.depth ha
  have i3 := laws_FnTrees.average ha m
  unfold spec_TableOfTree.r
  unfold spec_AverageOf.r at i3
  unfold laws_FnTrees.D at i2
  cases ht : tabOf a m with
  | none =>
    refine Ev.step (fun k => ?_) h3
    simp only [laws_FnTrees.j2, Bool.false_eq_true, ↓reduceIte]
  | some T =>
    rw [ht] at i3
    obtain ⟨n, rfl, hn, htr, hT, hw⟩ := tabOf_some ht
    rw [htr] at i2
    simp only [Int.toNat_natCast] at i2 i3 ⊢
    by_cases h4 : (n : Int) ≤ 4
    · have hlt := Td.word_lt n T
      obtain ⟨b1, b2⟩ := tree_best (by omega) hT hw
      have hlt2 : ((T.word n : Nat) : Int) < ((2 ^ 2 ^ n : Nat) : Int) := by exact_mod_cast hlt
      have i0 := impl_LeastDepth.ev (n : Int) ((T.word n : Nat) : Int)
      have i1 := impl_LeastAverage.ev (n : Int) ((T.word n : Nat) : Int)
      unfold spec_LeastDepth.r at i0
      unfold spec_LeastAverage.r at i1
      rw [if_pos ⟨isT_mk hn hlt, h4⟩, Int.toNat_natCast, Int.toNat_natCast] at i0 i1
      have b2 : avW n (T.word n) ≤ T.askS (2 ^ n) := b2
      have g1 : ¬ (((ldC n n (T.word n) n 0 0 : Nat) : Int) > ((T.depth : Nat) : Int)) := by omega
      have g2 : decide (((avW n (T.word n) : Nat) : Int) > ((T.askS (2 ^ n) : Nat) : Int)) = false := decide_eq_false (by omega)
      generalize T.word n = w at *
      generalize ((ldC n n w n 0 0 : Nat) : Int) = L at *
      generalize ((avW n w : Nat) : Int) = A at *
      generalize ((T.depth : Nat) : Int) = Dp at *
      generalize ((T.askS (2 ^ n) : Nat) : Int) = As at *
      clear hlt hlt2 b1 b2
      refine Ev.step (fun k => ?_) h3
      simp only [laws_FnTrees.j2, Bool.false_eq_true, ↓reduceIte, h4, i0, i1, i2, i3, Option.bind_some, g1, g2]
    · refine Ev.step (fun k => ?_) h3
      simp only [laws_FnTrees.j2, Bool.false_eq_true, ↓reduceIte, h4]
open Go.Proofs.YtkmicbnbclkkkaaDoor.M in
theorem laws_FnTrees.j1_ev (l : List Int) (hb : l.length ≤ 1048576) : Ev (fun k => laws_FnTrees.j1 k l) true := by
  obtain ⟨⟨a, m⟩, ha, hA⟩ := spec_DrawTableOfTree.ok l hb
  have ha : a.size ≤ 1000 := ha
  have h2 := laws_FnTrees.j2_ev l hb a ha m
  have i1 := laws_FnTrees.table ha m
  have s1 := spec_TableOfTree.ev a m
  generalize spec_TableOfTree.r a m = r at *
  obtain ⟨r1, r2, r3⟩ := r
  clear ha
  obtain ⟨K1, k1⟩ := hA
  obtain ⟨K2, k2⟩ := s1
  obtain ⟨K3, k3⟩ := h2
  refine Ev.since (K1 + K2 + K3 + 1) fun q hq => ?_
  obtain ⟨q, rfl⟩ : ∃ q', q = q' + 1 := ⟨q - 1, by omega⟩
  replace k1 := k1 q (by omega)
  replace k2 := k2 q (by omega)
  replace k3 := k3 q (by omega)
  simp only [laws_FnTrees.j1, k1, k2, i1, Option.bind_some, ↓reduceIte, beq_self_eq_true, Bool.not_true, Bool.or_self, Bool.false_eq_true, bne_self_eq_false]
  exact k3
open Go.Proofs.YtkmicbnbclkkkaaDoor.M in
/-- what is told of the best tree -/
theorem laws_FnTrees.j0_ev (l : List Int) (hb : l.length ≤ 1048576) (a b : Int) : Ev (fun k => laws_FnTrees.j0 k l (spec_BestTree.r a b).2 (spec_BestTree.r a b).1 (spec_LeastDepth.r a b) (spec_LeastAverage.r a b) false a b) true := by
  have h1 := laws_FnTrees.j1_ev l hb
  have hsz := spec_BestTree.size a b
  have hev : impl_IsEvasive.f a b = some (if isT a b = true ∧ a ≤ 4 then (spec_LeastDepth.r a b == a) else false) := by
    unfold impl_IsEvasive.f
    rw [impl_isSmall.ev, Option.bind_some]
    by_cases h : isT a b = true ∧ a ≤ 4
    · rw [h.1, decide_eq_true h.2, if_pos (by decide), impl_LeastDepth.ev, if_pos ⟨rfl, h.2⟩]; rfl
    · rw [if_neg h, if_neg]
      intro e
      rw [Bool.and_eq_true, decide_eq_true_eq] at e
      exact h e
  unfold spec_BestTree.r at hsz ⊢
  unfold spec_LeastDepth.r at hev
  unfold spec_LeastDepth.r spec_LeastAverage.r
  by_cases h : isT a b = true ∧ a ≤ 4
  · rw [if_pos h] at hsz
    simp only [if_pos h] at hev ⊢
    obtain ⟨n, v, rfl, rfl, hn, hv⟩ := isT_nat h.1
    have hn4 : n ≤ 4 := by have := h.2; omega
    simp only [Int.toNat_natCast] at hsz hev ⊢
    have hsz : (bestS n v).size ≤ 1000 := by omega
    obtain ⟨t1, t2, t3, t4, t5⟩ := bestS_read hn4 hv
    obtain ⟨u1, u2⟩ := avW_le hn4 hv
    have htab : tabOf (bestS n v) (n : Int) = some (bestT n v n 0 0) := by
      unfold tabOf
      rw [t1, Option.bind_some, Int.toNat_natCast, if_pos ⟨by omega, by omega, t2⟩]
    have i1 := laws_FnTrees.table hsz (n : Int)
    unfold spec_TableOfTree.r at i1
    rw [htab] at i1
    simp only [Int.toNat_natCast, t4] at i1
    have i2 := laws_FnTrees.isTree hsz
    rw [t1] at i2
    simp only [Option.isSome_some] at i2
    have i3 := laws_FnTrees.depth hsz
    unfold laws_FnTrees.D at i3
    rw [t1] at i3
    simp only [t3] at i3
    have i4 := laws_FnTrees.average hsz (n : Int)
    unfold spec_AverageOf.r at i4
    rw [htab] at i4
    simp only [Int.toNat_natCast] at i4
    have u1 : avW n v ≤ (bestT n v n 0 0).askS (2 ^ n) := u1
    have hl := ldC_le (v := v) (Nat.le_refl n) (Cb.zero hn4) (d := n) (by rw [pc_zero]; omega)
    have h16 := pow16 hn4
    have hm : ldC n n v n 0 0 * 2 ^ n ≤ 4 * 16 := Nat.mul_le_mul (by omega) h16
    have hsh : shl .i64 ((ldC n n v n 0 0 : Nat) : Int) (n : Int) = ((ldC n n v n 0 0 * 2 ^ n : Nat) : Int) := shl_nat (by omega) (by omega)
    rw [Nat.mul_comm] at u2
    have g0 : (0 : Int) ≤ (n : Int) := Int.natCast_nonneg n
    have g1 : ¬ ((avW n v : Nat) : Int) > shl .i64 ((ldC n n v n 0 0 : Nat) : Int) (n : Int) := by rw [hsh]; omega
    have g2 : ¬ ((avW n v : Nat) : Int) > (((bestT n v n 0 0).askS (2 ^ n) : Nat) : Int) := by omega
    generalize bestS n v = s at *
    generalize (((bestT n v n 0 0).askS (2 ^ n) : Nat) : Int) = As at *
    generalize ((ldC n n v n 0 0 : Nat) : Int) = L at *
    generalize ((avW n v : Nat) : Int) = A at *
    generalize (n : Int) = N at *
    generalize (v : Int) = V at *
    clear t1 t2 t3 t4 t5 u1 u2 htab hl h16 hm hsh hv hn hn4 hsz h
    refine Ev.step (fun k => ?_) h1
    simp only [laws_FnTrees.j0, Bool.false_eq_true, ↓reduceIte, i1, i2, i3, i4, hev, g0, g1, g2, Option.bind_some, beq_self_eq_true, Bool.not_true, Bool.or_self, bne_self_eq_false]
  · simp only [if_neg h]
    refine Ev.step (fun k => ?_) h1
    simp only [laws_FnTrees.j0, Bool.false_eq_true, ↓reduceIte]
open Go.Proofs.YtkmicbnbclkkkaaDoor.M in
theorem laws_FnTrees.pure_ : laws_FnTrees.Pure := by
  intro l _ _ _
  by_cases hb : l.length ≤ 1048576
  · have hbig : laws_big.f l = some false := by unfold laws_big.f; rw [decide_eq_false (by omega)]
    obtain ⟨⟨a, b⟩, _, hD⟩ := spec_DrawBestTree.ok l hb
    suffices hfin : Ev (fun k => laws_FnTrees.f k l) true by
      obtain ⟨K, hK⟩ := hfin
      exact ⟨K, hK K (Nat.le_refl _)⟩
    have h0 := laws_FnTrees.j0_ev l hb a b
    have i1 := impl_BestTree.ev a b
    have i2 := impl_LeastDepth.ev a b
    have i3 := impl_LeastAverage.ev a b
    have s1 := spec_BestTree.ev a b
    have s2 := spec_LeastDepth.ev a b
    have s3 := spec_LeastAverage.ev a b
    generalize spec_BestTree.r a b = r at *
    generalize spec_LeastDepth.r a b = L at *
    generalize spec_LeastAverage.r a b = A at *
    obtain ⟨r1, r2⟩ := r
    obtain ⟨K1, k1⟩ := hD
    obtain ⟨K2, k2⟩ := s1
    obtain ⟨K3, k3⟩ := s2
    obtain ⟨K4, k4⟩ := s3
    obtain ⟨K5, k5⟩ := h0
    refine Ev.since (K1 + K2 + K3 + K4 + K5) fun q hq => ?_
    replace k1 := k1 q (by omega)
    replace k2 := k2 q (by omega)
    replace k3 := k3 q (by omega)
    replace k4 := k4 q (by omega)
    replace k5 := k5 q (by omega)
    simp only [laws_FnTrees.f, hbig, k1, k2, k3, k4, i1, i2, i3, Option.bind_some, ↓reduceIte, bne_self_eq_false, Bool.false_eq_true]
    exact k5
  · refine ⟨0, ?_⟩
    unfold laws_FnTrees.f laws_big.f
    rw [decide_eq_true (by omega), Option.bind_some, if_pos rfl]

end Go.Proofs.YtkmicbnbclkkkaaDoor.Print
