/- Lemmas on the given program's functions, told as plain Lean functions. -/
import Derived.Test.YtodfifkgohjpfaaKAffine2
import Derived.Test.YtodfifkgohjpfaaKAffine11
import Derived.Test.YtodfifkgohjpfaaKAffine18
import Derived.Test.YtodfifkgohjpfaaKAffine19
import Derived.Test.YtodfifkgohjpfaaKAffine20
import Derived.Test.YtodfifkgohjpfaaKAffine21
import Derived.Test.YtodfifkgohjpfaaM29
namespace Go.Proofs.Ytodfifkgohjpfaa.Print
open Go.Proofs.Ytodfifkgohjpfaa.M
open Go.RowKit Go.Proofs.YtodfifkgohjpfaaW.PrintWords Go.Proofs.YtodfifkgohjpfaaW.PrintLast Go.Proofs.YtodfifkgohjpfaaW.PrintMore
attribute [local go_sem] max2_int min2_int max_two min_two max_three min_three max_four min_four
set_option linter.unusedVariables false
theorem spec_l1New.ok (b : List Int) (hb : b.length ≤ 1048576) : Tot (fun k => spec_l1New.f k b) (fun r => r.1 = b ∧ r.2.1 = 0) := by
  unfold spec_l1New.f
  refine Tot.up (S := Int) (fun i s k => spec_l1New.l0 k b s (i : Int)) b.length (fun _ _ => True) ?_ ?_ b.length 0 _ (by omega) trivial
  · intro i s hi _ hn
    by_cases h4 : (i : Int) < 4000
    · refine Tot.step (fun k => ?_) (hn (Go.bits .and .i64 (wrap64 ((wrap64 ((wrap64 (s * 131)) + (wrap64 (rd b i)))) + 7)) 1073741823) trivial)
      simp only [spec_l1New.l0]
      rw [if_pos (Int.ofNat_lt.mpr hi), if_pos h4, if_pos (Int.natCast_nonneg i), up1 (by omega)]
    · refine Tot.end (b, 0, s) ⟨rfl, rfl⟩ (fun k => ?_)
      simp only [spec_l1New.l0]
      rw [if_pos (Int.ofNat_lt.mpr hi), if_neg h4]
  · intro s _
    refine Tot.end (b, 0, s) ⟨rfl, rfl⟩ (fun k => ?_)
    simp only [spec_l1New.l0]
    rw [if_neg (by omega)]
theorem spec_l1Byte.ok (b : List Int) (i h : Int) (hb : b.length ≤ 1048576) (hi : 0 ≤ i) : ∃ x i' h', spec_l1Byte.f b i h = some (x, i', h') ∧ 0 ≤ x ∧ x ≤ 255 ∧ 0 ≤ i' := by
  unfold spec_l1Byte.f
  by_cases hc : i < (b.length : Int)
  · rw [if_pos hc, if_pos hi, w64 (x := i + 1) (by omega) (by omega)]
    exact ⟨_, _, _, rfl, (and_255 _).1, (and_255 _).2, by omega⟩
  · rw [if_neg hc]
    exact ⟨_, _, _, rfl, (and_255 _).1, (and_255 _).2, hi⟩
theorem spec_l1Below.ok (b : List Int) (i h n : Int) (hb : b.length ≤ 1048576) (hi : 0 ≤ i) (h1 : 1 ≤ n) (h2 : n ≤ 256) : ∃ x i' h', spec_l1Below.f b i h n = some (x, i', h') ∧ 0 ≤ x ∧ x < n ∧ 0 ≤ i' := by
  obtain ⟨x, i', h', e, e1, e2, e3⟩ := spec_l1Byte.ok b i h hb hi
  unfold spec_l1Below.f
  rw [if_neg (by omega), if_pos h2, e, Option.bind_some, if_neg (by omega)]
  exact ⟨_, _, _, rfl, Int.tmod_nonneg n e1, Int.tmod_lt_of_pos x (by omega), e3⟩
theorem spec_l2Count.loop : ∀ (d w acc : Nat), w < 2 ^ d → d ≤ 62 → acc + d ≤ 1000 → Ev (fun k => spec_l2Count.l0 k acc w) ((acc + cnt w.testBit d : Nat) : Int)
  | 0, w, acc, hw, _, ha => by
    obtain rfl : w = 0 := by omega
    refine Ev.end (fun k => ?_)
    simp only [spec_l2Count.l0]
    rw [if_neg (by omega)]; rfl
  | d + 1, w, acc, hw, hd, ha => by
    by_cases h0 : w = 0
    · subst h0
      refine Ev.end (fun k => ?_)
      simp only [spec_l2Count.l0]
      rw [if_neg (by omega), cnt_zero]; rfl
    · have h := spec_l2Count.loop d (w / 2) (acc + w % 2) (by rw [Nat.pow_succ] at hw; omega) (by omega) (by omega)
      rw [show acc + w % 2 + cnt (w / 2).testBit d = acc + cnt w.testBit (d + 1) by rw [cnt_half]; omega] at h
      refine Ev.step (fun k => ?_) h
      have hp := p63 (n := d + 1) hd
      simp only [spec_l2Count.l0]
      rw [if_pos (by omega)]
      have e1 : Go.bits .and .i64 (w : Int) 1 = ((w % 2 : Nat) : Int) := by
        rw [← Nat.and_one_is_mod]; exact and_nat (b := 1) (by omega) (by decide)
      rw [e1, w64 (by omega) (by omega)]
      congr 1
theorem spec_l2Count.ev {w : Nat} (h : w < 2 ^ 32) : Ev (fun k => spec_l2Count.f k w) ((pc w : Nat) : Int) := by
  have := spec_l2Count.loop 32 w 0 h (by omega) (by omega)
  rw [Nat.zero_add] at this
  exact this
theorem spec_l2Full.ev {n : Nat} (h : n ≤ 5) : spec_l2Full.f n = some (((2 ^ 2 ^ n : Nat) : Int) - 1) := by
  unfold spec_l2Full.f
  rw [if_pos (Int.natCast_nonneg n), full_word h]
theorem spec_l2Draw.fin {n : Nat} (hn : n ≤ 4) (x i h : Int) : ∃ W, (if (n : Int) = 0 then ((spec_l2Full.f (n : Int)).bind fun t => (some ((n : Int), Go.bits .and .i64 (Go.bits .and .i64 x 1) t, i, h))) else ((spec_l2Full.f (n : Int)).bind fun t => (some ((n : Int), Go.bits .and .i64 x t, i, h)))) = some ((n : Int), W, i, h) := by
  rw [spec_l2Full.ev (by omega)]
  by_cases e : (n : Int) = 0
  · rw [if_pos e]; exact ⟨_, rfl⟩
  · rw [if_neg e]; exact ⟨_, rfl⟩
theorem spec_l2Draw.pow_le {n : Nat} (hn : n ≤ 4) : 2 ^ n ≤ 16 := Nat.pow_le_pow_right (n := 2) (by decide) hn
theorem spec_l2Draw.ok0 (b : List Int) (i h : Int) (hi : 0 ≤ i) {n : Nat} (hn : n ≤ 4) (x : Int) : Tot (fun k => spec_l2Draw.l0 k n x 0 b i h) (fun r => r.1 = (n : Int) ∧ 0 ≤ r.2.2.1) := by
  have h16 := spec_l2Draw.pow_le hn
  have hn0 : (0 : Int) ≤ (n : Int) := Int.natCast_nonneg n
  have hs := shl_one (n := n) (by omega)
  refine Tot.up (S := Int) (fun j s k => spec_l2Draw.l0 k n s (j : Int) b i h) (2 ^ n) (fun _ _ => True) ?_ ?_ (2 ^ n) 0 x (by omega) trivial
  · intro j s hj _ hnx
    have hlt : (j : Int) < ((2 ^ n : Nat) : Int) := Int.ofNat_lt.mpr hj
    have hj0 : (0 : Int) ≤ (j : Int) := Int.natCast_nonneg j
    have hu := up1 (x := j) (by omega)
    refine Tot.step (f := fun k => (spec_l2Count.f k j).bind fun t => if wrap64 (2 * t) > (n : Int) then spec_l2Draw.l0 k n (Go.bits .or .i64 s (shl .i64 1 (j : Int))) ((j + 1 : Nat) : Int) b i h else spec_l2Draw.l0 k n s ((j + 1 : Nat) : Int) b i h) (fun k => ?_) (Tot.bind (Tot.ev (P := fun _ => True) (spec_l2Count.ev (w := j) (by omega)) trivial) (fun t _ => Tot.ite _ (fun _ => hnx _ trivial) (fun _ => hnx _ trivial)))
    simp only [spec_l2Draw.l0, hs, hn0, hlt, hj0, hu, ↓reduceIte]
  · intro s _
    obtain ⟨W, hW⟩ := spec_l2Draw.fin hn s i h
    refine Tot.end ((n : Int), W, i, h) ⟨rfl, hi⟩ (fun k => ?_)
    · simp only [spec_l2Draw.l0, hs, hn0, Int.lt_irrefl, ↓reduceIte]
      exact hW
theorem spec_l2Draw.ok1 (b : List Int) (i h : Int) (hi : 0 ≤ i) {n : Nat} (hn : n ≤ 4) (x : Int) : Tot (fun k => spec_l2Draw.l1 k n x 0 b i h) (fun r => r.1 = (n : Int) ∧ 0 ≤ r.2.2.1) := by
  have h16 := spec_l2Draw.pow_le hn
  have hn0 : (0 : Int) ≤ (n : Int) := Int.natCast_nonneg n
  have hs := shl_one (n := n) (by omega)
  refine Tot.up (S := Int) (fun j s k => spec_l2Draw.l1 k n s (j : Int) b i h) (2 ^ n) (fun _ _ => True) ?_ ?_ (2 ^ n) 0 x (by omega) trivial
  · intro j s hj _ hnx
    have hlt : (j : Int) < ((2 ^ n : Nat) : Int) := Int.ofNat_lt.mpr hj
    have hj0 : (0 : Int) ≤ (j : Int) := Int.natCast_nonneg j
    have hu := up1 (x := j) (by omega)
    refine Tot.step (f := fun k => (spec_l2Count.f k j).bind fun t => if Int.tmod t 2 = 1 then spec_l2Draw.l1 k n (Go.bits .or .i64 s (shl .i64 1 (j : Int))) ((j + 1 : Nat) : Int) b i h else spec_l2Draw.l1 k n s ((j + 1 : Nat) : Int) b i h) (fun k => ?_) (Tot.bind (Tot.ev (P := fun _ => True) (spec_l2Count.ev (w := j) (by omega)) trivial) (fun t _ => Tot.ite _ (fun _ => hnx _ trivial) (fun _ => hnx _ trivial)))
    simp only [spec_l2Draw.l1, hs, hn0, hlt, hj0, hu, ↓reduceIte]
  · intro s _
    obtain ⟨W, hW⟩ := spec_l2Draw.fin hn s i h
    refine Tot.end ((n : Int), W, i, h) ⟨rfl, hi⟩ (fun k => ?_)
    · simp only [spec_l2Draw.l1, hs, hn0, Int.lt_irrefl, ↓reduceIte]
      exact hW
theorem spec_l2Draw.ok2 (b : List Int) (i h y : Int) (hi : 0 ≤ i) {n : Nat} (hn : n ≤ 4) (x : Int) : Tot (fun k => spec_l2Draw.l2 k n x y 0 b i h) (fun r => r.1 = (n : Int) ∧ 0 ≤ r.2.2.1) := by
  have h16 := spec_l2Draw.pow_le hn
  have hn0 : (0 : Int) ≤ (n : Int) := Int.natCast_nonneg n
  have hs := shl_one (n := n) (by omega)
  refine Tot.up (S := Int) (fun j s k => spec_l2Draw.l2 k n s y (j : Int) b i h) (2 ^ n) (fun _ _ => True) ?_ ?_ (2 ^ n) 0 x (by omega) trivial
  · intro j s hj _ hnx
    have hlt : (j : Int) < ((2 ^ n : Nat) : Int) := Int.ofNat_lt.mpr hj
    have hj0 : (0 : Int) ≤ (j : Int) := Int.natCast_nonneg j
    have hu := up1 (x := j) (by omega)
    refine Tot.step (f := fun k => if Go.bits .and .i64 (j : Int) y = y then spec_l2Draw.l2 k n (Go.bits .or .i64 s (shl .i64 1 (j : Int))) y ((j + 1 : Nat) : Int) b i h else spec_l2Draw.l2 k n s y ((j + 1 : Nat) : Int) b i h) (fun k => ?_) (Tot.ite _ (fun _ => hnx _ trivial) (fun _ => hnx _ trivial))
    simp only [spec_l2Draw.l2, hs, hn0, hlt, hj0, hu, ↓reduceIte]
  · intro s _
    obtain ⟨W, hW⟩ := spec_l2Draw.fin hn s i h
    refine Tot.end ((n : Int), W, i, h) ⟨rfl, hi⟩ (fun k => ?_)
    · simp only [spec_l2Draw.l2, hs, hn0, Int.lt_irrefl, ↓reduceIte]
      exact hW
theorem spec_l2Draw.ok3 (b : List Int) (hb : b.length ≤ 1048576) (i h : Int) (hi : 0 ≤ i) {n : Nat} (hn : n ≤ 4) (x : Int) : Tot (fun k => spec_l2Draw.l3 k n x 0 b i h) (fun r => r.1 = (n : Int) ∧ 0 ≤ r.2.2.1) := by
  have h16 := spec_l2Draw.pow_le hn
  have hn0 : (0 : Int) ≤ (n : Int) := Int.natCast_nonneg n
  have hs := shl_one (n := n) (by omega)
  refine Tot.up (S := Int × Int × Int) (fun j s k => spec_l2Draw.l3 k n s.1 (j : Int) b s.2.1 s.2.2) (2 ^ n) (fun _ s => 0 ≤ s.2.1) ?_ ?_ (2 ^ n) 0 (x, i, h) (by omega) hi
  · rintro j ⟨s, i, h⟩ hj hi hnx
    have hlt : (j : Int) < ((2 ^ n : Nat) : Int) := Int.ofNat_lt.mpr hj
    have hj0 : (0 : Int) ≤ (j : Int) := Int.natCast_nonneg j
    have hu := up1 (x := j) (by omega)
    obtain ⟨q, i', h', e, _, _, e3⟩ := spec_l1Below.ok b i h 2 hb hi (by decide) (by decide)
    refine Tot.step (f := fun k => spec_l2Draw.l3 k n (Go.bits .or .i64 s (shl .i64 q (j : Int))) ((j + 1 : Nat) : Int) b i' h') (fun k => ?_) (hnx (_, i', h') e3)
    simp only [spec_l2Draw.l3, hs, hn0, hlt, hj0, hu, e, Option.bind_some, ↓reduceIte]
  · rintro ⟨s, i, h⟩ hi
    obtain ⟨W, hW⟩ := spec_l2Draw.fin hn s i h
    refine Tot.end ((n : Int), W, i, h) ⟨rfl, hi⟩ (fun k => ?_)
    · simp only [spec_l2Draw.l3, hs, hn0, Int.lt_irrefl, ↓reduceIte]
      exact hW
theorem spec_l2Draw.var {n j : Nat} (hn : n ≤ 4) (hj : j ≤ 4) : Tot (fun k => spec_l2Variable.f k n j) (fun _ => True) := by
  have h16 := spec_l2Draw.pow_le hn
  have hn0 : (0 : Int) ≤ (n : Int) := Int.natCast_nonneg n
  have hj1 : (0 : Int) ≤ (j : Int) := Int.natCast_nonneg j
  have hs := shl_one (n := n) (by omega)
  refine Tot.up (S := Int) (fun x s k => spec_l2Variable.l0 k n j s (x : Int)) (2 ^ n) (fun _ _ => True) ?_ ?_ (2 ^ n) 0 0 (by omega) trivial
  · intro x s hx _ hnx
    have hlt : (x : Int) < ((2 ^ n : Nat) : Int) := Int.ofNat_lt.mpr hx
    have hx0 : (0 : Int) ≤ (x : Int) := Int.natCast_nonneg x
    have hu := up1 (x := x) (by omega)
    refine Tot.step (f := fun k => if Go.bits .and .i64 (shr .i64 (x : Int) (j : Int)) 1 = 1 then spec_l2Variable.l0 k n j (Go.bits .or .i64 s (shl .i64 1 (x : Int))) ((x + 1 : Nat) : Int) else spec_l2Variable.l0 k n j s ((x + 1 : Nat) : Int)) (fun k => ?_) (Tot.ite _ (fun _ => hnx _ trivial) (fun _ => hnx _ trivial))
    simp only [spec_l2Variable.l0, hs, hn0, hj1, hlt, hx0, hu, ↓reduceIte]
  · intro s _
    refine Tot.end s trivial (fun k => ?_)
    simp only [spec_l2Variable.l0, hs, hn0, Int.lt_irrefl, ↓reduceIte]
theorem spec_l2Draw.ok (b : List Int) (hb : b.length ≤ 1048576) (i h : Int) (hi : 0 ≤ i) {n : Nat} (hn : n ≤ 4) : Tot (fun k => spec_l2Draw.f k b i h n) (fun r => r.1 = (n : Int) ∧ 0 ≤ r.2.2.1) := by
  obtain ⟨q, i', h', e, q1, q2, e3⟩ := spec_l1Below.ok b i h 6 hb hi (by decide) (by decide)
  have h16 := spec_l2Draw.pow_le hn
  have hn0 : (0 : Int) ≤ (n : Int) := Int.natCast_nonneg n
  have hs := shl_one (n := n) (by omega)
  have hp := Nat.two_pow_pos n
  unfold spec_l2Draw.f
  simp only [e, Option.bind_some]
  refine Tot.ite _ (fun _ => ?_) (fun _ => Tot.ite _ (fun _ => spec_l2Draw.ok0 b i' h' e3 hn 0) (fun _ => Tot.ite _ (fun _ => spec_l2Draw.ok1 b i' h' e3 hn 0) (fun _ => Tot.ite _ (fun _ => ?_) (fun _ => spec_l2Draw.ok3 b hb i' h' e3 hn 0))))
  · have hm : 1 ≤ mx 1 (n : Int) ∧ mx 1 (n : Int) ≤ 4 := by unfold mx; split <;> omega
    obtain ⟨y, i2, h2, e2, y1, y2, y3⟩ := spec_l1Below.ok b i' h' (mx 1 (n : Int)) hb e3 hm.1 (by omega)
    simp only [e2, Option.bind_some]
    obtain ⟨j, rfl⟩ := nat_of y1
    refine Tot.bind (spec_l2Draw.var hn (j := j) (by omega)) (fun t _ => ?_)
    obtain ⟨W, hW⟩ := spec_l2Draw.fin hn t i2 h2
    exact Tot.congr (fun k => hW) (Tot.now _ ⟨rfl, y3⟩)
  · simp only [hn0, hs, ↓reduceIte]
    obtain ⟨y, i2, h2, e2, y1, y2, y3⟩ := spec_l1Below.ok b i' h' ((2 ^ n : Nat) : Int) hb e3 (by omega) (by omega)
    simp only [e2, Option.bind_some]
    exact spec_l2Draw.ok2 b i2 h2 y y3 hn 0
theorem spec_l1PickInt.ok (b : List Int) (i h : Int) (l : List Int) (hb : b.length ≤ 1048576) (hi : 0 ≤ i) (h1 : 1 ≤ l.length) (h2 : l.length ≤ 256) : ∃ x i' h', spec_l1PickInt.f b i h l = some (x, i', h') ∧ x ∈ l ∧ 0 ≤ i' := by
  obtain ⟨x, i', h', e, e1, e2, e3⟩ := spec_l1Below.ok b i h (l.length : Int) hb hi (by omega) (by omega)
  unfold spec_l1PickInt.f
  rw [e, Option.bind_some, if_pos e1, if_pos e2]
  refine ⟨_, _, _, rfl, ?_, e3⟩
  obtain ⟨j, rfl⟩ := nat_of e1
  have hj : j < l.length := by omega
  show rd l (j : Int) ∈ l
  simp [rd, List.getD_eq_getElem?_getD, hj]
theorem spec_l2Any.ok (b : List Int) (hb : b.length ≤ 1048576) (i h : Int) (hi : 0 ≤ i) : Tot (fun k => spec_l2Any.f k b i h) (fun r => 0 ≤ r.2.2.1) := by
  obtain ⟨q, i', h', e, q1, q2, e3⟩ := spec_l1Below.ok b i h 5 hb hi (by decide) (by decide)
  unfold spec_l2Any.f
  simp only [e, Option.bind_some]
  obtain ⟨n, rfl⟩ := nat_of q1
  refine Tot.bind (spec_l2Draw.ok b hb i' h' e3 (n := n) (by omega)) (fun r hr => ?_)
  obtain ⟨y, i2, h2, e2, _, _, y3⟩ := spec_l1Below.ok b r.2.2.1 r.2.2.2 14 hb hr.2 (by decide) (by decide)
  simp only [e2, Option.bind_some]
  obtain ⟨z0, i3, h3, w0, _, z1⟩ := spec_l1PickInt.ok b i2 h2 [(-1), 6, 5, 0, 9223372036854775807] hb y3 (by decide) (by decide)
  obtain ⟨z2, i4, h4, w1, _, z3⟩ := spec_l1PickInt.ok b i2 h2 [(-1), 0, 1, 65536, 9223372036854775807] hb y3 (by decide) (by decide)
  simp only [w0, w1, Option.bind_some]
  exact Tot.ite _ (fun _ => Tot.now _ z1) (fun _ => Tot.ite _ (fun _ => Tot.now _ z3) (fun _ => Tot.now _ y3))
theorem spec_l1Once.ok (b : List Int) (i h n : Int) (hb : b.length ≤ 1048576) (hi : 0 ≤ i) (h1 : 1 ≤ n) (h2 : n ≤ 256) : ∃ x i' h', spec_l1Once.f b i h n = some (x, i', h') ∧ 0 ≤ i' := by
  obtain ⟨y, i2, h3, e, _, _, y3⟩ := spec_l1Below.ok b i h n hb hi h1 h2
  unfold spec_l1Once.f
  rw [e, Option.bind_some]
  exact ⟨_, _, _, rfl, y3⟩
theorem spec_l27Draw.tail_ok (b : List Int) (hb : b.length ≤ 1048576) (n : Nat) (q : List Int) (hq : q.length = n) (y i h : Int) (hi : 0 ≤ i) : Tot (fun k => spec_l27Draw.j2 k (n : Int) q y false b i h) (fun r => 0 ≤ r.2.1 ∧ r.1.length = n) := by
  by_cases h0 : (n : Int) > 0
  · obtain ⟨x, i1, h1, e1, p1⟩ := spec_l1Once.ok b i h 8 hb hi (by decide) (by decide)
    cases x with
    | false =>
      refine Tot.end (q, i1, h1) ⟨p1, hq⟩ (fun k => ?_)
      simp only [spec_l27Draw.j2, Bool.false_eq_true, ↓reduceIte, h0, e1, Option.bind_some]
    | true =>
      obtain ⟨z, i2, h2, e2, _, p2⟩ := spec_l1PickInt.ok b i1 h1 [0, 1, (-1), 32, 9223372036854775807] hb p1 (by decide) (by decide)
      have hl : (0 : Int) < (q.length : Int) := by omega
      refine Tot.end (q.set (0 : Int).toNat z, i2, h2) ⟨p2, by simp [hq]⟩ (fun k => ?_)
      simp only [spec_l27Draw.j2, Bool.false_eq_true, ↓reduceIte, h0, e1, e2, hl, Option.bind_some]
  · refine Tot.end (q, i, h) ⟨hi, hq⟩ (fun k => ?_)
    simp only [spec_l27Draw.j2, Bool.false_eq_true, ↓reduceIte, h0]
theorem spec_l27Draw.l1_ok (b : List Int) (hb : b.length ≤ 1048576) (n : Nat) (hn : n ≤ 5) : ∀ (y : Nat) (q : List Int) (i h : Int), y ≤ 100 → q.length = n → 0 ≤ i → Tot (fun k => spec_l27Draw.l1 k (n : Int) q (y : Int) b i h) (fun r => 0 ≤ r.2.1 ∧ r.1.length = n)
  | 0, q, i, h, _, hq, hi => by
    refine Tot.step (fun k => ?_) (spec_l27Draw.tail_ok b hb n q hq 0 i h hi)
    simp only [spec_l27Draw.l1]
    rw [if_neg (by decide)]; rfl
  | y + 1, q, i, h, hy, hq, hi => by
    by_cases h1 : (n : Int) > 1
    · obtain ⟨u, i1, h1', e1, u1, u2, p1⟩ := spec_l1Below.ok b i h (n : Int) hb hi (by omega) (by omega)
      obtain ⟨v, i2, h2', e2, v1, v2, p2⟩ := spec_l1Below.ok b i1 h1' (n : Int) hb p1 (by omega) (by omega)
      have ey : wrap64 (((y + 1 : Nat) : Int) - 1) = (y : Int) := by rw [w64 (by omega) (by omega)]; omega
      have hpos : ((y + 1 : Nat) : Int) > 0 := by omega
      have hu : u < (q.length : Int) := by omega
      have hv : v < (q.length : Int) := by omega
      have ih := spec_l27Draw.l1_ok b hb n hn y q i2 h2' (by omega) hq p2
      have ih2 := spec_l27Draw.l1_ok b hb n hn y (q.set u.toNat (Go.bits .xor .i64 (rd q u) (rd q v))) i2 h2' (by omega) (by simp [hq]) p2
      refine Tot.step (f := fun k => spec_l27Draw.j2 k (n : Int) q ((y + 1 : Nat) : Int) true b i h) (fun k => ?_) ?_
      · simp only [spec_l27Draw.l1]
        rw [if_pos hpos, decide_eq_true h1]
      · by_cases huv : u = v
        · refine Tot.step (fun k => ?_) ih
          simp only [spec_l27Draw.j2, ↓reduceIte, e1, e2, Option.bind_some]
          rw [if_pos huv, ey]
        · refine Tot.step (fun k => ?_) ih2
          simp only [spec_l27Draw.j2, ↓reduceIte, e1, e2, Option.bind_some]
          rw [if_neg huv, if_pos u1, if_pos hu, if_pos v1, if_pos hv, ey]
    · have hpos : ((y + 1 : Nat) : Int) > 0 := by omega
      refine Tot.step (fun k => ?_) (spec_l27Draw.tail_ok b hb n q hq ((y + 1 : Nat) : Int) i h hi)
      simp only [spec_l27Draw.l1]
      rw [if_pos hpos, decide_eq_false h1]
theorem spec_l27Draw.l0_ok (b : List Int) (hb : b.length ≤ 1048576) (n : Nat) (hn : n ≤ 5) (i h : Int) (hi : 0 ≤ i) : ∀ (d j : Nat) (q : List Int), j + d = n → q.length = j → Tot (fun k => spec_l27Draw.l0 k (n : Int) q (j : Int) b i h) (fun r => 0 ≤ r.2.1 ∧ r.1.length = n)
  | 0, j, q, hj, hq => by
    obtain ⟨y, i1, h1, e1, y1, y2, p1⟩ := spec_l1Below.ok b i h 6 hb hi (by decide) (by decide)
    obtain ⟨m, rfl⟩ := nat_of y1
    refine Tot.step (fun k => ?_) (spec_l27Draw.l1_ok b hb n hn m q i1 h1 (by omega) (by omega) p1)
    simp only [spec_l27Draw.l0]
    rw [if_neg (by omega), e1, Option.bind_some]
  | d + 1, j, q, hj, hq => by
    refine Tot.step (fun k => ?_) (spec_l27Draw.l0_ok b hb n hn i h hi d (j + 1) (q ++ [shl .i64 1 (j : Int)]) (by omega) (by simp [hq]))
    simp only [spec_l27Draw.l0]
    rw [if_pos (by omega), if_pos (by omega), if_pos (by omega)]
    congr 1
    rw [w64 (by omega) (by omega)]; omega
theorem spec_l27Draw.ok (b : List Int) (hb : b.length ≤ 1048576) (i h : Int) (hi : 0 ≤ i) {n : Nat} (hn : n ≤ 5) : Tot (fun k => spec_l27Draw.f k b i h (n : Int)) (fun r => 0 ≤ r.2.1 ∧ r.1.length = n) := by
  unfold spec_l27Draw.f
  exact spec_l27Draw.l0_ok b hb n hn i h hi n 0 [] (by omega) rfl
theorem spec_DrawAffineImage.ok (b : List Int) (hb : b.length ≤ 1048576) : Tot (fun k => spec_DrawAffineImage.f k b) (fun r => r.2.2.1.length ≤ 5) := by
  unfold spec_DrawAffineImage.f
  refine Tot.bind (spec_l1New.ok b hb) (fun r hr => ?_)
  obtain ⟨r1, r2, r3⟩ := r
  obtain ⟨rfl, rfl⟩ := hr
  refine Tot.bind (spec_l2Any.ok r1 hb 0 r3 (Int.le_refl 0)) (fun s hs => ?_)
  obtain ⟨n, hn, h5⟩ : ∃ n : Nat, mx 0 (YtodfifkgohjpfaaW.PrintWords.mn 5 s.1) = (n : Int) ∧ n ≤ 5 := ⟨(mx 0 (YtodfifkgohjpfaaW.PrintWords.mn 5 s.1)).toNat, by unfold mx YtodfifkgohjpfaaW.PrintWords.mn; split <;> split <;> omega, by unfold mx YtodfifkgohjpfaaW.PrintWords.mn; split <;> split <;> omega⟩
  rw [hn]
  refine Tot.bind (spec_l27Draw.ok r1 hb _ _ hs (n := n) h5) (fun t ht => ?_)
  obtain ⟨y, i2, h2, e2, _, _, y3⟩ := spec_l1Below.ok r1 t.2.1 t.2.2 9 hb ht.1 (by decide) (by decide)
  simp only [e2, Option.bind_some]
  exact Tot.now _ (by have := ht.2; show t.1.length ≤ 5; omega)
theorem impl_isBits.ev (a : Int) : impl_isBits.f a = some (decide (0 ≤ a ∧ a ≤ 5)) := by
  unfold impl_isBits.f
  by_cases h : 0 ≤ a
  · rw [if_pos h]; simp [h]
  · rw [if_neg h]; simp [h]
theorem impl_IsTable.ev (a b : Int) : impl_IsTable.f a b = some (isT a b) := by
  unfold impl_IsTable.f isT
  rw [impl_isBits.ev]
  by_cases h : 0 ≤ a ∧ a ≤ 5
  · obtain ⟨n, rfl⟩ := nat_of h.1
    have hn : n ≤ 5 := by omega
    simp only [Option.bind_some, h, and_self, decide_true, if_true]
    by_cases hb : b ≥ 0
    · obtain ⟨v, rfl⟩ := nat_of hb
      have h5 := pow_le_5 hn
      rw [if_pos hb]
      unfold impl_Table_size.f
      rw [if_pos (Int.natCast_nonneg n), shl_one (by omega)]
      simp only [Option.bind_some]
      rw [if_pos (Int.natCast_nonneg _), shr_nat (by omega)]
      congr 1
      rw [Bool.eq_iff_iff]
      simp only [beq_iff_eq, decide_eq_true_eq, Int.toNat_natCast]
      have hz : v / 2 ^ 2 ^ n = 0 ↔ v < 2 ^ 2 ^ n := Nat.div_eq_zero_iff_lt (Nat.two_pow_pos _)
      rw [show (((v / 2 ^ 2 ^ n : Nat) : Int) = 0 ↔ v / 2 ^ 2 ^ n = 0) from by omega, hz]
      obtain ⟨P, hP⟩ : ∃ P, P = 2 ^ 2 ^ n := ⟨_, rfl⟩
      rw [← hP]
      simp only [h, true_and]
      omega
    · rw [if_neg hb]
      congr 1
      symm
      apply decide_eq_false
      omega
  · have h' : ¬ (0 ≤ a ∧ a ≤ 5 ∧ 0 ≤ b ∧ b < ((2 ^ 2 ^ a.toNat : Nat) : Int)) := fun e => h ⟨e.1, e.2.1⟩
    simp only [h, h', decide_false, Option.bind_some, Bool.false_eq_true, if_false]
theorem impl_hasInput.ev (a b x : Int) : impl_hasInput.f a b x = some (isT a b && inR a.toNat x) := by
  unfold impl_hasInput.f
  rw [impl_IsTable.ev]
  cases h : isT a b with
  | false => rfl
  | true =>
    obtain ⟨n, v, rfl, rfl, hn, hv⟩ := isT_nat h
    rw [Option.bind_some, if_pos rfl]
    unfold impl_isInput.f inR
    rw [Int.toNat_natCast]
    by_cases hx : x ≥ 0
    · rw [if_pos hx, if_pos (Int.natCast_nonneg n), shl_one (by omega), Option.bind_some]
      congr 1
      rw [Bool.true_and]
      apply decide_eq_decide.mpr
      omega
    · rw [if_neg hx, Option.bind_some]
      congr 1; symm
      rw [Bool.true_and]
      apply decide_eq_false; omega
theorem spec_l1In.ev (a b c : Int) : spec_l1In.f a b c = some (decide (b ≤ a ∧ a ≤ c)) := by
  unfold spec_l1In.f
  by_cases h : b ≤ a
  · rw [if_pos h]; simp [h]
  · rw [if_neg h]; simp [h]
theorem spec_RankMod2.inner {l : List Int} {g : Nat → Nat} {n i : Nat} {bs : List Nat} (hbs : ∀ b ∈ bs, b < 32) (hlen : bs.length ≤ 5) (hi : i < 5) {c : Nat} (hc : c < 32) {r : Int}
    (he : Ev (fun k => spec_RankMod2.l0 k l (ints (if red bs c > 0 then bs ++ [red bs c] else bs)) ((i + 1 : Nat) : Int)) r) :
    ∀ d j, j + d = bs.length → Ev (fun k => spec_RankMod2.l1 k l (ints bs) (i : Int) ((red (bs.take j) c : Nat) : Int) (j : Int)) r := by
  refine Ev.count (fun k j => spec_RankMod2.l1 k l (ints bs) (i : Int) ((red (bs.take j) c : Nat) : Int) (j : Int)) bs.length r ?_ ?_
  · intro j hj h
    refine Ev.step (fun k => ?_) h
    have hm : bs.getD j 0 ∈ bs := by rw [List.getD_eq_getElem?_getD, List.getElem?_eq_getElem hj]; exact List.getElem_mem hj
    have h1 := hbs _ hm
    have h2 : red (bs.take j) c < 32 := red_lt (fun b hb => hbs b (List.mem_of_mem_take hb)) hc
    simp only [spec_RankMod2.l1]
    rw [if_pos (by rw [ints_length]; omega), if_pos (by omega), rd_ints, xor_nat (by omega) (by omega), mn_nat, up1 (by omega), take_more bs 0 hj, red_append]
  · refine Ev.step (fun k => ?_) he
    simp only [spec_RankMod2.l1]
    rw [if_neg (by rw [ints_length]; omega), List.take_length]
    by_cases hr : red bs c > 0
    · rw [if_pos (by omega), if_pos (by rw [ints_length]; omega), if_pos hr, up1 (by omega), ints_append]
    · rw [if_neg (by omega), if_neg hr, up1 (by omega)]
theorem spec_RankMod2.ev {l : List Int} {n : Nat} (hn : l.length = n) (h5 : n ≤ 5) (hl : ∀ j, j < n → cols l j < 32 ∧ l.getD j 0 = ((cols l j : Nat) : Int)) :
    Ev (fun k => spec_RankMod2.f k l) (((basis (cols l) n).length : Nat) : Int) := by
  subst hn
  have hb : ∀ i, i ≤ l.length → ∀ b ∈ basis (cols l) i, b < 32 := by
    intro i
    induction i with
    | zero => intro _ b hb; simp [basis] at hb
    | succ i ih =>
      intro hi b hb
      rw [basis] at hb
      have ih' := ih (by omega)
      split at hb
      · rcases List.mem_append.mp hb with h | h
        · exact ih' b h
        · rw [List.mem_singleton.mp h]; exact red_lt ih' (hl i (by omega)).1
      · exact ih' b hb
  have key : ∀ d i, i + d = l.length → Ev (fun k => spec_RankMod2.l0 k l (ints (basis (cols l) i)) (i : Int)) (((basis (cols l) l.length).length : Nat) : Int) := by
    refine Ev.count (fun k i => spec_RankMod2.l0 k l (ints (basis (cols l) i)) (i : Int)) l.length _ ?_ ?_
    · intro i hi h
      obtain ⟨h1, h2⟩ := hl i hi
      have hle := basis_le (cols l) i
      have hin := spec_RankMod2.inner (l := l) (g := cols l) (n := l.length) (i := i) (hb i (by omega)) (by omega) (by omega) h1 h _ 0 (Nat.zero_add _)
      refine Ev.step (f := fun k => spec_RankMod2.j1 k l (ints (basis (cols l) i)) (i : Int) (decide ((i : Int) > 31))) (fun k => ?_) (Ev.step (fun k => ?_) hin)
      · simp only [spec_RankMod2.l0]
        rw [if_pos (by omega), if_pos (by omega), spec_l1In.ev, rd_nat, h2, decide_eq_true (by omega)]
        simp only [Option.bind_some, if_true]
      · simp only [spec_RankMod2.j1]
        rw [decide_eq_false (by omega), if_neg (by decide), if_pos (by omega), if_pos (by omega), rd_nat, h2]; rfl
    · refine Ev.end (fun k => ?_)
      simp only [spec_RankMod2.l0]
      rw [if_neg (by omega), ints_length]
  exact key l.length 0 (by omega)
theorem spec_IsInvertible.ev (a : Int) (l : List Int) : Ev (fun k => spec_IsInvertible.f k a l) (invB a l) := by
  unfold invB
  by_cases hb : 0 ≤ a ∧ a ≤ 5
  · obtain ⟨n, rfl⟩ := nat_of hb.1
    have hn : n ≤ 5 := by omega
    have h32 := pow_le_5 hn
    have h1 := Nat.two_pow_pos n
    rw [decide_eq_true hb, Bool.true_and, Int.toNat_natCast]
    by_cases hl : (l.length : Int) = (n : Int)
    · have hln : l.length = n := by omega
      rw [decide_eq_true hl, Bool.true_and]
      have rest : Ev (fun k => spec_IsInvertible.l0 k (n : Int) l 0) (l.all (fun c => decide (0 ≤ c ∧ c < ((2 ^ n : Nat) : Int))) && indB (cols l) n) := by
        have rng : wrap64 (((2 ^ n : Nat) : Int) - 1) = ((2 ^ n : Nat) : Int) - 1 := w64 (by omega) (by omega)
        have step : ∀ i, i < n → ∀ q, decide (0 ≤ l.getD i 0 ∧ l.getD i 0 < ((2 ^ n : Nat) : Int)) = q → ∀ k, spec_IsInvertible.l0 (k + 1) (n : Int) l (i : Int) = if q = true then spec_IsInvertible.l0 k (n : Int) l ((i + 1 : Nat) : Int) else some false := by
          intro i hi q hq k
          simp only [spec_IsInvertible.l0]
          rw [if_pos (by omega), if_pos (by omega), if_pos (by omega), if_pos (by omega), shl_one (by omega), rng, spec_l1In.ev, rd_nat, up1 (by omega)]
          simp only [Option.bind_some]
          rw [← hq, show decide (0 ≤ l.getD i 0 ∧ l.getD i 0 ≤ ((2 ^ n : Nat) : Int) - 1) = decide (0 ≤ l.getD i 0 ∧ l.getD i 0 < ((2 ^ n : Nat) : Int)) from decide_eq_decide.mpr (by omega)]
        cases ha : l.all (fun c => decide (0 ≤ c ∧ c < ((2 ^ n : Nat) : Int))) with
        | true =>
          rw [Bool.true_and]
          have hc : ∀ j, j < n → cols l j < 32 ∧ l.getD j 0 = ((cols l j : Nat) : Int) := fun j hj => by
            obtain ⟨h2, h3⟩ := cols_of ha (show j < l.length by omega)
            exact ⟨by omega, h3⟩
          have e : indB (cols l) n = ((((basis (cols l) n).length : Nat) : Int) == (n : Int)) := by
            rw [Bool.eq_iff_iff, indB_iff, ← basis_iff (fun j hj => (hc j hj).1), beq_iff_eq]
            exact ⟨fun h => by rw [h], fun h => by exact_mod_cast h⟩
          rw [e]
          have key : ∀ d i, i + d = n → Ev (fun k => spec_IsInvertible.l0 k (n : Int) l (i : Int)) ((((basis (cols l) n).length : Nat) : Int) == (n : Int)) := by
            refine Ev.count (fun k i => spec_IsInvertible.l0 k (n : Int) l (i : Int)) n _ ?_ ?_
            · intro i hi h
              exact Ev.step (fun k => by rw [step i hi true (all_true_at ha (show i < l.length by omega)) k, if_pos rfl]) h
            · have hr := spec_RankMod2.ev hln hn hc
              generalize (((basis (cols l) n).length : Nat) : Int) = R at hr ⊢
              refine Ev.step (f := fun k => (spec_RankMod2.f k l).bind fun t => some (t == (n : Int))) (fun k => ?_) (Ev.bind hr (Ev.now _))
              simp only [spec_IsInvertible.l0]
              rw [if_neg (by omega)]
          exact key n 0 (by omega)
        | false =>
          rw [Bool.false_and]
          obtain ⟨j, hj, hf⟩ := all_false_at ha
          exact Ev.bad (fun k i => spec_IsInvertible.l0 k (n : Int) l (i : Int)) n false (fun i => decide (0 ≤ l.getD i 0 ∧ l.getD i 0 < ((2 ^ n : Nat) : Int)))
            (fun i hi h he => Ev.step (fun k => by rw [step i hi true h k, if_pos rfl]) he)
            (fun i hi h => Ev.end (fun k => by rw [step i hi false h k, if_neg (by decide)])) n 0 (by omega) ⟨j, by omega, by omega, hf⟩
      generalize (l.all (fun c => decide (0 ≤ c ∧ c < ((2 ^ n : Nat) : Int))) && indB (cols l) n) = R at rest ⊢
      refine Ev.congr (f := fun k => spec_IsInvertible.j0 k (n : Int) l ((l.length : Int) != (n : Int))) (fun k => ?_) (Ev.step (fun k => ?_) rest)
      · unfold spec_IsInvertible.f
        rw [spec_l1In.ev, decide_eq_true (by omega)]
        simp only [Option.bind_some, if_true]
      · simp only [spec_IsInvertible.j0]
        rw [if_neg (by simp [hl])]
    · rw [decide_eq_false hl, Bool.false_and]
      refine Ev.congr (f := fun k => spec_IsInvertible.j0 k (n : Int) l ((l.length : Int) != (n : Int))) (fun k => ?_) (Ev.end (fun k => ?_))
      · unfold spec_IsInvertible.f
        rw [spec_l1In.ev, decide_eq_true (by omega)]
        simp only [Option.bind_some, if_true]
      · simp only [spec_IsInvertible.j0]
        rw [if_pos (by simp; omega)]
  · rw [decide_eq_false hb, Bool.false_and]
    refine Ev.congr (f := fun k => spec_IsInvertible.j0 k a l true) (fun k => ?_) (Ev.end (fun k => ?_))
    · unfold spec_IsInvertible.f
      rw [spec_l1In.ev, decide_eq_false (by omega)]
      simp only [Option.bind_some, Bool.false_eq_true, if_false]
    · simp only [spec_IsInvertible.j0, if_true]
theorem spec_IsTable.ev (a b : Int) : spec_IsTable.f a b = some (isT a b) := by
  unfold spec_IsTable.f isT
  rw [spec_l1In.ev]
  by_cases h : 0 ≤ a ∧ a ≤ 5
  · obtain ⟨n, rfl⟩ := nat_of h.1
    have hn : n ≤ 5 := by omega
    simp only [Option.bind_some, h, and_self, decide_true, if_true]
    rw [full_word hn, spec_l1In.ev]
    simp only [Option.bind_some, Int.toNat_natCast, h, true_and]
    congr 1
    apply decide_eq_decide.mpr
    omega
  · have h' : ¬ (0 ≤ a ∧ a ≤ 5 ∧ 0 ≤ b ∧ b < ((2 ^ 2 ^ a.toNat : Nat) : Int)) := fun e => h ⟨e.1, e.2.1⟩
    simp only [h, h', decide_false, Option.bind_some, Bool.false_eq_true, if_false]
theorem spec_l27Apply.ev {l : List Int} {n x : Nat} (hn : l.length = n) (h5 : n ≤ 5) (hl : ∀ j, j < n → cols l j < 32 ∧ l.getD j 0 = ((cols l j : Nat) : Int)) (hx : x < 2 ^ 63) :
    Ev (fun k => spec_l27Apply.f k l (x : Int)) ((img (cols l) x n : Nat) : Int) := by
  subst hn
  have key : ∀ d i, i + d = l.length → Ev (fun k => spec_l27Apply.l0 k l (x : Int) ((img (cols l) x i : Nat) : Int) (i : Int)) ((img (cols l) x l.length : Nat) : Int) := by
    refine Ev.count (fun k i => spec_l27Apply.l0 k l (x : Int) ((img (cols l) x i : Nat) : Int) (i : Int)) l.length _ ?_ ?_
    · intro i hi h
      refine Ev.step (fun k => ?_) h
      obtain ⟨h1, h2⟩ := hl i hi
      have h3 : img (cols l) x i < 2 ^ 5 := img_lt x (fun j hj => (hl j (by omega)).1)
      simp only [spec_l27Apply.l0]
      rw [if_pos (by omega), if_pos (by omega), bit_nat hx (by omega), rd_nat, h2, up1 (by omega), xor_nat (by omega) (by omega)]
      rw [img]
      cases x.testBit i <;> simp
    · refine Ev.end (fun k => ?_)
      simp only [spec_l27Apply.l0]
      rw [if_neg (by omega)]
  exact key l.length 0 (by omega)
def spec_AffineImage.fine (a b : Int) (l : List Int) (s : Int) : Bool := isT a b && (invB a l && inR a.toNat s)
theorem spec_AffineImage.evF {a b : Int} {l : List Int} {s : Int} (h : spec_AffineImage.fine a b l s = false) : Ev (fun k => spec_AffineImage.f k a b l s) (0, 0, false) := by
  have hj : Ev (fun k => spec_AffineImage.j0 k l s true a b) (0, 0, false) := Ev.end (fun k => by simp only [spec_AffineImage.j0, if_true])
  unfold spec_AffineImage.fine at h
  cases ht : isT a b with
  | false =>
    refine Ev.congr (fun k => ?_) hj
    unfold spec_AffineImage.f
    rw [spec_IsTable.ev, ht]; rfl
  | true =>
    obtain ⟨n, v, rfl, rfl, hn, hv⟩ := isT_nat ht
    have hi := spec_IsInvertible.ev (n : Int) l
    rw [ht, Bool.true_and] at h
    have hp := pow_le_5 hn
    have hp1 := Nat.two_pow_pos n
    refine Ev.congr (f := fun k => (spec_IsInvertible.f k n l).bind fun t => if t = true then spec_AffineImage.j0 k l s (!(inR n s)) n v else spec_AffineImage.j0 k l s true n v) (fun k => ?_) (Ev.bind hi ?_)
    · unfold spec_AffineImage.f
      rw [spec_IsTable.ev, ht]
      simp only [Option.bind_some, if_true]
      congr 1; funext t
      rw [if_pos (Int.natCast_nonneg n), shl_one (by omega), w64 (by omega) (by omega), spec_l1In.ev]
      simp only [Option.bind_some]
      unfold inR
      rw [show decide (0 ≤ s ∧ s ≤ ((2 ^ n : Nat) : Int) - 1) = decide (0 ≤ s ∧ s < ((2 ^ n : Nat) : Int)) from decide_eq_decide.mpr (by omega)]
    · cases hv2 : invB (n : Int) l with
      | false => exact Ev.congr (fun k => if_neg (by decide)) hj
      | true =>
        rw [hv2, Bool.true_and, Int.toNat_natCast] at h
        refine Ev.congr (fun k => if_pos rfl) ?_
        rw [h]; exact hj
theorem spec_AffineImage.evT {n v s : Nat} {l : List Int} (hn : n ≤ 5) (hv : v < 2 ^ 2 ^ n) (hi : invB (n : Int) l = true) (hs : s < 2 ^ n) : Ev (fun k => spec_AffineImage.f k n v l s) ((n : Int), ((prefW (fun x => v.testBit (img (cols l) x n ^^^ s)) (2 ^ n) : Nat) : Int), true) := by
  obtain ⟨n', e, _, hl, hc, _⟩ := invB_open hi
  obtain rfl : n = n' := by omega
  have h32 := full_lt hn
  have hp := pow_le_5 hn
  have hp1 := Nat.two_pow_pos n
  have hI := spec_IsInvertible.ev (n : Int) l
  rw [hi] at hI
  have key : ∀ d x, x + d = 2 ^ n → Ev (fun k => spec_AffineImage.l0 k l s ((prefW (fun x => v.testBit (img (cols l) x n ^^^ s)) x : Nat) : Int) (x : Int) n v) ((n : Int), ((prefW (fun x => v.testBit (img (cols l) x n ^^^ s)) (2 ^ n) : Nat) : Int), true) := by
    refine Ev.count (fun k x => spec_AffineImage.l0 k l s ((prefW (fun x => v.testBit (img (cols l) x n ^^^ s)) x : Nat) : Int) (x : Int) n v) (2 ^ n) _ ?_ ?_
    · intro x hx h
      have h2 := spec_l27Apply.ev (x := x) hl hn (cols32 hn hc) (by omega)
      have h3 : img (cols l) x n < 2 ^ n := img_lt x (fun j hj => (hc j hj).1)
      have hy : img (cols l) x n ^^^ s < 2 ^ 5 := Nat.xor_lt_two_pow (by omega) (by omega)
      refine Ev.step (f := fun k => (spec_l27Apply.f k l (x : Int)).bind fun t => if 0 ≤ Go.bits .xor .i64 t (s : Int) then spec_AffineImage.l0 k l s (Go.bits .or .i64 ((prefW (fun x => v.testBit (img (cols l) x n ^^^ s)) x : Nat) : Int) (shl .i64 (Go.bits .and .i64 (shr .i64 (v : Int) (Go.bits .xor .i64 t (s : Int))) 1) (x : Int))) ((x + 1 : Nat) : Int) n v else none) (fun k => ?_) (Ev.bind h2 ?_)
      · simp only [spec_AffineImage.l0]
        rw [if_pos (Int.natCast_nonneg n), shl_one (by omega), if_pos (by omega)]
        congr 1; funext t
        rw [if_pos (Int.natCast_nonneg x), up1 (by omega)]
      · have ex : Go.bits .xor .i64 ((img (cols l) x n : Nat) : Int) (s : Int) = ((img (cols l) x n ^^^ s : Nat) : Int) := xor_nat (by omega) (by omega)
        have es := prefW_step (g := fun x => v.testBit (img (cols l) x n ^^^ s)) (x := x) (by omega)
        rw [ex]
        refine Ev.congr (fun k => if_pos (Int.natCast_nonneg _)) ?_
        rw [bit_nat (by omega) (by omega), es]
        exact h
    · refine Ev.end (fun k => ?_)
      simp only [spec_AffineImage.l0]
      rw [if_pos (Int.natCast_nonneg n), shl_one (by omega), if_neg (by omega)]
  refine Ev.congr (f := fun k => (spec_IsInvertible.f k n l).bind fun t => if t = true then spec_AffineImage.j0 k l s false n v else spec_AffineImage.j0 k l s true n v) (fun k => ?_) (Ev.bind hI (Ev.congr (fun k => if_pos rfl) (Ev.step (fun k => ?_) (key (2 ^ n) 0 (by omega)))))
  · unfold spec_AffineImage.f
    rw [spec_IsTable.ev, isT_mk hn hv]
    simp only [Option.bind_some, if_true]
    congr 1; funext t
    rw [if_pos (Int.natCast_nonneg n), shl_one (by omega), w64 (by omega) (by omega), spec_l1In.ev, decide_eq_true (by omega)]
    rfl
  · simp only [spec_AffineImage.j0]
    rw [if_neg (by decide)]; rfl
theorem impl_InverseMap.evF {a : Int} {l : List Int} (h : invB a l = false) : Ev (fun k => impl_InverseMap.f k a l) ([], false) := by
  have h1 : impl_IsInvertible.f a l = some (invB a l) := rfl
  refine Ev.since (0) fun k hk => ?_
  simp only [impl_InverseMap.f, h1, Option.bind_some, h, Bool.false_eq_true, if_false]
theorem impl_InverseMap.evT {n : Nat} {l : List Int} (h : invB (n : Int) l = true) {p : Nat → Nat} (hp : ∀ i, i < n → p i < 2 ^ n ∧ img (cols l) (p i) n = 2 ^ i) : Ev (fun k => impl_InverseMap.f k (n : Int) l) (ints ((List.range n).map p), true) := by
  obtain ⟨n', e, hn, hl, hc, hind⟩ := invB_open h
  obtain rfl : n = n' := by omega
  have h5 := pow_le_5 hn
  have h0 := Nat.two_pow_pos n
  have h1 : impl_IsInvertible.f (n : Int) l = some (invB (n : Int) l) := rfl
  have inner : ∀ x, x < 2 ^ n → ∀ r, Ev (fun k => impl_InverseMap.l0 k (n : Int) l (ints ((List.range n).map (fun j => if p j < x + 1 then p j else 0))) ((2 ^ n : Nat) : Int) ((x + 1 : Nat) : Int)) r →
      ∀ d i, i + d = n → Ev (fun k => impl_InverseMap.l1 k (n : Int) l (ints ((List.range n).map (fun j => if p j < x ∨ (p j = x ∧ j < i) then p j else 0))) (x : Int) ((2 ^ n : Nat) : Int) (x : Int) (n : Int) (i : Int)) r := by
    intro x hx r he
    refine Ev.count (fun k i => impl_InverseMap.l1 k (n : Int) l (ints ((List.range n).map (fun j => if p j < x ∨ (p j = x ∧ j < i) then p j else 0))) (x : Int) ((2 ^ n : Nat) : Int) (x : Int) (n : Int) (i : Int)) n r ?_ ?_
    · intro i hi hn'
      obtain ⟨p1, p2⟩ := hp i hi
      have h2 := impl_IsInvertible.image_ev (x := x) hl hn (cols32 hn hc) (by omega)
      refine Ev.step (f := fun k => (impl_image.f k l (x : Int)).bind fun t => if t = ((2 ^ i : Nat) : Int) then impl_InverseMap.l1 k (n : Int) l ((ints ((List.range n).map (fun j => if p j < x ∨ (p j = x ∧ j < i) then p j else 0))).set i (x : Int)) (x : Int) ((2 ^ n : Nat) : Int) (x : Int) (n : Int) ((i + 1 : Nat) : Int) else impl_InverseMap.l1 k (n : Int) l (ints ((List.range n).map (fun j => if p j < x ∨ (p j = x ∧ j < i) then p j else 0))) (x : Int) ((2 ^ n : Nat) : Int) (x : Int) (n : Int) ((i + 1 : Nat) : Int)) (fun k => ?_) (Ev.bind h2 ?_)
      · have hlen : (i : Int) < ((ints ((List.range n).map (fun j => if p j < x ∨ (p j = x ∧ j < i) then p j else 0))).length : Int) := by rw [ints_range_length]; omega
        simp only [impl_InverseMap.l1]
        rw [if_pos (by omega)]
        congr 1; funext t
        rw [if_pos (by omega), shl_one (by omega), if_pos hlen, up1 (by omega), Int.toNat_natCast]
      · by_cases hx2 : img (cols l) x n = 2 ^ i
        · have ex : p i = x := hind.inj p1 hx (by rw [p2, hx2])
          refine Ev.congr (fun k => if_pos (by rw [hx2])) ?_
          rw [range_set (f' := fun j => if p j < x ∨ (p j = x ∧ j < i + 1) then p j else 0) hi (by rw [if_pos (by omega)]; exact ex) (fun j hj hne => by
            by_cases h3 : p j < x ∨ (p j = x ∧ j < i)
            · rw [if_pos h3, if_pos (by omega)]
            · rw [if_neg h3, if_neg (by omega)])]
          exact hn'
        · have ex : p i ≠ x := fun e => hx2 (by rw [← e, p2])
          refine Ev.congr (fun k => if_neg (fun e => hx2 (by exact_mod_cast e))) ?_
          rw [range_congr (f' := fun j => if p j < x ∨ (p j = x ∧ j < i + 1) then p j else 0) (fun j hj => by
            by_cases h3 : p j < x ∨ (p j = x ∧ j < i)
            · rw [if_pos h3, if_pos (by omega)]
            · rw [if_neg h3, if_neg (by
                rintro (h4 | ⟨h4, h5⟩)
                · exact h3 (.inl h4)
                · by_cases e : j = i
                  · subst e; exact ex h4
                  · exact h3 (.inr ⟨h4, by omega⟩))])]
          exact hn'
    · refine Ev.step (fun k => ?_) he
      simp only [impl_InverseMap.l1]
      rw [if_neg (by omega), up1 (by omega)]
      rw [range_congr (f' := fun j => if p j < x + 1 then p j else 0) (fun j hj => by
            by_cases h3 : p j < x + 1
            · rw [if_pos h3, if_pos (by omega)]
            · rw [if_neg h3, if_neg (by omega)])]
  have key : ∀ d x, x + d = 2 ^ n → Ev (fun k => impl_InverseMap.l0 k (n : Int) l (ints ((List.range n).map (fun j => if p j < x then p j else 0))) ((2 ^ n : Nat) : Int) (x : Int)) (ints ((List.range n).map p), true) := by
    refine Ev.count (fun k x => impl_InverseMap.l0 k (n : Int) l (ints ((List.range n).map (fun j => if p j < x then p j else 0))) ((2 ^ n : Nat) : Int) (x : Int)) (2 ^ n) _ ?_ ?_
    · intro x hx hn'
      have := inner x hx _ hn' n 0 (by omega)
      refine Ev.step (fun k => ?_) this
      simp only [impl_InverseMap.l0]
      rw [if_pos (by omega)]
      rw [range_congr (f' := fun j => if p j < x ∨ (p j = x ∧ j < 0) then p j else 0) (fun j hj => by
            by_cases h3 : p j < x
            · rw [if_pos h3, if_pos (by omega)]
            · rw [if_neg h3, if_neg (by omega)])]
      rfl
    · refine Ev.end (fun k => ?_)
      simp only [impl_InverseMap.l0]
      rw [if_neg (by omega), range_congr (f' := p) (fun j hj => by rw [if_pos (hp j hj).1])]
  obtain ⟨K2, h2⟩ := key (2 ^ n) 0 (by omega)
  refine Ev.since (K2) fun k hk => ?_
  have h3 := h2 k (by omega)
  simp only [] at h3
  rw [range_zero (fun j hj => by rw [if_neg (by omega)])] at h3
  simp only [impl_InverseMap.f, h1, Option.bind_some, h, if_true]
  rw [if_pos (Int.natCast_nonneg n), if_pos (by rw [Int.toNat_natCast]; omega), Int.toNat_natCast, shl_one (by omega)]
  exact h3
theorem bits_OnesCount64.ev {w : Nat} (h : w < 2 ^ 32) : bits_OnesCount64.f w = some ((pc w : Nat) : Int) := by
  unfold bits_OnesCount64.f
  rw [sA_eq h, sB_eq (sA_lt h), sC_eq (sB_lt (sA_lt h))]
  exact congrArg some (swar_end h rfl _ rfl)
theorem impl_ones.ev {w : Nat} (h : w < 2 ^ 32) : impl_ones.f w = some ((pc w : Nat) : Int) := by
  unfold impl_ones.f
  rw [u64n (by omega), bits_OnesCount64.ev h]; rfl
theorem impl_DegreeMod2.most_eq (c : Nat → Bool) : ∀ m, impl_degree.most c m = dgr c m
  | 0 => rfl
  | m + 1 => by rw [impl_degree.most, dgr, impl_DegreeMod2.most_eq c m]
theorem impl_DegreeMod2.ev {n v : Nat} (hn : n ≤ 5) (hv : v < 2 ^ 2 ^ n) : impl_DegreeMod2.f (n : Int) (v : Int) = some (degW n v) := by
  unfold impl_DegreeMod2.f
  rw [impl_IsTable.ev, Option.bind_some, if_pos (isT_mk hn hv), if_pos (isT_mk hn hv), impl_DegreeMod2.most_eq, Int.toNat_natCast, Int.toNat_natCast]
  rfl
theorem impl_sign.ev {m : Nat} (h : m ≤ 1000) : impl_sign.f m = some (sgn m) := by
  unfold impl_sign.f
  have e1 : Go.bits .and .i64 (m : Int) 1 = ((m % 2 : Nat) : Int) := by
    rw [← Nat.and_one_is_mod]; exact and_nat (b := 1) (by omega) (by decide)
  rw [e1]
  have h2 : m % 2 < 2 := Nat.mod_lt _ (by decide)
  obtain ⟨q, hq⟩ : ∃ q, q = m % 2 := ⟨_, rfl⟩
  unfold sgn
  rw [← hq] at h2 ⊢
  rw [w64 (x := 2 * (q : Int)) (by omega) (by omega), w64 (by omega) (by omega)]
  obtain rfl | rfl : q = 0 ∨ q = 1 := by omega
  · rfl
  · rfl
theorem impl_Table_spectrum.ev {n v : Nat} (hn : n ≤ 5) (hv : v < 2 ^ 2 ^ n) : Ev (fun k => impl_Table_spectrum.f k n v) (listZ (2 ^ n) (spZ n v)) := by
  have h32 := full_lt hn
  have h5 := pow_le_5 hn
  have hsz : impl_Table_size.f (n : Int) (v : Int) = some ((2 ^ n : Nat) : Int) := by
    unfold impl_Table_size.f
    rw [if_pos (Int.natCast_nonneg n), shl_one (by omega)]
  have inner : ∀ u, u < 2 ^ n → ∀ (r : List Int), Ev (fun k => impl_Table_spectrum.l0 k (listZ (2 ^ n) (fun j => if j < u + 1 then spZ n v j else 0)) ((2 ^ n : Nat) : Int) ((u + 1 : Nat) : Int) n v) r →
      ∀ d x, x + d = 2 ^ n → Ev (fun k => impl_Table_spectrum.l1 k (listZ (2 ^ n) (fun j => if j < u then spZ n v j else if j = u then sumZ (spT v u) x else 0)) (u : Int) ((2 ^ n : Nat) : Int) (u : Int) ((2 ^ n : Nat) : Int) (x : Int) n v) r := by
    intro u hu r he
    refine Ev.count (fun k x => impl_Table_spectrum.l1 k (listZ (2 ^ n) (fun j => if j < u then spZ n v j else if j = u then sumZ (spT v u) x else 0)) (u : Int) ((2 ^ n : Nat) : Int) (u : Int) ((2 ^ n : Nat) : Int) (x : Int) n v) (2 ^ n) r ?_ ?_
    · intro x hx h
      have hb := sum_bound v u x
      have hs := sgn_bound ((v.testBit x).toNat + pc (u &&& x))
      have hpc := pc_le (u &&& x)
      have htn := toNat_le (v.testBit x)
      refine Ev.step (fun k => ?_) h
      simp only [impl_Table_spectrum.l1]
      unfold impl_Table_at.f
      rw [if_pos (by omega), if_pos (by omega), if_pos (by rw [listZ_length]; omega), if_pos (Int.natCast_nonneg x), bit_nat (by omega) (by omega), Option.bind_some, and_nat (by omega) (by omega), impl_ones.ev (Nat.lt_of_le_of_lt Nat.and_le_left (by omega)), Option.bind_some,
        w64 (by omega) (by omega), show (((v.testBit x).toNat : Nat) : Int) + ((pc (u &&& x) : Nat) : Int) = (((v.testBit x).toNat + pc (u &&& x) : Nat) : Int) from by omega, impl_sign.ev (by omega), Option.bind_some, listZ_rd hu, if_neg (by omega), if_pos rfl, up1 (by omega), Int.toNat_natCast]
      rw [listZ_set (f' := fun j => if j < u then spZ n v j else if j = u then sumZ (spT v u) (x + 1) else 0) hu (by
        rw [if_neg (by omega), if_pos rfl, w64 (by omega) (by omega)]; rfl) (fun j hj hne => by
        by_cases h1 : j < u
        · rw [if_pos h1, if_pos h1]
        · rw [if_neg h1, if_neg h1, if_neg hne, if_neg hne])]
    · refine Ev.step (fun k => ?_) he
      simp only [impl_Table_spectrum.l1]
      rw [if_neg (by omega), up1 (by omega)]
      rw [listZ_congr (f' := fun j => if j < u + 1 then spZ n v j else 0) (fun j hj => by
        by_cases h1 : j < u
        · rw [if_pos h1, if_pos (by omega)]
        · rw [if_neg h1]
          by_cases h2 : j = u
          · rw [if_pos h2, if_pos (by omega), h2]; rfl
          · rw [if_neg h2, if_neg (by omega)])]
  have key : ∀ d u, u + d = 2 ^ n → Ev (fun k => impl_Table_spectrum.l0 k (listZ (2 ^ n) (fun j => if j < u then spZ n v j else 0)) ((2 ^ n : Nat) : Int) (u : Int) n v) (listZ (2 ^ n) (spZ n v)) := by
    refine Ev.count (fun k u => impl_Table_spectrum.l0 k (listZ (2 ^ n) (fun j => if j < u then spZ n v j else 0)) ((2 ^ n : Nat) : Int) (u : Int) n v) (2 ^ n) _ ?_ ?_
    · intro u hu h
      refine Ev.step (fun k => ?_) (inner u hu _ h (2 ^ n) 0 (by omega))
      simp only [impl_Table_spectrum.l0]
      rw [if_pos (by omega), hsz, Option.bind_some]
      rw [listZ_congr (f' := fun j => if j < u then spZ n v j else if j = u then sumZ (spT v u) 0 else 0) (fun j hj => by
        by_cases h1 : j < u
        · rw [if_pos h1, if_pos h1]
        · rw [if_neg h1, if_neg h1]
          by_cases h2 : j = u
          · rw [if_pos h2]; rfl
          · rw [if_neg h2])]
      rfl
    · refine Ev.end (fun k => ?_)
      simp only [impl_Table_spectrum.l0]
      rw [if_neg (by omega), listZ_congr (f' := spZ n v) (fun j hj => by rw [if_pos hj])]
  have h0 := key (2 ^ n) 0 (by omega)
  rw [listZ_zero (f := fun j => if j < 0 then spZ n v j else 0) (fun j _ => by rw [if_neg (by omega)])] at h0
  refine Ev.congr (fun k => ?_) h0
  unfold impl_Table_spectrum.f
  rw [hsz, Option.bind_some, if_pos (Int.natCast_nonneg _), if_pos (by rw [Int.toNat_natCast]; omega), Int.toNat_natCast, Option.bind_some, List.length_replicate]; rfl
theorem impl_SpectrumProfile.evF {a b : Int} (ht : isT a b = false) : Ev (fun k => impl_SpectrumProfile.f k a b) [] := by
  refine Ev.of_some (fun k => ?_)
  unfold impl_SpectrumProfile.f
  rw [impl_IsTable.ev, ht]; rfl
theorem impl_SpectrumProfile.evT {n v : Nat} (hn : n ≤ 5) (hv : v < 2 ^ 2 ^ n) : Ev (fun k => impl_SpectrumProfile.f k n v) (listZ (2 ^ n + 1) (fun j => ((sizesN (spZ n v) (2 ^ n) j : Nat) : Int))) := by
  have h5 := pow_le_5 hn
  have h1 := Nat.two_pow_pos n
  have hs := impl_Table_spectrum.ev hn hv
  have hb := spZ_bound hn v
  have hsz : impl_Table_size.f (n : Int) (v : Int) = some ((2 ^ n : Nat) : Int) := by
    unfold impl_Table_size.f
    rw [if_pos (Int.natCast_nonneg n), shl_one (by omega)]
  have key : ∀ d i, i + d = 2 ^ n → Ev (fun k => impl_SpectrumProfile.l0 k (listZ (2 ^ n + 1) (fun j => ((sizesN (spZ n v) i j : Nat) : Int))) (listZ (2 ^ n) (spZ n v)) ((2 ^ n : Nat) : Int) (i : Int)) (listZ (2 ^ n + 1) (fun j => ((sizesN (spZ n v) (2 ^ n) j : Nat) : Int))) := by
    refine Ev.count (fun k i => impl_SpectrumProfile.l0 k (listZ (2 ^ n + 1) (fun j => ((sizesN (spZ n v) i j : Nat) : Int))) (listZ (2 ^ n) (spZ n v)) ((2 ^ n : Nat) : Int) (i : Int)) (2 ^ n) _ ?_ ?_
    · intro i hi h
      have hbi := hb i
      have hle := sizesN_le (spZ n v) i (spZ n v i).natAbs
      have hm := mx_abs (a := spZ n v i) (by omega) (by omega)
      refine Ev.step (fun k => ?_) h
      simp only [impl_SpectrumProfile.l0]
      unfold impl_size1.f
      rw [listZ_rd hi, hm, Option.bind_some, if_pos (by omega), if_pos (by omega), if_pos (by rw [listZ_length]; omega), if_pos (by omega), if_pos (by rw [listZ_length]; omega), listZ_rd (by omega), Int.toNat_natCast, w64 (x := ((sizesN (spZ n v) i (spZ n v i).natAbs : Nat) : Int) + 1) (by omega) (by omega), prof_step (by omega), up1 (by omega)]
    · refine Ev.end (fun k => ?_)
      simp only [impl_SpectrumProfile.l0]
      rw [if_neg (by omega)]
  have h0 := key (2 ^ n) 0 (by omega)
  rw [listZ_zero (f := fun j => ((sizesN (spZ n v) 0 j : Nat) : Int)) (fun j _ => rfl)] at h0
  refine Ev.congr (f := fun k => (impl_Table_spectrum.f k n v).bind fun t => impl_SpectrumProfile.l0 k (List.replicate (2 ^ n + 1) 0) t (t.length : Int) 0) (fun k => ?_) (Ev.bind hs ?_)
  · unfold impl_SpectrumProfile.f
    rw [impl_IsTable.ev, isT_mk hn hv, Option.bind_some, if_pos rfl, hsz, Option.bind_some, up1 (by omega), if_pos (by omega), if_pos (by rw [Int.toNat_natCast]; omega), Int.toNat_natCast]
  · rw [listZ_length]; exact h0
theorem impl_IsBent.flat_eq {w : Nat → Int} {N : Nat} (hN : 0 < N) (h : ∀ i, i < N → -1000 ≤ w i ∧ w i ≤ 1000) : impl_IsBent.flat (listZ N w) = flatB N w := by
  have h0 : (listZ N w).getD 0 0 = w 0 := by rw [← rd_nat (listZ N w) 0, listZ_rd hN]
  have b0 := h 0 hN
  have e0 := mx_abs b0.1 b0.2
  unfold impl_IsBent.flat
  rw [h0, e0, Bool.eq_iff_iff, Bool.not_eq_true', List.any_eq_false]
  unfold flatB
  rw [allB_iff]
  constructor
  · intro hh i hi
    have hm : w i ∈ listZ N w := List.mem_map.mpr ⟨i, List.mem_range.mpr hi, rfl⟩
    have := hh (w i) hm
    have bi := h i hi
    rw [mx_abs bi.1 bi.2] at this
    refine decide_eq_true ?_
    simp at this
    omega
  · intro hh x hx
    obtain ⟨i, hi, rfl⟩ := List.mem_map.mp hx
    have hi := List.mem_range.mp hi
    have bi := h i hi
    have := of_decide_eq_true (hh i hi)
    rw [mx_abs bi.1 bi.2, this]
    simp
theorem impl_IsBent.ev {n v : Nat} (hn : n ≤ 5) (hv : v < 2 ^ 2 ^ n) : Ev (fun k => impl_IsBent.f k (n : Int) (v : Int)) (decide (n = 2 ∨ n = 4) && flatB (2 ^ n) (spZ n v)) := by
  have h32 := pow_le_5 hn
  have hb := fun u => spZ_bound hn v u
  unfold impl_IsBent.f
  refine Ev.bind (Ev.const (impl_IsTable.ev _ _)) ?_
  by_cases h : n = 2 ∨ n = 4
  · refine Ev.congr (fun k => if_pos ⟨isT_mk hn hv, by omega⟩) ?_
    refine Ev.bind (impl_Table_spectrum.ev hn hv) ?_
    refine Ev.congr (fun k => if_pos (by rw [listZ_length]; exact Nat.two_pow_pos n)) ?_
    rw [impl_IsBent.flat_eq (Nat.two_pow_pos n) (fun i _ => by have := hb i; omega), decide_eq_true h, Bool.true_and]
    exact Ev.now _
  · refine Ev.congr (fun k => if_neg (fun e => h (by have := e.2; omega))) ?_
    rw [decide_eq_false h, Bool.false_and]
    exact Ev.now _
theorem impl_Nonlinearity.peak_ev {w : Nat → Int} {N : Nat} (hN : N ≤ 1000) (h : ∀ i, i < N → (w i).natAbs ≤ 1000) : Ev (fun k => impl_peak.f k (listZ N w)) ((peakN w N : Nat) : Int) := by
  have hl : (listZ N w).length = N := listZ_length N w
  have key : ∀ d i, i + d = N → Ev (fun k => impl_peak.l0 k ((peakN w i : Nat) : Int) (listZ N w) (N : Int) (i : Int)) ((peakN w N : Nat) : Int) := by
    refine Ev.count (fun k i => impl_peak.l0 k ((peakN w i : Nat) : Int) (listZ N w) (N : Int) (i : Int)) N _ (fun i hi hnext => ?_) (Ev.end (fun k => by simp only [impl_peak.l0]; rw [if_neg (by omega)]))
    refine Ev.step (fun k => ?_) hnext
    have hb := h i hi
    have c1 : (i : Int) < (N : Int) := by omega
    have c2 : (0 : Int) ≤ (i : Int) := by omega
    have c3 : (i : Int) < ((listZ N w).length : Int) := by rw [hl]; exact c1
    have e : impl_size1.f (w i) = some (((w i).natAbs : Nat) : Int) := by unfold impl_size1.f; rw [mx_abs (by omega) (by omega)]
    simp only [impl_peak.l0]
    rw [if_pos c1, if_pos c2, if_pos c3, listZ_rd hi, e, Option.bind_some, mx_nat, up1 (by omega)]
    rfl
  unfold impl_peak.f
  rw [hl]
  exact key N 0 (by omega)
theorem impl_Nonlinearity.ev {n v : Nat} (hn : n ≤ 5) (hv : v < 2 ^ 2 ^ n) : Ev (fun k => impl_Nonlinearity.f k (n : Int) (v : Int)) (wrap64 (Int.tdiv (wrap64 (((2 ^ n : Nat) : Int) - ((peakN (spZ n v) (2 ^ n) : Nat) : Int))) 2)) := by
  have h32 := pow_le_5 hn
  have hb := fun u => spZ_bound hn v u
  unfold impl_Nonlinearity.f
  refine Ev.bind (Ev.const (impl_IsTable.ev _ _)) ?_
  refine Ev.congr (fun k => if_pos (isT_mk hn hv)) ?_
  refine Ev.bind (Ev.const (r := ((2 ^ n : Nat) : Int)) (by unfold impl_Table_size.f; rw [if_pos (Int.natCast_nonneg n), shl_one (by omega)])) ?_
  refine Ev.bind (impl_Table_spectrum.ev hn hv) ?_
  refine Ev.bind (impl_Nonlinearity.peak_ev (by omega) (fun i _ => by have := hb i; omega)) ?_
  exact Ev.now _
theorem impl_TestRejects.at_bit {n v y : Nat} (hv : v < 2 ^ 63) (hy : y ≤ 63) : impl_Table_at.f (n : Int) (v : Int) (y : Int) = some (((v.testBit y).toNat : Nat) : Int) := by
  unfold impl_Table_at.f
  rw [if_pos (Int.natCast_nonneg y), bit_nat hv (by omega)]
theorem impl_TestRejects.rej_int (a b c : Bool) : Go.bits .xor .i64 (Go.bits .xor .i64 ((a.toNat : Nat) : Int) ((b.toNat : Nat) : Int)) ((c.toNat : Nat) : Int) = ((((a ^^ b) ^^ c).toNat : Nat) : Int) := by
  cases a <;> cases b <;> cases c <;> rfl
theorem impl_TestRejects.bnd (f : Nat → Bool) : ∀ m, 0 ≤ sumZ (fun y => ((f y).toNat : Int)) m ∧ sumZ (fun y => ((f y).toNat : Int)) m ≤ (m : Int)
  | 0 => by simp [sumZ]
  | m + 1 => by
    have h := impl_TestRejects.bnd f m
    have : (f m).toNat ≤ 1 := toNat_le _
    rw [sumZ]; omega
theorem impl_TestRejects.bnd2 (f : Nat → Nat → Bool) (N : Nat) (hN : N ≤ 32) : ∀ m, 0 ≤ sumZ (fun x => sumZ (fun y => ((f x y).toNat : Int)) N) m ∧ sumZ (fun x => sumZ (fun y => ((f x y).toNat : Int)) N) m ≤ 32 * (m : Int)
  | 0 => by simp [sumZ]
  | m + 1 => by
    have h := impl_TestRejects.bnd2 f N hN m
    have h2 := impl_TestRejects.bnd (f m) N
    rw [sumZ]; omega
theorem impl_TestRejects.ev {n v : Nat} (hn : n ≤ 5) (hv : v < 2 ^ 2 ^ n) : Ev (fun k => impl_TestRejects.f k (n : Int) (v : Int)) (rejZ n v) := by
  have h32 := pow_le_5 hn
  have h63 : v < 2 ^ 63 := Nat.lt_trans hv (full_p63 hn)
  have hsz : impl_Table_size.f (n : Int) (v : Int) = some (((2 ^ n : Nat) : Nat) : Int) := by
    unfold impl_Table_size.f
    rw [if_pos (Int.natCast_nonneg n), shl_one (by omega)]
  have hrej : rejZ n v = sumZ (fun x => sumZ (fun y => ((rejB v x y).toNat : Int)) (2 ^ n)) (2 ^ n) := rfl
  have hflip : ∀ x y, x < 2 ^ n → y < 2 ^ n → x ^^^ y < 2 ^ n := fun x y hx hy => Nat.xor_lt_two_pow hx hy
  unfold impl_TestRejects.f
  refine Ev.bind (Ev.const (impl_IsTable.ev _ _)) ?_
  refine Ev.congr (fun k => if_pos (isT_mk hn hv)) ?_
  refine Ev.bind (Ev.const hsz) ?_
  rw [hrej]
  generalize 2 ^ n = N at *
  clear hrej
  have key : ∀ d x, x + d = N → Ev (fun k => impl_TestRejects.l0 k (sumZ (fun x => sumZ (fun y => ((rejB v x y).toNat : Int)) N) x) (N : Int) (x : Int) (n : Int) (v : Int)) (sumZ (fun x => sumZ (fun y => ((rejB v x y).toNat : Int)) N) N) := by
    refine Ev.count (fun k x => impl_TestRejects.l0 k (sumZ (fun x => sumZ (fun y => ((rejB v x y).toNat : Int)) N) x) (N : Int) (x : Int) (n : Int) (v : Int)) N _ (fun x hx hnext => ?_) (Ev.end (fun k => by simp only [impl_TestRejects.l0]; rw [if_neg (by omega)]))
    have hb := impl_TestRejects.bnd2 (rejB v) N h32 x
    have hst : sumZ (fun x => sumZ (fun y => ((rejB v x y).toNat : Int)) N) (x + 1) = sumZ (fun x => sumZ (fun y => ((rejB v x y).toNat : Int)) N) x + sumZ (fun y => ((rejB v x y).toNat : Int)) N := rfl
    rw [hst] at hnext
    generalize sumZ (fun x => sumZ (fun y => ((rejB v x y).toNat : Int)) N) x = S at *
    have hxn : (x : Int) < (N : Int) := by omega
    have inner : ∀ d y, y + d = N → Ev (fun k => impl_TestRejects.l1 k (S + sumZ (fun y => ((rejB v x y).toNat : Int)) y) (x : Int) (N : Int) (x : Int) (N : Int) (y : Int) (n : Int) (v : Int)) (sumZ (fun x => sumZ (fun y => ((rejB v x y).toNat : Int)) N) N) := by
      refine Ev.count (fun k y => impl_TestRejects.l1 k (S + sumZ (fun y => ((rejB v x y).toNat : Int)) y) (x : Int) (N : Int) (x : Int) (N : Int) (y : Int) (n : Int) (v : Int)) N _ (fun y hy h2 => ?_) ?_
      · refine Ev.step (fun k => ?_) h2
        have hb2 := impl_TestRejects.bnd (rejB v x) y
        have hyn : (y : Int) < (N : Int) := by omega
        have hxy := hflip x y hx hy
        have ex : Go.bits .xor .i64 (x : Int) (y : Int) = ((x ^^^ y : Nat) : Int) := xor_nat (by omega) (by omega)
        have hs2 : sumZ (fun y => ((rejB v x y).toNat : Int)) (y + 1) = sumZ (fun y => ((rejB v x y).toNat : Int)) y + ((rejB v x y).toNat : Int) := rfl
        have hr1 : (rejB v x y).toNat ≤ 1 := toNat_le _
        have hrej : Go.bits .xor .i64 (Go.bits .xor .i64 (((v.testBit x).toNat : Nat) : Int) (((v.testBit y).toNat : Nat) : Int)) (((v.testBit (x ^^^ y)).toNat : Nat) : Int) = ((rejB v x y).toNat : Int) := impl_TestRejects.rej_int _ _ _
        simp only [impl_TestRejects.l1]
        rw [if_pos hyn, impl_TestRejects.at_bit h63 (by omega), Option.bind_some, impl_TestRejects.at_bit h63 (by omega), Option.bind_some, ex, impl_TestRejects.at_bit h63 (by omega), Option.bind_some, hrej, hs2]
        generalize sumZ (fun y => ((rejB v x y).toNat : Int)) y = T at *
        generalize (rejB v x y).toNat = t at *
        clear ex hrej hs2
        rw [up1 (by omega), w64 (by omega) (by omega), Int.add_assoc]
      · refine Ev.step (fun k => ?_) hnext
        simp only [impl_TestRejects.l1]
        rw [if_neg (by omega), up1 (by omega)]
    have h0 := inner N 0 (by omega)
    refine Ev.step (fun k => ?_) h0
    simp only [impl_TestRejects.l0]
    rw [if_pos hxn, hsz, Option.bind_some]
    simp [sumZ]
  exact key N 0 (by omega)
theorem impl_MapInput.ev (a : Int) (l : List Int) (s x : Int) : Ev (fun k => impl_MapInput.f k a l s x) (mapI a l s x) := by
  unfold mapI
  have h1 : impl_IsInvertible.f a l = some (invB a l) := rfl
  cases hi : invB a l with
  | false =>
    rw [hi] at h1
    refine Ev.since (0) fun k hk => ?_
    simp only [impl_MapInput.f, h1, Option.bind_some, Bool.false_eq_true, if_false, Bool.false_and]
  | true =>
    rw [hi] at h1
    obtain ⟨n, rfl, hn, hl, hc, _⟩ := invB_open hi
    have hp := pow_le_5 hn
    have hp1 := Nat.two_pow_pos n
    have e : ∀ y : Int, impl_isInput.f (n : Int) y = some (inR n y) := fun y => impl_IsInvertible.input_ev hn y
    have hf : ∀ k, impl_MapInput.f k (n : Int) l s x = if inR n s = true then if inR n x = true then (impl_image.f k l x).bind fun t => some (Go.bits .xor .i64 t s) else some (-1) else some (-1) := fun k => by
      simp only [impl_MapInput.f]
      rw [h1]
      simp only [Option.bind_some, if_true]
      rw [e, e]
      simp only [Option.bind_some]
    rw [Int.toNat_natCast, Bool.true_and]
    cases hs : inR n s with
    | false => exact Ev.since (0) fun k hk => by rw [hf k, hs]; rfl
    | true =>
      cases hx : inR n x with
      | false => exact Ev.since (0) fun k hk => by rw [hf k, hs, hx]; rfl
      | true =>
        obtain ⟨s, rfl, hs'⟩ := inR_nat hs
        obtain ⟨x, rfl, hx'⟩ := inR_nat hx
        have h2 := impl_IsInvertible.image_ev (x := x) hl hn (cols32 hn hc) (by omega)
        have h3 : img (cols l) x n < 2 ^ n := img_lt x (fun j hj => (hc j hj).1)
        obtain ⟨K2, h2⟩ := h2
        refine Ev.since (K2) fun k hk => ?_
        have h2' : impl_image.f k l (x : Int) = some ((img (cols l) x n : Nat) : Int) := h2 k (by omega)
        rw [hf k, hs, hx, h2']
        simp only [Option.bind_some, if_true, Bool.and_self]
        rw [xor_nat (by omega) (by omega), Int.toNat_natCast, Int.toNat_natCast]
theorem spec_DrawComposeMaps.ok (b : List Int) (hb : b.length ≤ 1048576) : Tot (fun k => spec_DrawComposeMaps.f k b) (fun r => r.2.1.length ≤ 5 ∧ r.2.2.length ≤ 5) := by
  unfold spec_DrawComposeMaps.f
  refine Tot.bind (spec_l1New.ok b hb) (fun r hr => ?_)
  obtain ⟨r1, r2, r3⟩ := r
  obtain ⟨rfl, rfl⟩ := hr
  obtain ⟨y, i2, h2, e2, y1, y2, y3⟩ := spec_l1Below.ok r1 0 r3 6 hb (Int.le_refl 0) (by decide) (by decide)
  simp only [e2, Option.bind_some]
  obtain ⟨n, rfl⟩ := nat_of y1
  have hn : n ≤ 5 := by omega
  refine Tot.bind (spec_l27Draw.ok r1 hb i2 h2 y3 (n := n) hn) (fun s hs => ?_)
  obtain ⟨s1, s2, s3⟩ := s
  obtain ⟨hs1, hs2⟩ := hs
  refine Tot.bind (spec_l27Draw.ok r1 hb s2 s3 hs1 (n := n) hn) (fun t ht => ?_)
  exact Tot.now _ ⟨by have : s1.length = n := hs2; show s1.length ≤ 5; omega, by have := ht.2; show t.1.length ≤ 5; omega⟩
theorem impl_ComposeMaps.ev (a : Int) (l1 l2 : List Int) : Ev (fun k => impl_ComposeMaps.f k a l1 l2) (compL a l1 l2) := by
  unfold compL
  have h1 : ∀ l, impl_IsInvertible.f a l = some (invB a l) := fun l => rfl
  have hf : ∀ k, impl_ComposeMaps.f (k + 1) a l1 l2 = if (invB a l1 && invB a l2) = true then (if 0 ≤ a then (if (a : Int).toNat ≤ 35184372088832 then impl_ComposeMaps.l0 k l1 (List.replicate (a : Int).toNat 0) l2 (l2.length : Int) 0 else none) else none) else some ([], false) := fun k => by
    simp only [impl_ComposeMaps.f, Option.bind_some]
    rw [h1, h1]
    simp only [Option.bind_some]
    cases invB a l1 <;> cases invB a l2 <;> simp [impl_ComposeMaps.j0]
  by_cases hi : (invB a l1 && invB a l2) = true
  · rw [if_pos hi]
    rw [Bool.and_eq_true] at hi
    obtain ⟨hi1, hi2⟩ := hi
    obtain ⟨n, rfl, hn, hl, hc, _⟩ := invB_open hi1
    obtain ⟨n', e, hn', hl', hc', _⟩ := invB_open hi2
    obtain rfl : n = n' := by omega
    have hp := pow_le_5 hn
    rw [Int.toNat_natCast]
    have key : ∀ d i, i + d = n → Ev (fun k => impl_ComposeMaps.l0 k l1 (fillAt (fun c => ((img (cols l1) c.toNat n : Nat) : Int)) 0 l2 i) l2 (l2.length : Int) (i : Int)) (l2.map (fun c => ((img (cols l1) c.toNat n : Nat) : Int)), true) := by
      refine Ev.count (fun k i => impl_ComposeMaps.l0 k l1 (fillAt (fun c => ((img (cols l1) c.toNat n : Nat) : Int)) 0 l2 i) l2 (l2.length : Int) (i : Int)) n _ ?_ ?_
      · intro i hi h
        obtain ⟨c1, c2⟩ := hc' i hi
        have h2 := impl_IsInvertible.image_ev (x := cols l2 i) hl hn (cols32 hn hc) (by omega)
        have hlen := fillAt_length (fun c : Int => ((img (cols l1) c.toNat n : Nat) : Int)) 0 l2 (i := i) (by omega)
        refine Ev.step (f := fun k => (impl_image.f k l1 ((cols l2 i : Nat) : Int)).bind fun t => impl_ComposeMaps.l0 k l1 ((fillAt (fun c => ((img (cols l1) c.toNat n : Nat) : Int)) 0 l2 i).set i t) l2 (l2.length : Int) ((i + 1 : Nat) : Int)) (fun k => ?_) (Ev.bind h2 ?_)
        · simp only [impl_ComposeMaps.l0]
          rw [if_pos (by omega), if_pos (by omega), if_pos (by omega), rd_nat, c2]
          congr 1; funext t
          rw [if_pos (by rw [hlen]; omega), up1 (by omega), Int.toNat_natCast]
        · refine Ev.congr (fun k => ?_) h
          have := fillAt_set (fun c : Int => ((img (cols l1) c.toNat n : Nat) : Int)) 0 l2 0 (show i < l2.length by omega)
          rw [c2] at this
          rw [← this]; rfl
      · refine Ev.end (fun k => ?_)
        simp only [impl_ComposeMaps.l0]
        have e1 := fillAt_all (fun c : Int => ((img (cols l1) c.toNat n : Nat) : Int)) 0 l2
        rw [hl'] at e1
        rw [if_neg (by omega), e1]
    obtain ⟨K3, h3⟩ := key n 0 (by omega)
    refine Ev.since (K3 + 1) fun k hk => ?_
    obtain ⟨m, rfl⟩ : ∃ m, k = m + 1 := ⟨k - 1, by omega⟩
    have := h3 m (by omega)
    simp only [fillAt_zero, hl'] at this ⊢
    rw [hf m, hi1, hi2, if_pos (by rfl), if_pos (by omega), if_pos (by rw [Int.toNat_natCast]; omega), Int.toNat_natCast, hl']
    exact this
  · rw [if_neg hi]
    refine Ev.since (1) fun k hk => ?_
    obtain ⟨m, rfl⟩ : ∃ m, k = m + 1 := ⟨k - 1, by omega⟩
    skip
    rw [hf m, if_neg hi]
theorem spec_ComposeMaps.ev (a : Int) (l1 l2 : List Int) : Ev (fun k => spec_ComposeMaps.f k a l1 l2) (compL a l1 l2) := by
  unfold compL
  obtain ⟨K1, h1⟩ : ∃ K, ∀ k, K ≤ k → spec_IsInvertible.f k a l1 = some (invB a l1) := spec_IsInvertible.ev a l1
  obtain ⟨K2, h2⟩ : ∃ K, ∀ k, K ≤ k → spec_IsInvertible.f k a l2 = some (invB a l2) := spec_IsInvertible.ev a l2
  have hf : ∀ k, K1 + K2 ≤ k → spec_ComposeMaps.f (k + 1) a l1 l2 = if (invB a l1 && invB a l2) = true then spec_ComposeMaps.l0 k a l1 l2 [] 0 else some ([], false) := fun k hk => by
    simp only [spec_ComposeMaps.f, Option.bind_some]
    rw [h1 _ (by omega), h2 _ (by omega)]
    simp only [Option.bind_some]
    cases invB a l1 <;> cases invB a l2 <;> simp [spec_ComposeMaps.j0]
  by_cases hi : (invB a l1 && invB a l2) = true
  · rw [if_pos hi]
    rw [Bool.and_eq_true] at hi
    obtain ⟨hi1, hi2⟩ := hi
    obtain ⟨n, rfl, hn, hl, hc, _⟩ := invB_open hi1
    obtain ⟨n', e, hn', hl', hc', _⟩ := invB_open hi2
    obtain rfl : n = n' := by omega
    have hp := pow_le_5 hn
    rw [Int.toNat_natCast]
    have key : ∀ d i, i + d = n → Ev (fun k => spec_ComposeMaps.l0 k (n : Int) l1 l2 ((l2.take i).map (fun c => ((img (cols l1) c.toNat n : Nat) : Int))) (i : Int)) (l2.map (fun c => ((img (cols l1) c.toNat n : Nat) : Int)), true) := by
      refine Ev.count (fun k i => spec_ComposeMaps.l0 k (n : Int) l1 l2 ((l2.take i).map (fun c => ((img (cols l1) c.toNat n : Nat) : Int))) (i : Int)) n _ ?_ ?_
      · intro i hi h
        obtain ⟨c1, c2⟩ := hc' i hi
        have h2 := spec_l27Apply.ev (x := cols l2 i) hl hn (cols32 hn hc) (by omega)
        refine Ev.step (f := fun k => (spec_l27Apply.f k l1 ((cols l2 i : Nat) : Int)).bind fun t => spec_ComposeMaps.l0 k (n : Int) l1 l2 ((l2.take i).map (fun c => ((img (cols l1) c.toNat n : Nat) : Int)) ++ [t]) ((i + 1 : Nat) : Int)) (fun k => ?_) (Ev.bind h2 ?_)
        · simp only [spec_ComposeMaps.l0]
          rw [if_pos (by omega), if_pos (by omega), if_pos (by omega), rd_nat, c2]
          congr 1; funext t
          rw [if_pos (by simp; omega), up1 (by omega)]
        · refine Ev.congr (fun k => ?_) h
          rw [take_more l2 0 (show i < l2.length by omega), List.map_append, c2]; rfl
      · refine Ev.end (fun k => ?_)
        simp only [spec_ComposeMaps.l0]
        rw [if_neg (by omega), List.take_of_length_le (by omega)]
    obtain ⟨K3, h3⟩ := key n 0 (by omega)
    refine Ev.since (K1 + K2 + K3 + 1) fun k hk => ?_
    obtain ⟨m, rfl⟩ : ∃ m, k = m + 1 := ⟨k - 1, by omega⟩
    have := h3 m (by omega)
    simp only [] at this
    rw [hf m (by omega), hi1, hi2]
    simpa using this
  · rw [if_neg hi]
    refine Ev.since (K1 + K2 + 1) fun k hk => ?_
    obtain ⟨m, rfl⟩ : ∃ m, k = m + 1 := ⟨k - 1, by omega⟩
    skip
    rw [hf m (by omega), if_neg hi]
theorem spec_l27Both.ok (b : List Int) (hb : b.length ≤ 1048576) : Tot (fun k => spec_l27Both.f k b) (fun r => r.2.length ≤ 5) := by
  unfold spec_l27Both.f
  refine Tot.bind (spec_l1New.ok b hb) (fun r hr => ?_)
  obtain ⟨r1, r2, r3⟩ := r
  obtain ⟨rfl, rfl⟩ := hr
  obtain ⟨y, i2, h2, e2, y1, y2, y3⟩ := spec_l1Below.ok r1 0 r3 6 hb (Int.le_refl 0) (by decide) (by decide)
  simp only [e2, Option.bind_some]
  obtain ⟨n, rfl⟩ := nat_of y1
  refine Tot.bind (spec_l27Draw.ok r1 hb i2 h2 y3 (n := n) (by omega)) (fun s hs => ?_)
  obtain ⟨s1, s2, s3⟩ := s
  obtain ⟨hs1, hs2⟩ := hs
  obtain ⟨x, i4, h4, e4, p4⟩ := spec_l1Once.ok r1 s2 s3 12 hb hs1 (by decide) (by decide)
  simp only [e4, Option.bind_some]
  obtain ⟨z, i5, h5, e5, _, _⟩ := spec_l1PickInt.ok r1 i4 h4 [(-1), 6, 2] hb p4 (by decide) (by decide)
  simp only [e5, Option.bind_some]
  have hl : s1.length ≤ 5 := by have : s1.length = n := hs2; omega
  exact Tot.ite _ (fun _ => Tot.now _ hl) (fun _ => Tot.now _ hl)
theorem spec_DrawInverseMap.ok (b : List Int) (hb : b.length ≤ 1048576) : Tot (fun k => spec_DrawInverseMap.f k b) (fun r => r.2.length ≤ 5) := by
  unfold spec_DrawInverseMap.f
  exact Tot.bind (spec_l27Both.ok b hb) (fun r hr => Tot.now _ hr)
theorem spec_InverseMap.evF {a : Int} {l : List Int} (h : invB a l = false) : Ev (fun k => spec_InverseMap.f k a l) ([], false) := by
  obtain ⟨K1, h1⟩ : ∃ K, ∀ k, K ≤ k → spec_IsInvertible.f k a l = some (invB a l) := spec_IsInvertible.ev a l
  refine Ev.since (K1) fun k hk => ?_
  simp only [spec_InverseMap.f, Option.bind_some, h1 k hk, h, Bool.false_eq_true, if_false]
theorem spec_InverseMap.evT {n : Nat} {l : List Int} (h : invB (n : Int) l = true) {p : Nat → Nat} (hp : ∀ i, i < n → p i < 2 ^ n ∧ img (cols l) (p i) n = 2 ^ i) : Ev (fun k => spec_InverseMap.f k (n : Int) l) (ints ((List.range n).map p), true) := by
  obtain ⟨n', e, hn, hl, hc, hind⟩ := invB_open h
  obtain rfl : n = n' := by omega
  have h5 := pow_le_5 hn
  have h0 := Nat.two_pow_pos n
  have inner : ∀ i, i < n → ∀ (o : List Nat) (r : List Int × Bool), o.length ≤ 1000 → Ev (fun k => spec_InverseMap.l0 k (n : Int) l (ints (o ++ [p i])) ((i + 1 : Nat) : Int)) r →
      Ev (fun k => spec_InverseMap.l1 k (n : Int) l (ints o) (i : Int) 0) r := by
    intro i hi o r ho he
    obtain ⟨p1, p2⟩ := hp i hi
    have key : ∀ d x, x + d = 2 ^ n → Ev (fun k => spec_InverseMap.l1 k (n : Int) l (ints (if p i < x then o ++ [p i] else o)) (i : Int) (x : Int)) r := by
      refine Ev.count (fun k x => spec_InverseMap.l1 k (n : Int) l (ints (if p i < x then o ++ [p i] else o)) (i : Int) (x : Int)) (2 ^ n) r ?_ ?_
      · intro x hx hn'
        have h2 := spec_l27Apply.ev (x := x) hl hn (cols32 hn hc) (by omega)
        refine Ev.step (f := fun k => (spec_l27Apply.f k l (x : Int)).bind fun t => if t = ((2 ^ i : Nat) : Int) then spec_InverseMap.l1 k (n : Int) l (ints (if p i < x then o ++ [p i] else o) ++ [(x : Int)]) (i : Int) ((x + 1 : Nat) : Int) else spec_InverseMap.l1 k (n : Int) l (ints (if p i < x then o ++ [p i] else o)) (i : Int) ((x + 1 : Nat) : Int)) (fun k => ?_) (Ev.bind h2 ?_)
        · have hlen : (ints (if p i < x then o ++ [p i] else o)).length < 17592186044416 := by rw [ints_length]; split <;> (try simp) <;> omega
          simp only [spec_InverseMap.l1]
          rw [if_pos (Int.natCast_nonneg n), shl_one (by omega), if_pos (by omega)]
          congr 1; funext t
          rw [if_pos (by omega), shl_one (by omega), up1 (by omega), if_pos hlen]
        · by_cases hx2 : img (cols l) x n = 2 ^ i
          · have ex : p i = x := hind.inj p1 hx (by rw [p2, hx2])
            refine Ev.congr (fun k => if_pos (by rw [hx2])) ?_
            rw [if_pos (show p i < x + 1 by omega)] at hn'
            refine Ev.congr (fun k => ?_) hn'
            rw [if_neg (show ¬ p i < x by omega), ← ints_append, ex]
          · have ex : p i ≠ x := fun e => hx2 (by rw [← e, p2])
            refine Ev.congr (fun k => if_neg (fun e => hx2 (by exact_mod_cast e))) ?_
            by_cases h3 : p i < x
            · rw [if_pos (by omega)] at hn'; rw [if_pos h3]; exact hn'
            · rw [if_neg (by omega)] at hn'; rw [if_neg h3]; exact hn'
      · refine Ev.step (fun k => ?_) he
        simp only [spec_InverseMap.l1]
        rw [if_pos (Int.natCast_nonneg n), shl_one (by omega), if_neg (by omega), if_pos p1, up1 (by omega)]
    have := key (2 ^ n) 0 (by omega)
    rw [if_neg (by omega)] at this
    exact this
  have key : ∀ d i, i + d = n → Ev (fun k => spec_InverseMap.l0 k (n : Int) l (ints ((List.range i).map p)) (i : Int)) (ints ((List.range n).map p), true) := by
    refine Ev.count (fun k i => spec_InverseMap.l0 k (n : Int) l (ints ((List.range i).map p)) (i : Int)) n _ ?_ ?_
    · intro i hi hn'
      rw [← range_snoc, ← ints_append] at hn'
      refine Ev.step (fun k => ?_) (inner i hi _ _ (by simp; omega) hn')
      simp only [spec_InverseMap.l0]
      rw [if_pos (by omega)]
    · refine Ev.end (fun k => ?_)
      simp only [spec_InverseMap.l0]
      rw [if_neg (by omega)]
  obtain ⟨K2, h2⟩ := key n 0 (by omega)
  obtain ⟨K1, h1⟩ : ∃ K, ∀ k, K ≤ k → spec_IsInvertible.f k (n : Int) l = some (invB (n : Int) l) := spec_IsInvertible.ev (n : Int) l
  refine Ev.since (K1 + K2) fun k hk => ?_
  have h3 := h2 k (by omega)
  simp only [spec_InverseMap.f, Option.bind_some, h1 k (by omega), h, if_true]
  exact h3
theorem spec_DrawMapInput.ok (b : List Int) (hb : b.length ≤ 1048576) : Tot (fun k => spec_DrawMapInput.f k b) (fun r => r.2.1.length ≤ 5) := by
  unfold spec_DrawMapInput.f
  refine Tot.bind (spec_l27Both.ok b hb) (fun s hs => ?_)
  refine Tot.bind (spec_l1New.ok b hb) (fun r hr => ?_)
  obtain ⟨r1, r2, r3⟩ := r
  obtain ⟨rfl, rfl⟩ := hr
  obtain ⟨y, i2, h2, e2, _, _, y3⟩ := spec_l1Below.ok r1 0 r3 9 hb (Int.le_refl 0) (by decide) (by decide)
  simp only [e2, Option.bind_some]
  obtain ⟨z, i3, h3, e3, _, _, z3⟩ := spec_l1Below.ok r1 i2 h2 9 hb y3 (by decide) (by decide)
  simp only [e3, Option.bind_some]
  exact Tot.now _ hs
theorem spec_DrawIsInvertible.ok (b : List Int) (hb : b.length ≤ 1048576) : Tot (fun k => spec_DrawIsInvertible.f k b) (fun r => r.2.length ≤ 5) := by
  unfold spec_DrawIsInvertible.f
  exact Tot.bind (spec_l27Both.ok b hb) (fun r hr => Tot.now _ hr)
theorem spec_DrawCountInvertible.ok (b : List Int) (hb : b.length ≤ 1048576) : Tot (fun k => spec_DrawCountInvertible.f k b) (fun _ => True) := by
  unfold spec_DrawCountInvertible.f
  refine Tot.bind (spec_l1New.ok b hb) (fun r hr => ?_)
  obtain ⟨r1, r2, r3⟩ := r
  obtain ⟨rfl, rfl⟩ := hr
  obtain ⟨y, i2, h2, e2, _, _, y3⟩ := spec_l1Below.ok r1 0 r3 8 hb (Int.le_refl 0) (by decide) (by decide)
  simp only [e2, Option.bind_some]
  exact Tot.now _ trivial
def spec_l3Shift.sh (v s : Nat) : Nat → Nat
  | 0 => 0
  | m + 1 => spec_l3Shift.sh v s m ||| (v.testBit m).toNat * 2 ^ (m ^^^ s)
theorem spec_l3Shift.one_bit (b : Bool) (p j : Nat) : (b.toNat * 2 ^ p).testBit j = (b && decide (j = p)) := by
  cases b
  · simp
  · rw [show true.toNat = 1 from rfl, Nat.one_mul, Nat.testBit_two_pow, Bool.true_and]
    exact decide_eq_decide.mpr ⟨fun e => e.symm, fun e => e.symm⟩
theorem spec_l3Shift.back {a b s : Nat} : a = b ^^^ s ↔ a ^^^ s = b := by
  constructor
  · rintro rfl; rw [Nat.xor_assoc, Nat.xor_self, Nat.xor_zero]
  · rintro rfl; rw [Nat.xor_assoc, Nat.xor_self, Nat.xor_zero]
theorem spec_l3Shift.sh_bit (v s j : Nat) : ∀ m, (spec_l3Shift.sh v s m).testBit j = (decide (j ^^^ s < m) && v.testBit (j ^^^ s))
  | 0 => by simp [spec_l3Shift.sh]
  | m + 1 => by
    rw [spec_l3Shift.sh, Nat.testBit_or, spec_l3Shift.sh_bit v s j m, spec_l3Shift.one_bit]
    by_cases h : j ^^^ s = m
    · have h2 : j = m ^^^ s := spec_l3Shift.back.mpr h
      rw [decide_eq_true h2, decide_eq_false (show ¬ j ^^^ s < m from by omega), decide_eq_true (show j ^^^ s < m + 1 from by omega), h]; simp
    · have h2 : ¬ j = m ^^^ s := fun e => h (spec_l3Shift.back.mp e)
      rw [decide_eq_false h2, Bool.and_false, Bool.or_false]
      congr 1
      exact decide_eq_decide.mpr ⟨fun e => by omega, fun e => by omega⟩
theorem spec_l3Shift.sh_all {n v s : Nat} (hs : s < 2 ^ n) : spec_l3Shift.sh v s (2 ^ n) = prefW (fun x => v.testBit (x ^^^ s)) (2 ^ n) := by
  apply Nat.eq_of_testBit_eq; intro j
  rw [spec_l3Shift.sh_bit, testBit_prefW]
  by_cases hj : j < 2 ^ n
  · rw [decide_eq_true hj, decide_eq_true (Nat.xor_lt_two_pow hj hs)]
  · rw [decide_eq_false hj, decide_eq_false (fun e => hj (by have := Nat.xor_lt_two_pow e hs; rwa [Nat.xor_assoc, Nat.xor_self, Nat.xor_zero] at this))]
theorem spec_l3Shift.sh_lt {v s : Nat} (hs : s < 2 ^ 5) : ∀ m, m ≤ 32 → spec_l3Shift.sh v s m < 2 ^ 32
  | 0, _ => by simp [spec_l3Shift.sh]
  | m + 1, h => by
    have hx : m ^^^ s < 2 ^ 5 := Nat.xor_lt_two_pow (by omega) hs
    have h1 : 2 ^ (m ^^^ s) < 2 ^ 32 := Nat.pow_lt_pow_right (by decide) (by omega)
    refine Nat.or_lt_two_pow (spec_l3Shift.sh_lt hs m (by omega)) ?_
    cases v.testBit m <;> simp <;> omega
theorem spec_l3Shift.ev {n v s : Nat} (hn : n ≤ 5) (hv : v < 2 ^ 63) (hs : s < 2 ^ n) : Ev (fun k => spec_l3Shift.f k n v s) ((n : Int), ((prefW (fun x => v.testBit (x ^^^ s)) (2 ^ n) : Nat) : Int)) := by
  have h5 := pow_le_5 hn
  rw [← spec_l3Shift.sh_all hs]
  have hs5 : s < 2 ^ 5 := by omega
  have key : ∀ d x, x + d = 2 ^ n → Ev (fun k => spec_l3Shift.l0 k s ((spec_l3Shift.sh v s x : Nat) : Int) (x : Int) n v) ((n : Int), ((spec_l3Shift.sh v s (2 ^ n) : Nat) : Int)) := by
    refine Ev.count (fun k x => spec_l3Shift.l0 k s ((spec_l3Shift.sh v s x : Nat) : Int) (x : Int) n v) (2 ^ n) _ ?_ ?_
    · intro x hx h
      refine Ev.step (fun k => ?_) h
      have hy : x ^^^ s < 2 ^ 5 := Nat.xor_lt_two_pow (by omega) hs5
      have h1 : 2 ^ (x ^^^ s) < 2 ^ 32 := Nat.pow_lt_pow_right (by decide) (by omega)
      have h2 : (v.testBit x).toNat * 2 ^ (x ^^^ s) < 2 ^ 63 := by cases v.testBit x <;> simp <;> omega
      have h3 := spec_l3Shift.sh_lt (v := v) hs5 x (by omega)
      simp only [spec_l3Shift.l0]
      rw [if_pos (Int.natCast_nonneg _), shl_one (by omega), if_pos (by omega), if_pos (Int.natCast_nonneg _), xor_nat (by omega) (by omega), if_pos (Int.natCast_nonneg _), bit_nat hv (by omega), shl_nat (by omega) h2, or_nat (by omega) h2, up1 (by omega)]
      rfl
    · refine Ev.end (fun k => ?_)
      simp only [spec_l3Shift.l0]
      rw [if_pos (Int.natCast_nonneg _), shl_one (by omega), if_neg (by omega)]
  exact key (2 ^ n) 0 (by omega)
def spec_l12Bent.st : Nat → Int
  | 0 => 0
  | j + 1 => Go.bits .or .i64 (spec_l12Bent.st j) (shl .i64 (Go.bits .xor .i64 (Go.bits .and .i64 (Go.bits .and .i64 (j : Int) 1) ((j : Int) / 2)) (Go.bits .and .i64 (Go.bits .and .i64 ((j : Int) / 4) 1) ((j : Int) / 8))) (j : Int))
theorem spec_l12Bent.st16 : spec_l12Bent.st 16 = ((30856 : Nat) : Int) := by decide +kernel
theorem spec_l12Bent.l0_ok (b : List Int) (hb : b.length ≤ 1048576) (i h : Int) (hi : 0 ≤ i) : ∀ (d j : Nat), j + d = 16 → Tot (fun k => spec_l12Bent.l0 k (spec_l12Bent.st j) (j : Int) b i h) (fun r => 0 ≤ r.2.2.1)
  | 0, j, hj => by
    obtain rfl : j = 16 := by omega
    obtain ⟨y, i1, h1, e1, y1, y2, p1⟩ := spec_l1Below.ok b i h 16 hb hi (by decide) (by decide)
    obtain ⟨s, rfl⟩ := nat_of y1
    rw [spec_l12Bent.st16]
    have he := spec_l3Shift.ev (n := 4) (v := 30856) (s := s) (by decide) (by decide) (by show s < 16; omega)
    refine Tot.step (f := fun k => (spec_l3Shift.f k ((4 : Nat) : Int) ((30856 : Nat) : Int) (s : Int)).bind fun t => some (t.1, t.2, i1, h1)) (fun k => ?_) (Tot.bind (Tot.ev (P := fun _ => True) he trivial) (fun r _ => Tot.now _ p1))
    simp only [spec_l12Bent.l0]
    rw [if_neg (by decide), e1, Option.bind_some]; rfl
  | d + 1, j, hj => by
    refine Tot.step (fun k => ?_) (spec_l12Bent.l0_ok b hb i h hi d (j + 1) (by omega))
    simp only [spec_l12Bent.l0]
    rw [if_pos (by omega), if_pos (by omega), w64 (by omega) (by omega)]
    rfl
theorem spec_l12Bent.ok (b : List Int) (hb : b.length ≤ 1048576) (i h : Int) (hi : 0 ≤ i) : Tot (fun k => spec_l12Bent.f k b i h) (fun r => 0 ≤ r.2.2.1) := by
  unfold spec_l12Bent.f
  obtain ⟨y, i1, h1, e1, y1, y2, p1⟩ := spec_l1Below.ok b i h 4 hb hi (by decide) (by decide)
  simp only [e1, Option.bind_some]
  obtain ⟨z, i2, h2, e2, _, p2⟩ := spec_l1PickInt.ok b i1 h1 [8, 1, 7, 14, 6] hb p1 (by decide) (by decide)
  simp only [e2, Option.bind_some]
  exact Tot.ite _ (fun _ => Tot.bind (spec_l2Any.ok b hb i1 h1 p1) (fun r hr => Tot.now _ hr)) (fun _ => Tot.ite _ (fun _ => Tot.now _ p2) (fun _ => spec_l12Bent.l0_ok b hb i1 h1 p1 16 0 (by omega)))
theorem spec_DrawSpectrumProfile.ok (b : List Int) (hb : b.length ≤ 1048576) : Tot (fun k => spec_DrawSpectrumProfile.f k b) (fun _ => True) := by
  unfold spec_DrawSpectrumProfile.f
  refine Tot.bind (spec_l1New.ok b hb) (fun r hr => ?_)
  obtain ⟨r1, r2, r3⟩ := r
  obtain ⟨rfl, rfl⟩ := hr
  exact Tot.bind (spec_l12Bent.ok r1 hb 0 r3 (Int.le_refl 0)) (fun s _ => Tot.now _ trivial)
theorem spec_MapInput.ev (a : Int) (l : List Int) (s x : Int) : Ev (fun k => spec_MapInput.f k a l s x) (mapI a l s x) := by
  unfold mapI
  obtain ⟨K1, h1⟩ : ∃ K, ∀ k, K ≤ k → spec_IsInvertible.f k a l = some (invB a l) := spec_IsInvertible.ev a l
  cases hi : invB a l with
  | false =>
    rw [hi] at h1
    refine Ev.since (K1) fun k hk => ?_
    simp only [spec_MapInput.f, h1 k hk, Option.bind_some, Bool.false_eq_true, if_false, Bool.false_and]
  | true =>
    rw [hi] at h1
    obtain ⟨n, rfl, hn, hl, hc, _⟩ := invB_open hi
    have hp := pow_le_5 hn
    have hp1 := Nat.two_pow_pos n
    have rng : wrap64 (((2 ^ n : Nat) : Int) - 1) = ((2 ^ n : Nat) : Int) - 1 := w64 (by omega) (by omega)
    have e : ∀ y : Int, spec_l1In.f y 0 (((2 ^ n : Nat) : Int) - 1) = some (inR n y) := fun y => by
      rw [spec_l1In.ev]; unfold inR; congr 1; exact decide_eq_decide.mpr (by omega)
    have hf : ∀ k, K1 ≤ k → spec_MapInput.f k (n : Int) l s x = if inR n s = true then if inR n x = true then (spec_l27Apply.f k l x).bind fun t => some (Go.bits .xor .i64 t s) else some (-1) else some (-1) := fun k hk => by
      simp only [spec_MapInput.f]
      rw [h1 k hk]
      simp only [Option.bind_some, if_true]
      rw [if_pos (Int.natCast_nonneg n), shl_one (by omega), rng, e, e]
      simp only [Option.bind_some]
    rw [Int.toNat_natCast, Bool.true_and]
    cases hs : inR n s with
    | false => exact Ev.since (K1) fun k hk => by rw [hf k hk, hs]; rfl
    | true =>
      cases hx : inR n x with
      | false => exact Ev.since (K1) fun k hk => by rw [hf k hk, hs, hx]; rfl
      | true =>
        obtain ⟨s, rfl, hs'⟩ := inR_nat hs
        obtain ⟨x, rfl, hx'⟩ := inR_nat hx
        have h2 := spec_l27Apply.ev (x := x) hl hn (cols32 hn hc) (by omega)
        have h3 : img (cols l) x n < 2 ^ n := img_lt x (fun j hj => (hc j hj).1)
        obtain ⟨K2, h2⟩ := h2
        refine Ev.since (K1 + K2) fun k hk => ?_
        have h2' : spec_l27Apply.f k l (x : Int) = some ((img (cols l) x n : Nat) : Int) := h2 k (by omega)
        rw [hf k (by omega), hs, hx, h2']
        simp only [Option.bind_some, if_true, Bool.and_self]
        rw [xor_nat (by omega) (by omega), Int.toNat_natCast, Int.toNat_natCast]
theorem spec_l12Sign.ev {w : Nat} (h : w < 2 ^ 32) : Ev (fun k => spec_l12Sign.f k w) (sgn (pc w)) := by
  have hp := pc_le w
  refine Ev.congr (f := fun k => (spec_l2Count.f k w).bind fun t => if Int.tmod t 2 = 1 then some (-1) else some 1) (fun k => rfl) (Ev.bind (spec_l2Count.ev h) ?_)
  have e : Int.tmod ((pc w : Nat) : Int) 2 = ((pc w % 2 : Nat) : Int) := by rw [Int.tmod_eq_emod_of_nonneg (Int.natCast_nonneg _)]; rfl
  rw [e]
  unfold sgn
  by_cases hq : pc w % 2 = 1
  · rw [if_pos hq]; exact Ev.congr (fun k => if_pos (by omega)) (Ev.now _)
  · rw [if_neg hq]; exact Ev.congr (fun k => if_neg (by omega)) (Ev.now _)
theorem spec_SpectrumOf.evF {a b : Int} (ht : isT a b = false) : Ev (fun k => spec_SpectrumOf.f k a b) [] := by
  refine Ev.congr (f := fun k => spec_SpectrumOf.l0 k [] 0 a b) (fun k => rfl) (Ev.step (f := fun k => spec_SpectrumOf.j1 k [] 0 false a b) (fun k => ?_) (Ev.end (fun k => ?_)))
  · simp only [spec_SpectrumOf.l0]
    rw [spec_IsTable.ev, ht]; rfl
  · simp only [spec_SpectrumOf.j1]
    rw [if_neg (by decide)]
theorem spec_SpectrumOf.evT {n v : Nat} (hn : n ≤ 5) (hv : v < 2 ^ 2 ^ n) : Ev (fun k => spec_SpectrumOf.f k n v) (listZ (2 ^ n) (spZ n v)) := by
  have h32 := full_lt hn
  have h5 := pow_le_5 hn
  have ht := isT_mk hn hv
  have inner : ∀ u, u < 2 ^ n → ∀ (o : List Int) (r : List Int), o.length ≤ 1000 → Ev (fun k => spec_SpectrumOf.l0 k (o ++ [spZ n v u]) ((u + 1 : Nat) : Int) n v) r →
      ∀ d x, x + d = 2 ^ n → Ev (fun k => spec_SpectrumOf.l1 k o (u : Int) (sumZ (spT v u) x) (x : Int) n v) r := by
    intro u hu o r ho he
    refine Ev.count (fun k x => spec_SpectrumOf.l1 k o (u : Int) (sumZ (spT v u) x) (x : Int) n v) (2 ^ n) r ?_ ?_
    · intro x hx h
      have hb := sum_bound v u x
      have hs := sgn_bound ((v.testBit x).toNat + pc (u &&& x))
      have s1 := spec_l12Sign.ev (w := (v.testBit x).toNat) (Nat.lt_trans (toNat_lt _) (by decide))
      have s2 := spec_l12Sign.ev (w := u &&& x) (Nat.lt_of_le_of_lt Nat.and_le_left (by omega))
      refine Ev.step (f := fun k => (spec_l12Sign.f k (((v.testBit x).toNat : Nat) : Int)).bind fun s => (spec_l12Sign.f k ((u &&& x : Nat) : Int)).bind fun t => spec_SpectrumOf.l1 k o (u : Int) (wrap64 (sumZ (spT v u) x + wrap64 (s * t))) ((x + 1 : Nat) : Int) n v) (fun k => ?_) (Ev.bind s1 (Ev.bind s2 ?_))
      · simp only [spec_SpectrumOf.l1]
        rw [if_pos (Int.natCast_nonneg n), shl_one (by omega), if_pos (by omega), if_pos (Int.natCast_nonneg x), bit_nat (by omega) (by omega), and_nat (by omega) (by omega), up1 (by omega)]
      · rw [pc_bit, sgn_mul]
        have e1 : wrap64 (sgn ((v.testBit x).toNat + pc (u &&& x))) = sgn ((v.testBit x).toNat + pc (u &&& x)) := w64 (by omega) (by omega)
        have e2 : wrap64 (sumZ (spT v u) x + sgn ((v.testBit x).toNat + pc (u &&& x))) = sumZ (spT v u) (x + 1) := by rw [w64 (by omega) (by omega)]; rfl
        rw [e1, e2]; exact h
    · refine Ev.step (fun k => ?_) he
      simp only [spec_SpectrumOf.l1]
      rw [if_pos (Int.natCast_nonneg n), shl_one (by omega), if_neg (by omega), if_pos (by omega), up1 (by omega)]
      rfl
  have key : ∀ d u, u + d = 2 ^ n → Ev (fun k => spec_SpectrumOf.l0 k (listZ u (spZ n v)) (u : Int) n v) (listZ (2 ^ n) (spZ n v)) := by
    refine Ev.count (fun k u => spec_SpectrumOf.l0 k (listZ u (spZ n v)) (u : Int) n v) (2 ^ n) _ ?_ ?_
    · intro u hu h
      rw [← listZ_snoc] at h
      refine Ev.step (f := fun k => spec_SpectrumOf.j1 k (listZ u (spZ n v)) (u : Int) true n v) (fun k => ?_) (Ev.step (f := fun k => spec_SpectrumOf.l1 k (listZ u (spZ n v)) (u : Int) 0 0 n v) (fun k => ?_) (inner u hu _ _ (by rw [listZ_length]; omega) h (2 ^ n) 0 (by omega)))
      · simp only [spec_SpectrumOf.l0]
        rw [spec_IsTable.ev, ht, Option.bind_some, if_pos rfl, if_pos (Int.natCast_nonneg n), shl_one (by omega), decide_eq_true (by omega)]
      · simp only [spec_SpectrumOf.j1, if_true]
    · refine Ev.step (f := fun k => spec_SpectrumOf.j1 k (listZ (2 ^ n) (spZ n v)) ((2 ^ n : Nat) : Int) false n v) (fun k => ?_) (Ev.end (fun k => ?_))
      · simp only [spec_SpectrumOf.l0]
        rw [spec_IsTable.ev, ht, Option.bind_some, if_pos rfl, if_pos (Int.natCast_nonneg n), shl_one (by omega), decide_eq_false (by omega)]
      · simp only [spec_SpectrumOf.j1]
        rw [if_neg (by decide)]
  exact key (2 ^ n) 0 (by omega)
theorem spec_SpectrumProfile.evF {a b : Int} (ht : isT a b = false) : Ev (fun k => spec_SpectrumProfile.f k a b) [] := by
  refine Ev.congr (f := fun k => (spec_SpectrumOf.f k a b).bind fun t => if (t.length : Int) = 0 then some [] else (if 0 ≤ wrap64 ((t.length : Int) + 1) then (if (wrap64 ((t.length : Int) + 1)).toNat ≤ 35184372088832 then spec_SpectrumProfile.l0 k t (List.replicate (wrap64 ((t.length : Int) + 1)).toNat 0) 0 else none) else none)) (fun k => rfl) (Ev.bind (spec_SpectrumOf.evF ht) (Ev.congr (fun k => if_pos rfl) (Ev.now _)))
theorem spec_SpectrumProfile.evT {n v : Nat} (hn : n ≤ 5) (hv : v < 2 ^ 2 ^ n) : Ev (fun k => spec_SpectrumProfile.f k n v) (listZ (2 ^ n + 1) (fun j => ((sizesN (spZ n v) (2 ^ n) j : Nat) : Int))) := by
  have h5 := pow_le_5 hn
  have h1 := Nat.two_pow_pos n
  have hs := spec_SpectrumOf.evT hn hv
  have hb := spZ_bound hn v
  refine Ev.congr (f := fun k => (spec_SpectrumOf.f k n v).bind fun t => if (t.length : Int) = 0 then some [] else (if 0 ≤ wrap64 ((t.length : Int) + 1) then (if (wrap64 ((t.length : Int) + 1)).toNat ≤ 35184372088832 then spec_SpectrumProfile.l0 k t (List.replicate (wrap64 ((t.length : Int) + 1)).toNat 0) 0 else none) else none)) (fun k => rfl) (Ev.bind hs ?_)
  have key : ∀ d i, i + d = 2 ^ n → Ev (fun k => spec_SpectrumProfile.l0 k (listZ (2 ^ n) (spZ n v)) (listZ (2 ^ n + 1) (fun j => ((sizesN (spZ n v) i j : Nat) : Int))) (i : Int)) (listZ (2 ^ n + 1) (fun j => ((sizesN (spZ n v) (2 ^ n) j : Nat) : Int))) := by
    refine Ev.count (fun k i => spec_SpectrumProfile.l0 k (listZ (2 ^ n) (spZ n v)) (listZ (2 ^ n + 1) (fun j => ((sizesN (spZ n v) i j : Nat) : Int))) (i : Int)) (2 ^ n) _ ?_ ?_
    · intro i hi h
      have hbi := hb i
      have hle := sizesN_le (spZ n v) i (spZ n v i).natAbs
      have hm := mx_abs (a := spZ n v i) (by omega) (by omega)
      refine Ev.step (fun k => ?_) h
      simp only [spec_SpectrumProfile.l0]
      rw [listZ_rd hi, hm, if_pos (by rw [listZ_length]; omega), if_pos (by omega), if_pos (by omega), if_pos (by rw [listZ_length]; omega), listZ_rd (by omega), Int.toNat_natCast, w64 (x := ((sizesN (spZ n v) i (spZ n v i).natAbs : Nat) : Int) + 1) (by omega) (by omega), prof_step (by omega), up1 (by omega)]
    · refine Ev.end (fun k => ?_)
      simp only [spec_SpectrumProfile.l0]
      rw [if_neg (by rw [listZ_length]; omega)]
  have h0 := key (2 ^ n) 0 (by omega)
  rw [listZ_zero (f := fun j => ((sizesN (spZ n v) 0 j : Nat) : Int)) (fun j _ => rfl)] at h0
  refine Ev.congr (fun k => ?_) h0
  have e : wrap64 (((listZ (2 ^ n) (spZ n v)).length : Int) + 1) = ((2 ^ n + 1 : Nat) : Int) := by rw [listZ_length, up1 (by omega)]
  rw [e, if_neg (by rw [listZ_length]; omega), if_pos (by omega), if_pos (by omega), Int.toNat_natCast]; rfl
theorem laws_FnAffine.same_ev (L : List Int) (hL : L.length ≤ 1000000) : Ev (fun q => laws_sameInts.f q L L) true := by
  refine Ev.congr (f := fun q => laws_sameInts.l0 q L L 0) (fun q => by unfold laws_sameInts.f; rw [if_pos rfl]) ?_
  exact Ev.count (fun q i => laws_sameInts.l0 q L L (i : Int)) L.length _ (fun i hi h => by
    refine Ev.step (fun q => ?_) h
    simp only [laws_sameInts.l0]
    rw [if_pos (by omega), if_pos (Int.natCast_nonneg i), if_pos (by omega), if_pos trivial, up1 (by omega)]) (Ev.end (fun q => by
    simp only [laws_sameInts.l0]
    rw [if_neg (by omega)])) L.length 0 (by omega)
theorem laws_FnAffine.cnt_both (a : Int) : ∃ r, Ev (fun k => impl_CountInvertible.f k a) r ∧ Ev (fun k => spec_CountInvertible.f k a) r := by
  by_cases h : 0 ≤ a ∧ a ≤ 5
  · have e : a = 0 ∨ a = 1 ∨ a = 2 ∨ a = 3 ∨ a = 4 ∨ a = 5 := by omega
    rcases e with rfl | rfl | rfl | rfl | rfl | rfl
    · exact ⟨1, Ev.of (k := 60) (impl_CountInvertible.mono _) (by decide +kernel), Ev.of (k := 60) (spec_CountInvertible.mono _) (by decide +kernel)⟩
    · exact ⟨1, Ev.of (k := 60) (impl_CountInvertible.mono _) (by decide +kernel), Ev.of (k := 60) (spec_CountInvertible.mono _) (by decide +kernel)⟩
    · exact ⟨6, Ev.of (k := 60) (impl_CountInvertible.mono _) (by decide +kernel), Ev.of (k := 60) (spec_CountInvertible.mono _) (by decide +kernel)⟩
    · exact ⟨168, Ev.of (k := 60) (impl_CountInvertible.mono _) (by decide +kernel), Ev.of (k := 60) (spec_CountInvertible.mono _) (by decide +kernel)⟩
    · exact ⟨20160, Ev.of (k := 60) (impl_CountInvertible.mono _) (by decide +kernel), Ev.of (k := 60) (spec_CountInvertible.mono _) (by decide +kernel)⟩
    · exact ⟨9999360, Ev.of (k := 60) (impl_CountInvertible.mono _) (by decide +kernel), Ev.of (k := 60) (spec_CountInvertible.mono _) (by decide +kernel)⟩
  · refine ⟨-1, Ev.of_some (fun k => ?_), Ev.of_some (fun k => ?_)⟩
    · unfold impl_CountInvertible.f
      rw [impl_isBits.ev]
      simp [h]
    · unfold spec_CountInvertible.f
      rw [spec_l1In.ev]
      simp [h]
theorem laws_FnAffine.prof_both (a b : Int) : ∃ r : List Int, r.length ≤ 1000 ∧ Ev (fun k => impl_SpectrumProfile.f k a b) r ∧ Ev (fun k => spec_SpectrumProfile.f k a b) r := by
  cases ht : isT a b with
  | false => exact ⟨[], by simp, impl_SpectrumProfile.evF ht, spec_SpectrumProfile.evF ht⟩
  | true =>
    obtain ⟨n, v, rfl, rfl, hn, hv⟩ := isT_nat ht
    have h5 := pow_le_5 hn
    exact ⟨_, by rw [listZ_length]; omega, impl_SpectrumProfile.evT hn hv, spec_SpectrumProfile.evT hn hv⟩
theorem laws_FnAffine.inv_cols {n : Nat} {l : List Int} (hc : ∀ j, j < n → cols l j < 2 ^ n ∧ l.getD j 0 = ((cols l j : Nat) : Int)) (hind : Indep (cols l) n) : ∃ p : Nat → Nat, (∀ i, i < n → p i < 2 ^ n ∧ img (cols l) (p i) n = 2 ^ i) ∧ Inv n (cols l) p := by
  have hx : ∀ i, ∃ x, i < n → x < 2 ^ n ∧ img (cols l) x n = 2 ^ i := fun i => by
    by_cases hi : i < n
    · obtain ⟨x, h1, h2⟩ := hind.reach (fun j hj => (hc j hj).1) (Nat.pow_lt_pow_right (by decide) hi)
      exact ⟨x, fun _ => ⟨h1, h2⟩⟩
    · exact ⟨0, fun h => absurd h hi⟩
  have hp : ∀ i, i < n → Classical.choose (hx i) < 2 ^ n ∧ img (cols l) (Classical.choose (hx i)) n = 2 ^ i := fun i hi => Classical.choose_spec (hx i) hi
  exact ⟨fun i => Classical.choose (hx i), hp, Inv.of (fun j hj => (hc j hj).1) hind hp⟩
theorem laws_FnAffine.inv_both (a : Int) (l : List Int) : ∃ r : List Int × Bool, r.1.length ≤ 1000 ∧ Ev (fun k => impl_InverseMap.f k a l) r ∧ Ev (fun k => spec_InverseMap.f k a l) r := by
  cases h : invB a l with
  | false => exact ⟨([], false), by simp, impl_InverseMap.evF h, spec_InverseMap.evF h⟩
  | true =>
    obtain ⟨n, rfl, hn, hl', hc, hind⟩ := invB_open h
    obtain ⟨p, hp, _⟩ := laws_FnAffine.inv_cols hc hind
    exact ⟨_, by show (ints ((List.range n).map p)).length ≤ 1000; rw [ints_range_length]; omega, impl_InverseMap.evT h hp, spec_InverseMap.evT h hp⟩
theorem laws_FnAffine.j4_ev (b : List Int) (hb : b.length ≤ 1048576) : Ev (fun k => laws_FnAffine.j4 k b) true := by
  refine Ev.step (f := ?f) ?h ?k
  case h => intro q; simp only [laws_FnAffine.j4]; exact rfl
  case k =>
    obtain ⟨r1, _, e1⟩ := spec_DrawInverseMap.ok b hb
    obtain ⟨r2, _, e2⟩ := spec_DrawMapInput.ok b hb
    obtain ⟨r3, _, e3⟩ := spec_DrawIsInvertible.ok b hb
    obtain ⟨r4, _, e4⟩ := spec_DrawCountInvertible.ok b hb
    obtain ⟨r5, _, e5⟩ := spec_DrawSpectrumProfile.ok b hb
    obtain ⟨R, hR, i1, i2⟩ := laws_FnAffine.inv_both r1.1 r1.2
    obtain ⟨C, c1, c2⟩ := laws_FnAffine.cnt_both r4
    obtain ⟨P, hP, p1, p2⟩ := laws_FnAffine.prof_both r5.1 r5.2
    refine Ev.bind e1 (Ev.bind i1 (Ev.bind i2 (Ev.bind e2 (Ev.bind e3 (Ev.bind e4 (Ev.bind e5 (Ev.bind (laws_FnAffine.same_ev R.1 (by omega)) ?_)))))))
    refine Ev.congr (fun q => if_pos rfl) ?_
    refine Ev.congr (fun q => if_pos (by simp)) ?_
    refine Ev.bind (impl_MapInput.ev r2.1 r2.2.1 r2.2.2.1 r2.2.2.2) (Ev.bind (spec_MapInput.ev r2.1 r2.2.1 r2.2.2.1 r2.2.2.2) ?_)
    refine Ev.congr (fun q => if_pos rfl) ?_
    refine Ev.bind (Ev.const (r := invB r3.1 r3.2) rfl) (Ev.bind (spec_IsInvertible.ev r3.1 r3.2) ?_)
    refine Ev.congr (fun q => if_pos (by simp)) ?_
    refine Ev.bind c1 (Ev.bind c2 ?_)
    refine Ev.congr (fun q => if_pos rfl) ?_
    exact Ev.bind p1 (Ev.bind p2 (Ev.bind (laws_FnAffine.same_ev P (by omega)) (Ev.now _)))
theorem laws_FnAffine.at_some (b : List Int) {i : Int} (hi : 0 ≤ i) : ∃ t, laws_at.f b i = some t := by
  unfold laws_at.f
  by_cases h : i < (b.length : Int)
  · exact ⟨_, by rw [if_pos h, if_pos hi]⟩
  · exact ⟨_, by rw [if_neg h]⟩
theorem laws_FnAffine.mapI_nat {n s y : Nat} {l : List Int} (hi : invB (n : Int) l = true) (hs : s < 2 ^ n) (hy : y < 2 ^ n) : mapI (n : Int) l (s : Int) (y : Int) = ((img (cols l) y n ^^^ s : Nat) : Int) := by
  unfold mapI
  rw [hi, Int.toNat_natCast, inR_mk hs, inR_mk hy, if_pos (by rfl), Int.toNat_natCast, Int.toNat_natCast]
theorem laws_FnAffine.mapI_bad {n : Nat} {l : List Int} {s x : Int} (hx : inR n x = false) : mapI (n : Int) l s x = -1 := by
  unfold mapI
  rw [Int.toNat_natCast, hx, if_neg (by simp)]
theorem laws_FnAffine.inR_neg (n : Nat) : inR n (-1) = false := by unfold inR; exact decide_eq_false (by omega)
theorem laws_FnAffine.invB_mk {n : Nat} {l : List Int} (hn : n ≤ 5) (hl : l.length = n) (h : ∀ c ∈ l, 0 ≤ c ∧ c < ((2 ^ n : Nat) : Int)) (hi : Indep (cols l) n) : invB (n : Int) l = true := by
  unfold invB
  rw [Int.toNat_natCast, decide_eq_true (by omega), decide_eq_true (by rw [hl]), indB_iff.mpr hi]
  simp only [Bool.true_and, Bool.and_true]
  exact List.all_eq_true.mpr (fun c hc => decide_eq_true (h c hc))
theorem laws_FnAffine.comp_cols {n : Nat} {la lb : List Int} (hb : lb.length = n) {j : Nat} (hj : j < n) : cols (lb.map (fun c => ((img (cols la) c.toNat n : Nat) : Int))) j = img (cols la) (cols lb j) n := by
  unfold cols
  rw [List.getD_eq_getElem?_getD, List.getElem?_map, List.getD_eq_getElem?_getD]
  have h : j < lb.length := by omega
  rw [List.getElem?_eq_getElem h]
  simp
theorem laws_FnAffine.j3_ev (b : List Int) (hb : b.length ≤ 1048576) (a : Int) (la lb : List Int) : Ev (fun k => laws_FnAffine.j3 k b a la lb (compL a la lb).2 (compL a la lb).1 false) true := by
  have h4 := laws_FnAffine.j4_ev b hb
  unfold compL
  by_cases hc : (invB a la && invB a lb) = true
  · rw [if_pos hc]
    rw [Bool.and_eq_true] at hc
    obtain ⟨ia, ib⟩ := hc
    obtain ⟨n, rfl, hn, hla, ca, da⟩ := invB_open ia
    obtain ⟨n', en, _, hlb, cb, db⟩ := invB_open ib
    obtain rfl : n' = n := by omega
    clear en
    rw [Int.toNat_natCast]
    obtain ⟨d, hd⟩ : ∃ d, lb.map (fun c => ((img (cols la) c.toNat n' : Nat) : Int)) = d := ⟨_, rfl⟩
    have hdc : ∀ j, j < n' → cols d j = img (cols la) (cols lb j) n' := fun j hj => by rw [← hd]; exact laws_FnAffine.comp_cols hlb hj
    have hid : invB (n' : Int) d = true := by
      refine laws_FnAffine.invB_mk hn (by rw [← hd, List.length_map, hlb]) (fun c hc => ?_) (indep_two (fun j hj => (cb j hj).1) da db hdc)
      rw [← hd] at hc
      obtain ⟨x, _, rfl⟩ := List.mem_map.mp hc
      have := img_lt (g := cols la) (N := n') x.toNat (fun j hj => (ca j hj).1)
      omega
    rw [hd]
    obtain ⟨t, ht⟩ := laws_FnAffine.at_some b (show (0 : Int) ≤ 4 by decide)
    have hs : shl .i64 1 (n' : Int) = ((2 ^ n' : Nat) : Int) := shl_one (by omega)
    have hs0 : ¬ (((2 ^ n' : Nat) : Int) = 0) := by have := Nat.two_pow_pos n'; omega
    obtain ⟨x, hx⟩ : ∃ x, Int.tmod t ((2 ^ n' : Nat) : Int) = x := ⟨_, rfl⟩
    have heq : mapI (n' : Int) d 0 x = mapI (n' : Int) la 0 (mapI (n' : Int) lb 0 x) := by
      have z : ((0 : Nat) : Int) = 0 := rfl
      have p0 := Nat.two_pow_pos n'
      cases hr : inR n' x with
      | false => rw [laws_FnAffine.mapI_bad hr, laws_FnAffine.mapI_bad hr, laws_FnAffine.mapI_bad (laws_FnAffine.inR_neg n')]
      | true =>
        obtain ⟨y, rfl, hy⟩ := inR_nat hr
        rw [← z, laws_FnAffine.mapI_nat hid p0 hy, laws_FnAffine.mapI_nat ib p0 hy, Nat.xor_zero, Nat.xor_zero, laws_FnAffine.mapI_nat ia p0 (img_lt y (fun j hj => (cb j hj).1)), Nat.xor_zero, img_two hdc]
    refine Ev.step (f := ?f) ?h ?k
    case h =>
      intro q; simp only [laws_FnAffine.j3]
      rw [if_neg (by decide), if_pos trivial, ht, Option.bind_some, if_pos (Int.natCast_nonneg n'), hs, if_neg hs0, hx]
    case k =>
      refine Ev.bind (Ev.const (r := true) (show impl_IsInvertible.f (n' : Int) d = some true by unfold impl_IsInvertible.f; rw [hid])) ?_
      refine Ev.congr (fun q => if_pos rfl) ?_
      refine Ev.bind (impl_MapInput.ev _ _ _ _) (Ev.bind (impl_MapInput.ev _ _ _ _) (Ev.bind (impl_MapInput.ev _ _ _ _) ?_))
      exact Ev.congr (fun q => if_pos heq) h4
  · rw [if_neg hc]
    refine Ev.step (fun q => ?_) h4
    simp only [laws_FnAffine.j3]
    rw [if_neg (by decide), if_neg (by decide)]
theorem laws_FnAffine.j2_ev (b : List Int) (hb : b.length ≤ 1048576) : Ev (fun k => laws_FnAffine.j2 k b) true := by
  refine Ev.step (f := ?f) ?h ?k
  case h => intro q; simp only [laws_FnAffine.j2]; exact rfl
  case k =>
    obtain ⟨r, hr, e⟩ := spec_DrawComposeMaps.ok b hb
    refine Ev.bind e (Ev.bind (impl_ComposeMaps.ev r.1 r.2.1 r.2.2) (Ev.bind (spec_ComposeMaps.ev r.1 r.2.1 r.2.2) ?_))
    refine Ev.congr (fun q => if_neg (by simp)) ?_
    have hl : (compL r.1 r.2.1 r.2.2).1.length ≤ 1000000 := by
      have := hr.2
      unfold compL
      split
      · show (r.2.2.map _).length ≤ _; rw [List.length_map]; omega
      · show 0 ≤ _; omega
    refine Ev.bind (laws_FnAffine.same_ev _ hl) ?_
    exact laws_FnAffine.j3_ev b hb r.1 r.2.1 r.2.2
theorem laws_FnAffine.val_nat {n v y : Nat} (hn : n ≤ 5) (hv : v < 2 ^ 2 ^ n) (hy : y < 2 ^ n) : impl_ValueAt.f (n : Int) (v : Int) (y : Int) = some (((v.testBit y).toNat : Nat) : Int) := by
  have h32 := pow_le_5 hn
  have h63 : v < 2 ^ 63 := Nat.lt_trans hv (full_p63 hn)
  unfold impl_ValueAt.f
  rw [impl_hasInput.ev, isT_mk hn hv, Int.toNat_natCast, inR_mk hy, Option.bind_some, if_pos (by rfl)]
  unfold impl_Table_at.f
  rw [if_pos (Int.natCast_nonneg y), bit_nat h63 (by omega)]; rfl
theorem laws_FnAffine.val_bad {n v : Nat} {x : Int} (hx : inR n x = false) : impl_ValueAt.f (n : Int) (v : Int) x = some (-1) := by
  unfold impl_ValueAt.f
  rw [impl_hasInput.ev, Int.toNat_natCast, hx, Option.bind_some, if_neg (by simp)]
theorem laws_FnAffine.j1_ev (b : List Int) (hb : b.length ≤ 1048576) {n v s : Nat} {m : List Int} (hn : n ≤ 5) (hv : v < 2 ^ 2 ^ n) (hi : invB (n : Int) m = true) (hg : ∀ j, j < n → cols m j < 2 ^ n) (hs : s < 2 ^ n) :
    Ev (fun k => laws_FnAffine.j1 k b m (s : Int) false (n : Int) (v : Int) (n : Int) ((affW n v s (cols m) : Nat) : Int)) true := by
  obtain ⟨t, ht⟩ := laws_FnAffine.at_some b (show (0 : Int) ≤ 3 by decide)
  have hs1 : shl .i64 1 (n : Int) = ((2 ^ n : Nat) : Int) := shl_one (by omega)
  have hs0 : ¬ (((2 ^ n : Nat) : Int) = 0) := by have := Nat.two_pow_pos n; omega
  obtain ⟨x, hx⟩ : ∃ x, Int.tmod t ((2 ^ n : Nat) : Int) = x := ⟨_, rfl⟩
  have heq : ∃ u, impl_ValueAt.f (n : Int) ((affW n v s (cols m) : Nat) : Int) x = some u ∧ impl_ValueAt.f (n : Int) (v : Int) (mapI (n : Int) m (s : Int) x) = some u := by
    cases hr : inR n x with
    | false => exact ⟨-1, laws_FnAffine.val_bad hr, by rw [laws_FnAffine.mapI_bad hr]; exact laws_FnAffine.val_bad (laws_FnAffine.inR_neg n)⟩
    | true =>
      obtain ⟨y, rfl, hy⟩ := inR_nat hr
      refine ⟨_, laws_FnAffine.val_nat hn (affW_lt _ _ _ _) hy, ?_⟩
      rw [laws_FnAffine.mapI_nat hi hs hy, laws_FnAffine.val_nat hn hv (Nat.xor_lt_two_pow (img_lt y hg) hs), affW_bit hy]; rfl
  obtain ⟨u, u1, u2⟩ := heq
  refine Ev.step (f := ?f) ?h ?k
  case h =>
    intro q; simp only [laws_FnAffine.j1]
    rw [if_neg (by decide), ht, Option.bind_some, if_pos (Int.natCast_nonneg n), hs1, if_neg hs0, hx]
  case k =>
    refine Ev.bind (Ev.const u1) (Ev.bind (impl_MapInput.ev _ _ _ _) (Ev.bind (Ev.const u2) ?_))
    exact Ev.congr (fun q => if_pos rfl) (laws_FnAffine.j2_ev b hb)
theorem laws_FnAffine.ones_word {n v : Nat} (hn : n ≤ 5) (hv : v < 2 ^ 2 ^ n) : impl_CountOnes.f (n : Int) (v : Int) = some ((cnt v.testBit (2 ^ n) : Nat) : Int) := by
  have h32 := pow_le_5 hn
  have hw : v < 2 ^ 32 := Nat.lt_of_lt_of_le hv (full_lt hn)
  have hp := pc_of_lt hv (32 - 2 ^ n)
  rw [show 2 ^ n + (32 - 2 ^ n) = 32 by omega] at hp
  unfold impl_CountOnes.f
  rw [impl_IsTable.ev, isT_mk hn hv, Option.bind_some, if_pos rfl, impl_ones.ev hw, Option.bind_some]
  unfold pc
  rw [hp]
theorem laws_FnAffine.img_some {n v s : Nat} {m : List Int} (hn : n ≤ 5) (hv : v < 2 ^ 2 ^ n) (hi : invB (n : Int) m = true) (hs : s < 2 ^ n) : impl_AffineImage.f (n : Int) (v : Int) m (s : Int) = some ((n : Int), ((affW n v s (cols m) : Nat) : Int), true) := by
  have h32 := full_lt hn
  have hp := pow_le_5 hn
  unfold impl_AffineImage.f
  rw [impl_hasInput.ev, isT_mk hn hv, Int.toNat_natCast, inR_mk hs, Option.bind_some, if_pos (by rfl), if_pos hi, if_pos (by omega)]
  rfl
theorem laws_FnAffine.inv_list {n : Nat} {l : List Int} (hi : invB (n : Int) l = true) : ∃ q : List Int, Ev (fun k => impl_InverseMap.f k (n : Int) l) (q, true) ∧ invB (n : Int) q = true ∧ Inv n (cols l) (cols q) := by
  obtain ⟨n', en, hn, hl', hc, hind⟩ := invB_open hi
  obtain rfl : n' = n := by omega
  obtain ⟨p, hp, hI⟩ := laws_FnAffine.inv_cols hc hind
  have hq : ∀ j, j < n' → cols (ints ((List.range n').map p)) j = p j := fun j hj => by
    unfold cols
    rw [ints_getD, Int.toNat_natCast]
    simp [List.getD_eq_getElem?_getD, hj]
  have hI2 : Inv n' (cols l) (cols (ints ((List.range n').map p))) := by
    refine ⟨hI.gl, fun j hj => by rw [hq j hj]; exact hI.pl j hj, fun j hj => by rw [hq j hj]; exact hI.gp j hj, fun j hj => ?_⟩
    rw [img_congr hq]
    exact hI.pg j hj
  refine ⟨_, impl_InverseMap.evT hi hp, ?_, hI2⟩
  refine laws_FnAffine.invB_mk hn (ints_range_length _ _) (fun c hc => ?_) hI2.symm.indep
  obtain ⟨x, hx, rfl⟩ := List.mem_map.mp hc
  obtain ⟨j, hj, rfl⟩ := List.mem_map.mp hx
  have := hI.pl j (List.mem_range.mp hj)
  omega
theorem laws_FnAffine.j0_ev (b : List Int) (hb : b.length ≤ 1048576) {n v s : Nat} {m : List Int} (hn : n ≤ 5) (hv : v < 2 ^ 2 ^ n) (hi : invB (n : Int) m = true) (hs : s < 2 ^ n) :
    Ev (fun k => laws_FnAffine.j0 k b m (s : Int) true false (n : Int) (v : Int) (n : Int) ((affW n v s (cols m) : Nat) : Int)) true := by
  obtain ⟨q, eq, iq, hI⟩ := laws_FnAffine.inv_list hi
  have p0 := Nat.two_pow_pos n
  have hg := hI.gl
  have h1 := laws_FnAffine.j1_ev b hb hn hv hi hg hs
  have hW := affW_lt n v s (cols m)
  have hS := affW_lt n v 0 (cols m)
  have hd := degW_keep (v := v) hn hI hv hs
  have hf := flat_aff (v := v) hn hI hs
  have hk := peak_aff (v := v) hn hI hs
  have hr := rej_aff (v := v) hI
  have hz := fun j => sizes_aff (v := v) hn hI hs j
  have hc : cnt (affW n (affW n v s (cols m)) 0 (cols q)).testBit (2 ^ n) = cnt v.testBit (2 ^ n) := (affW_cnt (s := 0) hI.symm p0).trans (affW_cnt hI hs)
  have hu := affW_undo hI hv
  obtain ⟨W, eW⟩ : ∃ W, affW n v s (cols m) = W := ⟨_, rfl⟩
  obtain ⟨S, eS⟩ : ∃ S, affW n v 0 (cols m) = S := ⟨_, rfl⟩
  have a2 := laws_FnAffine.img_some (v := W) (s := 0) hn (by rw [← eW]; exact hW) iq p0
  have a3 := laws_FnAffine.img_some (s := 0) hn hv hi p0
  have a4 := laws_FnAffine.img_some (v := S) (s := 0) hn (by rw [← eS]; exact hS) iq p0
  rw [eS] at a3 hS hr hu
  rw [eW] at hW hd hf hk hz hc h1 ⊢
  rw [hu] at a4
  have h5 := pow_le_5 hn
  have hL : listZ (2 ^ n + 1) (fun j => ((sizesN (spZ n W) (2 ^ n) j : Nat) : Int)) = listZ (2 ^ n + 1) (fun j => ((sizesN (spZ n v) (2 ^ n) j : Nat) : Int)) := listZ_congr (fun j _ => by show ((sizesN (spZ n v) (2 ^ n) j : Nat) : Int) = ((sizesN (spZ n W) (2 ^ n) j : Nat) : Int); rw [hz j])
  refine Ev.step (f := ?f) ?h ?k
  case h =>
    intro k; simp only [laws_FnAffine.j0]
    rw [if_neg (by decide), if_pos trivial]
  case k =>
    refine Ev.bind eq (Ev.bind (Ev.const a2) (Ev.bind (Ev.const a3) (Ev.bind (Ev.const a4) ?_)))
    refine Ev.congr (fun k => if_pos rfl) (Ev.congr (fun k => if_pos rfl) (Ev.congr (fun k => if_pos rfl) (Ev.congr (fun k => if_pos rfl) ?_)))
    refine Ev.congr (fun k => if_neg (by simp)) ?_
    refine Ev.bind (Ev.const (laws_FnAffine.ones_word hn (affW_lt _ _ _ _))) (Ev.bind (Ev.const (laws_FnAffine.ones_word hn hv)) ?_)
    refine Ev.congr (fun k => if_pos (by rw [hc])) ?_
    refine Ev.bind (Ev.const (impl_DegreeMod2.ev hn hW)) (Ev.bind (Ev.const (impl_DegreeMod2.ev hn hv)) ?_)
    refine Ev.congr (fun k => if_pos hd) ?_
    refine Ev.bind (impl_SpectrumProfile.evT hn hW) (Ev.bind (impl_SpectrumProfile.evT hn hv) ?_)
    rw [hL]
    refine Ev.bind (laws_FnAffine.same_ev _ (by rw [listZ_length]; omega)) ?_
    refine Ev.congr (fun k => if_pos rfl) ?_
    refine Ev.bind (impl_IsBent.ev hn hW) (Ev.bind (impl_IsBent.ev hn hv) ?_)
    refine Ev.congr (fun k => if_neg (by rw [hf]; simp)) ?_
    refine Ev.bind (impl_Nonlinearity.ev hn hW) (Ev.bind (impl_Nonlinearity.ev hn hv) ?_)
    refine Ev.congr (fun k => if_pos (by rw [hk])) ?_
    refine Ev.bind (impl_TestRejects.ev hn hS) (Ev.bind (impl_TestRejects.ev hn hv) ?_)
    rw [hr, bne_self_eq_false]
    exact h1
theorem laws_FnAffine.img_both (a b : Int) (m : List Int) (s : Int) : ∃ R : Int × Int × Bool, impl_AffineImage.f a b m s = some R ∧ Ev (fun k => spec_AffineImage.f k a b m s) R ∧
    (R.2.2 = false ∨ ∃ n v y : Nat, a = (n : Int) ∧ b = (v : Int) ∧ s = (y : Int) ∧ n ≤ 5 ∧ v < 2 ^ 2 ^ n ∧ invB (n : Int) m = true ∧ y < 2 ^ n ∧ R = ((n : Int), ((affW n v y (cols m) : Nat) : Int), true)) := by
  cases h : spec_AffineImage.fine a b m s with
  | false =>
    refine ⟨(0, 0, false), ?_, spec_AffineImage.evF h, .inl rfl⟩
    unfold impl_AffineImage.f
    rw [impl_hasInput.ev]
    unfold spec_AffineImage.fine at h
    cases h1 : isT a b <;> cases h2 : inR a.toNat s <;> cases h3 : invB a m <;> first | rfl | (rw [h1, h2, h3] at h; cases h)
  | true =>
    unfold spec_AffineImage.fine at h
    rw [Bool.and_eq_true, Bool.and_eq_true] at h
    obtain ⟨h1, h2, h3⟩ := h
    obtain ⟨n, v, rfl, rfl, hn, hv⟩ := isT_nat h1
    rw [Int.toNat_natCast] at h3
    obtain ⟨y, rfl, hy⟩ := inR_nat h3
    exact ⟨_, laws_FnAffine.img_some hn hv h2 hy, spec_AffineImage.evT hn hv h2 hy, .inr ⟨n, v, y, rfl, rfl, rfl, hn, hv, h2, hy, rfl⟩⟩
theorem laws_FnAffine.all_ev (b : List Int) (hb : b.length ≤ 1048576) : Ev (fun k => laws_FnAffine.f k b) true := by
  unfold laws_FnAffine.f
  refine Ev.bind (Ev.const (r := false) (show laws_big.f b = some false by unfold laws_big.f; rw [decide_eq_false (by omega)])) ?_
  refine Ev.congr (fun q => if_neg (by decide)) ?_
  obtain ⟨r, _, e⟩ := spec_DrawAffineImage.ok b hb
  refine Ev.bind e ?_
  obtain ⟨R, i1, i2, hR⟩ := laws_FnAffine.img_both r.1 r.2.1 r.2.2.1 r.2.2.2
  refine Ev.bind (Ev.const i1) (Ev.bind i2 ?_)
  refine Ev.congr (fun q => if_neg (by simp)) ?_
  rw [bne_self_eq_false]
  obtain ⟨r1, r2, r3, r4⟩ := r
  rcases hR with h0 | ⟨n, v, y, h1, h2, h3, hn, hv, hi, hy, rfl⟩
  · rw [h0]
    refine Ev.step (fun q => ?_) (laws_FnAffine.j2_ev b hb)
    simp only [laws_FnAffine.j0]
    rw [if_neg (by decide), if_neg (by decide)]
  · dsimp only at h1 h2 h3 hi ⊢
    subst h1 h2 h3
    exact laws_FnAffine.j0_ev b hb hn hv hi hy
theorem laws_FnAffine.pure_ : laws_FnAffine.Pure := by
  intro l _ _ _
  by_cases hb : l.length ≤ 1048576
  · obtain ⟨K, h⟩ := laws_FnAffine.all_ev l hb
    exact ⟨K, h K (Nat.le_refl K)⟩
  · refine ⟨0, ?_⟩
    unfold laws_FnAffine.f laws_big.f
    rw [Option.bind_some, if_pos (decide_eq_true (by omega))]
end Go.Proofs.Ytodfifkgohjpfaa.Print
