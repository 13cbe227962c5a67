import Derived.Test.YtloekoepknfodaaKThreshold2
import Derived.Test.YtloekoepknfodaaKThreshold6
import Derived.Test.YtloekoepknfodaaKThreshold8
import Derived.Test.YtloekoepknfodaaKThreshold18
import Derived.Test.YtloekoepknfodaaKThreshold24
import Derived.Test.YtloekoepknfodaaKThreshold25
import Derived.Test.YtloekoepknfodaaM40
namespace Go.Proofs.Ytloekoepknfodaa.Print
open Go.RowKit Go.Proofs.YtloekoepknfodaaW.PrintWords Go.Proofs.YtloekoepknfodaaW.PrintLast Go.Proofs.YtloekoepknfodaaW.PrintMore
attribute [local go_sem] max2_int min2_int max_two min_two max_three min_three max_four min_four   -- for this text's walks alone
set_option linter.unusedVariables false
set_option linter.unusedSimpArgs false

theorem spec_l1In.ev (a b c : Int) : spec_l1In.f a b c = some (decide (b ≤ a ∧ a ≤ c)) := by
 unfold spec_l1In.f
 by_cases h : b ≤ a
 ·rw [if_pos h]; simp [h]
 ·rw [if_neg h]; simp [h]

open Go.Proofs.Ytloekoepknfodaa.M
theorem spec_l16Sum.ev {l : List Int} (h5 : l.length ≤ 5) (hl : l.all impl_TableOfWeights.ok = true) (x : Nat) (hx : x < 2 ^ 62) : Ev (fun k => spec_l16Sum.f k l (x : Int)) (wS l x l.length) := by
 refine Ev.congr (f := fun k => spec_l16Sum.l0 k l (x : Int) (wS l x 0) ((0 : Nat) : Int)) (fun k => rfl) ?_
 refine Ev.count (fun k i => spec_l16Sum.l0 k l (x : Int) (wS l x i) (i : Int)) l.length _ (fun i hi h => ?_) (Ev.end (fun k => ?_)) l.length 0 (by omega)
 ·have hs := impl_TableOfWeights.small hl x i
  have hs1 := impl_TableOfWeights.small hl x (i + 1)
  refine Ev.step (fun k => ?_) h
  simp only [spec_l16Sum.l0]
  have hb := bit_nat (a := x) (n := i) (by omega) (by omega)
  rw [if_pos (by omega), if_pos (by omega), up1 (by omega), hb, rd_nat]
  simp only [wS] at hs1 ⊢
  cases hq : x.testBit i with
  | true =>
   rw [hq] at hs1
   simp only [↓reduceIte] at hs1 ⊢
   rw [if_pos (show ((true.toNat : Nat) : Int) = 1 from rfl), w64 (by omega) (by omega)]
  | false =>
   rw [if_neg (show ¬ ((false.toNat : Nat) : Int) = 1 by decide)]
   simp
 ·simp only [spec_l16Sum.l0]
  rw [if_neg (by omega)]

def spec_TableOfWeights.r (l : List Int) (t : Int) : Int × Int × Bool := if l.length ≤ 5 ∧ -1000 ≤ t ∧ t ≤ 1000 ∧ l.all impl_TableOfWeights.ok = true then ((l.length : Int), ((impl_TableOfWeights.word l t : Nat) : Int), true) else (0, 0, false)
theorem spec_TableOfWeights.impl_r (l : List Int) (t : Int) : impl_TableOfWeights.f l t = some (spec_TableOfWeights.r l t) := by
 unfold impl_TableOfWeights.f spec_TableOfWeights.r
 split <;> rfl
theorem spec_TableOfWeights.build {l : List Int} (h5 : l.length ≤ 5) (hl : l.all impl_TableOfWeights.ok = true) (t : Int) : Ev (fun k => spec_TableOfWeights.l1 k l t 0 0) ((l.length : Int), ((impl_TableOfWeights.word l t : Nat) : Int), true) := by
 have h32 := pow_le_5 h5
 refine Ev.congr (f := fun k => spec_TableOfWeights.l1 k l t ((prefW (fun x => decide (t ≤ wS l x l.length)) 0 : Nat) : Int) ((0 : Nat) : Int)) (fun k => rfl) ?_
 refine Ev.count (fun k i => spec_TableOfWeights.l1 k l t ((prefW (fun x => decide (t ≤ wS l x l.length)) i : Nat) : Int) (i : Int)) (2 ^ l.length) _ (fun i hi h => ?_) (Ev.end (fun k => ?_)) (2 ^ l.length) 0 (by omega)
 ·have e : ∀ k, spec_TableOfWeights.l1 (k + 1) l t ((prefW (fun x => decide (t ≤ wS l x l.length)) i : Nat) : Int) (i : Int) = (spec_l16Sum.f k l (i : Int)).bind fun t106 => if t106 ≥ t then spec_TableOfWeights.l1 k l t (Go.bits .or .i64 ((prefW (fun x => decide (t ≤ wS l x l.length)) i : Nat) : Int) (shl .i64 1 (i : Int))) ((i + 1 : Nat) : Int) else spec_TableOfWeights.l1 k l t ((prefW (fun x => decide (t ≤ wS l x l.length)) i : Nat) : Int) ((i + 1 : Nat) : Int) := by
   intro k
   simp only [spec_TableOfWeights.l1]
   rw [if_pos (by rw [shl_one (by omega)]; omega), if_pos (Int.natCast_nonneg i), up1 (by omega)]
  refine Ev.step e (Ev.bind (spec_l16Sum.ev h5 hl i (by omega)) ?_)
  by_cases g : t ≤ wS l i l.length
  ·have hg : (fun x => decide (t ≤ wS l x l.length)) i = true := decide_eq_true g
   refine Ev.congr (fun k => if_pos g) ?_
   rw [show shl .i64 1 (i : Int) = wrap64 (2 ^ i) from by unfold shl; rw [min_bits (by omega), Int.one_mul, i64_w]]
   have := prefW_step_one (g := fun x => decide (t ≤ wS l x l.length)) (x := i) (by omega) hg
   rw [show shl .i64 1 (i : Int) = wrap64 (2 ^ i) from by unfold shl; rw [min_bits (by omega), Int.one_mul, i64_w]] at this
   rw [this]; exact h
  ·have hg : (fun x => decide (t ≤ wS l x l.length)) i = false := decide_eq_false g
   refine Ev.congr (fun k => if_neg g) ?_
   rw [prefW_skip hg] at h; exact h
 ·simp only [spec_TableOfWeights.l1]
  rw [if_neg (by rw [shl_one (by omega)]; omega)]; rfl
theorem spec_TableOfWeights.ev (l : List Int) (t : Int) (hll : l.length ≤ 1000000) : Ev (fun k => spec_TableOfWeights.f k l t) (spec_TableOfWeights.r l t) := by
 by_cases hl : l.all impl_TableOfWeights.ok = true
 ·refine Ev.congr (f := fun k => spec_TableOfWeights.l0 k l t ((0 : Nat) : Int)) (fun k => rfl) ?_
  refine Ev.count (fun k i => spec_TableOfWeights.l0 k l t (i : Int)) l.length _ (fun i hi h => ?_) ?_ l.length 0 (by omega)
  ·refine Ev.step (fun k => ?_) h
   have hg : rd l (i : Int) = l[i] := by rw [rd_nat, List.getD_eq_getElem?_getD, List.getElem?_eq_getElem hi, Option.getD_some]
   have ho := of_decide_eq_true (List.all_eq_true.mp hl l[i] (List.getElem_mem hi))
   simp only [spec_TableOfWeights.l0]
   rw [if_pos (by omega), if_pos (Int.natCast_nonneg i), hg, spec_l1In.ev, decide_eq_true ho, Option.bind_some, if_pos rfl, up1 (by omega)]
  ·unfold spec_TableOfWeights.r
   by_cases h5 : l.length ≤ 5
   ·by_cases ht : -1000 ≤ t ∧ t ≤ 1000
    ·rw [if_pos ⟨h5, ht.1, ht.2, hl⟩]
     refine Ev.step (f := fun k => spec_TableOfWeights.j1 k l t false) (fun k => ?_) (Ev.step (f := fun k => spec_TableOfWeights.l1 k l t 0 0) (fun k => ?_) (spec_TableOfWeights.build h5 hl t))
     ·simp only [spec_TableOfWeights.l0]
      rw [if_neg (by omega), if_neg (by omega), spec_l1In.ev, decide_eq_true ht, Option.bind_some]; rfl
     ·simp only [spec_TableOfWeights.j1]
      rw [if_neg (by decide)]
    ·rw [if_neg (fun e => ht ⟨e.2.1, e.2.2.1⟩)]
     refine Ev.step (f := fun k => spec_TableOfWeights.j1 k l t true) (fun k => ?_) (Ev.end (fun k => ?_))
     ·simp only [spec_TableOfWeights.l0]
      rw [if_neg (by omega), if_neg (by omega), spec_l1In.ev, decide_eq_false ht, Option.bind_some]; rfl
     ·simp only [spec_TableOfWeights.j1]
      rw [if_pos trivial]
   ·rw [if_neg (fun e => h5 e.1)]
    refine Ev.step (f := fun k => spec_TableOfWeights.j1 k l t true) (fun k => ?_) (Ev.end (fun k => ?_))
    ·simp only [spec_TableOfWeights.l0]
     rw [if_neg (by omega), if_pos (by omega)]
    ·simp only [spec_TableOfWeights.j1]
     rw [if_pos trivial]
 ·have hr : spec_TableOfWeights.r l t = (0, 0, false) := by unfold spec_TableOfWeights.r; rw [if_neg (fun e => hl e.2.2.2)]
  rw [hr]
  have hex : ∃ j, j < l.length ∧ impl_TableOfWeights.ok (l.getD j 0) = false := by
   rw [Bool.not_eq_true, List.all_eq_false] at hl
   obtain ⟨x, hx, hb⟩ := hl
   obtain ⟨j, hj, he⟩ := List.getElem_of_mem hx
   exact ⟨j, hj, by rw [List.getD_eq_getElem?_getD, List.getElem?_eq_getElem hj, Option.getD_some, he]; simpa using hb⟩
  obtain ⟨j, hj, hb⟩ := hex
  refine Ev.congr (f := fun k => spec_TableOfWeights.l0 k l t ((0 : Nat) : Int)) (fun k => rfl) ?_
  refine Ev.bad (fun k i => spec_TableOfWeights.l0 k l t (i : Int)) l.length _ (fun i => impl_TableOfWeights.ok (l.getD i 0)) (fun i hi hk h => ?_) (fun i hi hk => ?_) l.length 0 (by omega) ⟨j, Nat.zero_le _, hj, hb⟩
  ·have ho := of_decide_eq_true hk
   refine Ev.step (fun k => ?_) h
   simp only [spec_TableOfWeights.l0]
   rw [if_pos (by omega), if_pos (Int.natCast_nonneg i), rd_nat, spec_l1In.ev, decide_eq_true ho, Option.bind_some, if_pos rfl, up1 (by omega)]
  ·have ho := of_decide_eq_false hk
   refine Ev.end (fun k => ?_)
   simp only [spec_TableOfWeights.l0]
   rw [if_pos (by omega), if_pos (Int.natCast_nonneg i), rd_nat, spec_l1In.ev, decide_eq_false ho, Option.bind_some, if_neg (by decide)]

theorem spec_l1Byte.ok (b : List Int) (i h : Int) (hb : b.length ≤ 1048576) (hi : 0 ≤ i) : ∃ x i' h', spec_l1Byte.f b i h = some (x, i', h') ∧ 0 ≤ x ∧ x ≤ 255 ∧ 0 ≤ i' := by
 unfold spec_l1Byte.f
 by_cases hc : i < (b.length : Int)
 ·rw [if_pos hc, if_pos hi, w64 (x := i + 1) (by omega) (by omega)]
  exact ⟨_, _, _, rfl, (and_255 _).1, (and_255 _).2, by omega⟩
 ·rw [if_neg hc]
  exact ⟨_, _, _, rfl, (and_255 _).1, (and_255 _).2, hi⟩

theorem spec_l1Below.ok (b : List Int) (i h n : Int) (hb : b.length ≤ 1048576) (hi : 0 ≤ i) (h1 : 1 ≤ n) (h2 : n ≤ 256) : ∃ x i' h', spec_l1Below.f b i h n = some (x, i', h') ∧ 0 ≤ x ∧ x < n ∧ 0 ≤ i' := by
 obtain ⟨x, i', h', e, e1, e2, e3⟩ := spec_l1Byte.ok b i h hb hi
 unfold spec_l1Below.f
 rw [if_neg (by omega), if_pos h2, e, Option.bind_some, if_neg (by omega)]
 exact ⟨_, _, _, rfl, Int.tmod_nonneg n e1, Int.tmod_lt_of_pos x (by omega), e3⟩
theorem spec_l1Below.big (b : List Int) (i h n : Int) (hb : b.length ≤ 1048576) (hi : 0 ≤ i) (h1 : 256 < n) : ∃ x i' h', spec_l1Below.f b i h n = some (x, i', h') ∧ 0 ≤ i' := by
 obtain ⟨x1, i1, h1', e1, _, _, p1⟩ := spec_l1Byte.ok b i h hb hi
 obtain ⟨x2, i2, h2', e2, _, _, p2⟩ := spec_l1Byte.ok b i1 h1' hb p1
 obtain ⟨x3, i3, h3', e3, _, _, p3⟩ := spec_l1Byte.ok b i2 h2' hb p2
 obtain ⟨x4, i4, h4', e4, _, _, p4⟩ := spec_l1Byte.ok b i3 h3' hb p3
 unfold spec_l1Below.f
 rw [if_neg (by omega), if_neg (by omega), e1, Option.bind_some, e2, Option.bind_some, e3, Option.bind_some, e4, Option.bind_some, if_neg (by omega)]
 exact ⟨_, _, _, rfl, p4⟩

theorem spec_l1Once.ok (b : List Int) (i h n : Int) (hb : b.length ≤ 1048576) (hi : 0 ≤ i) (h1 : 1 ≤ n) (h2 : n ≤ 256) : ∃ x i' h', spec_l1Once.f b i h n = some (x, i', h') ∧ 0 ≤ i' := by
 obtain ⟨y, i2, h3, e, _, _, y3⟩ := spec_l1Below.ok b i h n hb hi h1 h2
 unfold spec_l1Once.f
 rw [e, Option.bind_some]
 exact ⟨_, _, _, rfl, y3⟩

theorem spec_l1PickInt.ok (b : List Int) (i h : Int) (l : List Int) (hb : b.length ≤ 1048576) (hi : 0 ≤ i) (h1 : 1 ≤ l.length) (h2 : l.length ≤ 256) : ∃ x i' h', spec_l1PickInt.f b i h l = some (x, i', h') ∧ x ∈ l ∧ 0 ≤ i' := by
 obtain ⟨x, i', h', e, e1, e2, e3⟩ := spec_l1Below.ok b i h (l.length : Int) hb hi (by omega) (by omega)
 unfold spec_l1PickInt.f
 rw [e, Option.bind_some, if_pos e1, if_pos e2]
 refine ⟨_, _, _, rfl, ?_, e3⟩
 obtain ⟨j, rfl⟩ := nat_of e1
 have hj : j < l.length := by omega
 show rd l (j : Int) ∈ l
 simp [rd, List.getD_eq_getElem?_getD, hj]

theorem spec_l2Full.ev {n : Nat} (h : n ≤ 5) : spec_l2Full.f n = some (((2 ^ 2 ^ n : Nat) : Int) - 1) := by
 unfold spec_l2Full.f
 rw [if_pos (Int.natCast_nonneg n), full_word h]

theorem spec_l2Count.loop : ∀ (d w acc : Nat), w < 2 ^ d → d ≤ 62 → acc + d ≤ 1000 → Ev (fun k => spec_l2Count.l0 k acc w) ((acc + cnt w.testBit d : Nat) : Int)
 | 0, w, acc, hw, _, ha => by
  obtain rfl : w = 0 := by omega
  refine Ev.end (fun k => ?_)
  simp only [spec_l2Count.l0]
  rw [if_neg (by omega)]; rfl
 | d + 1, w, acc, hw, hd, ha => by
  by_cases h0 : w = 0
  ·subst h0
   refine Ev.end (fun k => ?_)
   simp only [spec_l2Count.l0]
   rw [if_neg (by omega), cnt_zero]; rfl
  ·have h := spec_l2Count.loop d (w / 2) (acc + w % 2) (by rw [Nat.pow_succ] at hw; omega) (by omega) (by omega)
   rw [show acc + w % 2 + cnt (w / 2).testBit d = acc + cnt w.testBit (d + 1) by rw [cnt_half]; omega] at h
   refine Ev.step (fun k => ?_) h
   have hp := p63 (n := d + 1) hd
   simp only [spec_l2Count.l0]
   rw [if_pos (by omega)]
   have e1 : Go.bits .and .i64 (w : Int) 1 = ((w % 2 : Nat) : Int) := by
    rw [← Nat.and_one_is_mod]; exact and_nat (b := 1) (by omega) (by decide)
   rw [e1, w64 (by omega) (by omega)]
   congr 1
theorem spec_l2Count.ev {w : Nat} (h : w < 2 ^ 32) : Ev (fun k => spec_l2Count.f k w) ((pc w : Nat) : Int) := by
 have := spec_l2Count.loop 32 w 0 h (by omega) (by omega)
 rw [Nat.zero_add] at this
 exact this

theorem spec_l2Draw.fin {n : Nat} (hn : n ≤ 4) (x i h : Int) : ∃ W, (if (n : Int) = 0 then ((spec_l2Full.f (n : Int)).bind fun t => (some ((n : Int), Go.bits .and .i64 (Go.bits .and .i64 x 1) t, i, h))) else ((spec_l2Full.f (n : Int)).bind fun t => (some ((n : Int), Go.bits .and .i64 x t, i, h)))) = some ((n : Int), W, i, h) := by
 rw [spec_l2Full.ev (by omega)]
 by_cases e : (n : Int) = 0
 ·rw [if_pos e]; exact ⟨_, rfl⟩
 ·rw [if_neg e]; exact ⟨_, rfl⟩
theorem spec_l2Draw.pow_le {n : Nat} (hn : n ≤ 4) : 2 ^ n ≤ 16 := Nat.pow_le_pow_right (n := 2) (by decide) hn
theorem spec_l2Draw.ok0 (b : List Int) (i h : Int) (hi : 0 ≤ i) {n : Nat} (hn : n ≤ 4) (x : Int) : Tot (fun k => spec_l2Draw.l0 k n x 0 b i h) (fun r => r.1 = (n : Int) ∧ 0 ≤ r.2.2.1) := by
 have h16 := spec_l2Draw.pow_le hn
 have hn0 : (0 : Int) ≤ (n : Int) := Int.natCast_nonneg n
 have hs := shl_one (n := n) (by omega)
 refine Tot.up (S := Int) (fun j s k => spec_l2Draw.l0 k n s (j : Int) b i h) (2 ^ n) (fun _ _ => True) ?_ ?_ (2 ^ n) 0 x (by omega) trivial
 ·intro j s hj _ hnx
  have hlt : (j : Int) < ((2 ^ n : Nat) : Int) := Int.ofNat_lt.mpr hj
  have hj0 : (0 : Int) ≤ (j : Int) := Int.natCast_nonneg j
  have hu := up1 (x := j) (by omega)
  refine Tot.step (f := fun k => (spec_l2Count.f k j).bind fun t => if wrap64 (2 * t) > (n : Int) then spec_l2Draw.l0 k n (Go.bits .or .i64 s (shl .i64 1 (j : Int))) ((j + 1 : Nat) : Int) b i h else spec_l2Draw.l0 k n s ((j + 1 : Nat) : Int) b i h) (fun k => ?_) (Tot.bind (Tot.ev (P := fun _ => True) (spec_l2Count.ev (w := j) (by omega)) trivial) (fun t _ => Tot.ite _ (fun _ => hnx _ trivial) (fun _ => hnx _ trivial)))
  simp only [spec_l2Draw.l0, hs, hn0, hlt, hj0, hu, ↓reduceIte]
 ·intro s _
  obtain ⟨W, hW⟩ := spec_l2Draw.fin hn s i h
  refine Tot.end ((n : Int), W, i, h) ⟨rfl, hi⟩ (fun k => ?_)
  ·simp only [spec_l2Draw.l0, hs, hn0, Int.lt_irrefl, ↓reduceIte]
   exact hW
theorem spec_l2Draw.ok1 (b : List Int) (i h : Int) (hi : 0 ≤ i) {n : Nat} (hn : n ≤ 4) (x : Int) : Tot (fun k => spec_l2Draw.l1 k n x 0 b i h) (fun r => r.1 = (n : Int) ∧ 0 ≤ r.2.2.1) := by
 have h16 := spec_l2Draw.pow_le hn
 have hn0 : (0 : Int) ≤ (n : Int) := Int.natCast_nonneg n
 have hs := shl_one (n := n) (by omega)
 refine Tot.up (S := Int) (fun j s k => spec_l2Draw.l1 k n s (j : Int) b i h) (2 ^ n) (fun _ _ => True) ?_ ?_ (2 ^ n) 0 x (by omega) trivial
 ·intro j s hj _ hnx
  have hlt : (j : Int) < ((2 ^ n : Nat) : Int) := Int.ofNat_lt.mpr hj
  have hj0 : (0 : Int) ≤ (j : Int) := Int.natCast_nonneg j
  have hu := up1 (x := j) (by omega)
  refine Tot.step (f := fun k => (spec_l2Count.f k j).bind fun t => if Int.tmod t 2 = 1 then spec_l2Draw.l1 k n (Go.bits .or .i64 s (shl .i64 1 (j : Int))) ((j + 1 : Nat) : Int) b i h else spec_l2Draw.l1 k n s ((j + 1 : Nat) : Int) b i h) (fun k => ?_) (Tot.bind (Tot.ev (P := fun _ => True) (spec_l2Count.ev (w := j) (by omega)) trivial) (fun t _ => Tot.ite _ (fun _ => hnx _ trivial) (fun _ => hnx _ trivial)))
  simp only [spec_l2Draw.l1, hs, hn0, hlt, hj0, hu, ↓reduceIte]
 ·intro s _
  obtain ⟨W, hW⟩ := spec_l2Draw.fin hn s i h
  refine Tot.end ((n : Int), W, i, h) ⟨rfl, hi⟩ (fun k => ?_)
  ·simp only [spec_l2Draw.l1, hs, hn0, Int.lt_irrefl, ↓reduceIte]
   exact hW
theorem spec_l2Draw.ok2 (b : List Int) (i h y : Int) (hi : 0 ≤ i) {n : Nat} (hn : n ≤ 4) (x : Int) : Tot (fun k => spec_l2Draw.l2 k n x y 0 b i h) (fun r => r.1 = (n : Int) ∧ 0 ≤ r.2.2.1) := by
 have h16 := spec_l2Draw.pow_le hn
 have hn0 : (0 : Int) ≤ (n : Int) := Int.natCast_nonneg n
 have hs := shl_one (n := n) (by omega)
 refine Tot.up (S := Int) (fun j s k => spec_l2Draw.l2 k n s y (j : Int) b i h) (2 ^ n) (fun _ _ => True) ?_ ?_ (2 ^ n) 0 x (by omega) trivial
 ·intro j s hj _ hnx
  have hlt : (j : Int) < ((2 ^ n : Nat) : Int) := Int.ofNat_lt.mpr hj
  have hj0 : (0 : Int) ≤ (j : Int) := Int.natCast_nonneg j
  have hu := up1 (x := j) (by omega)
  refine Tot.step (f := fun k => if Go.bits .and .i64 (j : Int) y = y then spec_l2Draw.l2 k n (Go.bits .or .i64 s (shl .i64 1 (j : Int))) y ((j + 1 : Nat) : Int) b i h else spec_l2Draw.l2 k n s y ((j + 1 : Nat) : Int) b i h) (fun k => ?_) (Tot.ite _ (fun _ => hnx _ trivial) (fun _ => hnx _ trivial))
  simp only [spec_l2Draw.l2, hs, hn0, hlt, hj0, hu, ↓reduceIte]
 ·intro s _
  obtain ⟨W, hW⟩ := spec_l2Draw.fin hn s i h
  refine Tot.end ((n : Int), W, i, h) ⟨rfl, hi⟩ (fun k => ?_)
  ·simp only [spec_l2Draw.l2, hs, hn0, Int.lt_irrefl, ↓reduceIte]
   exact hW
theorem spec_l2Draw.ok3 (b : List Int) (hb : b.length ≤ 1048576) (i h : Int) (hi : 0 ≤ i) {n : Nat} (hn : n ≤ 4) (x : Int) : Tot (fun k => spec_l2Draw.l3 k n x 0 b i h) (fun r => r.1 = (n : Int) ∧ 0 ≤ r.2.2.1) := by
 have h16 := spec_l2Draw.pow_le hn
 have hn0 : (0 : Int) ≤ (n : Int) := Int.natCast_nonneg n
 have hs := shl_one (n := n) (by omega)
 refine Tot.up (S := Int × Int × Int) (fun j s k => spec_l2Draw.l3 k n s.1 (j : Int) b s.2.1 s.2.2) (2 ^ n) (fun _ s => 0 ≤ s.2.1) ?_ ?_ (2 ^ n) 0 (x, i, h) (by omega) hi
 ·rintro j ⟨s, i, h⟩ hj hi hnx
  have hlt : (j : Int) < ((2 ^ n : Nat) : Int) := Int.ofNat_lt.mpr hj
  have hj0 : (0 : Int) ≤ (j : Int) := Int.natCast_nonneg j
  have hu := up1 (x := j) (by omega)
  obtain ⟨q, i', h', e, _, _, e3⟩ := spec_l1Below.ok b i h 2 hb hi (by decide) (by decide)
  refine Tot.step (f := fun k => spec_l2Draw.l3 k n (Go.bits .or .i64 s (shl .i64 q (j : Int))) ((j + 1 : Nat) : Int) b i' h') (fun k => ?_) (hnx (_, i', h') e3)
  simp only [spec_l2Draw.l3, hs, hn0, hlt, hj0, hu, e, Option.bind_some, ↓reduceIte]
 ·rintro ⟨s, i, h⟩ hi
  obtain ⟨W, hW⟩ := spec_l2Draw.fin hn s i h
  refine Tot.end ((n : Int), W, i, h) ⟨rfl, hi⟩ (fun k => ?_)
  ·simp only [spec_l2Draw.l3, hs, hn0, Int.lt_irrefl, ↓reduceIte]
   exact hW
theorem spec_l2Draw.var {n j : Nat} (hn : n ≤ 4) (hj : j ≤ 4) : Tot (fun k => spec_l2Variable.f k n j) (fun _ => True) := by
 have h16 := spec_l2Draw.pow_le hn
 have hn0 : (0 : Int) ≤ (n : Int) := Int.natCast_nonneg n
 have hj1 : (0 : Int) ≤ (j : Int) := Int.natCast_nonneg j
 have hs := shl_one (n := n) (by omega)
 refine Tot.up (S := Int) (fun x s k => spec_l2Variable.l0 k n j s (x : Int)) (2 ^ n) (fun _ _ => True) ?_ ?_ (2 ^ n) 0 0 (by omega) trivial
 ·intro x s hx _ hnx
  have hlt : (x : Int) < ((2 ^ n : Nat) : Int) := Int.ofNat_lt.mpr hx
  have hx0 : (0 : Int) ≤ (x : Int) := Int.natCast_nonneg x
  have hu := up1 (x := x) (by omega)
  refine Tot.step (f := fun k => if Go.bits .and .i64 (shr .i64 (x : Int) (j : Int)) 1 = 1 then spec_l2Variable.l0 k n j (Go.bits .or .i64 s (shl .i64 1 (x : Int))) ((x + 1 : Nat) : Int) else spec_l2Variable.l0 k n j s ((x + 1 : Nat) : Int)) (fun k => ?_) (Tot.ite _ (fun _ => hnx _ trivial) (fun _ => hnx _ trivial))
  simp only [spec_l2Variable.l0, hs, hn0, hj1, hlt, hx0, hu, ↓reduceIte]
 ·intro s _
  refine Tot.end s trivial (fun k => ?_)
  simp only [spec_l2Variable.l0, hs, hn0, Int.lt_irrefl, ↓reduceIte]
theorem spec_l2Draw.ok (b : List Int) (hb : b.length ≤ 1048576) (i h : Int) (hi : 0 ≤ i) {n : Nat} (hn : n ≤ 4) : Tot (fun k => spec_l2Draw.f k b i h n) (fun r => r.1 = (n : Int) ∧ 0 ≤ r.2.2.1) := by
 obtain ⟨q, i', h', e, q1, q2, e3⟩ := spec_l1Below.ok b i h 6 hb hi (by decide) (by decide)
 have h16 := spec_l2Draw.pow_le hn
 have hn0 : (0 : Int) ≤ (n : Int) := Int.natCast_nonneg n
 have hs := shl_one (n := n) (by omega)
 have hp := Nat.two_pow_pos n
 unfold spec_l2Draw.f
 simp only [e, Option.bind_some]
 refine Tot.ite _ (fun _ => ?_) (fun _ => Tot.ite _ (fun _ => spec_l2Draw.ok0 b i' h' e3 hn 0) (fun _ => Tot.ite _ (fun _ => spec_l2Draw.ok1 b i' h' e3 hn 0) (fun _ => Tot.ite _ (fun _ => ?_) (fun _ => spec_l2Draw.ok3 b hb i' h' e3 hn 0))))
 ·have hm : 1 ≤ mx 1 (n : Int) ∧ mx 1 (n : Int) ≤ 4 := by unfold mx; split <;> omega
  obtain ⟨y, i2, h2, e2, y1, y2, y3⟩ := spec_l1Below.ok b i' h' (mx 1 (n : Int)) hb e3 hm.1 (by omega)
  simp only [e2, Option.bind_some]
  obtain ⟨j, rfl⟩ := nat_of y1
  refine Tot.bind (spec_l2Draw.var hn (j := j) (by omega)) (fun t _ => ?_)
  obtain ⟨W, hW⟩ := spec_l2Draw.fin hn t i2 h2
  exact Tot.congr (fun k => hW) (Tot.now _ ⟨rfl, y3⟩)
 ·simp only [hn0, hs, ↓reduceIte]
  obtain ⟨y, i2, h2, e2, y1, y2, y3⟩ := spec_l1Below.ok b i' h' ((2 ^ n : Nat) : Int) hb e3 (by omega) (by omega)
  simp only [e2, Option.bind_some]
  exact spec_l2Draw.ok2 b i2 h2 y y3 hn 0

theorem spec_l2Any.ok (b : List Int) (hb : b.length ≤ 1048576) (i h : Int) (hi : 0 ≤ i) : Tot (fun k => spec_l2Any.f k b i h) (fun r => 0 ≤ r.2.2.1) := by
 obtain ⟨q, i', h', e, q1, q2, e3⟩ := spec_l1Below.ok b i h 5 hb hi (by decide) (by decide)
 unfold spec_l2Any.f
 simp only [e, Option.bind_some]
 obtain ⟨n, rfl⟩ := nat_of q1
 refine Tot.bind (spec_l2Draw.ok b hb i' h' e3 (n := n) (by omega)) (fun r hr => ?_)
 obtain ⟨y, i2, h2, e2, _, _, y3⟩ := spec_l1Below.ok b r.2.2.1 r.2.2.2 14 hb hr.2 (by decide) (by decide)
 simp only [e2, Option.bind_some]
 obtain ⟨z0, i3, h3, w0, _, z1⟩ := spec_l1PickInt.ok b i2 h2 [(-1), 6, 5, 0, 9223372036854775807] hb y3 (by decide) (by decide)
 obtain ⟨z2, i4, h4, w1, _, z3⟩ := spec_l1PickInt.ok b i2 h2 [(-1), 0, 1, 65536, 9223372036854775807] hb y3 (by decide) (by decide)
 simp only [w0, w1, Option.bind_some]
 exact Tot.ite _ (fun _ => Tot.now _ z1) (fun _ => Tot.ite _ (fun _ => Tot.now _ z3) (fun _ => Tot.now _ y3))

theorem spec_l16Draw.ok0 (b : List Int) (hb : b.length ≤ 1048576) : ∀ (d : Nat), d ≤ 10 → ∀ (l : List Int), l.length + d ≤ 100 → ∀ (i h : Int), 0 ≤ i → Tot (fun k => spec_l16Draw.l0 k l (d : Int) b i h) (fun r => 0 ≤ r.2.2.1)
 | 0, _, l, hl, i, h, hi => by
  obtain ⟨q, i2, h2, e2, q1, q2, q3⟩ := spec_l1Below.ok b i h 7 hb hi (by decide) (by decide)
  refine Tot.step (f := fun k => (spec_TableOfWeights.f k l (wrap64 (q - 2))).bind fun bt => some (bt.1, bt.2.1, i2, h2)) (fun k => ?_) (Tot.bind (Tot.ev (P := fun _ => True) (spec_TableOfWeights.ev l _ (by omega)) trivial) (fun r _ => Tot.now _ q3))
  simp only [spec_l16Draw.l0]
  rw [if_neg (by decide), e2, Option.bind_some]
 | d + 1, hd, l, hl, i, h, hi => by
  obtain ⟨q, i2, h2, e2, q1, q2, q3⟩ := spec_l1Below.ok b i h 7 hb hi (by decide) (by decide)
  refine Tot.step (f := fun k => spec_l16Draw.l0 k (l ++ [wrap64 (q - 3)]) (d : Int) b i2 h2) (fun k => ?_) (spec_l16Draw.ok0 b hb d (by omega) (l ++ [wrap64 (q - 3)]) (by simp; omega) i2 h2 q3)
  simp only [spec_l16Draw.l0]
  rw [if_pos (by omega), e2, Option.bind_some, if_pos (by omega), w64 (x := ((d + 1 : Nat) : Int) - 1) (by omega) (by omega), show ((d + 1 : Nat) : Int) - 1 = (d : Int) by omega]
theorem spec_l16Draw.ok (b : List Int) (hb : b.length ≤ 1048576) (i h : Int) (hi : 0 ≤ i) : Tot (fun k => spec_l16Draw.f k b i h) (fun r => 0 ≤ r.2.2.1) := by
 obtain ⟨x, i1, h1, e1, p1⟩ := spec_l1Once.ok b i h 3 hb hi (by decide) (by decide)
 unfold spec_l16Draw.f
 simp only [e1, Option.bind_some]
 refine Tot.ite _ (fun _ => ?_) (fun _ => ?_)
 ·exact Tot.bind (spec_l2Any.ok b hb i1 h1 p1) (fun r hr => Tot.now _ hr)
 ·obtain ⟨q, i2, h2, e2, q1, q2, q3⟩ := spec_l1Below.ok b i1 h1 5 hb p1 (by decide) (by decide)
  simp only [e2, Option.bind_some]
  obtain ⟨n, rfl⟩ := nat_of q1
  exact spec_l16Draw.ok0 b hb n (by omega) [] (by simp; omega) i2 h2 q3

theorem spec_l1New.ok (b : List Int) (hb : b.length ≤ 1048576) : Tot (fun k => spec_l1New.f k b) (fun r => r.1 = b ∧ r.2.1 = 0) := by
 unfold spec_l1New.f
 refine Tot.up (S := Int) (fun i s k => spec_l1New.l0 k b s (i : Int)) b.length (fun _ _ => True) ?_ ?_ b.length 0 _ (by omega) trivial
 ·intro i s hi _ hn
  by_cases h4 : (i : Int) < 4000
  ·refine Tot.step (fun k => ?_) (hn (Go.bits .and .i64 (wrap64 ((wrap64 ((wrap64 (s * 131)) + (wrap64 (rd b i)))) + 7)) 1073741823) trivial)
   simp only [spec_l1New.l0]
   rw [if_pos (Int.ofNat_lt.mpr hi), if_pos h4, if_pos (Int.natCast_nonneg i), up1 (by omega)]
  ·refine Tot.end (b, 0, s) ⟨rfl, rfl⟩ (fun k => ?_)
   simp only [spec_l1New.l0]
   rw [if_pos (Int.ofNat_lt.mpr hi), if_neg h4]
 ·intro s _
  refine Tot.end (b, 0, s) ⟨rfl, rfl⟩ (fun k => ?_)
  simp only [spec_l1New.l0]
  rw [if_neg (by omega)]

theorem spec_DrawWeightsFor.ok (b : List Int) (hb : b.length ≤ 1048576) : Tot (fun k => spec_DrawWeightsFor.f k b) (fun _ => True) := by
 unfold spec_DrawWeightsFor.f
 refine Tot.bind (spec_l1New.ok b hb) (fun r hr => ?_)
 obtain ⟨r1, r2, r3⟩ := r
 obtain ⟨rfl, rfl⟩ := hr
 exact Tot.bind (spec_l16Draw.ok r1 hb 0 r3 (Int.le_refl 0)) (fun s _ => Tot.now _ trivial)

theorem impl_isBits.ev (a : Int) : impl_isBits.f a = some (decide (0 ≤ a ∧ a ≤ 5)) := by
 unfold impl_isBits.f
 by_cases h : 0 ≤ a
 ·rw [if_pos h]; simp [h]
 ·rw [if_neg h]; simp [h]

theorem impl_IsTable.ev (a b : Int) : impl_IsTable.f a b = some (isT a b) := by
 unfold impl_IsTable.f isT
 rw [impl_isBits.ev]
 by_cases h : 0 ≤ a ∧ a ≤ 5
 ·obtain ⟨n, rfl⟩ := nat_of h.1
  have hn : n ≤ 5 := by omega
  simp only [Option.bind_some, h, and_self, decide_true, if_true]
  by_cases hb : b ≥ 0
  ·obtain ⟨v, rfl⟩ := nat_of hb
   have h5 := pow_le_5 hn
   rw [if_pos hb]
   unfold impl_Table_size.f
   rw [if_pos (Int.natCast_nonneg n), shl_one (by omega)]
   simp only [Option.bind_some]
   rw [if_pos (Int.natCast_nonneg _), shr_nat (by omega)]
   congr 1
   rw [Bool.eq_iff_iff]
   simp only [beq_iff_eq, decide_eq_true_eq, Int.toNat_natCast]
   have hz : v / 2 ^ 2 ^ n = 0 ↔ v < 2 ^ 2 ^ n := Nat.div_eq_zero_iff_lt (Nat.two_pow_pos _)
   rw [show (((v / 2 ^ 2 ^ n : Nat) : Int) = 0 ↔ v / 2 ^ 2 ^ n = 0) from by omega, hz]
   obtain ⟨P, hP⟩ : ∃ P, P = 2 ^ 2 ^ n := ⟨_, rfl⟩
   rw [← hP]
   simp only [h, true_and]
   omega
  ·rw [if_neg hb]
   congr 1
   symm
   apply decide_eq_false
   omega
 ·have h' : ¬ (0 ≤ a ∧ a ≤ 5 ∧ 0 ≤ b ∧ b < ((2 ^ 2 ^ a.toNat : Nat) : Int)) := fun e => h ⟨e.1, e.2.1⟩
  simp only [h, h', decide_false, Option.bind_some, Bool.false_eq_true, if_false]

theorem impl_isSmall.ev (a b m : Int) : impl_isSmall.f a b m = some (isT a b && decide (a ≤ m)) := by
 unfold impl_isSmall.f
 rw [impl_IsTable.ev, Option.bind_some]
 cases isT a b <;> simp

theorem impl_sumOfSizes.one {a : Int} (h : -3 ≤ a ∧ a ≤ 3) : impl_size1.f a = some ((a.natAbs : Nat) : Int) := by
 unfold impl_size1.f
 rw [w64 (by omega) (by omega)]
 congr 1
 unfold mx
 split <;> omega
theorem impl_sumOfSizes.ev {w : List Int} (hl : w.length ≤ 5) (h : ∀ a ∈ w, -3 ≤ a ∧ a ≤ 3) : Ev (fun k => impl_sumOfSizes.f k w) ((wA w w.length : Nat) : Int) := by
 have hb : ∀ i, i ≤ w.length → wA w i ≤ 3 * i := by
  intro i
  induction i with
  | zero => intro _; exact Nat.le_refl _
  | succ i ih =>
   intro hi
   have := h w[i] (List.getElem_mem (by omega))
   have e : w.getD i 0 = w[i] := by rw [List.getD_eq_getElem?_getD, List.getElem?_eq_getElem (by omega), Option.getD_some]
   have := ih (by omega)
   simp only [wA]; rw [e]; omega
 refine Ev.congr (f := fun k => impl_sumOfSizes.l0 k ((wA w 0 : Nat) : Int) w (w.length : Int) ((0 : Nat) : Int)) (fun k => rfl) ?_
 refine Ev.count (fun k i => impl_sumOfSizes.l0 k ((wA w i : Nat) : Int) w (w.length : Int) (i : Int)) w.length _ (fun i hi hx => ?_) (Ev.end (fun k => ?_)) w.length 0 (by omega)
 ·have h1 := hb i (by omega)
  have h2 := hb (i + 1) (by omega)
  have hg := h w[i] (List.getElem_mem hi)
  have e : rd w (i : Int) = w[i] := by rw [rd_nat, List.getD_eq_getElem?_getD, List.getElem?_eq_getElem hi, Option.getD_some]
  have e2 : w.getD i 0 = w[i] := by rw [List.getD_eq_getElem?_getD, List.getElem?_eq_getElem hi, Option.getD_some]
  refine Ev.step (fun k => ?_) hx
  simp only [impl_sumOfSizes.l0]
  rw [if_pos (by omega), if_pos (Int.natCast_nonneg i), if_pos (by omega), e, impl_sumOfSizes.one hg, Option.bind_some, up1 (by omega), w64 (by omega) (by omega)]
  simp only [wA]
  rw [e2]; push_cast; rfl
 ·simp only [impl_sumOfSizes.l0]
  rw [if_neg (by omega)]

theorem spec_IsTable.ev (a b : Int) : spec_IsTable.f a b = some (isT a b) := by
 unfold spec_IsTable.f isT
 rw [spec_l1In.ev]
 by_cases h : 0 ≤ a ∧ a ≤ 5
 ·obtain ⟨n, rfl⟩ := nat_of h.1
  have hn : n ≤ 5 := by omega
  simp only [Option.bind_some, h, and_self, decide_true, if_true]
  rw [full_word hn, spec_l1In.ev]
  simp only [Option.bind_some, Int.toNat_natCast, h, true_and]
  congr 1
  apply decide_eq_decide.mpr
  omega
 ·have h' : ¬ (0 ≤ a ∧ a ≤ 5 ∧ 0 ≤ b ∧ b < ((2 ^ 2 ^ a.toNat : Nat) : Int)) := fun e => h ⟨e.1, e.2.1⟩
  simp only [h, h', decide_false, Option.bind_some, Bool.false_eq_true, if_false]

theorem spec_l16Fits.small {w : List Int} (h : ∀ a ∈ w, -3 ≤ a ∧ a ≤ 3) : w.all impl_TableOfWeights.ok = true :=
 List.all_eq_true.mpr fun a ha => decide_eq_true (by have := h a ha; omega)
theorem spec_l16Fits.lo_b {n v : Nat} {w : List Int} (hn : n ≤ 4) (h : ∀ a ∈ w, -3 ≤ a ∧ a ≤ 3) (m : Nat) : -50 ≤ loS n v w m ∧ loS n v w m ≤ 100 := by
 rcases loS_is n v w m with e | ⟨x, _, _, e⟩
 ·omega
 ·have := wS_bound (n := n) h x n; omega
theorem spec_l16Fits.hi_b {n v : Nat} {w : List Int} (hn : n ≤ 4) (h : ∀ a ∈ w, -3 ≤ a ∧ a ≤ 3) (m : Nat) : -100 ≤ hiS n v w m ∧ hiS n v w m ≤ 50 := by
 rcases hiS_is n v w m with e | ⟨x, _, _, e⟩
 ·omega
 ·have := wS_bound (n := n) h x n; omega
theorem spec_l16Fits.ev {n v : Nat} {w : List Int} (hn : n ≤ 4) (hv : v < 2 ^ 2 ^ n) (hl : w.length = n) (h : ∀ a ∈ w, -3 ≤ a ∧ a ≤ 3) : Ev (fun k => spec_l16Fits.f k (n : Int) (v : Int) w) (fitR n v w) := by
 have hf := full_p63 (n := n) (by omega)
 have h16 : 2 ^ n ≤ 32 := pow_le_5 (by omega)
 refine Ev.congr (f := fun k => spec_l16Fits.l0 k w (loS n v w 0) (hiS n v w 0) ((0 : Nat) : Int) (n : Int) (v : Int)) (fun k => rfl) ?_
 refine Ev.count (fun k i => spec_l16Fits.l0 k w (loS n v w i) (hiS n v w i) (i : Int) (n : Int) (v : Int)) (2 ^ n) _ (fun i hi hx => ?_) (Ev.end (fun k => ?_)) (2 ^ n) 0 (by omega)
 ·have hs := spec_l16Sum.ev (by omega) (spec_l16Fits.small h) i (by omega)
  rw [hl] at hs
  have hb := bit_nat (a := v) (n := i) (by omega) (by omega)
  have e : ∀ k, spec_l16Fits.l0 (k + 1) w (loS n v w i) (hiS n v w i) (i : Int) (n : Int) (v : Int) = (spec_l16Sum.f k w (i : Int)).bind fun t262 => if (((v.testBit i).toNat : Nat) : Int) = 1 then spec_l16Fits.l0 k w (mn (loS n v w i) t262) (hiS n v w i) ((i + 1 : Nat) : Int) (n : Int) (v : Int) else spec_l16Fits.l0 k w (loS n v w i) (mx (hiS n v w i) t262) ((i + 1 : Nat) : Int) (n : Int) (v : Int) := by
   intro k
   simp only [spec_l16Fits.l0]
   rw [if_pos (Int.natCast_nonneg n), if_pos (by rw [shl_one (by omega)]; omega), up1 (by omega), hb]
   simp only [Int.natCast_nonneg, ↓reduceIte]
  refine Ev.step e (Ev.bind hs ?_)
  cases hq : v.testBit i with
  | true =>
   refine Ev.congr (fun k => if_pos rfl) ?_
   simp only [loS, hiS, hq, ↓reduceIte] at hx
   have em : mn (loS n v w i) (wS w i n) = min (loS n v w i) (wS w i n) := by unfold mn; split <;> omega
   rw [em]; exact hx
  | false =>
   refine Ev.congr (fun k => if_neg (by decide)) ?_
   simp only [loS, hiS, hq, Bool.false_eq_true, ↓reduceIte] at hx
   have em : mx (hiS n v w i) (wS w i n) = max (hiS n v w i) (wS w i n) := by unfold mx; split <;> omega
   rw [em]; exact hx
 ·have hb := spec_l16Fits.hi_b (v := v) hn h (2 ^ n)
  simp only [spec_l16Fits.l0]
  rw [if_pos (Int.natCast_nonneg n), if_neg (by rw [shl_one (by omega)]; omega)]
  unfold fitR
  by_cases e : loS n v w (2 ^ n) = 100
  ·rw [if_pos e, if_pos e, w64 (by omega) (by omega)]
  ·rw [if_neg e, if_neg e]

def impl_Table_threshold.lo (n v : Nat) (w : List Int) (x : Nat) : Int := if loS n v w x = 100 then 0 else loS n v w x
def impl_Table_threshold.hi (n v : Nat) (w : List Int) (x : Nat) : Int := if hiS n v w x = -100 then 0 else hiS n v w x
theorem impl_Table_threshold.ev {n v : Nat} {w : List Int} (hn : n ≤ 4) (hv : v < 2 ^ 2 ^ n) (hl : w.length = n) (h : ∀ a ∈ w, -3 ≤ a ∧ a ≤ 3) : Ev (fun k => impl_Table_threshold.f k (n : Int) (v : Int) w) (fitR n v w) := by
 have hf := full_p63 (n := n) (by omega)
 have h16 : 2 ^ n ≤ 32 := pow_le_5 (by omega)
 have hsz : impl_Table_size.f (n : Int) (v : Int) = some ((2 ^ n : Nat) : Int) := by
  unfold impl_Table_size.f
  rw [if_pos (Int.natCast_nonneg n), shl_one (by omega)]
 have hat : ∀ (i : Nat), i < 2 ^ n → impl_Table_at.f (n : Int) (v : Int) (i : Int) = some (((v.testBit i).toNat : Nat) : Int) := fun i hi => by
  unfold impl_Table_at.f
  rw [if_pos (Int.natCast_nonneg i), bit_nat (by omega) (by omega)]
 refine Ev.congr (f := fun k => impl_Table_threshold.l0 k w (impl_Table_threshold.lo n v w 0) (impl_Table_threshold.hi n v w 0) (decide (loS n v w 0 ≠ 100)) (decide (hiS n v w 0 = -100)) ((2 ^ n : Nat) : Int) ((0 : Nat) : Int) (n : Int) (v : Int)) (fun k => by unfold impl_Table_threshold.f; rw [hsz]; rfl) ?_
 refine Ev.count (fun k i => impl_Table_threshold.l0 k w (impl_Table_threshold.lo n v w i) (impl_Table_threshold.hi n v w i) (decide (loS n v w i ≠ 100)) (decide (hiS n v w i = -100)) ((2 ^ n : Nat) : Int) (i : Int) (n : Int) (v : Int)) (2 ^ n) _ (fun i hi hx => ?_) (Ev.end (fun k => ?_)) (2 ^ n) 0 (by omega)
 ·have hs := impl_TableOfWeights.sum (by omega) (spec_l16Fits.small h) i (by omega)
  rw [hl] at hs
  have hb := hat i hi
  have hw := wS_bound (n := n) h i n
  obtain ⟨K, hK⟩ := hs
  obtain ⟨K2, hK2⟩ := hx
  refine Ev.since (K + K2 + 2) fun q hq => ?_
  obtain ⟨p, rfl⟩ : ∃ p, q = p + 2 := ⟨q - 2, by omega⟩
  have k1 := hK (p + 1) (by omega)
  have k2 := hK2 p (by omega)
  simp only [] at k1 k2
  rw [← k2]
  unfold impl_Table_threshold.lo impl_Table_threshold.hi
  cases hq : v.testBit i with
  | true =>
   rw [hq] at hb
   have e1 : loS n v w (i + 1) = min (loS n v w i) (wS w i n) := by rw [loS, if_pos hq]
   have e2 : hiS n v w (i + 1) = hiS n v w i := by rw [hiS, if_pos hq]
   rw [e1, e2]
   generalize loS n v w i = L at *
   generalize hiS n v w i = H at *
   generalize wS w i n = s at *
   have hi2 : (i : Int) < ((2 ^ n : Nat) : Int) := by exact_mod_cast hi
   have u1 : wrap64 ((i : Int) + 1) = ((i + 1 : Nat) : Int) := up1 (by omega)
   have t1 : ((true.toNat : Nat) : Int) = 1 := rfl
   rw [t1] at hb
   have n10 : ¬ (1 : Int) = 0 := by decide
   by_cases c1 : L = 100
   ·subst c1
    have c2 : ¬ s = 100 := by omega
    have c3 : min 100 s = s := by omega
    simp only [impl_Table_threshold.l0, impl_Table_threshold.j1, hi2, k1, hb, c2, c3, u1, n10, Option.bind_some, ↓reduceIte, ne_eq, not_true_eq_false, not_false_eq_true, decide_true, decide_false, Bool.false_eq_true, eq_self]
   ·by_cases c4 : s < L
    ·have c2 : ¬ s = 100 := by omega
     have c3 : min L s = s := by omega
     simp only [impl_Table_threshold.l0, impl_Table_threshold.j1, hi2, k1, hb, c1, c2, c3, c4, u1, n10, Option.bind_some, ↓reduceIte, ne_eq, not_true_eq_false, not_false_eq_true, decide_true, decide_false, Bool.false_eq_true, eq_self]
    ·have c3 : min L s = L := by omega
     simp only [impl_Table_threshold.l0, impl_Table_threshold.j1, hi2, k1, hb, c1, c3, c4, u1, n10, Option.bind_some, ↓reduceIte, ne_eq, not_true_eq_false, not_false_eq_true, decide_true, decide_false, Bool.false_eq_true, eq_self]
  | false =>
   rw [hq] at hb
   have e1 : loS n v w (i + 1) = loS n v w i := by rw [loS, if_neg (by rw [hq]; decide)]
   have e2 : hiS n v w (i + 1) = max (hiS n v w i) (wS w i n) := by rw [hiS, if_neg (by rw [hq]; decide)]
   rw [e1, e2]
   generalize loS n v w i = L at *
   generalize hiS n v w i = H at *
   generalize wS w i n = s at *
   have hi2 : (i : Int) < ((2 ^ n : Nat) : Int) := by exact_mod_cast hi
   have u1 : wrap64 ((i : Int) + 1) = ((i + 1 : Nat) : Int) := up1 (by omega)
   have t1 : ((false.toNat : Nat) : Int) = 0 := rfl
   rw [t1] at hb
   have n01 : ¬ (0 : Int) = 1 := by decide
   by_cases c1 : H = -100
   ·subst c1
    have c2 : ¬ s = -100 := by omega
    have c3 : max (-100) s = s := by omega
    simp only [impl_Table_threshold.l0, impl_Table_threshold.j1, hi2, k1, hb, c2, c3, u1, n01, Option.bind_some, ↓reduceIte, ne_eq, not_true_eq_false, not_false_eq_true, decide_true, decide_false, Bool.false_eq_true, eq_self]
   ·by_cases c4 : s > H
    ·have c2 : ¬ s = -100 := by omega
     have c3 : max H s = s := by omega
     simp only [impl_Table_threshold.l0, impl_Table_threshold.j1, hi2, k1, hb, c1, c2, c3, c4, u1, n01, Option.bind_some, ↓reduceIte, ne_eq, not_true_eq_false, not_false_eq_true, decide_true, decide_false, Bool.false_eq_true, eq_self]
    ·have c3 : max H s = H := by omega
     simp only [impl_Table_threshold.l0, impl_Table_threshold.j1, hi2, k1, hb, c1, c3, c4, u1, n01, Option.bind_some, ↓reduceIte, ne_eq, not_true_eq_false, not_false_eq_true, decide_true, decide_false, Bool.false_eq_true, eq_self]
 ·have hb := spec_l16Fits.hi_b (v := v) hn h (2 ^ n)
  have hc := spec_l16Fits.lo_b (v := v) hn h (2 ^ n)
  have hne : loS n v w (2 ^ n) = 100 → ¬ hiS n v w (2 ^ n) = -100 := by
   intro e1 e2
   cases hq : v.testBit 0 with
   | true =>
    have := @loS_le n v w (2 ^ n) 0 (Nat.two_pow_pos n) hq
    have := wS_bound (n := n) h 0 n
    omega
   | false =>
    have := @hiS_ge n v w (2 ^ n) 0 (Nat.two_pow_pos n) hq
    have := wS_bound (n := n) h 0 n
    omega
  unfold impl_Table_threshold.lo impl_Table_threshold.hi fitR
  generalize loS n v w (2 ^ n) = L at *
  generalize hiS n v w (2 ^ n) = H at *
  simp only [impl_Table_threshold.l0]
  rw [if_neg (by omega)]
  by_cases c1 : L = 100
  ·have c2 := hne c1
   simp only [c1, c2, ↓reduceIte, ne_eq, not_true_eq_false, decide_false, Bool.false_eq_true]
   rw [w64 (by omega) (by omega)]
  ·by_cases c2 : H = -100
   ·have c3 : H < L := by omega
    simp only [c1, c2, ↓reduceIte, ne_eq, not_false_eq_true, decide_true]
    rw [← c2, decide_eq_true c3]
   ·simp only [c1, c2, ↓reduceIte, ne_eq, not_false_eq_true, decide_true, decide_false, Bool.false_eq_true]

def spec_WeightsFor.r (a b : Int) : List Int × Int × Bool := if isT a b = true ∧ a ≤ 4 then ((wRes a.toNat b.toNat (7 ^ a.toNat)).1, (wRes a.toNat b.toNat (7 ^ a.toNat)).2.1, decide ((wRes a.toNat b.toNat (7 ^ a.toNat)).2.2 < 100)) else ([], 0, false)
theorem spec_WeightsFor.inner {cnt_ best lim n v : Int} {size code : Int} {r : List Int × Int × Bool} : ∀ (j : Nat) (w : List Int) (x m : Nat), j ≤ w.length → w.length ≤ 10 → x ≤ 100000 → m + 3 * j ≤ 1000 → (bl : List Int) →
  (∀ xx, Ev (fun k => spec_WeightsFor.l2 k cnt_ bl size lim code (sp j w x m).1 xx (((sp j w x m).2 : Nat) : Int) (-1) n v) r) → Ev (fun k => spec_WeightsFor.l2 k cnt_ bl size lim code w (x : Int) (m : Int) ((j : Int) - 1) n v) r
 | 0, w, x, m, _, _, _, _, bl, h => h (x : Int)
 | j + 1, w, x, m, hj, hl, hx, hm, bl, h => by
  have ih := spec_WeightsFor.inner (cnt_ := cnt_) (best := best) (lim := lim) (n := n) (v := v) (size := size) (code := code) (r := r) j (w.set j (((x % 7 : Nat) : Int) - 3)) (x / 7) (m + (((x % 7 : Nat) : Int) - 3).natAbs) (by rw [List.length_set]; omega) (by rw [List.length_set]; exact hl) (by omega) (by omega) bl h
  refine Ev.step (fun k => ?_) ih
  have e1 : Int.tmod (x : Int) 7 = ((x % 7 : Nat) : Int) := (Int.ofNat_tmod x 7).symm
  have e2 : Int.tdiv (x : Int) 7 = ((x / 7 : Nat) : Int) := (Int.ofNat_tdiv x 7).symm
  have e3 : wrap64 (((x % 7 : Nat) : Int) - 3) = ((x % 7 : Nat) : Int) - 3 := w64 (by omega) (by omega)
  have ej : ((j + 1 : Nat) : Int) - 1 = (j : Int) := by omega
  have e4 : rd (w.set j (((x % 7 : Nat) : Int) - 3)) (j : Int) = ((x % 7 : Nat) : Int) - 3 := by
   rw [rd_nat, List.getD_eq_getElem?_getD, List.getElem?_set_self (by omega), Option.getD_some]
  simp only [spec_WeightsFor.l2]
  rw [ej, if_pos (by omega), if_pos (by omega), if_pos (by omega), e1, e2, e3, Int.toNat_natCast, Option.bind_some, e4, w64 (x := ((x / 7 : Nat) : Int)) (by omega) (by omega), w64 (x := -(((x % 7 : Nat) : Int) - 3)) (by omega) (by omega), w64 (x := (j : Int) - 1) (by omega) (by omega)]
  have e5 : mx (((x % 7 : Nat) : Int) - 3) (-(((x % 7 : Nat) : Int) - 3)) = (((((x % 7 : Nat) : Int) - 3).natAbs : Nat) : Int) := by unfold mx; split <;> omega
  rw [e5, w64 (by omega) (by omega)]
  push_cast; rfl
theorem spec_WeightsFor.loop {n v : Nat} (hn : n ≤ 4) (hv : v < 2 ^ 2 ^ n) : Ev (fun k => spec_WeightsFor.l1 k ((7 ^ n : Nat) : Int) [] 100 0 0 (n : Int) (v : Int)) ((wRes n v (7 ^ n)).1, (wRes n v (7 ^ n)).2.1, decide ((wRes n v (7 ^ n)).2.2 < 100)) := by
 have h7 : 7 ^ n ≤ 2401 := Nat.pow_le_pow_right (n := 7) (by decide) hn
 refine Ev.up (fun k (s : List Int × Int × Nat) c => spec_WeightsFor.l1 k ((7 ^ n : Nat) : Int) s.1 ((s.2.2 : Nat) : Int) s.2.1 (c : Int) (n : Int) (v : Int)) (7 ^ n) (fun _ _ => True) (wStep n v) _ (fun _ _ _ _ => trivial) ?_ (7 ^ n) 0 ([], 0, 100) (by omega) trivial ?_
 ·intro c s hc _ hx
  obtain ⟨o1, o2, o3, o4, o5⟩ := wOf_all hn hc
  refine Ev.step (f := fun k => spec_WeightsFor.l2 k ((7 ^ n : Nat) : Int) s.1 ((s.2.2 : Nat) : Int) s.2.1 (c : Int) (List.replicate n 0) (c : Int) ((0 : Nat) : Int) ((n : Int) - 1) (n : Int) (v : Int)) (fun k => ?_) ?_
  ·simp only [spec_WeightsFor.l1]
   rw [if_pos (by omega), if_pos (Int.natCast_nonneg n), Int.toNat_natCast, if_pos (by omega), w64 (x := (n : Int) - 1) (by omega) (by omega)]; rfl
  ·refine spec_WeightsFor.inner (best := 0) n (List.replicate n 0) c 0 (by simp) (by simp; omega) (by omega) (by omega) s.1 (fun xx => ?_)
   show Ev (fun k => spec_WeightsFor.l2 k ((7 ^ n : Nat) : Int) s.1 ((s.2.2 : Nat) : Int) s.2.1 (c : Int) (wOf n c) xx ((wM n c : Nat) : Int) (-1) (n : Int) (v : Int)) _
   have hfit := spec_l16Fits.ev hn hv o1 o4
   unfold wStep at hx
   by_cases hlt : wM n c < s.2.2
   ·have e : ∀ k, spec_WeightsFor.l2 (k + 1) ((7 ^ n : Nat) : Int) s.1 ((s.2.2 : Nat) : Int) s.2.1 (c : Int) (wOf n c) xx ((wM n c : Nat) : Int) (-1) (n : Int) (v : Int) = (spec_l16Fits.f k (n : Int) (v : Int) (wOf n c)).bind fun bt277 => if bt277.2 = true then spec_WeightsFor.l1 k ((7 ^ n : Nat) : Int) (wOf n c) ((wM n c : Nat) : Int) bt277.1 ((c + 1 : Nat) : Int) (n : Int) (v : Int) else spec_WeightsFor.l1 k ((7 ^ n : Nat) : Int) s.1 ((s.2.2 : Nat) : Int) s.2.1 ((c + 1 : Nat) : Int) (n : Int) (v : Int) := by
     intro k
     simp only [spec_WeightsFor.l2]
     rw [if_neg (by decide), if_neg (by omega), up1 (by omega)]
    refine Ev.step e (Ev.bind hfit ?_)
    cases hf : (fitR n v (wOf n c)).2 with
    | true =>
     rw [if_pos ⟨hlt, hf⟩] at hx
     exact Ev.congr (fun k => if_pos rfl) hx
    | false =>
     rw [if_neg (by rw [hf]; simp)] at hx
     exact Ev.congr (fun k => if_neg (by decide)) hx
   ·rw [if_neg (fun e => hlt e.1)] at hx
    refine Ev.step (fun k => ?_) hx
    simp only [spec_WeightsFor.l2]
    rw [if_neg (by decide), if_pos (by omega), up1 (by omega)]
 ·intro _
  refine Ev.end (fun k => ?_)
  simp only [spec_WeightsFor.l1]
  rw [if_neg (by omega)]
  show some ((wRes n v (7 ^ n)).1, (wRes n v (7 ^ n)).2.1, decide ((((wRes n v (7 ^ n)).2.2 : Nat) : Int) < 100)) = _
  congr 3
  exact decide_eq_decide.mpr ⟨fun _ => by omega, fun _ => by omega⟩
theorem spec_WeightsFor.pows {n v : Nat} (hn : n ≤ 4) {r : List Int × Int × Bool} (h : Ev (fun k => spec_WeightsFor.l1 k ((7 ^ n : Nat) : Int) [] 100 0 0 (n : Int) (v : Int)) r) : Ev (fun k => spec_WeightsFor.l0 k 1 0 (n : Int) (v : Int)) r := by
 refine Ev.count (fun k i => spec_WeightsFor.l0 k ((7 ^ i : Nat) : Int) (i : Int) (n : Int) (v : Int)) n _ (fun i hi hx => ?_) ?_ n 0 (by omega)
 ·have h7 : 7 ^ (i + 1) ≤ 2401 := Nat.pow_le_pow_right (n := 7) (by decide) (show i + 1 ≤ 4 by omega)
  have e : ((7 ^ i : Nat) : Int) * 7 = ((7 ^ (i + 1) : Nat) : Int) := by rw [Nat.pow_succ]; push_cast; rfl
  refine Ev.step (fun k => ?_) hx
  simp only [spec_WeightsFor.l0]
  rw [if_pos (by omega), up1 (by omega), e]
  generalize 7 ^ (i + 1) = P at *
  rw [w64 (by omega) (by omega)]
 ·refine Ev.step (fun k => ?_) h
  simp only [spec_WeightsFor.l0]
  rw [if_neg (by omega)]
theorem spec_WeightsFor.ev (a b : Int) : Ev (fun k => spec_WeightsFor.f k a b) (spec_WeightsFor.r a b) := by
 unfold spec_WeightsFor.r spec_WeightsFor.f
 refine Ev.bind (Ev.const (spec_IsTable.ev a b)) ?_
 cases ht : isT a b with
 | false =>
  rw [if_neg (by simp)]
  refine Ev.congr (fun q => if_neg (by simp)) ?_
  exact Ev.end (fun q => by simp only [spec_WeightsFor.j0]; rw [if_pos trivial])
 | true =>
  refine Ev.congr (fun q => if_pos rfl) ?_
  obtain ⟨n, v, rfl, rfl, hn, hv⟩ := isT_nat ht
  by_cases h : (n : Int) ≤ 4
  ·rw [if_pos ⟨rfl, h⟩, decide_eq_false (by omega), Int.toNat_natCast, Int.toNat_natCast]
   refine Ev.step (fun q => ?_) (spec_WeightsFor.pows (v := v) (by omega) (spec_WeightsFor.loop (by omega) hv))
   simp only [spec_WeightsFor.j0]; rw [if_neg (by decide)]
  ·rw [if_neg (fun e => h e.2), decide_eq_true (by omega)]
   exact Ev.end (fun q => by simp only [spec_WeightsFor.j0]; rw [if_pos trivial])

theorem impl_WeightsFor.carry {best : List Int} {lim n v : Int} {fnd : Bool} {r : List Int × Int × Bool} : ∀ (j : Nat) (w : List Int), j ≤ w.length → w.length ≤ 10 → (∀ a ∈ w, -3 ≤ a ∧ a ≤ 3) →
  (∀ w', nx j w = some w' → Ev (fun k => impl_WeightsFor.l0 k w' best lim fnd n v) r) → (nx j w = none → r = (best, lim, fnd)) → Ev (fun k => impl_WeightsFor.l1 k w best lim fnd ((j : Int) - 1) n v) r
 | 0, w, _, _, _, _, h2 => by
  rw [h2 rfl]
  refine Ev.end (fun k => ?_)
  simp only [impl_WeightsFor.l1]
  rw [if_neg (by decide), if_pos (by decide)]
 | j + 1, w, hj, hl, hb, h1, h2 => by
  have ej : ((j + 1 : Nat) : Int) - 1 = (j : Int) := by omega
  have hr : rd w (j : Int) = w.getD j 0 := by rw [rd_nat]
  have hg : w.getD j 0 = w[j] := by rw [List.getD_eq_getElem?_getD, List.getElem?_eq_getElem (by omega), Option.getD_some]
  have hw := hb w[j] (List.getElem_mem (by omega))
  rw [nx] at h1 h2
  by_cases e : w.getD j 0 = 3
  ·rw [if_pos e] at h1 h2
   refine Ev.step (fun k => ?_) (impl_WeightsFor.carry j (w.set j (-3)) (by rw [List.length_set]; omega) (by rw [List.length_set]; exact hl) (fun a ha => by
    rcases List.mem_or_eq_of_mem_set ha with h | h
    ·exact hb a h
    ·omega) h1 h2)
   simp only [impl_WeightsFor.l1]
   rw [ej, if_pos (by omega), if_pos (by omega), if_pos (by omega), hr, if_pos e, Int.toNat_natCast, w64 (x := (j : Int) - 1) (by omega) (by omega)]
  ·rw [if_neg e] at h1
   refine Ev.step (fun k => ?_) (h1 _ rfl)
   simp only [impl_WeightsFor.l1]
   rw [ej, if_pos (by omega), if_pos (by omega), if_pos (by omega), hr, if_neg e, if_neg (by omega), Int.toNat_natCast, w64 (x := w.getD j 0 + 1) (by omega) (by omega)]
theorem impl_WeightsFor.wA_full {n c : Nat} (hn : n ≤ 4) (hc : c < 7 ^ n) : Ev (fun k => impl_sumOfSizes.f k (wOf n c)) ((wM n c : Nat) : Int) := by
 obtain ⟨o1, o2, o3, o4, o5⟩ := wOf_all hn hc
 have h := impl_sumOfSizes.ev (w := wOf n c) (by omega) o4
 rw [o1, ← o2] at h
 exact h
theorem impl_WeightsFor.round {n v c : Nat} (hn : n ≤ 4) (hv : v < 2 ^ 2 ^ n) (hc : c < 7 ^ n) {r : List Int × Int × Bool}
  (h : Ev (fun k => impl_WeightsFor.l1 k (wOf n c) (wRes n v (c + 1)).1 (wRes n v (c + 1)).2.1 (decide ((wRes n v (c + 1)).2.2 < 100)) ((n : Int) - 1) (n : Int) (v : Int)) r) :
  Ev (fun k => impl_WeightsFor.l0 k (wOf n c) (wRes n v c).1 (wRes n v c).2.1 (decide ((wRes n v c).2.2 < 100)) (n : Int) (v : Int)) r := by
 obtain ⟨o1, o2, o3, o4, o5⟩ := wOf_all hn hc
 have ht := impl_Table_threshold.ev hn hv o1 o4
 have hs := impl_WeightsFor.wA_full hn hc
 have hj2 : ∀ (b : List Int) (t : Int) (q : Bool), Ev (fun k => impl_WeightsFor.l1 k (wOf n c) b t q ((n : Int) - 1) (n : Int) (v : Int)) r → Ev (fun k => impl_WeightsFor.j2 k (wOf n c) b t q (n : Int) (v : Int)) r := fun b t q h => by
  refine Ev.step (fun k => ?_) h
  simp only [impl_WeightsFor.j2]
  rw [w64 (x := (n : Int) - 1) (by omega) (by omega)]
 have hj1f : ∀ (b : List Int) (t : Int) (q : Bool) (x : Int), Ev (fun k => impl_WeightsFor.l1 k (wOf n c) b t q ((n : Int) - 1) (n : Int) (v : Int)) r → Ev (fun k => impl_WeightsFor.j1 k (wOf n c) b t q x false (n : Int) (v : Int)) r := fun b t q x h => by
  refine Ev.step (fun k => ?_) (hj2 b t q h)
  simp only [impl_WeightsFor.j1]
  rw [if_neg (by decide)]
 have hj1t : ∀ (b : List Int) (t : Int) (q : Bool) (x : Int), Ev (fun k => impl_WeightsFor.l1 k (wOf n c) (wOf n c) x true ((n : Int) - 1) (n : Int) (v : Int)) r → Ev (fun k => impl_WeightsFor.j1 k (wOf n c) b t q x true (n : Int) (v : Int)) r := fun b t q x h => by
  refine Ev.step (fun k => ?_) (hj2 (wOf n c) x true h)
  simp only [impl_WeightsFor.j1]
  rw [if_pos trivial]
  unfold slices_Clone_int_int.f
  rw [if_pos (by omega), Option.bind_some]
 have hres := wRes_is (v := v) hn c (by omega)
 rw [wRes_succ] at h
 unfold wStep at h
 have e : ∀ k, impl_WeightsFor.l0 (k + 1) (wOf n c) (wRes n v c).1 (wRes n v c).2.1 (decide ((wRes n v c).2.2 < 100)) (n : Int) (v : Int) = (impl_Table_threshold.f k (n : Int) (v : Int) (wOf n c)).bind fun bt245 => (if bt245.2 = true then (if (decide ((wRes n v c).2.2 < 100)) = true then ((impl_sumOfSizes.f k (wOf n c)).bind fun t247 => ((impl_sumOfSizes.f k (wRes n v c).1).bind fun t248 => (impl_WeightsFor.j1 k (wOf n c) (wRes n v c).1 (wRes n v c).2.1 (decide ((wRes n v c).2.2 < 100)) bt245.1 (decide (t247 < t248)) (n : Int) (v : Int)))) else (impl_WeightsFor.j1 k (wOf n c) (wRes n v c).1 (wRes n v c).2.1 (decide ((wRes n v c).2.2 < 100)) bt245.1 true (n : Int) (v : Int))) else (impl_WeightsFor.j1 k (wOf n c) (wRes n v c).1 (wRes n v c).2.1 (decide ((wRes n v c).2.2 < 100)) bt245.1 false (n : Int) (v : Int))) := fun k => rfl
 refine Ev.step e (Ev.bind ht ?_)
 cases hf : (fitR n v (wOf n c)).2 with
 | false =>
  rw [if_neg (by rw [hf]; simp)] at h
  exact Ev.congr (fun k => if_neg (by decide)) (hj1f _ _ _ _ h)
 | true =>
  refine Ev.congr (fun k => if_pos rfl) ?_
  rcases hres with ⟨a, b, e, _⟩ | ⟨d, d1, d2, d3, d4⟩
  ·rw [if_pos ⟨by rw [a]; omega, hf⟩] at h
   rw [a, decide_eq_false (by decide)]
   refine Ev.congr (fun k => if_neg (by decide)) (hj1t _ _ _ _ ?_)
   rw [decide_eq_true (by show wM n c < 100; omega)] at h
   exact h
  ·have hd := impl_WeightsFor.wA_full hn (show d < 7 ^ n by omega)
   have hd12 := (wOf_all hn (show d < 7 ^ n by omega)).2.2.1
   rw [d2] at h ⊢
   rw [decide_eq_true (show wM n d < 100 by omega)]
   refine Ev.congr (fun k => if_pos rfl) (Ev.bind hs (Ev.bind hd ?_))
   by_cases hlt : wM n c < wM n d
   ·rw [if_pos ⟨hlt, hf⟩] at h
    rw [decide_eq_true (show ((wM n c : Nat) : Int) < ((wM n d : Nat) : Int) by omega)]
    refine hj1t _ _ _ _ ?_
    rw [decide_eq_true (by show wM n c < 100; omega)] at h
    exact h
   ·rw [if_neg (fun e => hlt e.1)] at h
    rw [decide_eq_false (show ¬ ((wM n c : Nat) : Int) < ((wM n d : Nat) : Int) by omega)]
    rw [decide_eq_true (by show wM n d < 100; omega)] at h
    exact hj1f _ _ _ _ h
theorem impl_WeightsFor.loop {n v : Nat} (hn : n ≤ 4) (hv : v < 2 ^ 2 ^ n) : ∀ (d c : Nat), c + d + 1 = 7 ^ n → Ev (fun k => impl_WeightsFor.l0 k (wOf n c) (wRes n v c).1 (wRes n v c).2.1 (decide ((wRes n v c).2.2 < 100)) (n : Int) (v : Int)) ((wRes n v (7 ^ n)).1, (wRes n v (7 ^ n)).2.1, decide ((wRes n v (7 ^ n)).2.2 < 100))
 | 0, c, h => by
  obtain ⟨o1, o2, o3, o4, o5⟩ := wOf_all hn (show c < 7 ^ n by omega)
  rw [if_neg (by omega)] at o5
  refine impl_WeightsFor.round hn hv (by omega) (impl_WeightsFor.carry n (wOf n c) (by omega) (by omega) o4 (fun w' e => ?_) (fun _ => ?_))
  ·rw [o5] at e; cases e
  ·rw [show 7 ^ n = c + 1 by omega]
 | d + 1, c, h => by
  obtain ⟨o1, o2, o3, o4, o5⟩ := wOf_all hn (show c < 7 ^ n by omega)
  rw [if_pos (by omega)] at o5
  have ih := impl_WeightsFor.loop hn hv d (c + 1) (by omega)
  refine impl_WeightsFor.round hn hv (by omega) (impl_WeightsFor.carry n (wOf n c) (by omega) (by omega) o4 (fun w' e => ?_) (fun e => ?_))
  ·rw [o5] at e; cases e; exact ih
  ·rw [o5] at e; cases e
theorem impl_WeightsFor.ev (a b : Int) : Ev (fun k => impl_WeightsFor.f k a b) (spec_WeightsFor.r a b) := by
 unfold spec_WeightsFor.r impl_WeightsFor.f
 refine Ev.bind (Ev.const (impl_isSmall.ev a b 4)) ?_
 cases ht : isT a b with
 | false =>
  rw [if_neg (by simp)]
  refine Ev.congr (fun q => if_neg (by simp)) ?_
  exact Ev.now _
 | true =>
  obtain ⟨n, v, rfl, rfl, hn, hv⟩ := isT_nat ht
  by_cases h : (n : Int) ≤ 4
  ·have hn4 : n ≤ 4 := by omega
   have h7 := Nat.one_le_pow n 7 (by decide)
   rw [if_pos ⟨rfl, h⟩, Int.toNat_natCast, Int.toNat_natCast]
   refine Ev.congr (fun q => if_pos (by rw [decide_eq_true h]; rfl)) ?_
   have hr : slices_Repeat_int_int.f ([(-3)] : List Int) (n : Int) = some (wOf n 0) := by
    unfold slices_Repeat_int_int.f
    rw [if_pos ⟨rfl, by omega⟩, wOf_0 hn4, Int.toNat_natCast]; rfl
   refine Ev.bind (Ev.const hr) ?_
   exact impl_WeightsFor.loop hn4 hv (7 ^ n - 1) 0 (by omega)
  ·rw [if_neg (fun e => h e.2)]
   refine Ev.congr (fun q => if_neg (by rw [decide_eq_false h]; simp)) ?_
   exact Ev.now _

def spec_Contradiction.r (a b : Int) : List Int × Bool := if isT a b = true then conR a.toNat b.toNat else ([], false)
theorem spec_Contradiction.in3 {n v a b c : Nat} (hn : n ≤ 5) (hv : v < 2 ^ 2 ^ n) (ha : a < 2 ^ n) (hb : b < 2 ^ n) (hc : c < 2 ^ n) (R : Option (List Int × Bool))
  (h : Ev (fun k => spec_Contradiction.l2 k ((2 ^ n : Nat) : Int) (a : Int) (b : Int) ((c + 1 : Nat) : Int) (n : Int) (v : Int)) (R.getD ([], false))) :
  Ev (fun k => spec_Contradiction.l3 k ((2 ^ n : Nat) : Int) (a : Int) (b : Int) (c : Int) (c : Int) (n : Int) (v : Int)) (((cand v a b c).or R).getD ([], false)) := by
 have h32 := pow_le_5 hn
 have hf := full_p63 hn
 rw [← cand3_cs ha hb hc]
 refine cs_loop (fun k d => spec_Contradiction.l3 k ((2 ^ n : Nat) : Int) (a : Int) (b : Int) (c : Int) (d : Int) (n : Int) (v : Int)) (cand3 v a b c) (2 ^ n) ([], false) R (fun d rest hd hx => ?_) ?_ (2 ^ n - c) c (by omega)
 ·have hvc : v / 2 ^ c < 2 ^ 63 := Nat.lt_of_le_of_lt (Nat.div_le_self _ _) (by omega)
  have hvd : v / 2 ^ d < 2 ^ 63 := Nat.lt_of_le_of_lt (Nat.div_le_self _ _) (by omega)
  have e1 : Go.bits .and .i64 (a : Int) (b : Int) = ((a &&& b : Nat) : Int) := and_nat (by omega) (by omega)
  have e2 : Go.bits .and .i64 (c : Int) (d : Int) = ((c &&& d : Nat) : Int) := and_nat (by omega) (by omega)
  have e3 : Go.bits .xor .i64 (a : Int) (b : Int) = ((a ^^^ b : Nat) : Int) := xor_nat (by omega) (by omega)
  have e4 : Go.bits .xor .i64 (c : Int) (d : Int) = ((c ^^^ d : Nat) : Int) := xor_nat (by omega) (by omega)
  have e5 : Go.bits .and .i64 (Go.bits .or .i64 (shr .i64 (v : Int) (c : Int)) (shr .i64 (v : Int) (d : Int))) 1 = (((v.testBit c || v.testBit d).toNat : Nat) : Int) := by
   rw [shr_nat (by omega), shr_nat (by omega), or_nat hvc hvd, show (1 : Int) = ((1 : Nat) : Int) from rfl, and_nat (Nat.or_lt_two_pow hvc hvd) (by decide), two_or]
  have hs : ∀ k, spec_Contradiction.l3 (k + 1) ((2 ^ n : Nat) : Int) (a : Int) (b : Int) (c : Int) (d : Int) (n : Int) (v : Int) = (if a &&& b = c &&& d ∧ a ^^^ b = c ^^^ d ∧ (v.testBit c || v.testBit d) = false then some (quad a b c d, true) else spec_Contradiction.l3 k ((2 ^ n : Nat) : Int) (a : Int) (b : Int) (c : Int) ((d + 1 : Nat) : Int) (n : Int) (v : Int)) := by
   intro k
   simp only [spec_Contradiction.l3]
   rw [if_pos (by omega), e1, e2, e3, e4, e5, up1 (by omega)]
   by_cases c1 : a &&& b = c &&& d
   ·rw [if_pos (by rw [c1])]
    by_cases c2 : a ^^^ b = c ^^^ d
    ·rw [if_pos (by rw [c2]), if_pos (Int.natCast_nonneg c), if_pos (Int.natCast_nonneg d)]
     cases c3 : (v.testBit c || v.testBit d) with
     | true => rw [if_neg (by decide), if_neg (by simp)]
     | false => rw [if_pos (by decide), if_pos ⟨c1, c2, rfl⟩]; rfl
    ·rw [if_neg (by omega), if_neg (fun e => c2 e.2.1)]
   ·rw [if_neg (by omega), if_neg (fun e => c1 e.1)]
  refine Ev.step hs ?_
  unfold cand3
  by_cases e : a &&& b = c &&& d ∧ a ^^^ b = c ^^^ d ∧ (v.testBit c || v.testBit d) = false
  ·rw [if_pos e]
   exact Ev.congr (fun k => if_pos e) (Ev.now _)
  ·rw [if_neg e]
   exact Ev.congr (fun k => if_neg e) hx
 ·refine Ev.step (fun k => ?_) h
  simp only [spec_Contradiction.l3]
  rw [if_neg (by omega), up1 (by omega)]
theorem spec_Contradiction.in2 {n v a b : Nat} (hn : n ≤ 5) (hv : v < 2 ^ 2 ^ n) (ha : a < 2 ^ n) (hb : b < 2 ^ n) (R : Option (List Int × Bool))
  (h : Ev (fun k => spec_Contradiction.l1 k ((2 ^ n : Nat) : Int) (a : Int) ((b + 1 : Nat) : Int) (n : Int) (v : Int)) (R.getD ([], false))) :
  Ev (fun k => spec_Contradiction.l2 k ((2 ^ n : Nat) : Int) (a : Int) (b : Int) 0 (n : Int) (v : Int)) (((conC n v a b).or R).getD ([], false)) := by
 have h32 := pow_le_5 hn
 refine cs_loop (fun k c => spec_Contradiction.l2 k ((2 ^ n : Nat) : Int) (a : Int) (b : Int) (c : Int) (n : Int) (v : Int)) (cand v a b) (2 ^ n) ([], false) R (fun c rest hc hx => ?_) ?_ (2 ^ n) 0 (by omega)
 ·refine Ev.step (fun k => ?_) (spec_Contradiction.in3 hn hv ha hb hc rest hx)
  simp only [spec_Contradiction.l2]
  rw [if_pos (by omega)]
 ·refine Ev.step (fun k => ?_) h
  simp only [spec_Contradiction.l2]
  rw [if_neg (by omega), up1 (by omega)]
theorem spec_Contradiction.in1 {n v a : Nat} (hn : n ≤ 5) (hv : v < 2 ^ 2 ^ n) (ha : a < 2 ^ n) (R : Option (List Int × Bool))
  (h : Ev (fun k => spec_Contradiction.l0 k ((2 ^ n : Nat) : Int) ((a + 1 : Nat) : Int) (n : Int) (v : Int)) (R.getD ([], false))) :
  Ev (fun k => spec_Contradiction.l1 k ((2 ^ n : Nat) : Int) (a : Int) (a : Int) (n : Int) (v : Int)) (((conA n v a).or R).getD ([], false)) := by
 have h32 := pow_le_5 hn
 have hf := full_p63 hn
 refine cs_loop (fun k b => spec_Contradiction.l1 k ((2 ^ n : Nat) : Int) (a : Int) (b : Int) (n : Int) (v : Int)) (conB n v a) (2 ^ n) ([], false) R (fun b rest hb hx => ?_) ?_ (2 ^ n - a) a (by omega)
 ·have hva : v / 2 ^ a < 2 ^ 63 := Nat.lt_of_le_of_lt (Nat.div_le_self _ _) (by omega)
  have hvb : v / 2 ^ b < 2 ^ 63 := Nat.lt_of_le_of_lt (Nat.div_le_self _ _) (by omega)
  have e5 : Go.bits .and .i64 (Go.bits .and .i64 (shr .i64 (v : Int) (a : Int)) (shr .i64 (v : Int) (b : Int))) 1 = (((v.testBit a && v.testBit b).toNat : Nat) : Int) := by
   rw [shr_nat (by omega), shr_nat (by omega), and_nat hva hvb, show (1 : Int) = ((1 : Nat) : Int) from rfl, and_nat (Nat.lt_of_le_of_lt Nat.and_le_left hva) (by decide), two_and]
  unfold conB
  cases c3 : (v.testBit a && v.testBit b) with
  | true =>
   rw [if_pos rfl]
   refine Ev.step (fun k => ?_) (spec_Contradiction.in2 hn hv ha hb rest hx)
   simp only [spec_Contradiction.l1]
   rw [if_pos (by omega), if_pos (Int.natCast_nonneg a), if_pos (Int.natCast_nonneg b), e5, c3, if_neg (by decide)]
  | false =>
   rw [if_neg (by decide)]
   refine Ev.step (fun k => ?_) hx
   simp only [spec_Contradiction.l1]
   rw [if_pos (by omega), if_pos (Int.natCast_nonneg a), if_pos (Int.natCast_nonneg b), e5, c3, if_pos (by decide), up1 (by omega)]
 ·refine Ev.step (fun k => ?_) h
  simp only [spec_Contradiction.l1]
  rw [if_neg (by omega), up1 (by omega)]
theorem spec_Contradiction.ev (a b : Int) : Ev (fun k => spec_Contradiction.f k a b) (spec_Contradiction.r a b) := by
 unfold spec_Contradiction.r spec_Contradiction.f
 refine Ev.bind (Ev.const (spec_IsTable.ev a b)) ?_
 cases ht : isT a b with
 | false =>
  rw [if_neg (by simp)]
  refine Ev.congr (fun q => if_neg (by simp)) ?_
  exact Ev.now _
 | true =>
  rw [if_pos rfl]
  refine Ev.congr (fun q => if_pos rfl) ?_
  obtain ⟨n, v, rfl, rfl, hn, hv⟩ := isT_nat ht
  have h32 := pow_le_5 hn
  rw [Int.toNat_natCast, Int.toNat_natCast]
  refine Ev.congr (fun q => if_pos (Int.natCast_nonneg n)) ?_
  rw [shl_one (by omega)]
  have h := cs_loop (fun k a => spec_Contradiction.l0 k ((2 ^ n : Nat) : Int) (a : Int) (n : Int) (v : Int)) (conA n v) (2 ^ n) ([], false) none (fun a rest ha hx => by
   refine Ev.step (fun k => ?_) (spec_Contradiction.in1 hn hv ha rest hx)
   simp only [spec_Contradiction.l0]
   rw [if_pos (by omega)]) (Ev.end (fun k => by
   simp only [spec_Contradiction.l0]
   rw [if_neg (by omega)]; rfl)) (2 ^ n) 0 (by omega)
  have e : ((cs (conA n v) 0 (2 ^ n)).or none).getD ([], false) = conR n v := by
   show _ = (cs (conA n v) 0 (2 ^ n)).getD ([], false)
   cases cs (conA n v) 0 (2 ^ n) <;> rfl
  rw [e] at h
  exact h

theorem impl_Contradiction.sz {n : Nat} (hn : n ≤ 5) (v : Int) : impl_Table_size.f (n : Int) v = some ((2 ^ n : Nat) : Int) := by
 unfold impl_Table_size.f
 rw [if_pos (Int.natCast_nonneg n), shl_one (by omega)]
theorem impl_Contradiction.at_ {n v i : Nat} (hn : n ≤ 5) (hv : v < 2 ^ 2 ^ n) (hi : i < 2 ^ n) : impl_Table_at.f (n : Int) (v : Int) (i : Int) = some (((v.testBit i).toNat : Nat) : Int) := by
 have h32 := pow_le_5 hn
 have hf := full_p63 hn
 unfold impl_Table_at.f
 rw [if_pos (Int.natCast_nonneg i), bit_nat (by omega) (by omega)]
theorem impl_Contradiction.in2 {n v a b : Nat} (hn : n ≤ 5) (hv : v < 2 ^ 2 ^ n) (ha : a < 2 ^ n) (hb : b < 2 ^ n) (R : Option (List Int × Bool))
  (h : Ev (fun k => impl_Contradiction.l1 k (a : Int) ((b + 1 : Nat) : Int) ((2 ^ n : Nat) : Int) (a : Int) (n : Int) (v : Int)) (R.getD ([], false))) :
  Ev (fun k => impl_Contradiction.l2 k (a : Int) (b : Int) ((2 ^ n : Nat) : Int) (a : Int) ((2 ^ n : Nat) : Int) 0 (n : Int) (v : Int)) (((conC n v a b).or R).getD ([], false)) := by
 have h32 := pow_le_5 hn
 refine cs_loop (fun k c => impl_Contradiction.l2 k (a : Int) (b : Int) ((2 ^ n : Nat) : Int) (a : Int) ((2 ^ n : Nat) : Int) (c : Int) (n : Int) (v : Int)) (cand v a b) (2 ^ n) ([], false) R (fun c rest hc hx => ?_) ?_ (2 ^ n) 0 (by omega)
 ·have hd : a ^^^ b ^^^ c < 2 ^ n := Nat.xor_lt_two_pow (Nat.xor_lt_two_pow ha hb) hc
  have hab : a ^^^ b < 2 ^ n := Nat.xor_lt_two_pow ha hb
  have e3 : Go.bits .xor .i64 (Go.bits .xor .i64 (a : Int) (b : Int)) (c : Int) = ((a ^^^ b ^^^ c : Nat) : Int) := by rw [xor_nat (a := a) (b := b) (by omega) (by omega), xor_nat (by omega) (by omega)]
  have t1 := impl_Contradiction.at_ hn hv hc
  have t2 := impl_Contradiction.at_ hn hv hd
  have hx3 := xor_self3 a b c
  have q : impl_isContradiction.f (a : Int) (b : Int) (c : Int) ((a ^^^ b ^^^ c : Nat) : Int) = some (decide (a &&& b = c &&& (a ^^^ b ^^^ c))) := by
   unfold impl_isContradiction.f
   rw [and_nat (by omega) (by omega), and_nat (by omega) (by omega), xor_nat (by omega) (by omega), xor_nat (by omega) (by omega), ← hx3]
   by_cases e : a &&& b = c &&& (a ^^^ b ^^^ c)
   ·rw [if_pos (by rw [← e]), decide_eq_true e]; simp
   ·rw [if_neg (by omega), decide_eq_false e]
  have hs : ∀ k, impl_Contradiction.l2 (k + 1) (a : Int) (b : Int) ((2 ^ n : Nat) : Int) (a : Int) ((2 ^ n : Nat) : Int) (c : Int) (n : Int) (v : Int) = (if c ≤ a ^^^ b ^^^ c ∧ v.testBit c = false ∧ v.testBit (a ^^^ b ^^^ c) = false ∧ a &&& b = c &&& (a ^^^ b ^^^ c) then some (quad a b c (a ^^^ b ^^^ c), true) else impl_Contradiction.l2 k (a : Int) (b : Int) ((2 ^ n : Nat) : Int) (a : Int) ((2 ^ n : Nat) : Int) ((c + 1 : Nat) : Int) (n : Int) (v : Int)) := by
   intro k
   simp only [impl_Contradiction.l2]
   rw [if_pos (by omega), e3, up1 (by omega), t1, t2, q]
   by_cases c1 : c ≤ a ^^^ b ^^^ c
   ·rw [if_pos (by omega), Option.bind_some]
    cases h1 : v.testBit c with
    | true => rw [if_neg (by decide), if_neg (by simp)]
    | false =>
     rw [if_pos (by decide), Option.bind_some]
     cases h2 : v.testBit (a ^^^ b ^^^ c) with
     | true => rw [if_neg (by decide), if_neg (by simp)]
     | false =>
      rw [if_pos (by decide), Option.bind_some]
      by_cases h3 : a &&& b = c &&& (a ^^^ b ^^^ c)
      ·rw [if_pos (decide_eq_true h3), if_pos ⟨c1, rfl, rfl, h3⟩]; rfl
      ·rw [if_neg (by rw [decide_eq_false h3]; decide), if_neg (fun e => h3 e.2.2.2)]
   ·rw [if_neg (by omega), if_neg (fun e => c1 e.1)]
  refine Ev.step hs ?_
  unfold cand
  by_cases e : c ≤ a ^^^ b ^^^ c ∧ v.testBit c = false ∧ v.testBit (a ^^^ b ^^^ c) = false ∧ a &&& b = c &&& (a ^^^ b ^^^ c)
  ·rw [if_pos e]
   exact Ev.congr (fun k => if_pos e) (Ev.now _)
  ·rw [if_neg e]
   exact Ev.congr (fun k => if_neg e) hx
 ·refine Ev.step (fun k => ?_) h
  simp only [impl_Contradiction.l2]
  rw [if_neg (by omega), up1 (by omega)]
theorem impl_Contradiction.in1 {n v a : Nat} (hn : n ≤ 5) (hv : v < 2 ^ 2 ^ n) (ha : a < 2 ^ n) (R : Option (List Int × Bool))
  (h : Ev (fun k => impl_Contradiction.l0 k ((2 ^ n : Nat) : Int) ((a + 1 : Nat) : Int) (n : Int) (v : Int)) (R.getD ([], false))) :
  Ev (fun k => impl_Contradiction.l1 k (a : Int) (a : Int) ((2 ^ n : Nat) : Int) (a : Int) (n : Int) (v : Int)) (((conA n v a).or R).getD ([], false)) := by
 have h32 := pow_le_5 hn
 have hsz := impl_Contradiction.sz hn (v : Int)
 have t1 := impl_Contradiction.at_ hn hv ha
 refine cs_loop (fun k b => impl_Contradiction.l1 k (a : Int) (b : Int) ((2 ^ n : Nat) : Int) (a : Int) (n : Int) (v : Int)) (conB n v a) (2 ^ n) ([], false) R (fun b rest hb hx => ?_) ?_ (2 ^ n - a) a (by omega)
 ·have t2 := impl_Contradiction.at_ hn hv hb
  unfold conB
  have hj : ∀ q, (q = true → Ev (fun k => impl_Contradiction.j2 k (a : Int) (b : Int) ((2 ^ n : Nat) : Int) (a : Int) q (n : Int) (v : Int)) (rest.getD ([], false))) ∧ (q = false → Ev (fun k => impl_Contradiction.j2 k (a : Int) (b : Int) ((2 ^ n : Nat) : Int) (a : Int) q (n : Int) (v : Int)) (((conC n v a b).or rest).getD ([], false))) := by
   intro q
   constructor
   ·rintro rfl
    refine Ev.step (fun k => ?_) hx
    simp only [impl_Contradiction.j2]
    rw [if_pos trivial, up1 (by omega)]
   ·rintro rfl
    refine Ev.step (fun k => ?_) (impl_Contradiction.in2 hn hv ha hb rest hx)
    simp only [impl_Contradiction.j2]
    rw [if_neg (by decide), hsz, Option.bind_some]
  cases h1 : v.testBit a with
  | false =>
   rw [Bool.false_and, if_neg (by decide)]
   refine Ev.step (fun k => ?_) ((hj true).1 rfl)
   simp only [impl_Contradiction.l1]
   rw [hsz, Option.bind_some, if_pos (by omega), t1, h1, Option.bind_some, if_pos (by decide)]
  | true =>
   cases h2 : v.testBit b with
   | false =>
    rw [Bool.and_false, if_neg (by decide)]
    refine Ev.step (fun k => ?_) ((hj true).1 rfl)
    simp only [impl_Contradiction.l1]
    rw [hsz, Option.bind_some, if_pos (by omega), t1, h1, Option.bind_some, if_neg (by decide), t2, h2, Option.bind_some]; rfl
   | true =>
    rw [Bool.and_true, if_pos rfl]
    refine Ev.step (fun k => ?_) ((hj false).2 rfl)
    simp only [impl_Contradiction.l1]
    rw [hsz, Option.bind_some, if_pos (by omega), t1, h1, Option.bind_some, if_neg (by decide), t2, h2, Option.bind_some]; rfl
 ·refine Ev.step (fun k => ?_) h
  simp only [impl_Contradiction.l1]
  rw [hsz, Option.bind_some, if_neg (by omega), up1 (by omega)]
theorem impl_Contradiction.ev (a b : Int) : Ev (fun k => impl_Contradiction.f k a b) (spec_Contradiction.r a b) := by
 unfold spec_Contradiction.r impl_Contradiction.f
 refine Ev.bind (Ev.const (impl_IsTable.ev a b)) ?_
 cases ht : isT a b with
 | false =>
  rw [if_neg (by simp)]
  refine Ev.congr (fun q => if_neg (by simp)) ?_
  exact Ev.now _
 | true =>
  rw [if_pos rfl]
  refine Ev.congr (fun q => if_pos rfl) ?_
  obtain ⟨n, v, rfl, rfl, hn, hv⟩ := isT_nat ht
  have h32 := pow_le_5 hn
  rw [Int.toNat_natCast, Int.toNat_natCast]
  refine Ev.bind (Ev.const (impl_Contradiction.sz hn (v : Int))) ?_
  have h := cs_loop (fun k a => impl_Contradiction.l0 k ((2 ^ n : Nat) : Int) (a : Int) (n : Int) (v : Int)) (conA n v) (2 ^ n) ([], false) none (fun a rest ha hx => by
   refine Ev.step (fun k => ?_) (impl_Contradiction.in1 hn hv ha rest hx)
   simp only [impl_Contradiction.l0]
   rw [if_pos (by omega)]) (Ev.end (fun k => by
   simp only [impl_Contradiction.l0]
   rw [if_neg (by omega)]; rfl)) (2 ^ n) 0 (by omega)
  have e : ((cs (conA n v) 0 (2 ^ n)).or none).getD ([], false) = conR n v := by
   show _ = (cs (conA n v) 0 (2 ^ n)).getD ([], false)
   cases cs (conA n v) 0 (2 ^ n) <;> rfl
  rw [e] at h
  exact h

theorem impl_IsThreshold.ev (a b : Int) : Ev (fun k => impl_IsThreshold.f k a b) (spec_WeightsFor.r a b).2.2 := by
 unfold impl_IsThreshold.f
 exact Ev.bind (impl_WeightsFor.ev a b) (Ev.now _)

theorem impl_Table_restrict.ev {n v i b : Nat} (h1 : 1 ≤ n) (hn : n ≤ 5) (hv : v < 2 ^ 32) (hi : i < n) (hb : b ≤ 1) : impl_Table_restrict.f n v i b = some (((n - 1 : Nat) : Int), ((rstW n v i b : Nat) : Int)) := by
 unfold impl_Table_restrict.f
 rw [if_pos ⟨by omega, by omega, by omega, by omega, by omega, by omega, by omega, by omega⟩]
 simp only [Int.toNat_natCast]
 rw [show ((n : Int) - 1) = ((n - 1 : Nat) : Int) by omega]; rfl

theorem impl_Table_polarity.ev {n v i : Nat} (h1 : 1 ≤ n) (hn : n ≤ 5) (hv : v < 2 ^ 32) (hi : i < n) : impl_Table_polarity.f n v i = some (polV n v i) := by
 have r0 := rstW_lt hn v i 0
 have r1 := rstW_lt hn v i 1
 unfold impl_Table_polarity.f
 have q0 := impl_Table_restrict.ev (b := 0) h1 hn hv hi (by omega)
 have q1 := impl_Table_restrict.ev (b := 1) h1 hn hv hi (by omega)
 have q0' : impl_Table_restrict.f n v i 0 = _ := q0
 have q1' : impl_Table_restrict.f n v i 1 = _ := q1
 rw [q0', Option.bind_some, q1', Option.bind_some]
 rw [andNot_nat (by omega) (by omega), andNot_nat (by omega) (by omega)]
 unfold polV pol
 have s1 := subset_iff (a := rstW n v i 0) (v := rstW n v i 1)
 have s2 := subset_iff (a := rstW n v i 1) (v := rstW n v i 0)
 generalize rstW n v i 0 = a at *
 generalize rstW n v i 1 = b at *
 by_cases e1 : a = b
 ·rw [if_pos e1, if_pos (by omega)]
 ·rw [if_neg e1, if_neg (by omega)]
  by_cases e2 : a &&& b = a
  ·rw [if_pos e2, if_pos (by rw [s1.mp e2]; rfl)]
  ·have z := fun e => e2 (s1.mpr e)
   rw [if_neg e2, if_neg (by omega)]
   by_cases e3 : b &&& a = b
   ·rw [if_pos e3, if_pos (by rw [s2.mp e3]; rfl)]
   ·have z := fun e => e3 (s2.mpr e)
    rw [if_neg e3, if_neg (by omega)]

theorem impl_Table_unateShift.ev {n v : Nat} (hn : n ≤ 5) (hv : v < 2 ^ 2 ^ n) : Ev (fun k => impl_Table_unateShift.f k n v) (if noTwo (polV n v) n = true then (((prefW (fun i => polV n v i == -1) n : Nat) : Int), true) else (0, false)) := by
 have h32 := full_lt hn
 have key : ∀ d i, i + d = n → (∀ j, j < i → polV n v j ≠ 2) → Ev (fun k => impl_Table_unateShift.l0 k ((prefW (fun i => polV n v i == -1) i : Nat) : Int) n (i : Int) n v) (if noTwo (polV n v) n = true then (((prefW (fun i => polV n v i == -1) n : Nat) : Int), true) else (0, false)) := by
  intro d
  induction d with
  | zero =>
   intro i hi hj
   obtain rfl : i = n := by omega
   rw [noTwo_true hj, if_pos rfl]
   refine Ev.end (fun k => ?_)
   simp only [impl_Table_unateShift.l0]
   rw [if_neg (by omega)]
  | succ d ih =>
   intro i hi hj
   have hp := impl_Table_polarity.ev (n := n) (v := v) (i := i) (by omega) hn (by omega) (by omega)
   by_cases h2 : polV n v i = 2
   ·rw [noTwo_false h2 (by omega), if_neg (by decide)]
    refine Ev.end (fun k => ?_)
    simp only [impl_Table_unateShift.l0]
    rw [if_pos (by omega), hp, Option.bind_some, if_neg (by rw [h2]; decide), if_pos h2]
   ·have hnext := ih (i + 1) (by omega) (fun j hj' => by
     by_cases e : j = i
     ·rw [e]; exact h2
     ·exact hj j (by omega))
    refine Ev.step (fun k => ?_) hnext
    simp only [impl_Table_unateShift.l0]
    rw [if_pos (by omega), hp, Option.bind_some, w64 (by omega) (by omega)]
    by_cases h1 : polV n v i = -1
    ·rw [if_pos h1, if_pos (by omega), prefW_step_one (g := fun i => polV n v i == -1) (by omega) (by rw [h1]; rfl)]; rfl
    ·rw [if_neg h1, if_neg h2, prefW_skip (g := fun i => polV n v i == -1) (beq_eq_false_iff_ne.mpr h1)]; rfl
 exact key n 0 (by omega) (fun j hj => by omega)

theorem impl_UnateShift.evT {n v : Nat} (hn : n ≤ 5) (hv : v < 2 ^ 2 ^ n) : Ev (fun k => impl_UnateShift.f k n v) (if noTwo (polV n v) n = true then (((prefW (fun i => polV n v i == -1) n : Nat) : Int), true) else (0, false)) := by
 unfold impl_UnateShift.f
 rw [impl_IsTable.ev, isT_mk hn hv]
 simp only [Option.bind_some, if_true]
 exact Ev.bind (impl_Table_unateShift.ev hn hv) (Ev.now _)
theorem impl_UnateShift.evF {a b : Int} (ht : isT a b = false) : Ev (fun k => impl_UnateShift.f k a b) (0, false) := by
 unfold impl_UnateShift.f
 rw [impl_IsTable.ev, ht]
 simp only [Option.bind_some, Bool.false_eq_true, if_false]
 exact Ev.now _

theorem impl_IsUnate.evT {n v : Nat} (hn : n ≤ 5) (hv : v < 2 ^ 2 ^ n) : Ev (fun k => impl_IsUnate.f k n v) (noTwo (polV n v) n) := by
 refine Ev.bind (impl_UnateShift.evT hn hv) ?_
 cases noTwo (polV n v) n
 ·exact Ev.now _
 ·exact Ev.now _
theorem impl_IsUnate.evF {a b : Int} (ht : isT a b = false) : Ev (fun k => impl_IsUnate.f k a b) false := Ev.bind (impl_UnateShift.evF ht) (Ev.now _)

theorem impl_hasVariable.ev (a b i : Int) : impl_hasVariable.f a b i = some (isT a b && decide (0 ≤ i ∧ i < a)) := by
 unfold impl_hasVariable.f
 rw [impl_IsTable.ev, Option.bind_some]
 cases isT a b with
 | false => rfl
 | true =>
  rw [if_pos rfl]
  by_cases h : 0 ≤ i
  ·rw [if_pos h]; simp [h]
  ·rw [if_neg h]; simp [h]

theorem impl_hasInput.ev (a b x : Int) : impl_hasInput.f a b x = some (isT a b && inR a.toNat x) := by
 unfold impl_hasInput.f
 rw [impl_IsTable.ev]
 cases h : isT a b with
 | false => rfl
 | true =>
  obtain ⟨n, v, rfl, rfl, hn, hv⟩ := isT_nat h
  rw [Option.bind_some, if_pos rfl]
  unfold impl_isInput.f inR
  rw [Int.toNat_natCast]
  by_cases hx : x ≥ 0
  ·rw [if_pos hx, if_pos (Int.natCast_nonneg n), shl_one (by omega), Option.bind_some]
   congr 1
   rw [Bool.true_and]
   apply decide_eq_decide.mpr
   omega
  ·rw [if_neg hx, Option.bind_some]
   congr 1; symm
   rw [Bool.true_and]
   apply decide_eq_false; omega

theorem spec_DrawTableOfWeights.okj (b : List Int) (hb : b.length ≤ 1048576) (l : List Int) (hl : l.length ≤ 100) (c : Bool) (hc : c = true → 0 < l.length) (i h : Int) (hi : 0 ≤ i) : Tot (fun k => spec_DrawTableOfWeights.j1 k l c b i h) (fun r => r.1.length ≤ 1000) := by
 cases c with
 | true =>
  obtain ⟨q, i2, h2, e2, _, q3⟩ := spec_l1PickInt.ok b i h [100, 101, (-9223372036854775808)] hb hi (by decide) (by decide)
  obtain ⟨z, i3, h3, e3, _, z3⟩ := spec_l1PickInt.ok b i2 h2 [0, 1, 2, 3, (-1), 1001, (-9223372036854775808)] hb q3 (by decide) (by decide)
  have h0 := hc rfl
  refine Tot.end (l.set (0 : Int).toNat q, z) (by simp; omega) (fun k => ?_)
  simp only [spec_DrawTableOfWeights.j1]
  rw [if_pos trivial, e2, Option.bind_some, if_pos (by omega), e3, Option.bind_some]
 | false =>
  obtain ⟨z, i3, h3, e3, _, z3⟩ := spec_l1PickInt.ok b i h [0, 1, 2, 3, (-1), 1001, (-9223372036854775808)] hb hi (by decide) (by decide)
  refine Tot.end (l, z) (by show l.length ≤ 1000; omega) (fun k => ?_)
  simp only [spec_DrawTableOfWeights.j1]
  rw [if_neg (by decide), e3, Option.bind_some]
theorem spec_DrawTableOfWeights.ok0 (b : List Int) (hb : b.length ≤ 1048576) : ∀ (d : Nat), d ≤ 10 → ∀ (l : List Int), l.length + d ≤ 100 → ∀ (i h : Int), 0 ≤ i → Tot (fun k => spec_DrawTableOfWeights.l0 k l (d : Int) b i h) (fun r => r.1.length ≤ 1000)
 | 0, _, l, hl, i, h, hi => by
  by_cases hz : (l.length : Int) > 0
  ·obtain ⟨x, i1, h1, e1, p1⟩ := spec_l1Once.ok b i h 10 hb hi (by decide) (by decide)
   refine Tot.step (f := fun k => spec_DrawTableOfWeights.j1 k l x b i1 h1) (fun k => ?_) (spec_DrawTableOfWeights.okj b hb l (by omega) x (fun _ => by omega) i1 h1 p1)
   simp only [spec_DrawTableOfWeights.l0]
   rw [if_neg (by decide), if_pos hz, e1, Option.bind_some]
  ·refine Tot.step (f := fun k => spec_DrawTableOfWeights.j1 k l false b i h) (fun k => ?_) (spec_DrawTableOfWeights.okj b hb l (by omega) false (fun e => by cases e) i h hi)
   simp only [spec_DrawTableOfWeights.l0]
   rw [if_neg (by decide), if_neg hz]
 | d + 1, hd, l, hl, i, h, hi => by
  obtain ⟨q, i2, h2, e2, q1, q2, q3⟩ := spec_l1Below.ok b i h 9 hb hi (by decide) (by decide)
  refine Tot.step (f := fun k => spec_DrawTableOfWeights.l0 k (l ++ [wrap64 (q - 4)]) (d : Int) b i2 h2) (fun k => ?_) (spec_DrawTableOfWeights.ok0 b hb d (by omega) (l ++ [wrap64 (q - 4)]) (by simp; omega) i2 h2 q3)
  simp only [spec_DrawTableOfWeights.l0]
  rw [if_pos (by omega), e2, Option.bind_some, if_pos (by omega), w64 (x := ((d + 1 : Nat) : Int) - 1) (by omega) (by omega), show ((d + 1 : Nat) : Int) - 1 = (d : Int) by omega]
theorem spec_DrawTableOfWeights.ok (b : List Int) (hb : b.length ≤ 1048576) : Tot (fun k => spec_DrawTableOfWeights.f k b) (fun r => r.1.length ≤ 1000) := by
 unfold spec_DrawTableOfWeights.f
 refine Tot.bind (spec_l1New.ok b hb) (fun r hr => ?_)
 obtain ⟨r1, r2, r3⟩ := r
 obtain ⟨rfl, rfl⟩ := hr
 obtain ⟨q, i2, h2, e2, q1, q2, q3⟩ := spec_l1Below.ok r1 0 r3 7 hb (Int.le_refl 0) (by decide) (by decide)
 simp only [e2, Option.bind_some]
 obtain ⟨n, rfl⟩ := nat_of q1
 exact spec_DrawTableOfWeights.ok0 r1 hb n (by omega) [] (by simp; omega) i2 h2 q3

theorem spec_DrawIsContradiction.okj (b : List Int) (hb : b.length ≤ 1048576) (i h : Int) (hi : 0 ≤ i) (l : List Int) (c : Bool) (u v : Int) : Tot (fun k => spec_DrawIsContradiction.j0 k l c b i h u v) (fun _ => True) := by
 cases c with
 | true =>
  refine Tot.end (u, v, l) trivial (fun k => ?_)
  simp only [spec_DrawIsContradiction.j0]; rw [if_pos trivial]
 | false =>
  obtain ⟨x, i1, h1, e1, _, _, p1⟩ := spec_l1Below.ok b i h 9 hb hi (by decide) (by decide)
  obtain ⟨y, i2, h2, e2, _, _, p2⟩ := spec_l1Below.ok b i1 h1 9 hb p1 (by decide) (by decide)
  obtain ⟨z, i3, h3, e3, _, _, p3⟩ := spec_l1Below.ok b i2 h2 9 hb p2 (by decide) (by decide)
  obtain ⟨t, i4, h4, e4, _, _, p4⟩ := spec_l1Below.ok b i3 h3 10 hb p3 (by decide) (by decide)
  refine Tot.end (u, v, [x, y, z, wrap64 (t - 1)]) trivial (fun k => ?_)
  simp only [spec_DrawIsContradiction.j0]
  rw [if_neg (by decide), e1, Option.bind_some, e2, Option.bind_some, e3, Option.bind_some, e4, Option.bind_some]
theorem spec_DrawIsContradiction.ok (b : List Int) (hb : b.length ≤ 1048576) : Tot (fun k => spec_DrawIsContradiction.f k b) (fun _ => True) := by
 unfold spec_DrawIsContradiction.f
 refine Tot.bind (spec_l1New.ok b hb) (fun r hr => ?_)
 obtain ⟨r1, r2, r3⟩ := r
 obtain ⟨rfl, rfl⟩ := hr
 refine Tot.bind (spec_l2Any.ok r1 hb 0 r3 (Int.le_refl 0)) (fun s hs => ?_)
 refine Tot.bind (Tot.ev (P := fun _ => True) (spec_Contradiction.ev s.1 s.2.1) trivial) (fun t _ => ?_)
 refine Tot.ite _ (fun _ => ?_) (fun _ => ?_)
 ·obtain ⟨x, i1, h1, e1, q1⟩ := spec_l1Once.ok r1 s.2.2.1 s.2.2.2 3 hb hs (by decide) (by decide)
  simp only [e1, Option.bind_some]
  exact spec_DrawIsContradiction.okj r1 hb i1 h1 q1 _ _ _ _
 ·exact spec_DrawIsContradiction.okj r1 hb _ _ hs _ _ _ _

theorem spec_DrawCountThreshold.ok (b : List Int) (hb : b.length ≤ 1048576) : Tot (fun k => spec_DrawCountThreshold.f k b) (fun _ => True) := by
 unfold spec_DrawCountThreshold.f
 refine Tot.bind (spec_l1New.ok b hb) (fun r hr => ?_)
 obtain ⟨r1, r2, r3⟩ := r
 obtain ⟨rfl, rfl⟩ := hr
 obtain ⟨q, i2, h2, e2, q1, q2, q3⟩ := spec_l1Below.ok r1 0 r3 6 hb (Int.le_refl 0) (by decide) (by decide)
 simp only [e2, Option.bind_some]
 exact Tot.now _ trivial

theorem spec_DrawChowNumbers.ok (b : List Int) (hb : b.length ≤ 1048576) : Tot (fun k => spec_DrawChowNumbers.f k b) (fun _ => True) := by
 unfold spec_DrawChowNumbers.f
 refine Tot.bind (spec_l1New.ok b hb) (fun r hr => ?_)
 obtain ⟨r1, r2, r3⟩ := r
 obtain ⟨rfl, rfl⟩ := hr
 exact Tot.bind (spec_l16Draw.ok r1 hb 0 r3 (Int.le_refl 0)) (fun s _ => Tot.now _ trivial)

theorem bits_OnesCount64.ev {w : Nat} (h : w < 2 ^ 32) : bits_OnesCount64.f w = some ((pc w : Nat) : Int) := by
 unfold bits_OnesCount64.f
 rw [sA_eq h, sB_eq (sA_lt h), sC_eq (sB_lt (sA_lt h))]
 exact congrArg some (swar_end h rfl _ rfl)
theorem impl_ones.ev {w : Nat} (h : w < 2 ^ 32) : impl_ones.f w = some ((pc w : Nat) : Int) := by
 unfold impl_ones.f
 rw [u64n (by omega), bits_OnesCount64.ev h]; rfl

def spec_IsContradiction.ok (a b : Int) (l : List Int) (i : Nat) : Bool := decide (0 ≤ rd l (i : Int) ∧ rd l (i : Int) < ((2 ^ a.toNat : Nat) : Int)) && (b.toNat.testBit (rd l (i : Int)).toNat == decide (i < 2))
def spec_IsContradiction.same (l : List Int) : Bool := decide (Go.bits .and .i64 (rd l 0) (rd l 1) = Go.bits .and .i64 (rd l 2) (rd l 3)) && (Go.bits .xor .i64 (rd l 0) (rd l 1) == Go.bits .xor .i64 (rd l 2) (rd l 3))
def spec_IsContradiction.r (a b : Int) (l : List Int) : Bool := if isT a b = true ∧ l.length = 4 then (spec_IsContradiction.ok a b l 0 && spec_IsContradiction.ok a b l 1 && spec_IsContradiction.ok a b l 2 && spec_IsContradiction.ok a b l 3 && spec_IsContradiction.same l) else false
theorem spec_IsContradiction.four {F : Nat → Nat → Option Bool} {ok : Nat → Bool} {e : Bool} (hs : ∀ i, i < 4 → ok i = true → ∀ r, Ev (fun k => F k (i + 1)) r → Ev (fun k => F k i) r) (hb : ∀ i, i < 4 → ok i = false → Ev (fun k => F k i) false) (he : Ev (fun k => F k 4) e) : Ev (fun k => F k 0) (ok 0 && ok 1 && ok 2 && ok 3 && e) := by
 cases h0 : ok 0 with
 | false => exact hb 0 (by omega) h0
 | true =>
  refine hs 0 (by omega) h0 _ ?_
  cases h1 : ok 1 with
  | false => exact hb 1 (by omega) h1
  | true =>
   refine hs 1 (by omega) h1 _ ?_
   cases h2 : ok 2 with
   | false => exact hb 2 (by omega) h2
   | true =>
    refine hs 2 (by omega) h2 _ ?_
    cases h3 : ok 3 with
    | false => exact hb 3 (by omega) h3
    | true => exact hs 3 (by omega) h3 _ he
theorem spec_IsContradiction.ev (a b : Int) (l : List Int) : Ev (fun k => spec_IsContradiction.f k a b l) (spec_IsContradiction.r a b l) := by
 unfold spec_IsContradiction.f spec_IsContradiction.r
 refine Ev.bind (Ev.const (spec_IsTable.ev a b)) ?_
 cases ht : isT a b with
 | false =>
  rw [if_neg (by simp)]
  refine Ev.congr (fun q => if_neg (by simp)) ?_
  exact Ev.end (fun q => by simp only [spec_IsContradiction.j0]; rw [if_pos trivial])
 | true =>
  refine Ev.congr (fun q => if_pos rfl) ?_
  by_cases h4 : l.length = 4
  ·rw [if_pos ⟨rfl, h4⟩]
   obtain ⟨n, v, rfl, rfl, hn, hv⟩ := isT_nat ht
   have h32 := pow_le_5 hn
   have hp := Nat.two_pow_pos n
   have hf := full_p63 hn
   have e4 : ((l.length : Int) != 4) = false := bne_eq_false_iff_eq.mpr (by omega)
   rw [e4]
   refine Ev.step (f := fun k => spec_IsContradiction.l0 k l ((0 : Nat) : Int) (n : Int) (v : Int)) (fun k => by simp only [spec_IsContradiction.j0]; rw [if_neg (by decide)]; rfl) ?_
   have hr : ∀ (i : Nat), i < 4 → ∀ k, spec_IsContradiction.l0 (k + 1) l (i : Int) (n : Int) (v : Int) = if spec_IsContradiction.ok (n : Int) (v : Int) l i = true then spec_IsContradiction.l0 k l ((i + 1 : Nat) : Int) (n : Int) (v : Int) else some false := by
    intro i hi k
    have es : wrap64 (shl .i64 1 (n : Int) - 1) = ((2 ^ n : Nat) : Int) - 1 := by rw [shl_one (by omega), w64 (by omega) (by omega)]
    have et : wrap64 (1 - wrap64 (Int.tdiv (i : Int) 2)) = ((decide (i < 2)).toNat : Int) := by
     have c : i = 0 ∨ i = 1 ∨ i = 2 ∨ i = 3 := by omega
     rcases c with rfl | rfl | rfl | rfl <;> decide +kernel
    simp only [spec_IsContradiction.l0]
    rw [if_pos (by omega), if_pos (Int.natCast_nonneg i), if_pos (by omega), if_pos (Int.natCast_nonneg n), es, et, spec_l1In.ev, Option.bind_some, up1 (by omega)]
    unfold spec_IsContradiction.ok
    rw [Int.toNat_natCast, Int.toNat_natCast]
    by_cases c1 : 0 ≤ rd l (i : Int) ∧ rd l (i : Int) < ((2 ^ n : Nat) : Int)
    ·obtain ⟨x, hx⟩ := nat_of c1.1
     rw [hx] at c1 ⊢
     rw [decide_eq_true (show 0 ≤ (x : Int) ∧ (x : Int) ≤ ((2 ^ n : Nat) : Int) - 1 by omega), decide_eq_true c1, if_pos rfl, if_pos c1.1, bit_nat (by omega) (by omega), Int.toNat_natCast, Bool.true_and]
     cases v.testBit x <;> cases decide (i < 2) <;> rfl
    ·rw [decide_eq_false (show ¬ (0 ≤ rd l (i : Int) ∧ rd l (i : Int) ≤ ((2 ^ n : Nat) : Int) - 1) by omega), decide_eq_false c1, if_neg (by decide), Bool.false_and, if_neg (by decide)]
   refine spec_IsContradiction.four (F := fun k i => spec_IsContradiction.l0 k l (i : Int) (n : Int) (v : Int)) (fun i hi ho r h => Ev.step (fun k => by rw [hr i hi k, if_pos ho]) h) (fun i hi ho => Ev.end (fun k => by rw [hr i hi k, if_neg (by rw [ho]; decide)])) (Ev.end (fun k => ?_))
   simp only [spec_IsContradiction.l0]
   rw [if_neg (by decide), if_pos (by omega), if_pos (by omega), if_pos (by omega), if_pos (by omega)]
   unfold spec_IsContradiction.same
   by_cases c1 : Go.bits .and .i64 (rd l 0) (rd l 1) = Go.bits .and .i64 (rd l 2) (rd l 3)
   ·rw [if_pos c1, decide_eq_true c1, Bool.true_and]
   ·rw [if_neg c1, decide_eq_false c1, Bool.false_and]
  ·rw [if_neg (fun e => h4 e.2)]
   have e4 : ((l.length : Int) != 4) = true := bne_iff_ne.mpr (by omega)
   rw [e4]
   exact Ev.end (fun q => by simp only [spec_IsContradiction.j0]; rw [if_pos trivial])
theorem spec_IsContradiction.found {n v : Nat} (hn : n ≤ 5) (hv : v < 2 ^ 2 ^ n) {x : List Int × Bool} (h : con n v = some x) : spec_IsContradiction.r (n : Int) (v : Int) x.1 = true := by
 have h32 := pow_le_5 hn
 obtain ⟨a, b, c, d, rfl, ha, hb, hc, hd, h1, h2, k1, k2, k3, k4⟩ := con_some h
 unfold spec_IsContradiction.r spec_IsContradiction.ok spec_IsContradiction.same
 have r0 : rd (quad a b c d) 0 = (a : Int) := rfl
 have r1 : rd (quad a b c d) 1 = (b : Int) := rfl
 have r2 : rd (quad a b c d) 2 = (c : Int) := rfl
 have r3 : rd (quad a b c d) 3 = (d : Int) := rfl
 have r0' : rd (quad a b c d) ((0 : Nat) : Int) = (a : Int) := rfl
 have r1' : rd (quad a b c d) ((1 : Nat) : Int) = (b : Int) := rfl
 have r2' : rd (quad a b c d) ((2 : Nat) : Int) = (c : Int) := rfl
 have r3' : rd (quad a b c d) ((3 : Nat) : Int) = (d : Int) := rfl
 rw [if_pos ⟨isT_mk hn hv, rfl⟩]
 dsimp only
 rw [r0, r1, r2, r3, r0', r1', r2', r3', and_nat (by omega) (by omega), and_nat (by omega) (by omega), xor_nat (by omega) (by omega), xor_nat (by omega) (by omega), h1, h2]
 simp only [Int.toNat_natCast, k1, k2, k3, k4]
 rw [decide_eq_true (show 0 ≤ (a : Int) ∧ (a : Int) < ((2 ^ n : Nat) : Int) by omega), decide_eq_true (show 0 ≤ (b : Int) ∧ (b : Int) < ((2 ^ n : Nat) : Int) by omega), decide_eq_true (show 0 ≤ (c : Int) ∧ (c : Int) < ((2 ^ n : Nat) : Int) by omega), decide_eq_true (show 0 ≤ (d : Int) ∧ (d : Int) < ((2 ^ n : Nat) : Int) by omega)]
 simp

theorem impl_IsContradiction.ev (a b : Int) (l : List Int) : Ev (fun k => impl_IsContradiction.f k a b l) (spec_IsContradiction.r a b l) := by
 unfold spec_IsContradiction.r impl_IsContradiction.f
 by_cases h4 : l.length = 4
 ·refine Ev.congr (fun q => if_pos (by omega)) ?_
  have et : ∀ i : Nat, i < 4 → wrap64 (1 - wrap64 (Int.tdiv (i : Int) 2)) = ((decide (i < 2)).toNat : Int) := by
   intro i hi
   have c : i = 0 ∨ i = 1 ∨ i = 2 ∨ i = 3 := by omega
   rcases c with rfl | rfl | rfl | rfl <;> decide +kernel
  cases ht : isT a b with
  | false =>
   rw [if_neg (by simp)]
   refine Ev.end (fun k => ?_)
   have hv : impl_ValueAt.f a b (rd l 0) = some (-1) := by
    unfold impl_ValueAt.f
    rw [impl_hasInput.ev, ht, Option.bind_some, Bool.false_and, if_neg (by decide)]
   simp only [impl_IsContradiction.l0]
   rw [if_pos (by omega), if_pos (by decide), if_pos (by omega), hv, Option.bind_some, if_neg (by decide +kernel)]
  | true =>
   rw [if_pos ⟨rfl, h4⟩]
   obtain ⟨n, v, rfl, rfl, hn, hv⟩ := isT_nat ht
   have h32 := pow_le_5 hn
   have hf := full_p63 hn
   have hr : ∀ (i : Nat), i < 4 → ∀ k, impl_IsContradiction.l0 (k + 1) l l (l.length : Int) (i : Int) (n : Int) (v : Int) = if spec_IsContradiction.ok (n : Int) (v : Int) l i = true then impl_IsContradiction.l0 k l l (l.length : Int) ((i + 1 : Nat) : Int) (n : Int) (v : Int) else some false := by
    intro i hi k
    simp only [impl_IsContradiction.l0]
    rw [if_pos (by omega), if_pos (Int.natCast_nonneg i), if_pos (by omega), et i hi, up1 (by omega)]
    unfold impl_ValueAt.f spec_IsContradiction.ok
    rw [impl_hasInput.ev, ht, Option.bind_some, Bool.true_and, Int.toNat_natCast, Int.toNat_natCast]
    by_cases c1 : 0 ≤ rd l (i : Int) ∧ rd l (i : Int) < ((2 ^ n : Nat) : Int)
    ·obtain ⟨x, hx⟩ := nat_of c1.1
     rw [hx] at c1 ⊢
     have ei : inR n (x : Int) = true := by unfold inR; exact decide_eq_true c1
     have ea : impl_Table_at.f (n : Int) (v : Int) (x : Int) = some (((v.testBit x).toNat : Nat) : Int) := by
      unfold impl_Table_at.f
      rw [if_pos (Int.natCast_nonneg x), bit_nat (by omega) (by omega)]
     rw [ei, if_pos rfl, ea, Option.bind_some, Option.bind_some, decide_eq_true c1, Int.toNat_natCast, Bool.true_and]
     cases v.testBit x <;> cases decide (i < 2) <;> rfl
    ·have ei : inR n (rd l (i : Int)) = false := by unfold inR; exact decide_eq_false c1
     rw [ei, if_neg (by decide), Option.bind_some, decide_eq_false c1, Bool.false_and, if_neg (by have := Int.natCast_nonneg (decide (i < 2)).toNat; omega), if_neg (by decide)]
   refine spec_IsContradiction.four (F := fun k i => impl_IsContradiction.l0 k l l (l.length : Int) (i : Int) (n : Int) (v : Int)) (fun i hi ho r h => Ev.step (fun k => by rw [hr i hi k, if_pos ho]) h) (fun i hi ho => Ev.end (fun k => by rw [hr i hi k, if_neg (by rw [ho]; decide)])) (Ev.end (fun k => ?_))
   simp only [impl_IsContradiction.l0]
   rw [if_neg (by omega), if_pos (by omega), if_pos (by omega), if_pos (by omega), if_pos (by omega)]
   unfold spec_IsContradiction.same impl_isContradiction.f
   by_cases c1 : Go.bits .and .i64 (rd l 0) (rd l 1) = Go.bits .and .i64 (rd l 2) (rd l 3)
   ·rw [if_pos c1, decide_eq_true c1, Bool.true_and]; rfl
   ·rw [if_neg c1, decide_eq_false c1, Bool.false_and]; rfl
 ·rw [if_neg (fun e => h4 e.2)]
  refine Ev.congr (fun q => if_neg (by omega)) (Ev.now _)

theorem spec_IsThreshold.ev (a b : Int) : Ev (fun k => spec_IsThreshold.f k a b) (spec_WeightsFor.r a b).2.2 := by
 unfold spec_IsThreshold.f
 exact Ev.bind (spec_WeightsFor.ev a b) (Ev.now _)

def spec_CountThreshold.th (n i : Nat) : Bool := (spec_WeightsFor.r (n : Int) (i : Int)).2.2
theorem spec_CountThreshold.evT {n : Nat} (hn : n ≤ 3) : Ev (fun k => spec_CountThreshold.f k n) ((cnt (spec_CountThreshold.th n) (2 ^ 2 ^ n) : Nat) : Int) := by
 have h16 : 2 ^ n ≤ 8 := Nat.pow_le_pow_right (n := 2) (by decide) hn
 have hfl := spec_l2Full.ev (n := n) (by omega)
 have hu : ∀ x : Nat, Ev (fun k => spec_IsThreshold.f k (n : Int) (x : Int)) (spec_CountThreshold.th n x) := fun x => spec_IsThreshold.ev (n : Int) (x : Int)
 have hM2 : 2 ^ 2 ^ n ≤ 256 := Nat.pow_le_pow_right (n := 2) (by decide) h16
 generalize 2 ^ 2 ^ n = M at *
 generalize spec_CountThreshold.th n = p at *
 clear h16
 have key : ∀ d x, x + d = M → Ev (fun k => spec_CountThreshold.l0 k n ((cnt p x : Nat) : Int) (x : Int)) ((cnt p M : Nat) : Int) := by
  refine Ev.count (fun k x => spec_CountThreshold.l0 k n ((cnt p x : Nat) : Int) (x : Int)) M _ ?_ ?_
  ·intro x hx h
   have hle := cnt_le p x
   refine Ev.step (f := fun k => (spec_IsThreshold.f k n x).bind fun t => if t = true then spec_CountThreshold.l0 k n (((cnt p x + 1 : Nat)) : Int) ((x + 1 : Nat) : Int) else spec_CountThreshold.l0 k n ((cnt p x : Nat) : Int) ((x + 1 : Nat) : Int)) (fun k => ?_) (Ev.bind (hu x) ?_)
   ·simp only [spec_CountThreshold.l0]
    rw [hfl, Option.bind_some, if_pos (by omega), up1 (by omega), up1 (by omega)]
   ·cases hb : p x with
    | true =>
     refine Ev.congr (fun k => if_pos rfl) ?_
     rw [cnt, hb] at h; exact h
    | false =>
     refine Ev.congr (fun k => if_neg (by decide)) ?_
     rw [cnt, hb] at h; exact h
  ·refine Ev.end (fun k => ?_)
   simp only [spec_CountThreshold.l0]
   rw [hfl, Option.bind_some, if_neg (by omega)]
 refine Ev.congr (fun k => ?_) (key M 0 (by omega))
 unfold spec_CountThreshold.f
 rw [spec_l1In.ev, decide_eq_true (by omega)]; rfl
theorem spec_CountThreshold.evF {a : Int} (h : ¬ (0 ≤ a ∧ a ≤ 3)) : Ev (fun k => spec_CountThreshold.f k a) (-1) := by
 refine Ev.of_some (fun k => ?_)
 unfold spec_CountThreshold.f
 rw [spec_l1In.ev, decide_eq_false h]; rfl

theorem impl_CountThreshold.evT {n : Nat} (hn : n ≤ 3) : Ev (fun k => impl_CountThreshold.f k n) ((cnt (spec_CountThreshold.th n) (2 ^ 2 ^ n) : Nat) : Int) := by
 have h := cntO_ev (g := fun k i => impl_IsThreshold.f k (n : Int) (i : Int)) (p := spec_CountThreshold.th n) (m := 2 ^ 2 ^ n) (fun i hi => impl_IsThreshold.ev (n : Int) (i : Int))
 refine Ev.congr (fun k => ?_) (Ev.bind (f := fun _ (c : Nat) => some ((c : Nat) : Int)) h (Ev.now _))
 unfold impl_CountThreshold.f
 rw [if_pos (by omega), Int.toNat_natCast]
theorem impl_CountThreshold.evF {a : Int} (h : ¬ (0 ≤ a ∧ a ≤ 3)) : Ev (fun k => impl_CountThreshold.f k a) (-1) := by
 refine Ev.of_some (fun k => ?_)
 unfold impl_CountThreshold.f
 rw [if_neg h]

theorem spec_ChowNumbers.var {n i : Nat} (hn : n ≤ 5) (hi : i < n) : Ev (fun k => spec_l2Variable.f k (n : Int) (i : Int)) ((szVar n i : Nat) : Int) := by
 have h32 := pow_le_5 hn
 refine Ev.congr (f := fun k => spec_l2Variable.l0 k (n : Int) (i : Int) ((prefW (fun x => x.testBit i) 0 : Nat) : Int) ((0 : Nat) : Int)) (fun k => rfl) ?_
 refine Ev.count (fun k x => spec_l2Variable.l0 k (n : Int) (i : Int) ((prefW (fun x => x.testBit i) x : Nat) : Int) (x : Int)) (2 ^ n) _ (fun x hx h => ?_) (Ev.end (fun k => ?_)) (2 ^ n) 0 (by omega)
 ·have hb := bit_nat (a := x) (n := i) (by omega) (by omega)
  refine Ev.step (fun k => ?_) h
  simp only [spec_l2Variable.l0]
  rw [if_pos (Int.natCast_nonneg n), if_pos (by rw [shl_one (by omega)]; omega), if_pos (Int.natCast_nonneg i), hb, up1 (by omega)]
  cases hq : x.testBit i with
  | true =>
   have hg : (fun x : Nat => x.testBit i) x = true := hq
   rw [if_pos (show ((true.toNat : Nat) : Int) = 1 from rfl), if_pos (Int.natCast_nonneg x)]
   have := prefW_step_one (g := fun x => x.testBit i) (x := x) (by omega) hg
   rw [show shl .i64 1 (x : Int) = wrap64 (2 ^ x) from by unfold shl; rw [min_bits (by omega), Int.one_mul, i64_w]] at this ⊢
   rw [this]
  | false =>
   have hg : (fun x : Nat => x.testBit i) x = false := hq
   rw [if_neg (show ¬ ((false.toNat : Nat) : Int) = 1 by decide), prefW_skip (g := fun x : Nat => x.testBit i) (x := x) hg]
 ·simp only [spec_l2Variable.l0]
  rw [if_pos (Int.natCast_nonneg n), if_neg (by rw [shl_one (by omega)]; omega)]; rfl
def spec_ChowNumbers.L (n v : Nat) : Nat → List Int
 | 0 => [((pc v : Nat) : Int)]
 | i + 1 => spec_ChowNumbers.L n v i ++ [((pc (v &&& szVar n i) : Nat) : Int)]
theorem spec_ChowNumbers.L_len (n v : Nat) : ∀ i, (spec_ChowNumbers.L n v i).length = i + 1
 | 0 => rfl
 | i + 1 => by rw [spec_ChowNumbers.L, List.length_append, spec_ChowNumbers.L_len n v i]; rfl
theorem spec_ChowNumbers.L_0 (n v : Nat) : ∀ i, rd (spec_ChowNumbers.L n v i) 0 = ((pc v : Nat) : Int)
 | 0 => rfl
 | i + 1 => by
  have ih := spec_ChowNumbers.L_0 n v i
  have hl := spec_ChowNumbers.L_len n v i
  rw [spec_ChowNumbers.L]
  have e : (0 : Int) = ((0 : Nat) : Int) := rfl
  rw [e, rd_nat] at ih ⊢
  rw [List.getD_eq_getElem?_getD, List.getElem?_append_left (by omega), ← List.getD_eq_getElem?_getD]
  exact ih
def spec_ChowNumbers.r (a b : Int) : List Int := if isT a b = true then spec_ChowNumbers.L a.toNat b.toNat a.toNat else []
theorem spec_ChowNumbers.ev (a b : Int) : Ev (fun k => spec_ChowNumbers.f k a b) (spec_ChowNumbers.r a b) := by
 unfold spec_ChowNumbers.f spec_ChowNumbers.r
 refine Ev.congr (fun k => Option.bind_some _ _) ?_
 refine Ev.bind (Ev.const (spec_IsTable.ev a b)) ?_
 cases ht : isT a b with
 | false =>
  rw [if_neg (by decide)]
  exact Ev.congr (fun q => if_neg (by decide)) (Ev.now _)
 | true =>
  rw [if_pos rfl]
  refine Ev.congr (fun q => if_pos rfl) ?_
  obtain ⟨n, v, rfl, rfl, hn, hv⟩ := isT_nat ht
  have h32 := full_lt hn
  have hf := full_p63 hn
  rw [Int.toNat_natCast, Int.toNat_natCast]
  refine Ev.bind (spec_l2Count.ev (w := v) (by omega)) ?_
  refine Ev.congr (f := fun k => spec_ChowNumbers.l0 k (spec_ChowNumbers.L n v 0) ((0 : Nat) : Int) (n : Int) (v : Int)) (fun k => by rw [if_pos (by decide)]; rfl) ?_
  refine Ev.count (fun k i => spec_ChowNumbers.l0 k (spec_ChowNumbers.L n v i) (i : Int) (n : Int) (v : Int)) n _ (fun i hi h => ?_) (Ev.end (fun k => ?_)) n 0 (by omega)
  ·have hl := spec_ChowNumbers.L_len n v i
   have hw : szVar n i < 2 ^ 2 ^ n := prefW_lt _ _
   have hlt : v &&& szVar n i < 2 ^ 32 := Nat.lt_of_le_of_lt Nat.and_le_left (by omega)
   have e : ∀ k, spec_ChowNumbers.l0 (k + 1) (spec_ChowNumbers.L n v i) (i : Int) (n : Int) (v : Int) = (spec_l2Variable.f k (n : Int) (i : Int)).bind fun t474 => (spec_l2Count.f k (Go.bits .and .i64 (v : Int) t474)).bind fun t475 => spec_ChowNumbers.l0 k (spec_ChowNumbers.L n v i ++ [t475]) ((i + 1 : Nat) : Int) (n : Int) (v : Int) := by
    intro k
    simp only [spec_ChowNumbers.l0]
    rw [if_pos (by omega), up1 (by omega)]
    simp only [show (spec_ChowNumbers.L n v i).length < 17592186044416 by omega, ↓reduceIte]
   refine Ev.step e (Ev.bind (spec_ChowNumbers.var hn hi) ?_)
   rw [and_nat (by omega) (by omega)]
   exact Ev.bind (spec_l2Count.ev hlt) h
  ·simp only [spec_ChowNumbers.l0]
   rw [if_neg (by omega)]

theorem impl_ChowNumbers.ev (a b : Int) : Ev (fun k => impl_ChowNumbers.f k a b) (spec_ChowNumbers.r a b) := by
 unfold impl_ChowNumbers.f spec_ChowNumbers.r
 refine Ev.bind (Ev.const (impl_IsTable.ev a b)) ?_
 cases ht : isT a b with
 | false =>
  rw [if_neg (by decide)]
  exact Ev.congr (fun q => if_neg (by decide)) (Ev.now _)
 | true =>
  rw [if_pos rfl]
  refine Ev.congr (fun q => if_pos rfl) ?_
  obtain ⟨n, v, rfl, rfl, hn, hv⟩ := isT_nat ht
  have h32 := full_lt hn
  have hf := full_p63 hn
  rw [Int.toNat_natCast, Int.toNat_natCast]
  refine Ev.bind (Ev.const (impl_ones.ev (w := v) (by omega))) ?_
  refine Ev.congr (f := fun k => impl_ChowNumbers.l0 k (spec_ChowNumbers.L n v 0) (n : Int) ((0 : Nat) : Int) (n : Int) (v : Int)) (fun k => rfl) ?_
  refine Ev.count (fun k i => impl_ChowNumbers.l0 k (spec_ChowNumbers.L n v i) (n : Int) (i : Int) (n : Int) (v : Int)) n _ (fun i hi h => ?_) (Ev.end (fun k => ?_)) n 0 (by omega)
  ·have hl := spec_ChowNumbers.L_len n v i
   have hw : szVar n i < 2 ^ 2 ^ n := prefW_lt _ _
   have hlt : v &&& szVar n i < 2 ^ 32 := Nat.lt_of_le_of_lt Nat.and_le_left (by omega)
   have hvar : impl_variable.f (n : Int) (i : Int) = some ((n : Int), ((szVar n i : Nat) : Int)) := by
    unfold impl_variable.f
    rw [if_pos (by omega)]; rfl
   refine Ev.step (fun k => ?_) h
   simp only [impl_ChowNumbers.l0]
   rw [if_pos (by omega), hvar, Option.bind_some, and_nat (by omega) (by omega), impl_ones.ev hlt, Option.bind_some, if_pos (by omega), up1 (by omega)]; rfl
  ·simp only [impl_ChowNumbers.l0]
   rw [if_neg (by omega)]

theorem laws_FnThreshold.same_ev (L : List Int) (hL : L.length ≤ 1000000) : Ev (fun q => laws_sameInts.f q L L) true := by
 refine Ev.congr (f := fun q => laws_sameInts.l0 q L L 0) (fun q => by unfold laws_sameInts.f; rw [if_pos rfl]) ?_
 exact Ev.count (fun q i => laws_sameInts.l0 q L L (i : Int)) L.length _ (fun i hi h => by
  refine Ev.step (fun q => ?_) h
  simp only [laws_sameInts.l0]
  rw [if_pos (by omega), if_pos (Int.natCast_nonneg i), if_pos (by omega), if_pos trivial, up1 (by omega)]) (Ev.end (fun q => by
  simp only [laws_sameInts.l0]
  rw [if_neg (by omega)])) L.length 0 (by omega)
theorem laws_FnThreshold.yes {n v : Nat} (hn : n ≤ 4) (hv : v < 2 ^ 2 ^ n) (h : (spec_WeightsFor.r (n : Int) (v : Int)).2.2 = true) : ∃ c, c < 7 ^ n ∧ (spec_WeightsFor.r (n : Int) (v : Int)).1 = wOf n c ∧ (spec_WeightsFor.r (n : Int) (v : Int)).2.1 = (fitR n v (wOf n c)).1 ∧ (fitR n v (wOf n c)).2 = true ∧ ∀ d, d < 7 ^ n → (fitR n v (wOf n d)).2 = true → wM n c ≤ wM n d := by
 unfold spec_WeightsFor.r at h ⊢
 rw [if_pos ⟨isT_mk (by omega) hv, by omega⟩, Int.toNat_natCast, Int.toNat_natCast] at h ⊢
 rcases wRes_is (v := v) hn (7 ^ n) (Nat.le_refl _) with ⟨a, _⟩ | ⟨c, c1, c2, c3, c4⟩
 ·rw [a] at h; cases h
 ·exact ⟨c, c1, by rw [c2], by rw [c2], c3, c4⟩
theorem laws_FnThreshold.thr {n v : Nat} (hn : n ≤ 4) (hv : v < 2 ^ 2 ^ n) : (spec_WeightsFor.r (n : Int) (v : Int)).2.2 = true ↔ ¬ isCon n v := by
 constructor
 ·intro h
  obtain ⟨c, c1, _, _, c3, _⟩ := laws_FnThreshold.yes hn hv h
  exact fit_con (fitR_fit (wOf_all hn c1).2.2.2.1 hn c3)
 ·intro h
  rcases con_or_fit hn hv with hc | ⟨w, t, hl, hb, hf⟩
  ·exact absurd hc h
  ·obtain ⟨c, hc, rfl⟩ := wOf_sur hn hl hb
   have hr := fit_fitR hb hn hf
   unfold spec_WeightsFor.r
   rw [if_pos ⟨isT_mk (by omega) hv, by omega⟩, Int.toNat_natCast, Int.toNat_natCast]
   rcases wRes_is (v := v) hn (7 ^ n) (Nat.le_refl _) with ⟨_, _, _, a⟩ | ⟨d, d1, d2, d3, d4⟩
   ·rw [a c hc] at hr; cases hr
   ·rw [d2]
    have := (wOf_all hn d1).2.2.1
    exact decide_eq_true (by show wM n d < 100; omega)
theorem laws_FnThreshold.big {a b : Int} (h : ¬ (isT a b = true ∧ a ≤ 4)) : spec_WeightsFor.r a b = ([], 0, false) := by
 unfold spec_WeightsFor.r
 rw [if_neg h]
theorem laws_FnThreshold.count (m : Int) : ∃ r, Ev (fun k => spec_CountThreshold.f k m) r ∧ Ev (fun k => impl_CountThreshold.f k m) r := by
 by_cases h : 0 ≤ m ∧ m ≤ 3
 ·obtain ⟨n, rfl⟩ := nat_of h.1
  exact ⟨_, spec_CountThreshold.evT (n := n) (by omega), impl_CountThreshold.evT (n := n) (by omega)⟩
 ·exact ⟨_, spec_CountThreshold.evF h, impl_CountThreshold.evF h⟩
theorem laws_FnThreshold.j5_ev (l : List Int) (hb : l.length ≤ 1048576) : Ev (fun k => laws_FnThreshold.j5 k l false) true := by
 obtain ⟨⟨a1, a2, a3⟩, _, hA⟩ := spec_DrawIsContradiction.ok l hb
 obtain ⟨m, _, hM⟩ := spec_DrawCountThreshold.ok l hb
 obtain ⟨⟨c1, c2⟩, _, hC⟩ := spec_DrawChowNumbers.ok l hb
 have hA1 := impl_IsContradiction.ev a1 a2 a3
 have hA2 := spec_IsContradiction.ev a1 a2 a3
 obtain ⟨r, hM2, hM1⟩ := laws_FnThreshold.count m
 have hC1 := impl_ChowNumbers.ev c1 c2
 have hC2 := spec_ChowNumbers.ev c1 c2
 generalize spec_IsContradiction.r a1 a2 a3 = ra at *
 have hlen : (spec_ChowNumbers.r c1 c2).length ≤ 10 := by
  unfold spec_ChowNumbers.r
  cases ht : isT c1 c2 with
  | false => rw [if_neg (by decide)]; exact Nat.zero_le _
  | true =>
   obtain ⟨n, v, rfl, rfl, hn, hv⟩ := isT_nat ht
   rw [if_pos rfl, Int.toNat_natCast, Int.toNat_natCast, spec_ChowNumbers.L_len]; omega
 have hS := laws_FnThreshold.same_ev (spec_ChowNumbers.r c1 c2) (by omega)
 have fin : (if ((spec_ChowNumbers.r c1 c2).length : Int) = 0 then (some true) else (if 0 < ((spec_ChowNumbers.r c1 c2).length : Int) then ((impl_CountOnes.f c1 c2).bind fun t558 => (if (rd (spec_ChowNumbers.r c1 c2) 0) = t558 then (some (((spec_ChowNumbers.r c1 c2).length : Int) == (wrap64 (c1 + 1)))) else (some false))) else (none))) = some true := by
  unfold spec_ChowNumbers.r impl_CountOnes.f
  cases ht : isT c1 c2 with
  | false => simp only [Bool.false_eq_true, ↓reduceIte]; rfl
  | true =>
   obtain ⟨n, v, rfl, rfl, hn, hv⟩ := isT_nat ht
   have h32 := full_lt hn
   rw [if_pos rfl, Int.toNat_natCast, Int.toNat_natCast, spec_ChowNumbers.L_len, spec_ChowNumbers.L_0, impl_IsTable.ev, ht, Option.bind_some, if_pos rfl, impl_ones.ev (w := v) (by omega), Option.bind_some, Option.bind_some, if_neg (by omega), if_pos (by omega), if_pos rfl, w64 (by omega) (by omega)]
   congr 1
   exact beq_iff_eq.mpr (by omega)
 generalize spec_ChowNumbers.r c1 c2 = L at *
 obtain ⟨K1, k1⟩ := hA
 obtain ⟨K2, k2⟩ := hM
 obtain ⟨K3, k3⟩ := hC
 obtain ⟨K4, k4⟩ := hA1
 obtain ⟨K5, k5⟩ := hA2
 obtain ⟨K6, k6⟩ := hM1
 obtain ⟨K7, k7⟩ := hM2
 obtain ⟨K8, k8⟩ := hC1
 obtain ⟨K9, k9⟩ := hC2
 obtain ⟨L1, l1⟩ := hS
 refine Ev.since (K1 + K2 + K3 + K4 + K5 + K6 + K7 + K8 + K9 + L1 + 1) fun q' hq' => ?_
 obtain ⟨p, rfl⟩ : ∃ p, q' = p + 1 := ⟨q' - 1, by omega⟩
 replace k1 := k1 p (by omega)
 replace k2 := k2 p (by omega)
 replace k3 := k3 p (by omega)
 replace k4 := k4 p (by omega)
 replace k5 := k5 p (by omega)
 replace k6 := k6 p (by omega)
 replace k7 := k7 p (by omega)
 replace k8 := k8 p (by omega)
 replace k9 := k9 p (by omega)
 replace l1 := l1 p (by omega)
 simp only [] at k1 k2 k3 k4 k5 k6 k7 k8 k9 l1
 show laws_FnThreshold.j5 (p + 1) l false = some true
 simp only [laws_FnThreshold.j5, k1, k2, k3, k4, k5, k6, k7, k8, k9, l1, Option.bind_some, Bool.false_eq_true, ↓reduceIte, beq_self_eq_true]
 exact fin
theorem laws_FnThreshold.j4_ev (l : List Int) (hb : l.length ≤ 1048576) : Ev (fun k => laws_FnThreshold.j4 k l false) true := by
 obtain ⟨⟨w, t⟩, hw, hA⟩ := spec_DrawTableOfWeights.ok l hb
 have hi := spec_TableOfWeights.impl_r w t
 have hs := spec_TableOfWeights.ev w t (by simp only [] at hw; omega)
 have h5 := laws_FnThreshold.j5_ev l hb
 have hth : (spec_TableOfWeights.r w t).2.2 = true → (spec_WeightsFor.r (spec_TableOfWeights.r w t).1 (spec_TableOfWeights.r w t).2.1).2.2 = decide ((spec_TableOfWeights.r w t).1 ≤ 4) := by
  intro h
  unfold spec_TableOfWeights.r at h ⊢
  by_cases hc : w.length ≤ 5 ∧ -1000 ≤ t ∧ t ≤ 1000 ∧ w.all impl_TableOfWeights.ok = true
  ·rw [if_pos hc] at h ⊢
   simp only []
   have hlt : impl_TableOfWeights.word w t < 2 ^ 2 ^ w.length := prefW_lt _ _
   by_cases h4 : w.length ≤ 4
   ·rw [decide_eq_true (show (w.length : Int) ≤ 4 by omega), (laws_FnThreshold.thr h4 hlt)]
    refine fit_con (w := w) (t := t) (fun x hx => ?_)
    unfold impl_TableOfWeights.word
    rw [testBit_prefW, decide_eq_true hx, Bool.true_and]
   ·rw [laws_FnThreshold.big (fun e => h4 (by have := e.2; omega)), decide_eq_false (show ¬ (w.length : Int) ≤ 4 by omega)]
  ·rw [if_neg hc] at h; cases h
 have hT := impl_IsThreshold.ev (spec_TableOfWeights.r w t).1 (spec_TableOfWeights.r w t).2.1
 generalize spec_TableOfWeights.r w t = R at *
 obtain ⟨K1, k1⟩ := hA
 obtain ⟨K2, k2⟩ := hs
 obtain ⟨K3, k3⟩ := h5
 obtain ⟨K4, k4⟩ := hT
 refine Ev.since (K1 + K2 + K3 + K4 + 1) fun q' hq' => ?_
 obtain ⟨p, rfl⟩ : ∃ p, q' = p + 1 := ⟨q' - 1, by omega⟩
 replace k1 := k1 p (by omega)
 replace k2 := k2 p (by omega)
 replace k3 := k3 p (by omega)
 replace k4 := k4 p (by omega)
 simp only [] at k1 k2 k3 k4
 show laws_FnThreshold.j4 (p + 1) l false = some true
 cases hr : R.2.2 with
 | false =>
  simp only [laws_FnThreshold.j4, k1, k2, hi, hr, Option.bind_some, Bool.false_eq_true, ↓reduceIte, beq_self_eq_true, Bool.not_true, Bool.or_self, bne_self_eq_false]
  exact k3
 | true =>
  rw [hth hr] at k4
  simp only [laws_FnThreshold.j4, k1, k2, k4, hi, hr, Option.bind_some, Bool.false_eq_true, ↓reduceIte, beq_self_eq_true, Bool.not_true, Bool.or_self, bne_self_eq_false]
  exact k3
theorem laws_FnThreshold.j3_ev (l : List Int) (hb : l.length ≤ 1048576) (a b : Int) : Ev (fun k => laws_FnThreshold.j3 k l (spec_WeightsFor.r a b).2.2 (spec_Contradiction.r a b).2 (spec_Contradiction.r a b).1 a b) true := by
 have h4 := laws_FnThreshold.j4_ev l hb
 have hI := impl_IsContradiction.ev a b (spec_Contradiction.r a b).1
 have hS := spec_IsTable.ev a b
 have hf : (spec_Contradiction.r a b).2 = true → spec_IsContradiction.r a b (spec_Contradiction.r a b).1 = true := by
  unfold spec_Contradiction.r
  cases ht : isT a b with
  | false => rw [if_neg (by decide)]; intro h; cases h
  | true =>
   rw [if_pos rfl]
   obtain ⟨n, v, rfl, rfl, hn, hv⟩ := isT_nat ht
   rw [Int.toNat_natCast, Int.toNat_natCast]
   unfold conR
   cases e : con n v with
   | none => intro h; cases h
   | some x => intro _; exact spec_IsContradiction.found hn hv e
 have hne : isT a b = true → a ≤ 4 → ((spec_WeightsFor.r a b).2.2 == (spec_Contradiction.r a b).2) = false := by
  intro ht ha
  obtain ⟨n, v, rfl, rfl, hn, hv⟩ := isT_nat ht
  have h1 := laws_FnThreshold.thr (n := n) (by omega) hv
  have h2 := conR_iff n v
  have e : spec_Contradiction.r (n : Int) (v : Int) = conR n v := by
   unfold spec_Contradiction.r
   rw [if_pos ht, Int.toNat_natCast, Int.toNat_natCast]
  rw [e]
  cases p : (spec_WeightsFor.r (n : Int) (v : Int)).2.2 <;> cases q : (conR n v).2
  ·rw [p] at h1; rw [q] at h2
   exact absurd (h1.mpr (fun h => by cases h2.mpr h)) (by decide)
  ·rfl
  ·rfl
  ·rw [p] at h1; rw [q] at h2
   exact absurd (h2.mp rfl) (h1.mp rfl)
 generalize (spec_WeightsFor.r a b).2.2 = is at *
 generalize spec_Contradiction.r a b = C at *
 obtain ⟨K1, k1⟩ := h4
 obtain ⟨K2, k2⟩ := hI
 refine Ev.since (K1 + K2 + 1) fun q' hq' => ?_
 obtain ⟨p, rfl⟩ : ∃ p, q' = p + 1 := ⟨q' - 1, by omega⟩
 replace k1 := k1 p (by omega)
 replace k2 := k2 p (by omega)
 simp only [] at k1 k2
 show laws_FnThreshold.j3 (p + 1) l is C.2 C.1 a b = some true
 have last : (if isT a b = true then (if a ≤ 4 then laws_FnThreshold.j4 p l (is == C.2) else laws_FnThreshold.j4 p l false) else laws_FnThreshold.j4 p l false) = some true := by
  by_cases ht : isT a b = true
  ·rw [if_pos ht]
   by_cases ha : a ≤ 4
   ·rw [if_pos ha, hne ht ha]; exact k1
   ·rw [if_neg ha]; exact k1
  ·rw [if_neg ht]; exact k1
 simp only [laws_FnThreshold.j3]
 cases hc : C.2 with
 | true =>
  rw [hc] at last
  rw [if_pos rfl, k2, Option.bind_some, if_pos (hf hc), hS, Option.bind_some]
  exact last
 | false =>
  rw [hc] at last
  rw [if_neg (by decide), hS, Option.bind_some]
  exact last
theorem laws_FnThreshold.polar {n v i : Nat} (hn : n ≤ 5) (hv : v < 2 ^ 2 ^ n) (hi : i < n) : impl_PolarityOf.f (n : Int) (v : Int) (i : Int) = some (polV n v i) := by
 have h32 := full_lt hn
 unfold impl_PolarityOf.f
 rw [impl_hasVariable.ev, Option.bind_some, isT_mk hn hv, Bool.true_and, decide_eq_true (show 0 ≤ (i : Int) ∧ (i : Int) < (n : Int) by omega), if_pos rfl, impl_Table_polarity.ev (by omega) hn (by omega) hi]; rfl
theorem laws_FnThreshold.l0_ev (l : List Int) {n v : Nat} (hn : n ≤ 4) (hv : v < 2 ^ 2 ^ n) (is fnd : Bool) (m : List Int) {w : List Int} {t : Int} (hl : w.length = n) (hf : wFit n v w t) (hz : ∀ i, i < n → polV n v i = 0 → w.getD i 0 = 0)
  (h : Ev (fun k => laws_FnThreshold.j3 k l is fnd m (n : Int) (v : Int)) true) : Ev (fun k => laws_FnThreshold.l0 k l is w fnd m 0 (n : Int) (v : Int)) true := by
 refine Ev.count (fun k i => laws_FnThreshold.l0 k l is w fnd m (i : Int) (n : Int) (v : Int)) n _ (fun i hi hx => ?_) ?_ n 0 (by omega)
 ·have hp := laws_FnThreshold.polar (n := n) (by omega) hv hi
  have hc := fit_pol (by omega) hf hi
  have hz := hz i hi
  have hr : rd w (i : Int) = w.getD i 0 := rd_nat ..
  generalize polV n v i = P at *
  generalize w.getD i 0 = x at *
  refine Ev.step (fun k => ?_) hx
  simp only [laws_FnThreshold.l0]
  rw [if_pos (by omega), hp, Option.bind_some, hr, up1 (by omega)]
  rcases hc with rfl | ⟨rfl, hc⟩ | ⟨rfl, hc⟩
  ·rw [if_neg (by decide), if_neg (by decide), if_pos rfl, if_pos (Int.natCast_nonneg i), if_pos (hz rfl)]
  ·rw [if_pos rfl, if_pos (Int.natCast_nonneg i), if_neg (by omega), if_neg (by decide), if_neg (by decide)]
  ·rw [if_neg (by decide), if_pos rfl, if_pos (Int.natCast_nonneg i), if_neg (by omega), if_neg (by decide)]
 ·refine Ev.step (fun k => ?_) h
  simp only [laws_FnThreshold.l0]
  rw [if_neg (by omega)]
theorem laws_FnThreshold.j0_ev (l : List Int) (hb : l.length ≤ 1048576) (a b : Int) : Ev (fun k => laws_FnThreshold.j0 k l (spec_WeightsFor.r a b).2.2 (spec_WeightsFor.r a b).1 (spec_WeightsFor.r a b).2.1 (spec_Contradiction.r a b).2 (spec_Contradiction.r a b).1 false a b) true := by
 have h3 := laws_FnThreshold.j3_ev l hb a b
 cases hq : (spec_WeightsFor.r a b).2.2 with
 | false =>
  rw [hq] at h3
  refine Ev.step (fun k => ?_) h3
  simp only [laws_FnThreshold.j0]
  rw [if_neg (by decide), if_neg (by decide)]
 | true =>
  rw [hq] at h3
  have ht : isT a b = true ∧ a ≤ 4 := by
   by_cases h : isT a b = true ∧ a ≤ 4
   ·exact h
   ·rw [laws_FnThreshold.big h] at hq; cases hq
  obtain ⟨n, v, rfl, rfl, hn, hv⟩ := isT_nat ht.1
  have hn4 : n ≤ 4 := by have := ht.2; omega
  obtain ⟨c, c1, c2, c3, c4, c5⟩ := laws_FnThreshold.yes hn4 hv hq
  obtain ⟨o1, o2, o3, o4, o5⟩ := wOf_all hn4 c1
  have hfit := fitR_fit o4 hn4 c4
  have hcon : (spec_Contradiction.r (n : Int) (v : Int)).2 = false := by
   have e : spec_Contradiction.r (n : Int) (v : Int) = conR n v := by
    unfold spec_Contradiction.r
    rw [if_pos ht.1, Int.toNat_natCast, Int.toNat_natCast]
   rw [e]
   cases q : (conR n v).2 with
   | false => rfl
   | true => exact absurd ((conR_iff n v).mp q) (fit_con hfit)
  rw [c2, c3]
  have tb : -1000 ≤ (fitR n v (wOf n c)).1 ∧ (fitR n v (wOf n c)).1 ≤ 1000 := by
   have h1 := spec_l16Fits.hi_b (v := v) hn4 o4 (2 ^ n)
   have h2 := spec_l16Fits.lo_b (v := v) hn4 o4 (2 ^ n)
   unfold fitR
   split <;> dsimp only <;> omega
  have hT : impl_TableOfWeights.f (wOf n c) (fitR n v (wOf n c)).1 = some ((n : Int), (v : Int), true) := by
   unfold impl_TableOfWeights.f
   rw [if_pos ⟨by omega, tb.1, tb.2, spec_l16Fits.small o4⟩, o1]
   have ew : impl_TableOfWeights.word (wOf n c) (fitR n v (wOf n c)).1 = v := by
    unfold impl_TableOfWeights.word
    rw [o1]
    apply Nat.eq_of_testBit_eq
    intro x
    rw [testBit_prefW]
    by_cases hx : x < 2 ^ n
    ·rw [decide_eq_true hx, Bool.true_and]; exact (hfit x hx).symm
    ·rw [decide_eq_false hx, Bool.false_and]
     exact (Nat.testBit_lt_two_pow (Nat.lt_of_lt_of_le hv (Nat.pow_le_pow_right (by decide) (by omega)))).symm
   rw [ew]
  have hU : Ev (fun k => impl_IsUnate.f k (n : Int) (v : Int)) true := by
   have h := impl_IsUnate.evT (n := n) (by omega) hv
   rw [noTwo_true (fun i hi => by
    rcases fit_pol (by omega) hfit hi with e | ⟨e, _⟩ | ⟨e, _⟩ <;> rw [e] <;> decide)] at h
   exact h
  have hz : ∀ i, i < n → polV n v i = 0 → (wOf n c).getD i 0 = 0 := by
   intro i hi hp
   have hr : rstW n v i 0 = rstW n v i 1 := by
    unfold polV pol at hp
    by_cases e : rstW n v i 0 = rstW n v i 1
    ·exact e
    ·rw [if_neg e] at hp
     split at hp
     ·cases hp
     ·split at hp <;> cases hp
   refine fit_least (by omega) hfit (fun w' hl hm hf' => ?_) hi hr
   have hb' : ∀ a ∈ w', -3 ≤ a ∧ a ≤ 3 := fun a ha => by
    rcases hm a ha with rfl | h
    ·omega
    ·exact o4 a h
   obtain ⟨d, d1, rfl⟩ := wOf_sur hn4 (hl.trans o1) hb'
   have := c5 d d1 (fit_fitR hb' hn4 hf')
   have hd := (wOf_all hn4 d1).2.1
   omega
  rw [hcon] at h3 ⊢
  have h1 := laws_FnThreshold.l0_ev l hn4 hv true false (spec_Contradiction.r (n : Int) (v : Int)).1 o1 hfit hz h3
  generalize (fitR n v (wOf n c)).1 = T at *
  generalize wOf n c = w at *
  obtain ⟨K1, k1⟩ := hU
  obtain ⟨K2, k2⟩ := h1
  refine Ev.since (K1 + K2 + 2) fun q' hq' => ?_
  obtain ⟨p, rfl⟩ : ∃ p, q' = p + 2 := ⟨q' - 2, by omega⟩
  replace k1 := k1 (p + 1) (by omega)
  replace k2 := k2 p (by omega)
  simp only [] at k1 k2
  show laws_FnThreshold.j0 (p + 2) l true w T false _ false (n : Int) (v : Int) = some true
  simp only [laws_FnThreshold.j0, laws_FnThreshold.j1, hT, k1, Option.bind_some, Bool.false_eq_true, ↓reduceIte, beq_self_eq_true, Bool.not_true, Bool.or_self]
  exact k2
theorem laws_FnThreshold.pure_ : laws_FnThreshold.Pure := by
 intro l hl _ _
 by_cases hb : l.length ≤ 1048576
 ·obtain ⟨⟨a, b⟩, _, hD⟩ := spec_DrawWeightsFor.ok l hb
  have h1 := impl_WeightsFor.ev a b
  have h2 := spec_WeightsFor.ev a b
  have h3 := impl_Contradiction.ev a b
  have h4 := spec_Contradiction.ev a b
  have h5 := impl_IsThreshold.ev a b
  have h6 := laws_FnThreshold.j0_ev l hb a b
  have hl1 : (spec_WeightsFor.r a b).1.length ≤ 1000 := by
   by_cases h : isT a b = true ∧ a ≤ 4
   ·obtain ⟨n, v, rfl, rfl, hn, hv⟩ := isT_nat h.1
    have hn4 : n ≤ 4 := by have := h.2; omega
    unfold spec_WeightsFor.r
    rw [if_pos h, Int.toNat_natCast, Int.toNat_natCast]
    rcases wRes_is (v := v) hn4 (7 ^ n) (Nat.le_refl _) with ⟨_, a, _⟩ | ⟨c, c1, c2, _⟩
    ·rw [a]; exact Nat.zero_le _
    ·rw [c2]
     have := (wOf_all hn4 c1).1
     show (wOf n c).length ≤ 1000
     omega
   ·rw [laws_FnThreshold.big h]; exact Nat.zero_le _
  have hl2 : (spec_Contradiction.r a b).1.length ≤ 1000 := by
   unfold spec_Contradiction.r
   split
   ·unfold conR
    cases e : con a.toNat b.toNat with
    | none => exact Nat.zero_le _
    | some x =>
     obtain ⟨p, q, r, s, rfl, _⟩ := con_some e
     show (quad p q r s).length ≤ 1000
     unfold quad; simp
   ·exact Nat.zero_le _
  have s1 := laws_FnThreshold.same_ev _ (Nat.le_trans hl1 (by decide))
  have s2 := laws_FnThreshold.same_ev _ (Nat.le_trans hl2 (by decide))
  have hbig : laws_big.f l = some false := by
   unfold laws_big.f
   rw [decide_eq_false (by omega)]
  generalize spec_WeightsFor.r a b = R at *
  generalize spec_Contradiction.r a b = C at *
  obtain ⟨K1, k1⟩ := hD
  obtain ⟨K2, k2⟩ := h1
  obtain ⟨K3, k3⟩ := h2
  obtain ⟨K4, k4⟩ := h3
  obtain ⟨K5, k5⟩ := h4
  obtain ⟨K6, k6⟩ := h5
  obtain ⟨K7, k7⟩ := h6
  obtain ⟨K8, k8⟩ := s1
  obtain ⟨K9, k9⟩ := s2
  refine ⟨K1 + K2 + K3 + K4 + K5 + K6 + K7 + K8 + K9, ?_⟩
  replace k1 := k1 (K1 + K2 + K3 + K4 + K5 + K6 + K7 + K8 + K9) (by omega)
  replace k2 := k2 (K1 + K2 + K3 + K4 + K5 + K6 + K7 + K8 + K9) (by omega)
  replace k3 := k3 (K1 + K2 + K3 + K4 + K5 + K6 + K7 + K8 + K9) (by omega)
  replace k4 := k4 (K1 + K2 + K3 + K4 + K5 + K6 + K7 + K8 + K9) (by omega)
  replace k5 := k5 (K1 + K2 + K3 + K4 + K5 + K6 + K7 + K8 + K9) (by omega)
  replace k6 := k6 (K1 + K2 + K3 + K4 + K5 + K6 + K7 + K8 + K9) (by omega)
  replace k7 := k7 (K1 + K2 + K3 + K4 + K5 + K6 + K7 + K8 + K9) (by omega)
  replace k8 := k8 (K1 + K2 + K3 + K4 + K5 + K6 + K7 + K8 + K9) (by omega)
  replace k9 := k9 (K1 + K2 + K3 + K4 + K5 + K6 + K7 + K8 + K9) (by omega)
  generalize K1 + K2 + K3 + K4 + K5 + K6 + K7 + K8 + K9 = K at *
  simp only [] at k1 k2 k3 k4 k5 k6 k7 k8 k9
  simp only [laws_FnThreshold.f, hbig, k1, k2, k3, k4, k5, k6, k8, k9, Option.bind_some, Bool.false_eq_true, ↓reduceIte, bne_self_eq_false]
  exact k7
 ·refine ⟨0, ?_⟩
  have hbig : laws_big.f l = some true := by
   unfold laws_big.f
   rw [decide_eq_true (by omega)]
  simp only [laws_FnThreshold.f, hbig, Option.bind_some, ↓reduceIte]

end Go.Proofs.Ytloekoepknfodaa.Print
