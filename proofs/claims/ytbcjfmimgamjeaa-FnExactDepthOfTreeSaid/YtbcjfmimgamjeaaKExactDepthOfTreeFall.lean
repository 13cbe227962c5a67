/- Functions of the given program as plain Lean functions, with proofs that their calls compute them, or lemmas on these. Laid by a program of this repo for the seat Ytbcjfmimgamjeaa; Lean checks it. -/
import Derived.Test.YtbcjfmimgamjeaaKExactDepthOfTree0
import Derived.Test.YtbcjfmimgamjeaaKExactDepthOfTree1
import Derived.Test.YtbcjfmimgamjeaaKExactDepthOfTree2
import Derived.Test.YtbcjfmimgamjeaaKExactDepthOfTree6
import Derived.Test.YtbcjfmimgamjeaaKExactDepthOfTree7
import Derived.Test.YtbcjfmimgamjeaaM11
namespace Go.Proofs.Ytbcjfmimgamjeaa.Print
open Go.RowKit Go.Proofs.YtbcjfmimgamjeaaW.PrintWords Go.Proofs.YtbcjfmimgamjeaaW.PrintLast Go.Proofs.YtbcjfmimgamjeaaW.PrintMore
attribute [local go_sem] max2_int min2_int max_two min_two max_three min_three max_four min_four   -- for this text's walks alone
set_option linter.unusedVariables false
set_option linter.unusedSimpArgs false

/-! ### facts on spec_l1In -/
theorem spec_l1In.ev (a b c : Int) : spec_l1In.f a b c = some (decide (b ≤ a ∧ a ≤ c)) := by
  unfold spec_l1In.f
  by_cases h : b ≤ a
  · rw [if_pos h]; simp [h]
  · rw [if_neg h]; simp [h]

/-! ### facts on spec_l7End -/
--IMPORT M11
open Go.Proofs.Ytbcjfmimgamjeaa.M in
/-- where the tree ends, or -1 -/
def spec_l7End.at_ (p : Option (Td × Nat)) : Int := match p with | none => -1 | some p => ((p.2 : Nat) : Int)
open Go.Proofs.Ytbcjfmimgamjeaa.M in
theorem spec_l7End.first {S : ByteArray} {i : Nat} (hi : i < S.size) (a : Int) (q : Nat) : spec_l7End.f (q + 1) S (i : Int) a = spec_l7End.j0 q S (i : Int) a (decide (bt S i = 48 ∨ bt S i = 49)) := by
  simp only [spec_l7End.f]
  rw [if_neg (by omega), if_pos (by omega), if_pos (by omega)]
  generalize bt S i = c
  by_cases h1 : c = 48
  · rw [if_pos h1, decide_eq_true (.inl h1)]
  · rw [if_neg h1]; congr 1
    by_cases h2 : c = 49
    · rw [decide_eq_true (.inr h2), h2]; rfl
    · rw [decide_eq_false (by omega), beq_eq_false_iff_ne.mpr h2]
open Go.Proofs.Ytbcjfmimgamjeaa.M in
theorem spec_l7End.second {S : ByteArray} {i a : Nat} (hi : i < S.size) (ha : a < 32) {r : Int} (h1 : ¬ (bt S i = 48 ∨ bt S i = 49)) (h : Ev (fun q => spec_l7End.j1 q S (i : Int) (a : Int) (bt S i - 97) (decide (¬ (97 ≤ bt S i ∧ bt S i < 102) ∨ a.testBit (vr (bt S i)) = true))) r) : Ev (fun q => spec_l7End.j0 q S (i : Int) (a : Int) false) r := by
  have hr := bt_range S i
  have q1 : (0 : Int) ≤ (i : Int) := Int.natCast_nonneg i
  have q2 : (i : Int) < (S.size : Int) := by omega
  have e2 : wrap64 (wrap64 (bt S i) - 97) = bt S i - 97 := by rw [w64 (x := bt S i) (by omega) (by omega), w64 (by omega) (by omega)]
  refine Ev.step (fun q => ?_) h
  simp only [spec_l7End.j0, Bool.false_eq_true, if_false]
  rw [if_pos q1, if_pos q2, e2, spec_l1In.ev, Option.bind_some]
  generalize bt S i = c at *
  by_cases h2 : 97 ≤ c ∧ c < 102
  · obtain ⟨v, hv⟩ : ∃ v : Nat, c - 97 = (v : Int) := ⟨(c - 97).toNat, by omega⟩
    have evr : vr c = v := by unfold vr; omega
    have hb := bit_nat (a := a) (n := v) (by omega) (by omega)
    rw [decide_eq_true (show 0 ≤ c - 97 ∧ c - 97 ≤ 4 by omega), if_pos rfl, if_pos (by omega), hv, hb, evr]
    congr 1
    cases a.testBit v <;> simp [h2]
  · rw [decide_eq_false (show ¬ (0 ≤ c - 97 ∧ c - 97 ≤ 4) by omega), if_neg (by decide), decide_eq_true (.inl h2)]
open Go.Proofs.Ytbcjfmimgamjeaa.M in
theorem spec_l7End.ev {S : ByteArray} (hS : S.size ≤ 1000000) : ∀ (k i a : Nat), a < 32 → fre a < k → i ≤ S.size → Ev (fun q => spec_l7End.f q S (i : Int) (a : Int)) (spec_l7End.at_ (tp S k i a)) := by
  intro k
  induction k with
  | zero => intro i a _ h; omega
  | succ k ih =>
    intro i a ha hk hi
    rw [tp]
    by_cases h0 : S.size ≤ i
    · rw [if_pos h0]
      refine Ev.end (fun q => ?_)
      simp only [spec_l7End.f]
      rw [if_pos (by omega)]; rfl
    · rw [if_neg h0]
      have hlt : i < S.size := by omega
      refine Ev.step (fun q => spec_l7End.first hlt a q) ?_
      by_cases h1 : bt S i = 48 ∨ bt S i = 49
      · rw [if_pos h1, decide_eq_true h1]
        refine Ev.end (fun q => ?_)
        simp only [spec_l7End.j0, if_true]
        rw [up1 (by omega)]; rfl
      · rw [if_neg h1, decide_eq_false h1]
        refine spec_l7End.second hlt ha h1 ?_
        by_cases h2 : 97 ≤ bt S i ∧ bt S i < 102
        · rw [if_neg (fun e => e h2)]
          cases h3 : a.testBit (vr (bt S i)) with
          | true =>
            rw [if_pos rfl, decide_eq_true (.inr rfl)]
            exact Ev.end (fun q => by simp only [spec_l7End.j1, if_true]; rfl)
          | false =>
            rw [if_neg (by decide), decide_eq_false (by rintro (h | h); exact h h2; cases h)]
            obtain ⟨w1, w2, _⟩ := wth_fre a ha (vr (bt S i)) (by unfold vr; omega) h3
            obtain ⟨v, hv⟩ : ∃ v : Nat, bt S i - 97 = (v : Int) := ⟨(bt S i - 97).toNat, by omega⟩
            have evr : vr (bt S i) = v := by unfold vr; omega
            rw [evr] at w1 w2 ⊢
            rw [hv]
            have hk2 : fre (wth a v) < k := by omega
            have IH := ih (i + 1) (wth a v) w2 hk2 (by omega)
            have hlt2 : 2 ^ v < 2 ^ 63 := Nat.pow_lt_pow_right (by decide) (by omega)
            have ew : Go.bits .or .i64 (a : Int) (shl .i64 1 (v : Int)) = ((wth a v : Nat) : Int) := by rw [shl_one (by omega), or_nat (by omega) hlt2]; rfl
            have hw : wrap64 ((i : Int) + 1) = ((i + 1 : Nat) : Int) := up1 (by omega)
            cases hq : tp S k (i + 1) (wth a v) with
            | none =>
              rw [hq] at IH
              refine Ev.step (f := fun q => (spec_l7End.f q S ((i + 1 : Nat) : Int) ((wth a v : Nat) : Int)).bind fun t => if t < 0 then some (-1) else (spec_l7End.f q S t ((wth a v : Nat) : Int)).bind fun u => some u) (fun q => ?_) (Ev.bind IH (Ev.congr (fun k => if_pos (by decide)) (Ev.now _)))
              simp only [spec_l7End.j1]
              rw [if_neg (by decide), if_pos (Int.natCast_nonneg v), hw, ew]
            | some p =>
              obtain ⟨T, j⟩ := p
              obtain ⟨f1, f2, f3, f4⟩ := tp_some w2 hq
              rw [hq] at IH
              have IH2 := ih j (wth a v) w2 hk2 f3
              have e : spec_l7End.at_ ((some (T, j)).bind fun p => (tp S k p.2 (wth a v)).bind fun q => some (Td.node (bt S i) p.1 q.1, q.2)) = spec_l7End.at_ (tp S k j (wth a v)) := by
                rw [Option.bind_some]; cases tp S k j (wth a v) <;> rfl
              rw [e]
              refine Ev.step (f := fun q => (spec_l7End.f q S ((i + 1 : Nat) : Int) ((wth a v : Nat) : Int)).bind fun t => if t < 0 then some (-1) else (spec_l7End.f q S t ((wth a v : Nat) : Int)).bind fun u => some u) (fun q => ?_) (Ev.bind IH (Ev.congr (fun k => if_neg (show ¬ ((j : Nat) : Int) < 0 from Int.not_lt.mpr (Int.natCast_nonneg j))) (Ev.bind IH2 (Ev.now _))))
              simp only [spec_l7End.j1]
              rw [if_neg (by decide), if_pos (Int.natCast_nonneg v), hw, ew]
        · rw [if_pos h2, decide_eq_true (.inl h2)]
          exact Ev.end (fun q => by simp only [spec_l7End.j1, if_true]; rfl)

/-! ### facts on spec_IsTree -/
--IMPORT M11
open Go.Proofs.Ytbcjfmimgamjeaa.M in
theorem spec_IsTree.ev (S : ByteArray) : Ev (fun k => spec_IsTree.f k S) (treeOf S).isSome := by
  cases ht : treeOf S with
  | some T =>
    obtain ⟨a1, a2, a3, a4⟩ := treeOf_some ht
    have h1 := spec_l7End.ev (S := S) (by omega) 6 0 0 (by decide) (by decide) (by omega)
    rw [a3] at h1
    refine Ev.congr (f := fun k => (spec_l7End.f k S ((0 : Nat) : Int) ((0 : Nat) : Int)).bind fun t => some (t == (S.size : Int))) (fun k => ?_) (Ev.bind h1 ?_)
    · unfold spec_IsTree.f
      rw [if_pos (by omega), if_pos (by omega)]; rfl
    · have e : (spec_l7End.at_ (some (T, S.size)) == (S.size : Int)) = true := beq_iff_eq.mpr rfl
      rw [e]; exact Ev.now _
  | none =>
    by_cases h : S.size ≤ 63
    · by_cases h0 : 0 < S.size
      · have h1 := spec_l7End.ev (S := S) (by omega) 6 0 0 (by decide) (by decide) (by omega)
        refine Ev.congr (f := fun k => (spec_l7End.f k S ((0 : Nat) : Int) ((0 : Nat) : Int)).bind fun t => some (t == (S.size : Int))) (fun k => ?_) (Ev.bind h1 ?_)
        · unfold spec_IsTree.f
          rw [if_pos (by omega), if_pos (by omega)]; rfl
        · have e : (spec_l7End.at_ (tp S 6 0 0) == (S.size : Int)) = false := by
            unfold treeOf at ht
            cases hq : tp S 6 0 0 with
            | none => show ((-1 : Int) == _) = false; exact beq_eq_false_iff_ne.mpr (by omega)
            | some p =>
              rw [hq, Option.bind_some] at ht
              by_cases hp : p.2 = S.size
              · rw [if_pos hp] at ht; cases ht
              · show (((p.2 : Nat) : Int) == _) = false
                exact beq_eq_false_iff_ne.mpr (by omega)
          rw [e]; exact Ev.now _
      · have hz : S.size = 0 := by omega
        refine Ev.of_some (fun k => ?_)
        unfold spec_IsTree.f
        rw [if_pos (by omega), if_neg (by omega)]; rfl
    · refine Ev.of_some (fun k => ?_)
      unfold spec_IsTree.f
      rw [if_neg (by omega)]; rfl

/-! ### facts on spec_l7Skip -/
--IMPORT M11
open Go.Proofs.Ytbcjfmimgamjeaa.M in
theorem spec_l7Skip.ev {S : ByteArray} (hS : S.size ≤ 1000000) : ∀ (k i a : Nat) (T : Td) (j : Nat), a < 32 → tp S k i a = some (T, j) → Ev (fun q => spec_l7Skip.f q S (i : Int)) (j : Int) := by
  intro k
  induction k with
  | zero => intro i a T j _ h; simp [tp] at h
  | succ k ih =>
    intro i a T j ha h
    rw [tp] at h
    by_cases h0 : S.size ≤ i
    · rw [if_pos h0] at h; cases h
    · rw [if_neg h0] at h
      have first : ∀ q, spec_l7Skip.f (q + 1) S (i : Int) = spec_l7Skip.j0 q S (i : Int) (decide (bt S i = 48 ∨ bt S i = 49)) := fun q => by
        simp only [spec_l7Skip.f]
        rw [if_pos (by omega), if_pos (by omega)]
        generalize bt S i = c
        by_cases h1 : c = 48
        · rw [if_pos h1, decide_eq_true (.inl h1)]
        · rw [if_neg h1]; congr 1
          by_cases h2 : c = 49
          · rw [decide_eq_true (.inr h2), h2]; rfl
          · rw [decide_eq_false (by omega), beq_eq_false_iff_ne.mpr h2]
      have hw : wrap64 ((i : Int) + 1) = ((i + 1 : Nat) : Int) := up1 (by omega)
      refine Ev.step first ?_
      by_cases h1 : bt S i = 48 ∨ bt S i = 49
      · rw [if_pos h1] at h
        simp only [Option.some.injEq, Prod.mk.injEq] at h
        obtain ⟨rfl, rfl⟩ := h
        rw [decide_eq_true h1]
        refine Ev.end (fun q => ?_)
        simp only [spec_l7Skip.j0, if_true, hw]
      · rw [if_neg h1] at h
        by_cases h2 : 97 ≤ bt S i ∧ bt S i < 102
        · rw [if_neg (fun e => e h2)] at h
          cases h3 : a.testBit (vr (bt S i)) with
          | true => rw [h3, if_pos rfl] at h; cases h
          | false =>
            rw [h3, if_neg (by decide)] at h
            obtain ⟨⟨p1, p2⟩, hp, h⟩ := Option.bind_eq_some_iff.mp h
            obtain ⟨⟨q1, q2⟩, hq, h⟩ := Option.bind_eq_some_iff.mp h
            simp only [Option.some.injEq, Prod.mk.injEq] at h
            obtain ⟨rfl, rfl⟩ := h
            obtain ⟨w1, w2, _⟩ := wth_fre a ha (vr (bt S i)) (by unfold vr; omega) h3
            have i1 := ih _ _ _ _ w2 hp
            have i2 := ih _ _ _ _ w2 hq
            rw [decide_eq_false h1]
            refine Ev.step (f := fun q => (spec_l7Skip.f q S ((i + 1 : Nat) : Int)).bind fun t => (spec_l7Skip.f q S t).bind fun u => some u) (fun q => ?_) (Ev.bind i1 (Ev.bind i2 (Ev.now _)))
            simp only [spec_l7Skip.j0, Bool.false_eq_true, if_false, hw]
        · rw [if_pos h2] at h; cases h

/-! ### facts on spec_l7Run -/
--IMPORT M11
open Go.Proofs.Ytbcjfmimgamjeaa.M in
theorem spec_l7Run.loop {S : ByteArray} (hS : S.size ≤ 1000000) {x : Nat} (hx : x < 32) : ∀ (k i a : Nat) (T : Td) (j m : Nat), a < 32 → m ≤ 1000000 + i → tp S k i a = some (T, j) → Ev (fun q => spec_l7Run.l0 q S (x : Int) (i : Int) (m : Int)) (T.val x, ((m + T.path x : Nat) : Int)) := by
  intro k
  induction k with
  | zero => intro i a T j m _ _ h; simp [tp] at h
  | succ k ih =>
    intro i a T j m ha hm h
    rw [tp] at h
    by_cases h0 : S.size ≤ i
    · rw [if_pos h0] at h; cases h
    · rw [if_neg h0] at h
      have q1 : (0 : Int) ≤ (i : Int) := Int.natCast_nonneg i
      have q2 : (i : Int) < (S.size : Int) := by omega
      have hw : wrap64 ((i : Int) + 1) = ((i + 1 : Nat) : Int) := up1 (by omega)
      have hw2 : wrap64 ((m : Int) + 1) = ((m + 1 : Nat) : Int) := by clear hw; exact up1 (by omega)
      by_cases h1 : bt S i = 48 ∨ bt S i = 49
      · rw [if_pos h1] at h
        simp only [Option.some.injEq, Prod.mk.injEq] at h
        obtain ⟨rfl, rfl⟩ := h
        show Ev _ (bt S i - 48, ((m + 0 : Nat) : Int))
        refine Ev.step (f := fun q => spec_l7Run.j1 q S (x : Int) (i : Int) (m : Int) false) (fun q => ?_) (Ev.end (fun q => ?_))
        · simp only [spec_l7Run.l0]
          rw [if_pos q1, if_pos q2]
          rcases h1 with h1 | h1
          · rw [if_pos h1]
          · rw [if_neg (by rw [h1]; decide), h1]; rfl
        · simp only [spec_l7Run.j1]
          rw [if_neg (by decide), if_pos q1, if_pos q2]
          rcases h1 with h1 | h1 <;> (rw [h1]; rfl)
      · rw [if_neg h1] at h
        by_cases h2 : 97 ≤ bt S i ∧ bt S i < 102
        · rw [if_neg (fun e => e h2)] at h
          cases h3 : a.testBit (vr (bt S i)) with
          | true => rw [h3, if_pos rfl] at h; cases h
          | false =>
            rw [h3, if_neg (by decide)] at h
            obtain ⟨⟨p1, p2⟩, hp, h⟩ := Option.bind_eq_some_iff.mp h
            obtain ⟨⟨r1, r2⟩, hq, h⟩ := Option.bind_eq_some_iff.mp h
            simp only [Option.some.injEq, Prod.mk.injEq] at h
            obtain ⟨rfl, rfl⟩ := h
            obtain ⟨w1, w2, _⟩ := wth_fre a ha (vr (bt S i)) (by unfold vr; clear hw hw2; omega) h3
            obtain ⟨f1, f2, f3, f4⟩ := tp_some w2 hp
            have sk := spec_l7Skip.ev hS _ _ _ _ _ w2 hp
            have i1 := ih (i + 1) _ _ _ (m + 1) w2 (by clear hw hw2; omega) hp
            have i2 := ih p2 _ _ _ (m + 1) w2 (by clear hw hw2; omega) hq
            rw [val_ask x _ r1 f1, path_ask x _ r1 f1]
            obtain ⟨v, hv⟩ : ∃ v : Nat, bt S i - 97 = (v : Int) := ⟨(bt S i - 97).toNat, by clear hw hw2; omega⟩
            have evr : vr (bt S i) = v := by unfold vr; clear hw hw2; omega
            have hmod : (bt S i - 97) % 256 = (v : Int) := by clear hw hw2; omega
            have hb := bit_nat (a := x) (n := v) (by clear hw hw2; omega) (by clear hw hw2; omega)
            rw [evr]
            have n48 : ¬ bt S i = 48 := fun e => h1 (.inl e)
            have n49 : (bt S i != 49) = true := bne_iff_ne.mpr (fun e => h1 (.inr e))
            refine Ev.step (f := fun q => spec_l7Run.j1 q S (x : Int) (i : Int) (m : Int) true) (fun q => ?_) ?_
            · simp only [spec_l7Run.l0]
              rw [if_pos q1, if_pos q2, if_neg n48, n49]
            · cases hxb : x.testBit v with
              | true =>
                rw [hxb] at hb
                have e : m + (1 + r1.path x) = m + 1 + r1.path x := by clear hw hw2; omega
                rw [if_pos rfl, if_pos rfl, e]
                refine Ev.step (f := fun q => (spec_l7Skip.f q S ((i + 1 : Nat) : Int)).bind fun t => spec_l7Run.l0 q S (x : Int) t ((m + 1 : Nat) : Int)) (fun q => ?_) (Ev.bind sk i2)
                simp only [spec_l7Run.j1, if_true]
                rw [if_pos q1, if_pos q2, hmod, hb, if_pos (by decide), hw, hw2]
              | false =>
                rw [hxb] at hb
                have e : m + (1 + p1.path x) = m + 1 + p1.path x := by clear hw hw2; omega
                rw [if_neg (by decide), if_neg (by decide), e]
                refine Ev.step (fun q => ?_) i1
                simp only [spec_l7Run.j1, if_true]
                rw [if_pos q1, if_pos q2, hmod, hb, if_neg (by decide), hw, hw2]
        · rw [if_pos h2] at h; cases h
open Go.Proofs.Ytbcjfmimgamjeaa.M in
theorem spec_l7Run.ev {S : ByteArray} {T : Td} (ht : treeOf S = some T) {x : Nat} (hx : x < 32) : Ev (fun k => spec_l7Run.f k S (x : Int)) (T.val x, ((T.path x : Nat) : Int)) := by
  obtain ⟨a1, a2, a3, a4⟩ := treeOf_some ht
  have h := spec_l7Run.loop (S := S) (by omega) hx 6 0 0 T S.size 0 (by decide) (by omega) a3
  rw [Nat.zero_add] at h
  exact h

/-! ### facts on spec_QueriesOf -/
--IMPORT M11
open Go.Proofs.Ytbcjfmimgamjeaa.M in
theorem spec_QueriesOf.evT {S : ByteArray} {T : Td} (ht : treeOf S = some T) {x : Nat} (hx : x < 32) : Ev (fun k => spec_QueriesOf.f k S (x : Int)) ((T.path x : Nat) : Int) := by
  have h1 := spec_IsTree.ev S
  rw [ht] at h1
  refine Ev.bind h1 ?_
  have e : spec_l1In.f (x : Int) 0 31 = some true := by rw [spec_l1In.ev, decide_eq_true (by omega)]
  simp only [Option.isSome_some, if_true, e, Option.bind_some]
  exact Ev.bind (spec_l7Run.ev ht hx) (Ev.now _)

/-! ### facts on spec_DepthOfTree -/
--IMPORT M11
open Go.Proofs.Ytbcjfmimgamjeaa.M in
theorem spec_DepthOfTree.ev (S : ByteArray) : Ev (fun k => spec_DepthOfTree.f k S) (match treeOf S with | some T => ((T.depth : Nat) : Int) | none => -1) := by
  have h1 := spec_IsTree.ev S
  cases ht : treeOf S with
  | none =>
    rw [ht] at h1
    exact Ev.bind h1 (Ev.congr (fun k => if_neg (by decide)) (Ev.now _))
  | some T =>
    rw [ht] at h1
    obtain ⟨a1, a2, a3, a4⟩ := treeOf_some ht
    refine Ev.bind h1 (Ev.congr (fun k => if_pos rfl) ?_)
    show Ev _ ((T.depth : Nat) : Int)
    rw [← a4.max_path]
    have hle : ∀ m, m ≤ 32 → maxN (fun x => T.path x) m ≤ 5 := fun m _ => maxN_le (fun i _ => by
      have := a4.path_le i
      have := a4.depth_le (by decide)
      have := fre_le 0
      omega)
    exact Ev.count (fun k i => spec_DepthOfTree.l0 k S ((maxN (fun x => T.path x) i : Nat) : Int) (i : Int)) 32 _ (fun i hi hn => by
      refine Ev.step (f := fun k => (spec_QueriesOf.f k S (i : Int)).bind fun t => spec_DepthOfTree.l0 k S (mx ((maxN (fun x => T.path x) i : Nat) : Int) t) ((i + 1 : Nat) : Int)) (fun k => ?_) (Ev.bind (spec_QueriesOf.evT ht hi) ?_)
      · simp only [spec_DepthOfTree.l0]
        rw [if_pos (by omega), up1 (by omega)]
      · rw [mx_nat]; exact hn) (Ev.end (fun k => by
      simp only [spec_DepthOfTree.l0]
      rw [if_neg (by omega)])) 32 0 (by omega)

/-! ### facts on laws_FnExactDepthOfTree -/
--IMPORT M11
open Go.Proofs.Ytbcjfmimgamjeaa.M in
theorem laws_FnExactDepthOfTree.pure_ : laws_FnExactDepthOfTree.Pure := by
  intro S _
  by_cases hl : S.size ≤ 1048576
  · obtain ⟨r, hr⟩ : ∃ r, impl_DepthOfTree.f S = some r := by unfold impl_DepthOfTree.f; rw [if_pos (by omega)]; exact ⟨_, rfl⟩
    have hs : Ev (fun k => spec_DepthOfTree.f k S) r := by
      have h := spec_DepthOfTree.ev S
      have e := hr
      unfold impl_DepthOfTree.f at e
      rw [if_pos (by omega)] at e
      rw [← Option.some.inj e]; exact h
    obtain ⟨K1, h1⟩ : ∃ K, ∀ k, K ≤ k → spec_DepthOfTree.f k S = some r := hs
    have hn : ¬ ((S.size : Int) > 1048576) := by omega
    refine ⟨K1, ?_⟩
    simp (disch := omega) only [laws_FnExactDepthOfTree.f, h1, hr, hn, ↓reduceIte, Option.bind_some]
  · exact ⟨0, by unfold laws_FnExactDepthOfTree.f; rw [if_pos (by omega)]⟩

end Go.Proofs.Ytbcjfmimgamjeaa.Print
