/- Functions of the given program as plain Lean functions, with proofs that their calls compute them, or lemmas on these. Laid by a program of this repo for the seat Ytlcgappojmdgfaa; Lean checks it. -/
import Derived.Test.YtlcgappojmdgfaaKExactLeavesOfProtocol0
import Derived.Test.YtlcgappojmdgfaaKExactLeavesOfProtocol1
import Derived.Test.YtlcgappojmdgfaaKExactLeavesOfProtocol7
import Derived.Test.YtlcgappojmdgfaaKExactLeavesOfProtocol8
import Derived.Test.YtlcgappojmdgfaaM9
namespace Go.Proofs.Ytlcgappojmdgfaa.Print
open Go.RowKit Go.Proofs.YtlcgappojmdgfaaW.PrintWords Go.Proofs.YtlcgappojmdgfaaW.PrintLast Go.Proofs.YtlcgappojmdgfaaW.PrintMore
attribute [local go_sem] max2_int min2_int max_two min_two max_three min_three max_four min_four   -- for this text's walks alone
set_option linter.unusedVariables false
set_option linter.unusedSimpArgs false

/-! ### facts on spec_l21Digit -/
--IMPORT M9
open Go.Proofs.Ytlcgappojmdgfaa.M in
theorem spec_l21Digit.ev {c : Int} (h0 : 0 ≤ c) (h1 : c ≤ 255) : Ev (fun k => spec_l21Digit.f k c) (hexV c) := by
  unfold hexV
  by_cases h2 : c ≥ 48
  · refine Ev.congr (f := fun k => spec_l21Digit.j0 k c (decide (c ≤ 57))) (fun k => by unfold spec_l21Digit.f; rw [if_pos h2]) (Ev.end (fun k => ?_))
    simp only [spec_l21Digit.j0]
    by_cases h3 : c ≤ 57
    · rw [decide_eq_true h3, if_pos rfl, if_pos ⟨h2, h3⟩]; congr 1; omega
    · rw [decide_eq_false h3, if_neg (by decide), if_neg (show ¬ (48 ≤ c ∧ c ≤ 57) by omega)]
      by_cases h4 : c ≥ 97
      · rw [if_pos h4]
        by_cases h5 : c ≤ 102
        · rw [if_pos h5, if_pos ⟨h4, h5⟩]; congr 1; omega
        · rw [if_neg h5, if_neg (show ¬ (97 ≤ c ∧ c ≤ 102) by omega)]
      · rw [if_neg h4, if_neg (show ¬ (97 ≤ c ∧ c ≤ 102) by omega)]
  · refine Ev.congr (f := fun k => spec_l21Digit.j0 k c false) (fun k => by unfold spec_l21Digit.f; rw [if_neg h2]) (Ev.end (fun k => ?_))
    simp only [spec_l21Digit.j0]
    rw [if_neg (by decide), if_neg (show ¬ c ≥ 97 by omega), if_neg (show ¬ (48 ≤ c ∧ c ≤ 57) by omega), if_neg (show ¬ (97 ≤ c ∧ c ≤ 102) by omega)]

/-! ### facts on spec_l21End -/
--IMPORT M9
open Go.Proofs.Ytlcgappojmdgfaa.M in
/-- where the protocol ends, or -1 -/
def spec_l21End.at_ (p : Option (Tn × Nat)) : Int := match p with | none => -1 | some p => ((p.2 : Nat) : Int)
open Go.Proofs.Ytlcgappojmdgfaa.M in
theorem spec_l21End.first {S : ByteArray} {i : Nat} (hi : i < S.size) (q : Nat) : spec_l21End.f (q + 1) S (i : Int) = spec_l21End.j0 q S (i : Int) (decide (bt S i = 48 ∨ bt S i = 49)) := by
  simp only [spec_l21End.f]
  rw [if_neg (by omega), if_pos (by omega), if_pos (by omega)]
  generalize bt S i = c
  by_cases h1 : c = 48
  · rw [if_pos h1, decide_eq_true (.inl h1)]
  · rw [if_neg h1]; congr 1
    by_cases h2 : c = 49
    · rw [decide_eq_true (.inr h2), h2]; rfl
    · rw [decide_eq_false (by omega), beq_eq_false_iff_ne.mpr h2]
open Go.Proofs.Ytlcgappojmdgfaa.M in
theorem spec_l21End.second {S : ByteArray} {i : Nat} (hi : i < S.size) (hS : S.size ≤ 1000000) {r : Int} (h : Ev (fun q => spec_l21End.j1 q S (i : Int) (decide ((bt S i ≠ 65 ∧ bt S i ≠ 66) ∨ S.size < i + 2 ∨ hexV (bt S (i + 1 : Nat)) < 0))) r) : Ev (fun q => spec_l21End.j0 q S (i : Int) false) r := by
  have hr := bt_range S (i + 1 : Nat)
  have hd := spec_l21Digit.ev (c := bt S (i + 1 : Nat)) hr.1 hr.2
  have hw : wrap64 ((i : Int) + 1) = ((i + 1 : Nat) : Int) := up1 (by omega)
  by_cases hAB : bt S i = 65 ∨ bt S i = 66
  · by_cases h2 : S.size < i + 2
    · rw [decide_eq_true (.inr (.inl h2))] at h
      refine Ev.step (fun q => ?_) h
      simp only [spec_l21End.j0]
      rw [if_neg (by decide), if_pos (by omega), if_pos (by omega), hw]
      rcases hAB with e | e
      · rw [if_pos e, if_pos (by omega)]
      · rw [if_neg (by omega), if_pos e, if_pos (by omega)]
    · have e : decide ((bt S i ≠ 65 ∧ bt S i ≠ 66) ∨ S.size < i + 2 ∨ hexV (bt S (i + 1 : Nat)) < 0) = decide (hexV (bt S (i + 1 : Nat)) < 0) := by
        apply decide_eq_decide.mpr
        constructor
        · rintro (h3 | h3 | h3)
          · omega
          · omega
          · exact h3
        · exact fun h3 => .inr (.inr h3)
      rw [e] at h
      refine Ev.step (f := fun q => (spec_l21Digit.f q (bt S (i + 1 : Nat))).bind fun t => spec_l21End.j1 q S (i : Int) (decide (t < 0))) (fun q => ?_) (Ev.bind hd h)
      simp only [spec_l21End.j0]
      rw [if_neg (by decide), if_pos (by omega), if_pos (by omega), hw]
      rcases hAB with e | e
      · rw [if_pos e, if_neg (by omega), if_pos (by omega), if_pos (by omega)]
      · rw [if_neg (by omega), if_pos e, if_neg (by omega), if_pos (by omega), if_pos (by omega)]
  · rw [decide_eq_true (.inl (by omega))] at h
    refine Ev.step (fun q => ?_) h
    simp only [spec_l21End.j0]
    rw [if_neg (by decide), if_pos (by omega), if_pos (by omega), if_neg (by omega), if_neg (by omega)]
open Go.Proofs.Ytlcgappojmdgfaa.M in
theorem spec_l21End.ev {S : ByteArray} (hS : S.size ≤ 1000000) : ∀ k i, i ≤ S.size → S.size ≤ i + k → Ev (fun q => spec_l21End.f q S (i : Int)) (spec_l21End.at_ (rt S k i)) := by
  intro k
  induction k with
  | zero =>
    intro i hi hk
    refine Ev.end (fun q => ?_)
    simp only [spec_l21End.f]
    rw [if_pos (by omega), rt]; rfl
  | succ k ih =>
    intro i hi hk
    rw [rt]
    by_cases h0 : S.size ≤ i
    · rw [if_pos h0]
      refine Ev.end (fun q => ?_)
      simp only [spec_l21End.f]
      rw [if_pos (by omega)]; rfl
    · rw [if_neg h0]
      have hlt : i < S.size := by omega
      refine Ev.step (fun q => spec_l21End.first hlt q) ?_
      by_cases h1 : bt S i = 48 ∨ bt S i = 49
      · rw [if_pos h1, decide_eq_true h1]
        refine Ev.end (fun q => ?_)
        simp only [spec_l21End.j0, if_true]
        rw [up1 (by omega)]; rfl
      · rw [if_neg h1, decide_eq_false h1]
        refine spec_l21End.second hlt hS ?_
        by_cases h2 : (bt S i ≠ 65 ∧ bt S i ≠ 66) ∨ S.size < i + 2
        · rw [if_pos h2, decide_eq_true (by rcases h2 with h | h; exact .inl h; exact .inr (.inl h))]
          exact Ev.end (fun q => by simp only [spec_l21End.j1, if_true]; rfl)
        · rw [if_neg h2]
          by_cases h3 : hexV (bt S (i + 1 : Nat)) < 0
          · rw [if_pos h3, decide_eq_true (.inr (.inr h3))]
            exact Ev.end (fun q => by simp only [spec_l21End.j1, if_true]; rfl)
          · rw [if_neg h3, decide_eq_false (by rintro (h | h | h); exact h2 (.inl h); exact h2 (.inr h); exact h3 h)]
            have IH := ih (i + 2) (by omega) (by omega)
            cases hq : rt S k (i + 2) with
            | none =>
              rw [hq] at IH
              have hw : wrap64 ((i : Int) + 2) = ((i + 2 : Nat) : Int) := by rw [w64 (by omega) (by omega)]; omega
              refine Ev.step (f := fun q => (spec_l21End.f q S ((i + 2 : Nat) : Int)).bind fun t => if t < 0 then some (-1) else (spec_l21End.f q S t).bind fun u => some u) (fun q => ?_) (Ev.bind IH (Ev.congr (fun k => if_pos (by decide)) (Ev.now _)))
              simp only [spec_l21End.j1]
              rw [if_neg (by decide), hw]
            | some p =>
              obtain ⟨T, j⟩ := p
              obtain ⟨f1, f2, f3, f4⟩ := rt_some hq
              rw [hq] at IH
              have IH2 := ih j f3 (by omega)
              have e : spec_l21End.at_ ((some (T, j)).bind fun p => (rt S k p.2).bind fun q => some (Tn.node (bt S i) (hexV (bt S (i + 1 : Nat))) p.1 q.1, q.2)) = spec_l21End.at_ (rt S k j) := by
                rw [Option.bind_some]; cases rt S k j <;> rfl
              rw [e]
              have hw : wrap64 ((i : Int) + 2) = ((i + 2 : Nat) : Int) := by rw [w64 (by omega) (by omega)]; omega
              refine Ev.step (f := fun q => (spec_l21End.f q S ((i + 2 : Nat) : Int)).bind fun t => if t < 0 then some (-1) else (spec_l21End.f q S t).bind fun u => some u) (fun q => ?_) (Ev.bind IH (Ev.congr (fun k => if_neg (by clear hw; show ¬ ((j : Nat) : Int) < 0; omega)) (Ev.bind IH2 (Ev.now _))))
              simp only [spec_l21End.j1]
              rw [if_neg (by decide), hw]

/-! ### facts on spec_IsProtocol -/
--IMPORT M9
open Go.Proofs.Ytlcgappojmdgfaa.M in
theorem spec_IsProtocol.ev (S : ByteArray) : Ev (fun k => spec_IsProtocol.f k S) (protOf S).isSome := by
  unfold protOf
  by_cases h : S.size ≤ 100
  · rw [if_pos h]
    by_cases h0 : 0 < S.size
    · have h1 := spec_l21End.ev (S := S) (by omega) S.size 0 (by omega) (by omega)
      refine Ev.congr (f := fun k => (spec_l21End.f k S ((0 : Nat) : Int)).bind fun t => some (t == (S.size : Int))) (fun k => ?_) (Ev.bind h1 ?_)
      · unfold spec_IsProtocol.f
        rw [if_pos (by omega), if_pos (by omega)]; rfl
      · have e : (spec_l21End.at_ (rt S S.size 0) == (S.size : Int)) = ((rt S S.size 0).bind fun p => if p.2 = S.size then some p.1 else none).isSome := by
          cases rt S S.size 0 with
          | none => show ((-1 : Int) == _) = false; exact beq_eq_false_iff_ne.mpr (by omega)
          | some p =>
            rw [Option.bind_some]
            by_cases hp : p.2 = S.size
            · rw [if_pos hp]
              show (((p.2 : Nat) : Int) == _) = true
              rw [beq_iff_eq]; omega
            · rw [if_neg hp]
              show (((p.2 : Nat) : Int) == _) = false
              exact beq_eq_false_iff_ne.mpr (by omega)
        rw [e]; exact Ev.now _
    · have hz : S.size = 0 := by omega
      refine Ev.of_some (fun k => ?_)
      unfold spec_IsProtocol.f
      rw [if_pos (by omega), if_neg (by omega), hz]; rfl
  · rw [if_neg h]
    refine Ev.of_some (fun k => ?_)
    unfold spec_IsProtocol.f
    rw [if_neg (by omega)]; rfl

/-! ### facts on spec_l21Leaves -/
--IMPORT M9
open Go.Proofs.Ytlcgappojmdgfaa.M in
theorem spec_l21Leaves.first {S : ByteArray} {i : Nat} (hi : i < S.size) (q : Nat) : spec_l21Leaves.f (q + 1) S (i : Int) = spec_l21Leaves.j0 q S (i : Int) (decide (bt S i = 48 ∨ bt S i = 49)) := by
  simp only [spec_l21Leaves.f]
  rw [if_pos (by omega), if_pos (by omega)]
  generalize bt S i = c
  by_cases h1 : c = 48
  · rw [if_pos h1, decide_eq_true (.inl h1)]
  · rw [if_neg h1]; congr 1
    by_cases h2 : c = 49
    · rw [decide_eq_true (.inr h2), h2]; rfl
    · rw [decide_eq_false (by omega), beq_eq_false_iff_ne.mpr h2]
open Go.Proofs.Ytlcgappojmdgfaa.M in
theorem spec_l21Leaves.ev {S : ByteArray} (hS : S.size ≤ 1000000) : ∀ k i T j, i ≤ S.size → S.size ≤ i + k → rt S k i = some (T, j) → Ev (fun q => spec_l21Leaves.f q S (i : Int)) ((T.leaves : Nat) : Int) := by
  intro k
  induction k with
  | zero => intro i T j _ _ h; simp [rt] at h
  | succ k ih =>
    intro i T j hi hk h
    rw [rt] at h
    by_cases h0 : S.size ≤ i
    · rw [if_pos h0] at h; cases h
    · rw [if_neg h0] at h
      have hlt : i < S.size := by omega
      refine Ev.step (fun q => spec_l21Leaves.first hlt q) ?_
      by_cases h1 : bt S i = 48 ∨ bt S i = 49
      · rw [if_pos h1] at h
        simp only [Option.some.injEq, Prod.mk.injEq] at h
        obtain ⟨rfl, rfl⟩ := h
        rw [decide_eq_true h1]
        exact Ev.end (fun q => by simp only [spec_l21Leaves.j0, if_true]; rfl)
      · rw [if_neg h1] at h
        rw [decide_eq_false h1]
        by_cases h2 : (bt S i ≠ 65 ∧ bt S i ≠ 66) ∨ S.size < i + 2
        · rw [if_pos h2] at h; cases h
        · rw [if_neg h2] at h
          by_cases h3 : hexV (bt S (i + 1 : Nat)) < 0
          · rw [if_pos h3] at h; cases h
          · rw [if_neg h3] at h
            obtain ⟨⟨p1, p2⟩, hp, h⟩ := Option.bind_eq_some_iff.mp h
            obtain ⟨⟨q1, q2⟩, hq, h⟩ := Option.bind_eq_some_iff.mp h
            simp only [Option.some.injEq, Prod.mk.injEq] at h
            obtain ⟨rfl, rfl⟩ := h
            obtain ⟨f1, f2, f3, f4⟩ := rt_some hp
            obtain ⟨g1, g2, g3, g4⟩ := rt_some hq
            have d1 := tleaves_le f1
            have d2 := tleaves_le g1
            rw [tleaves_two _ _ f1]
            have he := spec_l21End.ev hS k (i + 2) (by omega) (by omega)
            rw [hp] at he
            have ih1 := ih (i + 2) p1 p2 (by omega) (by omega) hp
            have ih2 := ih p2 q1 q2 f3 (by omega) hq
            have ew : wrap64 (((p1.leaves : Nat) : Int) + ((q1.leaves : Nat) : Int)) = ((p1.leaves + q1.leaves : Nat) : Int) := by rw [w64 (by omega) (by omega)]; omega
            have hw : wrap64 ((i : Int) + 2) = ((i + 2 : Nat) : Int) := by clear ew; rw [w64 (by omega) (by omega)]; omega
            refine Ev.step (f := fun q => (spec_l21Leaves.f q S ((i + 2 : Nat) : Int)).bind fun t => (spec_l21End.f q S ((i + 2 : Nat) : Int)).bind fun u => (spec_l21Leaves.f q S u).bind fun v => some (wrap64 (t + v))) (fun q => ?_) (Ev.bind ih1 (Ev.bind he (Ev.bind ih2 (by rw [ew]; exact Ev.now _))))
            simp only [spec_l21Leaves.j0]
            rw [if_neg (by decide), hw]

/-! ### facts on spec_LeavesOfProtocol -/
--IMPORT M9
open Go.Proofs.Ytlcgappojmdgfaa.M in
theorem spec_LeavesOfProtocol.ev (S : ByteArray) : Ev (fun k => spec_LeavesOfProtocol.f k S) (match protOf S with | some T => ((T.leaves : Nat) : Int) | none => -1) := by
  have h1 := spec_IsProtocol.ev S
  cases hq : protOf S with
  | none =>
    rw [hq] at h1
    refine Ev.congr (f := fun k => (spec_IsProtocol.f k S).bind fun t => if t = true then (spec_l21Leaves.f k S ((0 : Nat) : Int)).bind fun t => some t else some (-1)) (fun k => rfl) (Ev.bind h1 (Ev.congr (fun k => if_neg (by decide)) (Ev.now _)))
  | some T =>
    rw [hq] at h1
    obtain ⟨a1, a2, a3⟩ := protOf_some hq
    refine Ev.congr (f := fun k => (spec_IsProtocol.f k S).bind fun t => if t = true then (spec_l21Leaves.f k S ((0 : Nat) : Int)).bind fun t => some t else some (-1)) (fun k => rfl) (Ev.bind h1 (Ev.congr (fun k => if_pos rfl) ?_))
    exact Ev.bind (spec_l21Leaves.ev (by omega) S.size 0 T S.size (by omega) (by omega) a3) (Ev.now _)

/-! ### facts on laws_FnExactLeavesOfProtocol -/
--IMPORT M9
open Go.Proofs.Ytlcgappojmdgfaa.M in
theorem laws_FnExactLeavesOfProtocol.pure_ : laws_FnExactLeavesOfProtocol.Pure := by
  intro S _
  by_cases hl : S.size ≤ 1048576
  · obtain ⟨r, hr⟩ : ∃ r, impl_LeavesOfProtocol.f S = some r := ⟨_, rfl⟩
    have hs : Ev (fun k => spec_LeavesOfProtocol.f k S) r := by
      have h := spec_LeavesOfProtocol.ev S
      have e := Option.some.inj hr
      cases hq : protOf S with
      | none => rw [hq] at h e; rw [← e]; exact h
      | some T => rw [hq] at h e; rw [← e]; exact h
    obtain ⟨K1, h1⟩ : ∃ K, ∀ k, K ≤ k → spec_LeavesOfProtocol.f k S = some r := hs
    have hn : ¬ ((S.size : Int) > 1048576) := by omega
    refine ⟨K1, ?_⟩
    simp (disch := omega) only [laws_FnExactLeavesOfProtocol.f, h1, hr, hn, ↓reduceIte, Option.bind_some]
  · exact ⟨0, by unfold laws_FnExactLeavesOfProtocol.f; rw [if_pos (by omega)]⟩

end Go.Proofs.Ytlcgappojmdgfaa.Print
