/- Functions of the given program as plain Lean functions, with proofs that their calls compute them, or lemmas on these. Laid by a program of this repo for the seat Ytdgbfpnjnfpjaaa; Lean checks it. -/
import Derived.Test.YtdgbfpnjnfpjaaaKExactDepthOf0
import Derived.Test.YtdgbfpnjnfpjaaaKExactDepthOf1
import Derived.Test.YtdgbfpnjnfpjaaaKExactDepthOf6
import Derived.Test.YtdgbfpnjnfpjaaaKExactDepthOf7
import Derived.Test.YtdgbfpnjnfpjaaaM6
namespace Go.Proofs.Ytdgbfpnjnfpjaaa.Print
open Go.RowKit Go.Proofs.YtdgbfpnjnfpjaaaW.PrintWords Go.Proofs.YtdgbfpnjnfpjaaaW.PrintLast Go.Proofs.YtdgbfpnjnfpjaaaW.PrintMore
attribute [local go_sem] max2_int min2_int max_two min_two max_three min_three max_four min_four   -- for this text's walks alone
set_option linter.unusedVariables false
set_option linter.unusedSimpArgs false

/-! ### facts on spec_l5End -/
--IMPORT M6
open Go.Proofs.Ytdgbfpnjnfpjaaa.M in
theorem spec_l5End.first {S : ByteArray} {i : Nat} (hi : i < S.size) (q : Nat) : spec_l5End.f (q + 1) S (i : Int) = spec_l5End.j0 q S (i : Int) (bt S i) (decide (isLet (bt S i))) := by
  simp only [spec_l5End.f]
  rw [if_neg (by omega), if_pos (by omega), if_pos (by omega)]
  generalize bt S i = c
  have key : ∀ b : Bool, (b = true ↔ isLet c) → spec_l5End.j0 q S (i : Int) c b = spec_l5End.j0 q S (i : Int) c (decide (isLet c)) := fun b h => by
    congr 1
    rw [Bool.eq_iff_iff, h, decide_eq_true_eq]
  unfold isLet at key
  by_cases h1 : c = 97
  · rw [if_pos h1]; exact key _ (by rw [beq_iff_eq]; omega)
  · rw [if_neg h1]
    by_cases h2 : c = 98
    · rw [if_pos h2]; exact key _ (by rw [beq_iff_eq]; omega)
    · rw [if_neg h2]
      by_cases h3 : c = 99
      · rw [if_pos h3]; exact key _ (by rw [beq_iff_eq]; omega)
      · rw [if_neg h3]
        by_cases h4 : c = 100
        · rw [if_pos h4]; exact key _ (by rw [beq_iff_eq]; omega)
        · rw [if_neg h4]
          by_cases h5 : c = 101
          · rw [if_pos h5]; exact key _ (by rw [beq_iff_eq]; omega)
          · rw [if_neg h5]
            by_cases h6 : c = 48
            · rw [if_pos h6]; exact key _ (by rw [beq_iff_eq]; omega)
            · rw [if_neg h6]; exact key _ (by rw [beq_iff_eq]; omega)
theorem spec_l5End.second {S : ByteArray} {i c : Int} (h33 : c ≠ 33) (q : Nat) : spec_l5End.j0 (q + 1) S i c false = spec_l5End.j1 q S i (decide (c = 38 ∨ c = 124 ∨ c = 94)) := by
  simp only [spec_l5End.j0]
  rw [if_neg (by decide), if_neg h33]
  have key : ∀ b : Bool, (b = true ↔ (c = 38 ∨ c = 124 ∨ c = 94)) → spec_l5End.j1 q S i b = spec_l5End.j1 q S i (decide (c = 38 ∨ c = 124 ∨ c = 94)) := fun b h => by
    congr 1
    rw [Bool.eq_iff_iff, h, decide_eq_true_eq]
  by_cases h1 : c = 38
  · rw [if_pos h1]; exact key _ (by rw [beq_iff_eq]; omega)
  · rw [if_neg h1]
    by_cases h2 : c = 124
    · rw [if_pos h2]; exact key _ (by rw [beq_iff_eq]; omega)
    · rw [if_neg h2]; exact key _ (by rw [beq_iff_eq]; omega)
open Go.Proofs.Ytdgbfpnjnfpjaaa.M in
/-- where the formula ends, or -1 -/
def spec_l5End.at_ (p : Option (Sh × Nat)) : Int := match p with | none => -1 | some p => ((p.2 : Nat) : Int)
open Go.Proofs.Ytdgbfpnjnfpjaaa.M in
theorem spec_l5End.ev {S : ByteArray} (hS : S.size ≤ 1000000) : ∀ k i, i ≤ S.size → S.size ≤ i + k → Ev (fun q => spec_l5End.f q S (i : Int)) (spec_l5End.at_ (rp S k i)) := by
  intro k
  induction k with
  | zero =>
    intro i hi hk
    refine Ev.end (fun q => ?_)
    simp only [spec_l5End.f]
    rw [if_pos (by omega), rp]; rfl
  | succ k ih =>
    intro i hi hk
    rw [rp]
    by_cases h0 : S.size ≤ i
    · rw [if_pos h0]
      refine Ev.end (fun q => ?_)
      simp only [spec_l5End.f]
      rw [if_pos (by omega)]; rfl
    · rw [if_neg h0]
      have hlt : i < S.size := by omega
      have IH := ih (i + 1) (by omega) (by omega)
      refine Ev.step (fun q => spec_l5End.first hlt q) ?_
      by_cases h1 : isLet (bt S i)
      · rw [if_pos h1, decide_eq_true h1]
        refine Ev.end (fun q => ?_)
        simp only [spec_l5End.j0, if_true]
        rw [up1 (by omega)]; rfl
      · rw [if_neg h1, decide_eq_false h1]
        by_cases h2 : bt S i = 33
        · rw [if_pos h2, h2]
          have e : spec_l5End.at_ ((rp S k (i + 1)).bind fun p => some (Sh.node 33 p.1 .nil, p.2)) = spec_l5End.at_ (rp S k (i + 1)) := by cases rp S k (i + 1) <;> rfl
          rw [e]
          refine Ev.step (f := fun q => (spec_l5End.f q S ((i + 1 : Nat) : Int)).bind fun t => some t) (fun q => ?_) (Ev.bind IH (Ev.now _))
          simp only [spec_l5End.j0]
          rw [if_neg (by decide), if_pos trivial, up1 (by omega)]
        · rw [if_neg h2]
          refine Ev.step (fun q => spec_l5End.second h2 q) ?_
          by_cases h3 : bt S i = 38 ∨ bt S i = 124 ∨ bt S i = 94
          · rw [if_pos h3, decide_eq_true h3]
            cases hq : rp S k (i + 1) with
            | none =>
              rw [hq] at IH
              refine Ev.step (f := fun q => (spec_l5End.f q S ((i + 1 : Nat) : Int)).bind fun t => if t < 0 then some (-1) else (spec_l5End.f q S t).bind fun u => some u) (fun q => ?_) (Ev.bind IH (Ev.congr (fun k => if_pos (by decide)) (Ev.now _)))
              simp only [spec_l5End.j1, if_true]
              rw [up1 (by omega)]
            | some p =>
              obtain ⟨T, j⟩ := p
              obtain ⟨f1, f2, f3, f4⟩ := rp_some hq
              rw [hq] at IH
              have IH2 := ih j f3 (by omega)
              have e : spec_l5End.at_ ((some (T, j)).bind fun p => (rp S k p.2).bind fun q => some (Sh.node (bt S i) p.1 q.1, q.2)) = spec_l5End.at_ (rp S k j) := by
                rw [Option.bind_some]; cases rp S k j <;> rfl
              rw [e]
              refine Ev.step (f := fun q => (spec_l5End.f q S ((i + 1 : Nat) : Int)).bind fun t => if t < 0 then some (-1) else (spec_l5End.f q S t).bind fun u => some u) (fun q => ?_) (Ev.bind IH (Ev.congr (fun k => if_neg (by show ¬ ((j : Nat) : Int) < 0; omega)) (Ev.bind IH2 (Ev.now _))))
              simp only [spec_l5End.j1, if_true]
              rw [up1 (by omega)]
          · rw [if_neg h3, decide_eq_false h3]
            refine Ev.end (fun q => ?_)
            simp only [spec_l5End.j1]
            rw [if_neg (by decide)]; rfl

/-! ### facts on spec_IsFormula -/
--IMPORT M6
open Go.Proofs.Ytdgbfpnjnfpjaaa.M in
theorem spec_IsFormula.ev (S : ByteArray) : Ev (fun k => spec_IsFormula.f k S) (formOf S).isSome := by
  unfold formOf
  by_cases h : S.size ≤ 60
  · rw [if_pos h]
    by_cases h0 : 0 < S.size
    · have h1 := spec_l5End.ev (S := S) (by omega) S.size 0 (by omega) (by omega)
      refine Ev.congr (f := fun k => (spec_l5End.f k S ((0 : Nat) : Int)).bind fun t => some (t == (S.size : Int))) (fun k => ?_) (Ev.bind h1 ?_)
      · unfold spec_IsFormula.f
        rw [if_pos (by omega), if_pos (by omega)]; rfl
      · have e : (spec_l5End.at_ (rp S S.size 0) == (S.size : Int)) = ((rp S S.size 0).bind fun p => if p.2 = S.size then some p.1 else none).isSome := by
          cases rp S S.size 0 with
          | none => show ((-1 : Int) == _) = false; exact beq_eq_false_iff_ne.mpr (by omega)
          | some p =>
            rw [Option.bind_some]
            by_cases hp : p.2 = S.size
            · rw [if_pos hp]
              show (((p.2 : Nat) : Int) == _) = true
              rw [beq_iff_eq]; omega
            · rw [if_neg hp]
              show (((p.2 : Nat) : Int) == _) = false
              exact beq_eq_false_iff_ne.mpr (by omega)
        rw [e]; exact Ev.now _
    · have hz : S.size = 0 := by omega
      refine Ev.of_some (fun k => ?_)
      unfold spec_IsFormula.f
      rw [if_pos (by omega), if_neg (by omega), hz]; rfl
  · rw [if_neg h]
    refine Ev.of_some (fun k => ?_)
    unfold spec_IsFormula.f
    rw [if_neg (by omega)]; rfl

/-! ### facts on spec_l5Depth -/
--IMPORT M6
open Go.Proofs.Ytdgbfpnjnfpjaaa.M in
theorem spec_l5Depth.first {S : ByteArray} {i : Nat} (hi : i < S.size) (h33 : bt S i ≠ 33) (q : Nat) : spec_l5Depth.f (q + 1) S (i : Int) = spec_l5Depth.j0 q S (i : Int) (decide (bt S i = 38 ∨ bt S i = 124 ∨ bt S i = 94)) := by
  simp only [spec_l5Depth.f]
  rw [if_pos (by omega), if_pos (by omega), if_neg h33]
  generalize bt S i = c
  have key : ∀ b : Bool, (b = true ↔ (c = 38 ∨ c = 124 ∨ c = 94)) → spec_l5Depth.j0 q S (i : Int) b = spec_l5Depth.j0 q S (i : Int) (decide (c = 38 ∨ c = 124 ∨ c = 94)) := fun b h => by
    congr 1
    rw [Bool.eq_iff_iff, h, decide_eq_true_eq]
  by_cases h1 : c = 38
  · rw [if_pos h1]; exact key _ (by rw [beq_iff_eq]; omega)
  · rw [if_neg h1]
    by_cases h2 : c = 124
    · rw [if_pos h2]; exact key _ (by rw [beq_iff_eq]; omega)
    · rw [if_neg h2]; exact key _ (by rw [beq_iff_eq]; omega)
open Go.Proofs.Ytdgbfpnjnfpjaaa.M in
theorem spec_l5Depth.ev {S : ByteArray} (hS : S.size ≤ 1000000) : ∀ k i T j, i ≤ S.size → S.size ≤ i + k → rp S k i = some (T, j) → Ev (fun q => spec_l5Depth.f q S (i : Int)) ((T.depth : Nat) : Int) := by
  intro k
  induction k with
  | zero => intro i T j _ _ h; simp [rp] at h
  | succ k ih =>
    intro i T j hi hk h
    rw [rp] at h
    by_cases h0 : S.size ≤ i
    · rw [if_pos h0] at h; cases h
    · rw [if_neg h0] at h
      have hlt : i < S.size := by omega
      by_cases h1 : isLet (bt S i)
      · rw [if_pos h1] at h
        simp only [Option.some.injEq, Prod.mk.injEq] at h
        obtain ⟨rfl, rfl⟩ := h
        have h1' := h1
        unfold isLet at h1'
        refine Ev.step (fun q => spec_l5Depth.first hlt (by omega) q) ?_
        rw [decide_eq_false (by omega)]
        refine Ev.end (fun q => ?_)
        simp only [spec_l5Depth.j0]
        rw [if_neg (by decide)]; rfl
      · rw [if_neg h1] at h
        by_cases h2 : bt S i = 33
        · rw [if_pos h2] at h
          obtain ⟨⟨p1, p2⟩, hp, h⟩ := Option.bind_eq_some_iff.mp h
          simp only [Option.some.injEq, Prod.mk.injEq] at h
          obtain ⟨rfl, rfl⟩ := h
          rw [depth_one _ (rp_some hp).1]
          refine Ev.step (f := fun q => (spec_l5Depth.f q S ((i + 1 : Nat) : Int)).bind fun t => some t) (fun q => ?_) (Ev.bind (ih (i + 1) p1 p2 (by omega) (by omega) hp) (Ev.now _))
          simp only [spec_l5Depth.f]
          rw [if_pos (by omega), if_pos (by omega), if_pos h2, up1 (by omega)]
        · rw [if_neg h2] at h
          by_cases h3 : bt S i = 38 ∨ bt S i = 124 ∨ bt S i = 94
          · rw [if_pos h3] at h
            obtain ⟨⟨p1, p2⟩, hp, h⟩ := Option.bind_eq_some_iff.mp h
            obtain ⟨⟨q1, q2⟩, hq, h⟩ := Option.bind_eq_some_iff.mp h
            simp only [Option.some.injEq, Prod.mk.injEq] at h
            obtain ⟨rfl, rfl⟩ := h
            obtain ⟨f1, f2, f3, f4⟩ := rp_some hp
            obtain ⟨g1, g2, g3, g4⟩ := rp_some hq
            have d1 := depth_le f1
            have d2 := depth_le g1
            rw [depth_two _ f1 g1]
            refine Ev.step (fun q => spec_l5Depth.first hlt h2 q) ?_
            rw [decide_eq_true h3]
            have he := spec_l5End.ev hS k (i + 1) (by omega) (by omega)
            rw [hp] at he
            have ih1 := ih (i + 1) p1 p2 (by omega) (by omega) hp
            have ih2 := ih p2 q1 q2 f3 (by omega) hq
            have ew : wrap64 (1 + mx ((p1.depth : Nat) : Int) ((q1.depth : Nat) : Int)) = ((1 + max p1.depth q1.depth : Nat) : Int) := by rw [mx_nat, w64 (by omega) (by omega)]; omega
            refine Ev.step (f := fun q => (spec_l5Depth.f q S ((i + 1 : Nat) : Int)).bind fun t => (spec_l5End.f q S ((i + 1 : Nat) : Int)).bind fun u => (spec_l5Depth.f q S u).bind fun v => some (wrap64 (1 + mx t v))) (fun q => ?_) (Ev.bind ih1 (Ev.bind he (Ev.bind ih2 (by rw [ew]; exact Ev.now _))))
            simp only [spec_l5Depth.j0, if_true]
            rw [up1 (by omega)]
          · rw [if_neg h3] at h; cases h

/-! ### facts on spec_DepthOf -/
--IMPORT M6
open Go.Proofs.Ytdgbfpnjnfpjaaa.M in
theorem spec_DepthOf.ev (S : ByteArray) : Ev (fun k => spec_DepthOf.f k S) (match formOf S with | some T => ((T.depth : Nat) : Int) | none => -1) := by
  have h1 := spec_IsFormula.ev S
  cases hq : formOf S with
  | none =>
    rw [hq] at h1
    refine Ev.congr (f := fun k => (spec_IsFormula.f k S).bind fun t => if t = true then (spec_l5Depth.f k S ((0 : Nat) : Int)).bind fun t => some t else some (-1)) (fun k => rfl) (Ev.bind h1 (Ev.congr (fun k => if_neg (by decide)) (Ev.now _)))
  | some T =>
    rw [hq] at h1
    obtain ⟨a1, a2, a3⟩ := formOf_some hq
    refine Ev.congr (f := fun k => (spec_IsFormula.f k S).bind fun t => if t = true then (spec_l5Depth.f k S ((0 : Nat) : Int)).bind fun t => some t else some (-1)) (fun k => rfl) (Ev.bind h1 (Ev.congr (fun k => if_pos rfl) ?_))
    exact Ev.bind (spec_l5Depth.ev (by omega) S.size 0 T S.size (by omega) (by omega) a3) (Ev.now _)

/-! ### facts on laws_FnExactDepthOf -/
--IMPORT M6
open Go.Proofs.Ytdgbfpnjnfpjaaa.M in
theorem laws_FnExactDepthOf.pure_ : laws_FnExactDepthOf.Pure := by
  intro S _
  by_cases hl : S.size ≤ 1048576
  · obtain ⟨r, hr⟩ : ∃ r, impl_DepthOf.f S = some r := ⟨_, rfl⟩
    have hs : Ev (fun k => spec_DepthOf.f k S) r := by
      have h := spec_DepthOf.ev S
      have e := Option.some.inj hr
      cases hq : formOf S with
      | none => rw [hq] at h e; rw [← e]; exact h
      | some T => rw [hq] at h e; rw [← e]; exact h
    obtain ⟨K1, h1⟩ : ∃ K, ∀ k, K ≤ k → spec_DepthOf.f k S = some r := hs
    have hn : ¬ ((S.size : Int) > 1048576) := by omega
    refine ⟨K1, ?_⟩
    simp (disch := omega) only [laws_FnExactDepthOf.f, h1, hr, hn, ↓reduceIte, Option.bind_some]
  · exact ⟨0, by unfold laws_FnExactDepthOf.f; rw [if_pos (by omega)]⟩

end Go.Proofs.Ytdgbfpnjnfpjaaa.Print
