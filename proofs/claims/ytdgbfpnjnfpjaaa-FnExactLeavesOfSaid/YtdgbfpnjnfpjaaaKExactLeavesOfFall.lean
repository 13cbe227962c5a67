/- Functions of the given program as plain Lean functions, with proofs that their calls compute them, or lemmas on these. Laid by a program of this repo for the seat Ytdgbfpnjnfpjaaa; Lean checks it. -/
import Derived.Test.YtdgbfpnjnfpjaaaKExactLeavesOf0
import Derived.Test.YtdgbfpnjnfpjaaaKExactLeavesOf1
import Derived.Test.YtdgbfpnjnfpjaaaKExactLeavesOf6
import Derived.Test.YtdgbfpnjnfpjaaaKExactLeavesOf7
import Derived.Test.YtdgbfpnjnfpjaaaM6
namespace Go.Proofs.Ytdgbfpnjnfpjaaa.Print
open Go.RowKit Go.Proofs.YtdgbfpnjnfpjaaaW.PrintWords Go.Proofs.YtdgbfpnjnfpjaaaW.PrintLast Go.Proofs.YtdgbfpnjnfpjaaaW.PrintMore
attribute [local go_sem] max2_int min2_int max_two min_two max_three min_three max_four min_four   -- for this text's walks alone
set_option linter.unusedVariables false
set_option linter.unusedSimpArgs false

/-! ### facts on spec_l5End -/
--IMPORT M6
open Go.Proofs.Ytdgbfpnjnfpjaaa.M in
theorem spec_l5End.first {S : ByteArray} {i : Nat} (hi : i < S.size) (q : Nat) : spec_l5End.f (q + 1) S (i : Int) = spec_l5End.j0 q S (i : Int) (bt S i) (decide (isLet (bt S i))) := by
  simp only [spec_l5End.f]
  rw [if_neg (by omega), if_pos (by omega), if_pos (by omega)]
  generalize bt S i = c
  have key : ∀ b : Bool, (b = true ↔ isLet c) → spec_l5End.j0 q S (i : Int) c b = spec_l5End.j0 q S (i : Int) c (decide (isLet c)) := fun b h => by
    congr 1
    rw [Bool.eq_iff_iff, h, decide_eq_true_eq]
  unfold isLet at key
  by_cases h1 : c = 97
  · rw [if_pos h1]; exact key _ (by rw [beq_iff_eq]; omega)
  · rw [if_neg h1]
    by_cases h2 : c = 98
    · rw [if_pos h2]; exact key _ (by rw [beq_iff_eq]; omega)
    · rw [if_neg h2]
      by_cases h3 : c = 99
      · rw [if_pos h3]; exact key _ (by rw [beq_iff_eq]; omega)
      · rw [if_neg h3]
        by_cases h4 : c = 100
        · rw [if_pos h4]; exact key _ (by rw [beq_iff_eq]; omega)
        · rw [if_neg h4]
          by_cases h5 : c = 101
          · rw [if_pos h5]; exact key _ (by rw [beq_iff_eq]; omega)
          · rw [if_neg h5]
            by_cases h6 : c = 48
            · rw [if_pos h6]; exact key _ (by rw [beq_iff_eq]; omega)
            · rw [if_neg h6]; exact key _ (by rw [beq_iff_eq]; omega)
theorem spec_l5End.second {S : ByteArray} {i c : Int} (h33 : c ≠ 33) (q : Nat) : spec_l5End.j0 (q + 1) S i c false = spec_l5End.j1 q S i (decide (c = 38 ∨ c = 124 ∨ c = 94)) := by
  simp only [spec_l5End.j0]
  rw [if_neg (by decide), if_neg h33]
  have key : ∀ b : Bool, (b = true ↔ (c = 38 ∨ c = 124 ∨ c = 94)) → spec_l5End.j1 q S i b = spec_l5End.j1 q S i (decide (c = 38 ∨ c = 124 ∨ c = 94)) := fun b h => by
    congr 1
    rw [Bool.eq_iff_iff, h, decide_eq_true_eq]
  by_cases h1 : c = 38
  · rw [if_pos h1]; exact key _ (by rw [beq_iff_eq]; omega)
  · rw [if_neg h1]
    by_cases h2 : c = 124
    · rw [if_pos h2]; exact key _ (by rw [beq_iff_eq]; omega)
    · rw [if_neg h2]; exact key _ (by rw [beq_iff_eq]; omega)
open Go.Proofs.Ytdgbfpnjnfpjaaa.M in
/-- where the formula ends, or -1 -/
def spec_l5End.at_ (p : Option (Sh × Nat)) : Int := match p with | none => -1 | some p => ((p.2 : Nat) : Int)
open Go.Proofs.Ytdgbfpnjnfpjaaa.M in
theorem spec_l5End.ev {S : ByteArray} (hS : S.size ≤ 1000000) : ∀ k i, i ≤ S.size → S.size ≤ i + k → Ev (fun q => spec_l5End.f q S (i : Int)) (spec_l5End.at_ (rp S k i)) := by
  intro k
  induction k with
  | zero =>
    intro i hi hk
    refine Ev.end (fun q => ?_)
    simp only [spec_l5End.f]
    rw [if_pos (by omega), rp]; rfl
  | succ k ih =>
    intro i hi hk
    rw [rp]
    by_cases h0 : S.size ≤ i
    · rw [if_pos h0]
      refine Ev.end (fun q => ?_)
      simp only [spec_l5End.f]
      rw [if_pos (by omega)]; rfl
    · rw [if_neg h0]
      have hlt : i < S.size := by omega
      have IH := ih (i + 1) (by omega) (by omega)
      refine Ev.step (fun q => spec_l5End.first hlt q) ?_
      by_cases h1 : isLet (bt S i)
      · rw [if_pos h1, decide_eq_true h1]
        refine Ev.end (fun q => ?_)
        simp only [spec_l5End.j0, if_true]
        rw [up1 (by omega)]; rfl
      · rw [if_neg h1, decide_eq_false h1]
        by_cases h2 : bt S i = 33
        · rw [if_pos h2, h2]
          have e : spec_l5End.at_ ((rp S k (i + 1)).bind fun p => some (Sh.node 33 p.1 .nil, p.2)) = spec_l5End.at_ (rp S k (i + 1)) := by cases rp S k (i + 1) <;> rfl
          rw [e]
          refine Ev.step (f := fun q => (spec_l5End.f q S ((i + 1 : Nat) : Int)).bind fun t => some t) (fun q => ?_) (Ev.bind IH (Ev.now _))
          simp only [spec_l5End.j0]
          rw [if_neg (by decide), if_pos trivial, up1 (by omega)]
        · rw [if_neg h2]
          refine Ev.step (fun q => spec_l5End.second h2 q) ?_
          by_cases h3 : bt S i = 38 ∨ bt S i = 124 ∨ bt S i = 94
          · rw [if_pos h3, decide_eq_true h3]
            cases hq : rp S k (i + 1) with
            | none =>
              rw [hq] at IH
              refine Ev.step (f := fun q => (spec_l5End.f q S ((i + 1 : Nat) : Int)).bind fun t => if t < 0 then some (-1) else (spec_l5End.f q S t).bind fun u => some u) (fun q => ?_) (Ev.bind IH (Ev.congr (fun k => if_pos (by decide)) (Ev.now _)))
              simp only [spec_l5End.j1, if_true]
              rw [up1 (by omega)]
            | some p =>
              obtain ⟨T, j⟩ := p
              obtain ⟨f1, f2, f3, f4⟩ := rp_some hq
              rw [hq] at IH
              have IH2 := ih j f3 (by omega)
              have e : spec_l5End.at_ ((some (T, j)).bind fun p => (rp S k p.2).bind fun q => some (Sh.node (bt S i) p.1 q.1, q.2)) = spec_l5End.at_ (rp S k j) := by
                rw [Option.bind_some]; cases rp S k j <;> rfl
              rw [e]
              refine Ev.step (f := fun q => (spec_l5End.f q S ((i + 1 : Nat) : Int)).bind fun t => if t < 0 then some (-1) else (spec_l5End.f q S t).bind fun u => some u) (fun q => ?_) (Ev.bind IH (Ev.congr (fun k => if_neg (by show ¬ ((j : Nat) : Int) < 0; omega)) (Ev.bind IH2 (Ev.now _))))
              simp only [spec_l5End.j1, if_true]
              rw [up1 (by omega)]
          · rw [if_neg h3, decide_eq_false h3]
            refine Ev.end (fun q => ?_)
            simp only [spec_l5End.j1]
            rw [if_neg (by decide)]; rfl

/-! ### facts on spec_IsFormula -/
--IMPORT M6
open Go.Proofs.Ytdgbfpnjnfpjaaa.M in
theorem spec_IsFormula.ev (S : ByteArray) : Ev (fun k => spec_IsFormula.f k S) (formOf S).isSome := by
  unfold formOf
  by_cases h : S.size ≤ 60
  · rw [if_pos h]
    by_cases h0 : 0 < S.size
    · have h1 := spec_l5End.ev (S := S) (by omega) S.size 0 (by omega) (by omega)
      refine Ev.congr (f := fun k => (spec_l5End.f k S ((0 : Nat) : Int)).bind fun t => some (t == (S.size : Int))) (fun k => ?_) (Ev.bind h1 ?_)
      · unfold spec_IsFormula.f
        rw [if_pos (by omega), if_pos (by omega)]; rfl
      · have e : (spec_l5End.at_ (rp S S.size 0) == (S.size : Int)) = ((rp S S.size 0).bind fun p => if p.2 = S.size then some p.1 else none).isSome := by
          cases rp S S.size 0 with
          | none => show ((-1 : Int) == _) = false; exact beq_eq_false_iff_ne.mpr (by omega)
          | some p =>
            rw [Option.bind_some]
            by_cases hp : p.2 = S.size
            · rw [if_pos hp]
              show (((p.2 : Nat) : Int) == _) = true
              rw [beq_iff_eq]; omega
            · rw [if_neg hp]
              show (((p.2 : Nat) : Int) == _) = false
              exact beq_eq_false_iff_ne.mpr (by omega)
        rw [e]; exact Ev.now _
    · have hz : S.size = 0 := by omega
      refine Ev.of_some (fun k => ?_)
      unfold spec_IsFormula.f
      rw [if_pos (by omega), if_neg (by omega), hz]; rfl
  · rw [if_neg h]
    refine Ev.of_some (fun k => ?_)
    unfold spec_IsFormula.f
    rw [if_neg (by omega)]; rfl

/-! ### facts on spec_LeavesOf -/
--IMPORT M6
open Go.Proofs.Ytdgbfpnjnfpjaaa.M in
theorem spec_LeavesOf.ev (S : ByteArray) : Ev (fun k => spec_LeavesOf.f k S) (match formOf S with | some T => ((T.leaves : Nat) : Int) | none => -1) := by
  have h1 := spec_IsFormula.ev S
  cases hq : formOf S with
  | none =>
    rw [hq] at h1
    refine Ev.congr (f := fun k => (spec_IsFormula.f k S).bind fun t => if t = true then spec_LeavesOf.l0 k S 0 0 else some (-1)) (fun k => rfl) (Ev.bind h1 (Ev.congr (fun k => if_neg (by decide)) (Ev.now _)))
  | some T =>
    rw [hq] at h1
    obtain ⟨a1, a2, a3⟩ := formOf_some hq
    have hc := rp_cnt a3
    rw [show cnt (nOp S) 0 = 0 from rfl, Nat.zero_add] at hc
    refine Ev.congr (f := fun k => (spec_IsFormula.f k S).bind fun t => if t = true then spec_LeavesOf.l0 k S 0 0 else some (-1)) (fun k => rfl) (Ev.bind h1 (Ev.congr (fun k => if_pos rfl) ?_))
    show Ev _ ((T.leaves : Nat) : Int)
    rw [← hc]
    have key : ∀ d i, i + d = S.size → Ev (fun k => spec_LeavesOf.l0 k S ((cnt (nOp S) i : Nat) : Int) (i : Int)) ((cnt (nOp S) S.size : Nat) : Int) := by
      refine Ev.count (fun k i => spec_LeavesOf.l0 k S ((cnt (nOp S) i : Nat) : Int) (i : Int)) S.size _ ?_ ?_
      · intro i hi h
        have hle := cnt_le (nOp S) i
        refine Ev.step (fun k => ?_) h
        simp only [spec_LeavesOf.l0]
        rw [if_pos (by omega), if_pos (by omega), up1 (by omega), up1 (by omega)]
        by_cases h1 : bt S i = 33 ∨ bt S i = 38 ∨ bt S i = 124 ∨ bt S i = 94
        · have e : cnt (nOp S) (i + 1) = cnt (nOp S) i := by rw [cnt, nOp, decide_eq_true h1]; rfl
          rw [e]
          rcases h1 with h1 | h1 | h1 | h1 <;> simp [h1]
        · have e : cnt (nOp S) (i + 1) = cnt (nOp S) i + 1 := by rw [cnt, nOp, decide_eq_false h1]; rfl
          rw [e, if_neg (by omega), if_neg (by omega), if_neg (by omega), if_neg (by omega)]
      · refine Ev.end (fun k => ?_)
        simp only [spec_LeavesOf.l0]
        rw [if_neg (by omega)]
    exact key S.size 0 (by omega)

/-! ### facts on laws_FnExactLeavesOf -/
--IMPORT M6
open Go.Proofs.Ytdgbfpnjnfpjaaa.M in
theorem laws_FnExactLeavesOf.pure_ : laws_FnExactLeavesOf.Pure := by
  intro S _
  by_cases hl : S.size ≤ 1048576
  · obtain ⟨r, hr⟩ : ∃ r, impl_LeavesOf.f S = some r := ⟨_, rfl⟩
    have hs : Ev (fun k => spec_LeavesOf.f k S) r := by
      have h := spec_LeavesOf.ev S
      have e := Option.some.inj hr
      cases hq : formOf S with
      | none => rw [hq] at h e; rw [← e]; exact h
      | some T => rw [hq] at h e; rw [← e]; exact h
    obtain ⟨K1, h1⟩ : ∃ K, ∀ k, K ≤ k → spec_LeavesOf.f k S = some r := hs
    have hn : ¬ ((S.size : Int) > 1048576) := by omega
    refine ⟨K1, ?_⟩
    simp (disch := omega) only [laws_FnExactLeavesOf.f, h1, hr, hn, ↓reduceIte, Option.bind_some]
  · exact ⟨0, by unfold laws_FnExactLeavesOf.f; rw [if_pos (by omega)]⟩

end Go.Proofs.Ytdgbfpnjnfpjaaa.Print
