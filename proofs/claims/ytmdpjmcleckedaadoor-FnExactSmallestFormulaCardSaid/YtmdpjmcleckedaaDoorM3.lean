/- Lists that are copied cell by cell: no program in sight. -/
import Derived.Test.YtmdpjmcleckedaaDoorM0
namespace Go.Proofs.YtmdpjmcleckedaaDoor.M
open Go.RowKit Go.Proofs.YtmdpjmcleckedaaDoorW.PrintWords Go.Proofs.YtmdpjmcleckedaaDoorW.PrintLast
set_option linter.unusedVariables false
set_option linter.unusedSimpArgs false

/-- a list of l's length, the first i of whose elements are made -/
def fillAt {α β : Type} (f : α → β) (z : β) (l : List α) (i : Nat) : List β := (l.take i).map f ++ List.replicate (l.length - i) z
theorem fillAt_zero {α β : Type} (f : α → β) (z : β) (l : List α) : fillAt f z l 0 = List.replicate l.length z := by simp [fillAt]
theorem fillAt_all {α β : Type} (f : α → β) (z : β) (l : List α) : fillAt f z l l.length = l.map f := by simp [fillAt]
theorem fillAt_length {α β : Type} (f : α → β) (z : β) (l : List α) {i : Nat} (h : i ≤ l.length) : (fillAt f z l i).length = l.length := by simp [fillAt]; omega
theorem fillAt_set {α β : Type} (f : α → β) (z : β) (l : List α) (d : α) {i : Nat} (h : i < l.length) : (fillAt f z l i).set i (f (l.getD i d)) = fillAt f z l (i + 1) := by
  apply List.ext_getElem?
  intro j
  have e : l.getD i d = l[i] := by simp [List.getD_eq_getElem?_getD, h]
  rw [e, List.getElem?_set, fillAt_length f z l (by omega)]
  unfold fillAt
  by_cases hj : i = j
  · subst hj
    rw [if_pos rfl, if_pos h, List.getElem?_append_left (by simp; omega)]
    simp [h]
  · rw [if_neg hj]
    by_cases h2 : j < i
    · rw [List.getElem?_append_left (by simp; omega), List.getElem?_append_left (by simp; omega)]
      simp [List.getElem?_take, h2, show j < i + 1 by omega]
    · rw [List.getElem?_append_right (by simp; omega), List.getElem?_append_right (by simp; omega)]
      simp [List.getElem?_replicate, Nat.min_eq_left (Nat.le_of_lt h), Nat.min_eq_left (show i + 1 ≤ l.length by omega)]
      by_cases h3 : j < l.length
      · simp [show j - i < l.length - i by omega, show j - (i + 1) < l.length - (i + 1) by omega]
      · simp [show ¬ j - i < l.length - i by omega, show ¬ j - (i + 1) < l.length - (i + 1) by omega]

end Go.Proofs.YtmdpjmcleckedaaDoor.M
