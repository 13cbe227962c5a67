/- Functions of the given program as plain Lean functions, with proofs that their calls compute them, or lemmas on these. Laid by a program of this repo for the seat YtmdpjmcleckedaaDoor; Lean checks it. -/
import Derived.Test.YtmdpjmcleckedaaDoorKExactSmallestFormula0
import Derived.Test.YtmdpjmcleckedaaDoorM0
namespace Go.Proofs.YtmdpjmcleckedaaDoor.Print
open Go.RowKit Go.Proofs.YtmdpjmcleckedaaDoorW.PrintWords Go.Proofs.YtmdpjmcleckedaaDoorW.PrintLast Go.Proofs.YtmdpjmcleckedaaDoorW.PrintMore
attribute [local go_sem] max2_int min2_int max_two min_two max_three min_three max_four min_four   -- for this text's walks alone
set_option linter.unusedVariables false
set_option linter.unusedSimpArgs false

--OWNPART
/-! ### impl_makeTable: function 28 -/
--IMPORT M0
open Go.Proofs.YtmdpjmcleckedaaDoor.M
/-- what a round of makeTable's loop finds -/
def impl_makeTable.I (w : World) (N : Nat) (g : Nat → Bool) (x : Nat) (W : World) : Prop :=
  W.heap[w.heap.size]? = some (.cells #[.int .i64 0, .int .i64 0] 26 (0, 0)) ∧ W.heap[w.heap.size + 1]? = some (.cells #[.int .i64 (N : Int), .int .i64 ((prefW g x : Nat) : Int)] 26 (0, 0)) ∧ Below w.heap.size w W
theorem impl_makeTable.I.start (w : World) (N : Nat) (g : Nat → Bool) : impl_makeTable.I w N g 0 ((w.alloc (.cells #[.int .i64 0, .int .i64 0] 26)).alloc (.cells #[.int .i64 (N : Int), .int .i64 0] 26)) := by
  refine ⟨blk_alloc (blk_new w _) _, ?_, ((Below.refl _ _).alloc (Nat.le_refl _) _).alloc (by simp) _⟩
  have := blk_new (w.alloc (.cells #[.int .i64 0, .int .i64 0] 26)) (.cells #[.int .i64 (N : Int), .int .i64 0] 26)
  simpa [prefW] using this
theorem impl_makeTable.I.call {w : World} {N : Nat} {g : Nat → Bool} {x : Nat} {W W' : World} (h : impl_makeTable.I w N g x W) (hb : Below W.heap.size W W') : impl_makeTable.I w N g x W' :=
  ⟨blk_below h.1 hb, blk_below h.2.1 hb, h.2.2.trans (hb.mono h.2.2.size)⟩
theorem impl_makeTable.I.skip {w : World} {N : Nat} {g : Nat → Bool} {x : Nat} {W : World} (h : impl_makeTable.I w N g x W) (hg : g x = false) : impl_makeTable.I w N g (x + 1) W := by
  unfold impl_makeTable.I; rw [prefW_skip hg]; exact h
theorem impl_makeTable.I.set {w : World} {N : Nat} {g : Nat → Bool} {x : Nat} {W : World} (h : impl_makeTable.I w N g x W) (hg : g x = true) (hx : x ≤ 61) {u : Int} (hu : u = Go.bits .or .i64 ((prefW g x : Nat) : Int) (shl .i64 1 (x : Int))) :
    impl_makeTable.I w N g (x + 1) (W.setCell ⟨w.heap.size + 1, 1, none⟩ (.int .i64 u)) := by
  rw [prefW_step_one hx hg] at hu
  subst hu
  exact ⟨blk_far h.1 (by show w.heap.size ≠ w.heap.size + 1; omega) _, by simpa using blk_set h.2.1 1 (.int .i64 ((prefW g (x + 1) : Nat) : Int)), h.2.2.setCell (by show w.heap.size ≤ w.heap.size + 1; omega) _⟩

theorem impl_makeTable.I.drew {w : World} {N : Nat} {g : Nat → Bool} {x : Nat} {W : World} (h : impl_makeTable.I w N g x W) : impl_makeTable.I w N g x W.drew := ⟨h.1, h.2.1, h.2.2.drew⟩



end Go.Proofs.YtmdpjmcleckedaaDoor.Print
