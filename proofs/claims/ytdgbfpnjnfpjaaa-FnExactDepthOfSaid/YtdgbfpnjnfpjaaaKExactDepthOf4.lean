/- Functions of the given program as plain Lean functions, with proofs that their calls compute them, or lemmas on these. Laid by a program of this repo for the seat Ytdgbfpnjnfpjaaa; Lean checks it. -/
import Derived.Test.YtdgbfpnjnfpjaaaKExactDepthOf0
import Derived.Test.YtdgbfpnjnfpjaaaM6
namespace Go.Proofs.Ytdgbfpnjnfpjaaa.Print
open Go.RowKit Go.Proofs.YtdgbfpnjnfpjaaaW.PrintWords Go.Proofs.YtdgbfpnjnfpjaaaW.PrintLast Go.Proofs.YtdgbfpnjnfpjaaaW.PrintMore
attribute [local go_sem] max2_int min2_int max_two min_two max_three min_three max_four min_four   -- for this text's walks alone
set_option linter.unusedVariables false
set_option linter.unusedSimpArgs false

--OWNPART
/-! ### impl_part_isLeaf: function 94 -/
--IMPORT M6
theorem impl_part_isLeaf.yes (b : Nat) (w : World) (h : w.cell? ⟨b, 1, none⟩ = some (.pointer none)) : Calls Try.prog 94 #[.pointer (some ⟨b, 0, none⟩)] w fun e w' => e = .returned (.bool true) ∧ Drawn0 w w' := by
  go_enter Try.func94, Try.ntmps94
  go_wp2_with (fail)
  go_ret
  exact ⟨rfl, Drawn0.refl _⟩
theorem impl_part_isLeaf.no (b b1 : Nat) (w : World) (h : w.cell? ⟨b, 1, none⟩ = some (.pointer (some ⟨b1, 0, none⟩))) : Calls Try.prog 94 #[.pointer (some ⟨b, 0, none⟩)] w fun e w' => e = .returned (.bool false) ∧ Drawn0 w w' := by
  go_enter Try.func94, Try.ntmps94
  go_wp2_with (fail)
  go_ret
  exact ⟨rfl, Drawn0.refl _⟩


end Go.Proofs.Ytdgbfpnjnfpjaaa.Print
