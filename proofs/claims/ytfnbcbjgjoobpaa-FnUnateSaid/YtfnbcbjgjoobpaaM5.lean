/- Lists of whole numbers: made, marked, and read again; loops that stop at a bad place: no program in sight. -/
import Derived.Test.YtfnbcbjgjoobpaaM4
import Derived.Test.YtfnbcbjgjoobpaaM3
namespace Go.Proofs.Ytfnbcbjgjoobpaa.M
open Go.RowKit Go.Proofs.YtfnbcbjgjoobpaaW.PrintWords Go.Proofs.YtfnbcbjgjoobpaaW.PrintLast Go.Proofs.YtfnbcbjgjoobpaaW.PrintMore
set_option linter.unusedVariables false
set_option linter.unusedSimpArgs false

/-- a loop that ends with r at a bad place, of which there is one -/
theorem Ev.bad {α : Type} (F : Nat → Nat → Option α) (N : Nat) (r : α) (ok : Nat → Bool)
    (hs : ∀ i, i < N → ok i = true → Ev (fun k => F k (i + 1)) r → Ev (fun k => F k i) r) (hb : ∀ i, i < N → ok i = false → Ev (fun k => F k i) r) :
    ∀ d i, i + d = N → (∃ j, i ≤ j ∧ j < N ∧ ok j = false) → Ev (fun k => F k i) r := by
  intro d
  induction d with
  | zero => intro i hi ⟨j, h1, h2, _⟩; omega
  | succ d ih =>
    intro i hi ⟨j, h1, h2, h3⟩
    cases e : ok i with
    | false => exact hb i (by omega) e
    | true =>
      refine hs i (by omega) e (ih (i + 1) (by omega) ⟨j, ?_, h2, h3⟩)
      by_cases h : j = i
      · subst h; rw [h3] at e; cases e
      · omega
/-- is x an input of n variables -/
def inR (n : Nat) (x : Int) : Bool := decide (0 ≤ x ∧ x < ((2 ^ n : Nat) : Int))
end Go.Proofs.Ytfnbcbjgjoobpaa.M
