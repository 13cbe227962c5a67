/-
  DERIVED. GIVEN WITH THE SEED: THE CARDS: each row of YtmdpjmcleckedaaDoorRows.lean that lists a variable, with what it lists TIED to the program's text (the seventh form; the later family's looks); each row that meets fmt, with fmt's text TOLD by the authors' own Lean function (tested against real Go, not proved from fmt's source: count such statements apart). THE CARD IS WHAT COUNTS. Prove the row's statement (the work); the ties are given (YtmdpjmcleckedaaDoorTie.lean); close each card by the builder's one call (the guide's Derived/Test/ToyasCard.lean, 'card_holds'). Laid BY PROGRAM, IN A SANDBOX (cutbox-door.mjs). By AI agents, Wed Nov 11 2026. No macro, syntax, notation, axiom, sorry.
-/
import Derived.Test.YtmdpjmcleckedaaDoorRows
import GoSem.ClaimSeven
namespace Go.Proofs.YtmdpjmcleckedaaDoor
namespace Rows

/-- THE TIED CARD OF 'laws.FnExactSmallestFormula'. -/
def fnExactSmallestFormulaCard : Claim7 := { stood := { row := fnExactSmallestFormulaRow, standIns := [], harness := (true, "b39d11bfca889be78f5b2051d8634e9db3d2b5dcef112cfdb26f4b2a2064e5f5"), looks := false }, kinds := [], alts := [], laidByText := true, laidKinds := [.data, .data, .data], laidTests := true, laidLooks := .later }
def FnExactSmallestFormulaCardSaid : Prop := Claim7.holds Tryd.pinned (.plain (OpenSpec.ofChange fnExactSmallestFormulaSpec)) fnExactSmallestFormulaCard

/-- THE SECOND FORM's CARD OF 'laws.FnExactSmallestFormula'. -/
def fnExactSmallestFormulaUptoCard : Claim7 := { stood := { row := fnExactSmallestFormulaUptoRow, standIns := [], harness := (true, "b39d11bfca889be78f5b2051d8634e9db3d2b5dcef112cfdb26f4b2a2064e5f5"), looks := false }, kinds := [], alts := [], laidByText := true, laidKinds := [.data, .data, .data], laidTests := true, laidLooks := .later }
def FnExactSmallestFormulaUptoCardSaid : Prop := Claim7.holds Tryd.pinned (.plain (OpenSpec.upto fnExactSmallestFormulaSpec)) fnExactSmallestFormulaUptoCard
end Rows
end Go.Proofs.YtmdpjmcleckedaaDoor
