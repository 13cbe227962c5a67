/-
  No cell of these rows narrows 'for every input' (looked for: loops, veiled, ifaces, maps, wideKeys, modest, calm, conditions, laid).
  DERIVED. THE GIVEN ROWS OF THIS SEAT. 8 by the template 'for every input the law returns true; each argument reads behind the call as it read before'; 0 by the template 'total and deterministic' (their statements: YtbcjfmimgamjeaaTotals.lean).
  GIVEN WITH THE SEED: the statements are not yours to turn. If you find one false, say at which input.
  Laid BY PROGRAM, IN A SANDBOX (cutbox-rows.mjs): the forced cells as the released guide's own fill.sh prints them over the translation b10f4770baafa2fe… (all of the seat's roots in one cut). By AI agents, Wed Nov 11 2026. No macro, syntax, notation, axiom, sorry.
-/
import Derived.Test.YtbcjfmimgamjeaaChecked
import GoSem.Claim
import GoSem.ClaimJoined
import GoSem.ClaimMapViews
import Derived.JoinedTies
import Derived.KernelRfl
namespace Go.Proofs.Ytbcjfmimgamjeaa
/- THE CELL 'sum', in the pinned program and in every row, IS THE sha256 OF THE DUMP (.gsa) THAT YtbcjfmimgamjeaaProg.lean LOADS. Nothing in Lean hashes anything: it is a label: what it is worth is what the hold of that sum in a sandbox is worth. -/
noncomputable def Try.pinned : Pinned := { name := "ytbcjfmimgamjeaa", sum := "b10f4770baafa2fe497d4c18bf7fa982a5e46af0fd43df83bd2bcb9c64c4f2ea", checked := Try.checked }
namespace Rows
def none {H : Type} : Left H := { results := [], args := [] }

/-- 'laws.FnExactDepthOfTree': WHATEVER THE INPUT: true; the input reads as it did. -/
def fnExactDepthOfTreeSpec : ChangeSpec := { name := "fnExactDepthOfTree", fn := fun _ => fun
  | [d] => { results := [.lit (.bool true)], args := [d] }
  | _ => none }
def fnExactDepthOfTreeRow : OpenClaim := { program := "ytbcjfmimgamjeaa", sum := "b10f4770baafa2fe497d4c18bf7fa982a5e46af0fd43df83bd2bcb9c64c4f2ea", func := "loop.example/g03403/laws.FnExactDepthOfTree", spec := "fnExactDepthOfTree", recurses := true, plainKeys := false, apart := false }
def FnExactDepthOfTreeSaid : Prop := fnExactDepthOfTreeRow.holds Try.pinned (OpenSpec.ofChange fnExactDepthOfTreeSpec)

/-- ITS FALSE NEIGHBOUR: 'it returns false'. Refute it at one input. -/
def fnExactDepthOfTreeWrong : ChangeSpec := { name := "fnExactDepthOfTree", fn := fun _ => fun
  | [d] => { results := [.lit (.bool false)], args := [d] }
  | _ => none }
def FnExactDepthOfTreeWrongFalsely : Prop := fnExactDepthOfTreeRow.holds Try.pinned (OpenSpec.ofChange fnExactDepthOfTreeWrong)

/-- 'laws.FnExactLeastBits': WHATEVER THE INPUT: true; the input reads as it did. -/
def fnExactLeastBitsSpec : ChangeSpec := { name := "fnExactLeastBits", fn := fun _ => fun
  | [d1, d2] => { results := [.lit (.bool true)], args := [d1, d2] }
  | _ => none }
def fnExactLeastBitsRow : OpenClaim := { program := "ytbcjfmimgamjeaa", sum := "b10f4770baafa2fe497d4c18bf7fa982a5e46af0fd43df83bd2bcb9c64c4f2ea", func := "loop.example/g03403/laws.FnExactLeastBits", spec := "fnExactLeastBits", recurses := true, plainKeys := false, apart := false }
def FnExactLeastBitsSaid : Prop := fnExactLeastBitsRow.holds Try.pinned (OpenSpec.ofChange fnExactLeastBitsSpec)

/-- ITS FALSE NEIGHBOUR: 'it returns false'. Refute it at one input. -/
def fnExactLeastBitsWrong : ChangeSpec := { name := "fnExactLeastBits", fn := fun _ => fun
  | [d1, d2] => { results := [.lit (.bool false)], args := [d1, d2] }
  | _ => none }
def FnExactLeastBitsWrongFalsely : Prop := fnExactLeastBitsRow.holds Try.pinned (OpenSpec.ofChange fnExactLeastBitsWrong)

/-- 'laws.FnExactDepthSum': WHATEVER THE INPUT: true; the input reads as it did. -/
def fnExactDepthSumSpec : ChangeSpec := { name := "fnExactDepthSum", fn := fun _ => fun
  | [d1, d2] => { results := [.lit (.bool true)], args := [d1, d2] }
  | _ => none }
def fnExactDepthSumRow : OpenClaim := { program := "ytbcjfmimgamjeaa", sum := "b10f4770baafa2fe497d4c18bf7fa982a5e46af0fd43df83bd2bcb9c64c4f2ea", func := "loop.example/g03403/laws.FnExactDepthSum", spec := "fnExactDepthSum", unfollowed := true, recurses := true, plainKeys := false, apart := false }
def FnExactDepthSumSaid : Prop := fnExactDepthSumRow.holds Try.pinned (OpenSpec.ofChange fnExactDepthSumSpec)

/-- ITS FALSE NEIGHBOUR: 'it returns false'. Refute it at one input. -/
def fnExactDepthSumWrong : ChangeSpec := { name := "fnExactDepthSum", fn := fun _ => fun
  | [d1, d2] => { results := [.lit (.bool false)], args := [d1, d2] }
  | _ => none }
def FnExactDepthSumWrongFalsely : Prop := fnExactDepthSumRow.holds Try.pinned (OpenSpec.ofChange fnExactDepthSumWrong)

/-- 'laws.FnExactAverageDegree': WHATEVER THE INPUT: true; the input reads as it did. -/
def fnExactAverageDegreeSpec : ChangeSpec := { name := "fnExactAverageDegree", fn := fun _ => fun
  | [d1, d2] => { results := [.lit (.bool true)], args := [d1, d2] }
  | _ => none }
def fnExactAverageDegreeRow : OpenClaim := { program := "ytbcjfmimgamjeaa", sum := "b10f4770baafa2fe497d4c18bf7fa982a5e46af0fd43df83bd2bcb9c64c4f2ea", func := "loop.example/g03403/laws.FnExactAverageDegree", spec := "fnExactAverageDegree", unfollowed := true, recurses := true, plainKeys := false, apart := false }
def FnExactAverageDegreeSaid : Prop := fnExactAverageDegreeRow.holds Try.pinned (OpenSpec.ofChange fnExactAverageDegreeSpec)

/-- ITS FALSE NEIGHBOUR: 'it returns false'. Refute it at one input. -/
def fnExactAverageDegreeWrong : ChangeSpec := { name := "fnExactAverageDegree", fn := fun _ => fun
  | [d1, d2] => { results := [.lit (.bool false)], args := [d1, d2] }
  | _ => none }
def FnExactAverageDegreeWrongFalsely : Prop := fnExactAverageDegreeRow.holds Try.pinned (OpenSpec.ofChange fnExactAverageDegreeWrong)

/-- 'laws.FnExactFormulaSize': WHATEVER THE INPUT: true; the input reads as it did. -/
def fnExactFormulaSizeSpec : ChangeSpec := { name := "fnExactFormulaSize", fn := fun _ => fun
  | [d] => { results := [.lit (.bool true)], args := [d] }
  | _ => none }
def fnExactFormulaSizeRow : OpenClaim := { program := "ytbcjfmimgamjeaa", sum := "b10f4770baafa2fe497d4c18bf7fa982a5e46af0fd43df83bd2bcb9c64c4f2ea", func := "loop.example/g03403/laws.FnExactFormulaSize", spec := "fnExactFormulaSize", unfollowed := true, recurses := true, plainKeys := false, apart := false }
def FnExactFormulaSizeSaid : Prop := fnExactFormulaSizeRow.holds Try.pinned (OpenSpec.ofChange fnExactFormulaSizeSpec)

/-- ITS FALSE NEIGHBOUR: 'it returns false'. Refute it at one input. -/
def fnExactFormulaSizeWrong : ChangeSpec := { name := "fnExactFormulaSize", fn := fun _ => fun
  | [d] => { results := [.lit (.bool false)], args := [d] }
  | _ => none }
def FnExactFormulaSizeWrongFalsely : Prop := fnExactFormulaSizeRow.holds Try.pinned (OpenSpec.ofChange fnExactFormulaSizeWrong)

/-- 'laws.FnExactCountOfSize': WHATEVER THE INPUT: true; the input reads as it did. -/
def fnExactCountOfSizeSpec : ChangeSpec := { name := "fnExactCountOfSize", fn := fun _ => fun
  | [d1, d2] => { results := [.lit (.bool true)], args := [d1, d2] }
  | _ => none }
def fnExactCountOfSizeRow : OpenClaim := { program := "ytbcjfmimgamjeaa", sum := "b10f4770baafa2fe497d4c18bf7fa982a5e46af0fd43df83bd2bcb9c64c4f2ea", func := "loop.example/g03403/laws.FnExactCountOfSize", spec := "fnExactCountOfSize", unfollowed := true, recurses := true, plainKeys := false, apart := false }
def FnExactCountOfSizeSaid : Prop := fnExactCountOfSizeRow.holds Try.pinned (OpenSpec.ofChange fnExactCountOfSizeSpec)

/-- ITS FALSE NEIGHBOUR: 'it returns false'. Refute it at one input. -/
def fnExactCountOfSizeWrong : ChangeSpec := { name := "fnExactCountOfSize", fn := fun _ => fun
  | [d1, d2] => { results := [.lit (.bool false)], args := [d1, d2] }
  | _ => none }
def FnExactCountOfSizeWrongFalsely : Prop := fnExactCountOfSizeRow.holds Try.pinned (OpenSpec.ofChange fnExactCountOfSizeWrong)

/-- 'laws.FnExactSizesOf': WHATEVER THE INPUT: true; the input reads as it did. -/
def fnExactSizesOfSpec : ChangeSpec := { name := "fnExactSizesOf", fn := fun _ => fun
  | [d] => { results := [.lit (.bool true)], args := [d] }
  | _ => none }
def fnExactSizesOfRow : OpenClaim := { program := "ytbcjfmimgamjeaa", sum := "b10f4770baafa2fe497d4c18bf7fa982a5e46af0fd43df83bd2bcb9c64c4f2ea", func := "loop.example/g03403/laws.FnExactSizesOf", spec := "fnExactSizesOf", unfollowed := true, recurses := true, plainKeys := false, apart := false }
def FnExactSizesOfSaid : Prop := fnExactSizesOfRow.holds Try.pinned (OpenSpec.ofChange fnExactSizesOfSpec)

/-- ITS FALSE NEIGHBOUR: 'it returns false'. Refute it at one input. -/
def fnExactSizesOfWrong : ChangeSpec := { name := "fnExactSizesOf", fn := fun _ => fun
  | [d] => { results := [.lit (.bool false)], args := [d] }
  | _ => none }
def FnExactSizesOfWrongFalsely : Prop := fnExactSizesOfRow.holds Try.pinned (OpenSpec.ofChange fnExactSizesOfWrong)

/-- 'laws.FnExactLargestSize': WHATEVER THE INPUT: true; the input reads as it did. -/
def fnExactLargestSizeSpec : ChangeSpec := { name := "fnExactLargestSize", fn := fun _ => fun
  | [d] => { results := [.lit (.bool true)], args := [d] }
  | _ => none }
def fnExactLargestSizeRow : OpenClaim := { program := "ytbcjfmimgamjeaa", sum := "b10f4770baafa2fe497d4c18bf7fa982a5e46af0fd43df83bd2bcb9c64c4f2ea", func := "loop.example/g03403/laws.FnExactLargestSize", spec := "fnExactLargestSize", unfollowed := true, recurses := true, plainKeys := false, apart := false }
def FnExactLargestSizeSaid : Prop := fnExactLargestSizeRow.holds Try.pinned (OpenSpec.ofChange fnExactLargestSizeSpec)

/-- ITS FALSE NEIGHBOUR: 'it returns false'. Refute it at one input. -/
def fnExactLargestSizeWrong : ChangeSpec := { name := "fnExactLargestSize", fn := fun _ => fun
  | [d] => { results := [.lit (.bool false)], args := [d] }
  | _ => none }
def FnExactLargestSizeWrongFalsely : Prop := fnExactLargestSizeRow.holds Try.pinned (OpenSpec.ofChange fnExactLargestSizeWrong)

/- THE SECOND FORM. 'bulk': how many values and letters a reading holds, each counted each time it is reached (what is shared counts as often as it is met; a slice's spare places count too). A statement '..UptoSaid' is the law's where the arguments, and the package variables that the reading takes, are together of bulk at most 1048576: NARROWER than '..Said'. Prove '..Said' where nothing that the law and all that it calls make is longer than what came in: it says more and counts as full. Else prove '..UptoSaid'. A law counts once. -/
mutual
def uptoBulk {H : Type} : DataW H → Nat
  | .lit (.string bytes) => bytes.length + 1
  | .lit _ => 1
  | .nil => 1
  | .ptr d => uptoBulk d + 1
  | .slice elems spare => uptoBulkAll elems + uptoBulkAll spare + 1
  | .agg parts => uptoBulkAll parts + 1
  | .iface _ d => uptoBulk d + 1
  | .map entries => uptoBulkEntries entries + 1
  | .held _ => 1
def uptoBulkAll {H : Type} : List (DataW H) → Nat
  | [] => 0
  | d :: r => uptoBulk d + uptoBulkAll r
def uptoBulkEntries {H : Type} : List (Lit × DataW H) → Nat
  | [] => 0
  | x :: r => uptoBulkEntry x + uptoBulkEntries r
def uptoBulkEntry {H : Type} : Lit × DataW H → Nat
  | (.string bytes, d) => bytes.length + uptoBulk d + 1
  | (_, d) => uptoBulk d + 1
 end
def uptoSmall : (H : Type) → List (DataW H) → Bool := fun _ ds => decide (uptoBulkAll ds ≤ 1048576)
def OpenSpec.upto (s : _root_.Go.ChangeSpec) : _root_.Go.OpenSpec := { _root_.Go.OpenSpec.ofChange s with cond := some uptoSmall }

/-- 'laws.FnExactDepthOfTree', WHERE WHAT IT READS IS OF BULK AT MOST 1048576: true; the input reads as it did. -/
def fnExactDepthOfTreeUptoRow : OpenClaim := { program := "ytbcjfmimgamjeaa", sum := "b10f4770baafa2fe497d4c18bf7fa982a5e46af0fd43df83bd2bcb9c64c4f2ea", func := "loop.example/g03403/laws.FnExactDepthOfTree", spec := "fnExactDepthOfTree", recurses := true, plainKeys := false, apart := false, narrowed := true }
def FnExactDepthOfTreeUptoSaid : Prop := fnExactDepthOfTreeUptoRow.holds Try.pinned (OpenSpec.upto fnExactDepthOfTreeSpec)

/-- 'laws.FnExactLeastBits', WHERE WHAT IT READS IS OF BULK AT MOST 1048576: true; the input reads as it did. -/
def fnExactLeastBitsUptoRow : OpenClaim := { program := "ytbcjfmimgamjeaa", sum := "b10f4770baafa2fe497d4c18bf7fa982a5e46af0fd43df83bd2bcb9c64c4f2ea", func := "loop.example/g03403/laws.FnExactLeastBits", spec := "fnExactLeastBits", recurses := true, plainKeys := false, apart := false, narrowed := true }
def FnExactLeastBitsUptoSaid : Prop := fnExactLeastBitsUptoRow.holds Try.pinned (OpenSpec.upto fnExactLeastBitsSpec)

/-- 'laws.FnExactDepthSum', WHERE WHAT IT READS IS OF BULK AT MOST 1048576: true; the input reads as it did. -/
def fnExactDepthSumUptoRow : OpenClaim := { program := "ytbcjfmimgamjeaa", sum := "b10f4770baafa2fe497d4c18bf7fa982a5e46af0fd43df83bd2bcb9c64c4f2ea", func := "loop.example/g03403/laws.FnExactDepthSum", spec := "fnExactDepthSum", unfollowed := true, recurses := true, plainKeys := false, apart := false, narrowed := true }
def FnExactDepthSumUptoSaid : Prop := fnExactDepthSumUptoRow.holds Try.pinned (OpenSpec.upto fnExactDepthSumSpec)

/-- 'laws.FnExactAverageDegree', WHERE WHAT IT READS IS OF BULK AT MOST 1048576: true; the input reads as it did. -/
def fnExactAverageDegreeUptoRow : OpenClaim := { program := "ytbcjfmimgamjeaa", sum := "b10f4770baafa2fe497d4c18bf7fa982a5e46af0fd43df83bd2bcb9c64c4f2ea", func := "loop.example/g03403/laws.FnExactAverageDegree", spec := "fnExactAverageDegree", unfollowed := true, recurses := true, plainKeys := false, apart := false, narrowed := true }
def FnExactAverageDegreeUptoSaid : Prop := fnExactAverageDegreeUptoRow.holds Try.pinned (OpenSpec.upto fnExactAverageDegreeSpec)

/-- 'laws.FnExactFormulaSize', WHERE WHAT IT READS IS OF BULK AT MOST 1048576: true; the input reads as it did. -/
def fnExactFormulaSizeUptoRow : OpenClaim := { program := "ytbcjfmimgamjeaa", sum := "b10f4770baafa2fe497d4c18bf7fa982a5e46af0fd43df83bd2bcb9c64c4f2ea", func := "loop.example/g03403/laws.FnExactFormulaSize", spec := "fnExactFormulaSize", unfollowed := true, recurses := true, plainKeys := false, apart := false, narrowed := true }
def FnExactFormulaSizeUptoSaid : Prop := fnExactFormulaSizeUptoRow.holds Try.pinned (OpenSpec.upto fnExactFormulaSizeSpec)

/-- 'laws.FnExactCountOfSize', WHERE WHAT IT READS IS OF BULK AT MOST 1048576: true; the input reads as it did. -/
def fnExactCountOfSizeUptoRow : OpenClaim := { program := "ytbcjfmimgamjeaa", sum := "b10f4770baafa2fe497d4c18bf7fa982a5e46af0fd43df83bd2bcb9c64c4f2ea", func := "loop.example/g03403/laws.FnExactCountOfSize", spec := "fnExactCountOfSize", unfollowed := true, recurses := true, plainKeys := false, apart := false, narrowed := true }
def FnExactCountOfSizeUptoSaid : Prop := fnExactCountOfSizeUptoRow.holds Try.pinned (OpenSpec.upto fnExactCountOfSizeSpec)

/-- 'laws.FnExactSizesOf', WHERE WHAT IT READS IS OF BULK AT MOST 1048576: true; the input reads as it did. -/
def fnExactSizesOfUptoRow : OpenClaim := { program := "ytbcjfmimgamjeaa", sum := "b10f4770baafa2fe497d4c18bf7fa982a5e46af0fd43df83bd2bcb9c64c4f2ea", func := "loop.example/g03403/laws.FnExactSizesOf", spec := "fnExactSizesOf", unfollowed := true, recurses := true, plainKeys := false, apart := false, narrowed := true }
def FnExactSizesOfUptoSaid : Prop := fnExactSizesOfUptoRow.holds Try.pinned (OpenSpec.upto fnExactSizesOfSpec)

/-- 'laws.FnExactLargestSize', WHERE WHAT IT READS IS OF BULK AT MOST 1048576: true; the input reads as it did. -/
def fnExactLargestSizeUptoRow : OpenClaim := { program := "ytbcjfmimgamjeaa", sum := "b10f4770baafa2fe497d4c18bf7fa982a5e46af0fd43df83bd2bcb9c64c4f2ea", func := "loop.example/g03403/laws.FnExactLargestSize", spec := "fnExactLargestSize", unfollowed := true, recurses := true, plainKeys := false, apart := false, narrowed := true }
def FnExactLargestSizeUptoSaid : Prop := fnExactLargestSizeUptoRow.holds Try.pinned (OpenSpec.upto fnExactLargestSizeSpec)

end Rows
end Go.Proofs.Ytbcjfmimgamjeaa
