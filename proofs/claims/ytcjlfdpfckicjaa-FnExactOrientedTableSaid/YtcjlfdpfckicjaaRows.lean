/-
  No cell of these rows narrows 'for every input' (looked for: loops, veiled, ifaces, maps, wideKeys, modest, calm, conditions, laid).
  DERIVED. THE GIVEN ROWS OF THIS SEAT. 12 by the template 'for every input the law returns true; each argument reads behind the call as it read before'; 0 by the template 'total and deterministic' (their statements: YtcjlfdpfckicjaaTotals.lean).
  GIVEN WITH THE SEED: the statements are not yours to turn. If you find one false, say at which input.
  Laid BY PROGRAM, IN A SANDBOX (cutbox-rows.mjs): the forced cells as the released guide's own fill.sh prints them over the translation 96a5fdc793bfad53… (all of the seat's roots in one cut). By AI agents, Wed Nov 11 2026. No macro, syntax, notation, axiom, sorry.
-/
import Derived.Test.YtcjlfdpfckicjaaChecked
import GoSem.Claim
import GoSem.ClaimJoined
import GoSem.ClaimMapViews
import Derived.JoinedTies
import Derived.KernelRfl
namespace Go.Proofs.Ytcjlfdpfckicjaa
/- THE CELL 'sum', in the pinned program and in every row, IS THE sha256 OF THE DUMP (.gsa) THAT YtcjlfdpfckicjaaProg.lean LOADS. Nothing in Lean hashes anything: it is a label: what it is worth is what the hold of that sum in a sandbox is worth. -/
noncomputable def Try.pinned : Pinned := { name := "ytcjlfdpfckicjaa", sum := "96a5fdc793bfad531e7ec2745c30edf13f2040d5e9c16d373bc862e0c52a8626", checked := Try.checked }
namespace Rows
def none {H : Type} : Left H := { results := [], args := [] }

/-- 'laws.FnExactMapInput': WHATEVER THE INPUT: true; the input reads as it did. -/
def fnExactMapInputSpec : ChangeSpec := { name := "fnExactMapInput", fn := fun _ => fun
  | [d1, d2, d3, d4] => { results := [.lit (.bool true)], args := [d1, d2, d3, d4] }
  | _ => none }
def fnExactMapInputRow : OpenClaim := { program := "ytcjlfdpfckicjaa", sum := "96a5fdc793bfad531e7ec2745c30edf13f2040d5e9c16d373bc862e0c52a8626", func := "loop.example/g03403/laws.FnExactMapInput", spec := "fnExactMapInput", unfollowed := true, recurses := true, apart := false }
def FnExactMapInputSaid : Prop := fnExactMapInputRow.holds Try.pinned (OpenSpec.ofChange fnExactMapInputSpec)

/-- ITS FALSE NEIGHBOUR: 'it returns false'. Refute it at one input. -/
def fnExactMapInputWrong : ChangeSpec := { name := "fnExactMapInput", fn := fun _ => fun
  | [d1, d2, d3, d4] => { results := [.lit (.bool false)], args := [d1, d2, d3, d4] }
  | _ => none }
def FnExactMapInputWrongFalsely : Prop := fnExactMapInputRow.holds Try.pinned (OpenSpec.ofChange fnExactMapInputWrong)

/-- 'laws.FnExactIsUnate': WHATEVER THE INPUT: true; the input reads as it did. -/
def fnExactIsUnateSpec : ChangeSpec := { name := "fnExactIsUnate", fn := fun _ => fun
  | [d] => { results := [.lit (.bool true)], args := [d] }
  | _ => none }
def fnExactIsUnateRow : OpenClaim := { program := "ytcjlfdpfckicjaa", sum := "96a5fdc793bfad531e7ec2745c30edf13f2040d5e9c16d373bc862e0c52a8626", func := "loop.example/g03403/laws.FnExactIsUnate", spec := "fnExactIsUnate", unfollowed := true, recurses := true, apart := false }
def FnExactIsUnateSaid : Prop := fnExactIsUnateRow.holds Try.pinned (OpenSpec.ofChange fnExactIsUnateSpec)

/-- ITS FALSE NEIGHBOUR: 'it returns false'. Refute it at one input. -/
def fnExactIsUnateWrong : ChangeSpec := { name := "fnExactIsUnate", fn := fun _ => fun
  | [d] => { results := [.lit (.bool false)], args := [d] }
  | _ => none }
def FnExactIsUnateWrongFalsely : Prop := fnExactIsUnateRow.holds Try.pinned (OpenSpec.ofChange fnExactIsUnateWrong)

/-- 'laws.FnExactUnateShift': WHATEVER THE INPUT: true; the input reads as it did. -/
def fnExactUnateShiftSpec : ChangeSpec := { name := "fnExactUnateShift", fn := fun _ => fun
  | [d] => { results := [.lit (.bool true)], args := [d] }
  | _ => none }
def fnExactUnateShiftRow : OpenClaim := { program := "ytcjlfdpfckicjaa", sum := "96a5fdc793bfad531e7ec2745c30edf13f2040d5e9c16d373bc862e0c52a8626", func := "loop.example/g03403/laws.FnExactUnateShift", spec := "fnExactUnateShift", unfollowed := true, recurses := true, apart := false }
def FnExactUnateShiftSaid : Prop := fnExactUnateShiftRow.holds Try.pinned (OpenSpec.ofChange fnExactUnateShiftSpec)

/-- ITS FALSE NEIGHBOUR: 'it returns false'. Refute it at one input. -/
def fnExactUnateShiftWrong : ChangeSpec := { name := "fnExactUnateShift", fn := fun _ => fun
  | [d] => { results := [.lit (.bool false)], args := [d] }
  | _ => none }
def FnExactUnateShiftWrongFalsely : Prop := fnExactUnateShiftRow.holds Try.pinned (OpenSpec.ofChange fnExactUnateShiftWrong)

/-- 'laws.FnExactCountUnate': WHATEVER THE INPUT: true; the input reads as it did. -/
def fnExactCountUnateSpec : ChangeSpec := { name := "fnExactCountUnate", fn := fun _ => fun
  | [d] => { results := [.lit (.bool true)], args := [d] }
  | _ => none }
def fnExactCountUnateRow : OpenClaim := { program := "ytcjlfdpfckicjaa", sum := "96a5fdc793bfad531e7ec2745c30edf13f2040d5e9c16d373bc862e0c52a8626", func := "loop.example/g03403/laws.FnExactCountUnate", spec := "fnExactCountUnate", unfollowed := true, recurses := true, apart := false }
def FnExactCountUnateSaid : Prop := fnExactCountUnateRow.holds Try.pinned (OpenSpec.ofChange fnExactCountUnateSpec)

/-- ITS FALSE NEIGHBOUR: 'it returns false'. Refute it at one input. -/
def fnExactCountUnateWrong : ChangeSpec := { name := "fnExactCountUnate", fn := fun _ => fun
  | [d] => { results := [.lit (.bool false)], args := [d] }
  | _ => none }
def FnExactCountUnateWrongFalsely : Prop := fnExactCountUnateRow.holds Try.pinned (OpenSpec.ofChange fnExactCountUnateWrong)

/-- 'laws.FnExactOrientedTable': WHATEVER THE INPUT: true; the input reads as it did. -/
def fnExactOrientedTableSpec : ChangeSpec := { name := "fnExactOrientedTable", fn := fun _ => fun
  | [d] => { results := [.lit (.bool true)], args := [d] }
  | _ => none }
def fnExactOrientedTableRow : OpenClaim := { program := "ytcjlfdpfckicjaa", sum := "96a5fdc793bfad531e7ec2745c30edf13f2040d5e9c16d373bc862e0c52a8626", func := "loop.example/g03403/laws.FnExactOrientedTable", spec := "fnExactOrientedTable", unfollowed := true, recurses := true, apart := false }
def FnExactOrientedTableSaid : Prop := fnExactOrientedTableRow.holds Try.pinned (OpenSpec.ofChange fnExactOrientedTableSpec)

/-- ITS FALSE NEIGHBOUR: 'it returns false'. Refute it at one input. -/
def fnExactOrientedTableWrong : ChangeSpec := { name := "fnExactOrientedTable", fn := fun _ => fun
  | [d] => { results := [.lit (.bool false)], args := [d] }
  | _ => none }
def FnExactOrientedTableWrongFalsely : Prop := fnExactOrientedTableRow.holds Try.pinned (OpenSpec.ofChange fnExactOrientedTableWrong)

/-- 'laws.FnExactComposeMaps': WHATEVER THE INPUT: true; the input reads as it did. -/
def fnExactComposeMapsSpec : ChangeSpec := { name := "fnExactComposeMaps", fn := fun _ => fun
  | [d1, d2, d3] => { results := [.lit (.bool true)], args := [d1, d2, d3] }
  | _ => none }
def fnExactComposeMapsRow : OpenClaim := { program := "ytcjlfdpfckicjaa", sum := "96a5fdc793bfad531e7ec2745c30edf13f2040d5e9c16d373bc862e0c52a8626", func := "loop.example/g03403/laws.FnExactComposeMaps", spec := "fnExactComposeMaps", unfollowed := true, recurses := true, apart := false }
def FnExactComposeMapsSaid : Prop := fnExactComposeMapsRow.holds Try.pinned (OpenSpec.ofChange fnExactComposeMapsSpec)

/-- ITS FALSE NEIGHBOUR: 'it returns false'. Refute it at one input. -/
def fnExactComposeMapsWrong : ChangeSpec := { name := "fnExactComposeMaps", fn := fun _ => fun
  | [d1, d2, d3] => { results := [.lit (.bool false)], args := [d1, d2, d3] }
  | _ => none }
def FnExactComposeMapsWrongFalsely : Prop := fnExactComposeMapsRow.holds Try.pinned (OpenSpec.ofChange fnExactComposeMapsWrong)

/-- 'laws.FnExactInverseMap': WHATEVER THE INPUT: true; the input reads as it did. -/
def fnExactInverseMapSpec : ChangeSpec := { name := "fnExactInverseMap", fn := fun _ => fun
  | [d1, d2] => { results := [.lit (.bool true)], args := [d1, d2] }
  | _ => none }
def fnExactInverseMapRow : OpenClaim := { program := "ytcjlfdpfckicjaa", sum := "96a5fdc793bfad531e7ec2745c30edf13f2040d5e9c16d373bc862e0c52a8626", func := "loop.example/g03403/laws.FnExactInverseMap", spec := "fnExactInverseMap", unfollowed := true, recurses := true, apart := false }
def FnExactInverseMapSaid : Prop := fnExactInverseMapRow.holds Try.pinned (OpenSpec.ofChange fnExactInverseMapSpec)

/-- ITS FALSE NEIGHBOUR: 'it returns false'. Refute it at one input. -/
def fnExactInverseMapWrong : ChangeSpec := { name := "fnExactInverseMap", fn := fun _ => fun
  | [d1, d2] => { results := [.lit (.bool false)], args := [d1, d2] }
  | _ => none }
def FnExactInverseMapWrongFalsely : Prop := fnExactInverseMapRow.holds Try.pinned (OpenSpec.ofChange fnExactInverseMapWrong)

/-- 'laws.FnExactAffineImage': WHATEVER THE INPUT: true; the input reads as it did. -/
def fnExactAffineImageSpec : ChangeSpec := { name := "fnExactAffineImage", fn := fun _ => fun
  | [d1, d2, d3] => { results := [.lit (.bool true)], args := [d1, d2, d3] }
  | _ => none }
def fnExactAffineImageRow : OpenClaim := { program := "ytcjlfdpfckicjaa", sum := "96a5fdc793bfad531e7ec2745c30edf13f2040d5e9c16d373bc862e0c52a8626", func := "loop.example/g03403/laws.FnExactAffineImage", spec := "fnExactAffineImage", unfollowed := true, recurses := true, apart := false }
def FnExactAffineImageSaid : Prop := fnExactAffineImageRow.holds Try.pinned (OpenSpec.ofChange fnExactAffineImageSpec)

/-- ITS FALSE NEIGHBOUR: 'it returns false'. Refute it at one input. -/
def fnExactAffineImageWrong : ChangeSpec := { name := "fnExactAffineImage", fn := fun _ => fun
  | [d1, d2, d3] => { results := [.lit (.bool false)], args := [d1, d2, d3] }
  | _ => none }
def FnExactAffineImageWrongFalsely : Prop := fnExactAffineImageRow.holds Try.pinned (OpenSpec.ofChange fnExactAffineImageWrong)

/-- 'laws.FnExactSpectrumProfile': WHATEVER THE INPUT: true; the input reads as it did. -/
def fnExactSpectrumProfileSpec : ChangeSpec := { name := "fnExactSpectrumProfile", fn := fun _ => fun
  | [d] => { results := [.lit (.bool true)], args := [d] }
  | _ => none }
def fnExactSpectrumProfileRow : OpenClaim := { program := "ytcjlfdpfckicjaa", sum := "96a5fdc793bfad531e7ec2745c30edf13f2040d5e9c16d373bc862e0c52a8626", func := "loop.example/g03403/laws.FnExactSpectrumProfile", spec := "fnExactSpectrumProfile", apart := false }
def FnExactSpectrumProfileSaid : Prop := fnExactSpectrumProfileRow.holds Try.pinned (OpenSpec.ofChange fnExactSpectrumProfileSpec)

/-- ITS FALSE NEIGHBOUR: 'it returns false'. Refute it at one input. -/
def fnExactSpectrumProfileWrong : ChangeSpec := { name := "fnExactSpectrumProfile", fn := fun _ => fun
  | [d] => { results := [.lit (.bool false)], args := [d] }
  | _ => none }
def FnExactSpectrumProfileWrongFalsely : Prop := fnExactSpectrumProfileRow.holds Try.pinned (OpenSpec.ofChange fnExactSpectrumProfileWrong)

/-- 'laws.FnExactTableBound': WHATEVER THE INPUT: true; the input reads as it did. -/
def fnExactTableBoundSpec : ChangeSpec := { name := "fnExactTableBound", fn := fun _ => fun
  | [d] => { results := [.lit (.bool true)], args := [d] }
  | _ => none }
def fnExactTableBoundRow : OpenClaim := { program := "ytcjlfdpfckicjaa", sum := "96a5fdc793bfad531e7ec2745c30edf13f2040d5e9c16d373bc862e0c52a8626", func := "loop.example/g03403/laws.FnExactTableBound", spec := "fnExactTableBound", apart := false }
def FnExactTableBoundSaid : Prop := fnExactTableBoundRow.holds Try.pinned (OpenSpec.ofChange fnExactTableBoundSpec)

/-- ITS FALSE NEIGHBOUR: 'it returns false'. Refute it at one input. -/
def fnExactTableBoundWrong : ChangeSpec := { name := "fnExactTableBound", fn := fun _ => fun
  | [d] => { results := [.lit (.bool false)], args := [d] }
  | _ => none }
def FnExactTableBoundWrongFalsely : Prop := fnExactTableBoundRow.holds Try.pinned (OpenSpec.ofChange fnExactTableBoundWrong)

/-- 'laws.FnExactBestPair': WHATEVER THE INPUT: true; the input reads as it did. -/
def fnExactBestPairSpec : ChangeSpec := { name := "fnExactBestPair", fn := fun _ => fun
  | [d] => { results := [.lit (.bool true)], args := [d] }
  | _ => none }
def fnExactBestPairRow : OpenClaim := { program := "ytcjlfdpfckicjaa", sum := "96a5fdc793bfad531e7ec2745c30edf13f2040d5e9c16d373bc862e0c52a8626", func := "loop.example/g03403/laws.FnExactBestPair", spec := "fnExactBestPair", apart := false }
def FnExactBestPairSaid : Prop := fnExactBestPairRow.holds Try.pinned (OpenSpec.ofChange fnExactBestPairSpec)

/-- ITS FALSE NEIGHBOUR: 'it returns false'. Refute it at one input. -/
def fnExactBestPairWrong : ChangeSpec := { name := "fnExactBestPair", fn := fun _ => fun
  | [d] => { results := [.lit (.bool false)], args := [d] }
  | _ => none }
def FnExactBestPairWrongFalsely : Prop := fnExactBestPairRow.holds Try.pinned (OpenSpec.ofChange fnExactBestPairWrong)

/-- 'laws.FnExactSamplesOf': WHATEVER THE INPUT: true; the input reads as it did. -/
def fnExactSamplesOfSpec : ChangeSpec := { name := "fnExactSamplesOf", fn := fun _ => fun
  | [d1, d2] => { results := [.lit (.bool true)], args := [d1, d2] }
  | _ => none }
def fnExactSamplesOfRow : OpenClaim := { program := "ytcjlfdpfckicjaa", sum := "96a5fdc793bfad531e7ec2745c30edf13f2040d5e9c16d373bc862e0c52a8626", func := "loop.example/g03403/laws.FnExactSamplesOf", spec := "fnExactSamplesOf", apart := false }
def FnExactSamplesOfSaid : Prop := fnExactSamplesOfRow.holds Try.pinned (OpenSpec.ofChange fnExactSamplesOfSpec)

/-- ITS FALSE NEIGHBOUR: 'it returns false'. Refute it at one input. -/
def fnExactSamplesOfWrong : ChangeSpec := { name := "fnExactSamplesOf", fn := fun _ => fun
  | [d1, d2] => { results := [.lit (.bool false)], args := [d1, d2] }
  | _ => none }
def FnExactSamplesOfWrongFalsely : Prop := fnExactSamplesOfRow.holds Try.pinned (OpenSpec.ofChange fnExactSamplesOfWrong)

/- THE SECOND FORM. 'bulk': how many values and letters a reading holds, each counted each time it is reached (what is shared counts as often as it is met; a slice's spare places count too). A statement '..UptoSaid' is the law's where the arguments, and the package variables that the reading takes, are together of bulk at most 1048576: NARROWER than '..Said'. Prove '..Said' where nothing that the law and all that it calls make is longer than what came in: it says more and counts as full. Else prove '..UptoSaid'. A law counts once. -/
mutual
def uptoBulk {H : Type} : DataW H → Nat
  | .lit (.string bytes) => bytes.length + 1
  | .lit _ => 1
  | .nil => 1
  | .ptr d => uptoBulk d + 1
  | .slice elems spare => uptoBulkAll elems + uptoBulkAll spare + 1
  | .agg parts => uptoBulkAll parts + 1
  | .iface _ d => uptoBulk d + 1
  | .map entries => uptoBulkEntries entries + 1
  | .held _ => 1
def uptoBulkAll {H : Type} : List (DataW H) → Nat
  | [] => 0
  | d :: r => uptoBulk d + uptoBulkAll r
def uptoBulkEntries {H : Type} : List (Lit × DataW H) → Nat
  | [] => 0
  | x :: r => uptoBulkEntry x + uptoBulkEntries r
def uptoBulkEntry {H : Type} : Lit × DataW H → Nat
  | (.string bytes, d) => bytes.length + uptoBulk d + 1
  | (_, d) => uptoBulk d + 1
 end
def uptoSmall : (H : Type) → List (DataW H) → Bool := fun _ ds => decide (uptoBulkAll ds ≤ 1048576)
def OpenSpec.upto (s : _root_.Go.ChangeSpec) : _root_.Go.OpenSpec := { _root_.Go.OpenSpec.ofChange s with cond := some uptoSmall }

/-- 'laws.FnExactMapInput', WHERE WHAT IT READS IS OF BULK AT MOST 1048576: true; the input reads as it did. -/
def fnExactMapInputUptoRow : OpenClaim := { program := "ytcjlfdpfckicjaa", sum := "96a5fdc793bfad531e7ec2745c30edf13f2040d5e9c16d373bc862e0c52a8626", func := "loop.example/g03403/laws.FnExactMapInput", spec := "fnExactMapInput", unfollowed := true, recurses := true, apart := false, narrowed := true }
def FnExactMapInputUptoSaid : Prop := fnExactMapInputUptoRow.holds Try.pinned (OpenSpec.upto fnExactMapInputSpec)

/-- 'laws.FnExactIsUnate', WHERE WHAT IT READS IS OF BULK AT MOST 1048576: true; the input reads as it did. -/
def fnExactIsUnateUptoRow : OpenClaim := { program := "ytcjlfdpfckicjaa", sum := "96a5fdc793bfad531e7ec2745c30edf13f2040d5e9c16d373bc862e0c52a8626", func := "loop.example/g03403/laws.FnExactIsUnate", spec := "fnExactIsUnate", unfollowed := true, recurses := true, apart := false, narrowed := true }
def FnExactIsUnateUptoSaid : Prop := fnExactIsUnateUptoRow.holds Try.pinned (OpenSpec.upto fnExactIsUnateSpec)

/-- 'laws.FnExactUnateShift', WHERE WHAT IT READS IS OF BULK AT MOST 1048576: true; the input reads as it did. -/
def fnExactUnateShiftUptoRow : OpenClaim := { program := "ytcjlfdpfckicjaa", sum := "96a5fdc793bfad531e7ec2745c30edf13f2040d5e9c16d373bc862e0c52a8626", func := "loop.example/g03403/laws.FnExactUnateShift", spec := "fnExactUnateShift", unfollowed := true, recurses := true, apart := false, narrowed := true }
def FnExactUnateShiftUptoSaid : Prop := fnExactUnateShiftUptoRow.holds Try.pinned (OpenSpec.upto fnExactUnateShiftSpec)

/-- 'laws.FnExactCountUnate', WHERE WHAT IT READS IS OF BULK AT MOST 1048576: true; the input reads as it did. -/
def fnExactCountUnateUptoRow : OpenClaim := { program := "ytcjlfdpfckicjaa", sum := "96a5fdc793bfad531e7ec2745c30edf13f2040d5e9c16d373bc862e0c52a8626", func := "loop.example/g03403/laws.FnExactCountUnate", spec := "fnExactCountUnate", unfollowed := true, recurses := true, apart := false, narrowed := true }
def FnExactCountUnateUptoSaid : Prop := fnExactCountUnateUptoRow.holds Try.pinned (OpenSpec.upto fnExactCountUnateSpec)

/-- 'laws.FnExactOrientedTable', WHERE WHAT IT READS IS OF BULK AT MOST 1048576: true; the input reads as it did. -/
def fnExactOrientedTableUptoRow : OpenClaim := { program := "ytcjlfdpfckicjaa", sum := "96a5fdc793bfad531e7ec2745c30edf13f2040d5e9c16d373bc862e0c52a8626", func := "loop.example/g03403/laws.FnExactOrientedTable", spec := "fnExactOrientedTable", unfollowed := true, recurses := true, apart := false, narrowed := true }
def FnExactOrientedTableUptoSaid : Prop := fnExactOrientedTableUptoRow.holds Try.pinned (OpenSpec.upto fnExactOrientedTableSpec)

/-- 'laws.FnExactComposeMaps', WHERE WHAT IT READS IS OF BULK AT MOST 1048576: true; the input reads as it did. -/
def fnExactComposeMapsUptoRow : OpenClaim := { program := "ytcjlfdpfckicjaa", sum := "96a5fdc793bfad531e7ec2745c30edf13f2040d5e9c16d373bc862e0c52a8626", func := "loop.example/g03403/laws.FnExactComposeMaps", spec := "fnExactComposeMaps", unfollowed := true, recurses := true, apart := false, narrowed := true }
def FnExactComposeMapsUptoSaid : Prop := fnExactComposeMapsUptoRow.holds Try.pinned (OpenSpec.upto fnExactComposeMapsSpec)

/-- 'laws.FnExactInverseMap', WHERE WHAT IT READS IS OF BULK AT MOST 1048576: true; the input reads as it did. -/
def fnExactInverseMapUptoRow : OpenClaim := { program := "ytcjlfdpfckicjaa", sum := "96a5fdc793bfad531e7ec2745c30edf13f2040d5e9c16d373bc862e0c52a8626", func := "loop.example/g03403/laws.FnExactInverseMap", spec := "fnExactInverseMap", unfollowed := true, recurses := true, apart := false, narrowed := true }
def FnExactInverseMapUptoSaid : Prop := fnExactInverseMapUptoRow.holds Try.pinned (OpenSpec.upto fnExactInverseMapSpec)

/-- 'laws.FnExactAffineImage', WHERE WHAT IT READS IS OF BULK AT MOST 1048576: true; the input reads as it did. -/
def fnExactAffineImageUptoRow : OpenClaim := { program := "ytcjlfdpfckicjaa", sum := "96a5fdc793bfad531e7ec2745c30edf13f2040d5e9c16d373bc862e0c52a8626", func := "loop.example/g03403/laws.FnExactAffineImage", spec := "fnExactAffineImage", unfollowed := true, recurses := true, apart := false, narrowed := true }
def FnExactAffineImageUptoSaid : Prop := fnExactAffineImageUptoRow.holds Try.pinned (OpenSpec.upto fnExactAffineImageSpec)

/-- 'laws.FnExactSpectrumProfile', WHERE WHAT IT READS IS OF BULK AT MOST 1048576: true; the input reads as it did. -/
def fnExactSpectrumProfileUptoRow : OpenClaim := { program := "ytcjlfdpfckicjaa", sum := "96a5fdc793bfad531e7ec2745c30edf13f2040d5e9c16d373bc862e0c52a8626", func := "loop.example/g03403/laws.FnExactSpectrumProfile", spec := "fnExactSpectrumProfile", apart := false, narrowed := true }
def FnExactSpectrumProfileUptoSaid : Prop := fnExactSpectrumProfileUptoRow.holds Try.pinned (OpenSpec.upto fnExactSpectrumProfileSpec)

/-- 'laws.FnExactTableBound', WHERE WHAT IT READS IS OF BULK AT MOST 1048576: true; the input reads as it did. -/
def fnExactTableBoundUptoRow : OpenClaim := { program := "ytcjlfdpfckicjaa", sum := "96a5fdc793bfad531e7ec2745c30edf13f2040d5e9c16d373bc862e0c52a8626", func := "loop.example/g03403/laws.FnExactTableBound", spec := "fnExactTableBound", apart := false, narrowed := true }
def FnExactTableBoundUptoSaid : Prop := fnExactTableBoundUptoRow.holds Try.pinned (OpenSpec.upto fnExactTableBoundSpec)

/-- 'laws.FnExactBestPair', WHERE WHAT IT READS IS OF BULK AT MOST 1048576: true; the input reads as it did. -/
def fnExactBestPairUptoRow : OpenClaim := { program := "ytcjlfdpfckicjaa", sum := "96a5fdc793bfad531e7ec2745c30edf13f2040d5e9c16d373bc862e0c52a8626", func := "loop.example/g03403/laws.FnExactBestPair", spec := "fnExactBestPair", apart := false, narrowed := true }
def FnExactBestPairUptoSaid : Prop := fnExactBestPairUptoRow.holds Try.pinned (OpenSpec.upto fnExactBestPairSpec)

/-- 'laws.FnExactSamplesOf', WHERE WHAT IT READS IS OF BULK AT MOST 1048576: true; the input reads as it did. -/
def fnExactSamplesOfUptoRow : OpenClaim := { program := "ytcjlfdpfckicjaa", sum := "96a5fdc793bfad531e7ec2745c30edf13f2040d5e9c16d373bc862e0c52a8626", func := "loop.example/g03403/laws.FnExactSamplesOf", spec := "fnExactSamplesOf", apart := false, narrowed := true }
def FnExactSamplesOfUptoSaid : Prop := fnExactSamplesOfUptoRow.holds Try.pinned (OpenSpec.upto fnExactSamplesOfSpec)

end Rows
end Go.Proofs.Ytcjlfdpfckicjaa
