/-
  No cell of these rows narrows 'for every input' (looked for: loops, veiled, ifaces, maps, wideKeys, modest, calm, conditions, laid).
  DERIVED. THE GIVEN ROWS OF THIS SEAT. 12 by the template 'for every input the law returns true; each argument reads behind the call as it read before'; 0 by the template 'total and deterministic' (their statements: YtdgbfpnjnfpjaaaTotals.lean).
  GIVEN WITH THE SEED: the statements are not yours to turn. If you find one false, say at which input.
  Laid BY PROGRAM, IN A SANDBOX (cutbox-rows.mjs): the forced cells as the released guide's own fill.sh prints them over the translation db01c97e23b0f79c… (all of the seat's roots in one cut). By AI agents, Wed Nov 11 2026. No macro, syntax, notation, axiom, sorry.
-/
import Derived.Test.YtdgbfpnjnfpjaaaChecked
import GoSem.Claim
import GoSem.ClaimJoined
import GoSem.ClaimMapViews
import Derived.JoinedTies
import Derived.KernelRfl
namespace Go.Proofs.Ytdgbfpnjnfpjaaa
/- THE CELL 'sum', in the pinned program and in every row, IS THE sha256 OF THE DUMP (.gsa) THAT YtdgbfpnjnfpjaaaProg.lean LOADS. Nothing in Lean hashes anything: it is a label: what it is worth is what the hold of that sum in a sandbox is worth. -/
noncomputable def Try.pinned : Pinned := { name := "ytdgbfpnjnfpjaaa", sum := "db01c97e23b0f79c7fddb120ac86006a2ee372c88018d8b4a3bac642c2fec54c", checked := Try.checked }
namespace Rows
def none {H : Type} : Left H := { results := [], args := [] }

/-- 'laws.FnExactIsInvertible': WHATEVER THE INPUT: true; the input reads as it did. -/
def fnExactIsInvertibleSpec : ChangeSpec := { name := "fnExactIsInvertible", fn := fun _ => fun
  | [d1, d2] => { results := [.lit (.bool true)], args := [d1, d2] }
  | _ => none }
def fnExactIsInvertibleRow : OpenClaim := { program := "ytdgbfpnjnfpjaaa", sum := "db01c97e23b0f79c7fddb120ac86006a2ee372c88018d8b4a3bac642c2fec54c", func := "loop.example/g03403/laws.FnExactIsInvertible", spec := "fnExactIsInvertible", unfollowed := true, recurses := true, apart := false }
def FnExactIsInvertibleSaid : Prop := fnExactIsInvertibleRow.holds Try.pinned (OpenSpec.ofChange fnExactIsInvertibleSpec)

/-- ITS FALSE NEIGHBOUR: 'it returns false'. Refute it at one input. -/
def fnExactIsInvertibleWrong : ChangeSpec := { name := "fnExactIsInvertible", fn := fun _ => fun
  | [d1, d2] => { results := [.lit (.bool false)], args := [d1, d2] }
  | _ => none }
def FnExactIsInvertibleWrongFalsely : Prop := fnExactIsInvertibleRow.holds Try.pinned (OpenSpec.ofChange fnExactIsInvertibleWrong)

/-- 'laws.FnExactMapInput': WHATEVER THE INPUT: true; the input reads as it did. -/
def fnExactMapInputSpec : ChangeSpec := { name := "fnExactMapInput", fn := fun _ => fun
  | [d1, d2, d3, d4] => { results := [.lit (.bool true)], args := [d1, d2, d3, d4] }
  | _ => none }
def fnExactMapInputRow : OpenClaim := { program := "ytdgbfpnjnfpjaaa", sum := "db01c97e23b0f79c7fddb120ac86006a2ee372c88018d8b4a3bac642c2fec54c", func := "loop.example/g03403/laws.FnExactMapInput", spec := "fnExactMapInput", unfollowed := true, recurses := true, apart := false }
def FnExactMapInputSaid : Prop := fnExactMapInputRow.holds Try.pinned (OpenSpec.ofChange fnExactMapInputSpec)

/-- ITS FALSE NEIGHBOUR: 'it returns false'. Refute it at one input. -/
def fnExactMapInputWrong : ChangeSpec := { name := "fnExactMapInput", fn := fun _ => fun
  | [d1, d2, d3, d4] => { results := [.lit (.bool false)], args := [d1, d2, d3, d4] }
  | _ => none }
def FnExactMapInputWrongFalsely : Prop := fnExactMapInputRow.holds Try.pinned (OpenSpec.ofChange fnExactMapInputWrong)

/-- 'laws.FnExactComposeMaps': WHATEVER THE INPUT: true; the input reads as it did. -/
def fnExactComposeMapsSpec : ChangeSpec := { name := "fnExactComposeMaps", fn := fun _ => fun
  | [d1, d2, d3] => { results := [.lit (.bool true)], args := [d1, d2, d3] }
  | _ => none }
def fnExactComposeMapsRow : OpenClaim := { program := "ytdgbfpnjnfpjaaa", sum := "db01c97e23b0f79c7fddb120ac86006a2ee372c88018d8b4a3bac642c2fec54c", func := "loop.example/g03403/laws.FnExactComposeMaps", spec := "fnExactComposeMaps", unfollowed := true, recurses := true, apart := false }
def FnExactComposeMapsSaid : Prop := fnExactComposeMapsRow.holds Try.pinned (OpenSpec.ofChange fnExactComposeMapsSpec)

/-- ITS FALSE NEIGHBOUR: 'it returns false'. Refute it at one input. -/
def fnExactComposeMapsWrong : ChangeSpec := { name := "fnExactComposeMaps", fn := fun _ => fun
  | [d1, d2, d3] => { results := [.lit (.bool false)], args := [d1, d2, d3] }
  | _ => none }
def FnExactComposeMapsWrongFalsely : Prop := fnExactComposeMapsRow.holds Try.pinned (OpenSpec.ofChange fnExactComposeMapsWrong)

/-- 'laws.FnExactInverseMap': WHATEVER THE INPUT: true; the input reads as it did. -/
def fnExactInverseMapSpec : ChangeSpec := { name := "fnExactInverseMap", fn := fun _ => fun
  | [d1, d2] => { results := [.lit (.bool true)], args := [d1, d2] }
  | _ => none }
def fnExactInverseMapRow : OpenClaim := { program := "ytdgbfpnjnfpjaaa", sum := "db01c97e23b0f79c7fddb120ac86006a2ee372c88018d8b4a3bac642c2fec54c", func := "loop.example/g03403/laws.FnExactInverseMap", spec := "fnExactInverseMap", unfollowed := true, recurses := true, apart := false }
def FnExactInverseMapSaid : Prop := fnExactInverseMapRow.holds Try.pinned (OpenSpec.ofChange fnExactInverseMapSpec)

/-- ITS FALSE NEIGHBOUR: 'it returns false'. Refute it at one input. -/
def fnExactInverseMapWrong : ChangeSpec := { name := "fnExactInverseMap", fn := fun _ => fun
  | [d1, d2] => { results := [.lit (.bool false)], args := [d1, d2] }
  | _ => none }
def FnExactInverseMapWrongFalsely : Prop := fnExactInverseMapRow.holds Try.pinned (OpenSpec.ofChange fnExactInverseMapWrong)

/-- 'laws.FnExactAffineImage': WHATEVER THE INPUT: true; the input reads as it did. -/
def fnExactAffineImageSpec : ChangeSpec := { name := "fnExactAffineImage", fn := fun _ => fun
  | [d1, d2, d3] => { results := [.lit (.bool true)], args := [d1, d2, d3] }
  | _ => none }
def fnExactAffineImageRow : OpenClaim := { program := "ytdgbfpnjnfpjaaa", sum := "db01c97e23b0f79c7fddb120ac86006a2ee372c88018d8b4a3bac642c2fec54c", func := "loop.example/g03403/laws.FnExactAffineImage", spec := "fnExactAffineImage", unfollowed := true, recurses := true, apart := false }
def FnExactAffineImageSaid : Prop := fnExactAffineImageRow.holds Try.pinned (OpenSpec.ofChange fnExactAffineImageSpec)

/-- ITS FALSE NEIGHBOUR: 'it returns false'. Refute it at one input. -/
def fnExactAffineImageWrong : ChangeSpec := { name := "fnExactAffineImage", fn := fun _ => fun
  | [d1, d2, d3] => { results := [.lit (.bool false)], args := [d1, d2, d3] }
  | _ => none }
def FnExactAffineImageWrongFalsely : Prop := fnExactAffineImageRow.holds Try.pinned (OpenSpec.ofChange fnExactAffineImageWrong)

/-- 'laws.FnExactCountUnate': WHATEVER THE INPUT: true; the input reads as it did. -/
def fnExactCountUnateSpec : ChangeSpec := { name := "fnExactCountUnate", fn := fun _ => fun
  | [d] => { results := [.lit (.bool true)], args := [d] }
  | _ => none }
def fnExactCountUnateRow : OpenClaim := { program := "ytdgbfpnjnfpjaaa", sum := "db01c97e23b0f79c7fddb120ac86006a2ee372c88018d8b4a3bac642c2fec54c", func := "loop.example/g03403/laws.FnExactCountUnate", spec := "fnExactCountUnate", unfollowed := true, recurses := true, apart := false }
def FnExactCountUnateSaid : Prop := fnExactCountUnateRow.holds Try.pinned (OpenSpec.ofChange fnExactCountUnateSpec)

/-- ITS FALSE NEIGHBOUR: 'it returns false'. Refute it at one input. -/
def fnExactCountUnateWrong : ChangeSpec := { name := "fnExactCountUnate", fn := fun _ => fun
  | [d] => { results := [.lit (.bool false)], args := [d] }
  | _ => none }
def FnExactCountUnateWrongFalsely : Prop := fnExactCountUnateRow.holds Try.pinned (OpenSpec.ofChange fnExactCountUnateWrong)

/-- 'laws.FnExactSamplesOf': WHATEVER THE INPUT: true; the input reads as it did. -/
def fnExactSamplesOfSpec : ChangeSpec := { name := "fnExactSamplesOf", fn := fun _ => fun
  | [d1, d2] => { results := [.lit (.bool true)], args := [d1, d2] }
  | _ => none }
def fnExactSamplesOfRow : OpenClaim := { program := "ytdgbfpnjnfpjaaa", sum := "db01c97e23b0f79c7fddb120ac86006a2ee372c88018d8b4a3bac642c2fec54c", func := "loop.example/g03403/laws.FnExactSamplesOf", spec := "fnExactSamplesOf", apart := false }
def FnExactSamplesOfSaid : Prop := fnExactSamplesOfRow.holds Try.pinned (OpenSpec.ofChange fnExactSamplesOfSpec)

/-- ITS FALSE NEIGHBOUR: 'it returns false'. Refute it at one input. -/
def fnExactSamplesOfWrong : ChangeSpec := { name := "fnExactSamplesOf", fn := fun _ => fun
  | [d1, d2] => { results := [.lit (.bool false)], args := [d1, d2] }
  | _ => none }
def FnExactSamplesOfWrongFalsely : Prop := fnExactSamplesOfRow.holds Try.pinned (OpenSpec.ofChange fnExactSamplesOfWrong)

/-- 'laws.FnExactSpectrumProfile': WHATEVER THE INPUT: true; the input reads as it did. -/
def fnExactSpectrumProfileSpec : ChangeSpec := { name := "fnExactSpectrumProfile", fn := fun _ => fun
  | [d] => { results := [.lit (.bool true)], args := [d] }
  | _ => none }
def fnExactSpectrumProfileRow : OpenClaim := { program := "ytdgbfpnjnfpjaaa", sum := "db01c97e23b0f79c7fddb120ac86006a2ee372c88018d8b4a3bac642c2fec54c", func := "loop.example/g03403/laws.FnExactSpectrumProfile", spec := "fnExactSpectrumProfile", apart := false }
def FnExactSpectrumProfileSaid : Prop := fnExactSpectrumProfileRow.holds Try.pinned (OpenSpec.ofChange fnExactSpectrumProfileSpec)

/-- ITS FALSE NEIGHBOUR: 'it returns false'. Refute it at one input. -/
def fnExactSpectrumProfileWrong : ChangeSpec := { name := "fnExactSpectrumProfile", fn := fun _ => fun
  | [d] => { results := [.lit (.bool false)], args := [d] }
  | _ => none }
def FnExactSpectrumProfileWrongFalsely : Prop := fnExactSpectrumProfileRow.holds Try.pinned (OpenSpec.ofChange fnExactSpectrumProfileWrong)

/-- 'laws.FnExactLeavesOf': WHATEVER THE INPUT: true; the input reads as it did. -/
def fnExactLeavesOfSpec : ChangeSpec := { name := "fnExactLeavesOf", fn := fun _ => fun
  | [d] => { results := [.lit (.bool true)], args := [d] }
  | _ => none }
def fnExactLeavesOfRow : OpenClaim := { program := "ytdgbfpnjnfpjaaa", sum := "db01c97e23b0f79c7fddb120ac86006a2ee372c88018d8b4a3bac642c2fec54c", func := "loop.example/g03403/laws.FnExactLeavesOf", spec := "fnExactLeavesOf", recurses := true, apart := false }
def FnExactLeavesOfSaid : Prop := fnExactLeavesOfRow.holds Try.pinned (OpenSpec.ofChange fnExactLeavesOfSpec)

/-- ITS FALSE NEIGHBOUR: 'it returns false'. Refute it at one input. -/
def fnExactLeavesOfWrong : ChangeSpec := { name := "fnExactLeavesOf", fn := fun _ => fun
  | [d] => { results := [.lit (.bool false)], args := [d] }
  | _ => none }
def FnExactLeavesOfWrongFalsely : Prop := fnExactLeavesOfRow.holds Try.pinned (OpenSpec.ofChange fnExactLeavesOfWrong)

/-- 'laws.FnExactDepthOf': WHATEVER THE INPUT: true; the input reads as it did. -/
def fnExactDepthOfSpec : ChangeSpec := { name := "fnExactDepthOf", fn := fun _ => fun
  | [d] => { results := [.lit (.bool true)], args := [d] }
  | _ => none }
def fnExactDepthOfRow : OpenClaim := { program := "ytdgbfpnjnfpjaaa", sum := "db01c97e23b0f79c7fddb120ac86006a2ee372c88018d8b4a3bac642c2fec54c", func := "loop.example/g03403/laws.FnExactDepthOf", spec := "fnExactDepthOf", recurses := true, apart := false }
def FnExactDepthOfSaid : Prop := fnExactDepthOfRow.holds Try.pinned (OpenSpec.ofChange fnExactDepthOfSpec)

/-- ITS FALSE NEIGHBOUR: 'it returns false'. Refute it at one input. -/
def fnExactDepthOfWrong : ChangeSpec := { name := "fnExactDepthOf", fn := fun _ => fun
  | [d] => { results := [.lit (.bool false)], args := [d] }
  | _ => none }
def FnExactDepthOfWrongFalsely : Prop := fnExactDepthOfRow.holds Try.pinned (OpenSpec.ofChange fnExactDepthOfWrong)

/-- 'laws.FnExactDepthOfTree': WHATEVER THE INPUT: true; the input reads as it did. -/
def fnExactDepthOfTreeSpec : ChangeSpec := { name := "fnExactDepthOfTree", fn := fun _ => fun
  | [d] => { results := [.lit (.bool true)], args := [d] }
  | _ => none }
def fnExactDepthOfTreeRow : OpenClaim := { program := "ytdgbfpnjnfpjaaa", sum := "db01c97e23b0f79c7fddb120ac86006a2ee372c88018d8b4a3bac642c2fec54c", func := "loop.example/g03403/laws.FnExactDepthOfTree", spec := "fnExactDepthOfTree", recurses := true, apart := false }
def FnExactDepthOfTreeSaid : Prop := fnExactDepthOfTreeRow.holds Try.pinned (OpenSpec.ofChange fnExactDepthOfTreeSpec)

/-- ITS FALSE NEIGHBOUR: 'it returns false'. Refute it at one input. -/
def fnExactDepthOfTreeWrong : ChangeSpec := { name := "fnExactDepthOfTree", fn := fun _ => fun
  | [d] => { results := [.lit (.bool false)], args := [d] }
  | _ => none }
def FnExactDepthOfTreeWrongFalsely : Prop := fnExactDepthOfTreeRow.holds Try.pinned (OpenSpec.ofChange fnExactDepthOfTreeWrong)

/-- 'laws.FnExactDepthOfProtocol': WHATEVER THE INPUT: true; the input reads as it did. -/
def fnExactDepthOfProtocolSpec : ChangeSpec := { name := "fnExactDepthOfProtocol", fn := fun _ => fun
  | [d] => { results := [.lit (.bool true)], args := [d] }
  | _ => none }
def fnExactDepthOfProtocolRow : OpenClaim := { program := "ytdgbfpnjnfpjaaa", sum := "db01c97e23b0f79c7fddb120ac86006a2ee372c88018d8b4a3bac642c2fec54c", func := "loop.example/g03403/laws.FnExactDepthOfProtocol", spec := "fnExactDepthOfProtocol", inPlace := ["internal/bytealg.IndexByteString"], recurses := true, apart := false }
def FnExactDepthOfProtocolSaid : Prop := fnExactDepthOfProtocolRow.holds Try.pinned (OpenSpec.ofChange fnExactDepthOfProtocolSpec)

/-- ITS FALSE NEIGHBOUR: 'it returns false'. Refute it at one input. -/
def fnExactDepthOfProtocolWrong : ChangeSpec := { name := "fnExactDepthOfProtocol", fn := fun _ => fun
  | [d] => { results := [.lit (.bool false)], args := [d] }
  | _ => none }
def FnExactDepthOfProtocolWrongFalsely : Prop := fnExactDepthOfProtocolRow.holds Try.pinned (OpenSpec.ofChange fnExactDepthOfProtocolWrong)

/- THE SECOND FORM. 'bulk': how many values and letters a reading holds, each counted each time it is reached (what is shared counts as often as it is met; a slice's spare places count too). A statement '..UptoSaid' is the law's where the arguments, and the package variables that the reading takes, are together of bulk at most 1048576: NARROWER than '..Said'. Prove '..Said' where nothing that the law and all that it calls make is longer than what came in: it says more and counts as full. Else prove '..UptoSaid'. A law counts once. -/
mutual
def uptoBulk {H : Type} : DataW H → Nat
  | .lit (.string bytes) => bytes.length + 1
  | .lit _ => 1
  | .nil => 1
  | .ptr d => uptoBulk d + 1
  | .slice elems spare => uptoBulkAll elems + uptoBulkAll spare + 1
  | .agg parts => uptoBulkAll parts + 1
  | .iface _ d => uptoBulk d + 1
  | .map entries => uptoBulkEntries entries + 1
  | .held _ => 1
def uptoBulkAll {H : Type} : List (DataW H) → Nat
  | [] => 0
  | d :: r => uptoBulk d + uptoBulkAll r
def uptoBulkEntries {H : Type} : List (Lit × DataW H) → Nat
  | [] => 0
  | x :: r => uptoBulkEntry x + uptoBulkEntries r
def uptoBulkEntry {H : Type} : Lit × DataW H → Nat
  | (.string bytes, d) => bytes.length + uptoBulk d + 1
  | (_, d) => uptoBulk d + 1
 end
def uptoSmall : (H : Type) → List (DataW H) → Bool := fun _ ds => decide (uptoBulkAll ds ≤ 1048576)
def OpenSpec.upto (s : _root_.Go.ChangeSpec) : _root_.Go.OpenSpec := { _root_.Go.OpenSpec.ofChange s with cond := some uptoSmall }

/-- 'laws.FnExactIsInvertible', WHERE WHAT IT READS IS OF BULK AT MOST 1048576: true; the input reads as it did. -/
def fnExactIsInvertibleUptoRow : OpenClaim := { program := "ytdgbfpnjnfpjaaa", sum := "db01c97e23b0f79c7fddb120ac86006a2ee372c88018d8b4a3bac642c2fec54c", func := "loop.example/g03403/laws.FnExactIsInvertible", spec := "fnExactIsInvertible", unfollowed := true, recurses := true, apart := false, narrowed := true }
def FnExactIsInvertibleUptoSaid : Prop := fnExactIsInvertibleUptoRow.holds Try.pinned (OpenSpec.upto fnExactIsInvertibleSpec)

/-- 'laws.FnExactMapInput', WHERE WHAT IT READS IS OF BULK AT MOST 1048576: true; the input reads as it did. -/
def fnExactMapInputUptoRow : OpenClaim := { program := "ytdgbfpnjnfpjaaa", sum := "db01c97e23b0f79c7fddb120ac86006a2ee372c88018d8b4a3bac642c2fec54c", func := "loop.example/g03403/laws.FnExactMapInput", spec := "fnExactMapInput", unfollowed := true, recurses := true, apart := false, narrowed := true }
def FnExactMapInputUptoSaid : Prop := fnExactMapInputUptoRow.holds Try.pinned (OpenSpec.upto fnExactMapInputSpec)

/-- 'laws.FnExactComposeMaps', WHERE WHAT IT READS IS OF BULK AT MOST 1048576: true; the input reads as it did. -/
def fnExactComposeMapsUptoRow : OpenClaim := { program := "ytdgbfpnjnfpjaaa", sum := "db01c97e23b0f79c7fddb120ac86006a2ee372c88018d8b4a3bac642c2fec54c", func := "loop.example/g03403/laws.FnExactComposeMaps", spec := "fnExactComposeMaps", unfollowed := true, recurses := true, apart := false, narrowed := true }
def FnExactComposeMapsUptoSaid : Prop := fnExactComposeMapsUptoRow.holds Try.pinned (OpenSpec.upto fnExactComposeMapsSpec)

/-- 'laws.FnExactInverseMap', WHERE WHAT IT READS IS OF BULK AT MOST 1048576: true; the input reads as it did. -/
def fnExactInverseMapUptoRow : OpenClaim := { program := "ytdgbfpnjnfpjaaa", sum := "db01c97e23b0f79c7fddb120ac86006a2ee372c88018d8b4a3bac642c2fec54c", func := "loop.example/g03403/laws.FnExactInverseMap", spec := "fnExactInverseMap", unfollowed := true, recurses := true, apart := false, narrowed := true }
def FnExactInverseMapUptoSaid : Prop := fnExactInverseMapUptoRow.holds Try.pinned (OpenSpec.upto fnExactInverseMapSpec)

/-- 'laws.FnExactAffineImage', WHERE WHAT IT READS IS OF BULK AT MOST 1048576: true; the input reads as it did. -/
def fnExactAffineImageUptoRow : OpenClaim := { program := "ytdgbfpnjnfpjaaa", sum := "db01c97e23b0f79c7fddb120ac86006a2ee372c88018d8b4a3bac642c2fec54c", func := "loop.example/g03403/laws.FnExactAffineImage", spec := "fnExactAffineImage", unfollowed := true, recurses := true, apart := false, narrowed := true }
def FnExactAffineImageUptoSaid : Prop := fnExactAffineImageUptoRow.holds Try.pinned (OpenSpec.upto fnExactAffineImageSpec)

/-- 'laws.FnExactCountUnate', WHERE WHAT IT READS IS OF BULK AT MOST 1048576: true; the input reads as it did. -/
def fnExactCountUnateUptoRow : OpenClaim := { program := "ytdgbfpnjnfpjaaa", sum := "db01c97e23b0f79c7fddb120ac86006a2ee372c88018d8b4a3bac642c2fec54c", func := "loop.example/g03403/laws.FnExactCountUnate", spec := "fnExactCountUnate", unfollowed := true, recurses := true, apart := false, narrowed := true }
def FnExactCountUnateUptoSaid : Prop := fnExactCountUnateUptoRow.holds Try.pinned (OpenSpec.upto fnExactCountUnateSpec)

/-- 'laws.FnExactSamplesOf', WHERE WHAT IT READS IS OF BULK AT MOST 1048576: true; the input reads as it did. -/
def fnExactSamplesOfUptoRow : OpenClaim := { program := "ytdgbfpnjnfpjaaa", sum := "db01c97e23b0f79c7fddb120ac86006a2ee372c88018d8b4a3bac642c2fec54c", func := "loop.example/g03403/laws.FnExactSamplesOf", spec := "fnExactSamplesOf", apart := false, narrowed := true }
def FnExactSamplesOfUptoSaid : Prop := fnExactSamplesOfUptoRow.holds Try.pinned (OpenSpec.upto fnExactSamplesOfSpec)

/-- 'laws.FnExactSpectrumProfile', WHERE WHAT IT READS IS OF BULK AT MOST 1048576: true; the input reads as it did. -/
def fnExactSpectrumProfileUptoRow : OpenClaim := { program := "ytdgbfpnjnfpjaaa", sum := "db01c97e23b0f79c7fddb120ac86006a2ee372c88018d8b4a3bac642c2fec54c", func := "loop.example/g03403/laws.FnExactSpectrumProfile", spec := "fnExactSpectrumProfile", apart := false, narrowed := true }
def FnExactSpectrumProfileUptoSaid : Prop := fnExactSpectrumProfileUptoRow.holds Try.pinned (OpenSpec.upto fnExactSpectrumProfileSpec)

/-- 'laws.FnExactLeavesOf', WHERE WHAT IT READS IS OF BULK AT MOST 1048576: true; the input reads as it did. -/
def fnExactLeavesOfUptoRow : OpenClaim := { program := "ytdgbfpnjnfpjaaa", sum := "db01c97e23b0f79c7fddb120ac86006a2ee372c88018d8b4a3bac642c2fec54c", func := "loop.example/g03403/laws.FnExactLeavesOf", spec := "fnExactLeavesOf", recurses := true, apart := false, narrowed := true }
def FnExactLeavesOfUptoSaid : Prop := fnExactLeavesOfUptoRow.holds Try.pinned (OpenSpec.upto fnExactLeavesOfSpec)

/-- 'laws.FnExactDepthOf', WHERE WHAT IT READS IS OF BULK AT MOST 1048576: true; the input reads as it did. -/
def fnExactDepthOfUptoRow : OpenClaim := { program := "ytdgbfpnjnfpjaaa", sum := "db01c97e23b0f79c7fddb120ac86006a2ee372c88018d8b4a3bac642c2fec54c", func := "loop.example/g03403/laws.FnExactDepthOf", spec := "fnExactDepthOf", recurses := true, apart := false, narrowed := true }
def FnExactDepthOfUptoSaid : Prop := fnExactDepthOfUptoRow.holds Try.pinned (OpenSpec.upto fnExactDepthOfSpec)

/-- 'laws.FnExactDepthOfTree', WHERE WHAT IT READS IS OF BULK AT MOST 1048576: true; the input reads as it did. -/
def fnExactDepthOfTreeUptoRow : OpenClaim := { program := "ytdgbfpnjnfpjaaa", sum := "db01c97e23b0f79c7fddb120ac86006a2ee372c88018d8b4a3bac642c2fec54c", func := "loop.example/g03403/laws.FnExactDepthOfTree", spec := "fnExactDepthOfTree", recurses := true, apart := false, narrowed := true }
def FnExactDepthOfTreeUptoSaid : Prop := fnExactDepthOfTreeUptoRow.holds Try.pinned (OpenSpec.upto fnExactDepthOfTreeSpec)

/-- 'laws.FnExactDepthOfProtocol', WHERE WHAT IT READS IS OF BULK AT MOST 1048576: true; the input reads as it did. -/
def fnExactDepthOfProtocolUptoRow : OpenClaim := { program := "ytdgbfpnjnfpjaaa", sum := "db01c97e23b0f79c7fddb120ac86006a2ee372c88018d8b4a3bac642c2fec54c", func := "loop.example/g03403/laws.FnExactDepthOfProtocol", spec := "fnExactDepthOfProtocol", inPlace := ["internal/bytealg.IndexByteString"], recurses := true, apart := false, narrowed := true }
def FnExactDepthOfProtocolUptoSaid : Prop := fnExactDepthOfProtocolUptoRow.holds Try.pinned (OpenSpec.upto fnExactDepthOfProtocolSpec)

end Rows
end Go.Proofs.Ytdgbfpnjnfpjaaa
