/-
  No cell of these rows narrows 'for every input' (looked for: loops, veiled, ifaces, maps, wideKeys, modest, calm, conditions, laid).
  DERIVED. THE GIVEN ROWS OF THIS SEAT. 11 by the template 'for every input the law returns true; each argument reads behind the call as it read before'; 0 by the template 'total and deterministic' (their statements: YteicafpjkbajaaaTotals.lean).
  GIVEN WITH THE SEED: the statements are not yours to turn. If you find one false, say at which input.
  Laid BY PROGRAM, IN A SANDBOX (cutbox-rows.mjs): the forced cells as the released guide's own fill.sh prints them over the translation 368b10be9cd686b5… (all of the seat's roots in one cut). By AI agents, Wed Nov 11 2026. No macro, syntax, notation, axiom, sorry.
-/
import Derived.Test.YteicafpjkbajaaaChecked
import GoSem.Claim
import GoSem.ClaimJoined
import GoSem.ClaimMapViews
import Derived.JoinedTies
import Derived.KernelRfl
namespace Go.Proofs.Yteicafpjkbajaaa
/- THE CELL 'sum', in the pinned program and in every row, IS THE sha256 OF THE DUMP (.gsa) THAT YteicafpjkbajaaaProg.lean LOADS. Nothing in Lean hashes anything: it is a label: what it is worth is what the hold of that sum in a sandbox is worth. -/
noncomputable def Try.pinned : Pinned := { name := "yteicafpjkbajaaa", sum := "368b10be9cd686b53cfa8d9de96ae44dc1576f7122a65e8d69646d72b1ecf5c9", checked := Try.checked }
namespace Rows
def none {H : Type} : Left H := { results := [], args := [] }

/-- 'laws.FnExactCountInvertible': WHATEVER THE INPUT: true; the input reads as it did. -/
def fnExactCountInvertibleSpec : ChangeSpec := { name := "fnExactCountInvertible", fn := fun _ => fun
  | [d] => { results := [.lit (.bool true)], args := [d] }
  | _ => none }
def fnExactCountInvertibleRow : OpenClaim := { program := "yteicafpjkbajaaa", sum := "368b10be9cd686b53cfa8d9de96ae44dc1576f7122a65e8d69646d72b1ecf5c9", func := "loop.example/g03403/laws.FnExactCountInvertible", spec := "fnExactCountInvertible", apart := false }
def FnExactCountInvertibleSaid : Prop := fnExactCountInvertibleRow.holds Try.pinned (OpenSpec.ofChange fnExactCountInvertibleSpec)

/-- ITS FALSE NEIGHBOUR: 'it returns false'. Refute it at one input. -/
def fnExactCountInvertibleWrong : ChangeSpec := { name := "fnExactCountInvertible", fn := fun _ => fun
  | [d] => { results := [.lit (.bool false)], args := [d] }
  | _ => none }
def FnExactCountInvertibleWrongFalsely : Prop := fnExactCountInvertibleRow.holds Try.pinned (OpenSpec.ofChange fnExactCountInvertibleWrong)

/-- 'laws.FnExactIsSeparated': WHATEVER THE INPUT: true; the input reads as it did. -/
def fnExactIsSeparatedSpec : ChangeSpec := { name := "fnExactIsSeparated", fn := fun _ => fun
  | [d1, d2, d3] => { results := [.lit (.bool true)], args := [d1, d2, d3] }
  | _ => none }
def fnExactIsSeparatedRow : OpenClaim := { program := "yteicafpjkbajaaa", sum := "368b10be9cd686b53cfa8d9de96ae44dc1576f7122a65e8d69646d72b1ecf5c9", func := "loop.example/g03403/laws.FnExactIsSeparated", spec := "fnExactIsSeparated", apart := false }
def FnExactIsSeparatedSaid : Prop := fnExactIsSeparatedRow.holds Try.pinned (OpenSpec.ofChange fnExactIsSeparatedSpec)

/-- ITS FALSE NEIGHBOUR: 'it returns false'. Refute it at one input. -/
def fnExactIsSeparatedWrong : ChangeSpec := { name := "fnExactIsSeparated", fn := fun _ => fun
  | [d1, d2, d3] => { results := [.lit (.bool false)], args := [d1, d2, d3] }
  | _ => none }
def FnExactIsSeparatedWrongFalsely : Prop := fnExactIsSeparatedRow.holds Try.pinned (OpenSpec.ofChange fnExactIsSeparatedWrong)

/-- 'laws.FnExactCubesOf': WHATEVER THE INPUT: true; the input reads as it did. -/
def fnExactCubesOfSpec : ChangeSpec := { name := "fnExactCubesOf", fn := fun _ => fun
  | [d1, d2] => { results := [.lit (.bool true)], args := [d1, d2] }
  | _ => none }
def fnExactCubesOfRow : OpenClaim := { program := "yteicafpjkbajaaa", sum := "368b10be9cd686b53cfa8d9de96ae44dc1576f7122a65e8d69646d72b1ecf5c9", func := "loop.example/g03403/laws.FnExactCubesOf", spec := "fnExactCubesOf", apart := false }
def FnExactCubesOfSaid : Prop := fnExactCubesOfRow.holds Try.pinned (OpenSpec.ofChange fnExactCubesOfSpec)

/-- ITS FALSE NEIGHBOUR: 'it returns false'. Refute it at one input. -/
def fnExactCubesOfWrong : ChangeSpec := { name := "fnExactCubesOf", fn := fun _ => fun
  | [d1, d2] => { results := [.lit (.bool false)], args := [d1, d2] }
  | _ => none }
def FnExactCubesOfWrongFalsely : Prop := fnExactCubesOfRow.holds Try.pinned (OpenSpec.ofChange fnExactCubesOfWrong)

/-- 'laws.FnExactEdgesBetween': WHATEVER THE INPUT: true; the input reads as it did. -/
def fnExactEdgesBetweenSpec : ChangeSpec := { name := "fnExactEdgesBetween", fn := fun _ => fun
  | [d1, d2, d3] => { results := [.lit (.bool true)], args := [d1, d2, d3] }
  | _ => none }
def fnExactEdgesBetweenRow : OpenClaim := { program := "yteicafpjkbajaaa", sum := "368b10be9cd686b53cfa8d9de96ae44dc1576f7122a65e8d69646d72b1ecf5c9", func := "loop.example/g03403/laws.FnExactEdgesBetween", spec := "fnExactEdgesBetween", apart := false }
def FnExactEdgesBetweenSaid : Prop := fnExactEdgesBetweenRow.holds Try.pinned (OpenSpec.ofChange fnExactEdgesBetweenSpec)

/-- ITS FALSE NEIGHBOUR: 'it returns false'. Refute it at one input. -/
def fnExactEdgesBetweenWrong : ChangeSpec := { name := "fnExactEdgesBetween", fn := fun _ => fun
  | [d1, d2, d3] => { results := [.lit (.bool false)], args := [d1, d2, d3] }
  | _ => none }
def FnExactEdgesBetweenWrongFalsely : Prop := fnExactEdgesBetweenRow.holds Try.pinned (OpenSpec.ofChange fnExactEdgesBetweenWrong)

/-- 'laws.FnExactIsSampleList': WHATEVER THE INPUT: true; the input reads as it did. -/
def fnExactIsSampleListSpec : ChangeSpec := { name := "fnExactIsSampleList", fn := fun _ => fun
  | [d1, d2] => { results := [.lit (.bool true)], args := [d1, d2] }
  | _ => none }
def fnExactIsSampleListRow : OpenClaim := { program := "yteicafpjkbajaaa", sum := "368b10be9cd686b53cfa8d9de96ae44dc1576f7122a65e8d69646d72b1ecf5c9", func := "loop.example/g03403/laws.FnExactIsSampleList", spec := "fnExactIsSampleList", unfollowed := true, recurses := true, apart := false }
def FnExactIsSampleListSaid : Prop := fnExactIsSampleListRow.holds Try.pinned (OpenSpec.ofChange fnExactIsSampleListSpec)

/-- ITS FALSE NEIGHBOUR: 'it returns false'. Refute it at one input. -/
def fnExactIsSampleListWrong : ChangeSpec := { name := "fnExactIsSampleList", fn := fun _ => fun
  | [d1, d2] => { results := [.lit (.bool false)], args := [d1, d2] }
  | _ => none }
def FnExactIsSampleListWrongFalsely : Prop := fnExactIsSampleListRow.holds Try.pinned (OpenSpec.ofChange fnExactIsSampleListWrong)

/-- 'laws.FnExactIsInvertible': WHATEVER THE INPUT: true; the input reads as it did. -/
def fnExactIsInvertibleSpec : ChangeSpec := { name := "fnExactIsInvertible", fn := fun _ => fun
  | [d1, d2] => { results := [.lit (.bool true)], args := [d1, d2] }
  | _ => none }
def fnExactIsInvertibleRow : OpenClaim := { program := "yteicafpjkbajaaa", sum := "368b10be9cd686b53cfa8d9de96ae44dc1576f7122a65e8d69646d72b1ecf5c9", func := "loop.example/g03403/laws.FnExactIsInvertible", spec := "fnExactIsInvertible", unfollowed := true, recurses := true, apart := false }
def FnExactIsInvertibleSaid : Prop := fnExactIsInvertibleRow.holds Try.pinned (OpenSpec.ofChange fnExactIsInvertibleSpec)

/-- ITS FALSE NEIGHBOUR: 'it returns false'. Refute it at one input. -/
def fnExactIsInvertibleWrong : ChangeSpec := { name := "fnExactIsInvertible", fn := fun _ => fun
  | [d1, d2] => { results := [.lit (.bool false)], args := [d1, d2] }
  | _ => none }
def FnExactIsInvertibleWrongFalsely : Prop := fnExactIsInvertibleRow.holds Try.pinned (OpenSpec.ofChange fnExactIsInvertibleWrong)

/-- 'laws.FnExactPolarityOf': WHATEVER THE INPUT: true; the input reads as it did. -/
def fnExactPolarityOfSpec : ChangeSpec := { name := "fnExactPolarityOf", fn := fun _ => fun
  | [d1, d2] => { results := [.lit (.bool true)], args := [d1, d2] }
  | _ => none }
def fnExactPolarityOfRow : OpenClaim := { program := "yteicafpjkbajaaa", sum := "368b10be9cd686b53cfa8d9de96ae44dc1576f7122a65e8d69646d72b1ecf5c9", func := "loop.example/g03403/laws.FnExactPolarityOf", spec := "fnExactPolarityOf", unfollowed := true, recurses := true, apart := false }
def FnExactPolarityOfSaid : Prop := fnExactPolarityOfRow.holds Try.pinned (OpenSpec.ofChange fnExactPolarityOfSpec)

/-- ITS FALSE NEIGHBOUR: 'it returns false'. Refute it at one input. -/
def fnExactPolarityOfWrong : ChangeSpec := { name := "fnExactPolarityOf", fn := fun _ => fun
  | [d1, d2] => { results := [.lit (.bool false)], args := [d1, d2] }
  | _ => none }
def FnExactPolarityOfWrongFalsely : Prop := fnExactPolarityOfRow.holds Try.pinned (OpenSpec.ofChange fnExactPolarityOfWrong)

/-- 'laws.FnExactLeavesOf': WHATEVER THE INPUT: true; the input reads as it did. -/
def fnExactLeavesOfSpec : ChangeSpec := { name := "fnExactLeavesOf", fn := fun _ => fun
  | [d] => { results := [.lit (.bool true)], args := [d] }
  | _ => none }
def fnExactLeavesOfRow : OpenClaim := { program := "yteicafpjkbajaaa", sum := "368b10be9cd686b53cfa8d9de96ae44dc1576f7122a65e8d69646d72b1ecf5c9", func := "loop.example/g03403/laws.FnExactLeavesOf", spec := "fnExactLeavesOf", recurses := true, apart := false }
def FnExactLeavesOfSaid : Prop := fnExactLeavesOfRow.holds Try.pinned (OpenSpec.ofChange fnExactLeavesOfSpec)

/-- ITS FALSE NEIGHBOUR: 'it returns false'. Refute it at one input. -/
def fnExactLeavesOfWrong : ChangeSpec := { name := "fnExactLeavesOf", fn := fun _ => fun
  | [d] => { results := [.lit (.bool false)], args := [d] }
  | _ => none }
def FnExactLeavesOfWrongFalsely : Prop := fnExactLeavesOfRow.holds Try.pinned (OpenSpec.ofChange fnExactLeavesOfWrong)

/-- 'laws.FnExactDepthOf': WHATEVER THE INPUT: true; the input reads as it did. -/
def fnExactDepthOfSpec : ChangeSpec := { name := "fnExactDepthOf", fn := fun _ => fun
  | [d] => { results := [.lit (.bool true)], args := [d] }
  | _ => none }
def fnExactDepthOfRow : OpenClaim := { program := "yteicafpjkbajaaa", sum := "368b10be9cd686b53cfa8d9de96ae44dc1576f7122a65e8d69646d72b1ecf5c9", func := "loop.example/g03403/laws.FnExactDepthOf", spec := "fnExactDepthOf", recurses := true, apart := false }
def FnExactDepthOfSaid : Prop := fnExactDepthOfRow.holds Try.pinned (OpenSpec.ofChange fnExactDepthOfSpec)

/-- ITS FALSE NEIGHBOUR: 'it returns false'. Refute it at one input. -/
def fnExactDepthOfWrong : ChangeSpec := { name := "fnExactDepthOf", fn := fun _ => fun
  | [d] => { results := [.lit (.bool false)], args := [d] }
  | _ => none }
def FnExactDepthOfWrongFalsely : Prop := fnExactDepthOfRow.holds Try.pinned (OpenSpec.ofChange fnExactDepthOfWrong)

/-- 'laws.FnExactPairBound': WHATEVER THE INPUT: true; the input reads as it did. -/
def fnExactPairBoundSpec : ChangeSpec := { name := "fnExactPairBound", fn := fun _ => fun
  | [d1, d2, d3] => { results := [.lit (.bool true)], args := [d1, d2, d3] }
  | _ => none }
def fnExactPairBoundRow : OpenClaim := { program := "yteicafpjkbajaaa", sum := "368b10be9cd686b53cfa8d9de96ae44dc1576f7122a65e8d69646d72b1ecf5c9", func := "loop.example/g03403/laws.FnExactPairBound", spec := "fnExactPairBound", apart := false }
def FnExactPairBoundSaid : Prop := fnExactPairBoundRow.holds Try.pinned (OpenSpec.ofChange fnExactPairBoundSpec)

/-- ITS FALSE NEIGHBOUR: 'it returns false'. Refute it at one input. -/
def fnExactPairBoundWrong : ChangeSpec := { name := "fnExactPairBound", fn := fun _ => fun
  | [d1, d2, d3] => { results := [.lit (.bool false)], args := [d1, d2, d3] }
  | _ => none }
def FnExactPairBoundWrongFalsely : Prop := fnExactPairBoundRow.holds Try.pinned (OpenSpec.ofChange fnExactPairBoundWrong)

/-- 'laws.FnExactDepthOfProtocol': WHATEVER THE INPUT: true; the input reads as it did. -/
def fnExactDepthOfProtocolSpec : ChangeSpec := { name := "fnExactDepthOfProtocol", fn := fun _ => fun
  | [d] => { results := [.lit (.bool true)], args := [d] }
  | _ => none }
def fnExactDepthOfProtocolRow : OpenClaim := { program := "yteicafpjkbajaaa", sum := "368b10be9cd686b53cfa8d9de96ae44dc1576f7122a65e8d69646d72b1ecf5c9", func := "loop.example/g03403/laws.FnExactDepthOfProtocol", spec := "fnExactDepthOfProtocol", inPlace := ["internal/bytealg.IndexByteString"], recurses := true, apart := false }
def FnExactDepthOfProtocolSaid : Prop := fnExactDepthOfProtocolRow.holds Try.pinned (OpenSpec.ofChange fnExactDepthOfProtocolSpec)

/-- ITS FALSE NEIGHBOUR: 'it returns false'. Refute it at one input. -/
def fnExactDepthOfProtocolWrong : ChangeSpec := { name := "fnExactDepthOfProtocol", fn := fun _ => fun
  | [d] => { results := [.lit (.bool false)], args := [d] }
  | _ => none }
def FnExactDepthOfProtocolWrongFalsely : Prop := fnExactDepthOfProtocolRow.holds Try.pinned (OpenSpec.ofChange fnExactDepthOfProtocolWrong)

/- THE SECOND FORM. 'bulk': how many values and letters a reading holds, each counted each time it is reached (what is shared counts as often as it is met; a slice's spare places count too). A statement '..UptoSaid' is the law's where the arguments, and the package variables that the reading takes, are together of bulk at most 1048576: NARROWER than '..Said'. Prove '..Said' where nothing that the law and all that it calls make is longer than what came in: it says more and counts as full. Else prove '..UptoSaid'. A law counts once. -/
mutual
def uptoBulk {H : Type} : DataW H → Nat
  | .lit (.string bytes) => bytes.length + 1
  | .lit _ => 1
  | .nil => 1
  | .ptr d => uptoBulk d + 1
  | .slice elems spare => uptoBulkAll elems + uptoBulkAll spare + 1
  | .agg parts => uptoBulkAll parts + 1
  | .iface _ d => uptoBulk d + 1
  | .map entries => uptoBulkEntries entries + 1
  | .held _ => 1
def uptoBulkAll {H : Type} : List (DataW H) → Nat
  | [] => 0
  | d :: r => uptoBulk d + uptoBulkAll r
def uptoBulkEntries {H : Type} : List (Lit × DataW H) → Nat
  | [] => 0
  | x :: r => uptoBulkEntry x + uptoBulkEntries r
def uptoBulkEntry {H : Type} : Lit × DataW H → Nat
  | (.string bytes, d) => bytes.length + uptoBulk d + 1
  | (_, d) => uptoBulk d + 1
 end
def uptoSmall : (H : Type) → List (DataW H) → Bool := fun _ ds => decide (uptoBulkAll ds ≤ 1048576)
def OpenSpec.upto (s : _root_.Go.ChangeSpec) : _root_.Go.OpenSpec := { _root_.Go.OpenSpec.ofChange s with cond := some uptoSmall }

/-- 'laws.FnExactCountInvertible', WHERE WHAT IT READS IS OF BULK AT MOST 1048576: true; the input reads as it did. -/
def fnExactCountInvertibleUptoRow : OpenClaim := { program := "yteicafpjkbajaaa", sum := "368b10be9cd686b53cfa8d9de96ae44dc1576f7122a65e8d69646d72b1ecf5c9", func := "loop.example/g03403/laws.FnExactCountInvertible", spec := "fnExactCountInvertible", apart := false, narrowed := true }
def FnExactCountInvertibleUptoSaid : Prop := fnExactCountInvertibleUptoRow.holds Try.pinned (OpenSpec.upto fnExactCountInvertibleSpec)

/-- 'laws.FnExactIsSeparated', WHERE WHAT IT READS IS OF BULK AT MOST 1048576: true; the input reads as it did. -/
def fnExactIsSeparatedUptoRow : OpenClaim := { program := "yteicafpjkbajaaa", sum := "368b10be9cd686b53cfa8d9de96ae44dc1576f7122a65e8d69646d72b1ecf5c9", func := "loop.example/g03403/laws.FnExactIsSeparated", spec := "fnExactIsSeparated", apart := false, narrowed := true }
def FnExactIsSeparatedUptoSaid : Prop := fnExactIsSeparatedUptoRow.holds Try.pinned (OpenSpec.upto fnExactIsSeparatedSpec)

/-- 'laws.FnExactCubesOf', WHERE WHAT IT READS IS OF BULK AT MOST 1048576: true; the input reads as it did. -/
def fnExactCubesOfUptoRow : OpenClaim := { program := "yteicafpjkbajaaa", sum := "368b10be9cd686b53cfa8d9de96ae44dc1576f7122a65e8d69646d72b1ecf5c9", func := "loop.example/g03403/laws.FnExactCubesOf", spec := "fnExactCubesOf", apart := false, narrowed := true }
def FnExactCubesOfUptoSaid : Prop := fnExactCubesOfUptoRow.holds Try.pinned (OpenSpec.upto fnExactCubesOfSpec)

/-- 'laws.FnExactEdgesBetween', WHERE WHAT IT READS IS OF BULK AT MOST 1048576: true; the input reads as it did. -/
def fnExactEdgesBetweenUptoRow : OpenClaim := { program := "yteicafpjkbajaaa", sum := "368b10be9cd686b53cfa8d9de96ae44dc1576f7122a65e8d69646d72b1ecf5c9", func := "loop.example/g03403/laws.FnExactEdgesBetween", spec := "fnExactEdgesBetween", apart := false, narrowed := true }
def FnExactEdgesBetweenUptoSaid : Prop := fnExactEdgesBetweenUptoRow.holds Try.pinned (OpenSpec.upto fnExactEdgesBetweenSpec)

/-- 'laws.FnExactIsSampleList', WHERE WHAT IT READS IS OF BULK AT MOST 1048576: true; the input reads as it did. -/
def fnExactIsSampleListUptoRow : OpenClaim := { program := "yteicafpjkbajaaa", sum := "368b10be9cd686b53cfa8d9de96ae44dc1576f7122a65e8d69646d72b1ecf5c9", func := "loop.example/g03403/laws.FnExactIsSampleList", spec := "fnExactIsSampleList", unfollowed := true, recurses := true, apart := false, narrowed := true }
def FnExactIsSampleListUptoSaid : Prop := fnExactIsSampleListUptoRow.holds Try.pinned (OpenSpec.upto fnExactIsSampleListSpec)

/-- 'laws.FnExactIsInvertible', WHERE WHAT IT READS IS OF BULK AT MOST 1048576: true; the input reads as it did. -/
def fnExactIsInvertibleUptoRow : OpenClaim := { program := "yteicafpjkbajaaa", sum := "368b10be9cd686b53cfa8d9de96ae44dc1576f7122a65e8d69646d72b1ecf5c9", func := "loop.example/g03403/laws.FnExactIsInvertible", spec := "fnExactIsInvertible", unfollowed := true, recurses := true, apart := false, narrowed := true }
def FnExactIsInvertibleUptoSaid : Prop := fnExactIsInvertibleUptoRow.holds Try.pinned (OpenSpec.upto fnExactIsInvertibleSpec)

/-- 'laws.FnExactPolarityOf', WHERE WHAT IT READS IS OF BULK AT MOST 1048576: true; the input reads as it did. -/
def fnExactPolarityOfUptoRow : OpenClaim := { program := "yteicafpjkbajaaa", sum := "368b10be9cd686b53cfa8d9de96ae44dc1576f7122a65e8d69646d72b1ecf5c9", func := "loop.example/g03403/laws.FnExactPolarityOf", spec := "fnExactPolarityOf", unfollowed := true, recurses := true, apart := false, narrowed := true }
def FnExactPolarityOfUptoSaid : Prop := fnExactPolarityOfUptoRow.holds Try.pinned (OpenSpec.upto fnExactPolarityOfSpec)

/-- 'laws.FnExactLeavesOf', WHERE WHAT IT READS IS OF BULK AT MOST 1048576: true; the input reads as it did. -/
def fnExactLeavesOfUptoRow : OpenClaim := { program := "yteicafpjkbajaaa", sum := "368b10be9cd686b53cfa8d9de96ae44dc1576f7122a65e8d69646d72b1ecf5c9", func := "loop.example/g03403/laws.FnExactLeavesOf", spec := "fnExactLeavesOf", recurses := true, apart := false, narrowed := true }
def FnExactLeavesOfUptoSaid : Prop := fnExactLeavesOfUptoRow.holds Try.pinned (OpenSpec.upto fnExactLeavesOfSpec)

/-- 'laws.FnExactDepthOf', WHERE WHAT IT READS IS OF BULK AT MOST 1048576: true; the input reads as it did. -/
def fnExactDepthOfUptoRow : OpenClaim := { program := "yteicafpjkbajaaa", sum := "368b10be9cd686b53cfa8d9de96ae44dc1576f7122a65e8d69646d72b1ecf5c9", func := "loop.example/g03403/laws.FnExactDepthOf", spec := "fnExactDepthOf", recurses := true, apart := false, narrowed := true }
def FnExactDepthOfUptoSaid : Prop := fnExactDepthOfUptoRow.holds Try.pinned (OpenSpec.upto fnExactDepthOfSpec)

/-- 'laws.FnExactPairBound', WHERE WHAT IT READS IS OF BULK AT MOST 1048576: true; the input reads as it did. -/
def fnExactPairBoundUptoRow : OpenClaim := { program := "yteicafpjkbajaaa", sum := "368b10be9cd686b53cfa8d9de96ae44dc1576f7122a65e8d69646d72b1ecf5c9", func := "loop.example/g03403/laws.FnExactPairBound", spec := "fnExactPairBound", apart := false, narrowed := true }
def FnExactPairBoundUptoSaid : Prop := fnExactPairBoundUptoRow.holds Try.pinned (OpenSpec.upto fnExactPairBoundSpec)

/-- 'laws.FnExactDepthOfProtocol', WHERE WHAT IT READS IS OF BULK AT MOST 1048576: true; the input reads as it did. -/
def fnExactDepthOfProtocolUptoRow : OpenClaim := { program := "yteicafpjkbajaaa", sum := "368b10be9cd686b53cfa8d9de96ae44dc1576f7122a65e8d69646d72b1ecf5c9", func := "loop.example/g03403/laws.FnExactDepthOfProtocol", spec := "fnExactDepthOfProtocol", inPlace := ["internal/bytealg.IndexByteString"], recurses := true, apart := false, narrowed := true }
def FnExactDepthOfProtocolUptoSaid : Prop := fnExactDepthOfProtocolUptoRow.holds Try.pinned (OpenSpec.upto fnExactDepthOfProtocolSpec)

end Rows
end Go.Proofs.Yteicafpjkbajaaa
