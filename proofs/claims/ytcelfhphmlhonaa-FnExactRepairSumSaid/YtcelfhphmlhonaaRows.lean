/-
  No cell of these rows narrows 'for every input' (looked for: loops, veiled, ifaces, maps, wideKeys, modest, calm, conditions, laid).
  DERIVED. THE GIVEN ROWS OF THIS SEAT. 12 by the template 'for every input the law returns true; each argument reads behind the call as it read before'; 0 by the template 'total and deterministic' (their statements: YtcelfhphmlhonaaTotals.lean).
  GIVEN WITH THE SEED: the statements are not yours to turn. If you find one false, say at which input.
  Laid BY PROGRAM, IN A SANDBOX (cutbox-rows.mjs): the forced cells as the released guide's own fill.sh prints them over the translation 609b8f93cff657a6… (all of the seat's roots in one cut). By AI agents, Wed Nov 11 2026. No macro, syntax, notation, axiom, sorry.
-/
import Derived.Test.YtcelfhphmlhonaaChecked
import GoSem.Claim
import GoSem.ClaimJoined
import GoSem.ClaimMapViews
import Derived.JoinedTies
import Derived.KernelRfl
namespace Go.Proofs.Ytcelfhphmlhonaa
/- THE CELL 'sum', in the pinned program and in every row, IS THE sha256 OF THE DUMP (.gsa) THAT YtcelfhphmlhonaaProg.lean LOADS. Nothing in Lean hashes anything: it is a label: what it is worth is what the hold of that sum in a sandbox is worth. -/
noncomputable def Try.pinned : Pinned := { name := "ytcelfhphmlhonaa", sum := "609b8f93cff657a641507ae7e22b35424d2c0b3e0812b471f9da9098a5b209a3", checked := Try.checked }
namespace Rows
def none {H : Type} : Left H := { results := [], args := [] }

/-- 'laws.FnExactHasHazard': WHATEVER THE INPUT: true; the input reads as it did. -/
def fnExactHasHazardSpec : ChangeSpec := { name := "fnExactHasHazard", fn := fun _ => fun
  | [d1, d2, d3, d4] => { results := [.lit (.bool true)], args := [d1, d2, d3, d4] }
  | _ => none }
def fnExactHasHazardRow : OpenClaim := { program := "ytcelfhphmlhonaa", sum := "609b8f93cff657a641507ae7e22b35424d2c0b3e0812b471f9da9098a5b209a3", func := "loop.example/g03403/laws.FnExactHasHazard", spec := "fnExactHasHazard", unfollowed := true, recurses := true, apart := false }
def FnExactHasHazardSaid : Prop := fnExactHasHazardRow.holds Try.pinned (OpenSpec.ofChange fnExactHasHazardSpec)

/-- ITS FALSE NEIGHBOUR: 'it returns false'. Refute it at one input. -/
def fnExactHasHazardWrong : ChangeSpec := { name := "fnExactHasHazard", fn := fun _ => fun
  | [d1, d2, d3, d4] => { results := [.lit (.bool false)], args := [d1, d2, d3, d4] }
  | _ => none }
def FnExactHasHazardWrongFalsely : Prop := fnExactHasHazardRow.holds Try.pinned (OpenSpec.ofChange fnExactHasHazardWrong)

/-- 'laws.FnExactIsHazardFree': WHATEVER THE INPUT: true; the input reads as it did. -/
def fnExactIsHazardFreeSpec : ChangeSpec := { name := "fnExactIsHazardFree", fn := fun _ => fun
  | [d1, d2] => { results := [.lit (.bool true)], args := [d1, d2] }
  | _ => none }
def fnExactIsHazardFreeRow : OpenClaim := { program := "ytcelfhphmlhonaa", sum := "609b8f93cff657a641507ae7e22b35424d2c0b3e0812b471f9da9098a5b209a3", func := "loop.example/g03403/laws.FnExactIsHazardFree", spec := "fnExactIsHazardFree", unfollowed := true, recurses := true, apart := false }
def FnExactIsHazardFreeSaid : Prop := fnExactIsHazardFreeRow.holds Try.pinned (OpenSpec.ofChange fnExactIsHazardFreeSpec)

/-- ITS FALSE NEIGHBOUR: 'it returns false'. Refute it at one input. -/
def fnExactIsHazardFreeWrong : ChangeSpec := { name := "fnExactIsHazardFree", fn := fun _ => fun
  | [d1, d2] => { results := [.lit (.bool false)], args := [d1, d2] }
  | _ => none }
def FnExactIsHazardFreeWrongFalsely : Prop := fnExactIsHazardFreeRow.holds Try.pinned (OpenSpec.ofChange fnExactIsHazardFreeWrong)

/-- 'laws.FnExactRepairSum': WHATEVER THE INPUT: true; the input reads as it did. -/
def fnExactRepairSumSpec : ChangeSpec := { name := "fnExactRepairSum", fn := fun _ => fun
  | [d1, d2] => { results := [.lit (.bool true)], args := [d1, d2] }
  | _ => none }
def fnExactRepairSumRow : OpenClaim := { program := "ytcelfhphmlhonaa", sum := "609b8f93cff657a641507ae7e22b35424d2c0b3e0812b471f9da9098a5b209a3", func := "loop.example/g03403/laws.FnExactRepairSum", spec := "fnExactRepairSum", unfollowed := true, recurses := true, apart := false }
def FnExactRepairSumSaid : Prop := fnExactRepairSumRow.holds Try.pinned (OpenSpec.ofChange fnExactRepairSumSpec)

/-- ITS FALSE NEIGHBOUR: 'it returns false'. Refute it at one input. -/
def fnExactRepairSumWrong : ChangeSpec := { name := "fnExactRepairSum", fn := fun _ => fun
  | [d1, d2] => { results := [.lit (.bool false)], args := [d1, d2] }
  | _ => none }
def FnExactRepairSumWrongFalsely : Prop := fnExactRepairSumRow.holds Try.pinned (OpenSpec.ofChange fnExactRepairSumWrong)

/-- 'laws.FnExactHazardsOf': WHATEVER THE INPUT: true; the input reads as it did. -/
def fnExactHazardsOfSpec : ChangeSpec := { name := "fnExactHazardsOf", fn := fun _ => fun
  | [d1, d2] => { results := [.lit (.bool true)], args := [d1, d2] }
  | _ => none }
def fnExactHazardsOfRow : OpenClaim := { program := "ytcelfhphmlhonaa", sum := "609b8f93cff657a641507ae7e22b35424d2c0b3e0812b471f9da9098a5b209a3", func := "loop.example/g03403/laws.FnExactHazardsOf", spec := "fnExactHazardsOf", unfollowed := true, recurses := true, apart := false }
def FnExactHazardsOfSaid : Prop := fnExactHazardsOfRow.holds Try.pinned (OpenSpec.ofChange fnExactHazardsOfSpec)

/-- ITS FALSE NEIGHBOUR: 'it returns false'. Refute it at one input. -/
def fnExactHazardsOfWrong : ChangeSpec := { name := "fnExactHazardsOf", fn := fun _ => fun
  | [d1, d2] => { results := [.lit (.bool false)], args := [d1, d2] }
  | _ => none }
def FnExactHazardsOfWrongFalsely : Prop := fnExactHazardsOfRow.holds Try.pinned (OpenSpec.ofChange fnExactHazardsOfWrong)

/-- 'laws.FnExactFormatSum': WHATEVER THE INPUT: true; the input reads as it did. -/
def fnExactFormatSumSpec : ChangeSpec := { name := "fnExactFormatSum", fn := fun _ => fun
  | [d1, d2] => { results := [.lit (.bool true)], args := [d1, d2] }
  | _ => none }
def fnExactFormatSumRow : OpenClaim := { program := "ytcelfhphmlhonaa", sum := "609b8f93cff657a641507ae7e22b35424d2c0b3e0812b471f9da9098a5b209a3", func := "loop.example/g03403/laws.FnExactFormatSum", spec := "fnExactFormatSum", inPlace := ["internal/abi.NoEscape", "internal/bytealg.MakeNoZero"], unfollowed := true, recurses := true, apart := false }
def FnExactFormatSumSaid : Prop := fnExactFormatSumRow.holds Try.pinned (OpenSpec.ofChange fnExactFormatSumSpec)

/-- ITS FALSE NEIGHBOUR: 'it returns false'. Refute it at one input. -/
def fnExactFormatSumWrong : ChangeSpec := { name := "fnExactFormatSum", fn := fun _ => fun
  | [d1, d2] => { results := [.lit (.bool false)], args := [d1, d2] }
  | _ => none }
def FnExactFormatSumWrongFalsely : Prop := fnExactFormatSumRow.holds Try.pinned (OpenSpec.ofChange fnExactFormatSumWrong)

/-- 'laws.FnExactErrorsOf': WHATEVER THE INPUT: true; the input reads as it did. -/
def fnExactErrorsOfSpec : ChangeSpec := { name := "fnExactErrorsOf", fn := fun _ => fun
  | [d1, d2] => { results := [.lit (.bool true)], args := [d1, d2] }
  | _ => none }
def fnExactErrorsOfRow : OpenClaim := { program := "ytcelfhphmlhonaa", sum := "609b8f93cff657a641507ae7e22b35424d2c0b3e0812b471f9da9098a5b209a3", func := "loop.example/g03403/laws.FnExactErrorsOf", spec := "fnExactErrorsOf", unfollowed := true, recurses := true, apart := false }
def FnExactErrorsOfSaid : Prop := fnExactErrorsOfRow.holds Try.pinned (OpenSpec.ofChange fnExactErrorsOfSpec)

/-- ITS FALSE NEIGHBOUR: 'it returns false'. Refute it at one input. -/
def fnExactErrorsOfWrong : ChangeSpec := { name := "fnExactErrorsOf", fn := fun _ => fun
  | [d1, d2] => { results := [.lit (.bool false)], args := [d1, d2] }
  | _ => none }
def FnExactErrorsOfWrongFalsely : Prop := fnExactErrorsOfRow.holds Try.pinned (OpenSpec.ofChange fnExactErrorsOfWrong)

/-- 'laws.FnExactIsConsistent': WHATEVER THE INPUT: true; the input reads as it did. -/
def fnExactIsConsistentSpec : ChangeSpec := { name := "fnExactIsConsistent", fn := fun _ => fun
  | [d1, d2] => { results := [.lit (.bool true)], args := [d1, d2] }
  | _ => none }
def fnExactIsConsistentRow : OpenClaim := { program := "ytcelfhphmlhonaa", sum := "609b8f93cff657a641507ae7e22b35424d2c0b3e0812b471f9da9098a5b209a3", func := "loop.example/g03403/laws.FnExactIsConsistent", spec := "fnExactIsConsistent", unfollowed := true, recurses := true, apart := false }
def FnExactIsConsistentSaid : Prop := fnExactIsConsistentRow.holds Try.pinned (OpenSpec.ofChange fnExactIsConsistentSpec)

/-- ITS FALSE NEIGHBOUR: 'it returns false'. Refute it at one input. -/
def fnExactIsConsistentWrong : ChangeSpec := { name := "fnExactIsConsistent", fn := fun _ => fun
  | [d1, d2] => { results := [.lit (.bool false)], args := [d1, d2] }
  | _ => none }
def FnExactIsConsistentWrongFalsely : Prop := fnExactIsConsistentRow.holds Try.pinned (OpenSpec.ofChange fnExactIsConsistentWrong)

/-- 'laws.FnExactLearnTable': WHATEVER THE INPUT: true; the input reads as it did. -/
def fnExactLearnTableSpec : ChangeSpec := { name := "fnExactLearnTable", fn := fun _ => fun
  | [d1, d2, d3] => { results := [.lit (.bool true)], args := [d1, d2, d3] }
  | _ => none }
def fnExactLearnTableRow : OpenClaim := { program := "ytcelfhphmlhonaa", sum := "609b8f93cff657a641507ae7e22b35424d2c0b3e0812b471f9da9098a5b209a3", func := "loop.example/g03403/laws.FnExactLearnTable", spec := "fnExactLearnTable", unfollowed := true, recurses := true, apart := false }
def FnExactLearnTableSaid : Prop := fnExactLearnTableRow.holds Try.pinned (OpenSpec.ofChange fnExactLearnTableSpec)

/-- ITS FALSE NEIGHBOUR: 'it returns false'. Refute it at one input. -/
def fnExactLearnTableWrong : ChangeSpec := { name := "fnExactLearnTable", fn := fun _ => fun
  | [d1, d2, d3] => { results := [.lit (.bool false)], args := [d1, d2, d3] }
  | _ => none }
def FnExactLearnTableWrongFalsely : Prop := fnExactLearnTableRow.holds Try.pinned (OpenSpec.ofChange fnExactLearnTableWrong)

/-- 'laws.FnExactConsistentSets': WHATEVER THE INPUT: true; the input reads as it did. -/
def fnExactConsistentSetsSpec : ChangeSpec := { name := "fnExactConsistentSets", fn := fun _ => fun
  | [d1, d2] => { results := [.lit (.bool true)], args := [d1, d2] }
  | _ => none }
def fnExactConsistentSetsRow : OpenClaim := { program := "ytcelfhphmlhonaa", sum := "609b8f93cff657a641507ae7e22b35424d2c0b3e0812b471f9da9098a5b209a3", func := "loop.example/g03403/laws.FnExactConsistentSets", spec := "fnExactConsistentSets", unfollowed := true, recurses := true, apart := false }
def FnExactConsistentSetsSaid : Prop := fnExactConsistentSetsRow.holds Try.pinned (OpenSpec.ofChange fnExactConsistentSetsSpec)

/-- ITS FALSE NEIGHBOUR: 'it returns false'. Refute it at one input. -/
def fnExactConsistentSetsWrong : ChangeSpec := { name := "fnExactConsistentSets", fn := fun _ => fun
  | [d1, d2] => { results := [.lit (.bool false)], args := [d1, d2] }
  | _ => none }
def FnExactConsistentSetsWrongFalsely : Prop := fnExactConsistentSetsRow.holds Try.pinned (OpenSpec.ofChange fnExactConsistentSetsWrong)

/-- 'laws.FnExactLeastSet': WHATEVER THE INPUT: true; the input reads as it did. -/
def fnExactLeastSetSpec : ChangeSpec := { name := "fnExactLeastSet", fn := fun _ => fun
  | [d1, d2] => { results := [.lit (.bool true)], args := [d1, d2] }
  | _ => none }
def fnExactLeastSetRow : OpenClaim := { program := "ytcelfhphmlhonaa", sum := "609b8f93cff657a641507ae7e22b35424d2c0b3e0812b471f9da9098a5b209a3", func := "loop.example/g03403/laws.FnExactLeastSet", spec := "fnExactLeastSet", unfollowed := true, recurses := true, apart := false }
def FnExactLeastSetSaid : Prop := fnExactLeastSetRow.holds Try.pinned (OpenSpec.ofChange fnExactLeastSetSpec)

/-- ITS FALSE NEIGHBOUR: 'it returns false'. Refute it at one input. -/
def fnExactLeastSetWrong : ChangeSpec := { name := "fnExactLeastSet", fn := fun _ => fun
  | [d1, d2] => { results := [.lit (.bool false)], args := [d1, d2] }
  | _ => none }
def FnExactLeastSetWrongFalsely : Prop := fnExactLeastSetRow.holds Try.pinned (OpenSpec.ofChange fnExactLeastSetWrong)

/-- 'laws.FnExactConstantCubes': WHATEVER THE INPUT: true; the input reads as it did. -/
def fnExactConstantCubesSpec : ChangeSpec := { name := "fnExactConstantCubes", fn := fun _ => fun
  | [d1, d2] => { results := [.lit (.bool true)], args := [d1, d2] }
  | _ => none }
def fnExactConstantCubesRow : OpenClaim := { program := "ytcelfhphmlhonaa", sum := "609b8f93cff657a641507ae7e22b35424d2c0b3e0812b471f9da9098a5b209a3", func := "loop.example/g03403/laws.FnExactConstantCubes", spec := "fnExactConstantCubes", unfollowed := true, recurses := true, apart := false }
def FnExactConstantCubesSaid : Prop := fnExactConstantCubesRow.holds Try.pinned (OpenSpec.ofChange fnExactConstantCubesSpec)

/-- ITS FALSE NEIGHBOUR: 'it returns false'. Refute it at one input. -/
def fnExactConstantCubesWrong : ChangeSpec := { name := "fnExactConstantCubes", fn := fun _ => fun
  | [d1, d2] => { results := [.lit (.bool false)], args := [d1, d2] }
  | _ => none }
def FnExactConstantCubesWrongFalsely : Prop := fnExactConstantCubesRow.holds Try.pinned (OpenSpec.ofChange fnExactConstantCubesWrong)

/-- 'laws.FnExactOnesInCubes': WHATEVER THE INPUT: true; the input reads as it did. -/
def fnExactOnesInCubesSpec : ChangeSpec := { name := "fnExactOnesInCubes", fn := fun _ => fun
  | [d1, d2] => { results := [.lit (.bool true)], args := [d1, d2] }
  | _ => none }
def fnExactOnesInCubesRow : OpenClaim := { program := "ytcelfhphmlhonaa", sum := "609b8f93cff657a641507ae7e22b35424d2c0b3e0812b471f9da9098a5b209a3", func := "loop.example/g03403/laws.FnExactOnesInCubes", spec := "fnExactOnesInCubes", unfollowed := true, recurses := true, apart := false }
def FnExactOnesInCubesSaid : Prop := fnExactOnesInCubesRow.holds Try.pinned (OpenSpec.ofChange fnExactOnesInCubesSpec)

/-- ITS FALSE NEIGHBOUR: 'it returns false'. Refute it at one input. -/
def fnExactOnesInCubesWrong : ChangeSpec := { name := "fnExactOnesInCubes", fn := fun _ => fun
  | [d1, d2] => { results := [.lit (.bool false)], args := [d1, d2] }
  | _ => none }
def FnExactOnesInCubesWrongFalsely : Prop := fnExactOnesInCubesRow.holds Try.pinned (OpenSpec.ofChange fnExactOnesInCubesWrong)

/- THE SECOND FORM. 'bulk': how many values and letters a reading holds, each counted each time it is reached (what is shared counts as often as it is met; a slice's spare places count too). A statement '..UptoSaid' is the law's where the arguments, and the package variables that the reading takes, are together of bulk at most 1048576: NARROWER than '..Said'. Prove '..Said' where nothing that the law and all that it calls make is longer than what came in: it says more and counts as full. Else prove '..UptoSaid'. A law counts once. -/
mutual
def uptoBulk {H : Type} : DataW H → Nat
  | .lit (.string bytes) => bytes.length + 1
  | .lit _ => 1
  | .nil => 1
  | .ptr d => uptoBulk d + 1
  | .slice elems spare => uptoBulkAll elems + uptoBulkAll spare + 1
  | .agg parts => uptoBulkAll parts + 1
  | .iface _ d => uptoBulk d + 1
  | .map entries => uptoBulkEntries entries + 1
  | .held _ => 1
def uptoBulkAll {H : Type} : List (DataW H) → Nat
  | [] => 0
  | d :: r => uptoBulk d + uptoBulkAll r
def uptoBulkEntries {H : Type} : List (Lit × DataW H) → Nat
  | [] => 0
  | x :: r => uptoBulkEntry x + uptoBulkEntries r
def uptoBulkEntry {H : Type} : Lit × DataW H → Nat
  | (.string bytes, d) => bytes.length + uptoBulk d + 1
  | (_, d) => uptoBulk d + 1
 end
def uptoSmall : (H : Type) → List (DataW H) → Bool := fun _ ds => decide (uptoBulkAll ds ≤ 1048576)
def OpenSpec.upto (s : _root_.Go.ChangeSpec) : _root_.Go.OpenSpec := { _root_.Go.OpenSpec.ofChange s with cond := some uptoSmall }

/-- 'laws.FnExactHasHazard', WHERE WHAT IT READS IS OF BULK AT MOST 1048576: true; the input reads as it did. -/
def fnExactHasHazardUptoRow : OpenClaim := { program := "ytcelfhphmlhonaa", sum := "609b8f93cff657a641507ae7e22b35424d2c0b3e0812b471f9da9098a5b209a3", func := "loop.example/g03403/laws.FnExactHasHazard", spec := "fnExactHasHazard", unfollowed := true, recurses := true, apart := false, narrowed := true }
def FnExactHasHazardUptoSaid : Prop := fnExactHasHazardUptoRow.holds Try.pinned (OpenSpec.upto fnExactHasHazardSpec)

/-- 'laws.FnExactIsHazardFree', WHERE WHAT IT READS IS OF BULK AT MOST 1048576: true; the input reads as it did. -/
def fnExactIsHazardFreeUptoRow : OpenClaim := { program := "ytcelfhphmlhonaa", sum := "609b8f93cff657a641507ae7e22b35424d2c0b3e0812b471f9da9098a5b209a3", func := "loop.example/g03403/laws.FnExactIsHazardFree", spec := "fnExactIsHazardFree", unfollowed := true, recurses := true, apart := false, narrowed := true }
def FnExactIsHazardFreeUptoSaid : Prop := fnExactIsHazardFreeUptoRow.holds Try.pinned (OpenSpec.upto fnExactIsHazardFreeSpec)

/-- 'laws.FnExactRepairSum', WHERE WHAT IT READS IS OF BULK AT MOST 1048576: true; the input reads as it did. -/
def fnExactRepairSumUptoRow : OpenClaim := { program := "ytcelfhphmlhonaa", sum := "609b8f93cff657a641507ae7e22b35424d2c0b3e0812b471f9da9098a5b209a3", func := "loop.example/g03403/laws.FnExactRepairSum", spec := "fnExactRepairSum", unfollowed := true, recurses := true, apart := false, narrowed := true }
def FnExactRepairSumUptoSaid : Prop := fnExactRepairSumUptoRow.holds Try.pinned (OpenSpec.upto fnExactRepairSumSpec)

/-- 'laws.FnExactHazardsOf', WHERE WHAT IT READS IS OF BULK AT MOST 1048576: true; the input reads as it did. -/
def fnExactHazardsOfUptoRow : OpenClaim := { program := "ytcelfhphmlhonaa", sum := "609b8f93cff657a641507ae7e22b35424d2c0b3e0812b471f9da9098a5b209a3", func := "loop.example/g03403/laws.FnExactHazardsOf", spec := "fnExactHazardsOf", unfollowed := true, recurses := true, apart := false, narrowed := true }
def FnExactHazardsOfUptoSaid : Prop := fnExactHazardsOfUptoRow.holds Try.pinned (OpenSpec.upto fnExactHazardsOfSpec)

/-- 'laws.FnExactFormatSum', WHERE WHAT IT READS IS OF BULK AT MOST 1048576: true; the input reads as it did. -/
def fnExactFormatSumUptoRow : OpenClaim := { program := "ytcelfhphmlhonaa", sum := "609b8f93cff657a641507ae7e22b35424d2c0b3e0812b471f9da9098a5b209a3", func := "loop.example/g03403/laws.FnExactFormatSum", spec := "fnExactFormatSum", inPlace := ["internal/abi.NoEscape", "internal/bytealg.MakeNoZero"], unfollowed := true, recurses := true, apart := false, narrowed := true }
def FnExactFormatSumUptoSaid : Prop := fnExactFormatSumUptoRow.holds Try.pinned (OpenSpec.upto fnExactFormatSumSpec)

/-- 'laws.FnExactErrorsOf', WHERE WHAT IT READS IS OF BULK AT MOST 1048576: true; the input reads as it did. -/
def fnExactErrorsOfUptoRow : OpenClaim := { program := "ytcelfhphmlhonaa", sum := "609b8f93cff657a641507ae7e22b35424d2c0b3e0812b471f9da9098a5b209a3", func := "loop.example/g03403/laws.FnExactErrorsOf", spec := "fnExactErrorsOf", unfollowed := true, recurses := true, apart := false, narrowed := true }
def FnExactErrorsOfUptoSaid : Prop := fnExactErrorsOfUptoRow.holds Try.pinned (OpenSpec.upto fnExactErrorsOfSpec)

/-- 'laws.FnExactIsConsistent', WHERE WHAT IT READS IS OF BULK AT MOST 1048576: true; the input reads as it did. -/
def fnExactIsConsistentUptoRow : OpenClaim := { program := "ytcelfhphmlhonaa", sum := "609b8f93cff657a641507ae7e22b35424d2c0b3e0812b471f9da9098a5b209a3", func := "loop.example/g03403/laws.FnExactIsConsistent", spec := "fnExactIsConsistent", unfollowed := true, recurses := true, apart := false, narrowed := true }
def FnExactIsConsistentUptoSaid : Prop := fnExactIsConsistentUptoRow.holds Try.pinned (OpenSpec.upto fnExactIsConsistentSpec)

/-- 'laws.FnExactLearnTable', WHERE WHAT IT READS IS OF BULK AT MOST 1048576: true; the input reads as it did. -/
def fnExactLearnTableUptoRow : OpenClaim := { program := "ytcelfhphmlhonaa", sum := "609b8f93cff657a641507ae7e22b35424d2c0b3e0812b471f9da9098a5b209a3", func := "loop.example/g03403/laws.FnExactLearnTable", spec := "fnExactLearnTable", unfollowed := true, recurses := true, apart := false, narrowed := true }
def FnExactLearnTableUptoSaid : Prop := fnExactLearnTableUptoRow.holds Try.pinned (OpenSpec.upto fnExactLearnTableSpec)

/-- 'laws.FnExactConsistentSets', WHERE WHAT IT READS IS OF BULK AT MOST 1048576: true; the input reads as it did. -/
def fnExactConsistentSetsUptoRow : OpenClaim := { program := "ytcelfhphmlhonaa", sum := "609b8f93cff657a641507ae7e22b35424d2c0b3e0812b471f9da9098a5b209a3", func := "loop.example/g03403/laws.FnExactConsistentSets", spec := "fnExactConsistentSets", unfollowed := true, recurses := true, apart := false, narrowed := true }
def FnExactConsistentSetsUptoSaid : Prop := fnExactConsistentSetsUptoRow.holds Try.pinned (OpenSpec.upto fnExactConsistentSetsSpec)

/-- 'laws.FnExactLeastSet', WHERE WHAT IT READS IS OF BULK AT MOST 1048576: true; the input reads as it did. -/
def fnExactLeastSetUptoRow : OpenClaim := { program := "ytcelfhphmlhonaa", sum := "609b8f93cff657a641507ae7e22b35424d2c0b3e0812b471f9da9098a5b209a3", func := "loop.example/g03403/laws.FnExactLeastSet", spec := "fnExactLeastSet", unfollowed := true, recurses := true, apart := false, narrowed := true }
def FnExactLeastSetUptoSaid : Prop := fnExactLeastSetUptoRow.holds Try.pinned (OpenSpec.upto fnExactLeastSetSpec)

/-- 'laws.FnExactConstantCubes', WHERE WHAT IT READS IS OF BULK AT MOST 1048576: true; the input reads as it did. -/
def fnExactConstantCubesUptoRow : OpenClaim := { program := "ytcelfhphmlhonaa", sum := "609b8f93cff657a641507ae7e22b35424d2c0b3e0812b471f9da9098a5b209a3", func := "loop.example/g03403/laws.FnExactConstantCubes", spec := "fnExactConstantCubes", unfollowed := true, recurses := true, apart := false, narrowed := true }
def FnExactConstantCubesUptoSaid : Prop := fnExactConstantCubesUptoRow.holds Try.pinned (OpenSpec.upto fnExactConstantCubesSpec)

/-- 'laws.FnExactOnesInCubes', WHERE WHAT IT READS IS OF BULK AT MOST 1048576: true; the input reads as it did. -/
def fnExactOnesInCubesUptoRow : OpenClaim := { program := "ytcelfhphmlhonaa", sum := "609b8f93cff657a641507ae7e22b35424d2c0b3e0812b471f9da9098a5b209a3", func := "loop.example/g03403/laws.FnExactOnesInCubes", spec := "fnExactOnesInCubes", unfollowed := true, recurses := true, apart := false, narrowed := true }
def FnExactOnesInCubesUptoSaid : Prop := fnExactOnesInCubesUptoRow.holds Try.pinned (OpenSpec.upto fnExactOnesInCubesSpec)

end Rows
end Go.Proofs.Ytcelfhphmlhonaa
