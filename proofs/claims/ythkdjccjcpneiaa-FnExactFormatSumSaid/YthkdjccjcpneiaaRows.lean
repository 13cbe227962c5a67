/-
  No cell of these rows narrows 'for every input' (looked for: loops, veiled, ifaces, maps, wideKeys, modest, calm, conditions, laid).
  DERIVED. THE GIVEN ROWS OF THIS SEAT. 3 by the template 'for every input the law returns true; each argument reads behind the call as it read before'; 0 by the template 'total and deterministic' (their statements: YthkdjccjcpneiaaTotals.lean).
  GIVEN WITH THE SEED: the statements are not yours to turn. If you find one false, say at which input.
  Laid BY PROGRAM, IN A SANDBOX (cutbox-rows.mjs): the forced cells as the released guide's own fill.sh prints them over the translation 5c69762b635b5d1e… (all of the seat's roots in one cut). By AI agents, Wed Nov 11 2026. No macro, syntax, notation, axiom, sorry.
-/
import Derived.Test.YthkdjccjcpneiaaChecked
import GoSem.Claim
import GoSem.ClaimJoined
import GoSem.ClaimMapViews
import Derived.JoinedTies
import Derived.KernelRfl
namespace Go.Proofs.Ythkdjccjcpneiaa
/- THE CELL 'sum', in the pinned program and in every row, IS THE sha256 OF THE DUMP (.gsa) THAT YthkdjccjcpneiaaProg.lean LOADS. Nothing in Lean hashes anything: it is a label: what it is worth is what the hold of that sum in a sandbox is worth. -/
noncomputable def Try.pinned : Pinned := { name := "ythkdjccjcpneiaa", sum := "5c69762b635b5d1eed655c14ca07410f5f9085aced0258114b9582434af02b43", checked := Try.checked }
namespace Rows
def none {H : Type} : Left H := { results := [], args := [] }

/-- 'laws.FnExactLeastBits': WHATEVER THE INPUT: true; the input reads as it did. -/
def fnExactLeastBitsSpec : ChangeSpec := { name := "fnExactLeastBits", fn := fun _ => fun
  | [d1, d2] => { results := [.lit (.bool true)], args := [d1, d2] }
  | _ => none }
def fnExactLeastBitsRow : OpenClaim := { program := "ythkdjccjcpneiaa", sum := "5c69762b635b5d1eed655c14ca07410f5f9085aced0258114b9582434af02b43", func := "loop.example/g03403/laws.FnExactLeastBits", spec := "fnExactLeastBits", recurses := true, plainKeys := false, apart := false }
def FnExactLeastBitsSaid : Prop := fnExactLeastBitsRow.holds Try.pinned (OpenSpec.ofChange fnExactLeastBitsSpec)

/-- ITS FALSE NEIGHBOUR: 'it returns false'. Refute it at one input. -/
def fnExactLeastBitsWrong : ChangeSpec := { name := "fnExactLeastBits", fn := fun _ => fun
  | [d1, d2] => { results := [.lit (.bool false)], args := [d1, d2] }
  | _ => none }
def FnExactLeastBitsWrongFalsely : Prop := fnExactLeastBitsRow.holds Try.pinned (OpenSpec.ofChange fnExactLeastBitsWrong)

/-- 'laws.FnExactDepthSum': WHATEVER THE INPUT: true; the input reads as it did. -/
def fnExactDepthSumSpec : ChangeSpec := { name := "fnExactDepthSum", fn := fun _ => fun
  | [d1, d2] => { results := [.lit (.bool true)], args := [d1, d2] }
  | _ => none }
def fnExactDepthSumRow : OpenClaim := { program := "ythkdjccjcpneiaa", sum := "5c69762b635b5d1eed655c14ca07410f5f9085aced0258114b9582434af02b43", func := "loop.example/g03403/laws.FnExactDepthSum", spec := "fnExactDepthSum", unfollowed := true, recurses := true, plainKeys := false, apart := false }
def FnExactDepthSumSaid : Prop := fnExactDepthSumRow.holds Try.pinned (OpenSpec.ofChange fnExactDepthSumSpec)

/-- ITS FALSE NEIGHBOUR: 'it returns false'. Refute it at one input. -/
def fnExactDepthSumWrong : ChangeSpec := { name := "fnExactDepthSum", fn := fun _ => fun
  | [d1, d2] => { results := [.lit (.bool false)], args := [d1, d2] }
  | _ => none }
def FnExactDepthSumWrongFalsely : Prop := fnExactDepthSumRow.holds Try.pinned (OpenSpec.ofChange fnExactDepthSumWrong)

/-- 'laws.FnExactFormatSum': WHATEVER THE INPUT: true; the input reads as it did. -/
def fnExactFormatSumSpec : ChangeSpec := { name := "fnExactFormatSum", fn := fun _ => fun
  | [d1, d2] => { results := [.lit (.bool true)], args := [d1, d2] }
  | _ => none }
def fnExactFormatSumRow : OpenClaim := { program := "ythkdjccjcpneiaa", sum := "5c69762b635b5d1eed655c14ca07410f5f9085aced0258114b9582434af02b43", func := "loop.example/g03403/laws.FnExactFormatSum", spec := "fnExactFormatSum", inPlace := ["internal/abi.NoEscape", "internal/bytealg.MakeNoZero"], unfollowed := true, recurses := true, plainKeys := false, apart := false }
def FnExactFormatSumSaid : Prop := fnExactFormatSumRow.holds Try.pinned (OpenSpec.ofChange fnExactFormatSumSpec)

/-- ITS FALSE NEIGHBOUR: 'it returns false'. Refute it at one input. -/
def fnExactFormatSumWrong : ChangeSpec := { name := "fnExactFormatSum", fn := fun _ => fun
  | [d1, d2] => { results := [.lit (.bool false)], args := [d1, d2] }
  | _ => none }
def FnExactFormatSumWrongFalsely : Prop := fnExactFormatSumRow.holds Try.pinned (OpenSpec.ofChange fnExactFormatSumWrong)

/- THE SECOND FORM. 'bulk': how many values and letters a reading holds, each counted each time it is reached (what is shared counts as often as it is met; a slice's spare places count too). A statement '..UptoSaid' is the law's where the arguments, and the package variables that the reading takes, are together of bulk at most 1048576: NARROWER than '..Said'. Prove '..Said' where nothing that the law and all that it calls make is longer than what came in: it says more and counts as full. Else prove '..UptoSaid'. A law counts once. -/
mutual
def uptoBulk {H : Type} : DataW H → Nat
  | .lit (.string bytes) => bytes.length + 1
  | .lit _ => 1
  | .nil => 1
  | .ptr d => uptoBulk d + 1
  | .slice elems spare => uptoBulkAll elems + uptoBulkAll spare + 1
  | .agg parts => uptoBulkAll parts + 1
  | .iface _ d => uptoBulk d + 1
  | .map entries => uptoBulkEntries entries + 1
  | .held _ => 1
def uptoBulkAll {H : Type} : List (DataW H) → Nat
  | [] => 0
  | d :: r => uptoBulk d + uptoBulkAll r
def uptoBulkEntries {H : Type} : List (Lit × DataW H) → Nat
  | [] => 0
  | x :: r => uptoBulkEntry x + uptoBulkEntries r
def uptoBulkEntry {H : Type} : Lit × DataW H → Nat
  | (.string bytes, d) => bytes.length + uptoBulk d + 1
  | (_, d) => uptoBulk d + 1
 end
def uptoSmall : (H : Type) → List (DataW H) → Bool := fun _ ds => decide (uptoBulkAll ds ≤ 1048576)
def OpenSpec.upto (s : _root_.Go.ChangeSpec) : _root_.Go.OpenSpec := { _root_.Go.OpenSpec.ofChange s with cond := some uptoSmall }

/-- 'laws.FnExactLeastBits', WHERE WHAT IT READS IS OF BULK AT MOST 1048576: true; the input reads as it did. -/
def fnExactLeastBitsUptoRow : OpenClaim := { program := "ythkdjccjcpneiaa", sum := "5c69762b635b5d1eed655c14ca07410f5f9085aced0258114b9582434af02b43", func := "loop.example/g03403/laws.FnExactLeastBits", spec := "fnExactLeastBits", recurses := true, plainKeys := false, apart := false, narrowed := true }
def FnExactLeastBitsUptoSaid : Prop := fnExactLeastBitsUptoRow.holds Try.pinned (OpenSpec.upto fnExactLeastBitsSpec)

/-- 'laws.FnExactDepthSum', WHERE WHAT IT READS IS OF BULK AT MOST 1048576: true; the input reads as it did. -/
def fnExactDepthSumUptoRow : OpenClaim := { program := "ythkdjccjcpneiaa", sum := "5c69762b635b5d1eed655c14ca07410f5f9085aced0258114b9582434af02b43", func := "loop.example/g03403/laws.FnExactDepthSum", spec := "fnExactDepthSum", unfollowed := true, recurses := true, plainKeys := false, apart := false, narrowed := true }
def FnExactDepthSumUptoSaid : Prop := fnExactDepthSumUptoRow.holds Try.pinned (OpenSpec.upto fnExactDepthSumSpec)

/-- 'laws.FnExactFormatSum', WHERE WHAT IT READS IS OF BULK AT MOST 1048576: true; the input reads as it did. -/
def fnExactFormatSumUptoRow : OpenClaim := { program := "ythkdjccjcpneiaa", sum := "5c69762b635b5d1eed655c14ca07410f5f9085aced0258114b9582434af02b43", func := "loop.example/g03403/laws.FnExactFormatSum", spec := "fnExactFormatSum", inPlace := ["internal/abi.NoEscape", "internal/bytealg.MakeNoZero"], unfollowed := true, recurses := true, plainKeys := false, apart := false, narrowed := true }
def FnExactFormatSumUptoSaid : Prop := fnExactFormatSumUptoRow.holds Try.pinned (OpenSpec.upto fnExactFormatSumSpec)

end Rows
end Go.Proofs.Ythkdjccjcpneiaa
