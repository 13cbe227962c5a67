/- Functions of the given program as plain Lean functions, with proofs that their calls compute them, or lemmas on these. Laid by a program of this repo for the seat Ytlcgappojmdgfaa; Lean checks it. -/
import Derived.Test.YtlcgappojmdgfaaKExactLeavesOfProtocol0
import Derived.Test.YtlcgappojmdgfaaKExactLeavesOfProtocol4
import Derived.Test.YtlcgappojmdgfaaKExactLeavesOfProtocol5
import Derived.Test.YtlcgappojmdgfaaKExactLeavesOfProtocol6
import Derived.Test.YtlcgappojmdgfaaM9
namespace Go.Proofs.Ytlcgappojmdgfaa.Print
open Go.RowKit Go.Proofs.YtlcgappojmdgfaaW.PrintWords Go.Proofs.YtlcgappojmdgfaaW.PrintLast Go.Proofs.YtlcgappojmdgfaaW.PrintMore
attribute [local go_sem] max2_int min2_int max_two min_two max_three min_three max_four min_four   -- for this text's walks alone
set_option linter.unusedVariables false
set_option linter.unusedSimpArgs false

--OWNPART
/-! ### impl_LeavesOfProtocol: function 13 -/
--IMPORT M9
open Go.Proofs.Ytlcgappojmdgfaa.M
def impl_LeavesOfProtocol.f (a0 : ByteArray) : Option (Int) := some (match protOf a0 with | some T => ((T.leaves : Nat) : Int) | none => -1)
theorem impl_LeavesOfProtocol.form {S : ByteArray} {T : Tn} (h : protOf S = some T) : FineT T ∧ T.nodes ≤ 100 := by
  obtain ⟨h1, h2, h3⟩ := protOf_some h
  obtain ⟨a1, a2, a3, a4⟩ := rt_some h3
  exact ⟨a1, by omega⟩
theorem impl_LeavesOfProtocol.calls (a0 : ByteArray) (r : Int) (w : World) (h : impl_LeavesOfProtocol.f a0 = some r) : Calls Try.prog 13 #[.string a0] w fun e w' => e = .returned (.int .i64 r) ∧ Below w.heap.size w w' := by
  have h := Option.some.inj h
  have HC := impl_wholeTurn.call a0 w
  cases hq : protOf a0 with
  | none =>
    rw [hq] at h
    obtain rfl : r = -1 := h.symm
    have C1 : Aside0 (Calls Try.prog 36 #[.string a0] w fun e w' => ∃ v, e = .returned (.tuple #[v, .bool false]) ∧ Below w.heap.size w w') := ⟨HC.mono (by rw [hq]; rintro e W' ⟨⟨v, he⟩, hb⟩; exact ⟨v, he, hb⟩)⟩
    clear HC h hq
    go_enter Try.func13, Try.ntmps13
    go_wp2_with (first | (go_at_call 36; (with_reducible refine C1.out.mono ?_); rintro e w1 ⟨v1, rfl, hb1⟩))
    go_ret
    exact ⟨rfl, hb1⟩
  | some T =>
    rw [hq] at h
    obtain ⟨hT, hN⟩ := impl_LeavesOfProtocol.form hq
    obtain rfl : r = ((T.leaves : Nat) : Int) := h.symm
    have C1 : Aside0 (Calls Try.prog 36 #[.string a0] w fun e w' => ∃ b, e = .returned (.tuple #[.pointer (some ⟨b, 0, none⟩), .bool true]) ∧ impl_readTurn.Lies w.heap.size w' T (.pointer (some ⟨b, 0, none⟩)) ∧ Below w.heap.size w w') := ⟨HC.mono (by rw [hq]; rintro e W' ⟨⟨b, he, hl⟩, hb⟩; exact ⟨b, he, hl, hb⟩)⟩
    have C2 := Aside0.mk (fun base w b hl => impl_turn_leaves.call hT base w b (by omega) hl)
    generalize ((T.leaves : Nat) : Int) = R at *
    clear HC h hq hN hT
    go_enter Try.func13, Try.ntmps13
    go_wp2_with (first | (go_at_call 36; (with_reducible refine C1.out.mono ?_); rintro e w1 ⟨b1, rfl, hl1, hb1⟩; have L1 := Aside0.mk hl1; clear hl1) | (go_at_call 37; (with_reducible refine (C2.out w.heap.size _ b1 L1.out).mono ?_); rintro e w' ⟨rfl, ⟨nd2, rfl⟩⟩))
    go_ret
    exact ⟨rfl, pw_below_drewN hb1 _⟩


end Go.Proofs.Ytlcgappojmdgfaa.Print
