/- Functions of the given program as plain Lean functions, with proofs that their calls compute them, or lemmas on these. Laid by a program of this repo for the seat Ytdgbfpnjnfpjaaa; Lean checks it. -/
import Derived.Test.YtdgbfpnjnfpjaaaKExactDepthOfProtocol0
import Derived.Test.YtdgbfpnjnfpjaaaKExactDepthOfProtocol4
import Derived.Test.YtdgbfpnjnfpjaaaKExactDepthOfProtocol5
import Derived.Test.YtdgbfpnjnfpjaaaKExactDepthOfProtocol6
import Derived.Test.YtdgbfpnjnfpjaaaM9
namespace Go.Proofs.Ytdgbfpnjnfpjaaa.Print
open Go.RowKit Go.Proofs.YtdgbfpnjnfpjaaaW.PrintWords Go.Proofs.YtdgbfpnjnfpjaaaW.PrintLast Go.Proofs.YtdgbfpnjnfpjaaaW.PrintMore
attribute [local go_sem] max2_int min2_int max_two min_two max_three min_three max_four min_four   -- for this text's walks alone
set_option linter.unusedVariables false
set_option linter.unusedSimpArgs false

--OWNPART
/-! ### impl_DepthOfProtocol: function 47 -/
--IMPORT M9
open Go.Proofs.Ytdgbfpnjnfpjaaa.M
def impl_DepthOfProtocol.f (a0 : ByteArray) : Option (Int) := some (match protOf a0 with | some T => ((T.depth : Nat) : Int) | none => -1)
theorem impl_DepthOfProtocol.form {S : ByteArray} {T : Tn} (h : protOf S = some T) : FineT T ∧ T.nodes ≤ 100 := by
  obtain ⟨h1, h2, h3⟩ := protOf_some h
  obtain ⟨a1, a2, a3, a4⟩ := rt_some h3
  exact ⟨a1, by omega⟩
theorem impl_DepthOfProtocol.calls (a0 : ByteArray) (r : Int) (w : World) (h : impl_DepthOfProtocol.f a0 = some r) : Calls Try.prog 47 #[.string a0] w fun e w' => e = .returned (.int .i64 r) ∧ Below w.heap.size w w' := by
  have h := Option.some.inj h
  have HC := impl_wholeTurn.call a0 w
  cases hq : protOf a0 with
  | none =>
    rw [hq] at h
    obtain rfl : r = -1 := h.symm
    have C1 : Aside0 (Calls Try.prog 82 #[.string a0] w fun e w' => ∃ v, e = .returned (.tuple #[v, .bool false]) ∧ Below w.heap.size w w') := ⟨HC.mono (by rw [hq]; rintro e W' ⟨⟨v, he⟩, hb⟩; exact ⟨v, he, hb⟩)⟩
    clear HC h hq
    go_enter Try.func47, Try.ntmps47
    go_wp2_with (first | (go_at_call 82; (with_reducible refine C1.out.mono ?_); rintro e w1 ⟨v1, rfl, hb1⟩))
    go_ret
    exact ⟨rfl, hb1⟩
  | some T =>
    rw [hq] at h
    obtain ⟨hT, hN⟩ := impl_DepthOfProtocol.form hq
    obtain rfl : r = ((T.depth : Nat) : Int) := h.symm
    have C1 : Aside0 (Calls Try.prog 82 #[.string a0] w fun e w' => ∃ b, e = .returned (.tuple #[.pointer (some ⟨b, 0, none⟩), .bool true]) ∧ impl_readTurn.Lies w.heap.size w' T (.pointer (some ⟨b, 0, none⟩)) ∧ Below w.heap.size w w') := ⟨HC.mono (by rw [hq]; rintro e W' ⟨⟨b, he, hl⟩, hb⟩; exact ⟨b, he, hl, hb⟩)⟩
    have C2 := Aside0.mk (fun base w b hl => impl_turn_depth.call hT base w b (by omega) hl)
    generalize ((T.depth : Nat) : Int) = R at *
    clear HC h hq hN hT
    go_enter Try.func47, Try.ntmps47
    go_wp2_with (first | (go_at_call 82; (with_reducible refine C1.out.mono ?_); rintro e w1 ⟨b1, rfl, hl1, hb1⟩; have L1 := Aside0.mk hl1; clear hl1) | (go_at_call 83; (with_reducible refine (C2.out w.heap.size _ b1 L1.out).mono ?_); rintro e w' ⟨rfl, ⟨nd2, rfl⟩⟩))
    go_ret
    exact ⟨rfl, pw_below_drewN hb1 _⟩


end Go.Proofs.Ytdgbfpnjnfpjaaa.Print
