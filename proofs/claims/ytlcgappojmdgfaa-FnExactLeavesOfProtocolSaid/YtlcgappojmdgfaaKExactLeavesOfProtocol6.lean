/- Functions of the given program as plain Lean functions, with proofs that their calls compute them, or lemmas on these. Laid by a program of this repo for the seat Ytlcgappojmdgfaa; Lean checks it. -/
import Derived.Test.YtlcgappojmdgfaaKExactLeavesOfProtocol0
import Derived.Test.YtlcgappojmdgfaaKExactLeavesOfProtocol4
import Derived.Test.YtlcgappojmdgfaaM9
import Derived.BigQuiet
namespace Go.Proofs.Ytlcgappojmdgfaa.Print
open Go.RowKit Go.Proofs.YtlcgappojmdgfaaW.PrintWords Go.Proofs.YtlcgappojmdgfaaW.PrintLast Go.Proofs.YtlcgappojmdgfaaW.PrintMore
attribute [local go_sem] max2_int min2_int max_two min_two max_three min_three max_four min_four   -- for this text's walks alone
set_option linter.unusedVariables false
set_option linter.unusedSimpArgs false

--OWNPART
/-! ### impl_turn_leaves: function 37 -/
--IMPORT M9
--IMPORT Derived.BigQuiet
open Go.Proofs.Ytlcgappojmdgfaa.M
set_option maxHeartbeats 1600000 in
theorem impl_turn_leaves.call {T : Tn} (hT : FineT T) : ∀ (base : Nat) (w : World) (b : Nat), T.nodes ≤ 1000000 → impl_readTurn.Lies base w T (.pointer (some ⟨b, 0, none⟩)) → Calls Try.prog 37 #[.pointer (some ⟨b, 0, none⟩)] w fun e w' => e = .returned (.int .i64 ((T.leaves : Nat) : Int)) ∧ Drawn0 w w' := by
  induction hT with
  | leaf c _ =>
    intro base w b hn hl
    obtain ⟨b', vl, vr, h0, h1, h2, h3, h4, h5, h6, h7⟩ := hl
    obtain rfl : b = b' := by injection h1 with h1; injection h1 with h1; injection h1
    obtain rfl : vl = .pointer none := h6
    clear hn h0 h1 h2 h3 h5 h7
    show Calls _ _ _ _ fun e w' => e = .returned (.int .i64 1) ∧ _
    go_enter Try.func37, Try.ntmps37
    go_wp2_with (fail)
    go_ret
    exact ⟨rfl, by repeat (first | exact Drawn0.refl _ | apply Drawn0.step)⟩
  | two c d l r _ _ _ hF hF2 ih ih2 =>
    intro base w b hn hl
    rw [tleaves_two c d hF]
    obtain ⟨b', vl, vr, h0, h1, h2, h3, h4, h5, h6, h7⟩ := hl
    obtain rfl : b = b' := by injection h1 with h1; injection h1 with h1; injection h1
    obtain ⟨b1, rfl⟩ := h6.fine hF
    obtain ⟨b2, rfl⟩ := h7.fine hF2
    have hl1 := tleaves_le hF
    have hl2 := tleaves_le hF2
    have hn' : l.nodes + r.nodes ≤ 1000000 := by simp [Tn.nodes] at hn; omega
    have C1 := Aside0.mk (fun W (hb : Below w.heap.size w W) => ih base W b1 (by omega) (h6.below hb))
    have C2 := Aside0.mk (fun W (hb : Below w.heap.size w W) => ih2 base W b2 (by omega) (h7.below hb))
    have e : wrap64 (((l.leaves : Nat) : Int) + ((r.leaves : Nat) : Int)) = ((l.leaves + r.leaves : Nat) : Int) := by rw [w64 (by omega) (by omega)]; omega
    rw [← e]
    generalize ((l.leaves : Nat) : Int) = R1 at C1 ⊢
    generalize ((r.leaves : Nat) : Int) = R2 at C2 ⊢
    clear ih ih2 hn h0 h1 h2 h3 h6 h7 hl1 hl2 hn' e
    go_enter Try.func37, Try.ntmps37
    go_wp2_with (fail)
    repeat (go_quiet (first | (go_at_call 37; (with_reducible first | refine (C1.out _ ?side).mono ?_ | refine (C2.out _ ?side).mono ?_); (case side => repeat (first | exact Below.refl _ _ | apply pw_below_drewN)); rintro e w' ⟨rfl, ⟨nd2, rfl⟩⟩; (first | exact ⟨rfl, _, World.drewN_drewN _ _ _⟩ | exact ⟨rfl, _, Eq.trans (World.drewN_drewN _ _ _) (congrArg (World.drewN _) (Nat.add_assoc _ _ _))⟩))); try go_wp2)
    go_ret
    exact ⟨rfl, by repeat (first | exact Drawn0.refl _ | apply Drawn0.step)⟩


end Go.Proofs.Ytlcgappojmdgfaa.Print
