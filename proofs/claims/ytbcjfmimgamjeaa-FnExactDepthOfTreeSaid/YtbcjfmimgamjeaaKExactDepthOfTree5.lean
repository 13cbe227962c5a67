/- Functions of the given program as plain Lean functions, with proofs that their calls compute them, or lemmas on these. Laid by a program of this repo for the seat Ytbcjfmimgamjeaa; Lean checks it. -/
import Derived.Test.YtbcjfmimgamjeaaKExactDepthOfTree0
import Derived.Test.YtbcjfmimgamjeaaKExactDepthOfTree3
import Derived.Test.YtbcjfmimgamjeaaM11
import Derived.BigQuiet
namespace Go.Proofs.Ytbcjfmimgamjeaa.Print
open Go.RowKit Go.Proofs.YtbcjfmimgamjeaaW.PrintWords Go.Proofs.YtbcjfmimgamjeaaW.PrintLast Go.Proofs.YtbcjfmimgamjeaaW.PrintMore
attribute [local go_sem] max2_int min2_int max_two min_two max_three min_three max_four min_four   -- for this text's walks alone
set_option linter.unusedVariables false
set_option linter.unusedSimpArgs false

--OWNPART
/-! ### impl_tree_depth: function 34 -/
--IMPORT M11
--IMPORT Derived.BigQuiet
open Go.Proofs.Ytbcjfmimgamjeaa.M
set_option maxHeartbeats 1600000 in
theorem impl_tree_depth.call {a : Nat} {T : Td} (hT : Dt a T) : a < 32 → ∀ (base : Nat) (w : World) (b : Nat), impl_readTree.Lies base w T (.pointer (some ⟨b, 0, none⟩)) → Calls Try.prog 34 #[.pointer (some ⟨b, 0, none⟩)] w fun e w' => e = .returned (.int .i64 ((T.depth : Nat) : Int)) ∧ Drawn0 w w' := by
  induction hT with
  | leaf a c _ =>
    intro ha base w b hl
    obtain ⟨b', vl, vr, h0, h1, h2, h3, h4, h5, h6⟩ := hl
    obtain rfl : b = b' := by injection h1 with h1; injection h1 with h1; injection h1
    obtain rfl : vl = .pointer none := h5
    clear ha h0 h1 h2 h4 h6
    show Calls _ _ _ _ fun e w' => e = .returned (.int .i64 0) ∧ _
    go_enter Try.func34, Try.ntmps34
    go_wp2_with (fail)
    go_ret
    exact ⟨rfl, by repeat (first | exact Drawn0.refl _ | apply Drawn0.step)⟩
  | ask a c l r hc hv hF hF2 ih ih2 =>
    intro ha base w b hl
    rw [depth_ask c r hF]
    obtain ⟨w1, w2, _⟩ := wth_fre a ha (vr c) (by unfold vr; omega) hv
    obtain ⟨b', vl, vr', h0, h1, h2, h3, h4, h5, h6⟩ := hl
    obtain rfl : b = b' := by injection h1 with h1; injection h1 with h1; injection h1
    obtain ⟨b1, rfl⟩ := h5.fine hF
    obtain ⟨b2, rfl⟩ := h6.fine hF2
    have hl1 := hF.depth_le w2
    have hl2 := hF2.depth_le w2
    have hf := fre_le (wth a (vr c))
    have C1 := Aside0.mk (fun W (hb : Below w.heap.size w W) => ih w2 base W b1 (h5.below hb))
    have C2 := Aside0.mk (fun W (hb : Below w.heap.size w W) => ih2 w2 base W b2 (h6.below hb))
    have e : wrap64 (1 + mx ((l.depth : Nat) : Int) ((r.depth : Nat) : Int)) = ((1 + max l.depth r.depth : Nat) : Int) := by rw [mx_nat, w64 (by omega) (by omega)]; omega
    rw [← e]
    generalize ((l.depth : Nat) : Int) = R1 at C1 ⊢
    generalize ((r.depth : Nat) : Int) = R2 at C2 ⊢
    clear ih ih2 ha h0 h1 h2 h5 h6 hl1 hl2 hf e w1 w2 hc hv hF hF2
    go_enter Try.func34, Try.ntmps34
    go_wp2_with (fail)
    repeat (go_quiet (first | (go_at_call 34; (with_reducible first | refine (C1.out _ ?side).mono ?_ | refine (C2.out _ ?side).mono ?_); (case side => repeat (first | exact Below.refl _ _ | apply pw_below_drewN)); rintro e w' ⟨rfl, ⟨nd2, rfl⟩⟩; (first | exact ⟨rfl, _, World.drewN_drewN _ _ _⟩ | exact ⟨rfl, _, Eq.trans (World.drewN_drewN _ _ _) (congrArg (World.drewN _) (Nat.add_assoc _ _ _))⟩))); try go_wp2)
    all_goals
      go_ret
      refine ⟨?_, by repeat (first | exact Drawn0.refl _ | apply Drawn0.step)⟩
      unfold mx
      first
      | rfl
      | (rw [if_pos (by omega)]; rfl)
      | (rw [if_neg (by omega)]; rfl)


end Go.Proofs.Ytbcjfmimgamjeaa.Print
