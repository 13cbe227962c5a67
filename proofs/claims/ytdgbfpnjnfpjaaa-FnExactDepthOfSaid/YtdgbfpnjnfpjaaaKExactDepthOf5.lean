/- Functions of the given program as plain Lean functions, with proofs that their calls compute them, or lemmas on these. Laid by a program of this repo for the seat Ytdgbfpnjnfpjaaa; Lean checks it. -/
import Derived.Test.YtdgbfpnjnfpjaaaKExactDepthOf0
import Derived.Test.YtdgbfpnjnfpjaaaKExactDepthOf2
import Derived.Test.YtdgbfpnjnfpjaaaKExactDepthOf4
import Derived.Test.YtdgbfpnjnfpjaaaM6
namespace Go.Proofs.Ytdgbfpnjnfpjaaa.Print
open Go.RowKit Go.Proofs.YtdgbfpnjnfpjaaaW.PrintWords Go.Proofs.YtdgbfpnjnfpjaaaW.PrintLast Go.Proofs.YtdgbfpnjnfpjaaaW.PrintMore
attribute [local go_sem] max2_int min2_int max_two min_two max_three min_three max_four min_four   -- for this text's walks alone
set_option linter.unusedVariables false
set_option linter.unusedSimpArgs false

--OWNPART
/-! ### impl_part_depth: function 75 -/
--IMPORT M6
open Go.Proofs.Ytdgbfpnjnfpjaaa.M
theorem impl_part_depth.drew {base : Nat} {w : World} {T : Sh} {v : Value} (h : impl_readPart.Lies base w T v) (n : Nat) : impl_readPart.Lies base (w.drewN n) T v := h.below (pw_below_drewN (Below.refl _ _) n)
set_option maxHeartbeats 1600000 in
theorem impl_part_depth.call {T : Sh} (hT : Fine T) : ∀ (base : Nat) (w : World) (b : Nat), T.nodes ≤ 1000000 → impl_readPart.Lies base w T (.pointer (some ⟨b, 0, none⟩)) → Calls Try.prog 75 #[.pointer (some ⟨b, 0, none⟩)] w fun e w' => e = .returned (.int .i64 ((T.depth : Nat) : Int)) ∧ Drawn0 w w' := by
  induction hT with
  | leaf c =>
    intro base w b hn hl
    obtain ⟨b', vl, vr, h0, h1, h2, h3, h4, h5, h6⟩ := hl
    obtain rfl : b = b' := by injection h1 with h1; injection h1 with h1; injection h1
    obtain rfl : vl = .pointer none := h5
    have A0 := Aside0.mk (impl_part_isLeaf.yes b w h3)
    clear hn h0 h1 h2 h3 h4 h6
    show Calls _ _ _ _ fun e w' => e = .returned (.int .i64 0) ∧ _
    go_enter Try.func75, Try.ntmps75
    go_wp2_with (first | (go_at_call 94; (with_reducible refine A0.out.mono ?_); rintro e w' ⟨rfl, ⟨nd, rfl⟩⟩))
    go_ret
    exact ⟨rfl, by repeat (first | exact Drawn0.refl _ | apply Drawn0.step)⟩
  | one c l hF ih =>
    intro base w b hn hl
    rw [depth_one c hF]
    obtain ⟨b', vl, vr, h0, h1, h2, h3, h4, h5, h6⟩ := hl
    obtain rfl : b = b' := by injection h1 with h1; injection h1 with h1; injection h1
    obtain ⟨b1, rfl⟩ := h5.fine hF
    obtain rfl : vr = .pointer none := h6
    have A0 := Aside0.mk (impl_part_isLeaf.no b b1 w h3)
    have C1 := Aside0.mk (fun W (hb : Below w.heap.size w W) => ih base W b1 (by simp [Sh.nodes] at hn; omega) (h5.below hb))
    generalize ((l.depth : Nat) : Int) = R at C1 ⊢
    clear ih hn h0 h1 h2 h5
    go_enter Try.func75, Try.ntmps75
    go_wp2_with (first | (go_at_call 94; (with_reducible refine A0.out.mono ?_); rintro e w' ⟨rfl, ⟨nd, rfl⟩⟩) | (go_at_call 75; (with_reducible refine (C1.out _ ?side).mono ?_); (case side => repeat (first | exact Below.refl _ _ | apply pw_below_drewN)); rintro e w' ⟨rfl, ⟨nd2, rfl⟩⟩))
    go_ret
    exact ⟨rfl, by repeat (first | exact Drawn0.refl _ | apply Drawn0.step)⟩
  | two c l r hF hF2 ih ih2 =>
    intro base w b hn hl
    rw [depth_two c hF hF2]
    obtain ⟨b', vl, vr, h0, h1, h2, h3, h4, h5, h6⟩ := hl
    obtain rfl : b = b' := by injection h1 with h1; injection h1 with h1; injection h1
    obtain ⟨b1, rfl⟩ := h5.fine hF
    obtain ⟨b2, rfl⟩ := h6.fine hF2
    have hl1 := depth_le hF
    have hl2 := depth_le hF2
    have hn' : l.nodes + r.nodes ≤ 1000000 := by simp [Sh.nodes] at hn; omega
    have A0 := Aside0.mk (impl_part_isLeaf.no b b1 w h3)
    have C1 := Aside0.mk (fun W (hb : Below w.heap.size w W) => ih base W b1 (by omega) (h5.below hb))
    have C2 := Aside0.mk (fun W (hb : Below w.heap.size w W) => ih2 base W b2 (by omega) (h6.below hb))
    have e : wrap64 (1 + mx ((l.depth : Nat) : Int) ((r.depth : Nat) : Int)) = ((1 + max l.depth r.depth : Nat) : Int) := by rw [mx_nat, w64 (by omega) (by omega)]; omega
    rw [← e]
    generalize ((l.depth : Nat) : Int) = R1 at C1 ⊢
    generalize ((r.depth : Nat) : Int) = R2 at C2 ⊢
    clear ih ih2 hn h0 h1 h2 h5 h6 hl1 hl2 hn' e
    go_enter Try.func75, Try.ntmps75
    go_wp2_with (first | (go_at_call 94; (with_reducible refine A0.out.mono ?_); rintro e w' ⟨rfl, ⟨nd, rfl⟩⟩))
    repeat (go_quiet (first | (go_at_call 75; (with_reducible first | refine (C1.out _ ?side).mono ?_ | refine (C2.out _ ?side).mono ?_); (case side => repeat (first | exact Below.refl _ _ | apply pw_below_drewN)); rintro e w' ⟨rfl, ⟨nd2, rfl⟩⟩; (first | exact ⟨rfl, _, World.drewN_drewN _ _ _⟩ | exact ⟨rfl, _, Eq.trans (World.drewN_drewN _ _ _) (congrArg (World.drewN _) (Nat.add_assoc _ _ _))⟩))); try go_wp2)
    all_goals
      go_ret
      refine ⟨?_, by repeat (first | exact Drawn0.refl _ | apply Drawn0.step)⟩
      unfold mx
      first
      | rfl
      | (rw [if_pos (by omega)]; rfl)
      | (rw [if_neg (by omega)]; rfl)


end Go.Proofs.Ytdgbfpnjnfpjaaa.Print
