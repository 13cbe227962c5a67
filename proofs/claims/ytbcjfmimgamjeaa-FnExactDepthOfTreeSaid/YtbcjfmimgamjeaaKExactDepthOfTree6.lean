/- Functions of the given program as plain Lean functions, with proofs that their calls compute them, or lemmas on these. Laid by a program of this repo for the seat Ytbcjfmimgamjeaa; Lean checks it. -/
import Derived.Test.YtbcjfmimgamjeaaKExactDepthOfTree0
import Derived.Test.YtbcjfmimgamjeaaKExactDepthOfTree3
import Derived.Test.YtbcjfmimgamjeaaKExactDepthOfTree4
import Derived.Test.YtbcjfmimgamjeaaKExactDepthOfTree5
import Derived.Test.YtbcjfmimgamjeaaM11
namespace Go.Proofs.Ytbcjfmimgamjeaa.Print
open Go.RowKit Go.Proofs.YtbcjfmimgamjeaaW.PrintWords Go.Proofs.YtbcjfmimgamjeaaW.PrintLast Go.Proofs.YtbcjfmimgamjeaaW.PrintMore
attribute [local go_sem] max2_int min2_int max_two min_two max_three min_three max_four min_four   -- for this text's walks alone
set_option linter.unusedVariables false
set_option linter.unusedSimpArgs false

--OWNPART
/-! ### impl_DepthOfTree: function 12 -/
--IMPORT M11
open Go.Proofs.Ytbcjfmimgamjeaa.M
def impl_DepthOfTree.f (a0 : ByteArray) : Option (Int) := if a0.size ≤ 1000000000 then some (match treeOf a0 with | some T => ((T.depth : Nat) : Int) | none => -1) else none
theorem impl_DepthOfTree.calls (a0 : ByteArray) (r : Int) (w : World) (h : impl_DepthOfTree.f a0 = some r) : Calls Try.prog 12 #[.string a0] w fun e w' => e = .returned (.int .i64 r) ∧ Below w.heap.size w w' := by
  unfold impl_DepthOfTree.f at h
  by_cases hS : a0.size ≤ 1000000000
  · rw [if_pos hS] at h
    have h := Option.some.inj h
    have HC := impl_wholeTree.call a0 hS w
    cases hq : treeOf a0 with
    | none =>
      rw [hq] at h
      obtain rfl : r = -1 := h.symm
      have C1 : Aside0 (Calls Try.prog 33 #[.string a0] w fun e w' => ∃ v, e = .returned (.tuple #[v, .bool false]) ∧ Below w.heap.size w w') := ⟨HC.mono (by rw [hq]; rintro e W' ⟨⟨v, he⟩, hb⟩; exact ⟨v, he, hb⟩)⟩
      clear HC h hq hS
      go_enter Try.func12, Try.ntmps12
      go_wp2_with (first | (go_at_call 33; (with_reducible refine C1.out.mono ?_); rintro e w1 ⟨v1, rfl, hb1⟩))
      go_ret
      exact ⟨rfl, hb1⟩
    | some T =>
      rw [hq] at h
      obtain ⟨_, _, _, hT⟩ := treeOf_some hq
      obtain rfl : r = ((T.depth : Nat) : Int) := h.symm
      have C1 : Aside0 (Calls Try.prog 33 #[.string a0] w fun e w' => ∃ b, e = .returned (.tuple #[.pointer (some ⟨b, 0, none⟩), .bool true]) ∧ impl_readTree.Lies w.heap.size w' T (.pointer (some ⟨b, 0, none⟩)) ∧ Below w.heap.size w w') := ⟨HC.mono (by rw [hq]; rintro e W' ⟨⟨b, he, hl⟩, hb⟩; exact ⟨b, he, hl, hb⟩)⟩
      have C2 := Aside0.mk (fun base w b hl => impl_tree_depth.call hT (by decide) base w b hl)
      generalize ((T.depth : Nat) : Int) = R at *
      clear HC h hq hT hS
      go_enter Try.func12, Try.ntmps12
      go_wp2_with (first | (go_at_call 33; (with_reducible refine C1.out.mono ?_); rintro e w1 ⟨b1, rfl, hl1, hb1⟩; have L1 := Aside0.mk hl1; clear hl1) | (go_at_call 34; (with_reducible refine (C2.out w.heap.size _ b1 L1.out).mono ?_); rintro e w' ⟨rfl, ⟨nd2, rfl⟩⟩))
      go_ret
      exact ⟨rfl, pw_below_drewN hb1 _⟩
  · rw [if_neg hS] at h; cases h


end Go.Proofs.Ytbcjfmimgamjeaa.Print
