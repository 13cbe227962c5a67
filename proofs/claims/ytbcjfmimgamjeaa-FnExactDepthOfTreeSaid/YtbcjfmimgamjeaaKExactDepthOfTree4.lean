/- Functions of the given program as plain Lean functions, with proofs that their calls compute them, or lemmas on these. Laid by a program of this repo for the seat Ytbcjfmimgamjeaa; Lean checks it. -/
import Derived.Test.YtbcjfmimgamjeaaKExactDepthOfTree0
import Derived.Test.YtbcjfmimgamjeaaKExactDepthOfTree3
import Derived.Test.YtbcjfmimgamjeaaM11
namespace Go.Proofs.Ytbcjfmimgamjeaa.Print
open Go.RowKit Go.Proofs.YtbcjfmimgamjeaaW.PrintWords Go.Proofs.YtbcjfmimgamjeaaW.PrintLast Go.Proofs.YtbcjfmimgamjeaaW.PrintMore
attribute [local go_sem] max2_int min2_int max_two min_two max_three min_three max_four min_four   -- for this text's walks alone
set_option linter.unusedVariables false
set_option linter.unusedSimpArgs false

--OWNPART
/-! ### impl_wholeTree: function 33 -/
--IMPORT M11
open Go.Proofs.Ytbcjfmimgamjeaa.M
set_option maxHeartbeats 11000000 in
theorem impl_wholeTree.call (S : ByteArray) (hS : S.size ≤ 1000000000) (w : World) : Calls Try.prog 33 #[.string S] w fun e w' =>
    (match treeOf S with
    | some T => ∃ b, e = .returned (.tuple #[.pointer (some ⟨b, 0, none⟩), .bool true]) ∧ impl_readTree.Lies w.heap.size w' T (.pointer (some ⟨b, 0, none⟩))
    | none => ∃ v, e = .returned (.tuple #[v, .bool false])) ∧ Below w.heap.size w w' := by
  have hz : S.extract 0 S.size = S := by simp
  have HC := Aside0.mk (fun W => impl_readTree.call S hS 6 0 0 W (by decide) (by decide) (by omega))
  rw [hz] at HC
  unfold treeOf
  cases hq : tp S 6 0 0 with
  | none =>
    have C1 : Aside0 (∀ W, Calls Try.prog 57 #[.string S, .int .i64 0] W fun e W' => e = .returned (.tuple #[.pointer none, .string ⟨#[]⟩]) ∧ Below W.heap.size W W') := ⟨fun W => by have h := HC.out W; rw [hq] at h; exact h⟩
    rw [Option.bind_none]
    clear HC hq hS hz
    go_enter Try.func33, Try.ntmps33
    go_wp2_with (first | (go_at_call 57; (with_reducible refine (C1.out _).mono ?_); rintro e w1 ⟨rfl, hb1⟩))
    go_ret2
    exact ⟨⟨_, rfl⟩, hb1⟩
  | some p =>
    obtain ⟨T, j⟩ := p
    obtain ⟨f1, f2, f3, f4⟩ := tp_some (by decide) hq
    obtain ⟨t, ht⟩ : ∃ t, t = S.extract j S.size := ⟨_, rfl⟩
    have C1 : Aside0 (∀ W, Calls Try.prog 57 #[.string S, .int .i64 0] W fun e W' => ∃ b, e = .returned (.tuple #[.pointer (some ⟨b, 0, none⟩), .string t]) ∧ impl_readTree.Lies W.heap.size W' T (.pointer (some ⟨b, 0, none⟩)) ∧ Below W.heap.size W W') := ⟨fun W => (HC.out W).mono (by
        rw [hq]; rintro e W' ⟨⟨v, he, hl⟩, hb⟩
        obtain ⟨b, rfl⟩ := hl.fine f1
        rw [← ht] at he
        exact ⟨b, he, hl, hb⟩)⟩
    rw [Option.bind_some]
    simp only []
    have hl : t.toList.length = S.size - j := by rw [toList_len, ht]; simp [ByteArray.size_extract]
    by_cases hj : j = S.size
    · rw [if_pos hj]
      have hne : t.toList.isEmpty = true := by
        rw [List.isEmpty_iff]
        exact List.eq_nil_of_length_eq_zero (by omega)
      clear HC hq hS hz ht hl hj f1 f2 f3 f4
      go_enter Try.func33, Try.ntmps33
      go_wp2_with (first | (go_at_call 57; (with_reducible refine (C1.out _).mono ?_); rintro e w1 ⟨b1, rfl, hl1, hb1⟩; have L1 := Aside0.mk hl1; clear hl1))
      go_ret2
      exact ⟨⟨b1, rfl, L1.out⟩, hb1⟩
    · rw [if_neg hj]
      have hne : t.toList.isEmpty = false := by
        rw [List.isEmpty_eq_false_iff]
        intro e
        rw [e] at hl
        simp at hl; omega
      clear HC hq hS hz ht hl hj f1 f2 f3 f4
      go_enter Try.func33, Try.ntmps33
      go_wp2_with (first | (go_at_call 57; (with_reducible refine (C1.out _).mono ?_); rintro e w1 ⟨b1, rfl, hl1, hb1⟩; have L1 := Aside0.mk hl1; clear hl1))
      go_ret2
      exact ⟨⟨_, rfl⟩, hb1⟩


end Go.Proofs.Ytbcjfmimgamjeaa.Print
