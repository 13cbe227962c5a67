/- Functions of the given program as plain Lean functions, with proofs that their calls compute them, or lemmas on these. Laid by a program of this repo for the seat Ytlcgappojmdgfaa; Lean checks it. -/
import Derived.Test.YtlcgappojmdgfaaKExactRunProtocol0
import Derived.Test.YtlcgappojmdgfaaKExactRunProtocol4
import Derived.Test.YtlcgappojmdgfaaM9
namespace Go.Proofs.Ytlcgappojmdgfaa.Print
open Go.RowKit Go.Proofs.YtlcgappojmdgfaaW.PrintWords Go.Proofs.YtlcgappojmdgfaaW.PrintLast Go.Proofs.YtlcgappojmdgfaaW.PrintMore
attribute [local go_sem] max2_int min2_int max_two min_two max_three min_three max_four min_four   -- for this text's walks alone
set_option linter.unusedVariables false
set_option linter.unusedSimpArgs false

--OWNPART
/-! ### impl_wholeTurn: function 36 -/
--IMPORT M9
open Go.Proofs.Ytlcgappojmdgfaa.M
set_option maxHeartbeats 11000000 in
theorem impl_wholeTurn.call (S : ByteArray) (w : World) : Calls Try.prog 36 #[.string S] w fun e w' =>
    (match protOf S with
    | some T => ∃ b, e = .returned (.tuple #[.pointer (some ⟨b, 0, none⟩), .bool true]) ∧ impl_readTurn.Lies w.heap.size w' T (.pointer (some ⟨b, 0, none⟩))
    | none => ∃ v, e = .returned (.tuple #[v, .bool false])) ∧ Below w.heap.size w w' := by
  by_cases h100 : S.size ≤ 100
  · have d100 : decide ((S.size : Int) > 100) = false := decide_eq_false (by omega)
    have d61 : decide (100 < (S.size : Int)) = false := decide_eq_false (by omega)
    have hz : S.extract 0 S.size = S := by simp
    have HC := Aside0.mk (fun W => impl_readTurn.call S (by omega) S.size 0 W (by omega) (by omega))
    rw [hz] at HC
    unfold protOf
    rw [if_pos h100]
    cases hq : rt S S.size 0 with
    | none =>
      have C1 : Aside0 (∀ W, Calls Try.prog 61 #[.string S] W fun e W' => e = .returned (.tuple #[.pointer none, .string ⟨#[]⟩]) ∧ Below W.heap.size W W') := ⟨fun W => by have h := HC.out W; rw [hq] at h; exact h⟩
      rw [Option.bind_none]
      clear HC hq h100 hz
      go_enter Try.func36, Try.ntmps36
      go_wp2_with (first | (go_at_call 61; (with_reducible refine (C1.out _).mono ?_); rintro e w1 ⟨rfl, hb1⟩))
      go_ret2
      exact ⟨⟨_, rfl⟩, hb1⟩
    | some p =>
      obtain ⟨T, j⟩ := p
      obtain ⟨f1, f2, f3, f4⟩ := rt_some hq
      obtain ⟨t, ht⟩ : ∃ t, t = S.extract j S.size := ⟨_, rfl⟩
      have C1 : Aside0 (∀ W, Calls Try.prog 61 #[.string S] W fun e W' => ∃ b, e = .returned (.tuple #[.pointer (some ⟨b, 0, none⟩), .string t]) ∧ impl_readTurn.Lies W.heap.size W' T (.pointer (some ⟨b, 0, none⟩)) ∧ Below W.heap.size W W') := ⟨fun W => (HC.out W).mono (by
          rw [hq]; rintro e W' ⟨⟨v, he, hl⟩, hb⟩
          obtain ⟨b, rfl⟩ := hl.fine f1
          rw [← ht] at he
          exact ⟨b, he, hl, hb⟩)⟩
      rw [Option.bind_some]
      simp only []
      have hl : t.toList.length = S.size - j := by rw [toList_len, ht]; simp [ByteArray.size_extract]
      by_cases hj : j = S.size
      · rw [if_pos hj]
        have hne : t.toList.isEmpty = true := by
          rw [List.isEmpty_iff]
          exact List.eq_nil_of_length_eq_zero (by omega)
        clear HC hq h100 hz ht hl hj f1 f2 f3 f4
        go_enter Try.func36, Try.ntmps36
        go_wp2_with (first | (go_at_call 61; (with_reducible refine (C1.out _).mono ?_); rintro e w1 ⟨b1, rfl, hl1, hb1⟩; have L1 := Aside0.mk hl1; clear hl1))
        go_ret2
        exact ⟨⟨b1, rfl, L1.out⟩, hb1⟩
      · rw [if_neg hj]
        have hne : t.toList.isEmpty = false := by
          rw [List.isEmpty_eq_false_iff]
          intro e
          rw [e] at hl
          simp at hl; omega
        clear HC hq h100 hz ht hl hj f1 f2 f3 f4
        go_enter Try.func36, Try.ntmps36
        go_wp2_with (first | (go_at_call 61; (with_reducible refine (C1.out _).mono ?_); rintro e w1 ⟨b1, rfl, hl1, hb1⟩; have L1 := Aside0.mk hl1; clear hl1))
        go_ret2
        exact ⟨⟨_, rfl⟩, hb1⟩
  · have d100 : decide ((S.size : Int) > 100) = true := decide_eq_true (by omega)
    have d61 : decide (100 < (S.size : Int)) = true := decide_eq_true (by omega)
    unfold protOf
    rw [if_neg h100]
    clear h100
    go_enter Try.func36, Try.ntmps36
    go_wp2_with (fail)
    go_ret2
    exact ⟨⟨_, rfl⟩, Below.refl _ _⟩


end Go.Proofs.Ytlcgappojmdgfaa.Print
