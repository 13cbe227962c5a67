/- Functions of the given program as plain Lean functions, with proofs that their calls compute them, or lemmas on these. Laid by a program of this repo for the seat Ytbcjfmimgamjeaa; Lean checks it. -/
import Derived.Test.YtbcjfmimgamjeaaKExactAverageDegree0
import Derived.Test.YtbcjfmimgamjeaaKExactAverageDegree4
import Derived.Test.YtbcjfmimgamjeaaKExactAverageDegree8
import Derived.Test.YtbcjfmimgamjeaaM12
import Derived.Shelf.GgClosure.Gives
import Derived.BigQuiet
namespace Go.Proofs.Ytbcjfmimgamjeaa.Print
open Go.RowKit Go.Proofs.YtbcjfmimgamjeaaW.PrintWords Go.Proofs.YtbcjfmimgamjeaaW.PrintLast Go.Proofs.YtbcjfmimgamjeaaW.PrintMore
attribute [local go_sem] max2_int min2_int max_two min_two max_three min_three max_four min_four   -- for this text's walks alone
set_option linter.unusedVariables false
set_option linter.unusedSimpArgs false

--OWNPART
/-! ### impl_degree: function 71 -/
--IMPORT M12
--IMPORT Derived.Shelf.GgClosure.Gives
--IMPORT Derived.BigQuiet
open Go.Proofs.Ytbcjfmimgamjeaa.M
/-- the most ones of a number below m that is such, or -1 -/
def impl_degree.most (p : Nat → Bool) : Nat → Int
  | 0 => -1
  | m + 1 => if p m = true then mx (impl_degree.most p m) ((pc m : Nat) : Int) else impl_degree.most p m
theorem impl_degree.most_range (p : Nat → Bool) : ∀ m, -1 ≤ impl_degree.most p m ∧ impl_degree.most p m ≤ 32
  | 0 => by simp [impl_degree.most]
  | m + 1 => by
    have h := impl_degree.most_range p m
    have := pc_le m
    rw [impl_degree.most]
    split
    · unfold mx; split <;> omega
    · exact h
set_option maxHeartbeats 4000000 in
set_option maxRecDepth 100000 in
theorem impl_degree.call (n M : Nat) (hn : n ≤ 5) (hM : M = 2 ^ n) (g : Nat) (lb : Array Value) (eg : ∀ args w, (callFunc g args).run Try.prog w = .ok (.enter g args) w) (p : Nat → Bool) (w : World)
    (hp : ∀ (x : Nat) (W : World), x < M → Below w.heap.size w W → Calls Try.prog g (#[.int .i64 (x : Int)] ++ lb) W fun e W' => e = .returned (.bool (p x)) ∧ Below W.heap.size W W') :
    Calls Try.prog 71 #[.int .i64 (n : Int), .func (.func g) #[] lb] w fun e w' => e = .returned (.int .i64 (impl_degree.most p M)) ∧ Below w.heap.size w w' := by
  have h32 := pow_le_5 hn
  have HP := Aside0.mk hp
  have e10 : wrap64 ((2 : Int) ^ n) = (M : Int) := by
    have : ((2 : Int) ^ n) = ((2 ^ n : Nat) : Int) := by push_cast; rfl
    rw [this, ← hM]
    exact w64 (by omega) (by omega)
  have hM32 : M ≤ 32 := by omega
  clear hp hM h32
  go_enter Try.func71, Try.ntmps71
  go_wp2
  rw [e10]
  clear e10
  go_loopg [5, 9] M (fun gg v5 v9 wr => ∃ x : Nat, x ≤ M ∧ M - x ≤ gg ∧ v5 = .int .i64 (impl_degree.most p x) ∧ v9 = .int .i64 (x : Int) ∧ Aside0 (Below w.heap.size w wr))
  case atStart => exact ⟨0, Nat.zero_le _, by omega, rfl, rfl, ⟨Below.refl _ _⟩⟩
  case round =>
    obtain ⟨x, hx, hg, rfl, rfl, HB⟩ := hrel
    by_cases hlt : x < M
    · have hltz : (x : Int) < (M : Int) := by omega
      have hcall := HP.out x wr hlt HB.out
      have hnext : impl_degree.most p (x + 1) = if p x = true then mx (impl_degree.most p x) ((pc x : Nat) : Int) else impl_degree.most p x := rfl
      have HO := Aside0.mk (impl_cubes.ones_pc (w := x) (by omega))
      generalize impl_degree.most p x = s at *
      generalize pc x = c at *
      generalize p x = q at *
      have HC := Aside0.mk hcall
      have HN := Aside0.mk hnext
      clear hcall hnext
      cases q with
      | false =>
        go_wp2_with (first | (go_at_fn g; refine HC.out.mono ?_; rintro e w1 ⟨rfl, hb⟩; have B1 := Aside0.mk (HB.out.trans (hb.mono HB.out.size)); clear hb))
        go_roundg (M - (x + 1))
        case measure => omega
        case rel => exact ⟨x + 1, by omega, by omega, by rw [HN.out, if_neg (by simp)], by go_num, B1⟩
      | true =>
        go_wp2_with (first | (go_at_fn g; refine HC.out.mono ?_; rintro e w1 ⟨rfl, hb⟩; have B1 := Aside0.mk (HB.out.trans (hb.mono HB.out.size)); clear hb) | (go_at_call 84; (with_reducible refine (impl_ones.calls _ _ _ HO.out).mono ?_); rintro e w' ⟨rfl, ⟨nd2, rfl⟩⟩))
        all_goals
          go_roundg (M - (x + 1))
          case measure => omega
          case rel =>
            refine ⟨x + 1, by omega, by omega, ?_, by go_num, ⟨pw_below_drewN B1.out _⟩⟩
            rw [HN.out, if_pos (by simp)]
            unfold mx
            first
            | (rw [if_pos (by omega)]; done)
            | (rw [if_neg (by omega)]; done)
            | (split <;> first | rfl | (congr 1; omega))
    · obtain rfl : x = M := by omega
      go_wp2
      go_ret
      exact ⟨rfl, HB.out⟩


end Go.Proofs.Ytbcjfmimgamjeaa.Print
