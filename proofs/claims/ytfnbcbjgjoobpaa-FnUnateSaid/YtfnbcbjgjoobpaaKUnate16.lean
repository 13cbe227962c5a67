/- Functions of the given program as plain Lean functions, with proofs that their calls compute them, or lemmas on these. Laid by a program of this repo for the seat Ytfnbcbjgjoobpaa; Lean checks it. -/
import Derived.Test.YtfnbcbjgjoobpaaKUnate0
import Derived.Test.YtfnbcbjgjoobpaaKUnate9
import Derived.Test.YtfnbcbjgjoobpaaKUnate15
import Derived.Test.YtfnbcbjgjoobpaaM7
import Derived.Shelf.GgClosure.Gives
namespace Go.Proofs.Ytfnbcbjgjoobpaa.Print
open Go.RowKit Go.Proofs.YtfnbcbjgjoobpaaW.PrintWords Go.Proofs.YtfnbcbjgjoobpaaW.PrintLast Go.Proofs.YtfnbcbjgjoobpaaW.PrintMore
attribute [local go_sem] max2_int min2_int max_two min_two max_three min_three max_four min_four   -- for this text's walks alone
set_option linter.unusedVariables false
set_option linter.unusedSimpArgs false

--OWNPART
/-! ### impl_CountUnate: function 22 -/
--IMPORT M7
--IMPORT Derived.Shelf.GgClosure.Gives
open Go.Proofs.Ytfnbcbjgjoobpaa.M
def impl_CountUnate.f (k : Nat) (a0 : Int) : Option (Int) := if 0 ≤ a0 ∧ a0 ≤ 4 then (cntO (fun i => impl_IsUnate.f k a0 (i : Int)) (2 ^ 2 ^ a0.toNat)).bind fun c => some (c : Int) else some (-1)
theorem impl_CountUnate.calls (k : Nat) (a0 : Int) (r : Int) (w : World) (h : impl_CountUnate.f k a0 = some r) : Calls Try.prog 22 #[.int .i64 a0] w fun e w' => e = .returned (.int .i64 r) ∧ Below w.heap.size w w' := by
  unfold impl_CountUnate.f at h
  by_cases hb : 0 ≤ a0 ∧ a0 ≤ 4
  · rw [if_pos hb] at h
    obtain ⟨c, hc, hr⟩ := Option.bind_eq_some_iff.mp h
    clear h
    injection hr with h
    obtain ⟨n, rfl⟩ := nat_of hb.1
    rw [Int.toNat_natCast] at hc
    obtain ⟨h1, h2⟩ := cntO_some hc
    have HC := impl_countTables.good n (2 ^ 2 ^ n) (by omega) rfl 9 #[] (enters_of Try.func9 (by kernel_rfl) rfl) (fun i => (impl_IsUnate.f k (n : Int) (i : Int)).getD false) w (fun i W hi _ => impl_IsUnate.calls k (n : Int) (i : Int) _ W (h1 i hi))
    rw [← h2, h] at HC
    have HCA := Aside0.mk HC
    clear HC h1 h2 hc h hb
    go_enter Try.func22, Try.ntmps22
    go_wp2_with (first | (go_at_call 109; (with_reducible refine HCA.out.mono ?_); rintro e w1 ⟨rfl, hb1⟩))
    go_ret
    exact ⟨rfl, hb1⟩
  · rw [if_neg hb] at h
    injection h with h
    subst h
    have HCA := Aside0.mk (impl_countTables.bad a0 9 #[] w hb)
    clear hb
    go_enter Try.func22, Try.ntmps22
    go_wp2_with (first | (go_at_call 109; (with_reducible refine HCA.out.mono ?_); rintro e w1 ⟨rfl, hb1⟩))
    go_ret
    exact ⟨rfl, hb1⟩


end Go.Proofs.Ytfnbcbjgjoobpaa.Print
