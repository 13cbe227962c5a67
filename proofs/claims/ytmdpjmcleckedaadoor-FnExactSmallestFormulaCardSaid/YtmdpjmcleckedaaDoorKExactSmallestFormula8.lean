/- Functions of the given program as plain Lean functions, with proofs that their calls compute them, or lemmas on these. Laid by a program of this repo for the seat YtmdpjmcleckedaaDoor; Lean checks it. -/
import Derived.Test.YtmdpjmcleckedaaDoorKExactSmallestFormula0
import Derived.Test.YtmdpjmcleckedaaDoorKExactSmallestFormula6
namespace Go.Proofs.YtmdpjmcleckedaaDoor.Print
open Go.RowKit Go.Proofs.YtmdpjmcleckedaaDoorW.PrintWords Go.Proofs.YtmdpjmcleckedaaDoorW.PrintLast Go.Proofs.YtmdpjmcleckedaaDoorW.PrintMore
attribute [local go_sem] max2_int min2_int max_two min_two max_three min_three max_four min_four   -- for this text's walks alone
set_option linter.unusedVariables false
set_option linter.unusedSimpArgs false

--OWNPART
/-! ### strconv_FormatInt: function 35 -/
def strconv_FormatInt.f (a0 : Int) (a1 : Int) : Option (ByteArray) := if a1 = 10 then strconv_small.f a0 else none
set_option maxRecDepth 100000 in
theorem strconv_FormatInt.calls (a0 : Int) (a1 : Int) (r : ByteArray) (w : World) (h : strconv_FormatInt.f a0 a1 = some r) :
    Calls Tryd.prog 35 #[.int .i64 a0, .int .i64 a1] w fun e w' => e = .returned (.string r) ∧ Drawn0 w w' := by
  unfold strconv_FormatInt.f at h
  by_cases h1 : a1 = 10
  · subst h1
    rw [if_pos rfl] at h
    have HS := Aside0.mk (fun W => strconv_small.calls a0 r W h)
    have h01 : a0 = 0 ∨ a0 = 1 := by
      unfold strconv_small.f at h
      by_cases e0 : a0 = 0
      · exact .inl e0
      · by_cases e1 : a0 = 1
        · exact .inr e1
        · rw [if_neg e0, if_neg e1] at h; cases h
    clear h
    rcases h01 with rfl | rfl
    · go_enter Tryd.func35, Tryd.ntmps35
      go_wp2_with (first | (go_at_call 36; (with_reducible refine (HS.out _).mono ?_); rintro e w1 ⟨rfl, hd⟩; have HD := Aside0.mk hd; clear hd))
      go_ret
      exact ⟨rfl, by first | exact HD.out | (exact HD.out.drewN_left) | (repeat (first | exact HD.out | apply Drawn0.step))⟩
    · go_enter Tryd.func35, Tryd.ntmps35
      go_wp2_with (first | (go_at_call 36; (with_reducible refine (HS.out _).mono ?_); rintro e w1 ⟨rfl, hd⟩; have HD := Aside0.mk hd; clear hd))
      go_ret
      exact ⟨rfl, by first | exact HD.out | (repeat (first | exact HD.out | apply Drawn0.step))⟩
  · rw [if_neg h1] at h; cases h


end Go.Proofs.YtmdpjmcleckedaaDoor.Print
