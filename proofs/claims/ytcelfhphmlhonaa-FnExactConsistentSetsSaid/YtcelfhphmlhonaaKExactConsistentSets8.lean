/- Functions of the given program as plain Lean functions, with proofs that their calls compute them, or lemmas on these. Laid by a program of this repo for the seat Ytcelfhphmlhonaa; Lean checks it. -/
import Derived.Test.YtcelfhphmlhonaaKExactConsistentSets0
import Derived.Test.YtcelfhphmlhonaaKExactConsistentSets7
import Derived.Test.YtcelfhphmlhonaaM0
import Derived.Shelf.GgClosure.Gives
namespace Go.Proofs.Ytcelfhphmlhonaa.Print
open Go.RowKit Go.Proofs.YtcelfhphmlhonaaW.PrintWords Go.Proofs.YtcelfhphmlhonaaW.PrintLast Go.Proofs.YtcelfhphmlhonaaW.PrintMore
attribute [local go_sem] max2_int min2_int max_two min_two max_three min_three max_four min_four   -- for this text's walks alone
set_option linter.unusedVariables false
set_option linter.unusedSimpArgs false

--OWNPART
/-! ### slices_ContainsFunc_int_int: function 104 -/
--IMPORT M0
--IMPORT Derived.Shelf.GgClosure.Gives
open Go.Proofs.Ytcelfhphmlhonaa.M
theorem slices_ContainsFunc_int_int.call (p : Int → Bool) (g : Nat) (lb : Array Value) (eg : ∀ args w, (callFunc g args).run Try.prog w = .ok (.enter g args) w) (A : Option Addr) (c : Nat) (l : List Int) (w : World) (hr : Kd.C (Kd.int .i64) w A l.length l) (hm : l.length ≤ 9223372036854775807)
    (hp : ∀ (x : Int) (W : World), x ∈ l → Below w.heap.size w W → Calls Try.prog g (#[.int .i64 x] ++ lb) W fun e W' => e = .returned (.bool (p x)) ∧ Below W.heap.size W W') :
    Calls Try.prog 104 #[.slice A l.length c, .func (.func g) #[] lb] w fun e w' => e = .returned (.bool (l.any p)) ∧ Below w.heap.size w w' := by
  have HI := Aside0.mk (slices_IndexFunc_int_int.call p g lb eg A c l w hr hm hp)
  have hv := slices_IndexFunc_int_int.idx_any p l
  clear hp
  generalize slices_IndexFunc_int_int.idx p l = ix at *
  rw [← hv]
  clear hv
  go_enter Try.func104, Try.ntmps104
  go_wp2_with (first | (go_at_call 115; (with_reducible refine HI.out.mono ?_); rintro e w1 ⟨rfl, hb1⟩))
  go_ret
  exact ⟨rfl, hb1⟩


end Go.Proofs.Ytcelfhphmlhonaa.Print
