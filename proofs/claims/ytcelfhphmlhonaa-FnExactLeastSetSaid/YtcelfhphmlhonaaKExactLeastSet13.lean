/- Functions of the given program as plain Lean functions, with proofs that their calls compute them, or lemmas on these. Laid by a program of this repo for the seat Ytcelfhphmlhonaa; Lean checks it. -/
import Derived.Test.YtcelfhphmlhonaaKExactLeastSet0
import Derived.Test.YtcelfhphmlhonaaKExactLeastSet5
import Derived.Test.YtcelfhphmlhonaaKExactLeastSet10
import Derived.Test.YtcelfhphmlhonaaKExactLeastSet11
import Derived.Test.YtcelfhphmlhonaaKExactLeastSet12
import Derived.Test.YtcelfhphmlhonaaM5
import Derived.Shelf.GgClosure.Gives
import Derived.Deep.RegionHeld3
namespace Go.Proofs.Ytcelfhphmlhonaa.Print
open Go.RowKit Go.Proofs.YtcelfhphmlhonaaW.PrintWords Go.Proofs.YtcelfhphmlhonaaW.PrintLast Go.Proofs.YtcelfhphmlhonaaW.PrintMore
attribute [local go_sem] max2_int min2_int max_two min_two max_three min_three max_four min_four   -- for this text's walks alone
set_option linter.unusedVariables false
set_option linter.unusedSimpArgs false

--OWNPART
/-! ### impl_LeastSet: function 51 -/
--IMPORT M5
--IMPORT Derived.Shelf.GgClosure.Gives
--IMPORT Derived.Deep.RegionHeld3
open Go.Proofs.Ytcelfhphmlhonaa.M
/-- how the sizes of two sets differ -/
def impl_LeastSet.cf (a b : Int) : Int := wrap64 ((impl_ones.f a).getD 0 - (impl_ones.f b).getD 0)
def impl_LeastSet.f (k : Nat) (a0 : Int) (l1 : List (S82)) : Option (Int × Bool) :=
  (impl_IsSampleList.f a0 l1).bind fun q => if q = true then ((impl_consistent.f k a0 l1).bind fun out => if out.length = 0 then some (0, false) else some (slices_MinFunc_int_int.best impl_LeastSet.cf out (out.length - 1), true)) else some (0, false)
theorem impl_LeastSet.mono : ∀ a0 l1 k, LeO (impl_LeastSet.f k a0 l1) (impl_LeastSet.f (k + 1) a0 l1) := by
  intro a0 l1 k
  unfold impl_LeastSet.f
  exact LeO.bind (LeO.refl _) (fun _ => LeO.ite (LeO.bind (impl_consistent.mono _ _ _) (fun _ => LeO.refl _)) (LeO.refl _))
theorem impl_LeastSet.ones_some (a : Int) : ∃ r, impl_ones.f a = some r := by
  unfold impl_ones.f bits_OnesCount64.f
  exact ⟨_, Option.bind_some _ _⟩
theorem impl_LeastSet.clo (a b : Int) (w : World) :
    Calls Try.prog 83 #[.int .i64 a, .int .i64 b] w fun e w' => e = .returned (.int .i64 (impl_LeastSet.cf a b)) ∧ Below w.heap.size w w' := by
  obtain ⟨x, hx⟩ := impl_LeastSet.ones_some a
  obtain ⟨y, hy⟩ := impl_LeastSet.ones_some b
  have e : impl_LeastSet.cf a b = wrap64 (x - y) := by unfold impl_LeastSet.cf; rw [hx, hy, Option.getD_some, Option.getD_some]
  have HA : Aside0 (∀ W, Calls Try.prog 84 #[.int .i64 a] W fun e w' => e = .returned (.int .i64 x) ∧ Drawn0 W w') := ⟨fun W => impl_ones.calls a _ W hx⟩
  have HB : Aside0 (∀ W, Calls Try.prog 84 #[.int .i64 b] W fun e w' => e = .returned (.int .i64 y) ∧ Drawn0 W w') := ⟨fun W => impl_ones.calls b _ W hy⟩
  rw [e]
  clear e hx hy
  go_enter Try.func83, Try.ntmps83
  go_wp2_with (first | (go_at_call 84; (with_reducible first | refine (HA.out _).mono ?_ | refine (HB.out _).mono ?_); rintro e w' ⟨rfl, ⟨nd2, rfl⟩⟩))
  go_ret
  exact ⟨rfl, by repeat (first | exact Below.refl _ _ | apply pw_below_drewN)⟩
set_option maxHeartbeats 1600000 in
set_option maxRecDepth 100000 in
theorem impl_LeastSet.calls (k : Nat) (a0 : Int) (A1 : Option Addr) (c1 : Nat) (l1 : List (S82)) (r1 : Int) (r2 : Bool) (w : World) (hr1 : Kd.C k82 w A1 l1.length l1) (hc1 : l1.length ≤ c1) (h : impl_LeastSet.f k a0 l1 = some (r1, r2)) :
    Calls Try.prog 51 #[.int .i64 a0, .slice A1 l1.length c1] w fun e w' => e = .returned (.tuple #[.int .i64 r1, .bool r2]) ∧ Below w.heap.size w w' := by
  unfold impl_LeastSet.f at h
  obtain ⟨q, hq, h⟩ := Option.bind_eq_some_iff.mp h
  have C1 : Aside0 (Calls Try.prog 72 #[.int .i64 a0, .slice A1 l1.length c1] w fun e W' => e = .returned (.bool q) ∧ Below w.heap.size w W') := ⟨impl_IsSampleList.calls a0 A1 c1 l1 q w hr1 hc1 hq⟩
  cases q with
  | false =>
    rw [if_neg (by decide)] at h
    simp only [Option.some.injEq, Prod.mk.injEq] at h
    obtain ⟨rfl, rfl⟩ := h
    clear hr1 hc1 hq
    go_enter Try.func51, Try.ntmps51
    go_wp2_with (first | (go_at_call 72; (with_reducible refine C1.out.mono ?_); rintro e w1 ⟨rfl, hb1⟩))
    go_ret2
    exact ⟨rfl, hb1⟩
  | true =>
    rw [if_pos rfl] at h
    obtain ⟨out, ho, h⟩ := Option.bind_eq_some_iff.mp h
    have C2 : Aside0 (∀ W, Below w.heap.size w W → Calls Try.prog 80 #[.int .i64 a0, .slice A1 l1.length c1] W fun e w' => ∃ v0_ : Value, e = .returned v0_ ∧ Kd.R (Kd.int .i64) 3 w' W.heap.size (fun _ => True) v0_ out ∧ Below W.heap.size W w') := ⟨fun W hb => impl_consistent.calls k a0 A1 c1 l1 out W (Kd.C_below hr1 hb) hc1 ho⟩
    by_cases hz : out.length = 0
    · rw [if_pos hz] at h
      simp only [Option.some.injEq, Prod.mk.injEq] at h
      obtain ⟨rfl, rfl⟩ := h
      have hz2 : ((out.length : Int) == 0) = true := by rw [hz]; rfl
      clear hr1 hc1 hq ho hz
      go_enter Try.func51, Try.ntmps51
      go_wp2_with (first | (go_at_call 72; (with_reducible refine C1.out.mono ?_); rintro e w1 ⟨rfl, hb1⟩; have B1 := Aside0.mk hb1; clear hb1) | (go_at_call 80; (with_reducible refine (C2.out _ B1.out).mono ?_); rintro e w2 ⟨v0, rfl, hr, hb2⟩; have B2 := Aside0.mk (B1.out.trans (hb2.mono B1.out.size)); obtain ⟨Ao, co, rfl⟩ := Kd.R_slice hr; clear hb2 hr))
      go_ret2
      exact ⟨rfl, B2.out⟩
    · rw [if_neg hz] at h
      simp only [Option.some.injEq, Prod.mk.injEq] at h
      obtain ⟨rfl, rfl⟩ := h
      have hz2 : ((out.length : Int) == 0) = false := beq_eq_false_iff_ne.mpr (by omega)
      have C3 : Aside0 (∀ W Ao co, Kd.R (Kd.int .i64) 3 W w.heap.size (fun _ => True) (.slice Ao out.length co) out → Calls Try.prog 82 #[.slice Ao out.length co, .func (.func 83) #[] #[]] W fun e w' => e = .returned (.int .i64 (slices_MinFunc_int_int.best impl_LeastSet.cf out (out.length - 1))) ∧ Below W.heap.size W w') := ⟨fun W Ao co hr => by
        have hlen : out.length ≤ 32 := by
          unfold impl_consistent.f at ho
          by_cases hb : 0 ≤ a0 ∧ a0 ≤ 5
          · rw [if_pos hb] at ho
            have h1 := impl_consistent.con_len ho
            have h2 := pow_le_5 (n := a0.toNat) (by omega)
            omega
          · rw [if_neg hb] at ho; cases ho
        exact slices_MinFunc_int_int.call impl_LeastSet.cf 83 #[] (enters_of Try.func83 (by kernel_rfl) rfl) Ao co out W (Kd.R_reads' hr).2.2 (by omega) (by omega) (fun x y W' _ _ _ => impl_LeastSet.clo x y W')⟩
      generalize slices_MinFunc_int_int.best impl_LeastSet.cf out (out.length - 1) = r at *
      clear hr1 hc1 hq ho hz
      go_enter Try.func51, Try.ntmps51
      go_wp2_with (first | (go_at_call 72; (with_reducible refine C1.out.mono ?_); rintro e w1 ⟨rfl, hb1⟩; have B1 := Aside0.mk hb1; clear hb1) | (go_at_call 80; (with_reducible refine (C2.out _ B1.out).mono ?_); rintro e w2 ⟨v0, rfl, hr, hb2⟩; have B2 := Aside0.mk (B1.out.trans (hb2.mono B1.out.size)); have HR2 := Aside0.mk (Kd.R_lower hr B1.out.size); clear hb2 hr; obtain ⟨Ao, co, rfl⟩ := Kd.R_slice HR2.out) | (go_at_call 82; (with_reducible refine (C3.out _ _ _ HR2.out).mono ?_); rintro e w3 ⟨rfl, hb3⟩; have B3 := Aside0.mk (B2.out.trans (hb3.mono B2.out.size)); clear hb3))
      go_ret2
      exact ⟨rfl, B3.out⟩


end Go.Proofs.Ytcelfhphmlhonaa.Print
