/- Functions of the given program as plain Lean functions, with proofs that their calls compute them, or lemmas on these. Laid by a program of this repo for the seat Ythkdjccjcpneiaa; Lean checks it. -/
import Derived.Test.YthkdjccjcpneiaaKExactDepthSum0
import Derived.Test.YthkdjccjcpneiaaKExactDepthSum2
import Derived.Test.YthkdjccjcpneiaaKExactDepthSum8
import Derived.Test.YthkdjccjcpneiaaKExactDepthSum13
import Derived.Test.YthkdjccjcpneiaaM18
import Derived.Shelf.GgClosure.Gives
namespace Go.Proofs.Ythkdjccjcpneiaa.Print
open Go.RowKit Go.Proofs.YthkdjccjcpneiaaW.PrintWords Go.Proofs.YthkdjccjcpneiaaW.PrintLast Go.Proofs.YthkdjccjcpneiaaW.PrintMore
attribute [local go_sem] max2_int min2_int max_two min_two max_three min_three max_four min_four   -- for this text's walks alone
set_option linter.unusedVariables false
set_option linter.unusedSimpArgs false

--OWNPART
/-! ### impl_DepthSum: function 10 -/
--IMPORT M18
--IMPORT Derived.Shelf.GgClosure.Gives
open Go.Proofs.Ythkdjccjcpneiaa.M
/-- the least depth of a word -/
def impl_DepthSum.h (k x : Nat) : Int := ((ldC k k x k 0 0 : Nat) : Int)
def impl_DepthSum.f (a0_0 : Int) (a0_1 : Int) (a1 : Int) : Option (Int) :=
  (impl_isSmall.f a0_0 a0_1 4).bind fun t => if t = true ∧ 0 ≤ a1 ∧ a1 ≤ a0_0 then (if (0 ≤ a0_0 ∧ a0_0 ≤ 4 ∧ 0 ≤ a0_1 ∧ a0_1 < ((2 ^ 2 ^ a0_0.toNat : Nat) : Int)) ∧ ∀ x : Nat, x < 2 ^ 2 ^ a1.toNat → impl_isSmall.f (a1.toNat : Int) (x : Int) 4 = some true then some (impl_sumOverCubes.sum (impl_DepthSum.h a1.toNat) (cutAll a0_0.toNat a0_1.toNat a1.toNat (2 ^ a0_0.toNat))) else none) else some (-1)
theorem impl_DepthSum.walk (a b k r : Int) (w : World) (hc : ∀ W, Calls Try.prog 24 #[.agg #[.int .i64 a, .int .i64 b], .int .i64 k, .func (.func 25) #[] #[]] W fun e w' => e = .returned (.int .i64 r) ∧ Below W.heap.size W w') :
    Calls Try.prog 10 #[.agg #[.int .i64 a, .int .i64 b], .int .i64 k] w fun e w' => e = .returned (.int .i64 r) ∧ Below w.heap.size w w' := by
  have huT := Try.underlying25
  have HC := Aside0.mk hc
  have HB : Aside0 (Below w.heap.size w (w.alloc (.cells #[.int .i64 a, .int .i64 b] 25))) := ⟨(Below.refl _ _).alloc (Nat.le_refl _) _⟩
  clear hc
  go_enter Try.func10, Try.ntmps10
  go_wp2_with (first | (go_at_call 24; (with_reducible refine (HC.out _).mono ?_); rintro e w1 ⟨rfl, hb⟩))
  go_ret
  exact ⟨rfl, HB.out.trans (hb.mono HB.out.size)⟩
theorem impl_DepthSum.calls (a0_0 : Int) (a0_1 : Int) (a1 : Int) (r : Int) (w : World) (h : impl_DepthSum.f a0_0 a0_1 a1 = some r) :
    Calls Try.prog 10 #[.agg #[.int .i64 a0_0, .int .i64 a0_1], .int .i64 a1] w fun e w' => e = .returned (.int .i64 r) ∧ Below w.heap.size w w' := by
  unfold impl_DepthSum.f at h
  obtain ⟨t, ht, h⟩ := Option.bind_eq_some_iff.mp h
  refine impl_DepthSum.walk a0_0 a0_1 a1 r w (fun W => ?_)
  by_cases hc : t = true ∧ 0 ≤ a1 ∧ a1 ≤ a0_0
  · rw [if_pos hc] at h
    obtain ⟨rfl, h1, h2⟩ := hc
    by_cases hd : (0 ≤ a0_0 ∧ a0_0 ≤ 4 ∧ 0 ≤ a0_1 ∧ a0_1 < ((2 ^ 2 ^ a0_0.toNat : Nat) : Int)) ∧ ∀ x : Nat, x < 2 ^ 2 ^ a1.toNat → impl_isSmall.f (a1.toNat : Int) (x : Int) 4 = some true
    · rw [if_pos hd] at h
      obtain ⟨⟨d1, d2, d3, d4⟩, d5⟩ := hd
      obtain ⟨n, rfl⟩ := nat_of d1
      obtain ⟨v, rfl⟩ := nat_of d3
      obtain ⟨k, rfl⟩ := nat_of h1
      simp only [Int.toNat_natCast] at h d4 d5
      rw [← Option.some.inj h]
      exact impl_sumOverCubes.good n v k (2 ^ n) (by omega) rfl (by exact_mod_cast d4) (by omega) ht 25 #[] (enters_of Try.func25 (by kernel_rfl) rfl) (impl_DepthSum.h k) W (fun x W' hx _ => impl_LeastDepth.good k x (by omega) hx (d5 x hx) W')
    · rw [if_neg hd] at h; cases h
  · rw [if_neg hc] at h
    rw [← Option.some.inj h]
    exact impl_sumOverCubes.bad a0_0 a0_1 a1 t ht (fun e => by
      subst e
      by_cases h1 : a1 < 0
      · exact .inl h1
      · exact .inr (Classical.byContradiction fun h2 => hc ⟨rfl, by omega, by omega⟩)) 25 #[] W


end Go.Proofs.Ythkdjccjcpneiaa.Print
