/- Functions of the given program as plain Lean functions, with proofs that their calls compute them, or lemmas on these. Laid by a program of this repo for the seat Ytcelfhphmlhonaa; Lean checks it. -/
import Derived.Test.YtcelfhphmlhonaaKExactConstantCubes0
import Derived.Test.YtcelfhphmlhonaaKExactConstantCubes3
import Derived.Test.YtcelfhphmlhonaaKExactConstantCubes9
import Derived.Test.YtcelfhphmlhonaaKExactConstantCubes10
import Derived.Test.YtcelfhphmlhonaaM12
import Derived.Shelf.GgClosure.Gives
namespace Go.Proofs.Ytcelfhphmlhonaa.Print
open Go.RowKit Go.Proofs.YtcelfhphmlhonaaW.PrintWords Go.Proofs.YtcelfhphmlhonaaW.PrintLast Go.Proofs.YtcelfhphmlhonaaW.PrintMore
attribute [local go_sem] max2_int min2_int max_two min_two max_three min_three max_four min_four   -- for this text's walks alone
set_option linter.unusedVariables false
set_option linter.unusedSimpArgs false

--OWNPART
/-! ### impl_ConstantCubes: function 53 -/
--IMPORT M12
--IMPORT Derived.Shelf.GgClosure.Gives
open Go.Proofs.Ytcelfhphmlhonaa.M
/-- 1 for a word of k variables that is constant -/
def impl_ConstantCubes.one (k x : Nat) : Int := if x = 0 ∨ x = 2 ^ 2 ^ k - 1 then 1 else 0
def impl_ConstantCubes.f (a0_0 : Int) (a0_1 : Int) (a1 : Int) : Option (Int) :=
  (impl_isSmall.f a0_0 a0_1 4).bind fun q => if q = true ∧ 0 ≤ a1 ∧ a1 ≤ a0_0 then (if 0 ≤ a0_0 ∧ a0_0 ≤ 4 ∧ 0 ≤ a0_1 ∧ a0_1 < ((2 ^ 2 ^ a0_0.toNat : Nat) : Int) then some (impl_sumOverCubes.sum (impl_ConstantCubes.one a1.toNat) (cutAll a0_0.toNat a0_1.toNat a1.toNat (2 ^ a0_0.toNat))) else none) else some (-1)
theorem impl_ConstantCubes.same {k x : Nat} (hk : k ≤ 4) (hx : x < 2 ^ 2 ^ k) : impl_Table_isSame.f (k : Int) (x : Int) = some (decide (x = 0 ∨ x = 2 ^ 2 ^ k - 1)) := by
  have h5 := pow_le_5 (n := k) (by omega)
  have hf := full_p63 (n := k) (by omega)
  have hp := Nat.two_pow_pos (2 ^ k)
  unfold impl_Table_isSame.f
  by_cases h0 : x = 0
  · subst h0
    rw [if_pos (by simp), decide_eq_true (.inl rfl)]
  · rw [if_neg (by omega)]
    unfold impl_Table_not.f impl_Table_size.f
    rw [if_pos (Int.natCast_nonneg k)]
    simp only [Option.bind_some]
    have hs : 0 ≤ shl .i64 1 (k : Int) := by rw [shl_one (by omega)]; exact Int.natCast_nonneg _
    rw [if_pos hs, full_word' (by omega)]
    have e : ((2 ^ 2 ^ k : Nat) : Int) - 1 = ((2 ^ 2 ^ k - 1 : Nat) : Int) := by omega
    rw [e, xor_nat (by omega) (by omega), Option.bind_some]
    congr 1
    rw [Bool.eq_iff_iff, beq_iff_eq, decide_eq_true_eq]
    have hxor : x ^^^ (2 ^ 2 ^ k - 1) = 0 ↔ x = 2 ^ 2 ^ k - 1 := by
      constructor
      · intro h
        have h2 : x ^^^ (x ^^^ (2 ^ 2 ^ k - 1)) = x ^^^ 0 := by rw [h]
        rw [← Nat.xor_assoc, Nat.xor_self, Nat.zero_xor, Nat.xor_zero] at h2
        exact h2.symm
      · intro h; rw [← h, Nat.xor_self]
    show (((x ^^^ (2 ^ 2 ^ k - 1) : Nat) : Int) = 0) ↔ _
    constructor
    · intro h; exact .inr (hxor.mp (by exact_mod_cast h))
    · intro h
      have := hxor.mpr (h.resolve_left h0)
      rw [this]; rfl
theorem impl_ConstantCubes.clo (k x : Nat) (hk : k ≤ 4) (hx : x < 2 ^ 2 ^ k) (w : World) :
    Calls Try.prog 88 #[.agg #[.int .i64 (k : Int), .int .i64 (x : Int)]] w fun e w' => e = .returned (.int .i64 (impl_ConstantCubes.one k x)) ∧ Below w.heap.size w w' := by
  have huT := Try.underlying45
  have HS := Aside0.mk (impl_ConstantCubes.same hk hx)
  have HB : Aside0 (Below w.heap.size w (w.alloc (.cells #[.int .i64 (k : Int), .int .i64 (x : Int)] 45))) := ⟨(Below.refl _ _).alloc (Nat.le_refl _) _⟩
  unfold impl_ConstantCubes.one
  by_cases hq : x = 0 ∨ x = 2 ^ 2 ^ k - 1
  · rw [if_pos hq]
    rw [decide_eq_true hq] at HS
    clear hk hx hq
    go_enter Try.func88, Try.ntmps88
    go_wp2_with (first | (go_at_call 89; (with_reducible refine (impl_Table_isSame.calls _ _ _ _ HS.out).mono ?_); rintro e w1 ⟨rfl, hb⟩))
    go_ret
    exact ⟨rfl, HB.out.trans (hb.mono HB.out.size)⟩
  · rw [if_neg hq]
    rw [decide_eq_false hq] at HS
    clear hk hx hq
    go_enter Try.func88, Try.ntmps88
    go_wp2_with (first | (go_at_call 89; (with_reducible refine (impl_Table_isSame.calls _ _ _ _ HS.out).mono ?_); rintro e w1 ⟨rfl, hb⟩))
    go_ret
    exact ⟨rfl, HB.out.trans (hb.mono HB.out.size)⟩
theorem impl_ConstantCubes.walk (a b k r : Int) (w : World) (hc : ∀ W, Calls Try.prog 87 #[.agg #[.int .i64 a, .int .i64 b], .int .i64 k, .func (.func 88) #[] #[]] W fun e w' => e = .returned (.int .i64 r) ∧ Below W.heap.size W w') :
    Calls Try.prog 53 #[.agg #[.int .i64 a, .int .i64 b], .int .i64 k] w fun e w' => e = .returned (.int .i64 r) ∧ Below w.heap.size w w' := by
  have huT := Try.underlying45
  have HC := Aside0.mk hc
  have HB : Aside0 (Below w.heap.size w (w.alloc (.cells #[.int .i64 a, .int .i64 b] 45))) := ⟨(Below.refl _ _).alloc (Nat.le_refl _) _⟩
  clear hc
  go_enter Try.func53, Try.ntmps53
  go_wp2_with (first | (go_at_call 87; (with_reducible refine (HC.out _).mono ?_); rintro e w1 ⟨rfl, hb⟩))
  go_ret
  exact ⟨rfl, HB.out.trans (hb.mono HB.out.size)⟩
theorem impl_ConstantCubes.calls (a0_0 : Int) (a0_1 : Int) (a1 : Int) (r : Int) (w : World) (h : impl_ConstantCubes.f a0_0 a0_1 a1 = some r) :
    Calls Try.prog 53 #[.agg #[.int .i64 a0_0, .int .i64 a0_1], .int .i64 a1] w fun e w' => e = .returned (.int .i64 r) ∧ Below w.heap.size w w' := by
  unfold impl_ConstantCubes.f at h
  obtain ⟨q, hq, h⟩ := Option.bind_eq_some_iff.mp h
  refine impl_ConstantCubes.walk a0_0 a0_1 a1 r w (fun W => ?_)
  by_cases hc : q = true ∧ 0 ≤ a1 ∧ a1 ≤ a0_0
  · rw [if_pos hc] at h
    obtain ⟨rfl, h1, h2⟩ := hc
    by_cases hd : 0 ≤ a0_0 ∧ a0_0 ≤ 4 ∧ 0 ≤ a0_1 ∧ a0_1 < ((2 ^ 2 ^ a0_0.toNat : Nat) : Int)
    · rw [if_pos hd] at h
      obtain ⟨d1, d2, d3, d4⟩ := hd
      obtain ⟨n, rfl⟩ := nat_of d1
      obtain ⟨v, rfl⟩ := nat_of d3
      obtain ⟨k, rfl⟩ := nat_of h1
      simp only [Int.toNat_natCast] at h d4
      rw [← Option.some.inj h]
      exact impl_sumOverCubes.good n v k (2 ^ n) (by omega) rfl (by exact_mod_cast d4) (by omega) hq 88 #[] (enters_of Try.func88 (by kernel_rfl) rfl) (impl_ConstantCubes.one k) W (fun x W' hx _ => impl_ConstantCubes.clo k x (by omega) hx W')
    · rw [if_neg hd] at h; cases h
  · rw [if_neg hc] at h
    rw [← Option.some.inj h]
    exact impl_sumOverCubes.bad a0_0 a0_1 a1 q hq (fun e => by
      subst e
      by_cases h1 : a1 < 0
      · exact .inl h1
      · exact .inr (Classical.byContradiction fun h2 => hc ⟨rfl, by omega, by omega⟩)) 88 #[] W


end Go.Proofs.Ytcelfhphmlhonaa.Print
