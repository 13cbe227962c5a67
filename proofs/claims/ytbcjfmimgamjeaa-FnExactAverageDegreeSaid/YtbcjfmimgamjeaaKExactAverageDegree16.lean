/- Functions of the given program as plain Lean functions, with proofs that their calls compute them, or lemmas on these. Laid by a program of this repo for the seat Ytbcjfmimgamjeaa; Lean checks it. -/
import Derived.Test.YtbcjfmimgamjeaaKExactAverageDegree0
import Derived.Test.YtbcjfmimgamjeaaKExactAverageDegree4
import Derived.Test.YtbcjfmimgamjeaaKExactAverageDegree10
import Derived.Test.YtbcjfmimgamjeaaKExactAverageDegree14
import Derived.Test.YtbcjfmimgamjeaaM12
import Derived.Shelf.GgClosure.Gives
namespace Go.Proofs.Ytbcjfmimgamjeaa.Print
open Go.RowKit Go.Proofs.YtbcjfmimgamjeaaW.PrintWords Go.Proofs.YtbcjfmimgamjeaaW.PrintLast Go.Proofs.YtbcjfmimgamjeaaW.PrintMore
attribute [local go_sem] max2_int min2_int max_two min_two max_three min_three max_four min_four   -- for this text's walks alone
set_option linter.unusedVariables false
set_option linter.unusedSimpArgs false

--OWNPART
/-! ### impl_AverageDegree: function 19 -/
--IMPORT M12
--IMPORT Derived.Shelf.GgClosure.Gives
open Go.Proofs.Ytbcjfmimgamjeaa.M
/-- the degree of a word, 0 for constants -/
def impl_AverageDegree.h (q k x : Nat) : Int := mx ((impl_RealDegree.f q (k : Int) (x : Int)).getD 0) 0
def impl_AverageDegree.f (q : Nat) (a0_0 : Int) (a0_1 : Int) (a1 : Int) : Option (Int) :=
  (impl_isSmall.f a0_0 a0_1 4).bind fun t => if t = true ∧ 0 ≤ a1 ∧ a1 ≤ a0_0 then (if (0 ≤ a0_0 ∧ a0_0 ≤ 4 ∧ 0 ≤ a0_1 ∧ a0_1 < ((2 ^ 2 ^ a0_0.toNat : Nat) : Int)) ∧ ∀ x : Nat, x < 2 ^ 2 ^ a1.toNat → (impl_RealDegree.f q (a1.toNat : Int) (x : Int)).isSome = true then some (impl_sumOverCubes.sum (impl_AverageDegree.h q a1.toNat) (cutAll a0_0.toNat a0_1.toNat a1.toNat (2 ^ a0_0.toNat))) else none) else some (-1)
theorem impl_AverageDegree.some_of {q k x : Nat} (h : (impl_RealDegree.f q (k : Int) (x : Int)).isSome = true) : impl_RealDegree.f (q + 1) (k : Int) (x : Int) = impl_RealDegree.f q (k : Int) (x : Int) := by
  obtain ⟨d, hd⟩ := Option.isSome_iff_exists.mp h
  rw [hd]
  exact impl_RealDegree.mono _ _ _ _ hd
theorem impl_AverageDegree.sum_same (q n v k : Nat) (hn : n ≤ 4) (hv : v < 2 ^ 2 ^ n) (hk : k ≤ n) (ha : ∀ x : Nat, x < 2 ^ 2 ^ k → (impl_RealDegree.f q (k : Int) (x : Int)).isSome = true) : impl_sumOverCubes.sum (impl_AverageDegree.h (q + 1) k) (cutAll n v k (2 ^ n)) = impl_sumOverCubes.sum (impl_AverageDegree.h q k) (cutAll n v k (2 ^ n)) := by
  have key : ∀ (l : List Nat) (s : Int), (∀ x ∈ l, x < 2 ^ 2 ^ k) → l.foldl (fun s x => wrap64 (s + impl_AverageDegree.h (q + 1) k x)) s = l.foldl (fun s x => wrap64 (s + impl_AverageDegree.h q k x)) s := by
    intro l
    induction l with
    | nil => intro s _; rfl
    | cons y t ih =>
      intro s hl
      rw [List.foldl_cons, List.foldl_cons]
      have e : impl_AverageDegree.h (q + 1) k y = impl_AverageDegree.h q k y := by unfold impl_AverageDegree.h; rw [impl_AverageDegree.some_of (ha y (hl y (List.mem_cons_self ..)))]
      rw [e]
      exact ih _ (fun x hx => hl x (List.mem_cons_of_mem _ hx))
  exact key _ 0 (fun x hx => cutAll_lt hn hv _ (Nat.le_refl _) x hx)
theorem impl_AverageDegree.mono : ∀ a0_0 a0_1 a1 k, LeO (impl_AverageDegree.f k a0_0 a0_1 a1) (impl_AverageDegree.f (k + 1) a0_0 a0_1 a1) := by
  intro a b c q
  unfold impl_AverageDegree.f
  refine LeO.bind (LeO.refl _) (fun t => ?_)
  by_cases hc : t = true ∧ 0 ≤ c ∧ c ≤ a
  · rw [if_pos hc, if_pos hc]
    by_cases hd : (0 ≤ a ∧ a ≤ 4 ∧ 0 ≤ b ∧ b < ((2 ^ 2 ^ a.toNat : Nat) : Int)) ∧ ∀ x : Nat, x < 2 ^ 2 ^ c.toNat → (impl_RealDegree.f q (c.toNat : Int) (x : Int)).isSome = true
    · have hd2 : (0 ≤ a ∧ a ≤ 4 ∧ 0 ≤ b ∧ b < ((2 ^ 2 ^ a.toNat : Nat) : Int)) ∧ ∀ x : Nat, x < 2 ^ 2 ^ c.toNat → (impl_RealDegree.f (q + 1) (c.toNat : Int) (x : Int)).isSome = true := ⟨hd.1, fun x hx => by rw [impl_AverageDegree.some_of (hd.2 x hx)]; exact hd.2 x hx⟩
      rw [if_pos hd, if_pos hd2]
      obtain ⟨⟨d1, d2, d3, d4⟩, d5⟩ := hd
      rw [impl_AverageDegree.sum_same q a.toNat b.toNat c.toNat (by omega) (by omega) (by omega) d5]
      exact LeO.refl _
    · rw [if_neg hd]
      exact LeO.none _
  · rw [if_neg hc, if_neg hc]
    exact LeO.refl _
set_option maxRecDepth 100000 in
theorem impl_AverageDegree.clo (q k x : Nat) (d : Int) (hd : impl_RealDegree.f q (k : Int) (x : Int) = some d) (w : World) :
    Calls Try.prog 47 #[.agg #[.int .i64 (k : Int), .int .i64 (x : Int)]] w fun e w' => e = .returned (.int .i64 (mx d 0)) ∧ Below w.heap.size w w' := by
  have huT := Try.underlying27
  have HS : Aside0 (∀ W, Calls Try.prog 48 #[.agg #[.int .i64 (k : Int), .int .i64 (x : Int)]] W fun e w' => e = .returned (.int .i64 d) ∧ Below W.heap.size W w') := ⟨fun W => impl_RealDegree.calls q (k : Int) (x : Int) d W hd⟩
  have HB : Aside0 (Below w.heap.size w (w.alloc (.cells #[.int .i64 (k : Int), .int .i64 (x : Int)] 27))) := ⟨(Below.refl _ _).alloc (Nat.le_refl _) _⟩
  clear hd
  go_enter Try.func47, Try.ntmps47
  go_wp2_with (first | (go_at_call 48; (with_reducible refine (HS.out _).mono ?_); rintro e w1 ⟨rfl, hb⟩))
  all_goals
    go_ret
    refine ⟨?_, HB.out.trans (hb.mono HB.out.size)⟩
    unfold mx
    first
    | rfl
    | (rw [if_pos (by omega)]; done)
    | (rw [if_neg (by omega)]; done)
    | (split <;> first | rfl | (congr 1; omega))
theorem impl_AverageDegree.walk (a b k r : Int) (w : World) (hc : ∀ W, Calls Try.prog 43 #[.agg #[.int .i64 a, .int .i64 b], .int .i64 k, .func (.func 47) #[] #[]] W fun e w' => e = .returned (.int .i64 r) ∧ Below W.heap.size W w') :
    Calls Try.prog 19 #[.agg #[.int .i64 a, .int .i64 b], .int .i64 k] w fun e w' => e = .returned (.int .i64 r) ∧ Below w.heap.size w w' := by
  have huT := Try.underlying27
  have HC := Aside0.mk hc
  have HB : Aside0 (Below w.heap.size w (w.alloc (.cells #[.int .i64 a, .int .i64 b] 27))) := ⟨(Below.refl _ _).alloc (Nat.le_refl _) _⟩
  clear hc
  go_enter Try.func19, Try.ntmps19
  go_wp2_with (first | (go_at_call 43; (with_reducible refine (HC.out _).mono ?_); rintro e w1 ⟨rfl, hb⟩))
  go_ret
  exact ⟨rfl, HB.out.trans (hb.mono HB.out.size)⟩
theorem impl_AverageDegree.calls (q : Nat) (a0_0 : Int) (a0_1 : Int) (a1 : Int) (r : Int) (w : World) (h : impl_AverageDegree.f q a0_0 a0_1 a1 = some r) :
    Calls Try.prog 19 #[.agg #[.int .i64 a0_0, .int .i64 a0_1], .int .i64 a1] w fun e w' => e = .returned (.int .i64 r) ∧ Below w.heap.size w w' := by
  unfold impl_AverageDegree.f at h
  obtain ⟨t, ht, h⟩ := Option.bind_eq_some_iff.mp h
  refine impl_AverageDegree.walk a0_0 a0_1 a1 r w (fun W => ?_)
  by_cases hc : t = true ∧ 0 ≤ a1 ∧ a1 ≤ a0_0
  · rw [if_pos hc] at h
    obtain ⟨rfl, h1, h2⟩ := hc
    by_cases hd : (0 ≤ a0_0 ∧ a0_0 ≤ 4 ∧ 0 ≤ a0_1 ∧ a0_1 < ((2 ^ 2 ^ a0_0.toNat : Nat) : Int)) ∧ ∀ x : Nat, x < 2 ^ 2 ^ a1.toNat → (impl_RealDegree.f q (a1.toNat : Int) (x : Int)).isSome = true
    · rw [if_pos hd] at h
      obtain ⟨⟨d1, d2, d3, d4⟩, d5⟩ := hd
      obtain ⟨n, rfl⟩ := nat_of d1
      obtain ⟨v, rfl⟩ := nat_of d3
      obtain ⟨k, rfl⟩ := nat_of h1
      simp only [Int.toNat_natCast] at h d4 d5
      rw [← Option.some.inj h]
      exact impl_sumOverCubes.good n v k (2 ^ n) (by omega) rfl (by exact_mod_cast d4) (by omega) ht 47 #[] (enters_of Try.func47 (by kernel_rfl) rfl) (impl_AverageDegree.h q k) W (fun x W' hx _ => by
        obtain ⟨d, hd⟩ := Option.isSome_iff_exists.mp (d5 x hx)
        have e : impl_AverageDegree.h q k x = mx d 0 := by unfold impl_AverageDegree.h; rw [hd]; rfl
        rw [e]
        exact impl_AverageDegree.clo q k x d hd W')
    · rw [if_neg hd] at h; cases h
  · rw [if_neg hc] at h
    rw [← Option.some.inj h]
    exact impl_sumOverCubes.bad a0_0 a0_1 a1 t ht (fun e => by
      subst e
      by_cases h1 : a1 < 0
      · exact .inl h1
      · exact .inr (Classical.byContradiction fun h2 => hc ⟨rfl, by omega, by omega⟩)) 47 #[] W


end Go.Proofs.Ytbcjfmimgamjeaa.Print
