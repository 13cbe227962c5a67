/- Functions of the given program as plain Lean functions, with proofs that their calls compute them, or lemmas on these. Laid by a program of this repo for the seat Ythkdjccjcpneiaa; Lean checks it. -/
import Derived.Test.YthkdjccjcpneiaaKExactDepthSum0
import Derived.Test.YthkdjccjcpneiaaKExactDepthSum2
import Derived.Test.YthkdjccjcpneiaaKExactDepthSum12
import Derived.Test.YthkdjccjcpneiaaM18
import Derived.Test.YthkdjccjcpneiaaM19
import Derived.Carry
namespace Go.Proofs.Ythkdjccjcpneiaa.Print
open Go.RowKit Go.Proofs.YthkdjccjcpneiaaW.PrintWords Go.Proofs.YthkdjccjcpneiaaW.PrintLast Go.Proofs.YthkdjccjcpneiaaW.PrintMore
attribute [local go_sem] max2_int min2_int max_two min_two max_three min_three max_four min_four   -- for this text's walks alone
set_option linter.unusedVariables false
set_option linter.unusedSimpArgs false

--OWNPART
/-! ### impl_LeastDepth: function 25 -/
--IMPORT M18
--IMPORT M19
--IMPORT Derived.Carry
open Go.Proofs.Ythkdjccjcpneiaa.M
def impl_LeastDepth.f (a0_0 : Int) (a0_1 : Int) : Option (Int) :=
  (impl_isSmall.f a0_0 a0_1 4).bind fun t => if t = true then (if 0 ≤ a0_0 ∧ a0_0 ≤ 4 ∧ 0 ≤ a0_1 ∧ a0_1 < ((2 ^ 2 ^ a0_0.toNat : Nat) : Int) then some (((ldC a0_0.toNat a0_0.toNat a0_1.toNat a0_0.toNat 0 0 : Nat) : Int)) else none) else some (-1)
set_option maxRecDepth 100000 in
theorem impl_LeastDepth.ask (n v : Nat) (w : World) : Calls Try.prog 42 #[.agg #[.int .i64 (n : Int), .int .i64 (v : Int)]] w fun e w' => ∃ T M mv, e = .returned (.pointer (some ⟨T, 0, none⟩)) ∧ impl_asker_left.St n v T M mv w' ∧ w.heap.size ≤ M ∧ Below w.heap.size w w' := by
  have huT := Try.underlying25
  have huA := Try.underlying81
  have hmk : ∀ W, (Instr.makeMap 79 none).run Try.prog W = .ok (.map (some W.heap.size)) (W.alloc (.map #[] 0)) := fun W => run_makeMap 79 W
  go_enter Try.func42, Try.ntmps42
  go_wp2_with (fail)
  go_ret
  obtain ⟨W0, hW0⟩ : ∃ W0, W0 = w.alloc (.cells #[.int .i64 (n : Int), .int .i64 (v : Int)] 25) := ⟨_, rfl⟩
  have hs : W0.heap.size = w.heap.size + 1 := by rw [hW0]; simp
  rw [← hW0, ← hs]
  have hm := Memo.made W0 Try.prog 74 3 (impl_asker_left.Good n v)
  have hm2 := (hm.alloc (.map #[] 0)).alloc (.cells #[.int .i64 (n : Int), .int .i64 (v : Int), .map (some W0.heap.size), .map (some (W0.heap.size + 1))] 81)
  have hB : Below w.heap.size w ((((W0.alloc (.map #[] 0)).alloc (.map #[] 0)).alloc (.cells #[.int .i64 (n : Int), .int .i64 (v : Int), .map (some W0.heap.size), .map (some (W0.heap.size + 1))] 81))) := by
    have h0 : Below w.heap.size w W0 := by rw [hW0]; exact (Below.refl _ _).alloc (Nat.le_refl _) _
    exact ((h0.alloc (by omega) _).alloc (by simp; omega) _).alloc (by simp; omega) _
  have hT := blk_new ((W0.alloc (.map #[] 0)).alloc (.map #[] 0)) (.cells #[.int .i64 (n : Int), .int .i64 (v : Int), .map (some W0.heap.size), .map (some (W0.heap.size + 1))] 81)
  have e : ((W0.alloc (.map #[] 0)).alloc (.map #[] 0)).heap.size = W0.heap.size + 1 + 1 := by simp
  rw [e] at hT
  exact ⟨W0.heap.size + 1 + 1, W0.heap.size, _, rfl, ⟨hT, hm2⟩, by omega, hB⟩
set_option maxRecDepth 100000 in
theorem impl_LeastDepth.good (n v : Nat) (hn : n ≤ 4) (hv : v < 2 ^ 2 ^ n) (hsm : impl_isSmall.f (n : Int) (v : Int) 4 = some true) (w : World) :
    Calls Try.prog 25 #[.agg #[.int .i64 (n : Int), .int .i64 (v : Int)]] w fun e w' => e = .returned (.int .i64 ((ldC n n v n 0 0 : Nat) : Int)) ∧ Below w.heap.size w w' := by
  have huT := Try.underlying25
  have huK := Try.underlying74
  obtain ⟨W0, hW0⟩ : ∃ W0, W0 = w.alloc (.cells #[.int .i64 (n : Int), .int .i64 (v : Int)] 25) := ⟨_, rfl⟩
  have HB : Aside0 (Below w.heap.size w W0) := ⟨by rw [hW0]; exact (Below.refl _ _).alloc (Nat.le_refl _) _⟩
  have C0 : Aside0 (W0.heap[w.heap.size]? = some (.cells #[.int .i64 (n : Int), .int .i64 (v : Int)] 25 (0, 0))) := ⟨by rw [hW0]; exact blk_new w _⟩
  have CW := Aside0.mk hW0
  have HSM := Aside0.mk hsm
  have HA := Aside0.mk (fun W => impl_LeastDepth.ask n v W)
  have HL : Aside0 (∀ T M mv W, impl_asker_left.St n v T M mv W → Calls Try.prog 43 #[.pointer (some ⟨T, 0, none⟩), .agg #[.int .i64 0, .int .i64 0]] W fun e w' => e = .returned (.int .i64 ((ldC n n v n 0 0 : Nat) : Int)) ∧ impl_asker_left.St n v T M mv w' ∧ But M W w') := ⟨fun T M mv W h => impl_asker_left.call n v T M mv hn hv n 0 0 W (Cb.zero hn) (by rw [pc_zero]; omega) h⟩
  clear hsm hW0 hv hn
  go_enter Try.func25, Try.ntmps25
  go_wp2_with (first | (go_at_call 41; rw [← CW.out]; (with_reducible refine (impl_isSmall.calls _ _ _ _ _ HSM.out).mono ?_); rintro e w1 ⟨rfl, hb⟩; have B1 := Aside0.mk hb; clear hb; have p0 := blk_cell (blk_below C0.out B1.out) 0; have p1 := blk_cell (blk_below C0.out B1.out) 1) | (go_at_call 42; (with_reducible refine (HA.out _).mono ?_); rintro e w2 ⟨T, M, mv, rfl, hst, hM, hb⟩; have B2 := Aside0.mk (B1.out.trans (hb.mono B1.out.size)); have HM := Aside0.mk (Nat.le_trans B1.out.size hM); have HST := Aside0.mk hst; clear hb hst hM) | (go_at_call 43; (with_reducible refine (HL.out _ _ _ _ HST.out).mono ?_); rintro e w3 ⟨rfl, hst, hb⟩; have B3 := Aside0.mk hb; clear hb hst))
  go_ret
  have hm := HM.out
  have h2 := HB.out.size
  refine ⟨rfl, ?_⟩
  have h3 := HB.out.trans (B2.out.mono HB.out.size)
  exact h3.trans (B3.out.below (by omega) h3.size)
set_option maxRecDepth 100000 in
theorem impl_LeastDepth.bad (a b : Int) (hsm : impl_isSmall.f a b 4 = some false) (w : World) :
    Calls Try.prog 25 #[.agg #[.int .i64 a, .int .i64 b]] w fun e w' => e = .returned (.int .i64 (-1)) ∧ Below w.heap.size w w' := by
  have huT := Try.underlying25
  have HB : Aside0 (Below w.heap.size w (w.alloc (.cells #[.int .i64 a, .int .i64 b] 25))) := ⟨(Below.refl _ _).alloc (Nat.le_refl _) _⟩
  have HSM := Aside0.mk hsm
  clear hsm
  go_enter Try.func25, Try.ntmps25
  go_wp2_with (first | (go_at_call 41; (with_reducible refine (impl_isSmall.calls _ _ _ _ _ HSM.out).mono ?_); rintro e w1 ⟨rfl, hb⟩))
  go_ret
  exact ⟨rfl, HB.out.trans (hb.mono HB.out.size)⟩
theorem impl_LeastDepth.calls (a0_0 : Int) (a0_1 : Int) (r : Int) (w : World) (h : impl_LeastDepth.f a0_0 a0_1 = some r) :
    Calls Try.prog 25 #[.agg #[.int .i64 a0_0, .int .i64 a0_1]] w fun e w' => e = .returned (.int .i64 r) ∧ Below w.heap.size w w' := by
  unfold impl_LeastDepth.f at h
  obtain ⟨t, ht, h⟩ := Option.bind_eq_some_iff.mp h
  cases t with
  | false =>
    rw [if_neg (by decide)] at h
    rw [← Option.some.inj h]
    exact impl_LeastDepth.bad a0_0 a0_1 ht w
  | true =>
    rw [if_pos rfl] at h
    by_cases hd : 0 ≤ a0_0 ∧ a0_0 ≤ 4 ∧ 0 ≤ a0_1 ∧ a0_1 < ((2 ^ 2 ^ a0_0.toNat : Nat) : Int)
    · rw [if_pos hd] at h
      obtain ⟨d1, d2, d3, d4⟩ := hd
      obtain ⟨n, rfl⟩ := nat_of d1
      obtain ⟨v, rfl⟩ := nat_of d3
      rw [Int.toNat_natCast, Int.toNat_natCast] at h
      rw [Int.toNat_natCast] at d4
      rw [← Option.some.inj h]
      exact impl_LeastDepth.good n v (by omega) (by exact_mod_cast d4) ht w
    · rw [if_neg hd] at h; cases h


end Go.Proofs.Ythkdjccjcpneiaa.Print
