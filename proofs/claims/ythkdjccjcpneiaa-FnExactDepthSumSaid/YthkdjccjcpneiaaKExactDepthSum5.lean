/- Functions of the given program as plain Lean functions, with proofs that their calls compute them, or lemmas on these. Laid by a program of this repo for the seat Ythkdjccjcpneiaa; Lean checks it. -/
import Derived.Test.YthkdjccjcpneiaaKExactDepthSum0
import Derived.Test.YthkdjccjcpneiaaKExactDepthSum3
import Derived.Test.YthkdjccjcpneiaaKExactDepthSum4
import Derived.Test.YthkdjccjcpneiaaM0
import Derived.Deep.RegionHeld3
namespace Go.Proofs.Ythkdjccjcpneiaa.Print
open Go.RowKit Go.Proofs.YthkdjccjcpneiaaW.PrintWords Go.Proofs.YthkdjccjcpneiaaW.PrintLast Go.Proofs.YthkdjccjcpneiaaW.PrintMore
attribute [local go_sem] max2_int min2_int max_two min_two max_three min_three max_four min_four   -- for this text's walks alone
set_option linter.unusedVariables false
set_option linter.unusedSimpArgs false

--OWNPART
/-! ### impl_Table_restrict: function 51 -/
--IMPORT M0
--IMPORT Derived.Deep.RegionHeld3
open Go.Proofs.Ythkdjccjcpneiaa.M
/-- the captured variables: a table, a variable, a bit -/
def impl_Table_restrict.rS (w : World) (F I B : Nat) (n v i b : Int) (W : World) : Prop :=
  W.cell? ⟨F, 0, none⟩ = some (.int .i64 n) ∧ W.cell? ⟨F, 1, none⟩ = some (.int .i64 v) ∧ W.cell? ⟨I, 0, none⟩ = some (.int .i64 i) ∧ W.cell? ⟨B, 0, none⟩ = some (.int .i64 b) ∧ Below w.heap.size w W

theorem impl_Table_restrict.rS.step {w : World} {F I B : Nat} {n v i b : Int} {W W' : World} (hF : F < w.heap.size) (hI : I < w.heap.size) (hB : B < w.heap.size) (h : impl_Table_restrict.rS w F I B n v i b W) (hb : Below W.heap.size W W') : impl_Table_restrict.rS w F I B n v i b W' := by
  obtain ⟨h1, h2, h3, h4, h5⟩ := h
  have hs := h5.size
  exact ⟨(hb.cell (p := ⟨F, 0, none⟩) (by show F < _; omega)).trans h1, (hb.cell (p := ⟨F, 1, none⟩) (by show F < _; omega)).trans h2, (hb.cell (p := ⟨I, 0, none⟩) (by show I < _; omega)).trans h3, (hb.cell (p := ⟨B, 0, none⟩) (by show B < _; omega)).trans h4, h5.trans (hb.mono hs)⟩

set_option maxHeartbeats 800000 in
theorem impl_Table_restrict.clo (n v i b x y r : Int) (F I B : Nat) (w : World) (hF : F < w.heap.size) (hI : I < w.heap.size) (hB : B < w.heap.size)
    (f0 : w.cell? ⟨F, 0, none⟩ = some (.int .i64 n)) (f1 : w.cell? ⟨F, 1, none⟩ = some (.int .i64 v)) (fi : w.cell? ⟨I, 0, none⟩ = some (.int .i64 i)) (fb : w.cell? ⟨B, 0, none⟩ = some (.int .i64 b))
    (hs : impl_spread.f x i b = some y) (ha : impl_Table_at.f n v y = some r) :
    Calls Try.prog 62 #[.int .i64 x, .pointer (some ⟨F, 0, none⟩), .pointer (some ⟨I, 0, none⟩), .pointer (some ⟨B, 0, none⟩)] w fun e w' => e = .returned (.bool (r == 1)) ∧ Below w.heap.size w w' := by
  have A1 := Aside0.mk hs
  have A2 := Aside0.mk ha
  clear hs ha
  have huT := Try.underlying25
  go_enter Try.func62, Try.ntmps62
  go_wp2
  have h0 : impl_Table_restrict.rS w F I B n v i b w.drew := ⟨f0, f1, fi, fb, (Below.refl _ _).drew⟩
  go_region_held3 (fun W => W.cell? ⟨F, 0, none⟩ = some (.int .i64 n) ∧ W.cell? ⟨F, 1, none⟩ = some (.int .i64 v) ∧ W.cell? ⟨I, 0, none⟩ = some (.int .i64 i) ∧ W.cell? ⟨B, 0, none⟩ = some (.int .i64 b) ∧ Below w.heap.size w W) (first | exact h0 | (refine impl_Table_restrict.rS.step hF hI hB (by assumption) ?_; first | assumption | (refine Drawn0.below ?_; assumption) | exact Below.refl _ _))
    (first | (go_at_call 63; (with_reducible refine (impl_spread.calls x i b y _ A1.out).mono ?_); rintro e w' ⟨rfl, hd⟩) | (go_at_call 49; (with_reducible refine (impl_Table_at.calls n v y r _ A2.out).mono ?_); rintro e w' ⟨rfl, hb⟩))
  go_wp2
  go_ret
  exact ⟨rfl, (by assumption : _ ∧ _ ∧ _ ∧ _ ∧ _).2.2.2.2⟩

set_option maxHeartbeats 1600000 in
theorem impl_Table_restrict.aux (N M : Nat) (hN : N ≤ 5) (hM : M ≤ 32) (e10 : wrap64 ((2 : Int) ^ N) = (M : Int)) (g : Nat → Bool) (F I B : Nat) (w : World)
    (hc : ∀ (x : Nat) (W : World), x < M → Below w.heap.size w W → Calls Try.prog 62 #[.int .i64 (x : Int), .pointer (some ⟨F, 0, none⟩), .pointer (some ⟨I, 0, none⟩), .pointer (some ⟨B, 0, none⟩)] W fun e W' => e = .returned (.bool (g x)) ∧ Below W.heap.size W W') :
    Calls Try.prog 61 #[.int .i64 (N : Int), .func (.func 62) #[] #[.pointer (some ⟨F, 0, none⟩), .pointer (some ⟨I, 0, none⟩), .pointer (some ⟨B, 0, none⟩)]] w fun e w' => e = .returned (.agg #[.int .i64 (N : Int), .int .i64 ((prefW g M : Nat) : Int)]) ∧ Below w.heap.size w w' := by
  have huT := Try.underlying25
  have hH := Aside0.mk hc
  clear hc
  have hS := Aside0.mk (impl_makeTable.I.start w N g)
  go_enter Try.func61, Try.ntmps61
  go_wp2
  rw [e10]
  clear e10
  go_loopw [11] (fun v11 wr => ∃ x : Nat, x ≤ M ∧ v11 = .int .i64 (x : Int) ∧ Aside0 (impl_makeTable.I w N g x wr)) (fun v11 _ => M - (intOf v11).toNat)
  case atStart => exact ⟨0, Nat.zero_le _, rfl, hS⟩
  case round =>
    obtain ⟨x, hx, rfl, HI⟩ := hrel
    clear hS
    have c0 : wr.cell? ⟨w.heap.size, 0, none⟩ = some (.int .i64 0) := blk_cell HI.out.1 0
    have c1 : wr.cell? ⟨w.heap.size, 1, none⟩ = some (.int .i64 0) := blk_cell HI.out.1 1
    have z0 := blk_frozen HI.out.1 0
    have z1 := blk_frozen HI.out.1 1
    have d0 : wr.cell? ⟨w.heap.size + 1, 0, none⟩ = some (.int .i64 (N : Int)) := blk_cell HI.out.2.1 0
    have d1 : wr.cell? ⟨w.heap.size + 1, 1, none⟩ = some (.int .i64 ((prefW g x : Nat) : Int)) := blk_cell HI.out.2.1 1
    by_cases hlt : x < M
    · have hC := Aside0.mk (hH.out x wr hlt HI.out.2.2)
      cases hg : g x with
      | false =>
        rw [hg] at hC
        have HG := Aside0.mk hg
        clear hg
        go_wp2_with (first | (go_at_call 62; (with_reducible refine hC.out.mono ?_); rintro e w1 ⟨rfl, hb⟩))
        go_roundw
        case rel => exact ⟨x + 1, by omega, by go_num, ⟨(HI.out.call hb).skip HG.out⟩⟩
        case measure => simp [intOf]; omega
      | true =>
        rw [hg] at hC
        have HG := Aside0.mk hg
        clear hg
        go_wp2_with (first | (go_at_call 62; (with_reducible refine hC.out.mono ?_); rintro e w1 ⟨rfl, hb⟩))
        have HI1 := Aside0.mk (HI.out.call hb)
        have d1' : w1.cell? ⟨w.heap.size + 1, 1, none⟩ = some (.int .i64 ((prefW g x : Nat) : Int)) := blk_cell HI1.out.2.1 1
        have z1' : w1.frozen? ⟨w.heap.size + 1, 1, none⟩ = false := blk_frozen HI1.out.2.1 1
        clear c0 c1 z0 z1 d0 d1
        go_region
        all_goals
          go_wp2
          go_roundw
          case rel =>
            refine ⟨x + 1, by omega, by go_num, ?_⟩
            · exact ⟨(HI1.out.set HG.out (by omega) (by rw [show shl .i64 1 (x : Int) = wrap64 (2 ^ x) from by unfold shl; rw [min_bits (by omega), Int.one_mul, i64_w]])).drew⟩
          case measure => simp [intOf]; omega
    · obtain rfl : x = M := by omega
      go_wp2
      exact bodyPost_ret (v := .agg #[.int .i64 (N : Int), .int .i64 ((prefW g x : Nat) : Int)]) (by simp [results, Try.results61, go_sem, c0, c1, d0, d1]) rfl ⟨rfl, (HI.out.2.2.setCell (p := ⟨w.heap.size, 0, none⟩) (Nat.le_refl _) _).setCell (p := ⟨w.heap.size, 1, none⟩) (Nat.le_refl _) _⟩

def impl_Table_restrict.f (a0_0 : Int) (a0_1 : Int) (a1 : Int) (a2 : Int) : Option (Int × Int) :=
  if 1 ≤ a0_0 ∧ a0_0 ≤ 5 ∧ 0 ≤ a0_1 ∧ a0_1 < 4294967296 ∧ 0 ≤ a1 ∧ a1 < a0_0 ∧ 0 ≤ a2 ∧ a2 ≤ 1 then some (a0_0 - 1, ((prefW (fun x => a0_1.toNat.testBit (ins x a1.toNat a2.toNat)) (2 ^ (a0_0.toNat - 1)) : Nat) : Int)) else none
theorem impl_Table_restrict.spread_ins : ∀ x : Nat, x < 16 → ∀ i : Nat, i < 5 → ∀ b : Nat, b < 2 → (impl_spread.f (x : Int) (i : Int) (b : Int) = some ((ins x i b : Nat) : Int) ∧ ins x i b < 32) :=
  allB_dec3 (P := fun x i b => impl_spread.f (x : Int) (i : Int) (b : Int) = some ((ins x i b : Nat) : Int) ∧ ins x i b < 32) (by decide +kernel)
theorem impl_Table_restrict.at_bit {n v y : Nat} (hv : v < 2 ^ 63) (hy : y ≤ 63) : impl_Table_at.f (n : Int) (v : Int) (y : Int) = some (((v.testBit y).toNat : Nat) : Int) := by
  unfold impl_Table_at.f
  rw [if_pos (Int.natCast_nonneg y), bit_nat hv (by omega)]
theorem impl_Table_restrict.mk (n v i b : Nat) (h1 : 1 ≤ n) (hn : n ≤ 5) (hv : v < 4294967296) (hi : i < n) (hb : b ≤ 1) (F I B : Nat) (w : World) (hF : F < w.heap.size) (hI : I < w.heap.size) (hB : B < w.heap.size)
    (f0 : w.cell? ⟨F, 0, none⟩ = some (.int .i64 (n : Int))) (f1 : w.cell? ⟨F, 1, none⟩ = some (.int .i64 (v : Int))) (fi : w.cell? ⟨I, 0, none⟩ = some (.int .i64 (i : Int))) (fb : w.cell? ⟨B, 0, none⟩ = some (.int .i64 (b : Int))) :
    Calls Try.prog 61 #[.int .i64 (((n - 1 : Nat) : Nat) : Int), .func (.func 62) #[] #[.pointer (some ⟨F, 0, none⟩), .pointer (some ⟨I, 0, none⟩), .pointer (some ⟨B, 0, none⟩)]] w fun e w' => e = .returned (.agg #[.int .i64 ((n - 1 : Nat) : Int), .int .i64 ((prefW (fun x => v.testBit (ins x i b)) (2 ^ (n - 1)) : Nat) : Int)]) ∧ Below w.heap.size w w' := by
  have h16 : 2 ^ (n - 1) ≤ 16 := by
    have := Nat.pow_le_pow_right (show 0 < 2 by decide) (show n - 1 ≤ 4 by omega)
    simpa using this
  have e10 : wrap64 ((2 : Int) ^ (n - 1)) = ((2 ^ (n - 1) : Nat) : Int) := by
    have : ((2 : Int) ^ (n - 1)) = ((2 ^ (n - 1) : Nat) : Int) := by push_cast; rfl
    rw [this]
    obtain ⟨P, hP⟩ : ∃ P, P = 2 ^ (n - 1) := ⟨_, rfl⟩
    rw [← hP] at h16 ⊢
    exact w64 (by omega) (by omega)
  refine impl_Table_restrict.aux (n - 1) (2 ^ (n - 1)) (by omega) (by omega) e10 _ F I B w (fun x W hx hb' => ?_)
  obtain ⟨hs, hy⟩ := impl_Table_restrict.spread_ins x (by omega) i (by omega) b (by omega)
  have hc := impl_Table_restrict.clo n v i b x ((ins x i b : Nat) : Int) (((v.testBit (ins x i b)).toNat : Nat) : Int) F I B W (Nat.lt_of_lt_of_le hF hb'.size) (Nat.lt_of_lt_of_le hI hb'.size) (Nat.lt_of_lt_of_le hB hb'.size)
    ((hb'.cell (p := ⟨F, 0, none⟩) hF).trans f0) ((hb'.cell (p := ⟨F, 1, none⟩) hF).trans f1) ((hb'.cell (p := ⟨I, 0, none⟩) hI).trans fi) ((hb'.cell (p := ⟨B, 0, none⟩) hB).trans fb) hs (impl_Table_restrict.at_bit (by omega) (by omega))
  rw [toNat_beq1] at hc
  exact hc

set_option maxHeartbeats 1600000 in
theorem impl_Table_restrict.nat (n v i b m : Nat) (h1 : 1 ≤ n) (hn : n ≤ 5) (hv : v < 4294967296) (hi : i < n) (hb : b ≤ 1) (w : World) (e1 : (n : Int) - 1 = (m : Int)) (hm : n - 1 = m) :
    Calls Try.prog 51 #[.agg #[.int .i64 (n : Int), .int .i64 (v : Int)], .int .i64 (i : Int), .int .i64 (b : Int)] w fun e w' => e = .returned (.agg #[.int .i64 (m : Int), .int .i64 ((prefW (fun x => v.testBit (ins x i b)) (2 ^ m) : Nat) : Int)]) ∧ Below w.heap.size w w' := by
  have huT := Try.underlying25
  have HC := Aside0.mk (impl_Table_restrict.mk n v i b h1 hn hv hi hb w.heap.size (w.heap.size + 1) (w.heap.size + 2) ((((w.alloc (.cells #[.int .i64 (n : Int), .int .i64 (v : Int)] 25)).alloc (.cells #[.int .i64 (i : Int)] 3)).alloc (.cells #[.int .i64 (b : Int)] 3)).alloc (.cells #[.int .i64 0, .int .i64 0] 25)) (by simp; omega) (by simp) (by simp) (by go_simp) (by go_simp) (by go_simp) (by go_simp))
  rw [hm] at HC
  have HR : Aside0 (((((w.alloc (.cells #[.int .i64 (n : Int), .int .i64 (v : Int)] 25)).alloc (.cells #[.int .i64 (i : Int)] 3)).alloc (.cells #[.int .i64 (b : Int)] 3)).alloc (.cells #[.int .i64 0, .int .i64 0] 25)).heap[w.heap.size + 1 + 1 + 1]? = some (.cells #[.int .i64 0, .int .i64 0] 25 (0, 0))) := ⟨by simpa using blk_new (((w.alloc (.cells #[.int .i64 (n : Int), .int .i64 (v : Int)] 25)).alloc (.cells #[.int .i64 (i : Int)] 3)).alloc (.cells #[.int .i64 (b : Int)] 3)) (.cells #[.int .i64 0, .int .i64 0] 25)⟩
  have HB : Aside0 (Below w.heap.size w ((((w.alloc (.cells #[.int .i64 (n : Int), .int .i64 (v : Int)] 25)).alloc (.cells #[.int .i64 (i : Int)] 3)).alloc (.cells #[.int .i64 (b : Int)] 3)).alloc (.cells #[.int .i64 0, .int .i64 0] 25))) := ⟨((((Below.refl _ _).alloc (Nat.le_refl _) _).alloc (by simp) _).alloc (by simp; omega) _).alloc (by simp; omega) _⟩
  clear hm hi hv
  go_enter Try.func51, Try.ntmps51
  go_wp2_with (first | (go_at_call 61; (with_reducible refine HC.out.mono ?_); rintro e w1 ⟨rfl, hb1⟩; have RB := Aside0.mk (blk_below HR.out hb1); have BB := Aside0.mk (HB.out.trans (hb1.mono HB.out.size)); clear hb1; have r0 : w1.cell? ⟨w.heap.size + 1 + 1 + 1, 0, none⟩ = some (.int .i64 0) := blk_cell RB.out 0; have r1 : w1.cell? ⟨w.heap.size + 1 + 1 + 1, 1, none⟩ = some (.int .i64 0) := blk_cell RB.out 1; have z0 := blk_frozen RB.out 0; have z1 := blk_frozen RB.out 1))
  exact bodyPost_ret (v := .agg #[.int .i64 (m : Int), .int .i64 ((prefW (fun x => v.testBit (ins x i b)) (2 ^ m) : Nat) : Int)]) (by simp [results, Try.results51, go_sem, r0, r1]) rfl ⟨rfl, (BB.out.setCell (p := ⟨w.heap.size + 1 + 1 + 1, 0, none⟩) (by show w.heap.size ≤ w.heap.size + 1 + 1 + 1; omega) _).setCell (p := ⟨w.heap.size + 1 + 1 + 1, 1, none⟩) (by show w.heap.size ≤ w.heap.size + 1 + 1 + 1; omega) _⟩
theorem impl_Table_restrict.calls (a0_0 : Int) (a0_1 : Int) (a1 : Int) (a2 : Int) (r1 : Int) (r2 : Int) (w : World) (h : impl_Table_restrict.f a0_0 a0_1 a1 a2 = some (r1, r2)) :
    Calls Try.prog 51 #[.agg #[.int .i64 a0_0, .int .i64 a0_1], .int .i64 a1, .int .i64 a2] w fun e w' => e = .returned (.agg #[.int .i64 r1, .int .i64 r2]) ∧ Below w.heap.size w w' := by
  unfold impl_Table_restrict.f at h
  by_cases hc : 1 ≤ a0_0 ∧ a0_0 ≤ 5 ∧ 0 ≤ a0_1 ∧ a0_1 < 4294967296 ∧ 0 ≤ a1 ∧ a1 < a0_0 ∧ 0 ≤ a2 ∧ a2 ≤ 1
  · rw [if_pos hc] at h
    obtain ⟨c1, c2, c3, c4, c5, c6, c7, c8⟩ := hc
    obtain ⟨n, rfl⟩ := nat_of (show 0 ≤ a0_0 by omega)
    obtain ⟨v, rfl⟩ := nat_of c3
    obtain ⟨i, rfl⟩ := nat_of c5
    obtain ⟨b, rfl⟩ := nat_of c7
    have h2 := Option.some.inj h
    simp only [Prod.mk.injEq, Int.toNat_natCast] at h2
    obtain ⟨rfl, rfl⟩ := h2
    have e : ((n : Int) - 1) = ((n - 1 : Nat) : Int) := by omega
    rw [e]
    exact impl_Table_restrict.nat n v i b (n - 1) (by omega) (by omega) (by omega) (by omega) (by omega) w e rfl
  · rw [if_neg hc] at h; cases h


end Go.Proofs.Ythkdjccjcpneiaa.Print
