/- Functions of the given program as plain Lean functions, with proofs that their calls compute them, or lemmas on these. Laid by a program of this repo for the seat Ytfnbcbjgjoobpaa; Lean checks it. -/
import Derived.Test.YtfnbcbjgjoobpaaKUnate0
import Derived.Test.YtfnbcbjgjoobpaaKUnate6
import Derived.Test.YtfnbcbjgjoobpaaKUnate7
import Derived.Test.YtfnbcbjgjoobpaaM0
import Derived.Deep.RegionHeld3
namespace Go.Proofs.Ytfnbcbjgjoobpaa.Print
open Go.RowKit Go.Proofs.YtfnbcbjgjoobpaaW.PrintWords Go.Proofs.YtfnbcbjgjoobpaaW.PrintLast Go.Proofs.YtfnbcbjgjoobpaaW.PrintMore
attribute [local go_sem] max2_int min2_int max_two min_two max_three min_three max_four min_four   -- for this text's walks alone
set_option linter.unusedVariables false
set_option linter.unusedSimpArgs false

--OWNPART
/-! ### impl_Table_shift: function 96 -/
--IMPORT M0
--IMPORT Derived.Deep.RegionHeld3
open Go.Proofs.Ytfnbcbjgjoobpaa.M
set_option maxHeartbeats 800000 in
theorem impl_Table_shift.clo (n v i x r : Int) (F I : Nat) (w : World) (hF : F < w.heap.size) (hI : I < w.heap.size)
    (f0 : w.cell? ⟨F, 0, none⟩ = some (.int .i64 n)) (f1 : w.cell? ⟨F, 1, none⟩ = some (.int .i64 v)) (fi : w.cell? ⟨I, 0, none⟩ = some (.int .i64 i))
    (ha : impl_Table_at.f n v (Go.bits .xor .i64 x i) = some r) :
    Calls Try.prog 168 #[.int .i64 x, .pointer (some ⟨F, 0, none⟩), .pointer (some ⟨I, 0, none⟩)] w fun e w' => e = .returned (.bool (r == 1)) ∧ Below w.heap.size w w' := by
  have A2 := Aside0.mk ha
  clear ha
  have huT := Try.underlying25
  go_enter Try.func168, Try.ntmps168
  go_wp2_with (first | (go_at_call 123; (with_reducible refine (impl_Table_at.calls n v _ r _ A2.out).mono ?_); rintro e w' ⟨rfl, hb⟩))
  go_ret
  refine ⟨rfl, ?_⟩
  first | exact hb | exact hb.below | exact Drawn0.below hb

set_option maxHeartbeats 1600000 in
theorem impl_Table_shift.aux (N M : Nat) (hN : N ≤ 5) (hM : M ≤ 32) (e10 : wrap64 ((2 : Int) ^ N) = (M : Int)) (g : Nat → Bool) (F I : Nat) (w : World)
    (hc : ∀ (x : Nat) (W : World), x < M → Below w.heap.size w W → Calls Try.prog 168 #[.int .i64 (x : Int), .pointer (some ⟨F, 0, none⟩), .pointer (some ⟨I, 0, none⟩)] W fun e W' => e = .returned (.bool (g x)) ∧ Below W.heap.size W W') :
    Calls Try.prog 119 #[.int .i64 (N : Int), .func (.func 168) #[] #[.pointer (some ⟨F, 0, none⟩), .pointer (some ⟨I, 0, none⟩)]] w fun e w' => e = .returned (.agg #[.int .i64 (N : Int), .int .i64 ((prefW g M : Nat) : Int)]) ∧ Below w.heap.size w w' := by
  have huT := Try.underlying25
  have hH := Aside0.mk hc
  clear hc
  have hS := Aside0.mk (impl_makeTable.I.start w N g)
  go_enter Try.func119, Try.ntmps119
  go_wp2
  rw [e10]
  clear e10
  go_loopw [11] (fun v11 wr => ∃ x : Nat, x ≤ M ∧ v11 = .int .i64 (x : Int) ∧ Aside0 (impl_makeTable.I w N g x wr)) (fun v11 _ => M - (intOf v11).toNat)
  case atStart => exact ⟨0, Nat.zero_le _, rfl, hS⟩
  case round =>
    obtain ⟨x, hx, rfl, HI⟩ := hrel
    clear hS
    have c0 : wr.cell? ⟨w.heap.size, 0, none⟩ = some (.int .i64 0) := blk_cell HI.out.1 0
    have c1 : wr.cell? ⟨w.heap.size, 1, none⟩ = some (.int .i64 0) := blk_cell HI.out.1 1
    have z0 := blk_frozen HI.out.1 0
    have z1 := blk_frozen HI.out.1 1
    have d0 : wr.cell? ⟨w.heap.size + 1, 0, none⟩ = some (.int .i64 (N : Int)) := blk_cell HI.out.2.1 0
    have d1 : wr.cell? ⟨w.heap.size + 1, 1, none⟩ = some (.int .i64 ((prefW g x : Nat) : Int)) := blk_cell HI.out.2.1 1
    by_cases hlt : x < M
    · have hC := Aside0.mk (hH.out x wr hlt HI.out.2.2)
      cases hg : g x with
      | false =>
        rw [hg] at hC
        have HG := Aside0.mk hg
        clear hg
        go_wp2_with (first | (go_at_call 168; (with_reducible refine hC.out.mono ?_); rintro e w1 ⟨rfl, hb⟩))
        go_roundw
        case rel => exact ⟨x + 1, by omega, by go_num, ⟨(HI.out.call hb).skip HG.out⟩⟩
        case measure => simp [intOf]; omega
      | true =>
        rw [hg] at hC
        have HG := Aside0.mk hg
        clear hg
        go_wp2_with (first | (go_at_call 168; (with_reducible refine hC.out.mono ?_); rintro e w1 ⟨rfl, hb⟩))
        have HI1 := Aside0.mk (HI.out.call hb)
        have d1' : w1.cell? ⟨w.heap.size + 1, 1, none⟩ = some (.int .i64 ((prefW g x : Nat) : Int)) := blk_cell HI1.out.2.1 1
        have z1' : w1.frozen? ⟨w.heap.size + 1, 1, none⟩ = false := blk_frozen HI1.out.2.1 1
        clear c0 c1 z0 z1 d0 d1
        go_region
        all_goals
          go_wp2
          go_roundw
          case rel =>
            refine ⟨x + 1, by omega, by go_num, ?_⟩
            · exact ⟨(HI1.out.set HG.out (by omega) (by rw [show shl .i64 1 (x : Int) = wrap64 (2 ^ x) from by unfold shl; rw [min_bits (by omega), Int.one_mul, i64_w]])).drew⟩
          case measure => simp [intOf]; omega
    · obtain rfl : x = M := by omega
      go_wp2
      exact bodyPost_ret (v := .agg #[.int .i64 (N : Int), .int .i64 ((prefW g x : Nat) : Int)]) (by simp [results, Try.results119, go_sem, c0, c1, d0, d1]) rfl ⟨rfl, (HI.out.2.2.setCell (p := ⟨w.heap.size, 0, none⟩) (Nat.le_refl _) _).setCell (p := ⟨w.heap.size, 1, none⟩) (Nat.le_refl _) _⟩

def impl_Table_shift.f (a0_0 : Int) (a0_1 : Int) (a1 : Int) : Option (Int × Int) :=
  if 0 ≤ a0_0 ∧ a0_0 ≤ 5 ∧ 0 ≤ a0_1 ∧ a0_1 < 4294967296 ∧ 0 ≤ a1 ∧ a1 < 32 then some (a0_0, ((prefW (fun x => a0_1.toNat.testBit (x ^^^ a1.toNat)) (2 ^ a0_0.toNat) : Nat) : Int)) else none
theorem impl_Table_shift.at_bit {n v y : Nat} (hv : v < 2 ^ 63) (hy : y ≤ 63) : impl_Table_at.f (n : Int) (v : Int) (y : Int) = some (((v.testBit y).toNat : Nat) : Int) := by
  unfold impl_Table_at.f
  rw [if_pos (Int.natCast_nonneg y), bit_nat hv (by omega)]
theorem impl_Table_shift.mk (n v i : Nat) (hn : n ≤ 5) (hv : v < 4294967296) (hi : i < 32) (F I : Nat) (w : World) (hF : F < w.heap.size) (hI : I < w.heap.size)
    (f0 : w.cell? ⟨F, 0, none⟩ = some (.int .i64 (n : Int))) (f1 : w.cell? ⟨F, 1, none⟩ = some (.int .i64 (v : Int))) (fi : w.cell? ⟨I, 0, none⟩ = some (.int .i64 (i : Int))) :
    Calls Try.prog 119 #[.int .i64 (n : Int), .func (.func 168) #[] #[.pointer (some ⟨F, 0, none⟩), .pointer (some ⟨I, 0, none⟩)]] w fun e w' => e = .returned (.agg #[.int .i64 (n : Int), .int .i64 ((prefW (fun x => v.testBit (x ^^^ i)) (2 ^ n) : Nat) : Int)]) ∧ Below w.heap.size w w' := by
  have h16 : 2 ^ n ≤ 32 := pow_le_5 hn
  have e10 : wrap64 ((2 : Int) ^ n) = ((2 ^ n : Nat) : Int) := by
    have : ((2 : Int) ^ n) = ((2 ^ n : Nat) : Int) := by push_cast; rfl
    rw [this]
    obtain ⟨P, hP⟩ : ∃ P, P = 2 ^ n := ⟨_, rfl⟩
    rw [← hP] at h16 ⊢
    exact w64 (by omega) (by omega)
  refine impl_Table_shift.aux n (2 ^ n) (by omega) (by omega) e10 _ F I w (fun x W hx hb' => ?_)
  have hy : x ^^^ i < 2 ^ 5 := Nat.xor_lt_two_pow (by omega) (by omega)
  have ex : Go.bits .xor .i64 (x : Int) (i : Int) = ((x ^^^ i : Nat) : Int) := xor_nat (by omega) (by omega)
  have ha := impl_Table_shift.at_bit (n := n) (v := v) (y := x ^^^ i) (by omega) (by omega)
  rw [← ex] at ha
  have hc := impl_Table_shift.clo n v i x (((v.testBit (x ^^^ i)).toNat : Nat) : Int) F I W (Nat.lt_of_lt_of_le hF hb'.size) (Nat.lt_of_lt_of_le hI hb'.size)
    ((hb'.cell (p := ⟨F, 0, none⟩) hF).trans f0) ((hb'.cell (p := ⟨F, 1, none⟩) hF).trans f1) ((hb'.cell (p := ⟨I, 0, none⟩) hI).trans fi) ha
  rw [toNat_beq1] at hc
  exact hc

set_option maxHeartbeats 1600000 in
theorem impl_Table_shift.nat (n v i : Nat) (hn : n ≤ 5) (hv : v < 4294967296) (hi : i < 32) (w : World) :
    Calls Try.prog 96 #[.agg #[.int .i64 (n : Int), .int .i64 (v : Int)], .int .i64 (i : Int)] w fun e w' => e = .returned (.agg #[.int .i64 (n : Int), .int .i64 ((prefW (fun x => v.testBit (x ^^^ i)) (2 ^ n) : Nat) : Int)]) ∧ Below w.heap.size w w' := by
  have huT := Try.underlying25
  have HC := Aside0.mk (impl_Table_shift.mk n v i hn hv hi w.heap.size (w.heap.size + 1) (((w.alloc (.cells #[.int .i64 (n : Int), .int .i64 (v : Int)] 25)).alloc (.cells #[.int .i64 (i : Int)] 3)).alloc (.cells #[.int .i64 0, .int .i64 0] 25)) (by simp; omega) (by simp) (by go_simp) (by go_simp) (by go_simp))
  have HR : Aside0 ((((w.alloc (.cells #[.int .i64 (n : Int), .int .i64 (v : Int)] 25)).alloc (.cells #[.int .i64 (i : Int)] 3)).alloc (.cells #[.int .i64 0, .int .i64 0] 25)).heap[w.heap.size + 1 + 1]? = some (.cells #[.int .i64 0, .int .i64 0] 25 (0, 0))) := ⟨by simpa using blk_new ((w.alloc (.cells #[.int .i64 (n : Int), .int .i64 (v : Int)] 25)).alloc (.cells #[.int .i64 (i : Int)] 3)) (.cells #[.int .i64 0, .int .i64 0] 25)⟩
  have HB : Aside0 (Below w.heap.size w (((w.alloc (.cells #[.int .i64 (n : Int), .int .i64 (v : Int)] 25)).alloc (.cells #[.int .i64 (i : Int)] 3)).alloc (.cells #[.int .i64 0, .int .i64 0] 25))) := ⟨(((Below.refl _ _).alloc (Nat.le_refl _) _).alloc (by simp) _).alloc (by simp; omega) _⟩
  clear hi hv
  go_enter Try.func96, Try.ntmps96
  go_wp2_with (first | (go_at_call 119; (with_reducible refine HC.out.mono ?_); rintro e w1 ⟨rfl, hb1⟩; have RB := Aside0.mk (blk_below HR.out hb1); have BB := Aside0.mk (HB.out.trans (hb1.mono HB.out.size)); clear hb1; have r0 : w1.cell? ⟨w.heap.size + 1 + 1, 0, none⟩ = some (.int .i64 0) := blk_cell RB.out 0; have r1 : w1.cell? ⟨w.heap.size + 1 + 1, 1, none⟩ = some (.int .i64 0) := blk_cell RB.out 1; have z0 := blk_frozen RB.out 0; have z1 := blk_frozen RB.out 1))
  exact bodyPost_ret (v := .agg #[.int .i64 (n : Int), .int .i64 ((prefW (fun x => v.testBit (x ^^^ i)) (2 ^ n) : Nat) : Int)]) (by simp [results, Try.results96, go_sem, r0, r1]) rfl ⟨rfl, (BB.out.setCell (p := ⟨w.heap.size + 1 + 1, 0, none⟩) (by show w.heap.size ≤ w.heap.size + 1 + 1; omega) _).setCell (p := ⟨w.heap.size + 1 + 1, 1, none⟩) (by show w.heap.size ≤ w.heap.size + 1 + 1; omega) _⟩
theorem impl_Table_shift.calls (a0_0 : Int) (a0_1 : Int) (a1 : Int) (r1 : Int) (r2 : Int) (w : World) (h : impl_Table_shift.f a0_0 a0_1 a1 = some (r1, r2)) :
    Calls Try.prog 96 #[.agg #[.int .i64 a0_0, .int .i64 a0_1], .int .i64 a1] w fun e w' => e = .returned (.agg #[.int .i64 r1, .int .i64 r2]) ∧ Below w.heap.size w w' := by
  unfold impl_Table_shift.f at h
  by_cases hc : 0 ≤ a0_0 ∧ a0_0 ≤ 5 ∧ 0 ≤ a0_1 ∧ a0_1 < 4294967296 ∧ 0 ≤ a1 ∧ a1 < 32
  · rw [if_pos hc] at h
    obtain ⟨c2, c3, c4, c5, c6, c7⟩ := hc
    obtain ⟨n, rfl⟩ := nat_of c2
    obtain ⟨v, rfl⟩ := nat_of c4
    obtain ⟨i, rfl⟩ := nat_of c6
    have h2 := Option.some.inj h
    simp only [Prod.mk.injEq, Int.toNat_natCast] at h2
    obtain ⟨rfl, rfl⟩ := h2
    exact impl_Table_shift.nat n v i (by omega) (by omega) (by omega) w
  · rw [if_neg hc] at h; cases h


end Go.Proofs.Ytfnbcbjgjoobpaa.Print
