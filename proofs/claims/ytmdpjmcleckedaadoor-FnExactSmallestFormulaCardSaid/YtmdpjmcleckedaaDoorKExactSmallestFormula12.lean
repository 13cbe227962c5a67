/- Functions of the given program as plain Lean functions, with proofs that their calls compute them, or lemmas on these. Laid by a program of this repo for the seat YtmdpjmcleckedaaDoor; Lean checks it. -/
import Derived.Test.YtmdpjmcleckedaaDoorKExactSmallestFormula0
import Derived.Test.YtmdpjmcleckedaaDoorKExactSmallestFormula10
import Derived.Test.YtmdpjmcleckedaaDoorM15
namespace Go.Proofs.YtmdpjmcleckedaaDoor.Print
open Go.RowKit Go.Proofs.YtmdpjmcleckedaaDoorW.PrintWords Go.Proofs.YtmdpjmcleckedaaDoorW.PrintLast Go.Proofs.YtmdpjmcleckedaaDoorW.PrintMore
attribute [local go_sem] max2_int min2_int max_two min_two max_three min_three max_four min_four   -- for this text's walks alone
set_option linter.unusedVariables false
set_option linter.unusedSimpArgs false

--OWNPART
/-! ### impl_variable: function 20 -/
--IMPORT M15
open Go.Proofs.YtmdpjmcleckedaaDoor.M
theorem impl_variable.clo (x i : Nat) (hx : x < 32) (hi : i < 5) (I : Nat) (w : World) (fi : w.cell? ⟨I, 0, none⟩ = some (.int .i64 (i : Int))) :
    Calls Tryd.prog 29 #[.int .i64 (x : Int), .pointer (some ⟨I, 0, none⟩)] w fun e w' => e = .returned (.bool (x.testBit i)) ∧ Below w.heap.size w w' := by
  have hb := bit_nat (a := x) (n := i) (by omega) (by omega)
  have es : shr .i64 (x : Int) (i : Int) = (x : Int) / 2 ^ i := by rw [shr_nat (by omega)]; push_cast; rfl
  rw [es] at hb
  have hi0 : (0 : Int) ≤ (i : Int) := by omega
  have hi64 : i ≤ 64 := by omega
  have hq : (((x.testBit i).toNat : Nat) : Int) = 1 ↔ x.testBit i = true := by cases x.testBit i <;> simp
  generalize x.testBit i = q at *
  go_enter Tryd.func29, Tryd.ntmps29
  go_wp2_with (fail)
  go_ret
  refine ⟨?_, by repeat (first | exact Below.refl _ _ | apply pw_below_drewN)⟩
  cases q <;> simp_all

set_option maxHeartbeats 1600000 in
theorem impl_variable.aux (N M : Nat) (hN : N ≤ 5) (hM : M ≤ 32) (e10 : wrap64 ((2 : Int) ^ N) = (M : Int)) (g : Nat → Bool) (I : Nat) (w : World)
    (hc : ∀ (x : Nat) (W : World), x < M → Below w.heap.size w W → Calls Tryd.prog 29 #[.int .i64 (x : Int), .pointer (some ⟨I, 0, none⟩)] W fun e W' => e = .returned (.bool (g x)) ∧ Below W.heap.size W W') :
    Calls Tryd.prog 28 #[.int .i64 (N : Int), .func (.func 29) #[] #[.pointer (some ⟨I, 0, none⟩)]] w fun e w' => e = .returned (.agg #[.int .i64 (N : Int), .int .i64 ((prefW g M : Nat) : Int)]) ∧ Below w.heap.size w w' := by
  have huT := Tryd.underlying26
  have hH := Aside0.mk hc
  clear hc
  have hS := Aside0.mk (impl_makeTable.I.start w N g)
  go_enter Tryd.func28, Tryd.ntmps28
  go_wp2
  rw [e10]
  clear e10
  go_loopw [11] (fun v11 wr => ∃ x : Nat, x ≤ M ∧ v11 = .int .i64 (x : Int) ∧ Aside0 (impl_makeTable.I w N g x wr)) (fun v11 _ => M - (intOf v11).toNat)
  case atStart => exact ⟨0, Nat.zero_le _, rfl, hS⟩
  case round =>
    obtain ⟨x, hx, rfl, HI⟩ := hrel
    clear hS
    have c0 : wr.cell? ⟨w.heap.size, 0, none⟩ = some (.int .i64 0) := blk_cell HI.out.1 0
    have c1 : wr.cell? ⟨w.heap.size, 1, none⟩ = some (.int .i64 0) := blk_cell HI.out.1 1
    have z0 := blk_frozen HI.out.1 0
    have z1 := blk_frozen HI.out.1 1
    have d0 : wr.cell? ⟨w.heap.size + 1, 0, none⟩ = some (.int .i64 (N : Int)) := blk_cell HI.out.2.1 0
    have d1 : wr.cell? ⟨w.heap.size + 1, 1, none⟩ = some (.int .i64 ((prefW g x : Nat) : Int)) := blk_cell HI.out.2.1 1
    by_cases hlt : x < M
    · have hC := Aside0.mk (hH.out x wr hlt HI.out.2.2)
      cases hg : g x with
      | false =>
        rw [hg] at hC
        have HG := Aside0.mk hg
        clear hg
        go_wp2_with (first | (go_at_call 29; (with_reducible refine hC.out.mono ?_); rintro e w1 ⟨rfl, hb⟩))
        go_roundw
        case rel => exact ⟨x + 1, by omega, by go_num, ⟨(HI.out.call hb).skip HG.out⟩⟩
        case measure => simp [intOf]; omega
      | true =>
        rw [hg] at hC
        have HG := Aside0.mk hg
        clear hg
        go_wp2_with (first | (go_at_call 29; (with_reducible refine hC.out.mono ?_); rintro e w1 ⟨rfl, hb⟩))
        have HI1 := Aside0.mk (HI.out.call hb)
        have d1' : w1.cell? ⟨w.heap.size + 1, 1, none⟩ = some (.int .i64 ((prefW g x : Nat) : Int)) := blk_cell HI1.out.2.1 1
        have z1' : w1.frozen? ⟨w.heap.size + 1, 1, none⟩ = false := blk_frozen HI1.out.2.1 1
        clear c0 c1 z0 z1 d0 d1
        go_region
        all_goals
          go_wp2
          go_roundw
          case rel =>
            refine ⟨x + 1, by omega, by go_num, ?_⟩
            · exact ⟨(HI1.out.set HG.out (by omega) (by rw [show shl .i64 1 (x : Int) = wrap64 (2 ^ x) from by unfold shl; rw [min_bits (by omega), Int.one_mul, i64_w]])).drew⟩
          case measure => simp [intOf]; omega
    · obtain rfl : x = M := by omega
      go_wp2
      exact bodyPost_ret (v := .agg #[.int .i64 (N : Int), .int .i64 ((prefW g x : Nat) : Int)]) (by simp [results, Tryd.results28, go_sem, c0, c1, d0, d1]) rfl ⟨rfl, (HI.out.2.2.setCell (p := ⟨w.heap.size, 0, none⟩) (Nat.le_refl _) _).setCell (p := ⟨w.heap.size, 1, none⟩) (Nat.le_refl _) _⟩

def impl_variable.f (a0 : Int) (a1 : Int) : Option (Int × Int) :=
  if 0 ≤ a0 ∧ a0 ≤ 5 ∧ 0 ≤ a1 ∧ a1 < 5 then some (a0, ((szVar a0.toNat a1.toNat : Nat) : Int)) else none
theorem impl_variable.mk (n i : Nat) (hn : n ≤ 5) (hi : i < 5) (I : Nat) (w : World) (hI : I < w.heap.size) (fi : w.cell? ⟨I, 0, none⟩ = some (.int .i64 (i : Int))) :
    Calls Tryd.prog 28 #[.int .i64 (n : Int), .func (.func 29) #[] #[.pointer (some ⟨I, 0, none⟩)]] w fun e w' => e = .returned (.agg #[.int .i64 (n : Int), .int .i64 ((szVar n i : Nat) : Int)]) ∧ Below w.heap.size w w' := by
  have h16 : 2 ^ n ≤ 32 := pow_le_5 hn
  have e10 : wrap64 ((2 : Int) ^ n) = ((2 ^ n : Nat) : Int) := by
    have : ((2 : Int) ^ n) = ((2 ^ n : Nat) : Int) := by push_cast; rfl
    rw [this]
    obtain ⟨P, hP⟩ : ∃ P, P = 2 ^ n := ⟨_, rfl⟩
    rw [← hP] at h16 ⊢
    exact w64 (by omega) (by omega)
  exact impl_variable.aux n (2 ^ n) (by omega) (by omega) e10 (fun x => x.testBit i) I w (fun x W hx hb' => impl_variable.clo x i (by omega) hi I W ((hb'.cell (p := ⟨I, 0, none⟩) hI).trans fi))
set_option maxHeartbeats 1600000 in
theorem impl_variable.nat (n i : Nat) (hn : n ≤ 5) (hi : i < 5) (w : World) :
    Calls Tryd.prog 20 #[.int .i64 (n : Int), .int .i64 (i : Int)] w fun e w' => e = .returned (.agg #[.int .i64 (n : Int), .int .i64 ((szVar n i : Nat) : Int)]) ∧ Below w.heap.size w w' := by
  have huT := Tryd.underlying26
  have HC := Aside0.mk (impl_variable.mk n i hn hi w.heap.size ((w.alloc (.cells #[.int .i64 (i : Int)] 3)).alloc (.cells #[.int .i64 0, .int .i64 0] 26)) (by simp; omega) (by go_simp))
  have HR : Aside0 (((w.alloc (.cells #[.int .i64 (i : Int)] 3)).alloc (.cells #[.int .i64 0, .int .i64 0] 26)).heap[w.heap.size + 1]? = some (.cells #[.int .i64 0, .int .i64 0] 26 (0, 0))) := ⟨by simpa using blk_new (w.alloc (.cells #[.int .i64 (i : Int)] 3)) (.cells #[.int .i64 0, .int .i64 0] 26)⟩
  have HB : Aside0 (Below w.heap.size w ((w.alloc (.cells #[.int .i64 (i : Int)] 3)).alloc (.cells #[.int .i64 0, .int .i64 0] 26))) := ⟨((Below.refl _ _).alloc (Nat.le_refl _) _).alloc (by simp) _⟩
  clear hi hn
  generalize ((szVar n i : Nat) : Int) = q at *
  go_enter Tryd.func20, Tryd.ntmps20
  go_wp2_with (first | (go_at_call 28; (with_reducible refine HC.out.mono ?_); rintro e w1 ⟨rfl, hb1⟩; have RB := Aside0.mk (blk_below HR.out hb1); have BB := Aside0.mk (HB.out.trans (hb1.mono HB.out.size)); clear hb1; have r0 : w1.cell? ⟨w.heap.size + 1, 0, none⟩ = some (.int .i64 0) := blk_cell RB.out 0; have r1 : w1.cell? ⟨w.heap.size + 1, 1, none⟩ = some (.int .i64 0) := blk_cell RB.out 1; have z0 := blk_frozen RB.out 0; have z1 := blk_frozen RB.out 1))
  exact bodyPost_ret (v := .agg #[.int .i64 (n : Int), .int .i64 q]) (by simp [results, Tryd.results20, go_sem, r0, r1]) rfl ⟨rfl, (BB.out.setCell (p := ⟨w.heap.size + 1, 0, none⟩) (by show w.heap.size ≤ w.heap.size + 1; omega) _).setCell (p := ⟨w.heap.size + 1, 1, none⟩) (by show w.heap.size ≤ w.heap.size + 1; omega) _⟩
theorem impl_variable.calls (a0 : Int) (a1 : Int) (r1 : Int) (r2 : Int) (w : World) (h : impl_variable.f a0 a1 = some (r1, r2)) :
    Calls Tryd.prog 20 #[.int .i64 a0, .int .i64 a1] w fun e w' => e = .returned (.agg #[.int .i64 r1, .int .i64 r2]) ∧ Below w.heap.size w w' := by
  unfold impl_variable.f at h
  by_cases hc : 0 ≤ a0 ∧ a0 ≤ 5 ∧ 0 ≤ a1 ∧ a1 < 5
  · rw [if_pos hc] at h
    obtain ⟨c2, c3, c4, c5⟩ := hc
    obtain ⟨n, rfl⟩ := nat_of c2
    obtain ⟨i, rfl⟩ := nat_of c4
    have h2 := Option.some.inj h
    simp only [Prod.mk.injEq, Int.toNat_natCast] at h2
    obtain ⟨rfl, rfl⟩ := h2
    exact impl_variable.nat n i (by omega) (by omega) w
  · rw [if_neg hc] at h; cases h


end Go.Proofs.YtmdpjmcleckedaaDoor.Print
