/- Functions of the given program as plain Lean functions, with proofs that their calls compute them, or lemmas on these. Laid by a program of this repo for the seat Ytpnbeonpicekhaa; Lean checks it. -/
import Derived.Test.YtpnbeonpicekhaaKExactFormulaSize0
import Derived.Test.YtpnbeonpicekhaaKExactFormulaSize1
import Derived.Test.YtpnbeonpicekhaaKExactFormulaSize2
import Derived.Test.YtpnbeonpicekhaaM15
namespace Go.Proofs.Ytpnbeonpicekhaa.Print
open Go.RowKit Go.Proofs.YtpnbeonpicekhaaW.PrintWords Go.Proofs.YtpnbeonpicekhaaW.PrintLast Go.Proofs.YtpnbeonpicekhaaW.PrintMore
attribute [local go_sem] max2_int min2_int max_two min_two max_three min_three max_four min_four   -- for this text's walks alone
set_option linter.unusedVariables false
set_option linter.unusedSimpArgs false

--OWNPART
/-! ### spec_FormulaSize: function 14 -/
--IMPORT M15
open Go.Proofs.Ytpnbeonpicekhaa.M
def spec_FormulaSize.f (a0_0 : Int) (a0_1 : Int) : Option Int := (spec_IsTable.f a0_0 a0_1).bind fun t => if t = true ∧ a0_0 ≤ 3 then ((spec_l22Sizes.f a0_0).bind fun l => if 0 ≤ a0_1 ∧ a0_1 < (l.length : Int) then some (rd l a0_1) else none) else some (-1)
set_option maxHeartbeats 4000000 in
set_option maxRecDepth 100000 in
theorem spec_FormulaSize.calls (a0_0 : Int) (a0_1 : Int) (r : Int) (w : World) (h : spec_FormulaSize.f a0_0 a0_1 = some r) :
    Calls Try.prog 14 #[.agg #[.int .i64 a0_0, .int .i64 a0_1]] w fun e w' => e = .returned (.int .i64 r) ∧ Below w.heap.size w w' := by
  have huT := Try.underlying25
  unfold spec_FormulaSize.f at h
  obtain ⟨q, hq, h⟩ := Option.bind_eq_some_iff.mp h
  obtain ⟨W0, hW0⟩ : ∃ W0, W0 = w.alloc (.cells #[.int .i64 a0_0, .int .i64 a0_1] 25) := ⟨_, rfl⟩
  have HB : Below w.heap.size w W0 := by rw [hW0]; exact (Below.refl _ _).alloc (Nat.le_refl _) _
  have c0 : W0.heap[w.heap.size]? = some (.cells #[.int .i64 a0_0, .int .i64 a0_1] 25 (0, 0)) := by rw [hW0]; exact blk_new w _
  have HBB := Aside0.mk HB
  have HQ := Aside0.mk hq
  have CW := Aside0.mk hW0
  have C0 := Aside0.mk c0
  clear hq HB c0 hW0
  by_cases hc : q = true ∧ a0_0 ≤ 3
  · rw [if_pos hc] at h
    obtain ⟨l, hl, h⟩ := Option.bind_eq_some_iff.mp h
    by_cases hb : 0 ≤ a0_1 ∧ a0_1 < (l.length : Int)
    · rw [if_pos hb] at h
      have h := Option.some.inj h
      obtain ⟨hb0, hb1⟩ := hb
      have CS := Aside0.mk (fun W => spec_l22Sizes.calls a0_0 l W hl)
      have HRR := Aside0.mk h
      obtain ⟨rfl, hc3⟩ := hc
      have hg : decide (a0_0 > 3) = false := decide_eq_false (by omega)
      have hg2 : decide (3 < a0_0) = false := decide_eq_false (by omega)
      clear h hl
      go_enter Try.func14, Try.ntmps14
      go_wp2_with (first | (go_at_call 43; rw [← CW.out]; (with_reducible refine (spec_IsTable.calls _ _ _ _ HQ.out).mono ?_); rintro e w1 ⟨rfl, hb⟩; have B1 := Aside0.mk hb; clear hb; have p0 := blk_cell (blk_below C0.out B1.out) 0; have p1 := blk_cell (blk_below C0.out B1.out) 1))
      have p0' : ∀ W, Below w1.heap.size w1 W → W.cell? ⟨w.heap.size, 0, none⟩ = some (.int .i64 a0_0) := fun W hb => blk_cell (blk_below (blk_below C0.out B1.out) hb) 0
      have p1' : ∀ W, Below w1.heap.size w1 W → W.cell? ⟨w.heap.size, 1, none⟩ = some (.int .i64 a0_1) := fun W hb => blk_cell (blk_below (blk_below C0.out B1.out) hb) 1
      have P0 := Aside0.mk p0'
      have P1 := Aside0.mk p1'
      clear p0' p1'
      go_region_with (first | (go_at_call 44; (with_reducible refine (CS.out _).mono ?_); rintro e w3 ⟨v3, rfl, hr3, hb3⟩; obtain ⟨g3, c3, ev, _, _, _⟩ := Kd.R_form hr3 (by omega); subst ev; have hcell := (Kd.R_celln 0 hr3 a0_1 hb0 (by omega)).1; have hcell' : w3.cell? ⟨g3, a0_1.toNat, none⟩ = some (.int .i64 (rd l a0_1)) := hcell; have hb4 : Below w1.heap.size w1 w3 := (below_drew (Below.refl _ w1)).trans hb3; have q0 := P0.out _ hb4; have q1 := P1.out _ hb4; have HB4 := Aside0.mk hb4; clear hcell hr3 hb3 hb4))
      all_goals
        go_wp2
        go_ret
        exact ⟨by first | rfl | (rw [← HRR.out]; rfl), HBB.out.trans ((B1.out.trans (HB4.out.mono B1.out.size)).mono HBB.out.size)⟩
    · rw [if_neg hb] at h; cases h
  · rw [if_neg hc] at h
    have h := Option.some.inj h
    subst h
    cases q with
    | false =>
      clear hc
      go_enter Try.func14, Try.ntmps14
      go_wp2_with (first | (go_at_call 43; rw [← CW.out]; (with_reducible refine (spec_IsTable.calls _ _ _ _ HQ.out).mono ?_); rintro e w1 ⟨rfl, hb⟩; have B1 := Aside0.mk hb; clear hb; have p0 := blk_cell (blk_below C0.out B1.out) 0; have p1 := blk_cell (blk_below C0.out B1.out) 1))
      go_ret
      exact ⟨rfl, HBB.out.trans (B1.out.mono HBB.out.size)⟩
    | true =>
      have hc2 : 3 < a0_0 := Int.not_le.mp (fun h => hc ⟨rfl, h⟩)
      have hg2 : decide (3 < a0_0) = true := decide_eq_true hc2
      have hg3 : decide (a0_0 > 3) = true := decide_eq_true hc2
      clear hc
      go_enter Try.func14, Try.ntmps14
      go_wp2_with (first | (go_at_call 43; rw [← CW.out]; (with_reducible refine (spec_IsTable.calls _ _ _ _ HQ.out).mono ?_); rintro e w1 ⟨rfl, hb⟩; have B1 := Aside0.mk hb; clear hb; have p0 := blk_cell (blk_below C0.out B1.out) 0; have p1 := blk_cell (blk_below C0.out B1.out) 1))
      go_ret
      exact ⟨rfl, HBB.out.trans (B1.out.mono HBB.out.size)⟩


end Go.Proofs.Ytpnbeonpicekhaa.Print
