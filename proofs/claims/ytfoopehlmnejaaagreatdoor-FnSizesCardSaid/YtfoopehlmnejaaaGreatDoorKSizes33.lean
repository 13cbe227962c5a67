import Derived.Test.YtfoopehlmnejaaaGreatDoorKSizes2
import Derived.Test.YtfoopehlmnejaaaGreatDoorKSizes11
import Derived.Test.YtfoopehlmnejaaaGreatDoorKSizes23
import Derived.Test.YtfoopehlmnejaaaGreatDoorM35
import Derived.Deep.RegionHeld3
namespace Go.Proofs.YtfoopehlmnejaaaGreatDoor.Print
open Go.RowKit Go.Proofs.YtfoopehlmnejaaaGreatDoorW.PrintWords Go.Proofs.YtfoopehlmnejaaaGreatDoorW.PrintLast Go.Proofs.YtfoopehlmnejaaaGreatDoorW.PrintMore
attribute [local go_sem] max2_int min2_int max_two min_two max_three min_three max_four min_four   -- for this text's walks alone
set_option linter.unusedVariables false
set_option linter.unusedSimpArgs false
def impl_VariableTable.f (a0 : Int) (a1 : Int) : Option (Int × Int × Bool) := (impl_isBits.f a0).bind fun t297 => (if t297 = true then (if a1 < 0 then (some (0, 0, false)) else (if a1 ≥ a0 then (some (0, 0, false)) else ((impl_variable.f a0 a1).bind fun bt298 => (some (bt298.1, bt298.2, true))))) else (some (0, 0, false)))
set_option maxHeartbeats 8000000 in
set_option maxRecDepth 100000 in
theorem impl_VariableTable.calls (a0 : Int) (a1 : Int) (r1 : Int) (r2 : Int) (r3 : Bool) (w : World) (h : impl_VariableTable.f a0 a1 = some (r1, r2, r3)) :
  Calls Tryz.prog 79 #[.int .i64 a0, .int .i64 a1] w fun e w' => e = .returned (.tuple #[.agg #[.int .i64 r1, .int .i64 r2], .bool r3]) ∧ Below w.heap.size w w' := by
 have hu25 := Tryz.underlying25
 have HB := A_ (Below.refl w.heap.size w)
 have H : ((impl_isBits.f a0).bind fun t297 => (if t297 = true then (if a1 < 0 then (some (0, 0, false)) else (if a1 ≥ a0 then (some (0, 0, false)) else ((impl_variable.f a0 a1).bind fun bt298 => (some (bt298.1, bt298.2, true))))) else (some (0, 0, false)))) = some (r1, r2, r3) := h
 clear h; replace H := Option.bind_eq_some_iff.mp H; obtain ⟨t297, A30, H⟩ := H; (try dsimp only at H); have A3 := A_ A30; clear A30
 by_cases c4 : t297 = true
 ·subst c4
  have H1 : (if a1 < 0 then (some (0, 0, false)) else (if a1 ≥ a0 then (some (0, 0, false)) else ((impl_variable.f a0 a1).bind fun bt298 => (some (bt298.1, bt298.2, true))))) = some (r1, r2, r3) := by rw [if_pos rfl] at H; exact H
  clear H; have H := H1; clear H1
  by_cases c5 : a1 < 0
  ·rw [if_pos c5] at H
   have c5b0 : decide (a1 < 0) = true := decide_eq_true c5
   clear c5
   simp only [Option.some.injEq, Prod.mk.injEq] at H
   obtain ⟨rfl, rfl, rfl⟩ := H
   go_enter Tryz.func79, Tryz.ntmps79
   go_wp2_with (first | ((with_reducible refine gate_dst (N := 4) rfl ?_); refine box_event ?hg (N := 4) ?hd (cs := #[.int .i64 0, .int .i64 0]) (t := 25) ?hr ?_; (case hd => rfl); (case hg => rfl); (case hr => first | (go_simp; done) | (go_simp; rfl)); intro gb296 hg w6 hbox hb; have BK296 := A_ (hbox); have GW296 := A_ ((by rw [hg]; exact (below_size q0_) : w.heap.size ≤ gb296)); have GE296 := A_ ((by rw [hg]; exact (below_size q0_) : w.heap.size ≤ gb296)); replace HB := A_ (below_step q0_ hb); clear hb hbox hg) | ((with_reducible refine gate_callee (f := 48) rfl ?_); refine goesL_ (some 7) rfl rfl Tryz.func48 kr_ rfl #[.int .i64 a0] rfl q2_ ?_; (with_reducible refine (impl_isBits.calls a0 true _ A3.out).mono ?_); rintro e w' ⟨rfl, ⟨nd, rfl⟩⟩; refine ⟨_, rfl, ?_⟩; (try (rw [drewN_self w6]; generalize hq_ : World.drewN w6 _ = w6; have n0_ : Aside0 (w6.heap[gb296]? = some (.cells #[.int .i64 0, .int .i64 0] 25 (0, 0))) := ⟨by rw [← hq_]; exact (M.Lb BK296)⟩; have n1_ : Aside0 (Below w.heap.size w w6) := ⟨by rw [← hq_]; exact q0_⟩; clear BK296 HB hq_; have BK296 := n0_; have HB := n1_; clear n0_ n1_)); have hcz7_0 := c20_ BK296; have hcz7_1 := c21_ BK296; have hfz7_0 := blk_frozen BK296.out 0; have hfz7_1 := blk_frozen BK296.out 1))
   refine bodyPost_ret (results_ct rfl _ _ gb296 25 #[.int .i64 0, .int .i64 0] (0, 0) _ rfl (by (with_reducible repeat (first | refine blk_drewN ?_ _ | refine blk_drew ?_ | refine blk_alloc ?_ _)); refine blk_put (cs := #[.int .i64 0, .int .i64 0]) ?_ 1 _ rfl; (with_reducible repeat (first | refine blk_drewN ?_ _ | refine blk_drew ?_ | refine blk_alloc ?_ _)); refine blk_put (cs := #[.int .i64 0, .int .i64 0]) ?_ 0 _ rfl; (with_reducible repeat (first | refine blk_drewN ?_ _ | refine blk_drew ?_ | refine blk_alloc ?_ _)); exact BK296.out) Tryz.underlying25 rfl kr_) rfl ?_
   exact ⟨q6_, q0_⟩
  ·rw [if_neg c5] at H
   have c5b0 : decide (a1 < 0) = false := decide_eq_false c5
   clear c5
   by_cases c8 : a1 ≥ a0
   ·rw [if_pos c8] at H
    have c8b0 : decide (a0 ≤ a1) = true := decide_eq_true c8
    clear c8
    simp only [Option.some.injEq, Prod.mk.injEq] at H
    obtain ⟨rfl, rfl, rfl⟩ := H
    go_enter Tryz.func79, Tryz.ntmps79
    go_wp2_with (first | ((with_reducible refine gate_dst (N := 4) rfl ?_); refine box_event ?hg (N := 4) ?hd (cs := #[.int .i64 0, .int .i64 0]) (t := 25) ?hr ?_; (case hd => rfl); (case hg => rfl); (case hr => first | (go_simp; done) | (go_simp; rfl)); intro gb296 hg w9 hbox hb; have BK296 := A_ (hbox); have GW296 := A_ ((by rw [hg]; exact (below_size q0_) : w.heap.size ≤ gb296)); have GE296 := A_ ((by rw [hg]; exact (below_size q0_) : w.heap.size ≤ gb296)); replace HB := A_ (below_step q0_ hb); clear hb hbox hg) | ((with_reducible refine gate_callee (f := 48) rfl ?_); refine goesL_ (some 7) rfl rfl Tryz.func48 kr_ rfl #[.int .i64 a0] rfl q2_ ?_; (with_reducible refine (impl_isBits.calls a0 true _ A3.out).mono ?_); rintro e w' ⟨rfl, ⟨nd, rfl⟩⟩; refine ⟨_, rfl, ?_⟩; (try (rw [drewN_self w9]; generalize hq_ : World.drewN w9 _ = w9; have n0_ : Aside0 (w9.heap[gb296]? = some (.cells #[.int .i64 0, .int .i64 0] 25 (0, 0))) := ⟨by rw [← hq_]; exact (M.Lb BK296)⟩; have n1_ : Aside0 (Below w.heap.size w w9) := ⟨by rw [← hq_]; exact q0_⟩; clear BK296 HB hq_; have BK296 := n0_; have HB := n1_; clear n0_ n1_)); have hcz10_0 := c20_ BK296; have hcz10_1 := c21_ BK296; have hfz10_0 := blk_frozen BK296.out 0; have hfz10_1 := blk_frozen BK296.out 1))
    refine bodyPost_ret (results_ct rfl _ _ gb296 25 #[.int .i64 0, .int .i64 0] (0, 0) _ rfl (by (with_reducible repeat (first | refine blk_drewN ?_ _ | refine blk_drew ?_ | refine blk_alloc ?_ _)); refine blk_put (cs := #[.int .i64 0, .int .i64 0]) ?_ 1 _ rfl; (with_reducible repeat (first | refine blk_drewN ?_ _ | refine blk_drew ?_ | refine blk_alloc ?_ _)); refine blk_put (cs := #[.int .i64 0, .int .i64 0]) ?_ 0 _ rfl; (with_reducible repeat (first | refine blk_drewN ?_ _ | refine blk_drew ?_ | refine blk_alloc ?_ _)); exact BK296.out) Tryz.underlying25 rfl kr_) rfl ?_
    exact ⟨q6_, q0_⟩
   ·rw [if_neg c8] at H
    have c8b0 : decide (a0 ≤ a1) = false := decide_eq_false c8
    clear c8; replace H := Option.bind_eq_some_iff.mp H; obtain ⟨⟨t298, t299⟩, A110, H⟩ := H
    replace H : (some (t298, t299, true)) = some (r1, r2, r3) := H
    have A11 := A_ A110; clear A110
    simp only [Option.some.injEq, Prod.mk.injEq] at H
    obtain ⟨rfl, rfl, rfl⟩ := H
    go_enter Tryz.func79, Tryz.ntmps79
    go_wp2_with (first | ((with_reducible refine gate_dst (N := 4) rfl ?_); refine box_event ?hg (N := 4) ?hd (cs := #[.int .i64 0, .int .i64 0]) (t := 25) ?hr ?_; (case hd => rfl); (case hg => rfl); (case hr => first | (go_simp; done) | (go_simp; rfl)); intro gb296 hg w12 hbox hb; have BK296 := A_ (hbox); have GW296 := A_ ((by rw [hg]; exact (below_size q0_) : w.heap.size ≤ gb296)); have GE296 := A_ ((by rw [hg]; exact (below_size q0_) : w.heap.size ≤ gb296)); replace HB := A_ (below_step q0_ hb); clear hb hbox hg) | ((with_reducible refine gate_callee (f := 48) rfl ?_); refine goesL_ (some 7) rfl rfl Tryz.func48 kr_ rfl #[.int .i64 a0] rfl q2_ ?_; (with_reducible refine (impl_isBits.calls a0 true _ A3.out).mono ?_); rintro e w' ⟨rfl, ⟨nd, rfl⟩⟩; refine ⟨_, rfl, ?_⟩; (try (rw [drewN_self w12]; generalize hq_ : World.drewN w12 _ = w12; have n0_ : Aside0 (w12.heap[gb296]? = some (.cells #[.int .i64 0, .int .i64 0] 25 (0, 0))) := ⟨by rw [← hq_]; exact (M.Lb BK296)⟩; have n1_ : Aside0 (Below w.heap.size w w12) := ⟨by rw [← hq_]; exact q0_⟩; clear BK296 HB hq_; have BK296 := n0_; have HB := n1_; clear n0_ n1_))) | ((with_reducible refine gate_callee (f := 71) rfl ?_); refine goesL_ (some 21) rfl rfl Tryz.func71 kr_ rfl #[.int .i64 a0, .int .i64 a1] rfl q2_ ?_; (with_reducible refine (impl_variable.calls a0 a1 t298 t299 _ A11.out).mono ?_); rintro e w13 ⟨rfl, hb⟩; refine ⟨_, rfl, ?_⟩; replace BK296 := A_ (blk_below (M.Lb BK296) hb); replace HB := A_ (below_step q0_ hb); clear hb; have hcz14_0 := c20_ BK296; have hcz14_1 := c21_ BK296; have hfz14_0 := blk_frozen BK296.out 0; have hfz14_1 := blk_frozen BK296.out 1))
    refine bodyPost_ret (results_ct rfl _ _ gb296 25 #[.int .i64 t298, .int .i64 t299] (0, 0) _ rfl (by (with_reducible repeat (first | refine blk_drewN ?_ _ | refine blk_drew ?_ | refine blk_alloc ?_ _)); refine blk_put (cs := #[.int .i64 t298, .int .i64 0]) ?_ 1 _ rfl; (with_reducible repeat (first | refine blk_drewN ?_ _ | refine blk_drew ?_ | refine blk_alloc ?_ _)); refine blk_put (cs := #[.int .i64 0, .int .i64 0]) ?_ 0 _ rfl; (with_reducible repeat (first | refine blk_drewN ?_ _ | refine blk_drew ?_ | refine blk_alloc ?_ _)); exact BK296.out) Tryz.underlying25 rfl kr_) rfl ?_
    exact ⟨q6_, q0_⟩
 ·replace c4 := Bool.eq_false_iff.mpr c4
  subst c4
  have H1 : (some (0, 0, false)) = some (r1, r2, r3) := by rw [if_neg (show ¬ (false = true) by decide)] at H; exact H
  clear H; have H := H1; clear H1
  simp only [Option.some.injEq, Prod.mk.injEq] at H
  obtain ⟨rfl, rfl, rfl⟩ := H
  go_enter Tryz.func79, Tryz.ntmps79
  go_wp2_with (first | ((with_reducible refine gate_dst (N := 4) rfl ?_); refine box_event ?hg (N := 4) ?hd (cs := #[.int .i64 0, .int .i64 0]) (t := 25) ?hr ?_; (case hd => rfl); (case hg => rfl); (case hr => first | (go_simp; done) | (go_simp; rfl)); intro gb296 hg w15 hbox hb; have BK296 := A_ (hbox); have GW296 := A_ ((by rw [hg]; exact (below_size q0_) : w.heap.size ≤ gb296)); have GE296 := A_ ((by rw [hg]; exact (below_size q0_) : w.heap.size ≤ gb296)); replace HB := A_ (below_step q0_ hb); clear hb hbox hg) | ((with_reducible refine gate_callee (f := 48) rfl ?_); refine goesL_ (some 7) rfl rfl Tryz.func48 kr_ rfl #[.int .i64 a0] rfl q2_ ?_; (with_reducible refine (impl_isBits.calls a0 false _ A3.out).mono ?_); rintro e w' ⟨rfl, ⟨nd, rfl⟩⟩; refine ⟨_, rfl, ?_⟩; (try (rw [drewN_self w15]; generalize hq_ : World.drewN w15 _ = w15; have n0_ : Aside0 (w15.heap[gb296]? = some (.cells #[.int .i64 0, .int .i64 0] 25 (0, 0))) := ⟨by rw [← hq_]; exact (M.Lb BK296)⟩; have n1_ : Aside0 (Below w.heap.size w w15) := ⟨by rw [← hq_]; exact q0_⟩; clear BK296 HB hq_; have BK296 := n0_; have HB := n1_; clear n0_ n1_)); have hcz16_0 := c20_ BK296; have hcz16_1 := c21_ BK296; have hfz16_0 := blk_frozen BK296.out 0; have hfz16_1 := blk_frozen BK296.out 1))
  refine bodyPost_ret (results_ct rfl _ _ gb296 25 #[.int .i64 0, .int .i64 0] (0, 0) _ rfl (by (with_reducible repeat (first | refine blk_drewN ?_ _ | refine blk_drew ?_ | refine blk_alloc ?_ _)); refine blk_put (cs := #[.int .i64 0, .int .i64 0]) ?_ 1 _ rfl; (with_reducible repeat (first | refine blk_drewN ?_ _ | refine blk_drew ?_ | refine blk_alloc ?_ _)); refine blk_put (cs := #[.int .i64 0, .int .i64 0]) ?_ 0 _ rfl; (with_reducible repeat (first | refine blk_drewN ?_ _ | refine blk_drew ?_ | refine blk_alloc ?_ _)); exact BK296.out) Tryz.underlying25 rfl kr_) rfl ?_
  exact ⟨q6_, q0_⟩
end Go.Proofs.YtfoopehlmnejaaaGreatDoor.Print
namespace Go.Proofs.YtfoopehlmnejaaaGreatDoor.Print
open Go.RowKit Go.Proofs.YtfoopehlmnejaaaGreatDoorW.PrintWords Go.Proofs.YtfoopehlmnejaaaGreatDoorW.PrintLast Go.Proofs.YtfoopehlmnejaaaGreatDoorW.PrintMore
attribute [local go_sem] max2_int min2_int max_two min_two max_three min_three max_four min_four   -- for this text's walks alone
set_option linter.unusedVariables false
set_option linter.unusedSimpArgs false
set_option maxRecDepth 100000
open Go.Proofs.YtfoopehlmnejaaaGreatDoor.M
theorem impl_part_table.clo (c x : Int) (b I : Nat) (w : World) (hI : w.cell? ⟨I, 0, none⟩ = some (.pointer (some ⟨b, 0, none⟩))) (hb : w.cell? ⟨b, 0, none⟩ = some (.int .u8 c)) :
  Calls Tryz.prog 81 #[.int .i64 x, .pointer (some ⟨I, 0, none⟩)] w fun e w' => e = .returned (.bool (c == 49)) ∧ Below w.heap.size w w' := by
 go_enter Tryz.func81, Tryz.ntmps81
 go_wp2_with (fail)
 go_ret
 exact ⟨rfl, by repeat (first | exact Below.refl _ _ | apply pw_below_drewN)⟩
set_option maxHeartbeats 1600000 in
theorem impl_part_table.aux (N M : Nat) (hN : N ≤ 5) (hM : M ≤ 32) (e10 : wrap64 ((2 : Int) ^ N) = (M : Int)) (g : Nat → Bool) (I : Nat) (w : World)
  (hc : ∀ (x : Nat) (W : World), x < M → Below w.heap.size w W → Calls Tryz.prog 81 #[.int .i64 (x : Int), .pointer (some ⟨I, 0, none⟩)] W fun e W' => e = .returned (.bool (g x)) ∧ Below W.heap.size W W') :
  Calls Tryz.prog 80 #[.int .i64 (N : Int), .func (.func 81) #[] #[.pointer (some ⟨I, 0, none⟩)]] w fun e w' => e = .returned (.agg #[.int .i64 (N : Int), .int .i64 ((prefW g M : Nat) : Int)]) ∧ Below w.heap.size w w' := by
 have huT := Tryz.underlying25
 have hH := A_ hc; clear hc
 have hS := A_ (impl_makeTable.I.start w N g)
 go_enter Tryz.func80, Tryz.ntmps80
 go_wp2
 rw [e10]
 clear e10
 go_loopw [11] (fun v11 wr => ∃ x : Nat, x ≤ M ∧ v11 = .int .i64 (x : Int) ∧ Aside0 (impl_makeTable.I w N g x wr)) (fun v11 _ => M - (intOf v11).toNat)
 case atStart => exact ⟨0, Nat.zero_le _, rfl, hS⟩
 case round =>
  obtain ⟨x, hx, rfl, HI⟩ := hrel; clear hS
  have c0 : wr.cell? ⟨w.heap.size, 0, none⟩ = some (.int .i64 0) := blk_cell HI.out.1 0
  have c1 : wr.cell? ⟨w.heap.size, 1, none⟩ = some (.int .i64 0) := blk_cell HI.out.1 1
  have z0 := blk_frozen HI.out.1 0
  have z1 := blk_frozen HI.out.1 1
  have d0 : wr.cell? ⟨w.heap.size + 1, 0, none⟩ = some (.int .i64 (N : Int)) := blk_cell HI.out.2.1 0
  have d1 : wr.cell? ⟨w.heap.size + 1, 1, none⟩ = some (.int .i64 ((prefW g x : Nat) : Int)) := blk_cell HI.out.2.1 1
  by_cases hlt : x < M
  ·have hC := A_ (hH.out x wr hlt HI.out.2.2)
   cases hg : g x with
   | false =>
    rw [hg] at hC
    have HG := A_ hg; clear hg
    go_wp2_with (first | (go_at_call 81; (with_reducible refine hC.out.mono ?_); rintro e w1 ⟨rfl, hb⟩))
    go_roundw
    case rel => exact ⟨x + 1, by omega, by go_num, ⟨(HI.out.call hb).skip HG.out⟩⟩
    case measure => simp [intOf]; omega
   | true =>
    rw [hg] at hC
    have HG := A_ hg; clear hg
    go_wp2_with (first | (go_at_call 81; (with_reducible refine hC.out.mono ?_); rintro e w1 ⟨rfl, hb⟩))
    have HI1 := A_ (HI.out.call hb)
    have d1' : w1.cell? ⟨w.heap.size + 1, 1, none⟩ = some (.int .i64 ((prefW g x : Nat) : Int)) := blk_cell HI1.out.2.1 1
    have z1' : w1.frozen? ⟨w.heap.size + 1, 1, none⟩ = false := blk_frozen HI1.out.2.1 1
    clear c0 c1 z0 z1 d0 d1
    go_region
    all_goals
     go_wp2
     go_roundw
     case rel =>
      refine ⟨x + 1, by omega, by go_num, ?_⟩
      ·exact ⟨(HI1.out.set HG.out (by omega) (by rw [show shl .i64 1 (x : Int) = wrap64 (2 ^ x) from by unfold shl; rw [min_bits (by omega), Int.one_mul, i64_w]])).drew⟩
     case measure => simp [intOf]; omega
  ·obtain rfl : x = M := by omega
   go_wp2
   exact bodyPost_ret (v := .agg #[.int .i64 (N : Int), .int .i64 ((prefW g x : Nat) : Int)]) (by simp [results, Tryz.results80, go_sem, c0, c1, d0, d1]) rfl ⟨rfl, (HI.out.2.2.setCell (p := ⟨w.heap.size, 0, none⟩) (Nat.le_refl _) _).setCell (p := ⟨w.heap.size, 1, none⟩) (Nat.le_refl _) _⟩
theorem impl_part_table.mk (n b I : Nat) (c : Int) (hn : n ≤ 5) (w : World) (hI : w.cell? ⟨I, 0, none⟩ = some (.pointer (some ⟨b, 0, none⟩))) (hb : w.cell? ⟨b, 0, none⟩ = some (.int .u8 c)) :
  Calls Tryz.prog 80 #[.int .i64 (n : Int), .func (.func 81) #[] #[.pointer (some ⟨I, 0, none⟩)]] w fun e w' => e = .returned (.agg #[.int .i64 (n : Int), .int .i64 (((if c = 49 then szN n - 1 else 0 : Nat) : Nat) : Int)]) ∧ Below w.heap.size w w' := by
 have h16 : 2 ^ n ≤ 32 := pow_le_5 hn
 have e10 : wrap64 ((2 : Int) ^ n) = ((2 ^ n : Nat) : Int) := by
  have : ((2 : Int) ^ n) = ((2 ^ n : Nat) : Int) := by push_cast; rfl
  rw [this]
  obtain ⟨P, hP⟩ : ∃ P, P = 2 ^ n := ⟨_, rfl⟩
  rw [← hP] at h16 ⊢
  exact w64 (by omega) (by omega)
 have e : prefW (fun _ => (c == 49)) (2 ^ n) = if c = 49 then szN n - 1 else 0 := prefW_const n c
 rw [← e]
 have lI := World.block_lt_of_cell? w ⟨I, 0, none⟩ hI
 have lb := World.block_lt_of_cell? w ⟨b, 0, none⟩ hb
 exact impl_part_table.aux n (2 ^ n) (by omega) (by omega) e10 (fun _ => (c == 49)) I w (fun x W hx hb' => impl_part_table.clo c x b I W ((hb'.cell (p := ⟨I, 0, none⟩) lI).trans hI) ((hb'.cell (p := ⟨b, 0, none⟩) lb).trans hb))
set_option maxHeartbeats 1600000 in
theorem impl_part_table.leafC (n b : Nat) (c : Int) (w : World) (hn : n ≤ 5) (hc : ¬ (97 ≤ c ∧ c < 102)) (h2 : w.cell? ⟨b, 0, none⟩ = some (.int .u8 c)) (h3 : w.cell? ⟨b, 1, none⟩ = some (.pointer none)) :
  Calls Tryz.prog 49 #[.pointer (some ⟨b, 0, none⟩), .int .i64 (n : Int)] w fun e w' => e = .returned (.tuple #[.agg #[.int .i64 (n : Int), .int .i64 (((if c = 49 then szN n - 1 else 0 : Nat) : Nat) : Int)], .bool true]) ∧ Below w.heap.size w w' := by
 have huT := Tryz.underlying25
 have lb := World.block_lt_of_cell? w ⟨b, 0, none⟩ h2
 have HB : Aside0 (Below w.heap.size w ((w.alloc (.cells #[.pointer (some ⟨b, 0, none⟩)] 60)).alloc (.cells #[.int .i64 0, .int .i64 0] 25))) := ⟨((Below.refl _ _).alloc (Nat.le_refl _) _).alloc (by simp) _⟩
 have c2 : ((w.alloc (.cells #[.pointer (some ⟨b, 0, none⟩)] 60)).alloc (.cells #[.int .i64 0, .int .i64 0] 25)).cell? ⟨b, 0, none⟩ = some (.int .u8 c) := (HB.out.cell (p := ⟨b, 0, none⟩) lb).trans h2
 have c3 : ((w.alloc (.cells #[.pointer (some ⟨b, 0, none⟩)] 60)).alloc (.cells #[.int .i64 0, .int .i64 0] 25)).cell? ⟨b, 1, none⟩ = some (.pointer none) := (HB.out.cell (p := ⟨b, 1, none⟩) lb).trans h3
 have cI : ((w.alloc (.cells #[.pointer (some ⟨b, 0, none⟩)] 60)).alloc (.cells #[.int .i64 0, .int .i64 0] 25)).cell? ⟨w.heap.size, 0, none⟩ = some (.pointer (some ⟨b, 0, none⟩)) := by go_simp
 have A2 := A_ (impl_part_isLeaf.yes b ((w.alloc (.cells #[.pointer (some ⟨b, 0, none⟩)] 60)).alloc (.cells #[.int .i64 0, .int .i64 0] 25)) c3)
 have A0 := A_ (fun nd => impl_part_isLeaf.yes b (((w.alloc (.cells #[.pointer (some ⟨b, 0, none⟩)] 60)).alloc (.cells #[.int .i64 0, .int .i64 0] 25)).drewN nd) c3)
 have A1 : Aside0 (impl_isLetter.f c = some false) := ⟨by
  unfold impl_isLetter.f
  by_cases h3 : c ≥ 97
  ·rw [if_pos h3, decide_eq_false (by omega)]
  ·rw [if_neg h3]⟩
 have HC := A_ (fun nd => impl_part_table.mk n b w.heap.size c hn (((w.alloc (.cells #[.pointer (some ⟨b, 0, none⟩)] 60)).alloc (.cells #[.int .i64 0, .int .i64 0] 25)).drewN nd) cI c2)
 have HR : ∀ nd, Aside0 ((((w.alloc (.cells #[.pointer (some ⟨b, 0, none⟩)] 60)).alloc (.cells #[.int .i64 0, .int .i64 0] 25)).drewN nd).heap[w.heap.size + 1]? = some (.cells #[.int .i64 0, .int .i64 0] 25 (0, 0))) := fun nd => ⟨by simpa using blk_new (w.alloc (.cells #[.pointer (some ⟨b, 0, none⟩)] 60)) (.cells #[.int .i64 0, .int .i64 0] 25)⟩
 generalize (((if c = 49 then szN n - 1 else 0 : Nat) : Nat) : Int) = q at *
 clear hc hn h2 h3 c3
 go_enter Tryz.func49, Tryz.ntmps49
 go_wp2_with (first | (go_at_call 77; (with_reducible first | refine A2.out.mono ?_ | refine (A0.out _).mono ?_); rintro e w' ⟨rfl, ⟨nd, rfl⟩⟩) | (go_at_call 78; (with_reducible refine (impl_isLetter.calls _ _ _ A1.out).mono ?_); rintro e w' ⟨rfl, ⟨nd2, rfl⟩⟩) | (go_at_call 80; (with_reducible refine (HC.out _).mono ?_); rintro e w1 ⟨rfl, hb1⟩; have RB := A_ (blk_below (HR _).out hb1); have BB := A_ ((pw_below_drewN HB.out _).trans (hb1.mono (pw_below_drewN HB.out _).size)); clear hb1; have r0 : w1.cell? ⟨w.heap.size + 1, 0, none⟩ = some (.int .i64 0) := blk_cell RB.out 0; have r1 : w1.cell? ⟨w.heap.size + 1, 1, none⟩ = some (.int .i64 0) := blk_cell RB.out 1; have z0 := blk_frozen RB.out 0; have z1 := blk_frozen RB.out 1))
 exact bodyPost_ret (v := .tuple #[.agg #[.int .i64 (n : Int), .int .i64 q], .bool true]) (by simp [results, Tryz.results49, go_sem, r0, r1]) rfl ⟨rfl, (BB.out.setCell (p := ⟨w.heap.size + 1, 0, none⟩) (by show w.heap.size ≤ w.heap.size + 1; omega) _).setCell (p := ⟨w.heap.size + 1, 1, none⟩) (by show w.heap.size ≤ w.heap.size + 1; omega) _⟩
set_option maxHeartbeats 1600000 in
theorem impl_part_table.leafL (n i b : Nat) (w : World) (hn : n ≤ 5) (hi : i < n) (h2 : w.cell? ⟨b, 0, none⟩ = some (.int .u8 ((97 + i : Nat) : Int))) (h3 : w.cell? ⟨b, 1, none⟩ = some (.pointer none)) :
  Calls Tryz.prog 49 #[.pointer (some ⟨b, 0, none⟩), .int .i64 (n : Int)] w fun e w' => e = .returned (.tuple #[.agg #[.int .i64 (n : Int), .int .i64 ((szVar n i : Nat) : Int)], .bool true]) ∧ Below w.heap.size w w' := by
 have huT := Tryz.underlying25
 have lb := World.block_lt_of_cell? w ⟨b, 0, none⟩ h2
 have HB : Aside0 (Below w.heap.size w ((w.alloc (.cells #[.pointer (some ⟨b, 0, none⟩)] 60)).alloc (.cells #[.int .i64 0, .int .i64 0] 25))) := ⟨((Below.refl _ _).alloc (Nat.le_refl _) _).alloc (by simp) _⟩
 have c2 : ((w.alloc (.cells #[.pointer (some ⟨b, 0, none⟩)] 60)).alloc (.cells #[.int .i64 0, .int .i64 0] 25)).cell? ⟨b, 0, none⟩ = some (.int .u8 ((97 + i : Nat) : Int)) := (HB.out.cell (p := ⟨b, 0, none⟩) lb).trans h2
 have c3 : ((w.alloc (.cells #[.pointer (some ⟨b, 0, none⟩)] 60)).alloc (.cells #[.int .i64 0, .int .i64 0] 25)).cell? ⟨b, 1, none⟩ = some (.pointer none) := (HB.out.cell (p := ⟨b, 1, none⟩) lb).trans h3
 have cI : ((w.alloc (.cells #[.pointer (some ⟨b, 0, none⟩)] 60)).alloc (.cells #[.int .i64 0, .int .i64 0] 25)).cell? ⟨w.heap.size, 0, none⟩ = some (.pointer (some ⟨b, 0, none⟩)) := by go_simp
 have A2 := A_ (impl_part_isLeaf.yes b ((w.alloc (.cells #[.pointer (some ⟨b, 0, none⟩)] 60)).alloc (.cells #[.int .i64 0, .int .i64 0] 25)) c3)
 have A0 := A_ (fun nd => impl_part_isLeaf.yes b (((w.alloc (.cells #[.pointer (some ⟨b, 0, none⟩)] 60)).alloc (.cells #[.int .i64 0, .int .i64 0] 25)).drewN nd) c3)
 have A1 : Aside0 (impl_isLetter.f ((97 + i : Nat) : Int) = some true) := ⟨by unfold impl_isLetter.f; rw [if_pos (by omega), decide_eq_true (by omega)]⟩
 have HC : Aside0 (∀ W, Calls Tryz.prog 79 #[.int .i64 (n : Int), .int .i64 (i : Int)] W fun e W' => e = .returned (.tuple #[.agg #[.int .i64 (n : Int), .int .i64 ((szVar n i : Nat) : Int)], .bool true]) ∧ Below W.heap.size W W') := ⟨fun W => impl_VariableTable.calls _ _ _ _ _ W (by
  unfold impl_VariableTable.f impl_isBits.f impl_variable.f
  rw [if_pos (by omega), Option.bind_some, if_pos (decide_eq_true (by omega)), if_neg (by omega), if_neg (by omega), if_pos (by omega)]; rfl)⟩
 have HR : ∀ nd, Aside0 ((((w.alloc (.cells #[.pointer (some ⟨b, 0, none⟩)] 60)).alloc (.cells #[.int .i64 0, .int .i64 0] 25)).drewN nd).heap[w.heap.size + 1]? = some (.cells #[.int .i64 0, .int .i64 0] 25 (0, 0))) := fun nd => ⟨by simpa using blk_new (w.alloc (.cells #[.pointer (some ⟨b, 0, none⟩)] 60)) (.cells #[.int .i64 0, .int .i64 0] 25)⟩
 generalize ((szVar n i : Nat) : Int) = q at *
 obtain ⟨c, hc⟩ : ∃ c : Int, c = ((97 + i : Nat) : Int) := ⟨_, rfl⟩
 obtain ⟨I, hI⟩ : ∃ I : Int, I = (i : Int) := ⟨_, rfl⟩
 rw [← hc] at c2 A1
 rw [← hI] at HC
 have hcI : (c = 97 ∧ I = 0) ∨ (c = 98 ∧ I = 1) ∨ (c = 99 ∧ I = 2) ∨ (c = 100 ∧ I = 3) ∨ (c = 101 ∧ I = 4) := by omega
 clear hn h2 h3 c3 cI hi hc hI
 rcases hcI with ⟨rfl, rfl⟩ | ⟨rfl, rfl⟩ | ⟨rfl, rfl⟩ | ⟨rfl, rfl⟩ | ⟨rfl, rfl⟩
 all_goals
  go_enter Tryz.func49, Tryz.ntmps49
  go_wp2_with (first | (go_at_call 77; (with_reducible first | refine A2.out.mono ?_ | refine (A0.out _).mono ?_); rintro e w' ⟨rfl, ⟨nd, rfl⟩⟩) | (go_at_call 78; (with_reducible refine (impl_isLetter.calls _ _ _ A1.out).mono ?_); rintro e w' ⟨rfl, ⟨nd2, rfl⟩⟩) | (go_at_call 79; (with_reducible refine (HC.out _).mono ?_); rintro e w1 ⟨rfl, hb1⟩; have RB := A_ (blk_below (HR _).out hb1); have BB := A_ ((pw_below_drewN HB.out _).trans (hb1.mono (pw_below_drewN HB.out _).size)); clear hb1; have r0 : w1.cell? ⟨w.heap.size + 1, 0, none⟩ = some (.int .i64 0) := blk_cell RB.out 0; have r1 : w1.cell? ⟨w.heap.size + 1, 1, none⟩ = some (.int .i64 0) := blk_cell RB.out 1; have z0 := blk_frozen RB.out 0; have z1 := blk_frozen RB.out 1))
  exact bodyPost_ret (v := .tuple #[.agg #[.int .i64 (n : Int), .int .i64 q], .bool true]) (by simp [results, Tryz.results49, go_sem, r0, r1]) rfl ⟨rfl, (BB.out.setCell (p := ⟨w.heap.size + 1, 0, none⟩) (by show w.heap.size ≤ w.heap.size + 1; omega) _).setCell (p := ⟨w.heap.size + 1, 1, none⟩) (by show w.heap.size ≤ w.heap.size + 1; omega) _⟩
theorem impl_part_table.not_ev (n v : Nat) (hn : n ≤ 5) (hv : v < szN n) (w : World) : Calls Tryz.prog 50 #[.agg #[.int .i64 (n : Int), .int .i64 (v : Int)]] w fun e w' => e = .returned (.agg #[.int .i64 (n : Int), .int .i64 ((v ^^^ (szN n - 1) : Nat) : Int)]) ∧ Below w.heap.size w w' := by
 refine impl_Table_not.calls _ _ _ _ w ?_
 have h5 := pow_le_5 hn
 have hf := full_p63 hn
 have hp := Nat.two_pow_pos (2 ^ n)
 have hv : v < 2 ^ 2 ^ n := hv
 unfold impl_Table_not.f impl_Table_size.f
 rw [if_pos (Int.natCast_nonneg n)]
 simp only [Option.bind_some]
 have hs : 0 ≤ shl .i64 1 (n : Int) := by rw [shl_one (by omega)]; exact Int.natCast_nonneg _
 rw [if_pos hs, full_word' hn]
 have e : ((2 ^ 2 ^ n : Nat) : Int) - 1 = ((2 ^ 2 ^ n - 1 : Nat) : Int) := by omega
 rw [e, xor_nat (by omega) (by omega)]; rfl
set_option maxHeartbeats 1600000 in
theorem impl_part_table.one (n b b1 : Nat) (v q : Int) (w : World) (h2 : w.cell? ⟨b, 0, none⟩ = some (.int .u8 33)) (h3 : w.cell? ⟨b, 1, none⟩ = some (.pointer (some ⟨b1, 0, none⟩)))
  (C : ∀ W, Below w.heap.size w W → Calls Tryz.prog 49 #[.pointer (some ⟨b1, 0, none⟩), .int .i64 (n : Int)] W fun e W' => e = .returned (.tuple #[.agg #[.int .i64 (n : Int), .int .i64 v], .bool true]) ∧ Below W.heap.size W W')
  (NN : ∀ W, Calls Tryz.prog 50 #[.agg #[.int .i64 (n : Int), .int .i64 v]] W fun e W' => e = .returned (.agg #[.int .i64 (n : Int), .int .i64 q]) ∧ Below W.heap.size W W') :
  Calls Tryz.prog 49 #[.pointer (some ⟨b, 0, none⟩), .int .i64 (n : Int)] w fun e w' => e = .returned (.tuple #[.agg #[.int .i64 (n : Int), .int .i64 q], .bool true]) ∧ Below w.heap.size w w' := by
 have huT := Tryz.underlying25
 have lb := World.block_lt_of_cell? w ⟨b, 0, none⟩ h2
 have HB : Aside0 (Below w.heap.size w ((w.alloc (.cells #[.pointer (some ⟨b, 0, none⟩)] 60)).alloc (.cells #[.int .i64 0, .int .i64 0] 25))) := ⟨((Below.refl _ _).alloc (Nat.le_refl _) _).alloc (by simp) _⟩
 have c2 : ((w.alloc (.cells #[.pointer (some ⟨b, 0, none⟩)] 60)).alloc (.cells #[.int .i64 0, .int .i64 0] 25)).cell? ⟨b, 0, none⟩ = some (.int .u8 33) := (HB.out.cell (p := ⟨b, 0, none⟩) lb).trans h2
 have c3 : ((w.alloc (.cells #[.pointer (some ⟨b, 0, none⟩)] 60)).alloc (.cells #[.int .i64 0, .int .i64 0] 25)).cell? ⟨b, 1, none⟩ = some (.pointer (some ⟨b1, 0, none⟩)) := (HB.out.cell (p := ⟨b, 1, none⟩) lb).trans h3
 have A2 := A_ (impl_part_isLeaf.no b b1 ((w.alloc (.cells #[.pointer (some ⟨b, 0, none⟩)] 60)).alloc (.cells #[.int .i64 0, .int .i64 0] 25)) c3)
 have A0 := A_ (fun nd => impl_part_isLeaf.no b b1 (((w.alloc (.cells #[.pointer (some ⟨b, 0, none⟩)] 60)).alloc (.cells #[.int .i64 0, .int .i64 0] 25)).drewN nd) c3)
 have HR : ∀ nd, Aside0 ((((w.alloc (.cells #[.pointer (some ⟨b, 0, none⟩)] 60)).alloc (.cells #[.int .i64 0, .int .i64 0] 25)).drewN nd).heap[w.heap.size + 1]? = some (.cells #[.int .i64 0, .int .i64 0] 25 (0, 0))) := fun nd => ⟨by simpa using blk_new (w.alloc (.cells #[.pointer (some ⟨b, 0, none⟩)] 60)) (.cells #[.int .i64 0, .int .i64 0] 25)⟩
 have HI : ∀ nd, Aside0 ((((w.alloc (.cells #[.pointer (some ⟨b, 0, none⟩)] 60)).alloc (.cells #[.int .i64 0, .int .i64 0] 25)).drewN nd).heap[w.heap.size]? = some (.cells #[.pointer (some ⟨b, 0, none⟩)] 60 (0, 0))) := fun nd => ⟨by simpa using blk_alloc (blk_new w (.cells #[.pointer (some ⟨b, 0, none⟩)] 60)) (.cells #[.int .i64 0, .int .i64 0] 25)⟩
 have HZ : ∀ nd, Aside0 ((((w.alloc (.cells #[.pointer (some ⟨b, 0, none⟩)] 60)).alloc (.cells #[.int .i64 0, .int .i64 0] 25)).drewN nd).heap.size = w.heap.size + 2) := fun nd => ⟨by simp⟩
 have HC : Aside0 (∀ nd, Calls Tryz.prog 49 #[.pointer (some ⟨b1, 0, none⟩), .int .i64 (n : Int)] (((w.alloc (.cells #[.pointer (some ⟨b, 0, none⟩)] 60)).alloc (.cells #[.int .i64 0, .int .i64 0] 25)).drewN nd) fun e W' => e = .returned (.tuple #[.agg #[.int .i64 (n : Int), .int .i64 v], .bool true]) ∧ Below (((w.alloc (.cells #[.pointer (some ⟨b, 0, none⟩)] 60)).alloc (.cells #[.int .i64 0, .int .i64 0] 25)).drewN nd).heap.size (((w.alloc (.cells #[.pointer (some ⟨b, 0, none⟩)] 60)).alloc (.cells #[.int .i64 0, .int .i64 0] 25)).drewN nd) W') := ⟨fun nd => C _ (pw_below_drewN HB.out nd)⟩
 have N1 := A_ NN; have L2 := A_ h2; clear C NN h2 h3
 go_enter Tryz.func49, Tryz.ntmps49
 go_wp2_with (first | (go_at_call 77; (with_reducible first | refine A2.out.mono ?_ | refine (A0.out _).mono ?_); rintro e w' ⟨rfl, ⟨nd, rfl⟩⟩) | (go_at_call 49; (with_reducible refine (HC.out _).mono ?_); rintro e w1 ⟨rfl, hb1⟩; have RB := A_ (blk_below (HR _).out hb1); have RI := A_ (blk_below (HI _).out hb1); have BB := A_ ((pw_below_drewN HB.out _).trans (hb1.mono (pw_below_drewN HB.out _).size)); have lw : w.heap.size + 2 ≤ w1.heap.size := Nat.le_trans (Nat.le_of_eq (HZ nd).out.symm) hb1.size; clear hb1 c2 c3; have BF := A_ (BB.out.alloc (by omega) (.cells #[.int .i64 (n : Int), .int .i64 v] 25)); have i0 : (w1.alloc (.cells #[.int .i64 (n : Int), .int .i64 v] 25)).cell? ⟨w.heap.size, 0, none⟩ = some (.pointer (some ⟨b, 0, none⟩)) := blk_cell (blk_alloc RI.out (.cells #[.int .i64 (n : Int), .int .i64 v] 25)) 0; have i1 : (w1.alloc (.cells #[.int .i64 (n : Int), .int .i64 v] 25)).cell? ⟨b, 0, none⟩ = some (.int .u8 33) := (BF.out.cell (p := ⟨b, 0, none⟩) lb).trans L2.out) | (go_at_call 50; (with_reducible refine (N1.out _).mono ?_); rintro e w2 ⟨rfl, hb2⟩; have RB2 := A_ (blk_below (blk_alloc RB.out (.cells #[.int .i64 (n : Int), .int .i64 v] 25)) hb2); have BB2 := A_ (BF.out.trans (hb2.mono BF.out.size)); clear hb2 i0 i1; have r0 : w2.cell? ⟨w.heap.size + 1, 0, none⟩ = some (.int .i64 0) := blk_cell RB2.out 0; have r1 : w2.cell? ⟨w.heap.size + 1, 1, none⟩ = some (.int .i64 0) := blk_cell RB2.out 1; have z0 := blk_frozen RB2.out 0; have z1 := blk_frozen RB2.out 1))
 exact bodyPost_ret (v := .tuple #[.agg #[.int .i64 (n : Int), .int .i64 q], .bool true]) (by simp [results, Tryz.results49, go_sem, r0, r1]) rfl ⟨rfl, (BB2.out.setCell (p := ⟨w.heap.size + 1, 0, none⟩) (by show w.heap.size ≤ w.heap.size + 1; omega) _).setCell (p := ⟨w.heap.size + 1, 1, none⟩) (by show w.heap.size ≤ w.heap.size + 1; omega) _⟩
set_option maxHeartbeats 1600000 in
theorem impl_part_table.two (n b b1 b2 : Nat) (c v v2 q : Int) (w : World) (hop : c = 38 ∧ Go.bits .and .i64 v v2 = q ∨ c = 124 ∧ Go.bits .or .i64 v v2 = q ∨ c = 94 ∧ Go.bits .xor .i64 v v2 = q) (h2 : w.cell? ⟨b, 0, none⟩ = some (.int .u8 c)) (h3 : w.cell? ⟨b, 1, none⟩ = some (.pointer (some ⟨b1, 0, none⟩))) (h4 : w.cell? ⟨b, 2, none⟩ = some (.pointer (some ⟨b2, 0, none⟩)))
  (C : ∀ W, Below w.heap.size w W → Calls Tryz.prog 49 #[.pointer (some ⟨b1, 0, none⟩), .int .i64 (n : Int)] W fun e W' => e = .returned (.tuple #[.agg #[.int .i64 (n : Int), .int .i64 v], .bool true]) ∧ Below W.heap.size W W')
  (C2 : ∀ W, Below w.heap.size w W → Calls Tryz.prog 49 #[.pointer (some ⟨b2, 0, none⟩), .int .i64 (n : Int)] W fun e W' => e = .returned (.tuple #[.agg #[.int .i64 (n : Int), .int .i64 v2], .bool true]) ∧ Below W.heap.size W W') :
  Calls Tryz.prog 49 #[.pointer (some ⟨b, 0, none⟩), .int .i64 (n : Int)] w fun e w' => e = .returned (.tuple #[.agg #[.int .i64 (n : Int), .int .i64 q], .bool true]) ∧ Below w.heap.size w w' := by
 have huT := Tryz.underlying25
 have lb := World.block_lt_of_cell? w ⟨b, 0, none⟩ h2
 have HB : Aside0 (Below w.heap.size w ((w.alloc (.cells #[.pointer (some ⟨b, 0, none⟩)] 60)).alloc (.cells #[.int .i64 0, .int .i64 0] 25))) := ⟨((Below.refl _ _).alloc (Nat.le_refl _) _).alloc (by simp) _⟩
 have c2 : ((w.alloc (.cells #[.pointer (some ⟨b, 0, none⟩)] 60)).alloc (.cells #[.int .i64 0, .int .i64 0] 25)).cell? ⟨b, 0, none⟩ = some (.int .u8 c) := (HB.out.cell (p := ⟨b, 0, none⟩) lb).trans h2
 have c3 : ((w.alloc (.cells #[.pointer (some ⟨b, 0, none⟩)] 60)).alloc (.cells #[.int .i64 0, .int .i64 0] 25)).cell? ⟨b, 1, none⟩ = some (.pointer (some ⟨b1, 0, none⟩)) := (HB.out.cell (p := ⟨b, 1, none⟩) lb).trans h3
 have A2 := A_ (impl_part_isLeaf.no b b1 ((w.alloc (.cells #[.pointer (some ⟨b, 0, none⟩)] 60)).alloc (.cells #[.int .i64 0, .int .i64 0] 25)) c3)
 have A0 := A_ (fun nd => impl_part_isLeaf.no b b1 (((w.alloc (.cells #[.pointer (some ⟨b, 0, none⟩)] 60)).alloc (.cells #[.int .i64 0, .int .i64 0] 25)).drewN nd) c3)
 have HR : ∀ nd, Aside0 ((((w.alloc (.cells #[.pointer (some ⟨b, 0, none⟩)] 60)).alloc (.cells #[.int .i64 0, .int .i64 0] 25)).drewN nd).heap[w.heap.size + 1]? = some (.cells #[.int .i64 0, .int .i64 0] 25 (0, 0))) := fun nd => ⟨by simpa using blk_new (w.alloc (.cells #[.pointer (some ⟨b, 0, none⟩)] 60)) (.cells #[.int .i64 0, .int .i64 0] 25)⟩
 have HI : ∀ nd, Aside0 ((((w.alloc (.cells #[.pointer (some ⟨b, 0, none⟩)] 60)).alloc (.cells #[.int .i64 0, .int .i64 0] 25)).drewN nd).heap[w.heap.size]? = some (.cells #[.pointer (some ⟨b, 0, none⟩)] 60 (0, 0))) := fun nd => ⟨by simpa using blk_alloc (blk_new w (.cells #[.pointer (some ⟨b, 0, none⟩)] 60)) (.cells #[.int .i64 0, .int .i64 0] 25)⟩
 have HZ : ∀ nd, Aside0 ((((w.alloc (.cells #[.pointer (some ⟨b, 0, none⟩)] 60)).alloc (.cells #[.int .i64 0, .int .i64 0] 25)).drewN nd).heap.size = w.heap.size + 2) := fun nd => ⟨by simp⟩
 have HC : Aside0 (∀ nd, Calls Tryz.prog 49 #[.pointer (some ⟨b1, 0, none⟩), .int .i64 (n : Int)] (((w.alloc (.cells #[.pointer (some ⟨b, 0, none⟩)] 60)).alloc (.cells #[.int .i64 0, .int .i64 0] 25)).drewN nd) fun e W' => e = .returned (.tuple #[.agg #[.int .i64 (n : Int), .int .i64 v], .bool true]) ∧ Below (((w.alloc (.cells #[.pointer (some ⟨b, 0, none⟩)] 60)).alloc (.cells #[.int .i64 0, .int .i64 0] 25)).drewN nd).heap.size (((w.alloc (.cells #[.pointer (some ⟨b, 0, none⟩)] 60)).alloc (.cells #[.int .i64 0, .int .i64 0] 25)).drewN nd) W') := ⟨fun nd => C _ (pw_below_drewN HB.out nd)⟩
 have HD := A_ C2; have L2 := A_ h2; have L4 := A_ h4; clear C C2 h2 h3 h4
 rcases hop with ⟨rfl, hop⟩ | ⟨rfl, hop⟩ | ⟨rfl, hop⟩
 all_goals
  go_enter Tryz.func49, Tryz.ntmps49
  go_wp2_with (first | (go_at_call 77; (with_reducible first | refine A2.out.mono ?_ | refine (A0.out _).mono ?_); rintro e w' ⟨rfl, ⟨nd, rfl⟩⟩) | (go_at_call 49; (with_reducible refine (HC.out _).mono ?_); rintro e w1 ⟨rfl, hb1⟩; have RB := A_ (blk_below (HR _).out hb1); have RI := A_ (blk_below (HI _).out hb1); have BB := A_ ((pw_below_drewN HB.out _).trans (hb1.mono (pw_below_drewN HB.out _).size)); have lw : w.heap.size + 2 ≤ w1.heap.size := Nat.le_trans (Nat.le_of_eq (HZ nd).out.symm) hb1.size; clear hb1 c2 c3; have BF := A_ (BB.out.alloc (by omega) (.cells #[.int .i64 (n : Int), .int .i64 v] 25)); have i0 : (w1.alloc (.cells #[.int .i64 (n : Int), .int .i64 v] 25)).cell? ⟨w.heap.size, 0, none⟩ = some (.pointer (some ⟨b, 0, none⟩)) := blk_cell (blk_alloc RI.out (.cells #[.int .i64 (n : Int), .int .i64 v] 25)) 0; have i1 : (w1.alloc (.cells #[.int .i64 (n : Int), .int .i64 v] 25)).cell? ⟨b, 0, none⟩ = some (.int .u8 _) := (BF.out.cell (p := ⟨b, 0, none⟩) lb).trans L2.out; have i2 : (w1.alloc (.cells #[.int .i64 (n : Int), .int .i64 v] 25)).cell? ⟨b, 2, none⟩ = some (.pointer (some ⟨b2, 0, none⟩)) := (BF.out.cell (p := ⟨b, 2, none⟩) lb).trans L4.out) | (go_at_call 49; (with_reducible refine (HD.out _ BF.out).mono ?_); rintro e w2 ⟨rfl, hb2⟩; have RB2 := A_ (blk_alloc (blk_below (blk_alloc RB.out (.cells #[.int .i64 (n : Int), .int .i64 v] 25)) hb2) (.cells #[.int .i64 (n : Int), .int .i64 v2] 25)); have RI2 := A_ (blk_alloc (blk_below (blk_alloc RI.out (.cells #[.int .i64 (n : Int), .int .i64 v] 25)) hb2) (.cells #[.int .i64 (n : Int), .int .i64 v2] 25)); have RF2 := A_ (blk_alloc (blk_below (blk_new w1 (.cells #[.int .i64 (n : Int), .int .i64 v] 25)) hb2) (.cells #[.int .i64 (n : Int), .int .i64 v2] 25)); have lw2 : w1.heap.size < w2.heap.size := blk_lt (blk_below (blk_new w1 (.cells #[.int .i64 (n : Int), .int .i64 v] 25)) hb2); have BB2 := A_ (BF.out.trans (hb2.mono BF.out.size)); have BG := A_ (BB2.out.alloc (by omega) (.cells #[.int .i64 (n : Int), .int .i64 v2] 25)); have RF4 : Aside0 (((w2.setCell ⟨w1.heap.size, 1, none⟩ (.int .i64 q)).alloc (.cells #[.int .i64 (n : Int), .int .i64 v2] 25)).heap[w1.heap.size]? = some (.cells #[.int .i64 (n : Int), .int .i64 q] 25 (0, 0))) := ⟨blk_alloc (by simpa using blk_set (blk_below (blk_new w1 (.cells #[.int .i64 (n : Int), .int .i64 v] 25)) hb2) 1 (.int .i64 q)) (.cells #[.int .i64 (n : Int), .int .i64 v2] 25)⟩; have RB4 : Aside0 (((w2.setCell ⟨w1.heap.size, 1, none⟩ (.int .i64 q)).alloc (.cells #[.int .i64 (n : Int), .int .i64 v2] 25)).heap[w.heap.size + 1]? = some (.cells #[.int .i64 0, .int .i64 0] 25 (0, 0))) := ⟨blk_alloc (blk_far (blk_below (blk_alloc RB.out (.cells #[.int .i64 (n : Int), .int .i64 v] 25)) hb2) (by show w.heap.size + 1 ≠ w1.heap.size; omega) _) (.cells #[.int .i64 (n : Int), .int .i64 v2] 25)⟩; have BB4 : Aside0 (Below w.heap.size w ((w2.setCell ⟨w1.heap.size, 1, none⟩ (.int .i64 q)).alloc (.cells #[.int .i64 (n : Int), .int .i64 v2] 25))) := ⟨(BB2.out.setCell (p := ⟨w1.heap.size, 1, none⟩) (by show w.heap.size ≤ w1.heap.size; omega) _).alloc (by simp; omega) (.cells #[.int .i64 (n : Int), .int .i64 v2] 25)⟩; clear hb2 i0 i1 i2; have hne : ¬ w.heap.size + 1 = w1.heap.size := (by omega); have hne2 : ¬ w1.heap.size = w.heap.size + 1 := (by omega); have j0 : (w2.alloc (.cells #[.int .i64 (n : Int), .int .i64 v2] 25)).cell? ⟨w.heap.size, 0, none⟩ = some (.pointer (some ⟨b, 0, none⟩)) := blk_cell RI2.out 0; have j1 : (w2.alloc (.cells #[.int .i64 (n : Int), .int .i64 v2] 25)).cell? ⟨b, 0, none⟩ = some (.int .u8 _) := (BG.out.cell (p := ⟨b, 0, none⟩) lb).trans L2.out; have j2 : (w2.alloc (.cells #[.int .i64 (n : Int), .int .i64 v2] 25)).cell? ⟨w1.heap.size, 0, none⟩ = some (.int .i64 (n : Int)) := blk_cell RF2.out 0; have j3 : (w2.alloc (.cells #[.int .i64 (n : Int), .int .i64 v2] 25)).cell? ⟨w1.heap.size, 1, none⟩ = some (.int .i64 v) := blk_cell RF2.out 1; have j4 : (w2.alloc (.cells #[.int .i64 (n : Int), .int .i64 v2] 25)).cell? ⟨w.heap.size + 1, 0, none⟩ = some (.int .i64 0) := blk_cell RB2.out 0; have j5 : (w2.alloc (.cells #[.int .i64 (n : Int), .int .i64 v2] 25)).cell? ⟨w.heap.size + 1, 1, none⟩ = some (.int .i64 0) := blk_cell RB2.out 1; have y0 := blk_frozen RF2.out 0; have y1 := blk_frozen RF2.out 1; have z0 := blk_frozen RB2.out 0; have z1 := blk_frozen RB2.out 1; have k0 : ((w2.setCell ⟨w1.heap.size, 1, none⟩ (.int .i64 q)).alloc (.cells #[.int .i64 (n : Int), .int .i64 v2] 25)).cell? ⟨w1.heap.size, 0, none⟩ = some (.int .i64 (n : Int)) := blk_cell RF4.out 0; have k1 : ((w2.setCell ⟨w1.heap.size, 1, none⟩ (.int .i64 q)).alloc (.cells #[.int .i64 (n : Int), .int .i64 v2] 25)).cell? ⟨w1.heap.size, 1, none⟩ = some (.int .i64 q) := blk_cell RF4.out 1; have k4 : ((w2.setCell ⟨w1.heap.size, 1, none⟩ (.int .i64 q)).alloc (.cells #[.int .i64 (n : Int), .int .i64 v2] 25)).cell? ⟨w.heap.size + 1, 0, none⟩ = some (.int .i64 0) := blk_cell RB4.out 0; have k5 : ((w2.setCell ⟨w1.heap.size, 1, none⟩ (.int .i64 q)).alloc (.cells #[.int .i64 (n : Int), .int .i64 v2] 25)).cell? ⟨w.heap.size + 1, 1, none⟩ = some (.int .i64 0) := blk_cell RB4.out 1; have x0 := blk_frozen RB4.out 0; have x1 := blk_frozen RB4.out 1))
  exact bodyPost_ret (v := .tuple #[.agg #[.int .i64 (n : Int), .int .i64 q], .bool true]) (by simp [results, Tryz.results49, go_sem, k4, k5]) rfl ⟨rfl, (BB4.out.setCell (p := ⟨w.heap.size + 1, 0, none⟩) (by show w.heap.size ≤ w.heap.size + 1; omega) _).setCell (p := ⟨w.heap.size + 1, 1, none⟩) (by show w.heap.size ≤ w.heap.size + 1; omega) _⟩
theorem impl_part_table.call {n : Nat} (hn : n ≤ 5) {T : Sh} (hT : GoodF T) : ∀ (v base : Nat) (w : World) (b : Nat), T.word n = some v → impl_readPart.Lies base w T (.pointer (some ⟨b, 0, none⟩)) →
  Calls Tryz.prog 49 #[.pointer (some ⟨b, 0, none⟩), .int .i64 (n : Int)] w fun e w' => e = .returned (.tuple #[.agg #[.int .i64 (n : Int), .int .i64 (v : Int)], .bool true]) ∧ Below w.heap.size w w' := by
 have hp : szN n < 2 ^ 63 := full_p63 hn
 induction hT with
 | leaf c hc =>
  intro v base w b hv hl; obtain ⟨b', vl, vr, h0, h1, h2, h3, h4, h5, h6⟩ := hl
  obtain rfl : b = b' := by injection h1 with h1; injection h1 with h1; injection h1
  obtain rfl : vl = .pointer none := h5
  rw [Sh.word] at hv
  by_cases h : 97 ≤ c ∧ c < 102
  ·rw [if_pos h] at hv
   obtain ⟨i, hi⟩ : ∃ i : Nat, c = ((97 + i : Nat) : Int) := ⟨(c - 97).toNat, by omega⟩
   subst hi
   rw [show (((97 + i : Nat) : Int) - 97).toNat = i by omega] at hv
   by_cases h7 : i < n
   ·rw [if_pos h7] at hv
    injection hv with hv; subst hv
    exact impl_part_table.leafL n i b w hn h7 h2 h3
   ·rw [if_neg h7] at hv; cases hv
  ·rw [if_neg h] at hv
   injection hv with hv; subst hv
   exact impl_part_table.leafC n b c w hn h h2 h3
 | one l hG ih =>
  intro v base w b hv hl
  rw [word_one n 33 hG.fine] at hv
  obtain ⟨a, ha, hv⟩ := Option.bind_eq_some_iff.mp hv
  injection hv with hv; subst hv
  obtain ⟨b', vl, vr, h0, h1, h2, h3, h4, h5, h6⟩ := hl
  obtain rfl : b = b' := by injection h1 with h1; injection h1 with h1; injection h1
  obtain ⟨b1, rfl⟩ := h5.fine hG.fine
  exact impl_part_table.one n b b1 a _ w h2 h3 (fun W hb => ih a base W b1 ha (h5.below hb)) (fun W => impl_part_table.not_ev n a hn (word_lt hG.fine ha) W)
 | two c l r hc hG hG2 ih ih2 =>
  intro v base w b hv hl
  rw [word_two n c hG.fine hG2.fine] at hv
  obtain ⟨x, hx, hv⟩ := Option.bind_eq_some_iff.mp hv
  obtain ⟨y, hy, hv⟩ := Option.bind_eq_some_iff.mp hv
  injection hv with hv; subst hv
  obtain ⟨b', vl, vr, h0, h1, h2, h3, h4, h5, h6⟩ := hl
  obtain rfl : b = b' := by injection h1 with h1; injection h1 with h1; injection h1
  obtain ⟨b1, rfl⟩ := h5.fine hG.fine
  obtain ⟨b2, rfl⟩ := h6.fine hG2.fine
  have l1 := word_lt hG.fine hx
  have l2 := word_lt hG2.fine hy
  refine impl_part_table.two n b b1 b2 c x y _ w ?_ h2 h3 h4 (fun W hb => ih x base W b1 hx (h5.below hb)) (fun W hb => ih2 y base W b2 hy (h6.below hb))
  rcases hc with rfl | rfl | rfl
  ·refine .inl ⟨rfl, ?_⟩
   rw [and_nat (by omega) (by omega)]; rfl
  ·refine .inr (.inl ⟨rfl, ?_⟩)
   rw [or_nat (by omega) (by omega)]; rfl
  ·refine .inr (.inr ⟨rfl, ?_⟩)
   rw [xor_nat (by omega) (by omega)]; rfl
end Go.Proofs.YtfoopehlmnejaaaGreatDoor.Print
namespace Go.Proofs.YtfoopehlmnejaaaGreatDoor.Print
open Go.RowKit Go.Proofs.YtfoopehlmnejaaaGreatDoorW.PrintWords Go.Proofs.YtfoopehlmnejaaaGreatDoorW.PrintLast Go.Proofs.YtfoopehlmnejaaaGreatDoorW.PrintMore
attribute [local go_sem] max2_int min2_int max_two min_two max_three min_three max_four min_four   -- for this text's walks alone
set_option linter.unusedVariables false
set_option linter.unusedSimpArgs false
open Go.Proofs.YtfoopehlmnejaaaGreatDoor.M
def impl_TableOfFormula.f (a0 : ByteArray) (a1 : Int) : Option (Int × Int × Bool) := if 0 ≤ a1 ∧ a1 ≤ 5 then (formOf a0).bind fun T => (T.word a1.toNat).bind fun v => some (a1, ((v : Nat) : Int), true) else none
set_option maxHeartbeats 1600000 in
theorem impl_TableOfFormula.calls (a0 : ByteArray) (a1 : Int) (r1 : Int) (r2 : Int) (r3 : Bool) (w : World) (h : impl_TableOfFormula.f a0 a1 = some (r1, r2, r3)) :
  Calls Tryz.prog 10 #[.string a0, .int .i64 a1] w fun e w' => e = .returned (.tuple #[.agg #[.int .i64 r1, .int .i64 r2], .bool r3]) ∧ Below w.heap.size w w' := by
 unfold impl_TableOfFormula.f at h
 by_cases hc : 0 ≤ a1 ∧ a1 ≤ 5
 ·rw [if_pos hc] at h
  obtain ⟨T, hq, h⟩ := Option.bind_eq_some_iff.mp h
  obtain ⟨v, hv, h⟩ := Option.bind_eq_some_iff.mp h
  obtain ⟨n, rfl⟩ := nat_of hc.1
  simp only [Option.some.injEq, Prod.mk.injEq] at h
  obtain ⟨rfl, rfl, rfl⟩ := h
  rw [Int.toNat_natCast] at hv
  have huT := Tryz.underlying25
  have HC := fun W => impl_readFormula.call a0 W
  rw [hq] at HC
  have C1 : Aside0 (∀ W, Calls Tryz.prog 47 #[.string a0] W fun e w' => ∃ b, e = .returned (.tuple #[.pointer (some ⟨b, 0, none⟩), .bool true]) ∧ impl_readPart.Lies W.heap.size w' T (.pointer (some ⟨b, 0, none⟩)) ∧ Below W.heap.size W w') := ⟨fun W => (HC W).mono (by rintro e W' ⟨⟨b, he, hl⟩, hb⟩; exact ⟨b, he, hl, hb⟩)⟩
  have C2 : Aside0 (∀ base w b, impl_readPart.Lies base w T (.pointer (some ⟨b, 0, none⟩)) → Calls Tryz.prog 49 #[.pointer (some ⟨b, 0, none⟩), .int .i64 (n : Int)] w fun e w' => e = .returned (.tuple #[.agg #[.int .i64 (n : Int), .int .i64 (v : Int)], .bool true]) ∧ Below w.heap.size w w') := ⟨fun base w b hl => impl_part_table.call (by omega) (formOf_good hq) v base w b hv hl⟩
  have A1 : Aside0 (impl_isBits.f (n : Int) = some true) := ⟨by unfold impl_isBits.f; rw [if_pos (by omega), decide_eq_true (by omega)]⟩
  have HB : Aside0 (Below w.heap.size w (w.alloc (.cells #[.int .i64 0, .int .i64 0] 25))) := ⟨(Below.refl _ _).alloc (Nat.le_refl _) _⟩
  have HR : Aside0 ((w.alloc (.cells #[.int .i64 0, .int .i64 0] 25)).heap[w.heap.size]? = some (.cells #[.int .i64 0, .int .i64 0] 25 (0, 0))) := ⟨blk_new w _⟩
  generalize (v : Int) = q at *
  clear HC hq hv hc
  go_enter Tryz.func10, Tryz.ntmps10
  go_wp2_with (first | (go_at_call 47; (with_reducible refine (C1.out _).mono ?_); rintro e w1 ⟨b1, rfl, hl1, hb1⟩; have L1 := A_ hl1; have RB := A_ (blk_below HR.out hb1); have BB := A_ (HB.out.trans (hb1.mono HB.out.size)); clear hl1 hb1) | (go_at_call 48; (with_reducible refine (impl_isBits.calls _ _ _ A1.out).mono ?_); rintro e w' ⟨rfl, ⟨nd, rfl⟩⟩) | (go_at_call 49; (with_reducible refine (C2.out _ _ b1 (L1.out.below (pw_below_drewN (Below.refl _ _) nd))).mono ?_); rintro e w2 ⟨rfl, hb2⟩; have RB2 := A_ (blk_below (show (w1.drewN nd).heap[w.heap.size]? = _ from by simpa using RB.out) hb2); have BB2 := A_ ((pw_below_drewN BB.out _).trans (hb2.mono (pw_below_drewN BB.out _).size)); clear hb2; have r0 : w2.cell? ⟨w.heap.size, 0, none⟩ = some (.int .i64 0) := blk_cell RB2.out 0; have r1 : w2.cell? ⟨w.heap.size, 1, none⟩ = some (.int .i64 0) := blk_cell RB2.out 1; have z0 := blk_frozen RB2.out 0; have z1 := blk_frozen RB2.out 1))
  exact bodyPost_ret (v := .tuple #[.agg #[.int .i64 (n : Int), .int .i64 q], .bool true]) (by simp [results, Tryz.results10, go_sem, r0, r1]) rfl ⟨rfl, (BB2.out.setCell (p := ⟨w.heap.size, 0, none⟩) (Nat.le_refl _) _).setCell (p := ⟨w.heap.size, 1, none⟩) (Nat.le_refl _) _⟩
 ·rw [if_neg hc] at h; cases h
end Go.Proofs.YtfoopehlmnejaaaGreatDoor.Print
namespace Go.Proofs.YtfoopehlmnejaaaGreatDoor.Print
open Go.RowKit Go.Proofs.YtfoopehlmnejaaaGreatDoorW.PrintWords Go.Proofs.YtfoopehlmnejaaaGreatDoorW.PrintLast Go.Proofs.YtfoopehlmnejaaaGreatDoorW.PrintMore
attribute [local go_sem] max2_int min2_int max_two min_two max_three min_three max_four min_four   -- for this text's walks alone
set_option linter.unusedVariables false
set_option linter.unusedSimpArgs false
set_option maxHeartbeats 8000000
set_option maxRecDepth 100000
mutual
def impl_edges.l0 : Nat → Int → Int → Int → Int → Int → Int → Option (Int)
 | 0, _, _, _, _, _, _ => none
 | k + 1, x0, x1, x2, x7, x11, x12 => if x12 < x11 then (impl_edges.l1 k x0 x1 x2 x7 x12 x11 x12 x0 0) else (some x7)
def impl_edges.l1 : Nat → Int → Int → Int → Int → Int → Int → Int → Int → Int → Option (Int)
 | 0, _, _, _, _, _, _, _, _, _ => none
 | k + 1, x0, x1, x2, x7, x8, x11, x12, x15, x16 => if x16 < x15 then (if 0 ≤ x8 then (if 0 ≤ x16 then (if 0 ≤ (Go.bits .xor .i64 x8 (shl .i64 1 x16)) then (impl_edges.l1 k x0 x1 x2 (wrap64 (x7 + (Go.bits .and .i64 (Go.bits .and .i64 (shr .i64 x1 x8) 1) (shr .i64 x2 (Go.bits .xor .i64 x8 (shl .i64 1 x16)))))) x8 x11 x12 x15 (wrap64 (x16 + 1))) else (none)) else (none)) else (none)) else (impl_edges.l0 k x0 x1 x2 x7 x11 (wrap64 (x12 + 1)))
end
def impl_edges.f (k : Nat) (a0 : Int) (a1 : Int) (a2 : Int) : Option (Int) := if 0 ≤ a0 then (impl_edges.l0 k a0 a1 a2 0 (shl .i64 1 a0) 0) else (none)
theorem impl_edges.calls (k : Nat) (a0 : Int) (a1 : Int) (a2 : Int) (r : Int) (w : World) (h : impl_edges.f k a0 a1 a2 = some r) :
  Calls Tryz.prog 64 #[.int .i64 a0, .int .i64 a1, .int .i64 a2] w fun e w' => e = .returned (.int .i64 r) ∧ Drawn0 w w' := by
 have H : (if 0 ≤ a0 then (impl_edges.l0 k a0 a1 a2 0 (shl .i64 1 a0) 0) else (none)) = some r := h
 clear h
 by_cases c4 : 0 ≤ a0
 ·rw [if_pos c4] at H
  have c4b0 := eq_true c4
  have c4b1 : decide (0 ≤ a0) = true := decide_eq_true c4
  clear c4
  obtain ⟨ji5, hji5⟩ : ∃ j_ : Int, (shl .i64 1 a0) = j_ := ⟨_, rfl⟩
  replace H : (impl_edges.l0 k a0 a1 a2 0 ji5 0) = some r := q16_
  have hji5_ : (IntKind.i64.wrap (1 * 2 ^ min a0.toNat 64)) = ji5 := hji5
  have hji5z : a0 ≤ 64 → (IntKind.i64.wrap (1 * 2 ^ a0.toNat)) = ji5 := shl_small hji5
  have hji5u : (IntKind.i64.wrap (2 ^ min a0.toNat 64)) = ji5 := by have h_ := hji5_; rw [Int.one_mul] at h_; exact h_
  have hji5v : a0 ≤ 64 → (IntKind.i64.wrap (2 ^ a0.toNat)) = ji5 := fun hle_ => by have h_ := hji5z hle_; rw [Int.one_mul] at h_; exact h_
  have hji5y : (wrap64 (1 * 2 ^ min a0.toNat 64)) = ji5 := (i64_w _).symm.trans hji5_
  have hji5x : a0 ≤ 64 → (wrap64 (1 * 2 ^ a0.toNat)) = ji5 := fun h_ => (i64_w _).symm.trans (hji5z h_)
  have H' := A_ H
  clear H
  go_enter Tryz.func64, Tryz.ntmps64
  go_wp2
  repeat (go_quiet (fail); try go_wp2)
  go_loopg [7, 12] k (fun kq v7 v12 w' => ∃ (x7_1 : Int) (x12_1 : Int), v7 = .int .i64 x7_1 ∧ v12 = .int .i64 x12_1 ∧ Aside0 (impl_edges.l0 kq a0 a1 a2 x7_1 ji5 x12_1 = some r) ∧ Aside0 (kq ≤ k) ∧ Drawn0 w w')
  case atStart => exact ⟨(0), (0), q1_, q1_, H', ⟨Nat.le_refl _⟩, q5_⟩
  case round =>
   clear H'; clear c4b0 c4b1
   obtain ⟨x7_1, x12_1, rfl, rfl, HA, HK1, ⟨m1, rfl⟩⟩ := hrel
   cases gk with
   | zero => exact absurd HA.out (by simp [impl_edges.l0])
   | succ k1 =>
    have H := HA.out
    clear HA
    simp only [impl_edges.l0] at H
    by_cases c6 : x12_1 < ji5
    ·rw [if_pos c6] at H
     have c6b0 : decide (x12_1 < ji5) = true := decide_eq_true c6
     clear c6
     have H' := A_ H
     clear H
     go_wp2
     repeat (go_quiet (fail); try go_wp2)
     go_loopg [7, 16] k1 (fun kq v7 v16 w' => ∃ (x7_2 : Int) (x16_2 : Int), v7 = .int .i64 x7_2 ∧ v16 = .int .i64 x16_2 ∧ Aside0 (impl_edges.l1 kq a0 a1 a2 x7_2 x12_1 ji5 x12_1 a0 x16_2 = some r) ∧ Aside0 (kq ≤ k1) ∧ Drawn0 w w')
     case atStart => exact ⟨(x7_1), (0), q1_, q1_, H', ⟨Nat.le_refl _⟩, q5_⟩
     case round =>
      clear H'; clear c6b0
      obtain ⟨x7_2, x16_2, rfl, rfl, HA, HK2, ⟨m2, rfl⟩⟩ := hrel
      cases gk with
      | zero => exact absurd HA.out (by simp [impl_edges.l1])
      | succ k2 =>
       have H := HA.out
       clear HA
       simp only [impl_edges.l1] at H
       by_cases c7 : x16_2 < a0
       ·rw [if_pos c7] at H
        have c7b0 : decide (x16_2 < a0) = true := decide_eq_true c7
        clear c7
        by_cases c8 : 0 ≤ x12_1
        ·rw [if_pos c8] at H
         have c8b0 := eq_true c8
         have c8b1 : decide (0 ≤ x12_1) = true := decide_eq_true c8
         clear c8
         obtain ⟨ji9, hji9⟩ : ∃ j_ : Int, (shr .i64 a1 x12_1) = j_ := ⟨_, rfl⟩
         replace H : (if 0 ≤ x16_2 then (if 0 ≤ (Go.bits .xor .i64 x12_1 (shl .i64 1 x16_2)) then (impl_edges.l1 k2 a0 a1 a2 (wrap64 (x7_2 + (Go.bits .and .i64 (Go.bits .and .i64 (ji9) 1) (shr .i64 a2 (Go.bits .xor .i64 x12_1 (shl .i64 1 x16_2)))))) x12_1 ji5 x12_1 a0 (wrap64 (x16_2 + 1))) else (none)) else (none)) = some r := by first | (rw [hji9] at H; exact H) | (simp only [hji9] at H ⊢; exact H)
         have hji9_ : (a1 / 2 ^ min x12_1.toNat 64) = ji9 := hji9
         have hji9z : x12_1 ≤ 64 → (a1 / 2 ^ x12_1.toNat) = ji9 := shr_small hji9
         by_cases c10 : 0 ≤ x16_2
         ·rw [if_pos c10] at H
          have c10b0 := eq_true c10
          have c10b1 : decide (0 ≤ x16_2) = true := decide_eq_true c10
          clear c10
          obtain ⟨ji11, hji11⟩ : ∃ j_ : Int, (shl .i64 1 x16_2) = j_ := ⟨_, rfl⟩
          replace H : (if 0 ≤ (Go.bits .xor .i64 x12_1 (ji11)) then (impl_edges.l1 k2 a0 a1 a2 (wrap64 (x7_2 + (Go.bits .and .i64 (Go.bits .and .i64 (ji9) 1) (shr .i64 a2 (Go.bits .xor .i64 x12_1 (ji11)))))) x12_1 ji5 x12_1 a0 (wrap64 (x16_2 + 1))) else (none)) = some r := by first | (rw [hji11] at H; exact H) | (simp only [hji11] at H ⊢; exact H)
          have hji11_ : (IntKind.i64.wrap (1 * 2 ^ min x16_2.toNat 64)) = ji11 := hji11
          have hji11z : x16_2 ≤ 64 → (IntKind.i64.wrap (1 * 2 ^ x16_2.toNat)) = ji11 := shl_small hji11
          have hji11u : (IntKind.i64.wrap (2 ^ min x16_2.toNat 64)) = ji11 := by have h_ := hji11_; rw [Int.one_mul] at h_; exact h_
          have hji11v : x16_2 ≤ 64 → (IntKind.i64.wrap (2 ^ x16_2.toNat)) = ji11 := fun hle_ => by have h_ := hji11z hle_; rw [Int.one_mul] at h_; exact h_
          have hji11y : (wrap64 (1 * 2 ^ min x16_2.toNat 64)) = ji11 := (i64_w _).symm.trans hji11_
          have hji11x : x16_2 ≤ 64 → (wrap64 (1 * 2 ^ x16_2.toNat)) = ji11 := fun h_ => (i64_w _).symm.trans (hji11z h_)
          by_cases c12 : 0 ≤ (Go.bits .xor .i64 x12_1 (ji11))
          ·rw [if_pos c12] at H
           have c12b0 := eq_true c12
           have c12b1 : decide (0 ≤ (Go.bits .xor .i64 x12_1 (ji11))) = true := decide_eq_true c12
           clear c12
           obtain ⟨ji13, hji13⟩ : ∃ j_ : Int, (shr .i64 a2 (Go.bits .xor .i64 x12_1 (ji11))) = j_ := ⟨_, rfl⟩
           replace H : (impl_edges.l1 k2 a0 a1 a2 (wrap64 (x7_2 + (Go.bits .and .i64 (Go.bits .and .i64 (ji9) 1) (ji13)))) x12_1 ji5 x12_1 a0 (wrap64 (x16_2 + 1))) = some r := by first | (rw [hji13] at H; exact H) | (simp only [hji13] at H ⊢; exact H)
           have hji13_ : (a2 / 2 ^ min (Go.bits .xor .i64 x12_1 (ji11)).toNat 64) = ji13 := hji13
           have hji13z : (Go.bits .xor .i64 x12_1 (ji11)) ≤ 64 → (a2 / 2 ^ (Go.bits .xor .i64 x12_1 (ji11)).toNat) = ji13 := shr_small hji13
           have H' := A_ H
           clear H
           go_wp2
           repeat (go_quiet (fail); try go_wp2)
           go_roundg k2
           case measure => have := HK1.out; have := HK2.out; omega
           case rel => exact ⟨(wrap64 (x7_2 + (Go.bits .and .i64 (Go.bits .and .i64 (ji9) 1) (ji13)))), (wrap64 (x16_2 + 1)), (by first | rfl | (simp; done) | (simp only [← hji9, ← hji13] <;> (first | rfl | simp)) | (simp [*]; done)), q1_, H', ⟨by have := HK1.out; have := HK2.out; omega⟩, q5_⟩
          ·rw [if_neg c12] at H
           exact absurd H (by simp)
         ·rw [if_neg c10] at H
          exact absurd H (by simp)
        ·rw [if_neg c8] at H
         exact absurd H (by simp)
       ·rw [if_neg c7] at H
        have c7b0 : decide (x16_2 < a0) = false := decide_eq_false c7
        clear c7
        have H' := A_ H
        clear H
        go_wp2
        repeat (go_quiet (fail); try go_wp2)
        go_roundg k2
        case measure => have := HK1.out; have := HK2.out; omega
        case rel => exact ⟨(x7_2), (wrap64 (x12_1 + 1)), q1_, q1_, H', ⟨by have := HK1.out; have := HK2.out; omega⟩, q5_⟩
    ·rw [if_neg c6] at H
     have c6b0 : decide (x12_1 < ji5) = false := decide_eq_false c6
     clear c6
     obtain rfl := Option.some.inj H
     go_wp2
     repeat (go_quiet (fail); try go_wp2)
     go_ret
     exact ⟨by first | rfl | (simp; done) | (simp only [← hji5] <;> (first | rfl | simp)) | (simp [*]; done), q5_⟩
 ·rw [if_neg c4] at H
  exact absurd H (by simp)
def bits_OnesCount64.f (a0 : Int) : Option (Int) := some (Go.bits .and .i64 (wrap64 (IntKind.u64.wrap ((IntKind.u64.wrap ((IntKind.u64.wrap ((Go.bits .and .u64 (IntKind.u64.wrap (((IntKind.u64.wrap ((Go.bits .and .u64 ((IntKind.u64.wrap ((Go.bits .and .u64 (a0 / 2) 6148914691236517205) + (Go.bits .and .u64 a0 6148914691236517205))) / 4) 3689348814741910323) + (Go.bits .and .u64 (IntKind.u64.wrap ((Go.bits .and .u64 (a0 / 2) 6148914691236517205) + (Go.bits .and .u64 a0 6148914691236517205))) 3689348814741910323))) / 16) + (IntKind.u64.wrap ((Go.bits .and .u64 ((IntKind.u64.wrap ((Go.bits .and .u64 (a0 / 2) 6148914691236517205) + (Go.bits .and .u64 a0 6148914691236517205))) / 4) 3689348814741910323) + (Go.bits .and .u64 (IntKind.u64.wrap ((Go.bits .and .u64 (a0 / 2) 6148914691236517205) + (Go.bits .and .u64 a0 6148914691236517205))) 3689348814741910323))))) 1085102592571150095) + ((Go.bits .and .u64 (IntKind.u64.wrap (((IntKind.u64.wrap ((Go.bits .and .u64 ((IntKind.u64.wrap ((Go.bits .and .u64 (a0 / 2) 6148914691236517205) + (Go.bits .and .u64 a0 6148914691236517205))) / 4) 3689348814741910323) + (Go.bits .and .u64 (IntKind.u64.wrap ((Go.bits .and .u64 (a0 / 2) 6148914691236517205) + (Go.bits .and .u64 a0 6148914691236517205))) 3689348814741910323))) / 16) + (IntKind.u64.wrap ((Go.bits .and .u64 ((IntKind.u64.wrap ((Go.bits .and .u64 (a0 / 2) 6148914691236517205) + (Go.bits .and .u64 a0 6148914691236517205))) / 4) 3689348814741910323) + (Go.bits .and .u64 (IntKind.u64.wrap ((Go.bits .and .u64 (a0 / 2) 6148914691236517205) + (Go.bits .and .u64 a0 6148914691236517205))) 3689348814741910323))))) 1085102592571150095) / 256))) + ((IntKind.u64.wrap ((Go.bits .and .u64 (IntKind.u64.wrap (((IntKind.u64.wrap ((Go.bits .and .u64 ((IntKind.u64.wrap ((Go.bits .and .u64 (a0 / 2) 6148914691236517205) + (Go.bits .and .u64 a0 6148914691236517205))) / 4) 3689348814741910323) + (Go.bits .and .u64 (IntKind.u64.wrap ((Go.bits .and .u64 (a0 / 2) 6148914691236517205) + (Go.bits .and .u64 a0 6148914691236517205))) 3689348814741910323))) / 16) + (IntKind.u64.wrap ((Go.bits .and .u64 ((IntKind.u64.wrap ((Go.bits .and .u64 (a0 / 2) 6148914691236517205) + (Go.bits .and .u64 a0 6148914691236517205))) / 4) 3689348814741910323) + (Go.bits .and .u64 (IntKind.u64.wrap ((Go.bits .and .u64 (a0 / 2) 6148914691236517205) + (Go.bits .and .u64 a0 6148914691236517205))) 3689348814741910323))))) 1085102592571150095) + ((Go.bits .and .u64 (IntKind.u64.wrap (((IntKind.u64.wrap ((Go.bits .and .u64 ((IntKind.u64.wrap ((Go.bits .and .u64 (a0 / 2) 6148914691236517205) + (Go.bits .and .u64 a0 6148914691236517205))) / 4) 3689348814741910323) + (Go.bits .and .u64 (IntKind.u64.wrap ((Go.bits .and .u64 (a0 / 2) 6148914691236517205) + (Go.bits .and .u64 a0 6148914691236517205))) 3689348814741910323))) / 16) + (IntKind.u64.wrap ((Go.bits .and .u64 ((IntKind.u64.wrap ((Go.bits .and .u64 (a0 / 2) 6148914691236517205) + (Go.bits .and .u64 a0 6148914691236517205))) / 4) 3689348814741910323) + (Go.bits .and .u64 (IntKind.u64.wrap ((Go.bits .and .u64 (a0 / 2) 6148914691236517205) + (Go.bits .and .u64 a0 6148914691236517205))) 3689348814741910323))))) 1085102592571150095) / 256))) / 65536))) + ((IntKind.u64.wrap ((IntKind.u64.wrap ((Go.bits .and .u64 (IntKind.u64.wrap (((IntKind.u64.wrap ((Go.bits .and .u64 ((IntKind.u64.wrap ((Go.bits .and .u64 (a0 / 2) 6148914691236517205) + (Go.bits .and .u64 a0 6148914691236517205))) / 4) 3689348814741910323) + (Go.bits .and .u64 (IntKind.u64.wrap ((Go.bits .and .u64 (a0 / 2) 6148914691236517205) + (Go.bits .and .u64 a0 6148914691236517205))) 3689348814741910323))) / 16) + (IntKind.u64.wrap ((Go.bits .and .u64 ((IntKind.u64.wrap ((Go.bits .and .u64 (a0 / 2) 6148914691236517205) + (Go.bits .and .u64 a0 6148914691236517205))) / 4) 3689348814741910323) + (Go.bits .and .u64 (IntKind.u64.wrap ((Go.bits .and .u64 (a0 / 2) 6148914691236517205) + (Go.bits .and .u64 a0 6148914691236517205))) 3689348814741910323))))) 1085102592571150095) + ((Go.bits .and .u64 (IntKind.u64.wrap (((IntKind.u64.wrap ((Go.bits .and .u64 ((IntKind.u64.wrap ((Go.bits .and .u64 (a0 / 2) 6148914691236517205) + (Go.bits .and .u64 a0 6148914691236517205))) / 4) 3689348814741910323) + (Go.bits .and .u64 (IntKind.u64.wrap ((Go.bits .and .u64 (a0 / 2) 6148914691236517205) + (Go.bits .and .u64 a0 6148914691236517205))) 3689348814741910323))) / 16) + (IntKind.u64.wrap ((Go.bits .and .u64 ((IntKind.u64.wrap ((Go.bits .and .u64 (a0 / 2) 6148914691236517205) + (Go.bits .and .u64 a0 6148914691236517205))) / 4) 3689348814741910323) + (Go.bits .and .u64 (IntKind.u64.wrap ((Go.bits .and .u64 (a0 / 2) 6148914691236517205) + (Go.bits .and .u64 a0 6148914691236517205))) 3689348814741910323))))) 1085102592571150095) / 256))) + ((IntKind.u64.wrap ((Go.bits .and .u64 (IntKind.u64.wrap (((IntKind.u64.wrap ((Go.bits .and .u64 ((IntKind.u64.wrap ((Go.bits .and .u64 (a0 / 2) 6148914691236517205) + (Go.bits .and .u64 a0 6148914691236517205))) / 4) 3689348814741910323) + (Go.bits .and .u64 (IntKind.u64.wrap ((Go.bits .and .u64 (a0 / 2) 6148914691236517205) + (Go.bits .and .u64 a0 6148914691236517205))) 3689348814741910323))) / 16) + (IntKind.u64.wrap ((Go.bits .and .u64 ((IntKind.u64.wrap ((Go.bits .and .u64 (a0 / 2) 6148914691236517205) + (Go.bits .and .u64 a0 6148914691236517205))) / 4) 3689348814741910323) + (Go.bits .and .u64 (IntKind.u64.wrap ((Go.bits .and .u64 (a0 / 2) 6148914691236517205) + (Go.bits .and .u64 a0 6148914691236517205))) 3689348814741910323))))) 1085102592571150095) + ((Go.bits .and .u64 (IntKind.u64.wrap (((IntKind.u64.wrap ((Go.bits .and .u64 ((IntKind.u64.wrap ((Go.bits .and .u64 (a0 / 2) 6148914691236517205) + (Go.bits .and .u64 a0 6148914691236517205))) / 4) 3689348814741910323) + (Go.bits .and .u64 (IntKind.u64.wrap ((Go.bits .and .u64 (a0 / 2) 6148914691236517205) + (Go.bits .and .u64 a0 6148914691236517205))) 3689348814741910323))) / 16) + (IntKind.u64.wrap ((Go.bits .and .u64 ((IntKind.u64.wrap ((Go.bits .and .u64 (a0 / 2) 6148914691236517205) + (Go.bits .and .u64 a0 6148914691236517205))) / 4) 3689348814741910323) + (Go.bits .and .u64 (IntKind.u64.wrap ((Go.bits .and .u64 (a0 / 2) 6148914691236517205) + (Go.bits .and .u64 a0 6148914691236517205))) 3689348814741910323))))) 1085102592571150095) / 256))) / 65536))) / 4294967296)))) 127)
theorem bits_OnesCount64.calls (a0 : Int) (r : Int) (w : World) (h : bits_OnesCount64.f a0 = some r) :
  Calls Tryz.prog 92 #[.int .u64 a0] w fun e w' => e = .returned (.int .i64 r) ∧ Drawn0 w w' := by
 have H : (some (Go.bits .and .i64 (wrap64 (IntKind.u64.wrap ((IntKind.u64.wrap ((IntKind.u64.wrap ((Go.bits .and .u64 (IntKind.u64.wrap (((IntKind.u64.wrap ((Go.bits .and .u64 ((IntKind.u64.wrap ((Go.bits .and .u64 (a0 / 2) 6148914691236517205) + (Go.bits .and .u64 a0 6148914691236517205))) / 4) 3689348814741910323) + (Go.bits .and .u64 (IntKind.u64.wrap ((Go.bits .and .u64 (a0 / 2) 6148914691236517205) + (Go.bits .and .u64 a0 6148914691236517205))) 3689348814741910323))) / 16) + (IntKind.u64.wrap ((Go.bits .and .u64 ((IntKind.u64.wrap ((Go.bits .and .u64 (a0 / 2) 6148914691236517205) + (Go.bits .and .u64 a0 6148914691236517205))) / 4) 3689348814741910323) + (Go.bits .and .u64 (IntKind.u64.wrap ((Go.bits .and .u64 (a0 / 2) 6148914691236517205) + (Go.bits .and .u64 a0 6148914691236517205))) 3689348814741910323))))) 1085102592571150095) + ((Go.bits .and .u64 (IntKind.u64.wrap (((IntKind.u64.wrap ((Go.bits .and .u64 ((IntKind.u64.wrap ((Go.bits .and .u64 (a0 / 2) 6148914691236517205) + (Go.bits .and .u64 a0 6148914691236517205))) / 4) 3689348814741910323) + (Go.bits .and .u64 (IntKind.u64.wrap ((Go.bits .and .u64 (a0 / 2) 6148914691236517205) + (Go.bits .and .u64 a0 6148914691236517205))) 3689348814741910323))) / 16) + (IntKind.u64.wrap ((Go.bits .and .u64 ((IntKind.u64.wrap ((Go.bits .and .u64 (a0 / 2) 6148914691236517205) + (Go.bits .and .u64 a0 6148914691236517205))) / 4) 3689348814741910323) + (Go.bits .and .u64 (IntKind.u64.wrap ((Go.bits .and .u64 (a0 / 2) 6148914691236517205) + (Go.bits .and .u64 a0 6148914691236517205))) 3689348814741910323))))) 1085102592571150095) / 256))) + ((IntKind.u64.wrap ((Go.bits .and .u64 (IntKind.u64.wrap (((IntKind.u64.wrap ((Go.bits .and .u64 ((IntKind.u64.wrap ((Go.bits .and .u64 (a0 / 2) 6148914691236517205) + (Go.bits .and .u64 a0 6148914691236517205))) / 4) 3689348814741910323) + (Go.bits .and .u64 (IntKind.u64.wrap ((Go.bits .and .u64 (a0 / 2) 6148914691236517205) + (Go.bits .and .u64 a0 6148914691236517205))) 3689348814741910323))) / 16) + (IntKind.u64.wrap ((Go.bits .and .u64 ((IntKind.u64.wrap ((Go.bits .and .u64 (a0 / 2) 6148914691236517205) + (Go.bits .and .u64 a0 6148914691236517205))) / 4) 3689348814741910323) + (Go.bits .and .u64 (IntKind.u64.wrap ((Go.bits .and .u64 (a0 / 2) 6148914691236517205) + (Go.bits .and .u64 a0 6148914691236517205))) 3689348814741910323))))) 1085102592571150095) + ((Go.bits .and .u64 (IntKind.u64.wrap (((IntKind.u64.wrap ((Go.bits .and .u64 ((IntKind.u64.wrap ((Go.bits .and .u64 (a0 / 2) 6148914691236517205) + (Go.bits .and .u64 a0 6148914691236517205))) / 4) 3689348814741910323) + (Go.bits .and .u64 (IntKind.u64.wrap ((Go.bits .and .u64 (a0 / 2) 6148914691236517205) + (Go.bits .and .u64 a0 6148914691236517205))) 3689348814741910323))) / 16) + (IntKind.u64.wrap ((Go.bits .and .u64 ((IntKind.u64.wrap ((Go.bits .and .u64 (a0 / 2) 6148914691236517205) + (Go.bits .and .u64 a0 6148914691236517205))) / 4) 3689348814741910323) + (Go.bits .and .u64 (IntKind.u64.wrap ((Go.bits .and .u64 (a0 / 2) 6148914691236517205) + (Go.bits .and .u64 a0 6148914691236517205))) 3689348814741910323))))) 1085102592571150095) / 256))) / 65536))) + ((IntKind.u64.wrap ((IntKind.u64.wrap ((Go.bits .and .u64 (IntKind.u64.wrap (((IntKind.u64.wrap ((Go.bits .and .u64 ((IntKind.u64.wrap ((Go.bits .and .u64 (a0 / 2) 6148914691236517205) + (Go.bits .and .u64 a0 6148914691236517205))) / 4) 3689348814741910323) + (Go.bits .and .u64 (IntKind.u64.wrap ((Go.bits .and .u64 (a0 / 2) 6148914691236517205) + (Go.bits .and .u64 a0 6148914691236517205))) 3689348814741910323))) / 16) + (IntKind.u64.wrap ((Go.bits .and .u64 ((IntKind.u64.wrap ((Go.bits .and .u64 (a0 / 2) 6148914691236517205) + (Go.bits .and .u64 a0 6148914691236517205))) / 4) 3689348814741910323) + (Go.bits .and .u64 (IntKind.u64.wrap ((Go.bits .and .u64 (a0 / 2) 6148914691236517205) + (Go.bits .and .u64 a0 6148914691236517205))) 3689348814741910323))))) 1085102592571150095) + ((Go.bits .and .u64 (IntKind.u64.wrap (((IntKind.u64.wrap ((Go.bits .and .u64 ((IntKind.u64.wrap ((Go.bits .and .u64 (a0 / 2) 6148914691236517205) + (Go.bits .and .u64 a0 6148914691236517205))) / 4) 3689348814741910323) + (Go.bits .and .u64 (IntKind.u64.wrap ((Go.bits .and .u64 (a0 / 2) 6148914691236517205) + (Go.bits .and .u64 a0 6148914691236517205))) 3689348814741910323))) / 16) + (IntKind.u64.wrap ((Go.bits .and .u64 ((IntKind.u64.wrap ((Go.bits .and .u64 (a0 / 2) 6148914691236517205) + (Go.bits .and .u64 a0 6148914691236517205))) / 4) 3689348814741910323) + (Go.bits .and .u64 (IntKind.u64.wrap ((Go.bits .and .u64 (a0 / 2) 6148914691236517205) + (Go.bits .and .u64 a0 6148914691236517205))) 3689348814741910323))))) 1085102592571150095) / 256))) + ((IntKind.u64.wrap ((Go.bits .and .u64 (IntKind.u64.wrap (((IntKind.u64.wrap ((Go.bits .and .u64 ((IntKind.u64.wrap ((Go.bits .and .u64 (a0 / 2) 6148914691236517205) + (Go.bits .and .u64 a0 6148914691236517205))) / 4) 3689348814741910323) + (Go.bits .and .u64 (IntKind.u64.wrap ((Go.bits .and .u64 (a0 / 2) 6148914691236517205) + (Go.bits .and .u64 a0 6148914691236517205))) 3689348814741910323))) / 16) + (IntKind.u64.wrap ((Go.bits .and .u64 ((IntKind.u64.wrap ((Go.bits .and .u64 (a0 / 2) 6148914691236517205) + (Go.bits .and .u64 a0 6148914691236517205))) / 4) 3689348814741910323) + (Go.bits .and .u64 (IntKind.u64.wrap ((Go.bits .and .u64 (a0 / 2) 6148914691236517205) + (Go.bits .and .u64 a0 6148914691236517205))) 3689348814741910323))))) 1085102592571150095) + ((Go.bits .and .u64 (IntKind.u64.wrap (((IntKind.u64.wrap ((Go.bits .and .u64 ((IntKind.u64.wrap ((Go.bits .and .u64 (a0 / 2) 6148914691236517205) + (Go.bits .and .u64 a0 6148914691236517205))) / 4) 3689348814741910323) + (Go.bits .and .u64 (IntKind.u64.wrap ((Go.bits .and .u64 (a0 / 2) 6148914691236517205) + (Go.bits .and .u64 a0 6148914691236517205))) 3689348814741910323))) / 16) + (IntKind.u64.wrap ((Go.bits .and .u64 ((IntKind.u64.wrap ((Go.bits .and .u64 (a0 / 2) 6148914691236517205) + (Go.bits .and .u64 a0 6148914691236517205))) / 4) 3689348814741910323) + (Go.bits .and .u64 (IntKind.u64.wrap ((Go.bits .and .u64 (a0 / 2) 6148914691236517205) + (Go.bits .and .u64 a0 6148914691236517205))) 3689348814741910323))))) 1085102592571150095) / 256))) / 65536))) / 4294967296)))) 127)) = some r := h
 clear h
 obtain rfl := Option.some.inj H
 go_enter Tryz.func92, Tryz.ntmps92
 go_wp2
 go_ret
 exact ⟨q1_, q5_⟩
def impl_ones.f (a0 : Int) : Option (Int) := (bits_OnesCount64.f (IntKind.u64.wrap (a0))).bind fun t300 => (some t300)
theorem impl_ones.calls (a0 : Int) (r : Int) (w : World) (h : impl_ones.f a0 = some r) :
  Calls Tryz.prog 83 #[.int .i64 a0] w fun e w' => e = .returned (.int .i64 r) ∧ Drawn0 w w' := by
 have H : ((bits_OnesCount64.f (IntKind.u64.wrap (a0))).bind fun t300 => (some t300)) = some r := h
 clear h; replace H := Option.bind_eq_some_iff.mp H; obtain ⟨t300, A20, H⟩ := H
 replace H : (some t300) = some r := H
 have A2 := A_ A20; clear A20
 obtain rfl := Option.some.inj H
 go_enter Tryz.func83, Tryz.ntmps83
 go_wp2_with (first | ((with_reducible refine gate_callee (f := 92) rfl ?_); refine goesL_ (some 5) rfl rfl Tryz.func92 kr_ rfl #[.int .u64 (IntKind.u64.wrap (a0))] rfl q2_ ?_; (with_reducible refine (bits_OnesCount64.calls (IntKind.u64.wrap (a0)) t300 _ A2.out).mono ?_); rintro e w' ⟨rfl, ⟨nd, rfl⟩⟩; refine ⟨_, rfl, ?_⟩))
 go_ret
 exact ⟨q1_, q5_⟩
def impl_bound.f (k : Nat) (a0 : Int) (a1 : Int) (a2 : Int) : Option (Int) := (impl_ones.f a1).bind fun t301 => ((impl_ones.f a2).bind fun t302 => (if (wrap64 (t301 * t302)) = 0 then (some 0) else ((impl_edges.f k a0 a1 a2).bind fun t303 => (some (wrap64 (Int.tdiv (wrap64 ((wrap64 ((wrap64 (t303 * t303)) + (wrap64 (t301 * t302)))) - 1)) (wrap64 (t301 * t302))))))))
theorem impl_bound.calls (k : Nat) (a0 : Int) (a1 : Int) (a2 : Int) (r : Int) (w : World) (h : impl_bound.f k a0 a1 a2 = some r) :
  Calls Tryz.prog 51 #[.int .i64 a0, .int .i64 a1, .int .i64 a2] w fun e w' => e = .returned (.int .i64 r) ∧ Drawn0 w w' := by
 have H : ((impl_ones.f a1).bind fun t301 => ((impl_ones.f a2).bind fun t302 => (if (wrap64 (t301 * t302)) = 0 then (some 0) else ((impl_edges.f k a0 a1 a2).bind fun t303 => (some (wrap64 (Int.tdiv (wrap64 ((wrap64 ((wrap64 (t303 * t303)) + (wrap64 (t301 * t302)))) - 1)) (wrap64 (t301 * t302))))))))) = some r := h
 clear h; replace H := Option.bind_eq_some_iff.mp H; obtain ⟨t301, A40, H⟩ := H; (try dsimp only at H); have A4 := A_ A40; clear A40; replace H := Option.bind_eq_some_iff.mp H; obtain ⟨t302, A50, H⟩ := H; (try dsimp only at H); have A5 := A_ A50; clear A50
 by_cases c6 : (wrap64 (t301 * t302)) = 0
 ·rw [if_pos c6] at H
  have c6b0 : ((wrap64 (t301 * t302)) == 0) = true := beq_iff_eq.mpr c6
  have c6b1 : ((wrap64 (t301 * t302)) != 0) = false := bne_eq_false_iff_eq.mpr c6
  clear c6
  obtain rfl := Option.some.inj H
  go_enter Tryz.func51, Tryz.ntmps51
  go_wp2_with (first | ((with_reducible refine gate_callee (f := 83) rfl ?_); refine goesL_ (some 10) rfl rfl Tryz.func83 kr_ rfl #[.int .i64 a1] rfl q2_ ?_; (with_reducible refine (impl_ones.calls a1 t301 _ A4.out).mono ?_); rintro e w' ⟨rfl, ⟨nd, rfl⟩⟩; refine ⟨_, rfl, ?_⟩) | ((with_reducible refine gate_callee (f := 83) rfl ?_); refine goesL_ (some 12) rfl rfl Tryz.func83 kr_ rfl #[.int .i64 a2] rfl q2_ ?_; (with_reducible refine (impl_ones.calls a2 t302 _ A5.out).mono ?_); rintro e w' ⟨rfl, ⟨nd, rfl⟩⟩; refine ⟨_, rfl, ?_⟩))
  go_ret
  exact ⟨q1_, q5_⟩
 ·rw [if_neg c6] at H
  have c6b0 : ((wrap64 (t301 * t302)) == 0) = false := beq_eq_false_iff_ne.mpr c6
  have c6b1 : ((wrap64 (t301 * t302)) != 0) = true := bne_iff_ne.mpr c6
  replace H := Option.bind_eq_some_iff.mp H; obtain ⟨t303, A70, H⟩ := H; (try dsimp only at H); have A7 := A_ A70; clear A70
  obtain rfl := Option.some.inj H
  go_enter Tryz.func51, Tryz.ntmps51
  go_wp2_with (first | ((with_reducible refine gate_callee (f := 83) rfl ?_); refine goesL_ (some 10) rfl rfl Tryz.func83 kr_ rfl #[.int .i64 a1] rfl q2_ ?_; (with_reducible refine (impl_ones.calls a1 t301 _ A4.out).mono ?_); rintro e w' ⟨rfl, ⟨nd, rfl⟩⟩; refine ⟨_, rfl, ?_⟩) | ((with_reducible refine gate_callee (f := 83) rfl ?_); refine goesL_ (some 12) rfl rfl Tryz.func83 kr_ rfl #[.int .i64 a2] rfl q2_ ?_; (with_reducible refine (impl_ones.calls a2 t302 _ A5.out).mono ?_); rintro e w' ⟨rfl, ⟨nd, rfl⟩⟩; refine ⟨_, rfl, ?_⟩) | ((with_reducible refine gate_callee (f := 64) rfl ?_); refine goesL_ (some 19) rfl rfl Tryz.func64 kr_ rfl #[.int .i64 a0, .int .i64 a1, .int .i64 a2] rfl q2_ ?_; (with_reducible refine (impl_edges.calls k a0 a1 a2 t303 _ A7.out).mono ?_); rintro e w' ⟨rfl, ⟨nd, rfl⟩⟩; refine ⟨_, rfl, ?_⟩))
  go_ret
  exact ⟨q1_, q5_⟩
mutual
def impl_BestPair.l0 : Nat → Int → Int → Int → Int → Int → Int → Int → Option (Int × Int × Int × Bool)
 | 0, _, _, _, _, _, _, _ => none
 | k + 1, x6, x7, x8, x17, x18, x305000, x305001 => if x18 < x17 then ((impl_Table_not.f x305000 x305001).bind fun bt306 => (impl_BestPair.l1 k x6 x7 x8 x18 x17 x18 (wrap64 (bt306.2 + 1)) 0 x305000 x305001)) else (some (x6, x7, x8, true))
def impl_BestPair.l1 : Nat → Int → Int → Int → Int → Int → Int → Int → Int → Int → Int → Option (Int × Int × Int × Bool)
 | 0, _, _, _, _, _, _, _, _, _, _ => none
 | k + 1, x6, x7, x8, x9, x17, x18, x24, x25, x305000, x305001 => if x25 < x24 then (if (Go.bits .andNot .i64 x9 x305001) = 0 then (impl_BestPair.j2 k x6 x7 x8 x9 x25 x17 x18 x24 x25 ((Go.bits .and .i64 x25 x305001) != 0) x305000 x305001) else (impl_BestPair.j2 k x6 x7 x8 x9 x25 x17 x18 x24 x25 true x305000 x305001)) else (impl_BestPair.l0 k x6 x7 x8 x17 (wrap64 (x18 + 1)) x305000 x305001)
def impl_BestPair.j2 : Nat → Int → Int → Int → Int → Int → Int → Int → Int → Int → Bool → Int → Int → Option (Int × Int × Int × Bool)
 | 0, _, _, _, _, _, _, _, _, _, _, _, _ => none
 | k + 1, x6, x7, x8, x9, x10, x17, x18, x24, x25, x39, x305000, x305001 => if x39 = true then (impl_BestPair.l1 k x6 x7 x8 x9 x17 x18 x24 (wrap64 (x25 + 1)) x305000 x305001) else ((impl_bound.f k x305000 x9 x10).bind fun t308 => (if t308 > x8 then (impl_BestPair.l1 k x9 x10 t308 x9 x17 x18 x24 (wrap64 (x25 + 1)) x305000 x305001) else (impl_BestPair.l1 k x6 x7 x8 x9 x17 x18 x24 (wrap64 (x25 + 1)) x305000 x305001)))
end
def impl_BestPair.f (k : Nat) (a0_0 : Int) (a0_1 : Int) : Option (Int × Int × Int × Bool) := (impl_isSmall.f a0_0 a0_1 3).bind fun t305 => (if t305 = true then (impl_BestPair.l0 k 0 0 0 (wrap64 (a0_1 + 1)) 0 a0_0 a0_1) else (some (0, 0, 0, false)))
theorem impl_BestPair.calls (k : Nat) (a0_0 : Int) (a0_1 : Int) (r1 : Int) (r2 : Int) (r3 : Int) (r4 : Bool) (w : World) (h : impl_BestPair.f k a0_0 a0_1 = some (r1, r2, r3, r4)) :
  Calls Tryz.prog 11 #[.agg #[.int .i64 a0_0, .int .i64 a0_1]] w fun e w' => e = .returned (.tuple #[.int .i64 r1, .int .i64 r2, .int .i64 r3, .bool r4]) ∧ Below w.heap.size w w' := by
 have hu25 := Tryz.underlying25
 have hfld25_1 : ∀ (x0 : Int) (x1 : Int) (W : World), (Instr.field 25 (.agg #[.int .i64 x0, .int .i64 x1]) 1).run Tryz.prog W = .ok (.int .i64 x1) W := fun _ _ _ => by kernel_rfl
 have HB := A_ (Below.refl w.heap.size w)
 have H : ((impl_isSmall.f a0_0 a0_1 3).bind fun t305 => (if t305 = true then (impl_BestPair.l0 k 0 0 0 (wrap64 (a0_1 + 1)) 0 a0_0 a0_1) else (some (0, 0, 0, false)))) = some (r1, r2, r3, r4) := h
 clear h; replace H := Option.bind_eq_some_iff.mp H; obtain ⟨t305, A20, H⟩ := H; (try dsimp only at H); have A2 := A_ A20; clear A20
 by_cases c3 : t305 = true
 ·subst c3
  have H1 : (impl_BestPair.l0 k 0 0 0 (wrap64 (a0_1 + 1)) 0 a0_0 a0_1) = some (r1, r2, r3, r4) := by rw [if_pos rfl] at H; exact H
  clear H; have H := H1; clear H1
  have H' := A_ H
  clear H
  go_enter Tryz.func11, Tryz.ntmps11
  go_wp2_with (first | ((with_reducible refine gate_dst (N := 1) rfl ?_); refine box_event ?hg (N := 1) ?hd (cs := #[.int .i64 a0_0, .int .i64 a0_1]) (t := 25) ?hr ?_; (case hd => rfl); (case hg => rfl); (case hr => first | (go_simp; done) | (go_simp; rfl)); intro gb304 hg w4 hbox hb; have BK304 := A_ (hbox); have GW304 := A_ ((by rw [hg]; exact (below_size q0_) : w.heap.size ≤ gb304)); have GE304 := A_ ((by rw [hg]; exact (below_size q0_) : w.heap.size ≤ gb304)); replace HB := A_ (below_step q0_ hb); clear hb hbox hg; have hcz5_0 := c20_ BK304; have hcz5_1 := c21_ BK304; have hfz5_0 := blk_frozen BK304.out 0; have hfz5_1 := blk_frozen BK304.out 1) | ((with_reducible refine gate_callee (f := 41) rfl ?_); refine goesL_ (some 13) rfl rfl Tryz.func41 kr_ rfl #[.agg #[.int .i64 a0_0, .int .i64 a0_1], .int .i64 3] rfl q2_ ?_; (with_reducible refine (impl_isSmall.calls a0_0 a0_1 3 true _ A2.out).mono ?_); rintro e w6 ⟨rfl, hb⟩; refine ⟨_, rfl, ?_⟩; replace BK304 := A_ (blk_below (M.Lb BK304) hb); replace HB := A_ (below_step q0_ hb); clear hb; have hcz7_0 := c20_ BK304; have hcz7_1 := c21_ BK304; have hfz7_0 := blk_frozen BK304.out 0; have hfz7_1 := blk_frozen BK304.out 1))
  go_loopg [6, 7, 8, 18] k (fun kq v6 v7 v8 v18 w' => ∃ (x6_1 : Int) (x7_1 : Int) (x8_1 : Int) (x18_1 : Int), v6 = .int .i64 x6_1 ∧ v7 = .int .i64 x7_1 ∧ v8 = .int .i64 x8_1 ∧ v18 = .int .i64 x18_1 ∧ Aside0 (impl_BestPair.l0 kq x6_1 x7_1 x8_1 (wrap64 (a0_1 + 1)) x18_1 a0_0 a0_1 = some (r1, r2, r3, r4)) ∧ Aside0 (kq ≤ k) ∧ Aside0 (w'.heap[gb304]? = some (.cells #[.int .i64 a0_0, .int .i64 a0_1] 25 (0, 0))) ∧ Aside0 (Below w.heap.size w w'))
  case atStart => exact ⟨(0), (0), (0), (0), q1_, q1_, q1_, q1_, H', ⟨Nat.le_refl _⟩, ⟨M.Lb BK304⟩, ⟨q0_⟩⟩
  case round =>
   clear H'; clear hcz5_0 hcz5_1 hcz7_0 hcz7_1 hfz5_0 hfz5_1 hfz7_0 hfz7_1; obtain ⟨x6_1, x7_1, x8_1, x18_1, rfl, rfl, rfl, rfl, HA, HK1, BK304, HB⟩ := hrel
   cases gk with
   | zero => exact absurd HA.out (by simp [impl_BestPair.l0])
   | succ k1 =>
    have H := HA.out
    clear HA
    simp only [impl_BestPair.l0] at H
    by_cases c8 : x18_1 < (wrap64 (a0_1 + 1))
    ·rw [if_pos c8] at H
     have c8b0 : decide (x18_1 < (wrap64 (a0_1 + 1))) = true := decide_eq_true c8
     clear c8; replace H := Option.bind_eq_some_iff.mp H; obtain ⟨⟨t306, t307⟩, A90, H⟩ := H; (try dsimp only at H); have A9 := A_ A90; clear A90
     have H' := A_ H
     clear H
     have hcz10_0 := c20_ BK304
     have hcz10_1 := c21_ BK304
     have hfz10_0 := blk_frozen BK304.out 0
     have hfz10_1 := blk_frozen BK304.out 1
     go_wp2_with (first | ((with_reducible refine gate_callee (f := 50) rfl ?_); refine goesL_ (some 22) rfl rfl Tryz.func50 kr_ rfl #[.agg #[.int .i64 a0_0, .int .i64 a0_1]] rfl q2_ ?_; (with_reducible refine (impl_Table_not.calls a0_0 a0_1 t306 t307 _ A9.out).mono ?_); rintro e w11 ⟨rfl, hb⟩; refine ⟨_, rfl, ?_⟩; replace BK304 := A_ (blk_below (M.Lb BK304) hb); replace HB := A_ (below_step q0_ hb); clear hb))
     go_loopg [6, 7, 8, 25] k1 (fun kq v6 v7 v8 v25 w' => ∃ (x6_2 : Int) (x7_2 : Int) (x8_2 : Int) (x25_2 : Int), v6 = .int .i64 x6_2 ∧ v7 = .int .i64 x7_2 ∧ v8 = .int .i64 x8_2 ∧ v25 = .int .i64 x25_2 ∧ Aside0 (impl_BestPair.l1 kq x6_2 x7_2 x8_2 x18_1 (wrap64 (a0_1 + 1)) x18_1 (wrap64 (t307 + 1)) x25_2 a0_0 a0_1 = some (r1, r2, r3, r4)) ∧ Aside0 (kq ≤ k1) ∧ Aside0 (w'.heap[gb304]? = some (.cells #[.int .i64 a0_0, .int .i64 a0_1] 25 (0, 0))) ∧ Aside0 (Below w.heap.size w w'))
     case atStart => exact ⟨(x6_1), (x7_1), (x8_1), (0), q1_, q1_, q1_, q1_, H', ⟨Nat.le_refl _⟩, ⟨M.Lb BK304⟩, ⟨q0_⟩⟩
     case round =>
      clear H'; clear c8b0 hcz10_0 hcz10_1 hfz10_0 hfz10_1; obtain ⟨x6_2, x7_2, x8_2, x25_2, rfl, rfl, rfl, rfl, HA, HK2, BK304, HB⟩ := hrel
      cases gk with
      | zero => exact absurd HA.out (by simp [impl_BestPair.l1])
      | succ k2 =>
       have H := HA.out
       clear HA
       simp only [impl_BestPair.l1] at H
       by_cases c12 : x25_2 < (wrap64 (t307 + 1))
       ·rw [if_pos c12] at H
        have c12b0 : decide (x25_2 < (wrap64 (t307 + 1))) = true := decide_eq_true c12
        clear c12; have HC13 := A_ H; clear H
        go_upto_region 10 with (fail)
        go_cut [39] (fun v39 wc => ∃ (kq : Nat) (x39_12 : Bool), v39 = .bool x39_12 ∧ Aside0 (impl_BestPair.j2 kq x6_2 x7_2 x8_2 x18_1 x25_2 (wrap64 (a0_1 + 1)) x18_1 (wrap64 (t307 + 1)) x25_2 x39_12 a0_0 a0_1 = some (r1, r2, r3, r4)) ∧ Aside0 (kq ≤ k2) ∧ Aside0 (wc.heap[gb304]? = some (.cells #[.int .i64 a0_0, .int .i64 a0_1] 25 (0, 0))) ∧ Aside0 (Below w.heap.size w wc))
        case first =>
         have H := HC13.out
         clear HC13
         by_cases c14 : (Go.bits .andNot .i64 x18_1 a0_1) = 0
         ·rw [if_pos c14] at H
          have c14b0 : ((Go.bits .andNot .i64 x18_1 a0_1) == 0) = true := beq_iff_eq.mpr c14
          have c14b1 : ((Go.bits .andNot .i64 x18_1 a0_1) != 0) = false := bne_eq_false_iff_eq.mpr c14
          clear c14
          (first | rw [c14b0] | (simp only [i64_w, i32_w]; rw [c14b0]) | skip)
          have H' := A_ H
          clear H
          have hcz15_0 := c20_ BK304
          have hcz15_1 := c21_ BK304
          have hfz15_0 := blk_frozen BK304.out 0
          have hfz15_1 := blk_frozen BK304.out 1
          go_wp2
          go_meet
          case rel => exact ⟨_, (((Go.bits .and .i64 x25_2 a0_1) != 0)), q1_, H', ⟨by have := HK1.out; have := HK2.out; first | omega | exact Nat.le_refl _⟩, ⟨M.Lb BK304⟩, ⟨q0_⟩⟩
         ·rw [if_neg c14] at H
          have c14b0 : ((Go.bits .andNot .i64 x18_1 a0_1) == 0) = false := beq_eq_false_iff_ne.mpr c14
          have c14b1 : ((Go.bits .andNot .i64 x18_1 a0_1) != 0) = true := bne_iff_ne.mpr c14
          (first | rw [c14b0] | (simp only [i64_w, i32_w]; rw [c14b0]) | skip)
          have H' := A_ H
          clear H
          have hcz16_0 := c20_ BK304
          have hcz16_1 := c21_ BK304
          have hfz16_0 := blk_frozen BK304.out 0
          have hfz16_1 := blk_frozen BK304.out 1
          go_wp2
          go_meet
          case rel => exact ⟨_, (true), q1_, H', ⟨by have := HK1.out; have := HK2.out; first | omega | exact Nat.le_refl _⟩, ⟨M.Lb BK304⟩, ⟨q0_⟩⟩
        case rest =>
         clear HC13; clear c12b0
         obtain ⟨kq, x39_12, rfl, HA, HJ12, BK304, HB⟩ := hcut
         cases kq with
         | zero => exact absurd HA.out (by simp [impl_BestPair.j2])
         | succ kj12 =>
          have H := HA.out
          clear HA
          simp only [impl_BestPair.j2] at H
          by_cases c17 : x39_12 = true
          ·subst c17
           have H1 : (impl_BestPair.l1 kj12 x6_2 x7_2 x8_2 x18_1 (wrap64 (a0_1 + 1)) x18_1 (wrap64 (t307 + 1)) (wrap64 (x25_2 + 1)) a0_0 a0_1) = some (r1, r2, r3, r4) := by rw [if_pos rfl] at H; exact H
           clear H; have H := H1; clear H1
           have H' := A_ H
           clear H
           go_wp2
           go_roundg kj12
           case measure => have := HK1.out; have := HK2.out; have := HJ12.out; omega
           case rel => exact ⟨(x6_2), (x7_2), (x8_2), (wrap64 (x25_2 + 1)), q1_, q1_, q1_, q1_, H', ⟨by have := HK1.out; have := HK2.out; have := HJ12.out; omega⟩, ⟨M.Lb BK304⟩, ⟨q0_⟩⟩
          ·replace c17 := Bool.eq_false_iff.mpr c17
           subst c17
           have H1 : ((impl_bound.f kj12 a0_0 x18_1 x25_2).bind fun t308 => (if t308 > x8_2 then (impl_BestPair.l1 kj12 x18_1 x25_2 t308 x18_1 (wrap64 (a0_1 + 1)) x18_1 (wrap64 (t307 + 1)) (wrap64 (x25_2 + 1)) a0_0 a0_1) else (impl_BestPair.l1 kj12 x6_2 x7_2 x8_2 x18_1 (wrap64 (a0_1 + 1)) x18_1 (wrap64 (t307 + 1)) (wrap64 (x25_2 + 1)) a0_0 a0_1))) = some (r1, r2, r3, r4) := by rw [if_neg (show ¬ (false = true) by decide)] at H; exact H
           clear H; have H := H1; clear H1; replace H := Option.bind_eq_some_iff.mp H; obtain ⟨t308, A180, H⟩ := H; (try dsimp only at H); have A18 := A_ A180; clear A180
           by_cases c19 : t308 > x8_2
           ·rw [if_pos c19] at H
            have c19b0 : decide (x8_2 < t308) = true := decide_eq_true c19
            clear c19
            have H' := A_ H
            clear H
            have hcz20_0 := c20_ BK304
            have hcz20_1 := c21_ BK304
            have hfz20_0 := blk_frozen BK304.out 0
            have hfz20_1 := blk_frozen BK304.out 1
            go_wp2_with (first | ((with_reducible refine gate_callee (f := 51) rfl ?_); refine goesL_ (some 44) rfl rfl Tryz.func51 kr_ rfl #[.int .i64 a0_0, .int .i64 x18_1, .int .i64 x25_2] rfl q2_ ?_; (with_reducible refine (impl_bound.calls kj12 a0_0 x18_1 x25_2 t308 _ A18.out).mono ?_); rintro e w' ⟨rfl, ⟨nd, rfl⟩⟩; refine ⟨_, rfl, ?_⟩))
            go_roundg kj12
            case measure => have := HK1.out; have := HK2.out; have := HJ12.out; omega
            case rel => exact ⟨(x18_1), (x25_2), (t308), (wrap64 (x25_2 + 1)), q1_, q1_, q1_, q1_, H', ⟨by have := HK1.out; have := HK2.out; have := HJ12.out; omega⟩, ⟨M.Lb BK304⟩, ⟨q0_⟩⟩
           ·rw [if_neg c19] at H
            have c19b0 : decide (x8_2 < t308) = false := decide_eq_false c19
            clear c19
            have H' := A_ H
            clear H
            have hcz21_0 := c20_ BK304
            have hcz21_1 := c21_ BK304
            have hfz21_0 := blk_frozen BK304.out 0
            have hfz21_1 := blk_frozen BK304.out 1
            go_wp2_with (first | ((with_reducible refine gate_callee (f := 51) rfl ?_); refine goesL_ (some 44) rfl rfl Tryz.func51 kr_ rfl #[.int .i64 a0_0, .int .i64 x18_1, .int .i64 x25_2] rfl q2_ ?_; (with_reducible refine (impl_bound.calls kj12 a0_0 x18_1 x25_2 t308 _ A18.out).mono ?_); rintro e w' ⟨rfl, ⟨nd, rfl⟩⟩; refine ⟨_, rfl, ?_⟩))
            go_roundg kj12
            case measure => have := HK1.out; have := HK2.out; have := HJ12.out; omega
            case rel => exact ⟨(x6_2), (x7_2), (x8_2), (wrap64 (x25_2 + 1)), q1_, q1_, q1_, q1_, H', ⟨by have := HK1.out; have := HK2.out; have := HJ12.out; omega⟩, ⟨M.Lb BK304⟩, ⟨q0_⟩⟩
       ·rw [if_neg c12] at H
        have c12b0 : decide (x25_2 < (wrap64 (t307 + 1))) = false := decide_eq_false c12
        clear c12
        have H' := A_ H
        clear H
        go_wp2
        go_roundg k2
        case measure => have := HK1.out; have := HK2.out; omega
        case rel => exact ⟨(x6_2), (x7_2), (x8_2), (wrap64 (x18_1 + 1)), q1_, q1_, q1_, q1_, H', ⟨by have := HK1.out; have := HK2.out; omega⟩, ⟨M.Lb BK304⟩, ⟨q0_⟩⟩
    ·rw [if_neg c8] at H
     have c8b0 : decide (x18_1 < (wrap64 (a0_1 + 1))) = false := decide_eq_false c8
     clear c8
     simp only [Option.some.injEq, Prod.mk.injEq] at H
     obtain ⟨rfl, rfl, rfl, rfl⟩ := H
     go_wp2
     refine bodyPost_ret (results_list (rs := [.tmp 2, .tmp 3, .tmp 4, .tmp 5]) rfl (by simp) (.tmp (.tmp (.tmp (.tmp .nil))))) rfl ?_
     exact ⟨q6_, q0_⟩
 ·replace c3 := Bool.eq_false_iff.mpr c3
  subst c3
  have H1 : (some (0, 0, 0, false)) = some (r1, r2, r3, r4) := by rw [if_neg (show ¬ (false = true) by decide)] at H; exact H
  clear H; have H := H1; clear H1
  simp only [Option.some.injEq, Prod.mk.injEq] at H
  obtain ⟨rfl, rfl, rfl, rfl⟩ := H
  go_enter Tryz.func11, Tryz.ntmps11
  go_wp2_with (first | ((with_reducible refine gate_dst (N := 1) rfl ?_); refine box_event ?hg (N := 1) ?hd (cs := #[.int .i64 a0_0, .int .i64 a0_1]) (t := 25) ?hr ?_; (case hd => rfl); (case hg => rfl); (case hr => first | (go_simp; done) | (go_simp; rfl)); intro gb304 hg w22 hbox hb; have BK304 := A_ (hbox); have GW304 := A_ ((by rw [hg]; exact (below_size q0_) : w.heap.size ≤ gb304)); have GE304 := A_ ((by rw [hg]; exact (below_size q0_) : w.heap.size ≤ gb304)); replace HB := A_ (below_step q0_ hb); clear hb hbox hg; have hcz23_0 := c20_ BK304; have hcz23_1 := c21_ BK304; have hfz23_0 := blk_frozen BK304.out 0; have hfz23_1 := blk_frozen BK304.out 1) | ((with_reducible refine gate_callee (f := 41) rfl ?_); refine goesL_ (some 13) rfl rfl Tryz.func41 kr_ rfl #[.agg #[.int .i64 a0_0, .int .i64 a0_1], .int .i64 3] rfl q2_ ?_; (with_reducible refine (impl_isSmall.calls a0_0 a0_1 3 false _ A2.out).mono ?_); rintro e w24 ⟨rfl, hb⟩; refine ⟨_, rfl, ?_⟩; replace BK304 := A_ (blk_below (M.Lb BK304) hb); replace HB := A_ (below_step q0_ hb); clear hb))
  refine bodyPost_ret (results_list (rs := [.tmp 2, .tmp 3, .tmp 4, .tmp 5]) rfl (by simp) (.tmp (.tmp (.tmp (.tmp .nil))))) rfl ?_
  exact ⟨q6_, q0_⟩
def spec_NotTable.f (a0_0 : Int) (a0_1 : Int) : Option (Int × Int × Bool) := (spec_IsTable.f a0_0 a0_1).bind fun t311 => (if t311 = true then ((spec_l2Full.f a0_0).bind fun t312 => (some (a0_0, wrap64 (t312 - a0_1), true))) else (some (0, 0, false)))
def spec_NotTable.T3 : Bool × List (List Nat × List Nat) := (true, [([], []), ([0], [0]), ([], []), ([2], [2]), ([3], [3]), ([], []), ([5], [5]), ([4, 6], [4, 6]), ([1, 7], [1, 7]), ([8, 4, 0, 1, 2, 3, 4, 5, 6, 7, 8], [8]), ([9, 0, 1, 2, 3, 4, 5, 6, 7, 8, 9], [])])
def spec_NotTable.B3 : List Nat := [0, 1, 0, 4, 12, 0, 32, 124, 255, 511, 1023]
theorem spec_NotTable.tab3 : rtab .any (opsOf Tryz.f12 3) = spec_NotTable.T3 := by kernel_rfl
theorem spec_NotTable.bits3 : waitsOk spec_NotTable.T3.2 spec_NotTable.B3 = true := by kernel_rfl
theorem spec_NotTable.calls (a0_0 : Int) (a0_1 : Int) (r1 : Int) (r2 : Int) (r3 : Bool) (w : World) (h : spec_NotTable.f a0_0 a0_1 = some (r1, r2, r3)) :
  Calls Tryz.prog 12 #[.agg #[.int .i64 a0_0, .int .i64 a0_1]] w fun e w' => e = .returned (.tuple #[.agg #[.int .i64 r1, .int .i64 r2], .bool r3]) ∧ Below w.heap.size w w' := by
 have hu25 := Tryz.underlying25
 have HB := A_ (Below.refl w.heap.size w)
 have H : ((spec_IsTable.f a0_0 a0_1).bind fun t311 => (if t311 = true then ((spec_l2Full.f a0_0).bind fun t312 => (some (a0_0, wrap64 (t312 - a0_1), true))) else (some (0, 0, false)))) = some (r1, r2, r3) := h
 clear h; replace H := Option.bind_eq_some_iff.mp H; obtain ⟨t311, A20, H⟩ := H; (try dsimp only at H); have A2 := A_ A20; clear A20
 by_cases c3 : t311 = true
 ·subst c3
  have H1 : ((spec_l2Full.f a0_0).bind fun t312 => (some (a0_0, wrap64 (t312 - a0_1), true))) = some (r1, r2, r3) := by rw [if_pos rfl] at H; exact H
  clear H; have H := H1; clear H1; replace H := Option.bind_eq_some_iff.mp H; obtain ⟨t312, A40, H⟩ := H
  replace H : (some (a0_0, wrap64 (t312 - a0_1), true)) = some (r1, r2, r3) := H
  have A4 := A_ A40; clear A40
  simp only [Option.some.injEq, Prod.mk.injEq] at H
  obtain ⟨rfl, rfl, rfl⟩ := H
  go_enter Tryz.func12, Tryz.ntmps12
  try go_wp2_with (first | ((with_reducible refine gate_dst (N := 1) rfl ?_); refine box_event ?hg (N := 1) ?hd (cs := #[.int .i64 a0_0, .int .i64 a0_1]) (t := 25) ?hr ?_; (case hd => rfl); (case hg => rfl); (case hr => first | (go_simp; done) | (go_simp; rfl)); intro gb309 hg w5 hbox hb; have BK309 := A_ (hbox); have GW309 := A_ ((by rw [hg]; exact (below_size q0_) : w.heap.size ≤ gb309)); have GE309 := A_ ((by rw [hg]; exact (below_size q0_) : w.heap.size ≤ gb309)); replace HB := A_ (below_step q0_ hb); clear hb hbox hg) | ((with_reducible refine gate_dst (N := 2) rfl ?_); refine box_event ?hg (N := 2) ?hd (cs := #[.int .i64 0, .int .i64 0]) (t := 25) ?hr ?_; (case hd => rfl); (case hg => rfl); (case hr => first | (go_simp; done) | (go_simp; rfl)); intro gb310 hg w6 hbox hb; have BK310 := A_ (hbox); have GW310 := A_ ((by rw [hg]; exact (below_size q0_) : w.heap.size ≤ gb310)); have GE310 := A_ ((by rw [hg]; exact (below_size q0_) : w.heap.size ≤ gb310)); replace HB := A_ (below_step q0_ hb); have NB309_310 := A_ ((by rw [hg]; exact Nat.ne_of_lt (blk_lt (M.Lb BK309)) : gb309 ≠ gb310)); have NB310_309 := A_ ((by rw [hg]; exact Nat.ne_of_gt (blk_lt (M.Lb BK309)) : gb310 ≠ gb309)); replace BK309 := A_ (blk_below (M.Lb BK309) hb); clear hb hbox hg; have hnb7 := NB309_310.out; have hnc7 := NB310_309.out; have hcz8_0 := c20_ BK309; have hcz8_1 := c21_ BK309; have hfz8_0 := blk_frozen BK309.out 0; have hfz8_1 := blk_frozen BK309.out 1) | ((with_reducible refine gate_callee (f := 44) rfl ?_); refine goesL_ (some 5) rfl rfl Tryz.func44 kr_ rfl #[.agg #[.int .i64 a0_0, .int .i64 a0_1]] rfl q2_ ?_; (with_reducible refine (spec_IsTable.calls a0_0 a0_1 true _ A2.out).mono ?_); rintro e w9 ⟨rfl, hb⟩; refine ⟨_, rfl, ?_⟩; replace BK309 := A_ (blk_below (M.Lb BK309) hb); replace BK310 := A_ (blk_below (M.Lb BK310) hb); replace HB := A_ (below_step q0_ hb); clear hb))
  have n0_ := A_ (blk_drew BK309.out)
  have n1_ := A_ (blk_drew BK310.out)
  have n2_ := A_ (below_drew1 HB.out)
  clear BK309; clear BK310; clear HB; have BK309 := n0_; have BK310 := n1_; have HB := n2_; clear n0_ n1_ n2_
  refine start_ (n := 11) (S := fun w' => w'.cell? ⟨gb309, 0, none⟩ = some (.int .i64 a0_0) ∧ w'.cell? ⟨gb309, 1, none⟩ = some (.int .i64 a0_1)) (ds := []) #[false, false, false, false, false, false, false, false, false, false, false] kr_ rfl rfl ⟨(blk_cell BK309.out 0).trans rfl, (blk_cell BK309.out 1).trans rfl⟩ (fun hHeld => ?_); refine with_tabW spec_NotTable.tab3 spec_NotTable.bits3 (fun HT_ HW_ => ?_)
  generalize w9.drew = w10 at BK309 BK310 HB hHeld ⊢
  refine pure_ (i := 0) (N := some 8) (v := ?_) (a' := ?_) #[true, false, false, false, false, false, false, false, false, false, false] rfl rfl (any_of HT_.out kr_) (fun _ _ _ h => h) (Or.inl ⟨by rfl, ?_⟩) ?_ ?_; rotate_left
  ·intro w'; go_simp; with_reducible rfl
  rotate_left
  ·simp only [Act.put, List.setIfInBounds_toArray, List.set_cons_zero, List.set_cons_succ, i64_w, i32_w]; rfl
  refine pure_ (i := 2) (N := some 10) (v := ?_) (a' := ?_) #[true, false, true, false, false, false, false, false, false, false, false] rfl rfl (any_of HT_.out kr_) (fun _ _ _ h => h) (Or.inl ⟨by rfl, ?_⟩) ?_ ?_; rotate_left
  ·intro w'; go_simp; with_reducible rfl
  rotate_left
  ·simp only [Act.put, List.setIfInBounds_toArray, List.set_cons_zero, List.set_cons_succ, i64_w, i32_w]; rfl
  refine pure_ (i := 5) (N := some 13) (v := ?_) (a' := ?_) #[true, false, true, false, false, true, false, false, false, false, false] rfl rfl (any_of HT_.out kr_) (fun _ _ _ h => h) (Or.inl ⟨by rfl, ?_⟩) ?_ ?_; rotate_left
  ·intro w'; go_simp; with_reducible rfl
  rotate_left
  ·simp only [Act.put, List.setIfInBounds_toArray, List.set_cons_zero, List.set_cons_succ, i64_w, i32_w]; rfl
  refine take_ (i := 1) (N := some 9) (v := ?_) (a' := ?_) #[true, true, true, false, false, true, false, false, false, false, false] rfl rfl (take_ofW HT_.out HW_.out kr_) (fun _ _ _ h => h) (Or.inl ⟨by rfl, ?_⟩) hHeld ?_ ?_
  rotate_left
  ·rintro w' ⟨s0, s1⟩
   go_simp; with_reducible rfl
  rotate_left
  ·simp only [Act.put, List.setIfInBounds_toArray, List.set_cons_zero, List.set_cons_succ, i64_w, i32_w]; rfl
  refine take_ (i := 3) (N := some 11) (v := ?_) (a' := ?_) #[true, true, true, true, false, true, false, false, false, false, false] rfl rfl (take_ofW HT_.out HW_.out kr_) (fun _ _ _ h => h) (Or.inl ⟨by rfl, ?_⟩) hHeld ?_ ?_
  rotate_left
  ·rintro w' ⟨s0, s1⟩
   go_simp; with_reducible rfl
  rotate_left
  ·simp only [Act.put, List.setIfInBounds_toArray, List.set_cons_zero, List.set_cons_succ, i64_w, i32_w]; rfl
  refine take_ (i := 6) (N := some 14) (v := ?_) (a' := ?_) #[true, true, true, true, false, true, true, false, false, false, false] rfl rfl (take_ofW HT_.out HW_.out kr_) (fun _ _ _ h => h) (Or.inl ⟨by rfl, ?_⟩) hHeld ?_ ?_
  rotate_left
  ·rintro w' ⟨s0, s1⟩
   go_simp; with_reducible rfl
  rotate_left
  ·simp only [Act.put, List.setIfInBounds_toArray, List.set_cons_zero, List.set_cons_succ, i64_w, i32_w]; rfl
  refine one_ (i := 4) (N := some 12) #[true, true, true, true, true, true, true, false, false, false, false] rfl rfl (one_of HT_.out kr_) (by decide) (fun K hK => ?_)
  refine goes_ Tryz.func52 kr_ rfl #[.int .i64 a0_0] (by rfl) rfl rfl q2_ ?_
  with_reducible refine (spec_l2Full.calls a0_0 t312 _ A4.out).mono ?_
  rintro e w' ⟨rfl, ⟨nd, rfl⟩⟩
  refine ⟨_, rfl, ?_⟩
  refine hK.out _ _ ⟨(blk_cell BK309.out 0).trans rfl, (blk_cell BK309.out 1).trans rfl⟩ (fun hHeld => ?_)
  clear hK K
  refine norm_ (a' := ?_) ?_ ?_
  rotate_left
  ·show Act.put _ (some 12) _ = _
   simp only [Act.put, List.setIfInBounds_toArray, List.set_cons_zero, List.set_cons_succ, i64_w, i32_w]; rfl
  refine pure_ (i := 7) (N := some 15) (v := ?_) (a' := ?_) #[true, true, true, true, true, true, true, true, false, false, false] rfl rfl (any_of HT_.out kr_) (fun _ _ _ h => h) (Or.inl ⟨by rfl, ?_⟩) ?_ ?_; rotate_left
  ·intro w'; go_simp; with_reducible rfl
  rotate_left
  ·simp only [Act.put, List.setIfInBounds_toArray, List.set_cons_zero, List.set_cons_succ, i64_w, i32_w]; rfl
  refine pure_ (i := 8) (N := some 16) (v := ?_) (a' := ?_) #[true, true, true, true, true, true, true, true, true, false, false] rfl rfl (any_of HT_.out kr_) (fun _ _ _ h => h) (Or.inl ⟨by rfl, ?_⟩) ?_ ?_; rotate_left
  ·intro w'; go_simp; with_reducible rfl
  rotate_left
  ·simp only [Act.put, List.setIfInBounds_toArray, List.set_cons_zero, List.set_cons_succ, i64_w, i32_w]; rfl
  refine one_ (i := 9) (N := none) #[true, true, true, true, true, true, true, true, true, true, false] rfl rfl (one_of HT_.out kr_) (by decide) (fun K hK => ?_)
  have hs11 := c20_ BK310
  have hfs11 := blk_frozen BK310.out 0
  have hns11_0 := NB309_310.out
  have hms11_0 := NB310_309.out
  have hs12 := c21_ BK310
  have hfs12 := blk_frozen BK310.out 1
  have hns12_0 := NB309_310.out
  have hms12_0 := NB310_309.out
  refine skip_ (w1 := ?_) (by rfl) rfl ?_ ?_
  rotate_left
  ·go_simp; rfl
  refine hK.out _ _ ⟨((cell_far (p := ⟨gb310, _, none⟩) NB309_310.out _).trans (((cell_far (p := ⟨gb310, _, none⟩) NB309_310.out _).trans (hHeld.1)))), ((cell_far (p := ⟨gb310, _, none⟩) NB309_310.out _).trans (((cell_far (p := ⟨gb310, _, none⟩) NB309_310.out _).trans (hHeld.2))))⟩ (fun hHeld => ?_)
  clear hK K; refine pure_ (i := 10) (N := some 3) (v := ?_) (a' := ?_) #[true, true, true, true, true, true, true, true, true, true, true] rfl rfl (any_of HT_.out kr_) (fun _ _ _ h => h) (Or.inl ⟨by rfl, ?_⟩) ?_ ?_; rotate_left
  ·intro w'; go_simp; with_reducible rfl
  rotate_left
  ·simp only [Act.put, List.setIfInBounds_toArray, List.set_cons_zero, List.set_cons_succ, i64_w, i32_w]; rfl
  refine done_ (done_of HT_.out kr_) ?_
  try go_wp2
  refine bodyPost_ret (results_ct rfl _ _ gb310 25 #[.int .i64 a0_0, .int .i64 (wrap64 (t312 - a0_1))] (0, 0) _ rfl (by (with_reducible repeat (first | refine blk_drewN ?_ _ | refine blk_drew ?_ | refine blk_alloc ?_ _)); refine blk_put (cs := #[.int .i64 a0_0, .int .i64 0]) ?_ 1 _ rfl; (with_reducible repeat (first | refine blk_drewN ?_ _ | refine blk_drew ?_ | refine blk_alloc ?_ _)); refine blk_put (cs := #[.int .i64 0, .int .i64 0]) ?_ 0 _ rfl; (with_reducible repeat (first | refine blk_drewN ?_ _ | refine blk_drew ?_ | refine blk_alloc ?_ _)); exact BK310.out) Tryz.underlying25 rfl kr_) rfl ?_
  exact ⟨q6_, q0_⟩
 ·replace c3 := Bool.eq_false_iff.mpr c3
  subst c3
  have H1 : (some (0, 0, false)) = some (r1, r2, r3) := by rw [if_neg (show ¬ (false = true) by decide)] at H; exact H
  clear H; have H := H1; clear H1
  simp only [Option.some.injEq, Prod.mk.injEq] at H
  obtain ⟨rfl, rfl, rfl⟩ := H
  go_enter Tryz.func12, Tryz.ntmps12
  go_wp2_with (first | ((with_reducible refine gate_dst (N := 1) rfl ?_); refine box_event ?hg (N := 1) ?hd (cs := #[.int .i64 a0_0, .int .i64 a0_1]) (t := 25) ?hr ?_; (case hd => rfl); (case hg => rfl); (case hr => first | (go_simp; done) | (go_simp; rfl)); intro gb309 hg w13 hbox hb; have BK309 := A_ (hbox); have GW309 := A_ ((by rw [hg]; exact (below_size q0_) : w.heap.size ≤ gb309)); have GE309 := A_ ((by rw [hg]; exact (below_size q0_) : w.heap.size ≤ gb309)); replace HB := A_ (below_step q0_ hb); clear hb hbox hg) | ((with_reducible refine gate_dst (N := 2) rfl ?_); refine box_event ?hg (N := 2) ?hd (cs := #[.int .i64 0, .int .i64 0]) (t := 25) ?hr ?_; (case hd => rfl); (case hg => rfl); (case hr => first | (go_simp; done) | (go_simp; rfl)); intro gb310 hg w14 hbox hb; have BK310 := A_ (hbox); have GW310 := A_ ((by rw [hg]; exact (below_size q0_) : w.heap.size ≤ gb310)); have GE310 := A_ ((by rw [hg]; exact (below_size q0_) : w.heap.size ≤ gb310)); replace HB := A_ (below_step q0_ hb); have NB309_310 := A_ ((by rw [hg]; exact Nat.ne_of_lt (blk_lt (M.Lb BK309)) : gb309 ≠ gb310)); have NB310_309 := A_ ((by rw [hg]; exact Nat.ne_of_gt (blk_lt (M.Lb BK309)) : gb310 ≠ gb309)); replace BK309 := A_ (blk_below (M.Lb BK309) hb); clear hb hbox hg; have hnb15 := NB309_310.out; have hnc15 := NB310_309.out; have hcz16_0 := c20_ BK309; have hcz16_1 := c21_ BK309; have hfz16_0 := blk_frozen BK309.out 0; have hfz16_1 := blk_frozen BK309.out 1) | ((with_reducible refine gate_callee (f := 44) rfl ?_); refine goesL_ (some 5) rfl rfl Tryz.func44 kr_ rfl #[.agg #[.int .i64 a0_0, .int .i64 a0_1]] rfl q2_ ?_; (with_reducible refine (spec_IsTable.calls a0_0 a0_1 false _ A2.out).mono ?_); rintro e w17 ⟨rfl, hb⟩; refine ⟨_, rfl, ?_⟩; replace BK309 := A_ (blk_below (M.Lb BK309) hb); replace BK310 := A_ (blk_below (M.Lb BK310) hb); replace HB := A_ (below_step q0_ hb); clear hb; have hcz18_0 := c20_ BK310; have hcz18_1 := c21_ BK310; have hfz18_0 := blk_frozen BK310.out 0; have hfz18_1 := blk_frozen BK310.out 1))
  refine bodyPost_ret (results_ct rfl _ _ gb310 25 #[.int .i64 0, .int .i64 0] (0, 0) _ rfl (by (with_reducible repeat (first | refine blk_drewN ?_ _ | refine blk_drew ?_ | refine blk_alloc ?_ _)); refine blk_put (cs := #[.int .i64 0, .int .i64 0]) ?_ 1 _ rfl; (with_reducible repeat (first | refine blk_drewN ?_ _ | refine blk_drew ?_ | refine blk_alloc ?_ _)); refine blk_put (cs := #[.int .i64 0, .int .i64 0]) ?_ 0 _ rfl; (with_reducible repeat (first | refine blk_drewN ?_ _ | refine blk_drew ?_ | refine blk_alloc ?_ _)); exact BK310.out) Tryz.underlying25 rfl kr_) rfl ?_
  exact ⟨q6_, q0_⟩
def impl_IsConstant.f (a0_0 : Int) (a0_1 : Int) : Option (Bool) := (impl_IsTable.f a0_0 a0_1).bind fun t314 => (if t314 = true then ((impl_Table_isSame.f a0_0 a0_1).bind fun t315 => (some t315)) else (some false))
theorem impl_IsConstant.calls (a0_0 : Int) (a0_1 : Int) (r : Bool) (w : World) (h : impl_IsConstant.f a0_0 a0_1 = some r) :
  Calls Tryz.prog 13 #[.agg #[.int .i64 a0_0, .int .i64 a0_1]] w fun e w' => e = .returned (.bool r) ∧ Below w.heap.size w w' := by
 have hu25 := Tryz.underlying25
 have HB := A_ (Below.refl w.heap.size w)
 have H : ((impl_IsTable.f a0_0 a0_1).bind fun t314 => (if t314 = true then ((impl_Table_isSame.f a0_0 a0_1).bind fun t315 => (some t315)) else (some false))) = some r := h
 clear h; replace H := Option.bind_eq_some_iff.mp H; obtain ⟨t314, A20, H⟩ := H; (try dsimp only at H); have A2 := A_ A20; clear A20
 by_cases c3 : t314 = true
 ·subst c3
  have H1 : ((impl_Table_isSame.f a0_0 a0_1).bind fun t315 => (some t315)) = some r := by rw [if_pos rfl] at H; exact H
  clear H; have H := H1; clear H1; replace H := Option.bind_eq_some_iff.mp H; obtain ⟨t315, A40, H⟩ := H
  replace H : (some t315) = some r := H
  have A4 := A_ A40; clear A40
  obtain rfl := Option.some.inj H
  go_enter Tryz.func13, Tryz.ntmps13
  go_wp2_with (first | ((with_reducible refine gate_dst (N := 1) rfl ?_); refine box_event ?hg (N := 1) ?hd (cs := #[.int .i64 a0_0, .int .i64 a0_1]) (t := 25) ?hr ?_; (case hd => rfl); (case hg => rfl); (case hr => first | (go_simp; done) | (go_simp; rfl)); intro gb313 hg w5 hbox hb; have BK313 := A_ (hbox); have GW313 := A_ ((by rw [hg]; exact (below_size q0_) : w.heap.size ≤ gb313)); have GE313 := A_ ((by rw [hg]; exact (below_size q0_) : w.heap.size ≤ gb313)); replace HB := A_ (below_step q0_ hb); clear hb hbox hg; have hcz6_0 := c20_ BK313; have hcz6_1 := c21_ BK313; have hfz6_0 := blk_frozen BK313.out 0; have hfz6_1 := blk_frozen BK313.out 1) | ((with_reducible refine gate_callee (f := 53) rfl ?_); refine goesL_ (some 4) rfl rfl Tryz.func53 kr_ rfl #[.agg #[.int .i64 a0_0, .int .i64 a0_1]] rfl q2_ ?_; (with_reducible refine (impl_IsTable.calls a0_0 a0_1 true _ A2.out).mono ?_); rintro e w7 ⟨rfl, hb⟩; refine ⟨_, rfl, ?_⟩; replace BK313 := A_ (blk_below (M.Lb BK313) hb); replace HB := A_ (below_step q0_ hb); clear hb; have hcz8_0 := c20_ BK313; have hcz8_1 := c21_ BK313; have hfz8_0 := blk_frozen BK313.out 0; have hfz8_1 := blk_frozen BK313.out 1) | (go_at_call 54; (with_reducible refine (impl_Table_isSame.calls a0_0 a0_1 t315 _ A4.out).mono ?_); rintro e w9 ⟨rfl, hb⟩; replace BK313 := A_ (blk_below (M.Lb BK313) hb); replace HB := A_ (below_step q0_ hb); clear hb))
  go_ret
  exact ⟨q6_, q0_⟩
 ·replace c3 := Bool.eq_false_iff.mpr c3
  subst c3
  have H1 : (some false) = some r := by rw [if_neg (show ¬ (false = true) by decide)] at H; exact H
  clear H; have H := H1; clear H1
  obtain rfl := Option.some.inj H
  go_enter Tryz.func13, Tryz.ntmps13
  go_wp2_with (first | ((with_reducible refine gate_dst (N := 1) rfl ?_); refine box_event ?hg (N := 1) ?hd (cs := #[.int .i64 a0_0, .int .i64 a0_1]) (t := 25) ?hr ?_; (case hd => rfl); (case hg => rfl); (case hr => first | (go_simp; done) | (go_simp; rfl)); intro gb313 hg w10 hbox hb; have BK313 := A_ (hbox); have GW313 := A_ ((by rw [hg]; exact (below_size q0_) : w.heap.size ≤ gb313)); have GE313 := A_ ((by rw [hg]; exact (below_size q0_) : w.heap.size ≤ gb313)); replace HB := A_ (below_step q0_ hb); clear hb hbox hg; have hcz11_0 := c20_ BK313; have hcz11_1 := c21_ BK313; have hfz11_0 := blk_frozen BK313.out 0; have hfz11_1 := blk_frozen BK313.out 1) | ((with_reducible refine gate_callee (f := 53) rfl ?_); refine goesL_ (some 4) rfl rfl Tryz.func53 kr_ rfl #[.agg #[.int .i64 a0_0, .int .i64 a0_1]] rfl q2_ ?_; (with_reducible refine (impl_IsTable.calls a0_0 a0_1 false _ A2.out).mono ?_); rintro e w12 ⟨rfl, hb⟩; refine ⟨_, rfl, ?_⟩; replace BK313 := A_ (blk_below (M.Lb BK313) hb); replace HB := A_ (below_step q0_ hb); clear hb))
  go_ret
  exact ⟨q6_, q0_⟩
end Go.Proofs.YtfoopehlmnejaaaGreatDoor.Print
namespace Go.Proofs.YtfoopehlmnejaaaGreatDoor.Print
open Go.RowKit Go.Proofs.YtfoopehlmnejaaaGreatDoorW.PrintWords Go.Proofs.YtfoopehlmnejaaaGreatDoorW.PrintLast Go.Proofs.YtfoopehlmnejaaaGreatDoorW.PrintMore
attribute [local go_sem] max2_int min2_int max_two min_two max_three min_three max_four min_four   -- for this text's walks alone
set_option linter.unusedVariables false
set_option linter.unusedSimpArgs false
open Go.Proofs.YtfoopehlmnejaaaGreatDoor.M
theorem impl_part_leaves.drew {base : Nat} {w : World} {T : Sh} {v : Value} (h : impl_readPart.Lies base w T v) (n : Nat) : impl_readPart.Lies base (w.drewN n) T v := h.below (pw_below_drewN (Below.refl _ _) n)
set_option maxHeartbeats 1600000 in
theorem impl_part_leaves.call {T : Sh} (hT : Fine T) : ∀ (base : Nat) (w : World) (b : Nat), T.nodes ≤ 1000000 → impl_readPart.Lies base w T (.pointer (some ⟨b, 0, none⟩)) → Calls Tryz.prog 55 #[.pointer (some ⟨b, 0, none⟩)] w fun e w' => e = .returned (.int .i64 ((T.leaves : Nat) : Int)) ∧ Drawn0 w w' := by
 induction hT with
 | leaf c =>
  intro base w b hn hl; obtain ⟨b', vl, vr, h0, h1, h2, h3, h4, h5, h6⟩ := hl
  obtain rfl : b = b' := by injection h1 with h1; injection h1 with h1; injection h1
  obtain rfl : vl = .pointer none := h5
  have A1 := A_ (fun nd => impl_part_isLeaf.yes b (w.drewN nd) h3)
  have A0 := A_ (impl_part_isLeaf.yes b w h3)
  clear hn h0 h1 h2 h3 h4 h6
  show Calls _ _ _ _ fun e w' => e = .returned (.int .i64 1) ∧ _
  go_enter Tryz.func55, Tryz.ntmps55
  go_wp2_with (first | (go_at_call 77; (with_reducible first | refine A0.out.mono ?_ | refine (A1.out _).mono ?_); rintro e w' ⟨rfl, ⟨nd, rfl⟩⟩))
  go_ret
  exact ⟨rfl, q5_⟩
 | one c l hF ih =>
  intro base w b hn hl
  rw [leaves_one c hF]
  obtain ⟨b', vl, vr, h0, h1, h2, h3, h4, h5, h6⟩ := hl
  obtain rfl : b = b' := by injection h1 with h1; injection h1 with h1; injection h1
  obtain ⟨b1, rfl⟩ := h5.fine hF
  obtain rfl : vr = .pointer none := h6
  have A0 := A_ (impl_part_isLeaf.no b b1 w h3)
  have C1 := A_ (fun W (hb : Below w.heap.size w W) => ih base W b1 (by simp [Sh.nodes] at hn; omega) (h5.below hb))
  generalize ((l.leaves : Nat) : Int) = R at C1 ⊢
  clear ih hn h0 h1 h2 h5
  go_enter Tryz.func55, Tryz.ntmps55
  go_wp2_with (first | (go_at_call 77; (with_reducible refine A0.out.mono ?_); rintro e w' ⟨rfl, ⟨nd, rfl⟩⟩) | (go_at_call 55; (with_reducible refine (C1.out _ ?side).mono ?_); (case side => repeat (first | exact Below.refl _ _ | apply pw_below_drewN)); rintro e w' ⟨rfl, ⟨nd2, rfl⟩⟩))
  go_ret
  exact ⟨rfl, q5_⟩
 | two c l r hF hF2 ih ih2 =>
  intro base w b hn hl
  rw [leaves_two c hF hF2]
  obtain ⟨b', vl, vr, h0, h1, h2, h3, h4, h5, h6⟩ := hl
  obtain rfl : b = b' := by injection h1 with h1; injection h1 with h1; injection h1
  obtain ⟨b1, rfl⟩ := h5.fine hF
  obtain ⟨b2, rfl⟩ := h6.fine hF2
  have hl1 := leaves_le hF
  have hl2 := leaves_le hF2
  have hn' : l.nodes + r.nodes ≤ 1000000 := by simp [Sh.nodes] at hn; omega
  have A0 := A_ (impl_part_isLeaf.no b b1 w h3)
  have C1 := A_ (fun W (hb : Below w.heap.size w W) => ih base W b1 (by omega) (h5.below hb))
  have C2 := A_ (fun W (hb : Below w.heap.size w W) => ih2 base W b2 (by omega) (h6.below hb))
  have e : wrap64 (((l.leaves : Nat) : Int) + ((r.leaves : Nat) : Int)) = ((l.leaves + r.leaves : Nat) : Int) := by rw [w64 (by omega) (by omega)]; omega
  rw [← e]
  generalize ((l.leaves : Nat) : Int) = R1 at C1 ⊢
  generalize ((r.leaves : Nat) : Int) = R2 at C2 ⊢
  clear ih ih2 hn h0 h1 h2 h5 h6 hl1 hl2 hn' e
  go_enter Tryz.func55, Tryz.ntmps55
  go_wp2_with (first | (go_at_call 77; (with_reducible refine A0.out.mono ?_); rintro e w' ⟨rfl, ⟨nd, rfl⟩⟩))
  repeat (go_quiet (first | (go_at_call 55; (with_reducible first | refine (C1.out _ ?side).mono ?_ | refine (C2.out _ ?side).mono ?_); (case side => repeat (first | exact Below.refl _ _ | apply pw_below_drewN)); rintro e w' ⟨rfl, ⟨nd2, rfl⟩⟩; (first | exact ⟨rfl, _, World.drewN_drewN _ _ _⟩ | exact ⟨rfl, _, Eq.trans (World.drewN_drewN _ _ _) (congrArg (World.drewN _) (Nat.add_assoc _ _ _))⟩))); try go_wp2)
  go_ret
  exact ⟨rfl, q5_⟩
end Go.Proofs.YtfoopehlmnejaaaGreatDoor.Print
namespace Go.Proofs.YtfoopehlmnejaaaGreatDoor.Print
open Go.RowKit Go.Proofs.YtfoopehlmnejaaaGreatDoorW.PrintWords Go.Proofs.YtfoopehlmnejaaaGreatDoorW.PrintLast Go.Proofs.YtfoopehlmnejaaaGreatDoorW.PrintMore
attribute [local go_sem] max2_int min2_int max_two min_two max_three min_three max_four min_four   -- for this text's walks alone
set_option linter.unusedVariables false
set_option linter.unusedSimpArgs false
open Go.Proofs.YtfoopehlmnejaaaGreatDoor.M
def impl_LeavesOf.f (a0 : ByteArray) : Option (Int) := some (match formOf a0 with | some T => ((T.leaves : Nat) : Int) | none => -1)
theorem impl_LeavesOf.form {S : ByteArray} {T : Sh} (h : formOf S = some T) : Fine T ∧ T.nodes ≤ 60 := by
 obtain ⟨h1, h2, h3⟩ := formOf_some h
 obtain ⟨a1, a2, a3, a4⟩ := rp_some h3
 exact ⟨a1, by omega⟩
theorem impl_LeavesOf.calls (a0 : ByteArray) (r : Int) (w : World) (h : impl_LeavesOf.f a0 = some r) : Calls Tryz.prog 14 #[.string a0] w fun e w' => e = .returned (.int .i64 r) ∧ Below w.heap.size w w' := by
 have h := Option.some.inj h
 have HC := impl_readFormula.call a0 w
 cases hq : formOf a0 with
 | none =>
  rw [hq] at h
  obtain rfl : r = -1 := h.symm
  have C1 : Aside0 (Calls Tryz.prog 47 #[.string a0] w fun e w' => ∃ v, e = .returned (.tuple #[v, .bool false]) ∧ Below w.heap.size w w') := ⟨HC.mono (by rw [hq]; rintro e W' ⟨⟨v, he⟩, hb⟩; exact ⟨v, he, hb⟩)⟩
  clear HC h hq
  go_enter Tryz.func14, Tryz.ntmps14
  go_wp2_with (first | (go_at_call 47; (with_reducible refine C1.out.mono ?_); rintro e w1 ⟨v1, rfl, hb1⟩))
  go_ret
  exact ⟨rfl, hb1⟩
 | some T =>
  rw [hq] at h
  obtain ⟨hT, hN⟩ := impl_LeavesOf.form hq
  obtain rfl : r = ((T.leaves : Nat) : Int) := h.symm
  have C1 : Aside0 (Calls Tryz.prog 47 #[.string a0] w fun e w' => ∃ b, e = .returned (.tuple #[.pointer (some ⟨b, 0, none⟩), .bool true]) ∧ impl_readPart.Lies w.heap.size w' T (.pointer (some ⟨b, 0, none⟩)) ∧ Below w.heap.size w w') := ⟨HC.mono (by rw [hq]; rintro e W' ⟨⟨b, he, hl⟩, hb⟩; exact ⟨b, he, hl, hb⟩)⟩
  have C2 := A_ (fun base w b hl => impl_part_leaves.call hT base w b (by omega) hl)
  generalize ((T.leaves : Nat) : Int) = R at *
  clear HC h hq hN hT
  go_enter Tryz.func14, Tryz.ntmps14
  go_wp2_with (first | (go_at_call 47; (with_reducible refine C1.out.mono ?_); rintro e w1 ⟨b1, rfl, hl1, hb1⟩; have L1 := A_ hl1; clear hl1) | (go_at_call 55; (with_reducible refine (C2.out w.heap.size _ b1 L1.out).mono ?_); rintro e w' ⟨rfl, ⟨nd2, rfl⟩⟩))
  go_ret
  exact ⟨rfl, pw_below_drewN hb1 _⟩
end Go.Proofs.YtfoopehlmnejaaaGreatDoor.Print
namespace Go.Proofs.YtfoopehlmnejaaaGreatDoor.Print
open Go.RowKit Go.Proofs.YtfoopehlmnejaaaGreatDoorW.PrintWords Go.Proofs.YtfoopehlmnejaaaGreatDoorW.PrintLast Go.Proofs.YtfoopehlmnejaaaGreatDoorW.PrintMore
attribute [local go_sem] max2_int min2_int max_two min_two max_three min_three max_four min_four   -- for this text's walks alone
set_option linter.unusedVariables false
set_option linter.unusedSimpArgs false
def impl_spread.f (a0 : Int) (a1 : Int) (a2 : Int) : Option (Int) := if 0 ≤ a1 then (some (Go.bits .or .i64 (Go.bits .or .i64 (wrap64 ((wrap64 (a0 - (Go.bits .and .i64 a0 (wrap64 ((shl .i64 1 a1) - 1))))) * 2)) (shl .i64 a2 a1)) (Go.bits .and .i64 a0 (wrap64 ((shl .i64 1 a1) - 1))))) else (none)
set_option maxHeartbeats 8000000 in
set_option maxRecDepth 100000 in
theorem impl_spread.calls (a0 : Int) (a1 : Int) (a2 : Int) (r : Int) (w : World) (h : impl_spread.f a0 a1 a2 = some r) :
  Calls Tryz.prog 94 #[.int .i64 a0, .int .i64 a1, .int .i64 a2] w fun e w' => e = .returned (.int .i64 r) ∧ Drawn0 w w' := by
 have H : (if 0 ≤ a1 then (some (Go.bits .or .i64 (Go.bits .or .i64 (wrap64 ((wrap64 (a0 - (Go.bits .and .i64 a0 (wrap64 ((shl .i64 1 a1) - 1))))) * 2)) (shl .i64 a2 a1)) (Go.bits .and .i64 a0 (wrap64 ((shl .i64 1 a1) - 1))))) else (none)) = some r := h
 clear h
 by_cases c4 : 0 ≤ a1
 ·rw [if_pos c4] at H
  have c4b0 := eq_true c4
  have c4b1 : decide (0 ≤ a1) = true := decide_eq_true c4
  clear c4
  obtain ⟨ji5, hji5⟩ : ∃ j_ : Int, (shl .i64 1 a1) = j_ := ⟨_, rfl⟩
  replace H : (some (Go.bits .or .i64 (Go.bits .or .i64 (wrap64 ((wrap64 (a0 - (Go.bits .and .i64 a0 (wrap64 ((ji5) - 1))))) * 2)) (shl .i64 a2 a1)) (Go.bits .and .i64 a0 (wrap64 ((ji5) - 1))))) = some r := q16_
  have hji5_ : (IntKind.i64.wrap (1 * 2 ^ min a1.toNat 64)) = ji5 := hji5
  have hji5z : a1 ≤ 64 → (IntKind.i64.wrap (1 * 2 ^ a1.toNat)) = ji5 := shl_small hji5
  have hji5u : (IntKind.i64.wrap (2 ^ min a1.toNat 64)) = ji5 := by have h_ := hji5_; rw [Int.one_mul] at h_; exact h_
  have hji5v : a1 ≤ 64 → (IntKind.i64.wrap (2 ^ a1.toNat)) = ji5 := fun hle_ => by have h_ := hji5z hle_; rw [Int.one_mul] at h_; exact h_
  have hji5y : (wrap64 (1 * 2 ^ min a1.toNat 64)) = ji5 := (i64_w _).symm.trans hji5_
  have hji5x : a1 ≤ 64 → (wrap64 (1 * 2 ^ a1.toNat)) = ji5 := fun h_ => (i64_w _).symm.trans (hji5z h_)
  have c6b0 := eq_true (of_decide_eq_true q8_ : 0 ≤ a1)
  obtain ⟨ji7, hji7⟩ : ∃ j_ : Int, (shl .i64 a2 a1) = j_ := ⟨_, rfl⟩
  replace H : (some (Go.bits .or .i64 (Go.bits .or .i64 (wrap64 ((wrap64 (a0 - (Go.bits .and .i64 a0 (wrap64 ((ji5) - 1))))) * 2)) (ji7)) (Go.bits .and .i64 a0 (wrap64 ((ji5) - 1))))) = some r := by first | (rw [hji7] at H; exact H) | (simp only [hji7] at H ⊢; exact H)
  have hji7_ : (IntKind.i64.wrap (a2 * 2 ^ min a1.toNat 64)) = ji7 := hji7
  have hji7z : a1 ≤ 64 → (IntKind.i64.wrap (a2 * 2 ^ a1.toNat)) = ji7 := shl_small hji7
  have hji7y : (wrap64 (a2 * 2 ^ min a1.toNat 64)) = ji7 := (i64_w _).symm.trans hji7_
  have hji7x : a1 ≤ 64 → (wrap64 (a2 * 2 ^ a1.toNat)) = ji7 := fun h_ => (i64_w _).symm.trans (hji7z h_)
  obtain rfl := Option.some.inj H
  go_enter Tryz.func94, Tryz.ntmps94
  go_wp2
  go_ret
  exact ⟨by first | rfl | (simp; done) | (simp only [← hji5, ← hji7] <;> (first | rfl | simp)) | (simp [*]; done), q5_⟩
 ·rw [if_neg c4] at H
  exact absurd H (by simp)
end Go.Proofs.YtfoopehlmnejaaaGreatDoor.Print
namespace Go.Proofs.YtfoopehlmnejaaaGreatDoor.Print
open Go.RowKit Go.Proofs.YtfoopehlmnejaaaGreatDoorW.PrintWords Go.Proofs.YtfoopehlmnejaaaGreatDoorW.PrintLast Go.Proofs.YtfoopehlmnejaaaGreatDoorW.PrintMore
attribute [local go_sem] max2_int min2_int max_two min_two max_three min_three max_four min_four   -- for this text's walks alone
set_option linter.unusedVariables false
set_option linter.unusedSimpArgs false
open Go.Proofs.YtfoopehlmnejaaaGreatDoor.M
def impl_Table_restrict.rS (w : World) (F I B : Nat) (n v i b : Int) (W : World) : Prop :=
 W.cell? ⟨F, 0, none⟩ = some (.int .i64 n) ∧ W.cell? ⟨F, 1, none⟩ = some (.int .i64 v) ∧ W.cell? ⟨I, 0, none⟩ = some (.int .i64 i) ∧ W.cell? ⟨B, 0, none⟩ = some (.int .i64 b) ∧ Below w.heap.size w W
theorem impl_Table_restrict.rS.step {w : World} {F I B : Nat} {n v i b : Int} {W W' : World} (hF : F < w.heap.size) (hI : I < w.heap.size) (hB : B < w.heap.size) (h : impl_Table_restrict.rS w F I B n v i b W) (hb : Below W.heap.size W W') : impl_Table_restrict.rS w F I B n v i b W' := by
 obtain ⟨h1, h2, h3, h4, h5⟩ := h
 have hs := h5.size
 exact ⟨(hb.cell (p := ⟨F, 0, none⟩) (by show F < _; omega)).trans h1, (hb.cell (p := ⟨F, 1, none⟩) (by show F < _; omega)).trans h2, (hb.cell (p := ⟨I, 0, none⟩) (by show I < _; omega)).trans h3, (hb.cell (p := ⟨B, 0, none⟩) (by show B < _; omega)).trans h4, h5.trans (hb.mono hs)⟩
set_option maxHeartbeats 800000 in
theorem impl_Table_restrict.clo (n v i b x y r : Int) (F I B : Nat) (w : World) (hF : F < w.heap.size) (hI : I < w.heap.size) (hB : B < w.heap.size)
  (f0 : w.cell? ⟨F, 0, none⟩ = some (.int .i64 n)) (f1 : w.cell? ⟨F, 1, none⟩ = some (.int .i64 v)) (fi : w.cell? ⟨I, 0, none⟩ = some (.int .i64 i)) (fb : w.cell? ⟨B, 0, none⟩ = some (.int .i64 b))
  (hs : impl_spread.f x i b = some y) (ha : impl_Table_at.f n v y = some r) :
  Calls Tryz.prog 93 #[.int .i64 x, .pointer (some ⟨F, 0, none⟩), .pointer (some ⟨I, 0, none⟩), .pointer (some ⟨B, 0, none⟩)] w fun e w' => e = .returned (.bool (r == 1)) ∧ Below w.heap.size w w' := by
 have A1 := A_ hs; have A2 := A_ ha; clear hs ha
 have huT := Tryz.underlying25
 go_enter Tryz.func93, Tryz.ntmps93
 go_wp2
 have h0 : impl_Table_restrict.rS w F I B n v i b w.drew := ⟨f0, f1, fi, fb, (Below.refl _ _).drew⟩
 go_region_held3 (fun W => W.cell? ⟨F, 0, none⟩ = some (.int .i64 n) ∧ W.cell? ⟨F, 1, none⟩ = some (.int .i64 v) ∧ W.cell? ⟨I, 0, none⟩ = some (.int .i64 i) ∧ W.cell? ⟨B, 0, none⟩ = some (.int .i64 b) ∧ Below w.heap.size w W) (first | exact h0 | (refine impl_Table_restrict.rS.step hF hI hB (by assumption) ?_; first | assumption | (refine Drawn0.below ?_; assumption) | exact Below.refl _ _))
  (first | (go_at_call 94; (with_reducible refine (impl_spread.calls x i b y _ A1.out).mono ?_); rintro e w' ⟨rfl, hd⟩) | (go_at_call 70; (with_reducible refine (impl_Table_at.calls n v y r _ A2.out).mono ?_); rintro e w' ⟨rfl, hb⟩))
 go_wp2
 go_ret
 exact ⟨rfl, (by assumption : _ ∧ _ ∧ _ ∧ _ ∧ _).2.2.2.2⟩
set_option maxHeartbeats 1600000 in
theorem impl_Table_restrict.aux (N M : Nat) (hN : N ≤ 5) (hM : M ≤ 32) (e10 : wrap64 ((2 : Int) ^ N) = (M : Int)) (g : Nat → Bool) (F I B : Nat) (w : World)
  (hc : ∀ (x : Nat) (W : World), x < M → Below w.heap.size w W → Calls Tryz.prog 93 #[.int .i64 (x : Int), .pointer (some ⟨F, 0, none⟩), .pointer (some ⟨I, 0, none⟩), .pointer (some ⟨B, 0, none⟩)] W fun e W' => e = .returned (.bool (g x)) ∧ Below W.heap.size W W') :
  Calls Tryz.prog 80 #[.int .i64 (N : Int), .func (.func 93) #[] #[.pointer (some ⟨F, 0, none⟩), .pointer (some ⟨I, 0, none⟩), .pointer (some ⟨B, 0, none⟩)]] w fun e w' => e = .returned (.agg #[.int .i64 (N : Int), .int .i64 ((prefW g M : Nat) : Int)]) ∧ Below w.heap.size w w' := by
 have huT := Tryz.underlying25
 have hH := A_ hc; clear hc
 have hS := A_ (impl_makeTable.I.start w N g)
 go_enter Tryz.func80, Tryz.ntmps80
 go_wp2
 rw [e10]
 clear e10
 go_loopw [11] (fun v11 wr => ∃ x : Nat, x ≤ M ∧ v11 = .int .i64 (x : Int) ∧ Aside0 (impl_makeTable.I w N g x wr)) (fun v11 _ => M - (intOf v11).toNat)
 case atStart => exact ⟨0, Nat.zero_le _, rfl, hS⟩
 case round =>
  obtain ⟨x, hx, rfl, HI⟩ := hrel; clear hS
  have c0 : wr.cell? ⟨w.heap.size, 0, none⟩ = some (.int .i64 0) := blk_cell HI.out.1 0
  have c1 : wr.cell? ⟨w.heap.size, 1, none⟩ = some (.int .i64 0) := blk_cell HI.out.1 1
  have z0 := blk_frozen HI.out.1 0
  have z1 := blk_frozen HI.out.1 1
  have d0 : wr.cell? ⟨w.heap.size + 1, 0, none⟩ = some (.int .i64 (N : Int)) := blk_cell HI.out.2.1 0
  have d1 : wr.cell? ⟨w.heap.size + 1, 1, none⟩ = some (.int .i64 ((prefW g x : Nat) : Int)) := blk_cell HI.out.2.1 1
  by_cases hlt : x < M
  ·have hC := A_ (hH.out x wr hlt HI.out.2.2)
   cases hg : g x with
   | false =>
    rw [hg] at hC
    have HG := A_ hg; clear hg
    go_wp2_with (first | (go_at_call 93; (with_reducible refine hC.out.mono ?_); rintro e w1 ⟨rfl, hb⟩))
    go_roundw
    case rel => exact ⟨x + 1, by omega, by go_num, ⟨(HI.out.call hb).skip HG.out⟩⟩
    case measure => simp [intOf]; omega
   | true =>
    rw [hg] at hC
    have HG := A_ hg; clear hg
    go_wp2_with (first | (go_at_call 93; (with_reducible refine hC.out.mono ?_); rintro e w1 ⟨rfl, hb⟩))
    have HI1 := A_ (HI.out.call hb)
    have d1' : w1.cell? ⟨w.heap.size + 1, 1, none⟩ = some (.int .i64 ((prefW g x : Nat) : Int)) := blk_cell HI1.out.2.1 1
    have z1' : w1.frozen? ⟨w.heap.size + 1, 1, none⟩ = false := blk_frozen HI1.out.2.1 1
    clear c0 c1 z0 z1 d0 d1
    go_region
    all_goals
     go_wp2
     go_roundw
     case rel =>
      refine ⟨x + 1, by omega, by go_num, ?_⟩
      ·exact ⟨(HI1.out.set HG.out (by omega) (by rw [show shl .i64 1 (x : Int) = wrap64 (2 ^ x) from by unfold shl; rw [min_bits (by omega), Int.one_mul, i64_w]])).drew⟩
     case measure => simp [intOf]; omega
  ·obtain rfl : x = M := by omega
   go_wp2
   exact bodyPost_ret (v := .agg #[.int .i64 (N : Int), .int .i64 ((prefW g x : Nat) : Int)]) (by simp [results, Tryz.results80, go_sem, c0, c1, d0, d1]) rfl ⟨rfl, (HI.out.2.2.setCell (p := ⟨w.heap.size, 0, none⟩) (Nat.le_refl _) _).setCell (p := ⟨w.heap.size, 1, none⟩) (Nat.le_refl _) _⟩
def impl_Table_restrict.f (a0_0 : Int) (a0_1 : Int) (a1 : Int) (a2 : Int) : Option (Int × Int) :=
 if 1 ≤ a0_0 ∧ a0_0 ≤ 5 ∧ 0 ≤ a0_1 ∧ a0_1 < 4294967296 ∧ 0 ≤ a1 ∧ a1 < a0_0 ∧ 0 ≤ a2 ∧ a2 ≤ 1 then some (a0_0 - 1, ((prefW (fun x => a0_1.toNat.testBit (ins x a1.toNat a2.toNat)) (2 ^ (a0_0.toNat - 1)) : Nat) : Int)) else none
theorem impl_Table_restrict.spread_ins : ∀ x : Nat, x < 16 → ∀ i : Nat, i < 5 → ∀ b : Nat, b < 2 → (impl_spread.f (x : Int) (i : Int) (b : Int) = some ((ins x i b : Nat) : Int) ∧ ins x i b < 32) :=
 allB_dec3 (P := fun x i b => impl_spread.f (x : Int) (i : Int) (b : Int) = some ((ins x i b : Nat) : Int) ∧ ins x i b < 32) (by decide +kernel)
theorem impl_Table_restrict.at_bit {n v y : Nat} (hv : v < 2 ^ 63) (hy : y ≤ 63) : impl_Table_at.f (n : Int) (v : Int) (y : Int) = some (((v.testBit y).toNat : Nat) : Int) := by
 unfold impl_Table_at.f
 rw [if_pos (Int.natCast_nonneg y), bit_nat hv (by omega)]
theorem impl_Table_restrict.mk (n v i b : Nat) (h1 : 1 ≤ n) (hn : n ≤ 5) (hv : v < 4294967296) (hi : i < n) (hb : b ≤ 1) (F I B : Nat) (w : World) (hF : F < w.heap.size) (hI : I < w.heap.size) (hB : B < w.heap.size)
  (f0 : w.cell? ⟨F, 0, none⟩ = some (.int .i64 (n : Int))) (f1 : w.cell? ⟨F, 1, none⟩ = some (.int .i64 (v : Int))) (fi : w.cell? ⟨I, 0, none⟩ = some (.int .i64 (i : Int))) (fb : w.cell? ⟨B, 0, none⟩ = some (.int .i64 (b : Int))) :
  Calls Tryz.prog 80 #[.int .i64 (((n - 1 : Nat) : Nat) : Int), .func (.func 93) #[] #[.pointer (some ⟨F, 0, none⟩), .pointer (some ⟨I, 0, none⟩), .pointer (some ⟨B, 0, none⟩)]] w fun e w' => e = .returned (.agg #[.int .i64 ((n - 1 : Nat) : Int), .int .i64 ((prefW (fun x => v.testBit (ins x i b)) (2 ^ (n - 1)) : Nat) : Int)]) ∧ Below w.heap.size w w' := by
 have h16 : 2 ^ (n - 1) ≤ 16 := by
  have := Nat.pow_le_pow_right (show 0 < 2 by decide) (show n - 1 ≤ 4 by omega)
  simpa using this
 have e10 : wrap64 ((2 : Int) ^ (n - 1)) = ((2 ^ (n - 1) : Nat) : Int) := by
  have : ((2 : Int) ^ (n - 1)) = ((2 ^ (n - 1) : Nat) : Int) := by push_cast; rfl
  rw [this]
  obtain ⟨P, hP⟩ : ∃ P, P = 2 ^ (n - 1) := ⟨_, rfl⟩
  rw [← hP] at h16 ⊢
  exact w64 (by omega) (by omega)
 refine impl_Table_restrict.aux (n - 1) (2 ^ (n - 1)) (by omega) (by omega) e10 _ F I B w (fun x W hx hb' => ?_)
 obtain ⟨hs, hy⟩ := impl_Table_restrict.spread_ins x (by omega) i (by omega) b (by omega)
 have hc := impl_Table_restrict.clo n v i b x ((ins x i b : Nat) : Int) (((v.testBit (ins x i b)).toNat : Nat) : Int) F I B W (Nat.lt_of_lt_of_le hF hb'.size) (Nat.lt_of_lt_of_le hI hb'.size) (Nat.lt_of_lt_of_le hB hb'.size)
  ((hb'.cell (p := ⟨F, 0, none⟩) hF).trans f0) ((hb'.cell (p := ⟨F, 1, none⟩) hF).trans f1) ((hb'.cell (p := ⟨I, 0, none⟩) hI).trans fi) ((hb'.cell (p := ⟨B, 0, none⟩) hB).trans fb) hs (impl_Table_restrict.at_bit (by omega) (by omega))
 rw [toNat_beq1] at hc
 exact hc
set_option maxHeartbeats 1600000 in
theorem impl_Table_restrict.nat (n v i b m : Nat) (h1 : 1 ≤ n) (hn : n ≤ 5) (hv : v < 4294967296) (hi : i < n) (hb : b ≤ 1) (w : World) (e1 : (n : Int) - 1 = (m : Int)) (hm : n - 1 = m) :
  Calls Tryz.prog 84 #[.agg #[.int .i64 (n : Int), .int .i64 (v : Int)], .int .i64 (i : Int), .int .i64 (b : Int)] w fun e w' => e = .returned (.agg #[.int .i64 (m : Int), .int .i64 ((prefW (fun x => v.testBit (ins x i b)) (2 ^ m) : Nat) : Int)]) ∧ Below w.heap.size w w' := by
 have huT := Tryz.underlying25
 have HC := A_ (impl_Table_restrict.mk n v i b h1 hn hv hi hb w.heap.size (w.heap.size + 1) (w.heap.size + 2) ((((w.alloc (.cells #[.int .i64 (n : Int), .int .i64 (v : Int)] 25)).alloc (.cells #[.int .i64 (i : Int)] 3)).alloc (.cells #[.int .i64 (b : Int)] 3)).alloc (.cells #[.int .i64 0, .int .i64 0] 25)) (by simp; omega) (by simp) (by simp) (by go_simp) (by go_simp) (by go_simp) (by go_simp))
 rw [hm] at HC
 have HR : Aside0 (((((w.alloc (.cells #[.int .i64 (n : Int), .int .i64 (v : Int)] 25)).alloc (.cells #[.int .i64 (i : Int)] 3)).alloc (.cells #[.int .i64 (b : Int)] 3)).alloc (.cells #[.int .i64 0, .int .i64 0] 25)).heap[w.heap.size + 1 + 1 + 1]? = some (.cells #[.int .i64 0, .int .i64 0] 25 (0, 0))) := ⟨by simpa using blk_new (((w.alloc (.cells #[.int .i64 (n : Int), .int .i64 (v : Int)] 25)).alloc (.cells #[.int .i64 (i : Int)] 3)).alloc (.cells #[.int .i64 (b : Int)] 3)) (.cells #[.int .i64 0, .int .i64 0] 25)⟩
 have HB : Aside0 (Below w.heap.size w ((((w.alloc (.cells #[.int .i64 (n : Int), .int .i64 (v : Int)] 25)).alloc (.cells #[.int .i64 (i : Int)] 3)).alloc (.cells #[.int .i64 (b : Int)] 3)).alloc (.cells #[.int .i64 0, .int .i64 0] 25))) := ⟨((((Below.refl _ _).alloc (Nat.le_refl _) _).alloc (by simp) _).alloc (by simp; omega) _).alloc (by simp; omega) _⟩
 clear hm hi hv
 go_enter Tryz.func84, Tryz.ntmps84
 go_wp2_with (first | (go_at_call 80; (with_reducible refine HC.out.mono ?_); rintro e w1 ⟨rfl, hb1⟩; have RB := A_ (blk_below HR.out hb1); have BB := A_ (HB.out.trans (hb1.mono HB.out.size)); clear hb1; have r0 : w1.cell? ⟨w.heap.size + 1 + 1 + 1, 0, none⟩ = some (.int .i64 0) := blk_cell RB.out 0; have r1 : w1.cell? ⟨w.heap.size + 1 + 1 + 1, 1, none⟩ = some (.int .i64 0) := blk_cell RB.out 1; have z0 := blk_frozen RB.out 0; have z1 := blk_frozen RB.out 1))
 exact bodyPost_ret (v := .agg #[.int .i64 (m : Int), .int .i64 ((prefW (fun x => v.testBit (ins x i b)) (2 ^ m) : Nat) : Int)]) (by simp [results, Tryz.results84, go_sem, r0, r1]) rfl ⟨rfl, (BB.out.setCell (p := ⟨w.heap.size + 1 + 1 + 1, 0, none⟩) (by show w.heap.size ≤ w.heap.size + 1 + 1 + 1; omega) _).setCell (p := ⟨w.heap.size + 1 + 1 + 1, 1, none⟩) (by show w.heap.size ≤ w.heap.size + 1 + 1 + 1; omega) _⟩
theorem impl_Table_restrict.calls (a0_0 : Int) (a0_1 : Int) (a1 : Int) (a2 : Int) (r1 : Int) (r2 : Int) (w : World) (h : impl_Table_restrict.f a0_0 a0_1 a1 a2 = some (r1, r2)) :
  Calls Tryz.prog 84 #[.agg #[.int .i64 a0_0, .int .i64 a0_1], .int .i64 a1, .int .i64 a2] w fun e w' => e = .returned (.agg #[.int .i64 r1, .int .i64 r2]) ∧ Below w.heap.size w w' := by
 unfold impl_Table_restrict.f at h
 by_cases hc : 1 ≤ a0_0 ∧ a0_0 ≤ 5 ∧ 0 ≤ a0_1 ∧ a0_1 < 4294967296 ∧ 0 ≤ a1 ∧ a1 < a0_0 ∧ 0 ≤ a2 ∧ a2 ≤ 1
 ·rw [if_pos hc] at h
  obtain ⟨c1, c2, c3, c4, c5, c6, c7, c8⟩ := hc
  obtain ⟨n, rfl⟩ := nat_of (show 0 ≤ a0_0 by omega)
  obtain ⟨v, rfl⟩ := nat_of c3
  obtain ⟨i, rfl⟩ := nat_of c5
  obtain ⟨b, rfl⟩ := nat_of c7
  have h2 := Option.some.inj h
  simp only [Prod.mk.injEq, Int.toNat_natCast] at h2
  obtain ⟨rfl, rfl⟩ := h2
  have e : ((n : Int) - 1) = ((n - 1 : Nat) : Int) := by omega
  rw [e]
  exact impl_Table_restrict.nat n v i b (n - 1) (by omega) (by omega) (by omega) (by omega) (by omega) w e rfl
 ·rw [if_neg hc] at h; cases h
end Go.Proofs.YtfoopehlmnejaaaGreatDoor.Print
namespace Go.Proofs.YtfoopehlmnejaaaGreatDoor.Print
open Go.RowKit Go.Proofs.YtfoopehlmnejaaaGreatDoorW.PrintWords Go.Proofs.YtfoopehlmnejaaaGreatDoorW.PrintLast Go.Proofs.YtfoopehlmnejaaaGreatDoorW.PrintMore
attribute [local go_sem] max2_int min2_int max_two min_two max_three min_three max_four min_four   -- for this text's walks alone
set_option linter.unusedVariables false
set_option linter.unusedSimpArgs false
set_option maxHeartbeats 8000000
set_option maxRecDepth 100000
private theorem sT_ {α : Type _} (l : List α) (i : Nat) (a : α) : l.toArray.setIfInBounds i a = (l.set i a).toArray := List.setIfInBounds_toArray ..
private theorem s0_ {α : Type _} {x y : α} {l : List α} : (x :: l).set 0 y = y :: l := rfl
private theorem s1_ {α : Type _} {x y : α} {l : List α} {n : Nat} : (x :: l).set (n + 1) y = x :: l.set n y := rfl
attribute [local go_sem high] eqA25
def impl_Table_depends.f (a0_0 : Int) (a0_1 : Int) (a1 : Int) : Option (Bool) := (impl_Table_restrict.f a0_0 a0_1 a1 0).bind fun bt317 => ((impl_Table_restrict.f a0_0 a0_1 a1 1).bind fun bt319 => (some (!(bt317.1 == bt319.1) || (!(bt317.2 == bt319.2)))))
def impl_Table_depends.T1 : Bool × List (List Nat × List Nat) := (true, [([], []), ([], []), ([0, 1], [0, 1]), ([], []), ([], []), ([3, 4, 2], [3, 4]), ([2, 5], [2, 5]), ([6, 5, 0, 1, 2, 3, 4, 5, 6], [6])])
def impl_Table_depends.B1 : List Nat := [0, 0, 3, 0, 0, 31, 63, 127]
theorem impl_Table_depends.tab1 : rtab .any (opsOf Tryz.f56 1) = impl_Table_depends.T1 := by kernel_rfl
theorem impl_Table_depends.bits1 : waitsOk impl_Table_depends.T1.2 impl_Table_depends.B1 = true := by kernel_rfl
theorem impl_Table_depends.calls (a0_0 : Int) (a0_1 : Int) (a1 : Int) (r : Bool) (w : World) (h : impl_Table_depends.f a0_0 a0_1 a1 = some r) :
  Calls Tryz.prog 56 #[.agg #[.int .i64 a0_0, .int .i64 a0_1], .int .i64 a1] w fun e w' => e = .returned (.bool r) ∧ Below w.heap.size w w' := by
 have hu25 := Tryz.underlying25
 have HB := A_ (Below.refl w.heap.size w)
 have H : ((impl_Table_restrict.f a0_0 a0_1 a1 0).bind fun bt317 => ((impl_Table_restrict.f a0_0 a0_1 a1 1).bind fun bt319 => (some (!(bt317.1 == bt319.1) || (!(bt317.2 == bt319.2)))))) = some r := h
 clear h; replace H := Option.bind_eq_some_iff.mp H; obtain ⟨⟨t317, t318⟩, A30, H⟩ := H; (try dsimp only at H); have A3 := A_ A30; clear A30; replace H := Option.bind_eq_some_iff.mp H; obtain ⟨⟨t319, t320⟩, A40, H⟩ := H
 replace H : (some (!(t317 == t319) || (!(t318 == t320)))) = some r := H
 have A4 := A_ A40; clear A40
 obtain rfl := Option.some.inj H
 go_enter Tryz.func56, Tryz.ntmps56
 try go_wp2_with (first | ((with_reducible refine gate_dst (N := 2) rfl ?_); refine box_event ?hg (N := 2) ?hd (cs := #[.int .i64 a0_0, .int .i64 a0_1]) (t := 25) ?hr ?_; (case hd => rfl); (case hg => rfl); (case hr => first | (go_simp; done) | (go_simp; rfl)); intro gb316 hg w5 hbox hb; have BK316 := A_ (hbox); have GW316 := A_ ((by rw [hg]; exact (below_size q0_) : w.heap.size ≤ gb316)); have GE316 := A_ ((by rw [hg]; exact (below_size q0_) : w.heap.size ≤ gb316)); replace HB := A_ (below_step q0_ hb); clear hb hbox hg))
 have n0_ := A_ (blk_drew BK316.out)
 have n1_ := A_ (below_drew1 HB.out)
 clear BK316; clear HB; have BK316 := n0_; have HB := n1_; clear n0_ n1_
 refine start_ (n := 8) (S := fun w' => w'.cell? ⟨gb316, 0, none⟩ = some (.int .i64 a0_0) ∧ w'.cell? ⟨gb316, 1, none⟩ = some (.int .i64 a0_1)) (ds := []) #[false, false, false, false, false, false, false, false] kr_ rfl rfl ⟨(blk_cell BK316.out 0).trans rfl, (blk_cell BK316.out 1).trans rfl⟩ (fun hHeld => ?_); refine with_tabW impl_Table_depends.tab1 impl_Table_depends.bits1 (fun HT_ HW_ => ?_)
 generalize w5.drew = w6 at BK316 HB hHeld ⊢
 refine pure_ (i := 1) (N := some 6) (v := ?_) (a' := ?_) #[false, true, false, false, false, false, false, false] rfl rfl (any_of HT_.out kr_) (fun _ _ _ h => h) (Or.inl ⟨by rfl, ?_⟩) ?_ ?_; rotate_left
 ·intro w'; go_simp; with_reducible rfl
 rotate_left
 ·simp only [Act.put, sT_, s0_, s1_, i64_w, i32_w]; rfl
 refine pure_ (i := 4) (N := some 9) (v := ?_) (a' := ?_) #[false, true, false, false, true, false, false, false] rfl rfl (any_of HT_.out kr_) (fun _ _ _ h => h) (Or.inl ⟨by rfl, ?_⟩) ?_ ?_; rotate_left
 ·intro w'; go_simp; with_reducible rfl
 rotate_left
 ·simp only [Act.put, sT_, s0_, s1_, i64_w, i32_w]; rfl
 refine take_ (i := 0) (N := some 5) (v := ?_) (a' := ?_) #[true, true, false, false, true, false, false, false] rfl rfl (take_ofW HT_.out HW_.out kr_) (fun _ _ _ h => h) (Or.inl ⟨by rfl, ?_⟩) hHeld ?_ ?_
 rotate_left
 ·rintro w' ⟨s0, s1⟩
  go_simp; with_reducible rfl
 rotate_left
 ·simp only [Act.put, sT_, s0_, s1_, i64_w, i32_w]; rfl
 refine take_ (i := 3) (N := some 8) (v := ?_) (a' := ?_) #[true, true, false, true, true, false, false, false] rfl rfl (take_ofW HT_.out HW_.out kr_) (fun _ _ _ h => h) (Or.inl ⟨by rfl, ?_⟩) hHeld ?_ ?_
 rotate_left
 ·rintro w' ⟨s0, s1⟩
  go_simp; with_reducible rfl
 rotate_left
 ·simp only [Act.put, sT_, s0_, s1_, i64_w, i32_w]; rfl
 refine one_ (i := 2) (N := some 7) #[true, true, true, true, true, false, false, false] rfl rfl (one_of HT_.out kr_) (by decide) (fun K hK => ?_)
 refine goes_ Tryz.func84 kr_ rfl #[.agg #[.int .i64 a0_0, .int .i64 a0_1], .int .i64 a1, .int .i64 0] (by rfl) rfl rfl q2_ ?_
 with_reducible refine (impl_Table_restrict.calls a0_0 a0_1 a1 0 t317 t318 _ A3.out).mono ?_
 rintro e w7 ⟨rfl, hb⟩
 refine ⟨_, rfl, ?_⟩
 have n0_ := A_ (blk_below (M.Lb BK316) hb)
 have n1_ := A_ (below_step q0_ hb)
 clear BK316; clear HB; have BK316 := n0_; have HB := n1_; clear n0_ n1_; clear hb
 refine hK.out _ _ ⟨(blk_cell BK316.out 0).trans rfl, (blk_cell BK316.out 1).trans rfl⟩ (fun hHeld => ?_)
 clear hK K
 refine norm_ (a' := ?_) ?_ ?_
 rotate_left
 ·show Act.put _ (some 7) _ = _
  simp only [Act.put, sT_, s0_, s1_, i64_w, i32_w]; rfl
 refine one_ (i := 5) (N := some 10) #[true, true, true, true, true, true, false, false] rfl rfl (one_of HT_.out kr_) (by decide) (fun K hK => ?_)
 refine goes_ Tryz.func84 kr_ rfl #[.agg #[.int .i64 a0_0, .int .i64 a0_1], .int .i64 a1, .int .i64 1] (by rfl) rfl rfl q2_ ?_
 with_reducible refine (impl_Table_restrict.calls a0_0 a0_1 a1 1 t319 t320 _ A4.out).mono ?_
 rintro e w8 ⟨rfl, hb⟩
 refine ⟨_, rfl, ?_⟩
 have n0_ := A_ (blk_below (M.Lb BK316) hb)
 have n1_ := A_ (below_step q0_ hb)
 clear BK316; clear HB; have BK316 := n0_; have HB := n1_; clear n0_ n1_; clear hb
 refine hK.out _ _ ⟨(blk_cell BK316.out 0).trans rfl, (blk_cell BK316.out 1).trans rfl⟩ (fun hHeld => ?_)
 clear hK K
 refine norm_ (a' := ?_) ?_ ?_
 rotate_left
 ·show Act.put _ (some 10) _ = _
  simp only [Act.put, sT_, s0_, s1_, i64_w, i32_w]; rfl
 refine pure_ (i := 6) (N := some 11) (v := ?_) (a' := ?_) #[true, true, true, true, true, true, true, false] rfl rfl (any_of HT_.out kr_) (fun _ _ _ h => h) (Or.inl ⟨by rfl, ?_⟩) ?_ ?_; rotate_left
 ·intro w'; go_simp; with_reducible rfl
 rotate_left
 ·simp only [Act.put, sT_, s0_, s1_, i64_w, i32_w]; rfl
 refine pure_ (i := 7) (N := some 4) (v := ?_) (a' := ?_) #[true, true, true, true, true, true, true, true] rfl rfl (any_of HT_.out kr_) (fun _ _ _ h => h) (Or.inl ⟨by rfl, ?_⟩) ?_ ?_; rotate_left
 ·intro w'; go_simp; with_reducible rfl
 rotate_left
 ·simp only [Act.put, sT_, s0_, s1_, i64_w, i32_w]; rfl
 refine done_ (done_of HT_.out kr_) ?_
 try go_wp2
 go_ret
 exact ⟨q6_, q0_⟩
def impl_VariablesOf.l0 : Nat → List Int → Int → Int → Int → Int → Option (List Int)
 | 0, _, _, _, _, _ => none
 | k + 1, x3, x9, x10, x322000, x322001 => if x10 < x9 then ((impl_Table_depends.f x322000 x322001 x10).bind fun t323 => (if t323 = true then (if x3.length < 17592186044416 then (impl_VariablesOf.l0 k (x3 ++ [x10]) x9 (wrap64 (x10 + 1)) x322000 x322001) else (none)) else (impl_VariablesOf.l0 k x3 x9 (wrap64 (x10 + 1)) x322000 x322001))) else (some x3)
def impl_VariablesOf.f (k : Nat) (a0_0 : Int) (a0_1 : Int) : Option (List Int) := (impl_IsTable.f a0_0 a0_1).bind fun t322 => (if t322 = true then (impl_VariablesOf.l0 k ([] : List Int) a0_0 0 a0_0 a0_1) else (some ([] : List Int)))
theorem impl_VariablesOf.calls (k : Nat) (a0_0 : Int) (a0_1 : Int) (r : List Int) (w : World) (h : impl_VariablesOf.f k a0_0 a0_1 = some r) :
  Calls Tryz.prog 15 #[.agg #[.int .i64 a0_0, .int .i64 a0_1]] w fun e w' => ∃ v0_ : Value, e = .returned (v0_) ∧ Kd.R (Kd.int .i64) 3 w' w.heap.size (fun _ => True) v0_ r ∧ Below w.heap.size w w' := by
 have hu25 := Tryz.underlying25
 have HB := A_ (Below.refl w.heap.size w)
 have H : ((impl_IsTable.f a0_0 a0_1).bind fun t322 => (if t322 = true then (impl_VariablesOf.l0 k ([] : List Int) a0_0 0 a0_0 a0_1) else (some ([] : List Int)))) = some r := h
 clear h; replace H := Option.bind_eq_some_iff.mp H; obtain ⟨t322, A20, H⟩ := H; (try dsimp only at H); have A2 := A_ A20; clear A20
 by_cases c3 : t322 = true
 ·subst c3
  have H1 : (impl_VariablesOf.l0 k ([] : List Int) a0_0 0 a0_0 a0_1) = some r := by rw [if_pos rfl] at H; exact H
  clear H; have H := H1; clear H1
  have H' := A_ H
  clear H
  go_enter Tryz.func15, Tryz.ntmps15
  go_wp2_with (first | ((with_reducible refine gate_dst (N := 1) rfl ?_); refine box_event ?hg (N := 1) ?hd (cs := #[.int .i64 a0_0, .int .i64 a0_1]) (t := 25) ?hr ?_; (case hd => rfl); (case hg => rfl); (case hr => first | (go_simp; done) | (go_simp; rfl)); intro gb321 hg w4 hbox hb; have BK321 := A_ (hbox); have GW321 := A_ ((by rw [hg]; exact (below_size q0_) : w.heap.size ≤ gb321)); have GE321 := A_ ((by rw [hg]; exact (below_size q0_) : w.heap.size ≤ gb321)); replace HB := A_ (below_step q0_ hb); clear hb hbox hg; have hcz5_0 := c20_ BK321; have hcz5_1 := c21_ BK321; have hfz5_0 := blk_frozen BK321.out 0; have hfz5_1 := blk_frozen BK321.out 1) | ((with_reducible refine gate_callee (f := 53) rfl ?_); refine goesL_ (some 6) rfl rfl Tryz.func53 kr_ rfl #[.agg #[.int .i64 a0_0, .int .i64 a0_1]] rfl q2_ ?_; (with_reducible refine (impl_IsTable.calls a0_0 a0_1 true _ A2.out).mono ?_); rintro e w6 ⟨rfl, hb⟩; refine ⟨_, rfl, ?_⟩; replace BK321 := A_ (blk_below (M.Lb BK321) hb); replace HB := A_ (below_step q0_ hb); clear hb; have hcz7_0 := c20_ BK321; have hcz7_1 := c21_ BK321; have hfz7_0 := blk_frozen BK321.out 0; have hfz7_1 := blk_frozen BK321.out 1))
  go_loopg [3, 10] k (fun kq v3 v10 w' => ∃ (x3_1 : List Int) (x10_1 : Int), v10 = .int .i64 x10_1 ∧ Aside0 (impl_VariablesOf.l0 kq x3_1 a0_0 x10_1 a0_0 a0_1 = some r) ∧ Aside0 (kq ≤ k) ∧ Aside0 (Kd.R (Kd.int .i64) 3 w' w.heap.size (fun _ => True) v3 x3_1) ∧ Aside0 (w'.heap[gb321]? = some (.cells #[.int .i64 a0_0, .int .i64 a0_1] 25 (0, 0))) ∧ Aside0 (Below w.heap.size w w'))
  case atStart => exact ⟨(([] : List Int)), (0), q1_, H', ⟨Nat.le_refl _⟩, ⟨q19_⟩, ⟨M.Lb BK321⟩, ⟨q0_⟩⟩
  case round =>
   clear H'; clear hcz5_0 hcz5_1 hcz7_0 hcz7_1 hfz5_0 hfz5_1 hfz7_0 hfz7_1; obtain ⟨x3_1, x10_1, rfl, HA, HK1, HO_3, BK321, HB⟩ := hrel
   cases gk with
   | zero => exact absurd HA.out (by simp [impl_VariablesOf.l0])
   | succ k1 =>
    have H := HA.out
    clear HA
    simp only [impl_VariablesOf.l0] at H
    by_cases c8 : x10_1 < a0_0
    ·rw [if_pos c8] at H
     have c8b0 : decide (x10_1 < a0_0) = true := decide_eq_true c8
     clear c8; replace H := Option.bind_eq_some_iff.mp H; obtain ⟨t323, A90, H⟩ := H; (try dsimp only at H); have A9 := A_ A90; clear A90
     by_cases c10 : t323 = true
     ·subst c10
      have H1 : (if x3_1.length < 17592186044416 then (impl_VariablesOf.l0 k1 (x3_1 ++ [x10_1]) a0_0 (wrap64 (x10_1 + 1)) a0_0 a0_1) else (none)) = some r := by rw [if_pos rfl] at H; exact H
      clear H; have H := H1; clear H1
      by_cases c11 : x3_1.length < 17592186044416
      ·rw [if_pos c11] at H; have LMc11 := A_ c11; clear c11
       obtain ⟨y324, hy324⟩ : ∃ y_ : List Int, y_ = (x3_1 ++ [x10_1]) := ⟨_, rfl⟩
       replace H : (impl_VariablesOf.l0 k1 y324 a0_0 (wrap64 (x10_1 + 1)) a0_0 a0_1) = some r := by first | (rw [hy324]; with_reducible exact H) | (have H2_ := (Option.bind_some _ _).symm.trans H; rw [hy324]; with_reducible exact H2_) | (have H2_ := (Option.bind_some _ _).symm.trans H; with_reducible exact H2_) | with_reducible exact H | (rw [hy324]; exact H) | exact H
       have Ny324 := A_ hy324; clear hy324
       have H' := A_ H
       clear H
       have hcz12_0 := c20_ BK321
       have hcz12_1 := c21_ BK321
       have hfz12_0 := blk_frozen BK321.out 0
       have hfz12_1 := blk_frozen BK321.out 1
       go_wp2_with (first | ((with_reducible refine gate_callee (f := 56) rfl ?_); refine goesL_ (some 15) rfl rfl Tryz.func56 kr_ rfl #[.agg #[.int .i64 a0_0, .int .i64 a0_1], .int .i64 x10_1] rfl q2_ ?_; (with_reducible refine (impl_Table_depends.calls a0_0 a0_1 x10_1 true _ A9.out).mono ?_); rintro e w13 ⟨rfl, hb⟩; refine ⟨_, rfl, ?_⟩; replace HO_3 := A_ (Kd.R_below (M.Lr HO_3) hb); replace BK321 := A_ (blk_below (M.Lb BK321) hb); replace HB := A_ (below_step q0_ hb); clear hb) | ((with_reducible refine gate_builtin (b := .append) (xs := #[.tmp 16, .tmp 18]) rfl ?_); at_builtin; refine Kd.R_append (Kd.int .i64) (w0 := w) w.heap.size rfl (.tmp 16) (.tmp 18) 37 3 (.int .i64 0) 8 rfl Tryz.underlying37 info3 rfl (by decide) (by omega) u3 x3_1 x10_1 [.int .i64 x10_1] (fun _ => True) (fun _ => False) rfl rfl ?aP (fun _ hk => hk.elim) ?aF ?aO ?aB ?aS ?aL ?_; (case aP => exact rfl); (case aB => exact q0_); (case aF => exact (fun _ _ => trivial)); (case aO => exact (M.Lr HO_3)); (case aS => exact (below_size q0_)); (case aL => have := LMc11.out; omega); intro v325 w14 ho hb hg hat; rw [← Ny324.out] at ho; replace BK321 := A_ (blk_grown (g := gb321) (o := .cells #[.int .i64 a0_0, .int .i64 a0_1] 25 (0, 0)) (M.Lb BK321) hg (Kd.R_ne HO_3.out BK321.out (by decide))); replace HB := A_ (hb); have HO326 := A_ (ho); clear HO_3; clear ho hb hg hat))
       go_roundg k1
       case measure => have := HK1.out; omega
       case rel => exact ⟨(y324), (wrap64 (x10_1 + 1)), q1_, H', ⟨by have := HK1.out; omega⟩, ⟨M.Lr HO326⟩, ⟨M.Lb BK321⟩, ⟨q0_⟩⟩
      ·rw [if_neg c11] at H
       exact absurd H (by simp)
     ·replace c10 := Bool.eq_false_iff.mpr c10
      subst c10
      have H1 : (impl_VariablesOf.l0 k1 x3_1 a0_0 (wrap64 (x10_1 + 1)) a0_0 a0_1) = some r := by rw [if_neg (show ¬ (false = true) by decide)] at H; exact H
      clear H; have H := H1; clear H1
      have H' := A_ H
      clear H
      have hcz15_0 := c20_ BK321
      have hcz15_1 := c21_ BK321
      have hfz15_0 := blk_frozen BK321.out 0
      have hfz15_1 := blk_frozen BK321.out 1
      go_wp2_with (first | ((with_reducible refine gate_callee (f := 56) rfl ?_); refine goesL_ (some 15) rfl rfl Tryz.func56 kr_ rfl #[.agg #[.int .i64 a0_0, .int .i64 a0_1], .int .i64 x10_1] rfl q2_ ?_; (with_reducible refine (impl_Table_depends.calls a0_0 a0_1 x10_1 false _ A9.out).mono ?_); rintro e w16 ⟨rfl, hb⟩; refine ⟨_, rfl, ?_⟩; replace HO_3 := A_ (Kd.R_below (M.Lr HO_3) hb); replace BK321 := A_ (blk_below (M.Lb BK321) hb); replace HB := A_ (below_step q0_ hb); clear hb))
      go_roundg k1
      case measure => have := HK1.out; omega
      case rel => exact ⟨(x3_1), (wrap64 (x10_1 + 1)), q1_, H', ⟨by have := HK1.out; omega⟩, ⟨M.Lr HO_3⟩, ⟨M.Lb BK321⟩, ⟨q0_⟩⟩
    ·rw [if_neg c8] at H
     have c8b0 : decide (x10_1 < a0_0) = false := decide_eq_false c8
     clear c8
     obtain rfl := Option.some.inj H
     go_wp2
     go_ret
     exact ⟨_, q6_, by (with_reducible repeat (first | apply Kd.R_alloc | apply Kd.R_drewN | apply Kd.R_drew)); exact HO_3.out, q0_⟩
 ·replace c3 := Bool.eq_false_iff.mpr c3
  subst c3
  have H1 : (some ([] : List Int)) = some r := by rw [if_neg (show ¬ (false = true) by decide)] at H; exact H
  clear H; have H := H1; clear H1
  obtain rfl := Option.some.inj H
  go_enter Tryz.func15, Tryz.ntmps15
  go_wp2_with (first | ((with_reducible refine gate_dst (N := 1) rfl ?_); refine box_event ?hg (N := 1) ?hd (cs := #[.int .i64 a0_0, .int .i64 a0_1]) (t := 25) ?hr ?_; (case hd => rfl); (case hg => rfl); (case hr => first | (go_simp; done) | (go_simp; rfl)); intro gb321 hg w17 hbox hb; have BK321 := A_ (hbox); have GW321 := A_ ((by rw [hg]; exact (below_size q0_) : w.heap.size ≤ gb321)); have GE321 := A_ ((by rw [hg]; exact (below_size q0_) : w.heap.size ≤ gb321)); replace HB := A_ (below_step q0_ hb); clear hb hbox hg; have hcz18_0 := c20_ BK321; have hcz18_1 := c21_ BK321; have hfz18_0 := blk_frozen BK321.out 0; have hfz18_1 := blk_frozen BK321.out 1) | ((with_reducible refine gate_callee (f := 53) rfl ?_); refine goesL_ (some 6) rfl rfl Tryz.func53 kr_ rfl #[.agg #[.int .i64 a0_0, .int .i64 a0_1]] rfl q2_ ?_; (with_reducible refine (impl_IsTable.calls a0_0 a0_1 false _ A2.out).mono ?_); rintro e w19 ⟨rfl, hb⟩; refine ⟨_, rfl, ?_⟩; replace BK321 := A_ (blk_below (M.Lb BK321) hb); replace HB := A_ (below_step q0_ hb); clear hb))
  go_ret
  exact ⟨_, q6_, q19_, q0_⟩
def impl_TableBound.f (k : Nat) (a0_0 : Int) (a0_1 : Int) : Option (Int) := (impl_isSmall.f a0_0 a0_1 4).bind fun t328 => (if t328 = true then ((impl_Table_not.f a0_0 a0_1).bind fun bt329 => ((impl_bound.f k a0_0 a0_1 bt329.2).bind fun t331 => (some t331))) else (some (-1)))
def impl_TableBound.T3 : Bool × List (List Nat × List Nat) := (true, [([], []), ([0], [0]), ([], []), ([2], [2]), ([], []), ([4], [4]), ([5], [5]), ([1, 3, 6, 5], [1, 3, 6]), ([7, 7, 0, 1, 2, 3, 4, 5, 6, 7], [7])])
def impl_TableBound.B3 : List Nat := [0, 1, 0, 4, 0, 16, 48, 127, 255]
theorem impl_TableBound.tab3 : rtab .any (opsOf Tryz.f16 3) = impl_TableBound.T3 := by kernel_rfl
theorem impl_TableBound.bits3 : waitsOk impl_TableBound.T3.2 impl_TableBound.B3 = true := by kernel_rfl
theorem impl_TableBound.calls (k : Nat) (a0_0 : Int) (a0_1 : Int) (r : Int) (w : World) (h : impl_TableBound.f k a0_0 a0_1 = some r) :
  Calls Tryz.prog 16 #[.agg #[.int .i64 a0_0, .int .i64 a0_1]] w fun e w' => e = .returned (.int .i64 r) ∧ Below w.heap.size w w' := by
 have hu25 := Tryz.underlying25
 have hfld25_1 : ∀ (x0 : Int) (x1 : Int) (W : World), (Instr.field 25 (.agg #[.int .i64 x0, .int .i64 x1]) 1).run Tryz.prog W = .ok (.int .i64 x1) W := fun _ _ _ => by kernel_rfl
 have HB := A_ (Below.refl w.heap.size w)
 have H : ((impl_isSmall.f a0_0 a0_1 4).bind fun t328 => (if t328 = true then ((impl_Table_not.f a0_0 a0_1).bind fun bt329 => ((impl_bound.f k a0_0 a0_1 bt329.2).bind fun t331 => (some t331))) else (some (-1)))) = some r := h
 clear h; replace H := Option.bind_eq_some_iff.mp H; obtain ⟨t328, A20, H⟩ := H; (try dsimp only at H); have A2 := A_ A20; clear A20
 by_cases c3 : t328 = true
 ·subst c3
  have H1 : ((impl_Table_not.f a0_0 a0_1).bind fun bt329 => ((impl_bound.f k a0_0 a0_1 bt329.2).bind fun t331 => (some t331))) = some r := by rw [if_pos rfl] at H; exact H
  clear H; have H := H1; clear H1; replace H := Option.bind_eq_some_iff.mp H; obtain ⟨⟨t329, t330⟩, A40, H⟩ := H
  replace H : ((impl_bound.f k a0_0 a0_1 t330).bind fun t331 => (some t331)) = some r := H
  have A4 := A_ A40; clear A40; replace H := Option.bind_eq_some_iff.mp H; obtain ⟨t331, A50, H⟩ := H
  replace H : (some t331) = some r := H
  have A5 := A_ A50; clear A50
  obtain rfl := Option.some.inj H
  go_enter Tryz.func16, Tryz.ntmps16
  try go_wp2_with (first | ((with_reducible refine gate_dst (N := 1) rfl ?_); refine box_event ?hg (N := 1) ?hd (cs := #[.int .i64 a0_0, .int .i64 a0_1]) (t := 25) ?hr ?_; (case hd => rfl); (case hg => rfl); (case hr => first | (go_simp; done) | (go_simp; rfl)); intro gb327 hg w6 hbox hb; have BK327 := A_ (hbox); have GW327 := A_ ((by rw [hg]; exact (below_size q0_) : w.heap.size ≤ gb327)); have GE327 := A_ ((by rw [hg]; exact (below_size q0_) : w.heap.size ≤ gb327)); replace HB := A_ (below_step q0_ hb); clear hb hbox hg; have hcz7_0 := c20_ BK327; have hcz7_1 := c21_ BK327; have hfz7_0 := blk_frozen BK327.out 0; have hfz7_1 := blk_frozen BK327.out 1) | ((with_reducible refine gate_callee (f := 41) rfl ?_); refine goesL_ (some 4) rfl rfl Tryz.func41 kr_ rfl #[.agg #[.int .i64 a0_0, .int .i64 a0_1], .int .i64 4] rfl q2_ ?_; (with_reducible refine (impl_isSmall.calls a0_0 a0_1 4 true _ A2.out).mono ?_); rintro e w8 ⟨rfl, hb⟩; refine ⟨_, rfl, ?_⟩; replace BK327 := A_ (blk_below (M.Lb BK327) hb); replace HB := A_ (below_step q0_ hb); clear hb))
  have n0_ := A_ (blk_drew BK327.out)
  have n1_ := A_ (below_drew1 HB.out)
  clear BK327; clear HB; have BK327 := n0_; have HB := n1_; clear n0_ n1_
  refine start_ (n := 9) (S := fun w' => w'.cell? ⟨gb327, 0, none⟩ = some (.int .i64 a0_0) ∧ w'.cell? ⟨gb327, 1, none⟩ = some (.int .i64 a0_1)) (ds := []) #[false, false, false, false, false, false, false, false, false] kr_ rfl rfl ⟨(blk_cell BK327.out 0).trans rfl, (blk_cell BK327.out 1).trans rfl⟩ (fun hHeld => ?_); refine with_tabW impl_TableBound.tab3 impl_TableBound.bits3 (fun HT_ HW_ => ?_)
  generalize w8.drew = w9 at BK327 HB hHeld ⊢
  refine pure_ (i := 0) (N := some 6) (v := ?_) (a' := ?_) #[true, false, false, false, false, false, false, false, false] rfl rfl (any_of HT_.out kr_) (fun _ _ _ h => h) (Or.inl ⟨by rfl, ?_⟩) ?_ ?_; rotate_left
  ·intro w'; go_simp; with_reducible rfl
  rotate_left
  ·simp only [Act.put, sT_, s0_, s1_, i64_w, i32_w]; rfl
  refine pure_ (i := 2) (N := some 8) (v := ?_) (a' := ?_) #[true, false, true, false, false, false, false, false, false] rfl rfl (any_of HT_.out kr_) (fun _ _ _ h => h) (Or.inl ⟨by rfl, ?_⟩) ?_ ?_; rotate_left
  ·intro w'; go_simp; with_reducible rfl
  rotate_left
  ·simp only [Act.put, sT_, s0_, s1_, i64_w, i32_w]; rfl
  refine take_ (i := 1) (N := some 7) (v := ?_) (a' := ?_) #[true, true, true, false, false, false, false, false, false] rfl rfl (take_ofW HT_.out HW_.out kr_) (fun _ _ _ h => h) (Or.inl ⟨by rfl, ?_⟩) hHeld ?_ ?_
  rotate_left
  ·rintro w' ⟨s0, s1⟩
   go_simp; with_reducible rfl
  rotate_left
  ·simp only [Act.put, sT_, s0_, s1_, i64_w, i32_w]; rfl
  refine take_ (i := 3) (N := some 9) (v := ?_) (a' := ?_) #[true, true, true, true, false, false, false, false, false] rfl rfl (take_ofW HT_.out HW_.out kr_) (fun _ _ _ h => h) (Or.inl ⟨by rfl, ?_⟩) hHeld ?_ ?_
  rotate_left
  ·rintro w' ⟨s0, s1⟩
   go_simp; with_reducible rfl
  rotate_left
  ·simp only [Act.put, sT_, s0_, s1_, i64_w, i32_w]; rfl
  refine take_ (i := 4) (N := some 10) (v := ?_) (a' := ?_) #[true, true, true, true, true, false, false, false, false] rfl rfl (take_ofW HT_.out HW_.out kr_) (fun _ _ _ h => h) (Or.inl ⟨by rfl, ?_⟩) hHeld ?_ ?_
  rotate_left
  ·rintro w' ⟨s0, s1⟩
   go_simp; with_reducible rfl
  rotate_left
  ·simp only [Act.put, sT_, s0_, s1_, i64_w, i32_w]; rfl
  refine one_ (i := 5) (N := some 11) #[true, true, true, true, true, true, false, false, false] rfl rfl (one_of HT_.out kr_) (by decide) (fun K hK => ?_)
  refine goes_ Tryz.func50 kr_ rfl #[.agg #[.int .i64 a0_0, .int .i64 a0_1]] (by rfl) rfl rfl q2_ ?_
  with_reducible refine (impl_Table_not.calls a0_0 a0_1 t329 t330 _ A4.out).mono ?_
  rintro e w10 ⟨rfl, hb⟩
  refine ⟨_, rfl, ?_⟩
  have n0_ := A_ (blk_below (M.Lb BK327) hb)
  have n1_ := A_ (below_step q0_ hb)
  clear BK327; clear HB; have BK327 := n0_; have HB := n1_; clear n0_ n1_; clear hb
  refine hK.out _ _ ⟨(blk_cell BK327.out 0).trans rfl, (blk_cell BK327.out 1).trans rfl⟩ (fun hHeld => ?_)
  clear hK K
  refine norm_ (a' := ?_) ?_ ?_
  rotate_left
  ·show Act.put _ (some 11) _ = _
   simp only [Act.put, sT_, s0_, s1_, i64_w, i32_w]; rfl
  refine pure_ (i := 6) (N := some 12) (v := ?_) (a' := ?_) #[true, true, true, true, true, true, true, false, false] rfl rfl (any_of HT_.out kr_) (fun _ _ _ h => h) (Or.inl ⟨by rfl, ?_⟩) ?_ ?_; rotate_left
  ·intro w'; go_simp; with_reducible rfl
  rotate_left
  ·simp only [Act.put, sT_, s0_, s1_, i64_w, i32_w]; rfl
  refine one_ (i := 7) (N := some 13) #[true, true, true, true, true, true, true, true, false] rfl rfl (one_of HT_.out kr_) (by decide) (fun K hK => ?_)
  refine goes_ Tryz.func51 kr_ rfl #[.int .i64 a0_0, .int .i64 a0_1, .int .i64 t330] (by rfl) rfl rfl q2_ ?_
  with_reducible refine (impl_bound.calls k a0_0 a0_1 t330 t331 _ A5.out).mono ?_
  rintro e w' ⟨rfl, ⟨nd, rfl⟩⟩
  refine ⟨_, rfl, ?_⟩
  refine hK.out _ _ ⟨(blk_cell BK327.out 0).trans rfl, (blk_cell BK327.out 1).trans rfl⟩ (fun hHeld => ?_)
  clear hK K
  refine norm_ (a' := ?_) ?_ ?_
  rotate_left
  ·show Act.put _ (some 13) _ = _
   simp only [Act.put, sT_, s0_, s1_, i64_w, i32_w]; rfl
  refine pure_ (i := 8) (N := some 2) (v := ?_) (a' := ?_) #[true, true, true, true, true, true, true, true, true] rfl rfl (any_of HT_.out kr_) (fun _ _ _ h => h) (Or.inl ⟨by rfl, ?_⟩) ?_ ?_; rotate_left
  ·intro w'; go_simp; with_reducible rfl
  rotate_left
  ·simp only [Act.put, sT_, s0_, s1_, i64_w, i32_w]; rfl
  refine done_ (done_of HT_.out kr_) ?_
  try go_wp2
  go_ret
  exact ⟨q6_, q0_⟩
 ·replace c3 := Bool.eq_false_iff.mpr c3
  subst c3
  have H1 : (some (-1)) = some r := by rw [if_neg (show ¬ (false = true) by decide)] at H; exact H
  clear H; have H := H1; clear H1
  obtain rfl := Option.some.inj H
  go_enter Tryz.func16, Tryz.ntmps16
  go_wp2_with (first | ((with_reducible refine gate_dst (N := 1) rfl ?_); refine box_event ?hg (N := 1) ?hd (cs := #[.int .i64 a0_0, .int .i64 a0_1]) (t := 25) ?hr ?_; (case hd => rfl); (case hg => rfl); (case hr => first | (go_simp; done) | (go_simp; rfl)); intro gb327 hg w11 hbox hb; have BK327 := A_ (hbox); have GW327 := A_ ((by rw [hg]; exact (below_size q0_) : w.heap.size ≤ gb327)); have GE327 := A_ ((by rw [hg]; exact (below_size q0_) : w.heap.size ≤ gb327)); replace HB := A_ (below_step q0_ hb); clear hb hbox hg; have hcz12_0 := c20_ BK327; have hcz12_1 := c21_ BK327; have hfz12_0 := blk_frozen BK327.out 0; have hfz12_1 := blk_frozen BK327.out 1) | ((with_reducible refine gate_callee (f := 41) rfl ?_); refine goesL_ (some 4) rfl rfl Tryz.func41 kr_ rfl #[.agg #[.int .i64 a0_0, .int .i64 a0_1], .int .i64 4] rfl q2_ ?_; (with_reducible refine (impl_isSmall.calls a0_0 a0_1 4 false _ A2.out).mono ?_); rintro e w13 ⟨rfl, hb⟩; refine ⟨_, rfl, ?_⟩; replace BK327 := A_ (blk_below (M.Lb BK327) hb); replace HB := A_ (below_step q0_ hb); clear hb))
  go_ret
  exact ⟨q6_, q0_⟩
def impl_IsSeparated.f (a0_0 : Int) (a0_1 : Int) (a1 : Int) (a2 : Int) : Option (Bool) := (impl_IsTable.f a0_0 a0_1).bind fun t333 => (if t333 = true then (if a1 ≥ 0 then (if a2 ≥ 0 then (if (Go.bits .andNot .i64 a1 a0_1) = 0 then ((impl_Table_not.f a0_0 a0_1).bind fun bt334 => (some ((Go.bits .andNot .i64 a2 bt334.2) == 0))) else (some false)) else (some false)) else (some false)) else (some false))
theorem impl_IsSeparated.calls (a0_0 : Int) (a0_1 : Int) (a1 : Int) (a2 : Int) (r : Bool) (w : World) (h : impl_IsSeparated.f a0_0 a0_1 a1 a2 = some r) :
  Calls Tryz.prog 17 #[.agg #[.int .i64 a0_0, .int .i64 a0_1], .int .i64 a1, .int .i64 a2] w fun e w' => e = .returned (.bool r) ∧ Below w.heap.size w w' := by
 have hu25 := Tryz.underlying25
 have hfld25_1 : ∀ (x0 : Int) (x1 : Int) (W : World), (Instr.field 25 (.agg #[.int .i64 x0, .int .i64 x1]) 1).run Tryz.prog W = .ok (.int .i64 x1) W := fun _ _ _ => by kernel_rfl
 have HB := A_ (Below.refl w.heap.size w)
 have H : ((impl_IsTable.f a0_0 a0_1).bind fun t333 => (if t333 = true then (if a1 ≥ 0 then (if a2 ≥ 0 then (if (Go.bits .andNot .i64 a1 a0_1) = 0 then ((impl_Table_not.f a0_0 a0_1).bind fun bt334 => (some ((Go.bits .andNot .i64 a2 bt334.2) == 0))) else (some false)) else (some false)) else (some false)) else (some false))) = some r := h
 clear h; replace H := Option.bind_eq_some_iff.mp H; obtain ⟨t333, A40, H⟩ := H; (try dsimp only at H); have A4 := A_ A40; clear A40
 by_cases c5 : t333 = true
 ·subst c5
  have H1 : (if a1 ≥ 0 then (if a2 ≥ 0 then (if (Go.bits .andNot .i64 a1 a0_1) = 0 then ((impl_Table_not.f a0_0 a0_1).bind fun bt334 => (some ((Go.bits .andNot .i64 a2 bt334.2) == 0))) else (some false)) else (some false)) else (some false)) = some r := by rw [if_pos rfl] at H; exact H
  clear H; have H := H1; clear H1
  by_cases c6 : a1 ≥ 0
  ·rw [if_pos c6] at H
   have c6b0 : decide (0 ≤ a1) = true := decide_eq_true c6
   clear c6
   by_cases c7 : a2 ≥ 0
   ·rw [if_pos c7] at H
    have c7b0 : decide (0 ≤ a2) = true := decide_eq_true c7
    clear c7
    by_cases c8 : (Go.bits .andNot .i64 a1 a0_1) = 0
    ·rw [if_pos c8] at H
     have c8b0 : ((Go.bits .andNot .i64 a1 a0_1) == 0) = true := beq_iff_eq.mpr c8
     have c8b1 : ((Go.bits .andNot .i64 a1 a0_1) != 0) = false := bne_eq_false_iff_eq.mpr c8
     clear c8; replace H := Option.bind_eq_some_iff.mp H; obtain ⟨⟨t334, t335⟩, A90, H⟩ := H
     replace H : (some ((Go.bits .andNot .i64 a2 t335) == 0)) = some r := H
     have A9 := A_ A90; clear A90
     obtain rfl := Option.some.inj H
     go_enter Tryz.func17, Tryz.ntmps17
     go_wp2_with (first | ((with_reducible refine gate_dst (N := 3) rfl ?_); refine box_event ?hg (N := 3) ?hd (cs := #[.int .i64 a0_0, .int .i64 a0_1]) (t := 25) ?hr ?_; (case hd => rfl); (case hg => rfl); (case hr => first | (go_simp; done) | (go_simp; rfl)); intro gb332 hg w10 hbox hb; have BK332 := A_ (hbox); have GW332 := A_ ((by rw [hg]; exact (below_size q0_) : w.heap.size ≤ gb332)); have GE332 := A_ ((by rw [hg]; exact (below_size q0_) : w.heap.size ≤ gb332)); replace HB := A_ (below_step q0_ hb); clear hb hbox hg; have hcz11_0 := c20_ BK332; have hcz11_1 := c21_ BK332; have hfz11_0 := blk_frozen BK332.out 0; have hfz11_1 := blk_frozen BK332.out 1) | ((with_reducible refine gate_callee (f := 53) rfl ?_); refine goesL_ (some 8) rfl rfl Tryz.func53 kr_ rfl #[.agg #[.int .i64 a0_0, .int .i64 a0_1]] rfl q2_ ?_; (with_reducible refine (impl_IsTable.calls a0_0 a0_1 true _ A4.out).mono ?_); rintro e w12 ⟨rfl, hb⟩; refine ⟨_, rfl, ?_⟩; replace BK332 := A_ (blk_below (M.Lb BK332) hb); replace HB := A_ (below_step q0_ hb); clear hb; have hcz13_0 := c20_ BK332; have hcz13_1 := c21_ BK332; have hfz13_0 := blk_frozen BK332.out 0; have hfz13_1 := blk_frozen BK332.out 1) | (go_at_call 50; (with_reducible refine (impl_Table_not.calls a0_0 a0_1 t334 t335 _ A9.out).mono ?_); rintro e w14 ⟨rfl, hb⟩; replace BK332 := A_ (blk_below (M.Lb BK332) hb); replace HB := A_ (below_step q0_ hb); clear hb))
     go_ret
     exact ⟨q6_, q0_⟩
    ·rw [if_neg c8] at H
     have c8b0 : ((Go.bits .andNot .i64 a1 a0_1) == 0) = false := beq_eq_false_iff_ne.mpr c8
     have c8b1 : ((Go.bits .andNot .i64 a1 a0_1) != 0) = true := bne_iff_ne.mpr c8
     obtain rfl := Option.some.inj H
     go_enter Tryz.func17, Tryz.ntmps17
     go_wp2_with (first | ((with_reducible refine gate_dst (N := 3) rfl ?_); refine box_event ?hg (N := 3) ?hd (cs := #[.int .i64 a0_0, .int .i64 a0_1]) (t := 25) ?hr ?_; (case hd => rfl); (case hg => rfl); (case hr => first | (go_simp; done) | (go_simp; rfl)); intro gb332 hg w15 hbox hb; have BK332 := A_ (hbox); have GW332 := A_ ((by rw [hg]; exact (below_size q0_) : w.heap.size ≤ gb332)); have GE332 := A_ ((by rw [hg]; exact (below_size q0_) : w.heap.size ≤ gb332)); replace HB := A_ (below_step q0_ hb); clear hb hbox hg; have hcz16_0 := c20_ BK332; have hcz16_1 := c21_ BK332; have hfz16_0 := blk_frozen BK332.out 0; have hfz16_1 := blk_frozen BK332.out 1) | ((with_reducible refine gate_callee (f := 53) rfl ?_); refine goesL_ (some 8) rfl rfl Tryz.func53 kr_ rfl #[.agg #[.int .i64 a0_0, .int .i64 a0_1]] rfl q2_ ?_; (with_reducible refine (impl_IsTable.calls a0_0 a0_1 true _ A4.out).mono ?_); rintro e w17 ⟨rfl, hb⟩; refine ⟨_, rfl, ?_⟩; replace BK332 := A_ (blk_below (M.Lb BK332) hb); replace HB := A_ (below_step q0_ hb); clear hb; have hcz18_0 := c20_ BK332; have hcz18_1 := c21_ BK332; have hfz18_0 := blk_frozen BK332.out 0; have hfz18_1 := blk_frozen BK332.out 1))
     go_ret
     exact ⟨q6_, q0_⟩
   ·rw [if_neg c7] at H
    have c7b0 : decide (0 ≤ a2) = false := decide_eq_false c7
    clear c7
    obtain rfl := Option.some.inj H
    go_enter Tryz.func17, Tryz.ntmps17
    go_wp2_with (first | ((with_reducible refine gate_dst (N := 3) rfl ?_); refine box_event ?hg (N := 3) ?hd (cs := #[.int .i64 a0_0, .int .i64 a0_1]) (t := 25) ?hr ?_; (case hd => rfl); (case hg => rfl); (case hr => first | (go_simp; done) | (go_simp; rfl)); intro gb332 hg w19 hbox hb; have BK332 := A_ (hbox); have GW332 := A_ ((by rw [hg]; exact (below_size q0_) : w.heap.size ≤ gb332)); have GE332 := A_ ((by rw [hg]; exact (below_size q0_) : w.heap.size ≤ gb332)); replace HB := A_ (below_step q0_ hb); clear hb hbox hg; have hcz20_0 := c20_ BK332; have hcz20_1 := c21_ BK332; have hfz20_0 := blk_frozen BK332.out 0; have hfz20_1 := blk_frozen BK332.out 1) | ((with_reducible refine gate_callee (f := 53) rfl ?_); refine goesL_ (some 8) rfl rfl Tryz.func53 kr_ rfl #[.agg #[.int .i64 a0_0, .int .i64 a0_1]] rfl q2_ ?_; (with_reducible refine (impl_IsTable.calls a0_0 a0_1 true _ A4.out).mono ?_); rintro e w21 ⟨rfl, hb⟩; refine ⟨_, rfl, ?_⟩; replace BK332 := A_ (blk_below (M.Lb BK332) hb); replace HB := A_ (below_step q0_ hb); clear hb))
    go_ret
    exact ⟨q6_, q0_⟩
  ·rw [if_neg c6] at H
   have c6b0 : decide (0 ≤ a1) = false := decide_eq_false c6
   clear c6
   obtain rfl := Option.some.inj H
   go_enter Tryz.func17, Tryz.ntmps17
   go_wp2_with (first | ((with_reducible refine gate_dst (N := 3) rfl ?_); refine box_event ?hg (N := 3) ?hd (cs := #[.int .i64 a0_0, .int .i64 a0_1]) (t := 25) ?hr ?_; (case hd => rfl); (case hg => rfl); (case hr => first | (go_simp; done) | (go_simp; rfl)); intro gb332 hg w22 hbox hb; have BK332 := A_ (hbox); have GW332 := A_ ((by rw [hg]; exact (below_size q0_) : w.heap.size ≤ gb332)); have GE332 := A_ ((by rw [hg]; exact (below_size q0_) : w.heap.size ≤ gb332)); replace HB := A_ (below_step q0_ hb); clear hb hbox hg; have hcz23_0 := c20_ BK332; have hcz23_1 := c21_ BK332; have hfz23_0 := blk_frozen BK332.out 0; have hfz23_1 := blk_frozen BK332.out 1) | ((with_reducible refine gate_callee (f := 53) rfl ?_); refine goesL_ (some 8) rfl rfl Tryz.func53 kr_ rfl #[.agg #[.int .i64 a0_0, .int .i64 a0_1]] rfl q2_ ?_; (with_reducible refine (impl_IsTable.calls a0_0 a0_1 true _ A4.out).mono ?_); rintro e w24 ⟨rfl, hb⟩; refine ⟨_, rfl, ?_⟩; replace BK332 := A_ (blk_below (M.Lb BK332) hb); replace HB := A_ (below_step q0_ hb); clear hb))
   go_ret
   exact ⟨q6_, q0_⟩
 ·replace c5 := Bool.eq_false_iff.mpr c5
  subst c5
  have H1 : (some false) = some r := by rw [if_neg (show ¬ (false = true) by decide)] at H; exact H
  clear H; have H := H1; clear H1
  obtain rfl := Option.some.inj H
  go_enter Tryz.func17, Tryz.ntmps17
  go_wp2_with (first | ((with_reducible refine gate_dst (N := 3) rfl ?_); refine box_event ?hg (N := 3) ?hd (cs := #[.int .i64 a0_0, .int .i64 a0_1]) (t := 25) ?hr ?_; (case hd => rfl); (case hg => rfl); (case hr => first | (go_simp; done) | (go_simp; rfl)); intro gb332 hg w25 hbox hb; have BK332 := A_ (hbox); have GW332 := A_ ((by rw [hg]; exact (below_size q0_) : w.heap.size ≤ gb332)); have GE332 := A_ ((by rw [hg]; exact (below_size q0_) : w.heap.size ≤ gb332)); replace HB := A_ (below_step q0_ hb); clear hb hbox hg; have hcz26_0 := c20_ BK332; have hcz26_1 := c21_ BK332; have hfz26_0 := blk_frozen BK332.out 0; have hfz26_1 := blk_frozen BK332.out 1) | ((with_reducible refine gate_callee (f := 53) rfl ?_); refine goesL_ (some 8) rfl rfl Tryz.func53 kr_ rfl #[.agg #[.int .i64 a0_0, .int .i64 a0_1]] rfl q2_ ?_; (with_reducible refine (impl_IsTable.calls a0_0 a0_1 false _ A4.out).mono ?_); rintro e w27 ⟨rfl, hb⟩; refine ⟨_, rfl, ?_⟩; replace BK332 := A_ (blk_below (M.Lb BK332) hb); replace HB := A_ (below_step q0_ hb); clear hb))
  go_ret
  exact ⟨q6_, q0_⟩
def impl_isSet.f (a0 : Int) (a1 : Int) : Option (Bool) := if a1 ≥ 0 then (if 0 ≤ a0 then (some ((shr .i64 a1 (shl .u64 1 a0)) == 0)) else (none)) else (some false)
theorem impl_isSet.calls (a0 : Int) (a1 : Int) (r : Bool) (w : World) (h : impl_isSet.f a0 a1 = some r) :
  Calls Tryz.prog 85 #[.int .i64 a0, .int .i64 a1] w fun e w' => e = .returned (.bool r) ∧ Drawn0 w w' := by
 have H : (if a1 ≥ 0 then (if 0 ≤ a0 then (some ((shr .i64 a1 (shl .u64 1 a0)) == 0)) else (none)) else (some false)) = some r := h
 clear h
 by_cases c3 : a1 ≥ 0
 ·rw [if_pos c3] at H
  have c3b0 : decide (0 ≤ a1) = true := decide_eq_true c3
  clear c3
  by_cases c4 : 0 ≤ a0
  ·rw [if_pos c4] at H
   have c4b0 := eq_true c4
   have c4b1 : decide (0 ≤ a0) = true := decide_eq_true c4
   clear c4
   obtain ⟨ji5, hji5⟩ : ∃ j_ : Int, (shl .u64 1 a0) = j_ := ⟨_, rfl⟩
   replace H : (some ((shr .i64 a1 (ji5)) == 0)) = some r := q16_
   have hji5_ : (IntKind.u64.wrap (1 * 2 ^ min a0.toNat 64)) = ji5 := hji5
   have hji5z : a0 ≤ 64 → (IntKind.u64.wrap (1 * 2 ^ a0.toNat)) = ji5 := shl_small hji5
   have hji5n0 : 0 ≤ ji5 := by rw [← hji5]; exact shl_u_nn _ _
   have hji5n1 := eq_true hji5n0
   have hji5n2 : decide (0 ≤ ji5) = true := decide_eq_true hji5n0
   have hji5u : (IntKind.u64.wrap (2 ^ min a0.toNat 64)) = ji5 := by have h_ := hji5_; rw [Int.one_mul] at h_; exact h_
   have hji5v : a0 ≤ 64 → (IntKind.u64.wrap (2 ^ a0.toNat)) = ji5 := fun hle_ => by have h_ := hji5z hle_; rw [Int.one_mul] at h_; exact h_
   obtain ⟨ji6, hji6⟩ : ∃ j_ : Int, (shr .i64 a1 (ji5)) = j_ := ⟨_, rfl⟩
   replace H : (some ((ji6) == 0)) = some r := by first | (rw [hji6] at H; exact H) | (simp only [hji6] at H ⊢; exact H)
   have hji6_ : (a1 / 2 ^ min (ji5).toNat 64) = ji6 := hji6
   have hji6z : (ji5) ≤ 64 → (a1 / 2 ^ (ji5).toNat) = ji6 := shr_small hji6
   obtain rfl := Option.some.inj H
   go_enter Tryz.func85, Tryz.ntmps85
   go_wp2
   go_ret
   exact ⟨by first | rfl | (simp; done) | (simp only [← hji5, ← hji6] <;> (first | rfl | simp)) | (simp [*]; done), q5_⟩
  ·rw [if_neg c4] at H
   exact absurd H (by simp)
 ·rw [if_neg c3] at H
  have c3b0 : decide (0 ≤ a1) = false := decide_eq_false c3
  clear c3
  obtain rfl := Option.some.inj H
  go_enter Tryz.func85, Tryz.ntmps85
  go_wp2
  go_ret
  exact ⟨q1_, q5_⟩
def impl_areSets.f (a0 : Int) (a1 : Int) (a2 : Int) : Option (Bool) := if a0 ≥ 0 then (if a0 ≤ 4 then ((impl_isSet.f a0 a1).bind fun t336 => (if t336 = true then ((impl_isSet.f a0 a2).bind fun t337 => (some t337)) else (some false))) else (some false)) else (some false)
theorem impl_areSets.calls (a0 : Int) (a1 : Int) (a2 : Int) (r : Bool) (w : World) (h : impl_areSets.f a0 a1 a2 = some r) :
  Calls Tryz.prog 57 #[.int .i64 a0, .int .i64 a1, .int .i64 a2] w fun e w' => e = .returned (.bool r) ∧ Drawn0 w w' := by
 have H : (if a0 ≥ 0 then (if a0 ≤ 4 then ((impl_isSet.f a0 a1).bind fun t336 => (if t336 = true then ((impl_isSet.f a0 a2).bind fun t337 => (some t337)) else (some false))) else (some false)) else (some false)) = some r := h
 clear h
 by_cases c4 : a0 ≥ 0
 ·rw [if_pos c4] at H
  have c4b0 : decide (0 ≤ a0) = true := decide_eq_true c4
  clear c4
  by_cases c5 : a0 ≤ 4
  ·rw [if_pos c5] at H
   have c5b0 : decide (a0 ≤ 4) = true := decide_eq_true c5
   clear c5; replace H := Option.bind_eq_some_iff.mp H; obtain ⟨t336, A60, H⟩ := H
   replace H : (if t336 = true then ((impl_isSet.f a0 a2).bind fun t337 => (some t337)) else (some false)) = some r := H
   have A6 := A_ A60; clear A60
   by_cases c7 : t336 = true
   ·subst c7
    have H1 : ((impl_isSet.f a0 a2).bind fun t337 => (some t337)) = some r := by rw [if_pos rfl] at H; exact H
    clear H; have H := H1; clear H1; replace H := Option.bind_eq_some_iff.mp H; obtain ⟨t337, A80, H⟩ := H
    replace H : (some t337) = some r := H
    have A8 := A_ A80; clear A80
    obtain rfl := Option.some.inj H
    go_enter Tryz.func57, Tryz.ntmps57
    go_wp2_with (first | (go_at_call 85; (with_reducible refine (impl_isSet.calls a0 a1 true _ A6.out).mono ?_); rintro e w' ⟨rfl, ⟨nd, rfl⟩⟩) | (go_at_call 85; (with_reducible refine (impl_isSet.calls a0 a2 t337 _ A8.out).mono ?_); rintro e w' ⟨rfl, ⟨nd, rfl⟩⟩))
    go_ret
    exact ⟨q1_, q5_⟩
   ·replace c7 := Bool.eq_false_iff.mpr c7
    subst c7
    have H1 : (some false) = some r := by rw [if_neg (show ¬ (false = true) by decide)] at H; exact H
    clear H; have H := H1; clear H1
    obtain rfl := Option.some.inj H
    go_enter Tryz.func57, Tryz.ntmps57
    go_wp2_with (first | (go_at_call 85; (with_reducible refine (impl_isSet.calls a0 a1 false _ A6.out).mono ?_); rintro e w' ⟨rfl, ⟨nd, rfl⟩⟩))
    go_ret
    exact ⟨q1_, q5_⟩
  ·rw [if_neg c5] at H
   have c5b0 : decide (a0 ≤ 4) = false := decide_eq_false c5
   clear c5
   obtain rfl := Option.some.inj H
   go_enter Tryz.func57, Tryz.ntmps57
   go_wp2
   go_ret
   exact ⟨q1_, q5_⟩
 ·rw [if_neg c4] at H
  have c4b0 : decide (0 ≤ a0) = false := decide_eq_false c4
  clear c4
  obtain rfl := Option.some.inj H
  go_enter Tryz.func57, Tryz.ntmps57
  go_wp2
  go_ret
  exact ⟨q1_, q5_⟩
def impl_PairBound.f (k : Nat) (a0 : Int) (a1 : Int) (a2 : Int) : Option (Int) := (impl_areSets.f a0 a1 a2).bind fun t338 => (if t338 = true then ((impl_bound.f k a0 a1 a2).bind fun t339 => (some t339)) else (some (-1)))
theorem impl_PairBound.calls (k : Nat) (a0 : Int) (a1 : Int) (a2 : Int) (r : Int) (w : World) (h : impl_PairBound.f k a0 a1 a2 = some r) :
  Calls Tryz.prog 18 #[.int .i64 a0, .int .i64 a1, .int .i64 a2] w fun e w' => e = .returned (.int .i64 r) ∧ Drawn0 w w' := by
 have H : ((impl_areSets.f a0 a1 a2).bind fun t338 => (if t338 = true then ((impl_bound.f k a0 a1 a2).bind fun t339 => (some t339)) else (some (-1)))) = some r := h
 clear h; replace H := Option.bind_eq_some_iff.mp H; obtain ⟨t338, A40, H⟩ := H; (try dsimp only at H); have A4 := A_ A40; clear A40
 by_cases c5 : t338 = true
 ·subst c5
  have H1 : ((impl_bound.f k a0 a1 a2).bind fun t339 => (some t339)) = some r := by rw [if_pos rfl] at H; exact H
  clear H; have H := H1; clear H1; replace H := Option.bind_eq_some_iff.mp H; obtain ⟨t339, A60, H⟩ := H
  replace H : (some t339) = some r := H
  have A6 := A_ A60; clear A60
  obtain rfl := Option.some.inj H
  go_enter Tryz.func18, Tryz.ntmps18
  go_wp2_with (first | ((with_reducible refine gate_callee (f := 57) rfl ?_); refine goesL_ (some 10) rfl rfl Tryz.func57 kr_ rfl #[.int .i64 a0, .int .i64 a1, .int .i64 a2] rfl q2_ ?_; (with_reducible refine (impl_areSets.calls a0 a1 a2 true _ A4.out).mono ?_); rintro e w' ⟨rfl, ⟨nd, rfl⟩⟩; refine ⟨_, rfl, ?_⟩) | ((with_reducible refine gate_callee (f := 51) rfl ?_); refine goesL_ (some 15) rfl rfl Tryz.func51 kr_ rfl #[.int .i64 a0, .int .i64 a1, .int .i64 a2] rfl q2_ ?_; (with_reducible refine (impl_bound.calls k a0 a1 a2 t339 _ A6.out).mono ?_); rintro e w' ⟨rfl, ⟨nd, rfl⟩⟩; refine ⟨_, rfl, ?_⟩))
  go_ret
  exact ⟨q1_, q5_⟩
 ·replace c5 := Bool.eq_false_iff.mpr c5
  subst c5
  have H1 : (some (-1)) = some r := by rw [if_neg (show ¬ (false = true) by decide)] at H; exact H
  clear H; have H := H1; clear H1
  obtain rfl := Option.some.inj H
  go_enter Tryz.func18, Tryz.ntmps18
  go_wp2_with (first | ((with_reducible refine gate_callee (f := 57) rfl ?_); refine goesL_ (some 10) rfl rfl Tryz.func57 kr_ rfl #[.int .i64 a0, .int .i64 a1, .int .i64 a2] rfl q2_ ?_; (with_reducible refine (impl_areSets.calls a0 a1 a2 false _ A4.out).mono ?_); rintro e w' ⟨rfl, ⟨nd, rfl⟩⟩; refine ⟨_, rfl, ?_⟩))
  go_ret
  exact ⟨q1_, q5_⟩
def spec_DrawSizesOf.f (k : Nat) (l0 : List Int) : Option (Int) := (spec_l1New.f k l0).bind fun bt340 => ((spec_l1Below.f bt340.1 bt340.2.1 bt340.2.2 6).bind fun bt344 => (some (wrap64 (bt344.1 - 1))))
theorem spec_DrawSizesOf.calls (k : Nat) (A0 : Option Addr) (c0 : Nat) (l0 : List Int) (r : Int) (w : World) (hr0 : Kd.C (Kd.int .u8) w A0 l0.length l0) (hc0 : l0.length ≤ c0) (h : spec_DrawSizesOf.f k l0 = some r) :
  Calls Tryz.prog 19 #[.slice A0 l0.length c0] w fun e w' => e = .returned (.int .i64 r) ∧ Below w.heap.size w w' := by
 have HR0 := A_ hr0; have HC0 := A_ hc0; clear hr0 hc0
 have HB := A_ (Below.refl w.heap.size w)
 have H : ((spec_l1New.f k l0).bind fun bt340 => ((spec_l1Below.f bt340.1 bt340.2.1 bt340.2.2 6).bind fun bt344 => (some (wrap64 (bt344.1 - 1))))) = some r := h
 clear h; replace H := Option.bind_eq_some_iff.mp H; obtain ⟨⟨t340, t341, t342⟩, A20, H⟩ := H
 replace H : ((spec_l1Below.f t340 t341 t342 6).bind fun bt344 => (some (wrap64 (bt344.1 - 1)))) = some r := H
 have A2 := A_ A20; clear A20; replace H := Option.bind_eq_some_iff.mp H; obtain ⟨⟨t344, t345, t346⟩, A30, H⟩ := H
 replace H : (some (wrap64 (t344 - 1))) = some r := H
 have A3 := A_ A30; clear A30
 obtain rfl := Option.some.inj H
 go_enter Tryz.func19, Tryz.ntmps19
 go_wp2_with (first | ((with_reducible refine gate_callee (f := 40) rfl ?_); refine goesL_ (some 4) rfl rfl Tryz.func40 kr_ rfl #[.slice A0 l0.length c0] rfl q2_ ?_; (with_reducible refine (spec_l1New.calls k _ _ l0 t340 t341 t342 w _ ?side1 ?side2 ?side3 A2.out).mono ?_); (case side1 => exact q0_); (case side2 => exact HR0.out); (case side3 => exact HC0.out); rintro e w4 ⟨g343, rfl, hi, hb, hb2⟩; refine ⟨_, rfl, ?_⟩; replace HB := A_ (hb); have HI343 := A_ (hi); clear hb hb2 hi) | ((with_reducible refine gate_callee (f := 58) rfl ?_); refine goesL_ (some 5) rfl rfl Tryz.func58 kr_ rfl #[.pointer (some ⟨g343, 0, none⟩), .int .i64 6] rfl q2_ ?_; (with_reducible refine (spec_l1Below.calls g343 t340 t341 t342 6 t344 t345 t346 w _ ?side1 ?side2 A3.out).mono ?_); (case side1 => repeat (first | (with_reducible first | exact HI343.out | apply IsS74.alloc | apply IsS74.drewN | apply IsS74.drew | apply IsS74.set_1 | apply IsS74.set_2) | exact HI343.out)); (case side2 => exact q4_); rintro e w5 ⟨rfl, hi, hb, hk⟩; refine ⟨_, rfl, ?_⟩; replace HB := A_ (hb); replace HI343 := A_ (hi); clear hb hk hi))
 go_ret
 exact ⟨q6_, q4_⟩
def impl_SizesOf.f (a0 : Int) : Option (List Int × Bool) := if a0 < 0 then (some (([] : List Int), false)) else (if a0 > 3 then (some (([] : List Int), false)) else ((impl_sizes.f a0).bind fun t347 => (some (t347, true))))
theorem impl_SizesOf.calls (a0 : Int) (r1 : List Int) (r2 : Bool) (w : World) (h : impl_SizesOf.f a0 = some (r1, r2)) :
  Calls Tryz.prog 20 #[.int .i64 a0] w fun e w' => ∃ v0_ : Value, e = .returned (.tuple #[v0_, .bool r2]) ∧ Kd.R (Kd.int .i64) 3 w' w.heap.size (fun _ => True) v0_ r1 ∧ Below w.heap.size w w' := by
 have HB := A_ (Below.refl w.heap.size w)
 have H : (if a0 < 0 then (some (([] : List Int), false)) else (if a0 > 3 then (some (([] : List Int), false)) else ((impl_sizes.f a0).bind fun t347 => (some (t347, true))))) = some (r1, r2) := h
 clear h
 by_cases c2 : a0 < 0
 ·rw [if_pos c2] at H
  have c2b0 : decide (a0 < 0) = true := decide_eq_true c2
  clear c2
  simp only [Option.some.injEq, Prod.mk.injEq] at H
  obtain ⟨rfl, rfl⟩ := H
  go_enter Tryz.func20, Tryz.ntmps20
  go_wp2
  go_ret2
  exact ⟨_, q6_, q19_, q0_⟩
 ·rw [if_neg c2] at H
  have c2b0 : decide (a0 < 0) = false := decide_eq_false c2
  clear c2
  by_cases c3 : a0 > 3
  ·rw [if_pos c3] at H
   have c3b0 : decide (3 < a0) = true := decide_eq_true c3
   clear c3
   simp only [Option.some.injEq, Prod.mk.injEq] at H
   obtain ⟨rfl, rfl⟩ := H
   go_enter Tryz.func20, Tryz.ntmps20
   go_wp2
   go_ret2
   exact ⟨_, q6_, q19_, q0_⟩
  ·rw [if_neg c3] at H
   have c3b0 : decide (3 < a0) = false := decide_eq_false c3
   clear c3; replace H := Option.bind_eq_some_iff.mp H; obtain ⟨t347, A40, H⟩ := H
   replace H : (some (t347, true)) = some (r1, r2) := H
   have A4 := A_ A40; clear A40
   simp only [Option.some.injEq, Prod.mk.injEq] at H
   obtain ⟨rfl, rfl⟩ := H
   go_enter Tryz.func20, Tryz.ntmps20
   go_wp2_with (first | ((with_reducible refine gate_callee (f := 43) rfl ?_); refine goesL_ (some 11) rfl rfl Tryz.func43 kr_ rfl #[.int .i64 a0] rfl q2_ ?_; (with_reducible refine (impl_sizes.calls a0 t347 _ A4.out).mono ?_); rintro e w5 ⟨v348, rfl, ho0, hb⟩; refine ⟨_, rfl, ?_⟩; have HO349 := A_ (Kd.R_lower ho0 (below_size q0_)); replace HB := A_ (below_step q0_ hb); clear hb ho0))
   go_ret2
   exact ⟨_, q6_, by (with_reducible repeat (first | apply Kd.R_alloc | apply Kd.R_drewN | apply Kd.R_drew)); exact HO349.out, q0_⟩
def spec_SizesOf.f (a0 : Int) : Option (List Int × Bool) := (spec_l1In.f a0 0 3).bind fun t350 => (if t350 = true then ((spec_l22Sizes.f a0).bind fun t351 => (some (t351, true))) else (some ((([] : List Int)), false)))
theorem spec_SizesOf.calls (a0 : Int) (r1 : List Int) (r2 : Bool) (w : World) (h : spec_SizesOf.f a0 = some (r1, r2)) :
  Calls Tryz.prog 21 #[.int .i64 a0] w fun e w' => ∃ v0_ : Value, e = .returned (.tuple #[v0_, .bool r2]) ∧ Kd.R (Kd.int .i64) 3 w' w.heap.size (fun _ => True) v0_ r1 ∧ Below w.heap.size w w' := by
 have HB := A_ (Below.refl w.heap.size w)
 have H : ((spec_l1In.f a0 0 3).bind fun t350 => (if t350 = true then ((spec_l22Sizes.f a0).bind fun t351 => (some (t351, true))) else (some ((([] : List Int)), false)))) = some (r1, r2) := h
 clear h; replace H := Option.bind_eq_some_iff.mp H; obtain ⟨t350, A20, H⟩ := H; (try dsimp only at H); have A2 := A_ A20; clear A20
 by_cases c3 : t350 = true
 ·subst c3
  have H1 : ((spec_l22Sizes.f a0).bind fun t351 => (some (t351, true))) = some (r1, r2) := by rw [if_pos rfl] at H; exact H
  clear H; have H := H1; clear H1; replace H := Option.bind_eq_some_iff.mp H; obtain ⟨t351, A40, H⟩ := H
  replace H : (some (t351, true)) = some (r1, r2) := H
  have A4 := A_ A40; clear A40
  simp only [Option.some.injEq, Prod.mk.injEq] at H
  obtain ⟨rfl, rfl⟩ := H
  go_enter Tryz.func21, Tryz.ntmps21
  go_wp2_with (first | ((with_reducible refine gate_callee (f := 59) rfl ?_); refine goesL_ (some 5) rfl rfl Tryz.func59 kr_ rfl #[.int .i64 a0, .int .i64 0, .int .i64 3] rfl q2_ ?_; (with_reducible refine (spec_l1In.calls a0 0 3 true _ A2.out).mono ?_); rintro e w' ⟨rfl, ⟨nd, rfl⟩⟩; refine ⟨_, rfl, ?_⟩) | ((with_reducible refine gate_callee (f := 46) rfl ?_); refine goesL_ (some 9) rfl rfl Tryz.func46 kr_ rfl #[.int .i64 a0] rfl q2_ ?_; (with_reducible refine (spec_l22Sizes.calls a0 t351 _ A4.out).mono ?_); rintro e w5 ⟨v352, rfl, ho0, hb⟩; refine ⟨_, rfl, ?_⟩; have HO353 := A_ (Kd.R_lower ho0 (below_size q0_)); replace HB := A_ (below_step q0_ hb); clear hb ho0))
  go_ret2
  exact ⟨_, q6_, by (with_reducible repeat (first | apply Kd.R_alloc | apply Kd.R_drewN | apply Kd.R_drew)); exact HO353.out, q0_⟩
 ·replace c3 := Bool.eq_false_iff.mpr c3
  subst c3
  have H1 : (some ((([] : List Int)), false)) = some (r1, r2) := by rw [if_neg (show ¬ (false = true) by decide)] at H; exact H
  clear H; have H := H1; clear H1
  obtain ⟨y354, hy354⟩ : ∃ y_ : List Int, y_ = (([] : List Int)) := ⟨_, rfl⟩
  replace H : (some (y354, false)) = some (r1, r2) := by first | (rw [hy354]; with_reducible exact H) | (have H2_ := (Option.bind_some _ _).symm.trans H; rw [hy354]; with_reducible exact H2_) | (have H2_ := (Option.bind_some _ _).symm.trans H; with_reducible exact H2_) | with_reducible exact H | (rw [hy354]; exact H) | exact H
  have Ny354 := A_ hy354; clear hy354
  simp only [Option.some.injEq, Prod.mk.injEq] at H
  obtain ⟨rfl, rfl⟩ := H
  go_enter Tryz.func21, Tryz.ntmps21
  go_wp2_with (first | ((with_reducible refine gate_callee (f := 59) rfl ?_); refine goesL_ (some 5) rfl rfl Tryz.func59 kr_ rfl #[.int .i64 a0, .int .i64 0, .int .i64 3] rfl q2_ ?_; (with_reducible refine (spec_l1In.calls a0 0 3 false _ A2.out).mono ?_); rintro e w' ⟨rfl, ⟨nd, rfl⟩⟩; refine ⟨_, rfl, ?_⟩) | ((with_reducible refine gate_dst (N := 7) rfl ?_); refine Kd.R_lit (Kd.int .i64) _ 3 ?hg (N := 7) ?hd (xs := ([] : List Int)) (inner := []) (ok := fun _ => True) (okp := fun _ => True) ?hr ?hp (fun _ hk => hk) trivial (Below.refl _ _) (Nat.le_refl _) (by simp) ?_; (case hd => rfl); (case hg => rfl); (case hr => first | (go_simp; done) | (go_simp; rfl)); (case hp => exact (Reps.none _ _)); intro v355 w6 ho7 hb hg_ hnew_; clear hg_ hnew_; (first | rw [← Ny354.out] at ho7 | (simp only [Int.reduceToNat] at ho7; rw [← Ny354.out] at ho7)); have HO356 := A_ (Kd.R_lower ho7 (below_size q0_)); replace HB := A_ (below_step q0_ hb); clear hb ho7))
  go_ret2
  exact ⟨_, q6_, by (with_reducible repeat (first | apply Kd.R_alloc | apply Kd.R_drewN | apply Kd.R_drew)); exact HO356.out, q0_⟩
def laws_sameInts.l0 : Nat → List Int → List Int → Int → Option (Bool)
 | 0, _, _, _ => none
 | k + 1, x0, x1, x5 => if x5 < (x0.length : Int) then (if 0 ≤ x5 then (if x5 < (x1.length : Int) then (if (rd x0 x5) = (rd x1 x5) then (laws_sameInts.l0 k x0 x1 (wrap64 (x5 + 1))) else (some false)) else (none)) else (none)) else (some true)
def laws_sameInts.f (k : Nat) (l0 : List Int) (l1 : List Int) : Option (Bool) := if (l0.length : Int) = (l1.length : Int) then (laws_sameInts.l0 k l0 l1 0) else (some false)
theorem laws_sameInts.calls (k : Nat) (A0 : Option Addr) (c0 : Nat) (l0 : List Int) (A1 : Option Addr) (c1 : Nat) (l1 : List Int) (r : Bool) (w : World) (hr0 : Kd.C (Kd.int .i64) w A0 l0.length l0) (hc0 : l0.length ≤ c0) (hr1 : Kd.C (Kd.int .i64) w A1 l1.length l1) (hc1 : l1.length ≤ c1) (h : laws_sameInts.f k l0 l1 = some r) :
  Calls Tryz.prog 22 #[.slice A0 l0.length c0, .slice A1 l1.length c1] w fun e w' => e = .returned (.bool r) ∧ Drawn0 w w' := by
 have HR0 := A_ hr0; have HC0 := A_ hc0; clear hr0 hc0; have HR1 := A_ hr1; have HC1 := A_ hc1; clear hr1 hc1
 have H : (if (l0.length : Int) = (l1.length : Int) then (laws_sameInts.l0 k l0 l1 0) else (some false)) = some r := h
 clear h
 by_cases c3 : (l0.length : Int) = (l1.length : Int)
 ·rw [if_pos c3] at H
  have c3b0 : ((l0.length : Int) == (l1.length : Int)) = true := beq_iff_eq.mpr c3
  have c3b1 : ((l0.length : Int) != (l1.length : Int)) = false := bne_eq_false_iff_eq.mpr c3
  have c3b2 : (l0.length == l1.length) = true := by first | simpa using c3 | (simp at c3 ⊢; omega)
  clear c3
  have H' := A_ H
  clear H
  go_enter Tryz.func22, Tryz.ntmps22
  go_wp2
  repeat (go_quiet (fail); try go_wp2)
  go_loopg [5] k (fun kq v5 w' => ∃ (x5_1 : Int), v5 = .int .i64 x5_1 ∧ Aside0 (laws_sameInts.l0 kq l0 l1 x5_1 = some r) ∧ Aside0 (kq ≤ k) ∧ Drawn0 w w')
  case atStart => exact ⟨(0), q1_, H', ⟨Nat.le_refl _⟩, q5_⟩
  case round =>
   clear H'; clear c3b0 c3b1 c3b2
   obtain ⟨x5_1, rfl, HA, HK1, ⟨m1, rfl⟩⟩ := hrel
   cases gk with
   | zero => exact absurd HA.out (by simp [laws_sameInts.l0])
   | succ k1 =>
    have H := HA.out
    clear HA
    simp only [laws_sameInts.l0] at H
    by_cases c4 : x5_1 < (l0.length : Int)
    ·rw [if_pos c4] at H
     have c4b0 : decide (x5_1 < (l0.length : Int)) = true := decide_eq_true c4
     clear c4
     by_cases c5 : 0 ≤ x5_1
     ·rw [if_pos c5] at H
      have c5b0 : decide (0 ≤ x5_1) = true := decide_eq_true c5
      clear c5
      by_cases c6 : x5_1 < (l1.length : Int)
      ·rw [if_pos c6] at H
       have c6b0 : decide (x5_1 < (l1.length : Int)) = true := decide_eq_true c6
       clear c6
       by_cases c7 : (rd l0 x5_1) = (rd l1 x5_1)
       ·rw [if_pos c7] at H
        have c7b0 : ((rd l0 x5_1) == (rd l1 x5_1)) = true := beq_iff_eq.mpr c7
        have c7b1 : ((rd l0 x5_1) != (rd l1 x5_1)) = false := bne_eq_false_iff_eq.mpr c7
        clear c7
        have H' := A_ H
        clear H
        have p357 : 0 ≤ (x5_1 : Int) := of_decide_eq_true q8_
        have q357 : x5_1 < (l0.length : Int) := of_decide_eq_true q8_
        obtain ⟨ad357, e357, hx357_0⟩ := Kd.at_int HR0.out x5_1 p357 q357
        cases e357
        replace p357 := eq_true p357
        replace q357 := eq_true q357
        have p358 : 0 ≤ (x5_1 : Int) := of_decide_eq_true q8_
        have q358 : x5_1 < (l1.length : Int) := of_decide_eq_true q8_
        obtain ⟨ad358, e358, hx358_0⟩ := Kd.at_int HR1.out x5_1 p358 q358
        cases e358
        replace p358 := eq_true p358
        replace q358 := eq_true q358
        go_wp2
        repeat (go_quiet (fail); try go_wp2)
        go_roundg k1
        case measure => have := HK1.out; omega
        case rel => exact ⟨(wrap64 (x5_1 + 1)), q1_, H', ⟨by have := HK1.out; omega⟩, q5_⟩
       ·rw [if_neg c7] at H
        have c7b0 : ((rd l0 x5_1) == (rd l1 x5_1)) = false := beq_eq_false_iff_ne.mpr c7
        have c7b1 : ((rd l0 x5_1) != (rd l1 x5_1)) = true := bne_iff_ne.mpr c7
        obtain rfl := Option.some.inj H
        have p357 : 0 ≤ (x5_1 : Int) := of_decide_eq_true q8_
        have q357 : x5_1 < (l0.length : Int) := of_decide_eq_true q8_
        obtain ⟨ad357, e357, hx357_0⟩ := Kd.at_int HR0.out x5_1 p357 q357
        cases e357
        replace p357 := eq_true p357
        replace q357 := eq_true q357
        have p358 : 0 ≤ (x5_1 : Int) := of_decide_eq_true q8_
        have q358 : x5_1 < (l1.length : Int) := of_decide_eq_true q8_
        obtain ⟨ad358, e358, hx358_0⟩ := Kd.at_int HR1.out x5_1 p358 q358
        cases e358
        replace p358 := eq_true p358
        replace q358 := eq_true q358
        go_wp2
        repeat (go_quiet (fail); try go_wp2)
        go_ret
        exact ⟨q1_, q5_⟩
      ·rw [if_neg c6] at H
       exact absurd H (by simp)
     ·rw [if_neg c5] at H
      exact absurd H (by simp)
    ·rw [if_neg c4] at H
     have c4b0 : decide (x5_1 < (l0.length : Int)) = false := decide_eq_false c4
     clear c4
     obtain rfl := Option.some.inj H
     go_wp2
     repeat (go_quiet (fail); try go_wp2)
     go_ret
     exact ⟨q1_, q5_⟩
 ·rw [if_neg c3] at H
  have c3b0 : ((l0.length : Int) == (l1.length : Int)) = false := beq_eq_false_iff_ne.mpr c3
  have c3b1 : ((l0.length : Int) != (l1.length : Int)) = true := bne_iff_ne.mpr c3
  have c3b2 : (l0.length == l1.length) = false := by first | simpa using c3 | (simp at c3 ⊢; omega)
  obtain rfl := Option.some.inj H
  go_enter Tryz.func22, Tryz.ntmps22
  go_wp2
  repeat (go_quiet (fail); try go_wp2)
  go_ret
  exact ⟨q1_, q5_⟩
end Go.Proofs.YtfoopehlmnejaaaGreatDoor.Print
namespace Go.Proofs.YtfoopehlmnejaaaGreatDoor.Print
open Go.RowKit Go.Proofs.YtfoopehlmnejaaaGreatDoorW.PrintWords Go.Proofs.YtfoopehlmnejaaaGreatDoorW.PrintLast Go.Proofs.YtfoopehlmnejaaaGreatDoorW.PrintMore
attribute [local go_sem] max2_int min2_int max_two min_two max_three min_three max_four min_four   -- for this text's walks alone
set_option linter.unusedVariables false
set_option linter.unusedSimpArgs false
open Go.Proofs.YtfoopehlmnejaaaGreatDoor.M
def slices_Max_int_int.best (l : List Int) : Nat → Int
 | 0 => l.getD 0 0
 | i + 1 => if slices_Max_int_int.best l i < l.getD (i + 1) 0 then l.getD (i + 1) 0 else slices_Max_int_int.best l i
def slices_Max_int_int.f (l0 : List Int) : Option Int := if 0 < l0.length then some (slices_Max_int_int.best l0 (l0.length - 1)) else none
set_option maxHeartbeats 2000000 in
theorem slices_Max_int_int.calls (A0 : Option Addr) (c0 : Nat) (l0 : List Int) (r : Int) (w : World) (hr0 : Kd.C (Kd.int .i64) w A0 l0.length l0) (hc0 : l0.length ≤ c0) (h : slices_Max_int_int.f l0 = some r) :
  Calls Tryz.prog 60 #[.slice A0 l0.length c0] w fun e w' => e = .returned (.int .i64 r) ∧ Drawn0 w w' := by
 unfold slices_Max_int_int.f at h
 by_cases h0 : 0 < l0.length
 ·rw [if_pos h0] at h
  have h := Option.some.inj h
  obtain ⟨ad, ea, c1⟩ := Kd.at_int hr0 0 (by omega) (by omega)
  subst ea
  have hy0 : rd l0 0 = l0.getD 0 0 := by simp [rd]
  rw [hy0] at c1
  replace c1 : w.cell? ad = some (.int .i64 (l0.getD 0 0)) := by simpa [Addr.add] using c1
  have hm := hr0.2.1
  have HR := A_ hr0; have H0 := A_ h0; have HRS := A_ h; clear hr0 hy0 h
  have hl1 : decide ((l0.length : Int) < 1) = false := decide_eq_false (by omega)
  have hl0 : (0 : Int) < (l0.length : Int) := by omega
  have HS : Aside0 (slices_Max_int_int.best l0 0 = l0.getD 0 0) := ⟨rfl⟩
  generalize l0.getD 0 0 = y0 at c1 HS
  clear h0
  go_enter Tryz.func60, Tryz.ntmps60
  go_wp2
  go_loopg [3, 4] l0.length (fun gg s5 s6 wr => ∃ kk : Nat, kk + 1 ≤ l0.length ∧ l0.length - (kk + 1) ≤ gg ∧ s5 = .int .i64 (slices_Max_int_int.best l0 kk) ∧ s6 = .int .i64 ((kk : Int) + 1) ∧ Aside0 (Drawn0 w wr))
  case atStart => exact ⟨0, by have := H0.out; omega, by omega, by rw [HS.out], rfl, ⟨Drawn0.refl w⟩⟩
  case round =>
   obtain ⟨kk, hkk, hg, rfl, rfl, BW⟩ := hrel; clear c1 HS
   by_cases hlt : kk + 1 < l0.length
   ·have hltz : (kk : Int) + 1 < (l0.length : Int) := by omega
    have hk0 : (0 : Int) ≤ (kk : Int) + 1 := by omega
    have c2 : wr.cell? ⟨ad.block, ad.off + (kk + 1), none⟩ = some (.int .i64 (l0.getD (kk + 1) 0)) := by
     obtain ⟨ad', ea, c0⟩ := Kd.at_int (Kd.C_below HR.out BW.out.below) ((kk : Int) + 1) hk0 hltz
     cases ea
     have hy : rd l0 ((kk : Int) + 1) = l0.getD (kk + 1) 0 := rd_nat l0 (kk + 1)
     rw [hy] at c0
     exact c0
    have hnext : slices_Max_int_int.best l0 (kk + 1) = if slices_Max_int_int.best l0 kk < l0.getD (kk + 1) 0 then l0.getD (kk + 1) 0 else slices_Max_int_int.best l0 kk := rfl
    generalize l0.getD (kk + 1) 0 = y at *
    have HN := A_ hnext; clear hnext
    generalize slices_Max_int_int.best l0 kk = b at *
    have e1 : ((kk : Int) + 1).toNat = kk + 1 := by omega
    have e2 : wrap64 ((kk : Int) + 1 + 1) = ((kk + 1 : Nat) : Int) + 1 := by rw [w64 (by omega) (by omega)]; omega
    go_wp2
    all_goals
     go_roundg (l0.length - (kk + 1 + 1))
     case measure => omega
     case rel => exact ⟨kk + 1, by omega, by omega, by rw [HN.out]; split <;> first | rfl | (exfalso; omega), by push_cast; rfl, BW⟩
   ·have hkl : kk = l0.length - 1 := by omega
    have hkr : slices_Max_int_int.best l0 kk = r := by rw [hkl]; exact HRS.out
    have hd : decide ((kk : Int) + 1 < (l0.length : Int)) = false := decide_eq_false (by omega)
    rw [hkr]
    clear hkl hkr hlt
    go_wp2
    go_ret
    exact ⟨rfl, BW.out⟩
 ·rw [if_neg h0] at h; cases h
end Go.Proofs.YtfoopehlmnejaaaGreatDoor.Print
