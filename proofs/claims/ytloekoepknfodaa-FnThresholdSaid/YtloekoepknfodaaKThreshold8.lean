import Derived.Test.YtloekoepknfodaaKThreshold2
import Derived.Test.YtloekoepknfodaaKThreshold6
import Derived.Test.YtloekoepknfodaaM40
namespace Go.Proofs.Ytloekoepknfodaa.Print
open Go.RowKit Go.Proofs.YtloekoepknfodaaW.PrintWords Go.Proofs.YtloekoepknfodaaW.PrintLast Go.Proofs.YtloekoepknfodaaW.PrintMore
attribute [local go_sem] max2_int min2_int max_two min_two max_three min_three max_four min_four   -- for this text's walks alone
set_option linter.unusedVariables false
set_option linter.unusedSimpArgs false
set_option maxHeartbeats 8000000
set_option maxRecDepth 100000
mutual
def impl_WeightsFor.l0 : Nat → List Int → List Int → Int → Bool → Int → Int → Option (List Int × Int × Bool)
 | 0, _, _, _, _, _, _ => none
 | k + 1, x5, x6, x7, x8, x238000, x238001 => (impl_Table_threshold.f k x238000 x238001 x5).bind fun bt245 => (if bt245.2 = true then (if x8 = true then ((impl_sumOfSizes.f k x5).bind fun t247 => ((impl_sumOfSizes.f k x6).bind fun t248 => (impl_WeightsFor.j1 k x5 x6 x7 x8 bt245.1 (decide (t247 < t248)) x238000 x238001))) else (impl_WeightsFor.j1 k x5 x6 x7 x8 bt245.1 true x238000 x238001)) else (impl_WeightsFor.j1 k x5 x6 x7 x8 bt245.1 false x238000 x238001))
def impl_WeightsFor.j1 : Nat → List Int → List Int → Int → Bool → Int → Bool → Int → Int → Option (List Int × Int × Bool)
 | 0, _, _, _, _, _, _, _, _ => none
 | k + 1, x5, x6, x7, x8, x9, x36, x238000, x238001 => if x36 = true then ((slices_Clone_int_int.f x5).bind fun t249 => (impl_WeightsFor.j2 k x5 t249 x9 true x238000 x238001)) else (impl_WeightsFor.j2 k x5 x6 x7 x8 x238000 x238001)
def impl_WeightsFor.j2 : Nat → List Int → List Int → Int → Bool → Int → Int → Option (List Int × Int × Bool)
 | 0, _, _, _, _, _, _ => none
 | k + 1, x5, x6, x7, x8, x238000, x238001 => impl_WeightsFor.l1 k x5 x6 x7 x8 (wrap64 (x238000 - 1)) x238000 x238001
def impl_WeightsFor.l1 : Nat → List Int → List Int → Int → Bool → Int → Int → Int → Option (List Int × Int × Bool)
 | 0, _, _, _, _, _, _, _ => none
 | k + 1, x5, x6, x7, x8, x11, x238000, x238001 => if x11 ≥ 0 then (if 0 ≤ x11 then (if x11 < (x5.length : Int) then (if (rd x5 x11) = 3 then (impl_WeightsFor.l1 k (x5.set (x11 : Int).toNat (-3)) x6 x7 x8 (wrap64 (x11 - 1)) x238000 x238001) else (if x11 < 0 then (some (x6, x7, x8)) else (impl_WeightsFor.l0 k (x5.set (x11 : Int).toNat (wrap64 ((rd x5 x11) + 1))) x6 x7 x8 x238000 x238001))) else (none)) else (none)) else (if x11 < 0 then (some (x6, x7, x8)) else (if 0 ≤ x11 then (if x11 < (x5.length : Int) then (impl_WeightsFor.l0 k (x5.set (x11 : Int).toNat (wrap64 ((rd x5 x11) + 1))) x6 x7 x8 x238000 x238001) else (none)) else (none)))
end
def impl_WeightsFor.f (k : Nat) (a0_0 : Int) (a0_1 : Int) : Option (List Int × Int × Bool) := (impl_isSmall.f a0_0 a0_1 4).bind fun t238 => (if t238 = true then ((slices_Repeat_int_int.f (([(-3)] : List Int)) a0_0).bind fun t242 => (impl_WeightsFor.l0 k t242 ([] : List Int) 0 false a0_0 a0_1)) else (some (([] : List Int), 0, false)))
theorem impl_WeightsFor.calls (k : Nat) (a0_0 : Int) (a0_1 : Int) (r1 : List Int) (r2 : Int) (r3 : Bool) (w : World) (h : impl_WeightsFor.f k a0_0 a0_1 = some (r1, r2, r3)) :
  Calls Try.prog 6 #[.agg #[.int .i64 a0_0, .int .i64 a0_1]] w fun e w' => ∃ v0_ : Value, e = .returned (.tuple #[v0_, .int .i64 r2, .bool r3]) ∧ Kd.R (Kd.int .i64) 3 w' w.heap.size (fun _ => True) v0_ r1 ∧ Below w.heap.size w w' := by
 have hu25 := Try.underlying25
 have HB := A_ (Below.refl w.heap.size w)
 have H : ((impl_isSmall.f a0_0 a0_1 4).bind fun t238 => (if t238 = true then ((slices_Repeat_int_int.f (([(-3)] : List Int)) a0_0).bind fun t242 => (impl_WeightsFor.l0 k t242 ([] : List Int) 0 false a0_0 a0_1)) else (some (([] : List Int), 0, false)))) = some (r1, r2, r3) := h
 clear h; replace H := Option.bind_eq_some_iff.mp H; obtain ⟨t238, A20, H⟩ := H; (try dsimp only at H); have A2 := A_ A20; clear A20
 by_cases c3 : t238 = true
 ·subst c3
  have H1 : ((slices_Repeat_int_int.f (([(-3)] : List Int)) a0_0).bind fun t242 => (impl_WeightsFor.l0 k t242 ([] : List Int) 0 false a0_0 a0_1)) = some (r1, r2, r3) := by rw [if_pos rfl] at H; exact H
  clear H; have H := H1; clear H1
  obtain ⟨y239, hy239⟩ : ∃ y_ : List Int, y_ = (([(-3)] : List Int)) := ⟨_, rfl⟩
  replace H : ((slices_Repeat_int_int.f y239 a0_0).bind fun t242 => (impl_WeightsFor.l0 k t242 ([] : List Int) 0 false a0_0 a0_1)) = some (r1, r2, r3) := by first | (rw [hy239]; with_reducible exact H) | (have H2_ := (Option.bind_some _ _).symm.trans H; rw [hy239]; with_reducible exact H2_) | (have H2_ := (Option.bind_some _ _).symm.trans H; with_reducible exact H2_) | with_reducible exact H | (rw [hy239]; exact H) | exact H
  have Ny239 := A_ hy239; clear hy239; replace H := Option.bind_eq_some_iff.mp H; obtain ⟨t242, A40, H⟩ := H
  replace H : (impl_WeightsFor.l0 k t242 ([] : List Int) 0 false a0_0 a0_1) = some (r1, r2, r3) := H
  have A4 := A_ A40; clear A40
  have H' := A_ H
  clear H
  go_enter Try.func6, Try.ntmps6
  go_wp2_with (first | ((with_reducible refine gate_dst (N := 1) rfl ?_); refine box_event ?hg (N := 1) ?hd (cs := #[.int .i64 a0_0, .int .i64 a0_1]) (t := 25) ?hr ?_; (case hd => rfl); (case hg => rfl); (case hr => first | (go_simp; done) | (go_simp; rfl)); intro gb237 hg w5 hbox hb; have BK237 := A_ (hbox); have GW237 := A_ ((by rw [hg]; exact (below_size q0_) : w.heap.size ≤ gb237)); have GE237 := A_ ((by rw [hg]; exact (below_size q0_) : w.heap.size ≤ gb237)); replace HB := A_ (below_step q0_ hb); clear hb hbox hg; have hcz6_0 := c20_ BK237; have hcz6_1 := c21_ BK237; have hfz6_0 := blk_frozen BK237.out 0; have hfz6_1 := blk_frozen BK237.out 1) | ((with_reducible refine gate_callee (f := 30) rfl ?_); refine goesL_ (some 13) rfl rfl Try.func30 kr_ rfl #[.agg #[.int .i64 a0_0, .int .i64 a0_1], .int .i64 4] rfl q2_ ?_; (with_reducible refine (impl_isSmall.calls a0_0 a0_1 4 true _ A2.out).mono ?_); rintro e w7 ⟨rfl, hb⟩; refine ⟨_, rfl, ?_⟩; replace BK237 := A_ (blk_below (M.Lb BK237) hb); replace HB := A_ (below_step q0_ hb); (try clear hb); (try clear hb2); (try clear hk); (try clear hi)) | ((with_reducible refine gate_dst (N := 15) rfl ?_); refine Kd.R_lit (Kd.int .i64) _ 3 ?hg (N := 15) ?hd (xs := ([(-3)] : List Int)) (inner := [.int .i64 (-3)]) (ok := fun _ => True) (okp := fun _ => True) ?hr ?hp (fun _ hk => hk) trivial (Below.refl _ _) (Nat.le_refl _) (by simp) ?_; (case hd => rfl); (case hg => rfl); (case hr => first | (go_simp; done) | (go_simp; rfl)); (case hp => exact (Reps.one (show Kd.M (Kd.int .i64) _ _ _ (-3) [.int .i64 (-3)] from rfl) (Reps.none _ _))); intro v240 w8 ho9 hb hg_ hnew_; clear hg_ hnew_; (first | rw [← Ny239.out] at ho9 | (simp only [Int.reduceToNat] at ho9; rw [← Ny239.out] at ho9)); have HO241 := A_ (Kd.R_lower ho9 (below_size q0_)); replace BK237 := A_ (blk_below (M.Lb BK237) hb); replace HB := A_ (below_step q0_ hb); clear hb ho9; have hcz10_0 := c20_ BK237; have hcz10_1 := c21_ BK237; have hfz10_0 := blk_frozen BK237.out 0; have hfz10_1 := blk_frozen BK237.out 1; obtain ⟨Ao11, co11, eo11⟩ := Kd.R_slice HO241.out; subst eo11) | ((with_reducible refine gate_callee (f := 31) rfl ?_); refine goesL_ (some 18) rfl rfl Try.func31 kr_ rfl #[.slice Ao11 y239.length co11, .int .i64 a0_0] rfl q2_ ?_; (with_reducible refine (slices_Repeat_int_int.calls _ _ y239 a0_0 t242 _ ?side1 ?side2 A4.out).mono ?_); (case side1 => repeat (first | exact (Kd.R_reads' HO241.out).2.2 | (with_reducible refine Kd.C_alloc ?_ _) | (with_reducible refine Kd.C_drewN ?_ _) | (with_reducible refine Kd.C_drew ?_))); (case side2 => exact (Kd.R_reads' HO241.out).2.1); rintro e w12 ⟨v243, rfl, ho0, hb⟩; refine ⟨_, rfl, ?_⟩; have HO244 := A_ (Kd.R_lower (Kd.R_new' ho0 (Kd.R_lt (M.Lr HO241))) (below_size q0_)); replace HO241 := A_ (Kd.R_elder' (M.Lr HO241) (Kd.R_base ho0) hb); replace BK237 := A_ (blk_below (M.Lb BK237) hb); replace HB := A_ (below_step q0_ hb); (try clear hb); (try clear hb2); (try clear hk); (try clear hi); (try clear ho0)))
  go_loopg [6, 7, 8] k (fun kq v6 v7 v8 w' => ∃ (x5_1 : List Int) (x6_1 : List Int) (x7_1 : Int) (x8_1 : Bool), v7 = .int .i64 x7_1 ∧ v8 = .bool x8_1 ∧ Aside0 (impl_WeightsFor.l0 kq x5_1 x6_1 x7_1 x8_1 a0_0 a0_1 = some (r1, r2, r3)) ∧ Aside0 (kq ≤ k) ∧ Aside0 (Kd.R (Kd.int .i64) 3 w' w.heap.size (fun k_ => some k_ ≠ (v6 : Value).ownBlock) v243 x5_1) ∧ Aside0 (Kd.R (Kd.int .i64) 3 w' w.heap.size (fun k_ => some k_ ≠ (v243 : Value).ownBlock) v6 x6_1) ∧ Aside0 (w'.heap[gb237]? = some (.cells #[.int .i64 a0_0, .int .i64 a0_1] 25 (0, 0))) ∧ Aside0 (Below w.heap.size w w'))
  case atStart => exact ⟨(t242), (([] : List Int)), (0), (false), q1_, q1_, H', ⟨Nat.le_refl _⟩, ⟨by (with_reducible repeat (first | apply Kd.R_alloc | apply Kd.R_drewN | apply Kd.R_drew)); exact Kd.R_mono HO244.out (fun _ hk => (by simp [Value.ownBlock]))⟩, ⟨q17_⟩, ⟨M.Lb BK237⟩, ⟨q0_⟩⟩
  case round =>
   clear H'; (try clear p2); (try clear c3); (try clear c6); (try clear hcz10_0); (try clear hcz10_1); (try clear hcz6_0); (try clear hcz6_1); (try clear hfz10_0); (try clear hfz10_1); (try clear hfz6_0); (try clear hfz6_1); obtain ⟨x5_1, x6_1, x7_1, x8_1, rfl, rfl, HA, HK1, HO_5, HO_6, BK237, HB⟩ := hrel
   cases gk with
   | zero => exact absurd HA.out (by simp [impl_WeightsFor.l0])
   | succ k1 =>
    have H := HA.out
    clear HA
    simp only [impl_WeightsFor.l0] at H
    replace H := Option.bind_eq_some_iff.mp H; obtain ⟨⟨t245, t246⟩, A130, H⟩ := H; (try dsimp only at H); have A13 := A_ A130; clear A130; have HC14 := A_ H; clear H
    have hcz15_0 := c20_ BK237
    have hcz15_1 := c21_ BK237
    have hfz15_0 := blk_frozen BK237.out 0
    have hfz15_1 := blk_frozen BK237.out 1
    obtain ⟨Ao16, co16, eo16⟩ := Kd.R_slice HO_5.out
    subst eo16
    go_upto_region 7 with (first | ((with_reducible refine gate_callee (f := 32) rfl ?_); refine goesL_ (some 22) rfl rfl Try.func32 kr_ rfl #[.agg #[.int .i64 a0_0, .int .i64 a0_1], .slice Ao16 x5_1.length co16] rfl q2_ ?_; (with_reducible refine (impl_Table_threshold.calls k1 a0_0 a0_1 _ _ x5_1 t245 t246 _ ?side1 ?side2 A13.out).mono ?_); (case side1 => repeat (first | exact (Kd.R_reads' HO_5.out).2.2 | (with_reducible refine Kd.C_alloc ?_ _) | (with_reducible refine Kd.C_drewN ?_ _) | (with_reducible refine Kd.C_drew ?_))); (case side2 => exact (Kd.R_reads' HO_5.out).2.1); rintro e w17 ⟨rfl, hb⟩; refine ⟨_, rfl, ?_⟩; replace HO_5 := A_ (Kd.R_below (M.Lr HO_5) hb); replace HO_6 := A_ (Kd.R_below (M.Lr HO_6) hb); replace BK237 := A_ (blk_below (M.Lb BK237) hb); replace HB := A_ (below_step q0_ hb); (try clear hb); (try clear hb2); (try clear hk); (try clear hi)))
    (try simp only [Act.put, List.setIfInBounds_toArray, List.set_cons_zero, List.set_cons_succ])
    go_cut [36] (fun v36 wc => ∃ (kq : Nat) (x36_13 : Bool), v36 = .bool x36_13 ∧ Aside0 (impl_WeightsFor.j1 kq x5_1 x6_1 x7_1 x8_1 t245 x36_13 a0_0 a0_1 = some (r1, r2, r3)) ∧ Aside0 (kq ≤ k1) ∧ Aside0 (Kd.R (Kd.int .i64) 3 wc w.heap.size (fun k_ => some k_ ≠ (u6 : Value).ownBlock) (.slice Ao16 x5_1.length co16) x5_1) ∧ Aside0 (Kd.R (Kd.int .i64) 3 wc w.heap.size (fun k_ => some k_ ≠ ((.slice Ao16 x5_1.length co16) : Value).ownBlock) u6 x6_1) ∧ Aside0 (wc.heap[gb237]? = some (.cells #[.int .i64 a0_0, .int .i64 a0_1] 25 (0, 0))) ∧ Aside0 (Below w.heap.size w wc))
    case first =>
     have H := HC14.out
     clear HC14
     by_cases c18 : t246 = true
     ·subst c18
      have H1 : (if x8_1 = true then ((impl_sumOfSizes.f k1 x5_1).bind fun t247 => ((impl_sumOfSizes.f k1 x6_1).bind fun t248 => (impl_WeightsFor.j1 k1 x5_1 x6_1 x7_1 x8_1 t245 (decide (t247 < t248)) a0_0 a0_1))) else (impl_WeightsFor.j1 k1 x5_1 x6_1 x7_1 x8_1 t245 true a0_0 a0_1)) = some (r1, r2, r3) := by rw [if_pos rfl] at H; exact H
      clear H; have H := H1; clear H1
      by_cases c19 : x8_1 = true
      ·subst c19
       have H1 : ((impl_sumOfSizes.f k1 x5_1).bind fun t247 => ((impl_sumOfSizes.f k1 x6_1).bind fun t248 => (impl_WeightsFor.j1 k1 x5_1 x6_1 x7_1 true t245 (decide (t247 < t248)) a0_0 a0_1))) = some (r1, r2, r3) := by rw [if_pos rfl] at H; exact H
       clear H; have H := H1; clear H1; replace H := Option.bind_eq_some_iff.mp H; obtain ⟨t247, A200, H⟩ := H; (try dsimp only at H); have A20 := A_ A200; clear A200; replace H := Option.bind_eq_some_iff.mp H; obtain ⟨t248, A210, H⟩ := H
       replace H : (impl_WeightsFor.j1 k1 x5_1 x6_1 x7_1 true t245 (decide (t247 < t248)) a0_0 a0_1) = some (r1, r2, r3) := H
       have A21 := A_ A210; clear A210
       have H' := A_ H
       clear H
       go_wp2_with (first | (go_at_call 33; (with_reducible refine (impl_sumOfSizes.calls k1 _ _ x5_1 t247 _ ?side1 ?side2 A20.out).mono ?_); (case side1 => repeat (first | exact (Kd.R_reads' HO_5.out).2.2 | (with_reducible refine Kd.C_alloc ?_ _) | (with_reducible refine Kd.C_drewN ?_ _) | (with_reducible refine Kd.C_drew ?_))); (case side2 => exact (Kd.R_reads' HO_5.out).2.1); rintro e w22 ⟨rfl, hb⟩; replace HO_5 := A_ (Kd.R_below (M.Lr HO_5) hb); replace HO_6 := A_ (Kd.R_below (M.Lr HO_6) hb); replace BK237 := A_ (blk_below (M.Lb BK237) hb); replace HB := A_ (below_step q0_ hb); (try clear hb); (try clear hb2); (try clear hk); (try clear hi); obtain ⟨Ao23, co23, eo23⟩ := Kd.R_slice HO_6.out; subst eo23) | (go_at_call 33; (with_reducible refine (impl_sumOfSizes.calls k1 _ _ x6_1 t248 _ ?side1 ?side2 A21.out).mono ?_); (case side1 => repeat (first | exact (Kd.R_reads' HO_6.out).2.2 | (with_reducible refine Kd.C_alloc ?_ _) | (with_reducible refine Kd.C_drewN ?_ _) | (with_reducible refine Kd.C_drew ?_))); (case side2 => exact (Kd.R_reads' HO_6.out).2.1); rintro e w24 ⟨rfl, hb⟩; replace HO_5 := A_ (Kd.R_below (M.Lr HO_5) hb); replace HO_6 := A_ (Kd.R_below (M.Lr HO_6) hb); replace BK237 := A_ (blk_below (M.Lb BK237) hb); replace HB := A_ (below_step q0_ hb); (try clear hb); (try clear hb2); (try clear hk); (try clear hi)))
       go_meet
       case rel => exact ⟨_, (decide (t247 < t248)), q1_, H', ⟨by have := HK1.out; first | omega | exact Nat.le_refl _⟩, ⟨M.Lr HO_5⟩, ⟨M.Lr HO_6⟩, ⟨M.Lb BK237⟩, ⟨q0_⟩⟩
      ·replace c19 := Bool.eq_false_iff.mpr c19
       subst c19
       have H1 : (impl_WeightsFor.j1 k1 x5_1 x6_1 x7_1 false t245 true a0_0 a0_1) = some (r1, r2, r3) := by rw [if_neg (show ¬ (false = true) by decide)] at H; exact H
       clear H; have H := H1; clear H1
       have H' := A_ H
       clear H
       go_wp2
       go_meet
       case rel => exact ⟨_, (true), q1_, H', ⟨by have := HK1.out; first | omega | exact Nat.le_refl _⟩, ⟨M.Lr HO_5⟩, ⟨M.Lr HO_6⟩, ⟨M.Lb BK237⟩, ⟨q0_⟩⟩
     ·replace c18 := Bool.eq_false_iff.mpr c18
      subst c18
      have H1 : (impl_WeightsFor.j1 k1 x5_1 x6_1 x7_1 x8_1 t245 false a0_0 a0_1) = some (r1, r2, r3) := by rw [if_neg (show ¬ (false = true) by decide)] at H; exact H
      clear H; have H := H1; clear H1
      have H' := A_ H
      clear H
      go_wp2
      go_meet
      case rel => exact ⟨_, (false), q1_, H', ⟨by have := HK1.out; first | omega | exact Nat.le_refl _⟩, ⟨M.Lr HO_5⟩, ⟨M.Lr HO_6⟩, ⟨M.Lb BK237⟩, ⟨q0_⟩⟩
    case rest =>
     clear HC14; (try clear c1); (try clear p2); (try clear c3); (try clear c6); (try clear c18); (try clear c19); (try clear hcz10_0); (try clear hcz10_1); (try clear hcz15_0); (try clear hcz15_1); (try clear hcz6_0); (try clear hcz6_1); (try clear hfz10_0); (try clear hfz10_1); (try clear hfz15_0); (try clear hfz15_1); (try clear hfz6_0); (try clear hfz6_1); (try clear p2); obtain ⟨kq, x36_13, rfl, HA, HJ13, HO_5, HO_6, BK237, HB⟩ := hcut
     cases kq with
     | zero => exact absurd HA.out (by simp [impl_WeightsFor.j1])
     | succ kj13 =>
      have H := HA.out
      clear HA
      simp only [impl_WeightsFor.j1] at H
      have HC25 := A_ H; clear H
      go_upto_if 36 with (fail)
      go_cut [6, 7, 8] (fun v6 v7 v8 wc => ∃ (kq : Nat) (x6_24 : List Int) (x7_24 : Int) (x8_24 : Bool), v7 = .int .i64 x7_24 ∧ v8 = .bool x8_24 ∧ Aside0 (impl_WeightsFor.j2 kq x5_1 x6_24 x7_24 x8_24 a0_0 a0_1 = some (r1, r2, r3)) ∧ Aside0 (kq ≤ kj13) ∧ Aside0 (Kd.R (Kd.int .i64) 3 wc w.heap.size (fun k_ => some k_ ≠ (v6 : Value).ownBlock) (.slice Ao16 x5_1.length co16) x5_1) ∧ Aside0 (Kd.R (Kd.int .i64) 3 wc w.heap.size (fun k_ => some k_ ≠ ((.slice Ao16 x5_1.length co16) : Value).ownBlock) v6 x6_24) ∧ Aside0 (wc.heap[gb237]? = some (.cells #[.int .i64 a0_0, .int .i64 a0_1] 25 (0, 0))) ∧ Aside0 (Below w.heap.size w wc))
      case first =>
       have H := HC25.out
       clear HC25
       by_cases c26 : x36_13 = true
       ·subst c26
        have H1 : ((slices_Clone_int_int.f x5_1).bind fun t249 => (impl_WeightsFor.j2 kj13 x5_1 t249 t245 true a0_0 a0_1)) = some (r1, r2, r3) := by rw [if_pos rfl] at H; exact H
        clear H; have H := H1; clear H1; replace H := Option.bind_eq_some_iff.mp H; obtain ⟨t249, A270, H⟩ := H
        replace H : (impl_WeightsFor.j2 kj13 x5_1 t249 t245 true a0_0 a0_1) = some (r1, r2, r3) := H
        have A27 := A_ A270; clear A270
        have H' := A_ H
        clear H
        go_wp2_with (first | ((with_reducible refine gate_callee (f := 34) rfl ?_); refine goesL_ (some 38) rfl rfl Try.func34 kr_ rfl #[.slice Ao16 x5_1.length co16] rfl q2_ ?_; (with_reducible refine (slices_Clone_int_int.calls _ _ x5_1 t249 _ ?side1 ?side2 A27.out).mono ?_); (case side1 => repeat (first | exact (Kd.R_reads' HO_5.out).2.2 | (with_reducible refine Kd.C_alloc ?_ _) | (with_reducible refine Kd.C_drewN ?_ _) | (with_reducible refine Kd.C_drew ?_))); (case side2 => exact (Kd.R_reads' HO_5.out).2.1); rintro e w28 ⟨v250, rfl, ho0, hb⟩; refine ⟨_, rfl, ?_⟩; have HO251 := A_ (Kd.R_lower (Kd.R_new' (Kd.R_new' ho0 (Kd.R_lt (M.Lr HO_5))) (Kd.R_lt (M.Lr HO_6))) (below_size q0_)); replace HO_5 := A_ (Kd.R_elder' (M.Lr HO_5) (Kd.R_base ho0) hb); replace HO_6 := A_ (Kd.R_elder' (M.Lr HO_6) (Kd.R_base ho0) hb); replace BK237 := A_ (blk_below (M.Lb BK237) hb); replace HB := A_ (below_step q0_ hb); (try clear hb); (try clear hb2); (try clear hk); (try clear hi); (try clear ho0)))
        go_meet
        case rel => exact ⟨_, (t249), (t245), (true), q1_, q1_, H', ⟨by have := HK1.out; have := HJ13.out; first | omega | exact Nat.le_refl _⟩, ⟨by (with_reducible repeat (first | apply Kd.R_alloc | apply Kd.R_drewN | apply Kd.R_drew)); exact Kd.R_mono HO_5.out (fun _ hk => hk.2)⟩, ⟨by (with_reducible repeat (first | apply Kd.R_alloc | apply Kd.R_drewN | apply Kd.R_drew)); exact Kd.R_mono HO251.out (fun _ hk => hk.1.2)⟩, ⟨M.Lb BK237⟩, ⟨q0_⟩⟩
       ·replace c26 := Bool.eq_false_iff.mpr c26
        subst c26
        have H1 : (impl_WeightsFor.j2 kj13 x5_1 x6_1 x7_1 x8_1 a0_0 a0_1) = some (r1, r2, r3) := by rw [if_neg (show ¬ (false = true) by decide)] at H; exact H
        clear H; have H := H1; clear H1
        have H' := A_ H
        clear H
        go_wp2
        go_meet
        case rel => exact ⟨_, (x6_1), (x7_1), (x8_1), q1_, q1_, H', ⟨by have := HK1.out; have := HJ13.out; first | omega | exact Nat.le_refl _⟩, ⟨M.Lr HO_5⟩, ⟨M.Lr HO_6⟩, ⟨M.Lb BK237⟩, ⟨q0_⟩⟩
      case rest =>
       clear HC25; (try clear c1); (try clear c2); (try clear p2); (try clear c3); (try clear c6); (try clear c18); (try clear c19); (try clear c26); (try clear hcz10_0); (try clear hcz10_1); (try clear hcz15_0); (try clear hcz15_1); (try clear hcz6_0); (try clear hcz6_1); (try clear hfz10_0); (try clear hfz10_1); (try clear hfz15_0); (try clear hfz15_1); (try clear hfz6_0); (try clear hfz6_1); (try clear p2); obtain ⟨kq, x6_24, x7_24, x8_24, rfl, rfl, HA, HJ24, HO_5, HO_6, BK237, HB⟩ := hcut
       cases kq with
       | zero => exact absurd HA.out (by simp [impl_WeightsFor.j2])
       | succ kj24 =>
        have H := HA.out
        clear HA
        simp only [impl_WeightsFor.j2] at H
        have H' := A_ H
        clear H
        have hcz29_0 := c20_ BK237
        have hcz29_1 := c21_ BK237
        have hfz29_0 := blk_frozen BK237.out 0
        have hfz29_1 := blk_frozen BK237.out 1
        go_wp2
        go_loopg [11] kj24 (fun kq v11 w' => ∃ (x5_4 : List Int) (x11_4 : Int), v11 = .int .i64 x11_4 ∧ Aside0 (impl_WeightsFor.l1 kq x5_4 x6_24 x7_24 x8_24 x11_4 a0_0 a0_1 = some (r1, r2, r3)) ∧ Aside0 (kq ≤ kj24) ∧ Aside0 (Kd.R (Kd.int .i64) 3 w' w.heap.size (fun k_ => some k_ ≠ (u6 : Value).ownBlock) (.slice Ao16 x5_1.length co16) x5_4) ∧ Aside0 (Kd.R (Kd.int .i64) 3 w' w.heap.size (fun k_ => some k_ ≠ ((.slice Ao16 x5_1.length co16) : Value).ownBlock) u6 x6_24) ∧ Aside0 (w'.heap[gb237]? = some (.cells #[.int .i64 a0_0, .int .i64 a0_1] 25 (0, 0))) ∧ Aside0 (Below w.heap.size w w'))
        case atStart => exact ⟨(x5_1), (wrap64 (a0_0 - 1)), q1_, H', ⟨Nat.le_refl _⟩, ⟨M.Lr HO_5⟩, ⟨M.Lr HO_6⟩, ⟨M.Lb BK237⟩, ⟨q0_⟩⟩
        case round =>
         clear H'; (try clear c1); (try clear c2); (try clear p2); (try clear c3); (try clear c6); (try clear p6); (try clear c18); (try clear c19); (try clear c26); (try clear hcz10_0); (try clear hcz10_1); (try clear hcz15_0); (try clear hcz15_1); (try clear hcz29_0); (try clear hcz29_1); (try clear hcz6_0); (try clear hcz6_1); (try clear hfz10_0); (try clear hfz10_1); (try clear hfz15_0); (try clear hfz15_1); (try clear hfz29_0); (try clear hfz29_1); (try clear hfz6_0); (try clear hfz6_1); (try clear p2); obtain ⟨x5_4, x11_4, rfl, HA, HK4, HO_5, HO_6, BK237, HB⟩ := hrel
         have hl5_4 := (Kd.R_reads' HO_5.out).1
         rw [hl5_4] at HO_5
         (try simp only [hl5_4])
         (try simp only [hl5_4] at BK237)
         (try simp only [hl5_4] at HO_6)
         cases gk with
         | zero => exact absurd HA.out (by simp [impl_WeightsFor.l1])
         | succ k4 =>
          have H := HA.out
          clear HA
          simp only [impl_WeightsFor.l1] at H
          by_cases c30 : x11_4 ≥ 0
          ·rw [if_pos c30] at H
           have c30b0 : decide (0 ≤ x11_4) = true := decide_eq_true c30
           clear c30
           by_cases c31 : 0 ≤ x11_4
           ·rw [if_pos c31] at H
            have c31b0 : decide (0 ≤ x11_4) = true := decide_eq_true c31
            clear c31
            by_cases c32 : x11_4 < (x5_4.length : Int)
            ·rw [if_pos c32] at H
             have c32b0 : decide (x11_4 < (x5_4.length : Int)) = true := decide_eq_true c32
             clear c32
             by_cases c33 : (rd x5_4 x11_4) = 3
             ·rw [if_pos c33] at H
              have c33b0 : ((rd x5_4 x11_4) == 3) = true := beq_iff_eq.mpr c33
              have c33b1 : ((rd x5_4 x11_4) != 3) = false := bne_eq_false_iff_eq.mpr c33
              clear c33
              obtain ⟨y253, hy253⟩ : ∃ y_ : List Int, y_ = (x5_4.set (x11_4 : Int).toNat (-3)) := ⟨_, rfl⟩
              replace H : (impl_WeightsFor.l1 k4 y253 x6_24 x7_24 x8_24 (wrap64 (x11_4 - 1)) a0_0 a0_1) = some (r1, r2, r3) := by first | (rw [hy253]; with_reducible exact H) | (have H2_ := (Option.bind_some _ _).symm.trans H; rw [hy253]; with_reducible exact H2_) | (have H2_ := (Option.bind_some _ _).symm.trans H; with_reducible exact H2_) | with_reducible exact H | (rw [hy253]; exact H) | exact H
              have Ny253 := A_ hy253; clear hy253
              have H' := A_ H
              clear H
              have p252 : 0 ≤ (x11_4 : Int) := of_decide_eq_true q5_
              have q252 : x11_4 < (x5_4.length : Int) := of_decide_eq_true q5_
              obtain ⟨ad252, e252, hx252_0⟩ := Kd.at_int (Kd.R_reads' HO_5.out).2.2 x11_4 p252 q252
              cases e252
              replace p252 := eq_true p252
              replace q252 := eq_true q252
              have p34 : 0 ≤ (x11_4 : Int) := of_decide_eq_true q5_
              have q34 : (x11_4 : Int) < ((x5_4.length : Int) : Int) := of_decide_eq_true q5_
              obtain ⟨go34, co34, eo34, gb34, gl34, cl34, HG34⟩ := Kd.R_form HO_5.out (by omega)
              (first | cases eo34 | (injection eo34 with ea_ en_ ec_; (first | subst ea_ | (injection ea_ with ea_; subst ea_)); subst ec_; clear en_))
              have GB34 := A_ gb34; have GG34 := A_ HG34; clear gb34 gl34 HG34
              (first | simp only [add_plain] at hx252_0 | skip)
              obtain ⟨hx34_0, hf34_0⟩ := Kd.R_celln 0 HO_5.out (x11_4 : Int) p34 q34
              replace p34 := eq_true p34
              replace q34 := eq_true q34
              have HP35 := Kd.R_putg HO_5.out (x11_4 : Int) (-3)
              go_wp2_with (first | ((with_reducible refine gate_store (t := 3) (p := 54) rfl ?_); refine store_event (t := 3) (p := 54) (v := ?vo_w36) (w1 := (wr.setCell ⟨go34, (x11_4 : Int).toNat, none⟩ (.int .i64 (-3)))) ?hg ?ho ?hn ?hr ?_; (case ho => rfl); (case hg => rfl); (case hn => rfl); (case hr => first | (go_simp; done) | (go_simp; rfl)); intro w36 hw; have hg : wr.grownBy w36 (some go34) := (by rw [hw]; exact HP35.2); have hp_ : Kd.R (Kd.int .i64) 3 w36 w.heap.size (fun k_ => some k_ ≠ (u6 : Value).ownBlock) (.slice (some ⟨go34, 0, none⟩) x5_4.length co16) y253 := (by rw [hw, Ny253.out]; exact HP35.1); clear HP35; replace HO_6 := A_ (Kd.R_after (v := (.slice (some ⟨go34, 0, none⟩) x5_4.length co16)) (v1 := (.slice (some ⟨go34, 0, none⟩) x5_4.length co16)) (ok := (fun _ => True)) (by (with_reducible repeat (first | apply Kd.R_alloc | apply Kd.R_drewN | apply Kd.R_drew)); exact Kd.R_mono HO_6.out (fun _ hk => ⟨trivial, hk⟩)) hg (.inl rfl)); replace BK237 := A_ (blk_grown (g := gb237) (o := .cells #[.int .i64 a0_0, .int .i64 a0_1] 25 (0, 0)) (M.Lb BK237) hg (Kd.R_ne HO_5.out BK237.out (by decide))); replace HO_5 := A_ (hp_); replace HB := A_ ((by rw [hw]; exact below_set (HB.out) GB34.out : Below w.heap.size w w36)); clear hg hw hp_))
              (try simp only [← hl5_4])
              go_roundg k4
              case measure => have := HK1.out; have := HJ13.out; have := HJ24.out; have := HK4.out; omega
              case rel => exact ⟨(y253), (wrap64 (x11_4 - 1)), q1_, H', ⟨by have := HK1.out; have := HJ13.out; have := HJ24.out; have := HK4.out; omega⟩, ⟨by (try simp only [hl5_4]); (with_reducible repeat (first | apply Kd.R_alloc | apply Kd.R_drewN | apply Kd.R_drew)); exact HO_5.out⟩, ⟨by (try simp only [hl5_4]); (with_reducible repeat (first | apply Kd.R_alloc | apply Kd.R_drewN | apply Kd.R_drew)); exact Kd.R_mono HO_6.out (fun _ hk => hk.2)⟩, ⟨by (try simp only [hl5_4]); (with_reducible repeat (first | refine blk_drewN ?_ _ | refine blk_drew ?_ | refine blk_alloc ?_ _)); exact BK237.out⟩, ⟨q0_⟩⟩
             ·rw [if_neg c33] at H
              have c33b0 : ((rd x5_4 x11_4) == 3) = false := beq_eq_false_iff_ne.mpr c33
              have c33b1 : ((rd x5_4 x11_4) != 3) = true := bne_iff_ne.mpr c33
              by_cases c37 : x11_4 < 0
              ·rw [if_pos c37] at H
               have c37b0 : decide (x11_4 < 0) = true := decide_eq_true c37
               clear c37
               simp only [Option.some.injEq, Prod.mk.injEq] at H
               obtain ⟨rfl, rfl, rfl⟩ := H
               have p252 : 0 ≤ (x11_4 : Int) := of_decide_eq_true q5_
               have q252 : x11_4 < (x5_4.length : Int) := of_decide_eq_true q5_
               obtain ⟨ad252, e252, hx252_0⟩ := Kd.at_int (Kd.R_reads' HO_5.out).2.2 x11_4 p252 q252
               cases e252
               replace p252 := eq_true p252
               replace q252 := eq_true q252
               go_wp2
               go_ret3
               exact ⟨_, q7_, by (with_reducible repeat (first | apply Kd.R_alloc | apply Kd.R_drewN | apply Kd.R_drew)); exact Kd.R_mono HO_6.out (fun _ hk => trivial), q0_⟩
              ·rw [if_neg c37] at H
               have c37b0 : decide (x11_4 < 0) = false := decide_eq_false c37
               clear c37
               obtain ⟨y255, hy255⟩ : ∃ y_ : List Int, y_ = (x5_4.set (x11_4 : Int).toNat (wrap64 ((rd x5_4 x11_4) + 1))) := ⟨_, rfl⟩
               replace H : (impl_WeightsFor.l0 k4 y255 x6_24 x7_24 x8_24 a0_0 a0_1) = some (r1, r2, r3) := by first | (rw [hy255]; with_reducible exact H) | (have H2_ := (Option.bind_some _ _).symm.trans H; rw [hy255]; with_reducible exact H2_) | (have H2_ := (Option.bind_some _ _).symm.trans H; with_reducible exact H2_) | with_reducible exact H | (rw [hy255]; exact H) | exact H
               have Ny255 := A_ hy255; clear hy255
               have H' := A_ H
               clear H
               have p252 : 0 ≤ (x11_4 : Int) := of_decide_eq_true q5_
               have q252 : x11_4 < (x5_4.length : Int) := of_decide_eq_true q5_
               obtain ⟨ad252, e252, hx252_0⟩ := Kd.at_int (Kd.R_reads' HO_5.out).2.2 x11_4 p252 q252
               cases e252
               replace p252 := eq_true p252
               replace q252 := eq_true q252
               have p254 : 0 ≤ (x11_4 : Int) := of_decide_eq_true q5_
               have q254 : x11_4 < (x5_4.length : Int) := of_decide_eq_true q5_
               obtain ⟨ad254, e254, hx254_0⟩ := Kd.at_int (Kd.R_reads' HO_5.out).2.2 x11_4 p254 q254
               obtain rfl : ad252 = ad254 := (by injection e254)
               replace p254 := eq_true p254
               replace q254 := eq_true q254
               have p38 : 0 ≤ (x11_4 : Int) := of_decide_eq_true q5_
               have q38 : (x11_4 : Int) < ((x5_4.length : Int) : Int) := of_decide_eq_true q5_
               obtain ⟨go38, co38, eo38, gb38, gl38, cl38, HG38⟩ := Kd.R_form HO_5.out (by omega)
               (first | cases eo38 | (injection eo38 with ea_ en_ ec_; (first | subst ea_ | (injection ea_ with ea_; subst ea_)); subst ec_; clear en_))
               have GB38 := A_ gb38; have GG38 := A_ HG38; clear gb38 gl38 HG38
               (first | simp only [add_plain] at hx252_0 | skip)
               (first | simp only [add_plain] at hx254_0 | skip)
               obtain ⟨hx38_0, hf38_0⟩ := Kd.R_celln 0 HO_5.out (x11_4 : Int) p38 q38
               replace p38 := eq_true p38
               replace q38 := eq_true q38
               have HP39 := Kd.R_putg HO_5.out (x11_4 : Int) (wrap64 ((rd x5_4 x11_4) + 1))
               go_wp2_with (first | ((with_reducible refine gate_store (t := 3) (p := 67) rfl ?_); refine store_event (t := 3) (p := 67) (v := ?vo_w40) (w1 := (wr.setCell ⟨go38, (x11_4 : Int).toNat, none⟩ (.int .i64 (wrap64 ((rd x5_4 x11_4) + 1))))) ?hg ?ho ?hn ?hr ?_; (case ho => rfl); (case hg => rfl); (case hn => rfl); (case hr => first | (go_simp; done) | (go_simp; rfl)); intro w40 hw; have hg : wr.grownBy w40 (some go38) := (by rw [hw]; exact HP39.2); have hp_ : Kd.R (Kd.int .i64) 3 w40 w.heap.size (fun k_ => some k_ ≠ (u6 : Value).ownBlock) (.slice (some ⟨go38, 0, none⟩) x5_4.length co16) y255 := (by rw [hw, Ny255.out]; exact HP39.1); clear HP39; replace HO_6 := A_ (Kd.R_after (v := (.slice (some ⟨go38, 0, none⟩) x5_4.length co16)) (v1 := (.slice (some ⟨go38, 0, none⟩) x5_4.length co16)) (ok := (fun _ => True)) (by (with_reducible repeat (first | apply Kd.R_alloc | apply Kd.R_drewN | apply Kd.R_drew)); exact Kd.R_mono HO_6.out (fun _ hk => ⟨trivial, hk⟩)) hg (.inl rfl)); replace BK237 := A_ (blk_grown (g := gb237) (o := .cells #[.int .i64 a0_0, .int .i64 a0_1] 25 (0, 0)) (M.Lb BK237) hg (Kd.R_ne HO_5.out BK237.out (by decide))); replace HO_5 := A_ (hp_); replace HB := A_ ((by rw [hw]; exact below_set (HB.out) GB38.out : Below w.heap.size w w40)); clear hg hw hp_))
               (try simp only [← hl5_4])
               go_roundg k4
               case measure => have := HK1.out; have := HJ13.out; have := HJ24.out; have := HK4.out; omega
               case rel => exact ⟨(y255), (x6_24), (x7_24), (x8_24), q1_, q1_, H', ⟨by have := HK1.out; have := HJ13.out; have := HJ24.out; have := HK4.out; omega⟩, ⟨by (try simp only [hl5_4]); (with_reducible repeat (first | apply Kd.R_alloc | apply Kd.R_drewN | apply Kd.R_drew)); exact HO_5.out⟩, ⟨by (try simp only [hl5_4]); (with_reducible repeat (first | apply Kd.R_alloc | apply Kd.R_drewN | apply Kd.R_drew)); exact Kd.R_mono HO_6.out (fun _ hk => hk.2)⟩, ⟨by (try simp only [hl5_4]); (with_reducible repeat (first | refine blk_drewN ?_ _ | refine blk_drew ?_ | refine blk_alloc ?_ _)); exact BK237.out⟩, ⟨q0_⟩⟩
            ·rw [if_neg c32] at H
             exact absurd H (by simp)
           ·rw [if_neg c31] at H
            exact absurd H (by simp)
          ·rw [if_neg c30] at H
           have c30b0 : decide (0 ≤ x11_4) = false := decide_eq_false c30
           clear c30
           by_cases c41 : x11_4 < 0
           ·rw [if_pos c41] at H
            have c41b0 : decide (x11_4 < 0) = true := decide_eq_true c41
            clear c41
            simp only [Option.some.injEq, Prod.mk.injEq] at H
            obtain ⟨rfl, rfl, rfl⟩ := H
            go_wp2
            go_ret3
            exact ⟨_, q7_, by (with_reducible repeat (first | apply Kd.R_alloc | apply Kd.R_drewN | apply Kd.R_drew)); exact Kd.R_mono HO_6.out (fun _ hk => trivial), q0_⟩
           ·rw [if_neg c41] at H
            exfalso; have hsg_ := of_decide_eq_false c30b0; omega
 ·replace c3 := Bool.eq_false_iff.mpr c3
  subst c3
  have H1 : (some (([] : List Int), 0, false)) = some (r1, r2, r3) := by rw [if_neg (show ¬ (false = true) by decide)] at H; exact H
  clear H; have H := H1; clear H1
  simp only [Option.some.injEq, Prod.mk.injEq] at H
  obtain ⟨rfl, rfl, rfl⟩ := H
  go_enter Try.func6, Try.ntmps6
  go_wp2_with (first | ((with_reducible refine gate_dst (N := 1) rfl ?_); refine box_event ?hg (N := 1) ?hd (cs := #[.int .i64 a0_0, .int .i64 a0_1]) (t := 25) ?hr ?_; (case hd => rfl); (case hg => rfl); (case hr => first | (go_simp; done) | (go_simp; rfl)); intro gb237 hg w47 hbox hb; have BK237 := A_ (hbox); have GW237 := A_ ((by rw [hg]; exact (below_size q0_) : w.heap.size ≤ gb237)); have GE237 := A_ ((by rw [hg]; exact (below_size q0_) : w.heap.size ≤ gb237)); replace HB := A_ (below_step q0_ hb); clear hb hbox hg; have hcz48_0 := c20_ BK237; have hcz48_1 := c21_ BK237; have hfz48_0 := blk_frozen BK237.out 0; have hfz48_1 := blk_frozen BK237.out 1) | ((with_reducible refine gate_callee (f := 30) rfl ?_); refine goesL_ (some 13) rfl rfl Try.func30 kr_ rfl #[.agg #[.int .i64 a0_0, .int .i64 a0_1], .int .i64 4] rfl q2_ ?_; (with_reducible refine (impl_isSmall.calls a0_0 a0_1 4 false _ A2.out).mono ?_); rintro e w49 ⟨rfl, hb⟩; refine ⟨_, rfl, ?_⟩; replace BK237 := A_ (blk_below (M.Lb BK237) hb); replace HB := A_ (below_step q0_ hb); (try clear hb); (try clear hb2); (try clear hk); (try clear hi)))
  go_ret3
  exact ⟨_, q7_, q17_, q0_⟩
def spec_IsTable.f (a0_0 : Int) (a0_1 : Int) : Option (Bool) := (spec_l1In.f a0_0 0 5).bind fun t259 => (if t259 = true then (if 0 ≤ a0_0 then ((spec_l1In.f a0_1 0 (wrap64 ((shl .i64 1 (shl .u64 1 a0_0)) - 1))).bind fun t260 => (some t260)) else (none)) else (some false))
theorem spec_IsTable.calls (a0_0 : Int) (a0_1 : Int) (r : Bool) (w : World) (h : spec_IsTable.f a0_0 a0_1 = some r) :
  Calls Try.prog 16 #[.agg #[.int .i64 a0_0, .int .i64 a0_1]] w fun e w' => e = .returned (.bool r) ∧ Below w.heap.size w w' := by
 have hu25 := Try.underlying25
 have HB := A_ (Below.refl w.heap.size w)
 have H : ((spec_l1In.f a0_0 0 5).bind fun t259 => (if t259 = true then (if 0 ≤ a0_0 then ((spec_l1In.f a0_1 0 (wrap64 ((shl .i64 1 (shl .u64 1 a0_0)) - 1))).bind fun t260 => (some t260)) else (none)) else (some false))) = some r := h
 clear h; replace H := Option.bind_eq_some_iff.mp H; obtain ⟨t259, A20, H⟩ := H; (try dsimp only at H); have A2 := A_ A20; clear A20
 by_cases c3 : t259 = true
 ·subst c3
  have H1 : (if 0 ≤ a0_0 then ((spec_l1In.f a0_1 0 (wrap64 ((shl .i64 1 (shl .u64 1 a0_0)) - 1))).bind fun t260 => (some t260)) else (none)) = some r := by rw [if_pos rfl] at H; exact H
  clear H; have H := H1; clear H1
  by_cases c4 : 0 ≤ a0_0
  ·rw [if_pos c4] at H
   have c4b0 := eq_true c4
   have c4b1 : decide (0 ≤ a0_0) = true := decide_eq_true c4
   clear c4
   obtain ⟨ji5, hji5⟩ : ∃ j_ : Int, (shl .u64 1 a0_0) = j_ := ⟨_, rfl⟩
   replace H : ((spec_l1In.f a0_1 0 (wrap64 ((shl .i64 1 (ji5)) - 1))).bind fun t260 => (some t260)) = some r := q13_
   (try rw [hji5] at A2)
   have hji5_ : (IntKind.u64.wrap (1 * 2 ^ min a0_0.toNat 64)) = ji5 := hji5
   have hji5z : a0_0 ≤ 64 → (IntKind.u64.wrap (1 * 2 ^ a0_0.toNat)) = ji5 := shl_small hji5
   have hji5n0 : 0 ≤ ji5 := by rw [← hji5]; exact shl_u_nn _ _
   have hji5n1 := eq_true hji5n0
   have hji5n2 : decide (0 ≤ ji5) = true := decide_eq_true hji5n0
   have hji5u : (IntKind.u64.wrap (2 ^ min a0_0.toNat 64)) = ji5 := by have h_ := hji5_; rw [Int.one_mul] at h_; exact h_
   have hji5v : a0_0 ≤ 64 → (IntKind.u64.wrap (2 ^ a0_0.toNat)) = ji5 := fun hle_ => by have h_ := hji5z hle_; rw [Int.one_mul] at h_; exact h_
   obtain ⟨ji6, hji6⟩ : ∃ j_ : Int, (shl .i64 1 (ji5)) = j_ := ⟨_, rfl⟩
   replace H : ((spec_l1In.f a0_1 0 (wrap64 ((ji6) - 1))).bind fun t260 => (some t260)) = some r := by first | (rw [hji6] at H; exact H) | (simp only [hji6] at H ⊢; exact H)
   (try rw [hji6] at A2)
   have hji6_ : (IntKind.i64.wrap (1 * 2 ^ min (ji5).toNat 64)) = ji6 := hji6
   have hji6z : (ji5) ≤ 64 → (IntKind.i64.wrap (1 * 2 ^ (ji5).toNat)) = ji6 := shl_small hji6
   have hji6u : (IntKind.i64.wrap (2 ^ min (ji5).toNat 64)) = ji6 := by have h_ := hji6_; rw [Int.one_mul] at h_; exact h_
   have hji6v : (ji5) ≤ 64 → (IntKind.i64.wrap (2 ^ (ji5).toNat)) = ji6 := fun hle_ => by have h_ := hji6z hle_; rw [Int.one_mul] at h_; exact h_
   have hji6y : (wrap64 (1 * 2 ^ min (ji5).toNat 64)) = ji6 := (i64_w _).symm.trans hji6_
   have hji6x : (ji5) ≤ 64 → (wrap64 (1 * 2 ^ (ji5).toNat)) = ji6 := fun h_ => (i64_w _).symm.trans (hji6z h_)
   replace H := Option.bind_eq_some_iff.mp H; obtain ⟨t260, A70, H⟩ := H
   replace H : (some t260) = some r := H
   have A7 := A_ A70; clear A70
   obtain rfl := Option.some.inj H
   go_enter Try.func16, Try.ntmps16
   go_wp2_with (first | ((with_reducible refine gate_dst (N := 1) rfl ?_); refine box_event ?hg (N := 1) ?hd (cs := #[.int .i64 a0_0, .int .i64 a0_1]) (t := 25) ?hr ?_; (case hd => rfl); (case hg => rfl); (case hr => first | (go_simp; done) | (go_simp; rfl)); intro gb258 hg w8 hbox hb; have BK258 := A_ (hbox); have GW258 := A_ ((by rw [hg]; exact (below_size q0_) : w.heap.size ≤ gb258)); have GE258 := A_ ((by rw [hg]; exact (below_size q0_) : w.heap.size ≤ gb258)); replace HB := A_ (below_step q0_ hb); clear hb hbox hg; have hcz9_0 := c20_ BK258; have hcz9_1 := c21_ BK258; have hfz9_0 := blk_frozen BK258.out 0; have hfz9_1 := blk_frozen BK258.out 1) | (go_at_call 49; (with_reducible refine (spec_l1In.calls a0_0 0 5 true _ A2.out).mono ?_); rintro e w' ⟨rfl, ⟨nd, rfl⟩⟩; (try exact q12_)) | (go_at_call 49; (with_reducible refine (spec_l1In.calls a0_1 0 (wrap64 ((ji6) - 1)) t260 _ A7.out).mono ?_); rintro e w' ⟨rfl, ⟨nd, rfl⟩⟩; (try exact q12_)))
   repeat (go_quiet (first | ((with_reducible refine gate_dst (N := 1) rfl ?_); refine box_event ?hg (N := 1) ?hd (cs := #[.int .i64 a0_0, .int .i64 a0_1]) (t := 25) ?hr ?_; (case hd => rfl); (case hg => rfl); (case hr => first | (go_simp; done) | (go_simp; rfl)); intro gb258 hg w8 hbox hb; have BK258 := A_ (hbox); have GW258 := A_ ((by rw [hg]; exact (below_size q0_) : w.heap.size ≤ gb258)); have GE258 := A_ ((by rw [hg]; exact (below_size q0_) : w.heap.size ≤ gb258)); replace HB := A_ (below_step q0_ hb); clear hb hbox hg; have hcz9_0 := c20_ BK258; have hcz9_1 := c21_ BK258; have hfz9_0 := blk_frozen BK258.out 0; have hfz9_1 := blk_frozen BK258.out 1) | (go_at_call 49; (with_reducible refine (spec_l1In.calls a0_0 0 5 true _ A2.out).mono ?_); rintro e w' ⟨rfl, ⟨nd, rfl⟩⟩; (try exact q12_)) | (go_at_call 49; (with_reducible refine (spec_l1In.calls a0_1 0 (wrap64 ((ji6) - 1)) t260 _ A7.out).mono ?_); rintro e w' ⟨rfl, ⟨nd, rfl⟩⟩; (try exact q12_))); try go_wp2_with (first | ((with_reducible refine gate_dst (N := 1) rfl ?_); refine box_event ?hg (N := 1) ?hd (cs := #[.int .i64 a0_0, .int .i64 a0_1]) (t := 25) ?hr ?_; (case hd => rfl); (case hg => rfl); (case hr => first | (go_simp; done) | (go_simp; rfl)); intro gb258 hg w8 hbox hb; have BK258 := A_ (hbox); have GW258 := A_ ((by rw [hg]; exact (below_size q0_) : w.heap.size ≤ gb258)); have GE258 := A_ ((by rw [hg]; exact (below_size q0_) : w.heap.size ≤ gb258)); replace HB := A_ (below_step q0_ hb); clear hb hbox hg; have hcz9_0 := c20_ BK258; have hcz9_1 := c21_ BK258; have hfz9_0 := blk_frozen BK258.out 0; have hfz9_1 := blk_frozen BK258.out 1) | (go_at_call 49; (with_reducible refine (spec_l1In.calls a0_0 0 5 true _ A2.out).mono ?_); rintro e w' ⟨rfl, ⟨nd, rfl⟩⟩; (try exact q12_)) | (go_at_call 49; (with_reducible refine (spec_l1In.calls a0_1 0 (wrap64 ((ji6) - 1)) t260 _ A7.out).mono ?_); rintro e w' ⟨rfl, ⟨nd, rfl⟩⟩; (try exact q12_))))
   go_ret
   exact ⟨by first | rfl | (simp [errW_none, errW_some] <;> rfl) | (simp only [← hji5, ← hji6]; first | rfl | (simp [errW_none, errW_some] <;> rfl)) | (simp [*, errW_none, errW_some] <;> rfl), q0_⟩
  ·rw [if_neg c4] at H
   exact absurd H (by simp)
 ·replace c3 := Bool.eq_false_iff.mpr c3
  subst c3
  have H1 : (some false) = some r := by rw [if_neg (show ¬ (false = true) by decide)] at H; exact H
  clear H; have H := H1; clear H1
  obtain rfl := Option.some.inj H
  go_enter Try.func16, Try.ntmps16
  go_wp2_with (first | ((with_reducible refine gate_dst (N := 1) rfl ?_); refine box_event ?hg (N := 1) ?hd (cs := #[.int .i64 a0_0, .int .i64 a0_1]) (t := 25) ?hr ?_; (case hd => rfl); (case hg => rfl); (case hr => first | (go_simp; done) | (go_simp; rfl)); intro gb258 hg w10 hbox hb; have BK258 := A_ (hbox); have GW258 := A_ ((by rw [hg]; exact (below_size q0_) : w.heap.size ≤ gb258)); have GE258 := A_ ((by rw [hg]; exact (below_size q0_) : w.heap.size ≤ gb258)); replace HB := A_ (below_step q0_ hb); clear hb hbox hg; have hcz11_0 := c20_ BK258; have hcz11_1 := c21_ BK258; have hfz11_0 := blk_frozen BK258.out 0; have hfz11_1 := blk_frozen BK258.out 1) | (go_at_call 49; (with_reducible refine (spec_l1In.calls a0_0 0 5 false _ A2.out).mono ?_); rintro e w' ⟨rfl, ⟨nd, rfl⟩⟩; (try exact q12_)))
  repeat (go_quiet (first | ((with_reducible refine gate_dst (N := 1) rfl ?_); refine box_event ?hg (N := 1) ?hd (cs := #[.int .i64 a0_0, .int .i64 a0_1]) (t := 25) ?hr ?_; (case hd => rfl); (case hg => rfl); (case hr => first | (go_simp; done) | (go_simp; rfl)); intro gb258 hg w10 hbox hb; have BK258 := A_ (hbox); have GW258 := A_ ((by rw [hg]; exact (below_size q0_) : w.heap.size ≤ gb258)); have GE258 := A_ ((by rw [hg]; exact (below_size q0_) : w.heap.size ≤ gb258)); replace HB := A_ (below_step q0_ hb); clear hb hbox hg; have hcz11_0 := c20_ BK258; have hcz11_1 := c21_ BK258; have hfz11_0 := blk_frozen BK258.out 0; have hfz11_1 := blk_frozen BK258.out 1) | (go_at_call 49; (with_reducible refine (spec_l1In.calls a0_0 0 5 false _ A2.out).mono ?_); rintro e w' ⟨rfl, ⟨nd, rfl⟩⟩; (try exact q12_))); try go_wp2_with (first | ((with_reducible refine gate_dst (N := 1) rfl ?_); refine box_event ?hg (N := 1) ?hd (cs := #[.int .i64 a0_0, .int .i64 a0_1]) (t := 25) ?hr ?_; (case hd => rfl); (case hg => rfl); (case hr => first | (go_simp; done) | (go_simp; rfl)); intro gb258 hg w10 hbox hb; have BK258 := A_ (hbox); have GW258 := A_ ((by rw [hg]; exact (below_size q0_) : w.heap.size ≤ gb258)); have GE258 := A_ ((by rw [hg]; exact (below_size q0_) : w.heap.size ≤ gb258)); replace HB := A_ (below_step q0_ hb); clear hb hbox hg; have hcz11_0 := c20_ BK258; have hcz11_1 := c21_ BK258; have hfz11_0 := blk_frozen BK258.out 0; have hfz11_1 := blk_frozen BK258.out 1) | (go_at_call 49; (with_reducible refine (spec_l1In.calls a0_0 0 5 false _ A2.out).mono ?_); rintro e w' ⟨rfl, ⟨nd, rfl⟩⟩; (try exact q12_))))
  go_ret
  exact ⟨q7_, q0_⟩
def spec_l16Fits.l0 : Nat → List Int → Int → Int → Int → Int → Int → Option (Int × Bool)
 | 0, _, _, _, _, _, _ => none
 | k + 1, x1, x6, x7, x8, x262000, x262001 => if 0 ≤ x262000 then (if x8 < (shl .i64 1 x262000) then ((spec_l16Sum.f k x1 x8).bind fun t262 => (if 0 ≤ x8 then (if (Go.bits .and .i64 (shr .i64 x262001 x8) 1) = 1 then (spec_l16Fits.l0 k x1 (mn x6 t262) x7 (wrap64 (x8 + 1)) x262000 x262001) else (spec_l16Fits.l0 k x1 x6 (mx x7 t262) (wrap64 (x8 + 1)) x262000 x262001)) else (none))) else (if x6 = 100 then (some (wrap64 (x7 + 1), true)) else (some (x6, decide (x7 < x6))))) else (none)
def spec_l16Fits.f (k : Nat) (a0_0 : Int) (a0_1 : Int) (l1 : List Int) : Option (Int × Bool) := spec_l16Fits.l0 k l1 100 (-100) 0 a0_0 a0_1
theorem spec_l16Fits.calls (k : Nat) (a0_0 : Int) (a0_1 : Int) (A1 : Option Addr) (c1 : Nat) (l1 : List Int) (r1 : Int) (r2 : Bool) (w : World) (hr1 : Kd.C (Kd.int .i64) w A1 l1.length l1) (hc1 : l1.length ≤ c1) (h : spec_l16Fits.f k a0_0 a0_1 l1 = some (r1, r2)) :
  Calls Try.prog 35 #[.agg #[.int .i64 a0_0, .int .i64 a0_1], .slice A1 l1.length c1] w fun e w' => e = .returned (.tuple #[.int .i64 r1, .bool r2]) ∧ Below w.heap.size w w' := by
 have hu25 := Try.underlying25
 have HR1 := A_ hr1; have HC1 := A_ hc1; clear hr1 hc1
 have HB := A_ (Below.refl w.heap.size w)
 have H : (spec_l16Fits.l0 k l1 100 (-100) 0 a0_0 a0_1) = some (r1, r2) := h
 clear h
 have H' := A_ H
 clear H
 go_enter Try.func35, Try.ntmps35
 go_wp2_with (first | ((with_reducible refine gate_dst (N := 2) rfl ?_); refine box_event ?hg (N := 2) ?hd (cs := #[.int .i64 a0_0, .int .i64 a0_1]) (t := 25) ?hr ?_; (case hd => rfl); (case hg => rfl); (case hr => first | (go_simp; done) | (go_simp; rfl)); intro gb261 hg w3 hbox hb; have BK261 := A_ (hbox); have GW261 := A_ ((by rw [hg]; exact (below_size q0_) : w.heap.size ≤ gb261)); have GE261 := A_ ((by rw [hg]; exact (below_size q0_) : w.heap.size ≤ gb261)); replace HB := A_ (below_step q0_ hb); clear hb hbox hg))
 go_loopg [6, 7, 8] k (fun kq v6 v7 v8 w' => ∃ (x6_1 : Int) (x7_1 : Int) (x8_1 : Int), v6 = .int .i64 x6_1 ∧ v7 = .int .i64 x7_1 ∧ v8 = .int .i64 x8_1 ∧ Aside0 (spec_l16Fits.l0 kq l1 x6_1 x7_1 x8_1 a0_0 a0_1 = some (r1, r2)) ∧ Aside0 (kq ≤ k) ∧ Aside0 (w'.heap[gb261]? = some (.cells #[.int .i64 a0_0, .int .i64 a0_1] 25 (0, 0))) ∧ Aside0 (Below w.heap.size w w'))
 case atStart => exact ⟨(100), ((-100)), (0), q1_, q1_, q1_, H', ⟨Nat.le_refl _⟩, ⟨M.Lb BK261⟩, ⟨q0_⟩⟩
 case round =>
  clear H'; (try clear c1); (try clear p2); (try clear c3); obtain ⟨x6_1, x7_1, x8_1, rfl, rfl, rfl, HA, HK1, BK261, HB⟩ := hrel
  cases gk with
  | zero => exact absurd HA.out (by simp [spec_l16Fits.l0])
  | succ k1 =>
   have H := HA.out
   clear HA
   simp only [spec_l16Fits.l0] at H
   by_cases c4 : 0 ≤ a0_0
   ·rw [if_pos c4] at H
    have c4b0 := eq_true c4
    have c4b1 : decide (0 ≤ a0_0) = true := decide_eq_true c4
    clear c4
    obtain ⟨ji5, hji5⟩ : ∃ j_ : Int, (shl .i64 1 a0_0) = j_ := ⟨_, rfl⟩
    replace H : (if x8_1 < (ji5) then ((spec_l16Sum.f k1 l1 x8_1).bind fun t262 => (if 0 ≤ x8_1 then (if (Go.bits .and .i64 (shr .i64 a0_1 x8_1) 1) = 1 then (spec_l16Fits.l0 k1 l1 (mn x6_1 t262) x7_1 (wrap64 (x8_1 + 1)) a0_0 a0_1) else (spec_l16Fits.l0 k1 l1 x6_1 (mx x7_1 t262) (wrap64 (x8_1 + 1)) a0_0 a0_1)) else (none))) else (if x6_1 = 100 then (some (wrap64 (x7_1 + 1), true)) else (some (x6_1, decide (x7_1 < x6_1))))) = some (r1, r2) := q13_
    have hji5_ : (IntKind.i64.wrap (1 * 2 ^ min a0_0.toNat 64)) = ji5 := hji5
    have hji5z : a0_0 ≤ 64 → (IntKind.i64.wrap (1 * 2 ^ a0_0.toNat)) = ji5 := shl_small hji5
    have hji5u : (IntKind.i64.wrap (2 ^ min a0_0.toNat 64)) = ji5 := by have h_ := hji5_; rw [Int.one_mul] at h_; exact h_
    have hji5v : a0_0 ≤ 64 → (IntKind.i64.wrap (2 ^ a0_0.toNat)) = ji5 := fun hle_ => by have h_ := hji5z hle_; rw [Int.one_mul] at h_; exact h_
    have hji5y : (wrap64 (1 * 2 ^ min a0_0.toNat 64)) = ji5 := (i64_w _).symm.trans hji5_
    have hji5x : a0_0 ≤ 64 → (wrap64 (1 * 2 ^ a0_0.toNat)) = ji5 := fun h_ => (i64_w _).symm.trans (hji5z h_)
    by_cases c6 : x8_1 < (ji5)
    ·rw [if_pos c6] at H
     have c6b0 : decide (x8_1 < (ji5)) = true := decide_eq_true c6
     clear c6; replace H := Option.bind_eq_some_iff.mp H; obtain ⟨t262, A70, H⟩ := H; (try dsimp only at H); have A7 := A_ A70; clear A70
     by_cases c8 : 0 ≤ x8_1
     ·rw [if_pos c8] at H
      have c8b0 := eq_true c8
      have c8b1 : decide (0 ≤ x8_1) = true := decide_eq_true c8
      clear c8
      obtain ⟨ji9, hji9⟩ : ∃ j_ : Int, (shr .i64 a0_1 x8_1) = j_ := ⟨_, rfl⟩
      replace H : (if (Go.bits .and .i64 (ji9) 1) = 1 then (spec_l16Fits.l0 k1 l1 (mn x6_1 t262) x7_1 (wrap64 (x8_1 + 1)) a0_0 a0_1) else (spec_l16Fits.l0 k1 l1 x6_1 (mx x7_1 t262) (wrap64 (x8_1 + 1)) a0_0 a0_1)) = some (r1, r2) := by first | (rw [hji9] at H; exact H) | (simp only [hji9] at H ⊢; exact H)
      (try rw [hji9] at A7)
      have hji9_ : (a0_1 / 2 ^ min x8_1.toNat 64) = ji9 := hji9
      have hji9z : x8_1 ≤ 64 → (a0_1 / 2 ^ x8_1.toNat) = ji9 := shr_small hji9
      by_cases c10 : (Go.bits .and .i64 (ji9) 1) = 1
      ·rw [if_pos c10] at H
       have c10b0 : ((Go.bits .and .i64 (ji9) 1) == 1) = true := beq_iff_eq.mpr c10
       have c10b1 : ((Go.bits .and .i64 (ji9) 1) != 1) = false := bne_eq_false_iff_eq.mpr c10
       clear c10
       obtain ⟨ji11, hji11⟩ : ∃ j_ : Int, (mn x6_1 t262) = j_ := ⟨_, rfl⟩
       replace H : (spec_l16Fits.l0 k1 l1 ji11 x7_1 (wrap64 (x8_1 + 1)) a0_0 a0_1) = some (r1, r2) := by first | (rw [hji11] at H; exact H) | (simp only [hji11] at H ⊢; exact H)
       (try rw [hji11] at A7)
       have hji11_ : (if t262 < x6_1 then t262 else x6_1) = ji11 := hji11
       have H' := A_ H
       clear H
       have hcz12_0 := c20_ BK261
       have hcz12_1 := c21_ BK261
       have hfz12_0 := blk_frozen BK261.out 0
       have hfz12_1 := blk_frozen BK261.out 1
       go_wp2_with (first | ((with_reducible refine gate_callee (f := 53) rfl ?_); refine goesL_ (some 19) rfl rfl Try.func53 kr_ rfl #[.slice A1 l1.length c1, .int .i64 x8_1] rfl q2_ ?_; (with_reducible refine (spec_l16Sum.calls k1 _ _ l1 x8_1 t262 _ ?side1 ?side2 A7.out).mono ?_); (case side1 => exact q18_); (case side2 => exact HC1.out); rintro e w' ⟨rfl, ⟨nd, rfl⟩⟩; refine ⟨_, rfl, ?_⟩))
       go_roundg k1
       case measure => have := HK1.out; omega
       case rel => exact ⟨(ji11), (x7_1), (wrap64 (x8_1 + 1)), (by first | rfl | (simp; done) | (simp only [← hji11] <;> (first | rfl | simp)) | (simp [*]; done)), q1_, q1_, H', ⟨by have := HK1.out; omega⟩, ⟨M.Lb BK261⟩, ⟨q0_⟩⟩
      ·rw [if_neg c10] at H
       have c10b0 : ((Go.bits .and .i64 (ji9) 1) == 1) = false := beq_eq_false_iff_ne.mpr c10
       have c10b1 : ((Go.bits .and .i64 (ji9) 1) != 1) = true := bne_iff_ne.mpr c10
       obtain ⟨ji13, hji13⟩ : ∃ j_ : Int, (mx x7_1 t262) = j_ := ⟨_, rfl⟩
       replace H : (spec_l16Fits.l0 k1 l1 x6_1 ji13 (wrap64 (x8_1 + 1)) a0_0 a0_1) = some (r1, r2) := by first | (rw [hji13] at H; exact H) | (simp only [hji13] at H ⊢; exact H)
       (try rw [hji13] at A7)
       have hji13_ : (if x7_1 < t262 then t262 else x7_1) = ji13 := hji13
       have H' := A_ H
       clear H
       have hcz14_0 := c20_ BK261
       have hcz14_1 := c21_ BK261
       have hfz14_0 := blk_frozen BK261.out 0
       have hfz14_1 := blk_frozen BK261.out 1
       go_wp2_with (first | ((with_reducible refine gate_callee (f := 53) rfl ?_); refine goesL_ (some 19) rfl rfl Try.func53 kr_ rfl #[.slice A1 l1.length c1, .int .i64 x8_1] rfl q2_ ?_; (with_reducible refine (spec_l16Sum.calls k1 _ _ l1 x8_1 t262 _ ?side1 ?side2 A7.out).mono ?_); (case side1 => exact q18_); (case side2 => exact HC1.out); rintro e w' ⟨rfl, ⟨nd, rfl⟩⟩; refine ⟨_, rfl, ?_⟩))
       go_roundg k1
       case measure => have := HK1.out; omega
       case rel => exact ⟨(x6_1), (ji13), (wrap64 (x8_1 + 1)), q1_, (by first | rfl | (simp; done) | (simp only [← hji13] <;> (first | rfl | simp)) | (simp [*]; done)), q1_, H', ⟨by have := HK1.out; omega⟩, ⟨M.Lb BK261⟩, ⟨q0_⟩⟩
     ·rw [if_neg c8] at H
      exact absurd H (by simp)
    ·rw [if_neg c6] at H
     have c6b0 : decide (x8_1 < (ji5)) = false := decide_eq_false c6
     clear c6
     by_cases c15 : x6_1 = 100
     ·rw [if_pos c15] at H
      have c15b0 : (x6_1 == 100) = true := beq_iff_eq.mpr c15
      have c15b1 : (x6_1 != 100) = false := bne_eq_false_iff_eq.mpr c15
      clear c15
      simp only [Option.some.injEq, Prod.mk.injEq] at H
      obtain ⟨rfl, rfl⟩ := H
      have hcz16_0 := c20_ BK261
      have hcz16_1 := c21_ BK261
      have hfz16_0 := blk_frozen BK261.out 0
      have hfz16_1 := blk_frozen BK261.out 1
      go_wp2
      go_ret2
      exact ⟨q16_, q0_⟩
     ·rw [if_neg c15] at H
      have c15b0 : (x6_1 == 100) = false := beq_eq_false_iff_ne.mpr c15
      have c15b1 : (x6_1 != 100) = true := bne_iff_ne.mpr c15
      simp only [Option.some.injEq, Prod.mk.injEq] at H
      obtain ⟨rfl, rfl⟩ := H
      have hcz17_0 := c20_ BK261
      have hcz17_1 := c21_ BK261
      have hfz17_0 := blk_frozen BK261.out 0
      have hfz17_1 := blk_frozen BK261.out 1
      go_wp2
      go_ret2
      exact ⟨q16_, q0_⟩
   ·rw [if_neg c4] at H
    exact absurd H (by simp)
mutual
def spec_WeightsFor.j0 : Nat → Bool → Int → Int → Option (List Int × Int × Bool)
 | 0, _, _, _ => none
 | k + 1, x24, x264000, x264001 => if x24 = true then (some ((([] : List Int)), 0, false)) else (spec_WeightsFor.l0 k 1 0 x264000 x264001)
def spec_WeightsFor.l0 : Nat → Int → Int → Int → Int → Option (List Int × Int × Bool)
 | 0, _, _, _, _ => none
 | k + 1, x5, x6, x264000, x264001 => if x6 < x264000 then (spec_WeightsFor.l0 k (wrap64 (x5 * 7)) (wrap64 (x6 + 1)) x264000 x264001) else (spec_WeightsFor.l1 k x5 (([] : List Int)) 100 0 0 x264000 x264001)
def spec_WeightsFor.l1 : Nat → Int → List Int → Int → Int → Int → Int → Int → Option (List Int × Int × Bool)
 | 0, _, _, _, _, _, _, _ => none
 | k + 1, x5, x7, x8, x9, x10, x264000, x264001 => if x10 < x5 then (if 0 ≤ x264000 then (if (x264000 : Int).toNat ≤ 35184372088832 then (spec_WeightsFor.l2 k x5 x7 x8 x9 x10 (List.replicate (x264000 : Int).toNat 0) x10 0 (wrap64 (x264000 - 1)) x264000 x264001) else (none)) else (none)) else (some (x7, x9, decide (x8 < 100)))
def spec_WeightsFor.l2 : Nat → Int → List Int → Int → Int → Int → List Int → Int → Int → Int → Int → Int → Option (List Int × Int × Bool)
 | 0, _, _, _, _, _, _, _, _, _, _, _ => none
 | k + 1, x5, x7, x8, x9, x10, x11, x12, x13, x14, x264000, x264001 => if x14 ≥ 0 then (if 0 ≤ x14 then (if x14 < (x11.length : Int) then ((some (x11.set (x14 : Int).toNat (wrap64 ((Int.tmod x12 7) - 3)) : List Int)).bind fun y274 => (spec_WeightsFor.l2 k x5 x7 x8 x9 x10 y274 (wrap64 (Int.tdiv x12 7)) (wrap64 (x13 + (mx (rd y274 x14) (wrap64 (-(rd y274 x14)))))) (wrap64 (x14 - 1)) x264000 x264001)) else (none)) else (none)) else (if x13 ≥ x8 then (spec_WeightsFor.l1 k x5 x7 x8 x9 (wrap64 (x10 + 1)) x264000 x264001) else ((spec_l16Fits.f k x264000 x264001 x11).bind fun bt277 => (if bt277.2 = true then (spec_WeightsFor.l1 k x5 x11 x13 bt277.1 (wrap64 (x10 + 1)) x264000 x264001) else (spec_WeightsFor.l1 k x5 x7 x8 x9 (wrap64 (x10 + 1)) x264000 x264001))))
end
def spec_WeightsFor.f (k : Nat) (a0_0 : Int) (a0_1 : Int) : Option (List Int × Int × Bool) := (spec_IsTable.f a0_0 a0_1).bind fun t264 => (if t264 = true then (spec_WeightsFor.j0 k (decide (a0_0 > 4)) a0_0 a0_1) else (spec_WeightsFor.j0 k true a0_0 a0_1))
theorem spec_WeightsFor.calls (k : Nat) (a0_0 : Int) (a0_1 : Int) (r1 : List Int) (r2 : Int) (r3 : Bool) (w : World) (h : spec_WeightsFor.f k a0_0 a0_1 = some (r1, r2, r3)) :
  Calls Try.prog 7 #[.agg #[.int .i64 a0_0, .int .i64 a0_1]] w fun e w' => ∃ v0_ : Value, e = .returned (.tuple #[v0_, .int .i64 r2, .bool r3]) ∧ Kd.R (Kd.int .i64) 3 w' w.heap.size (fun _ => True) v0_ r1 ∧ Below w.heap.size w w' := by
 have hu25 := Try.underlying25
 have HB := A_ (Below.refl w.heap.size w)
 have H : ((spec_IsTable.f a0_0 a0_1).bind fun t264 => (if t264 = true then (spec_WeightsFor.j0 k (decide (a0_0 > 4)) a0_0 a0_1) else (spec_WeightsFor.j0 k true a0_0 a0_1))) = some (r1, r2, r3) := h
 clear h; have HC2 := A_ H; clear H
 go_enter Try.func7, Try.ntmps7
 go_upto_region 1 with (first | ((with_reducible refine gate_dst (N := 1) rfl ?_); refine box_event ?hg (N := 1) ?hd (cs := #[.int .i64 a0_0, .int .i64 a0_1]) (t := 25) ?hr ?_; (case hd => rfl); (case hg => rfl); (case hr => first | (go_simp; done) | (go_simp; rfl)); intro gb263 hg w3 hbox hb; have BK263 := A_ (hbox); have GW263 := A_ ((by rw [hg]; exact (below_size q0_) : w.heap.size ≤ gb263)); have GE263 := A_ ((by rw [hg]; exact (below_size q0_) : w.heap.size ≤ gb263)); replace HB := A_ (below_step q0_ hb); clear hb hbox hg))
 repeat (go_quiet (first | ((with_reducible refine gate_dst (N := 1) rfl ?_); refine box_event ?hg (N := 1) ?hd (cs := #[.int .i64 a0_0, .int .i64 a0_1]) (t := 25) ?hr ?_; (case hd => rfl); (case hg => rfl); (case hr => first | (go_simp; done) | (go_simp; rfl)); intro gb263 hg w3 hbox hb; have BK263 := A_ (hbox); have GW263 := A_ ((by rw [hg]; exact (below_size q0_) : w.heap.size ≤ gb263)); have GE263 := A_ ((by rw [hg]; exact (below_size q0_) : w.heap.size ≤ gb263)); replace HB := A_ (below_step q0_ hb); clear hb hbox hg)); go_upto_region 1 with (first | ((with_reducible refine gate_dst (N := 1) rfl ?_); refine box_event ?hg (N := 1) ?hd (cs := #[.int .i64 a0_0, .int .i64 a0_1]) (t := 25) ?hr ?_; (case hd => rfl); (case hg => rfl); (case hr => first | (go_simp; done) | (go_simp; rfl)); intro gb263 hg w3 hbox hb; have BK263 := A_ (hbox); have GW263 := A_ ((by rw [hg]; exact (below_size q0_) : w.heap.size ≤ gb263)); have GE263 := A_ ((by rw [hg]; exact (below_size q0_) : w.heap.size ≤ gb263)); replace HB := A_ (below_step q0_ hb); clear hb hbox hg)))
 (try simp only [Act.put, List.setIfInBounds_toArray, List.set_cons_zero, List.set_cons_succ])
 go_cut [24] (fun v24 wc => ∃ (kq : Nat) (x24_1 : Bool), v24 = .bool x24_1 ∧ Aside0 (spec_WeightsFor.j0 kq x24_1 a0_0 a0_1 = some (r1, r2, r3)) ∧ Aside0 (kq ≤ k) ∧ Aside0 (wc.heap[gb263]? = some (.cells #[.int .i64 a0_0, .int .i64 a0_1] 25 (0, 0))) ∧ Aside0 (Below w.heap.size w wc))
 case first =>
  have H := HC2.out
  clear HC2; replace H := Option.bind_eq_some_iff.mp H; obtain ⟨t264, A40, H⟩ := H; (try dsimp only at H); have A4 := A_ A40; clear A40
  by_cases c5 : t264 = true
  ·subst c5
   have H1 : (spec_WeightsFor.j0 k (decide (a0_0 > 4)) a0_0 a0_1) = some (r1, r2, r3) := by rw [if_pos rfl] at H; exact H
   clear H; have H := H1; clear H1
   have H' := A_ H
   clear H
   have hcz6_0 := c20_ BK263
   have hcz6_1 := c21_ BK263
   have hfz6_0 := blk_frozen BK263.out 0
   have hfz6_1 := blk_frozen BK263.out 1
   go_wp2_with (first | (go_at_call 16; (with_reducible refine (spec_IsTable.calls a0_0 a0_1 true _ A4.out).mono ?_); rintro e w7 ⟨rfl, hb⟩; replace BK263 := A_ (blk_below (M.Lb BK263) hb); replace HB := A_ (below_step q0_ hb); (try clear hb); (try clear hb2); (try clear hk); (try clear hi); have hcz8_0 := c20_ BK263; have hcz8_1 := c21_ BK263; have hfz8_0 := blk_frozen BK263.out 0; have hfz8_1 := blk_frozen BK263.out 1))
   repeat (go_quiet (first | (go_at_call 16; (with_reducible refine (spec_IsTable.calls a0_0 a0_1 true _ A4.out).mono ?_); rintro e w7 ⟨rfl, hb⟩; replace BK263 := A_ (blk_below (M.Lb BK263) hb); replace HB := A_ (below_step q0_ hb); (try clear hb); (try clear hb2); (try clear hk); (try clear hi); have hcz8_0 := c20_ BK263; have hcz8_1 := c21_ BK263; have hfz8_0 := blk_frozen BK263.out 0; have hfz8_1 := blk_frozen BK263.out 1)); try go_wp2_with (first | (go_at_call 16; (with_reducible refine (spec_IsTable.calls a0_0 a0_1 true _ A4.out).mono ?_); rintro e w7 ⟨rfl, hb⟩; replace BK263 := A_ (blk_below (M.Lb BK263) hb); replace HB := A_ (below_step q0_ hb); (try clear hb); (try clear hb2); (try clear hk); (try clear hi); have hcz8_0 := c20_ BK263; have hcz8_1 := c21_ BK263; have hfz8_0 := blk_frozen BK263.out 0; have hfz8_1 := blk_frozen BK263.out 1)))
   go_meet
   case rel => exact ⟨_, (decide (a0_0 > 4)), q1_, H', ⟨by first | omega | exact Nat.le_refl _⟩, ⟨M.Lb BK263⟩, ⟨q0_⟩⟩
  ·replace c5 := Bool.eq_false_iff.mpr c5
   subst c5
   have H1 : (spec_WeightsFor.j0 k true a0_0 a0_1) = some (r1, r2, r3) := by rw [if_neg (show ¬ (false = true) by decide)] at H; exact H
   clear H; have H := H1; clear H1
   have H' := A_ H
   clear H
   have hcz9_0 := c20_ BK263
   have hcz9_1 := c21_ BK263
   have hfz9_0 := blk_frozen BK263.out 0
   have hfz9_1 := blk_frozen BK263.out 1
   go_wp2_with (first | (go_at_call 16; (with_reducible refine (spec_IsTable.calls a0_0 a0_1 false _ A4.out).mono ?_); rintro e w10 ⟨rfl, hb⟩; replace BK263 := A_ (blk_below (M.Lb BK263) hb); replace HB := A_ (below_step q0_ hb); (try clear hb); (try clear hb2); (try clear hk); (try clear hi)))
   repeat (go_quiet (first | (go_at_call 16; (with_reducible refine (spec_IsTable.calls a0_0 a0_1 false _ A4.out).mono ?_); rintro e w10 ⟨rfl, hb⟩; replace BK263 := A_ (blk_below (M.Lb BK263) hb); replace HB := A_ (below_step q0_ hb); (try clear hb); (try clear hb2); (try clear hk); (try clear hi))); try go_wp2_with (first | (go_at_call 16; (with_reducible refine (spec_IsTable.calls a0_0 a0_1 false _ A4.out).mono ?_); rintro e w10 ⟨rfl, hb⟩; replace BK263 := A_ (blk_below (M.Lb BK263) hb); replace HB := A_ (below_step q0_ hb); (try clear hb); (try clear hb2); (try clear hk); (try clear hi))))
   go_meet
   case rel => exact ⟨_, (true), q1_, H', ⟨by first | omega | exact Nat.le_refl _⟩, ⟨M.Lb BK263⟩, ⟨q0_⟩⟩
 case rest =>
  clear HC2; (try clear p2); (try clear c5); (try clear c7); (try clear hcz6_0); (try clear hcz6_1); (try clear hcz8_0); (try clear hcz8_1); (try clear hcz9_0); (try clear hcz9_1); (try clear hfz6_0); (try clear hfz6_1); (try clear hfz8_0); (try clear hfz8_1); (try clear hfz9_0); (try clear hfz9_1); obtain ⟨kq, x24_1, rfl, HA, HJ1, BK263, HB⟩ := hcut
  cases kq with
  | zero => exact absurd HA.out (by simp [spec_WeightsFor.j0])
  | succ kj1 =>
   have H := HA.out
   clear HA
   simp only [spec_WeightsFor.j0] at H
   by_cases c11 : x24_1 = true
   ·subst c11
    have H1 : (some ((([] : List Int)), 0, false)) = some (r1, r2, r3) := by rw [if_pos rfl] at H; exact H
    clear H; have H := H1; clear H1
    obtain ⟨y265, hy265⟩ : ∃ y_ : List Int, y_ = (([] : List Int)) := ⟨_, rfl⟩
    replace H : (some (y265, 0, false)) = some (r1, r2, r3) := by first | (rw [hy265]; with_reducible exact H) | (have H2_ := (Option.bind_some _ _).symm.trans H; rw [hy265]; with_reducible exact H2_) | (have H2_ := (Option.bind_some _ _).symm.trans H; with_reducible exact H2_) | with_reducible exact H | (rw [hy265]; exact H) | exact H
    have Ny265 := A_ hy265; clear hy265
    simp only [Option.some.injEq, Prod.mk.injEq] at H
    obtain ⟨rfl, rfl, rfl⟩ := H
    go_wp2_with (first | ((with_reducible refine gate_dst (N := 25) rfl ?_); refine Kd.R_lit (Kd.int .i64) _ 3 ?hg (N := 25) ?hd (xs := ([] : List Int)) (inner := []) (ok := fun _ => True) (okp := fun _ => True) ?hr ?hp (fun _ hk => hk) trivial (Below.refl _ _) (Nat.le_refl _) (by simp) ?_; (case hd => rfl); (case hg => rfl); (case hr => first | (go_simp; done) | (go_simp; rfl)); (case hp => exact (Reps.none _ _)); intro v266 w12 ho13 hb hg_ hnew_; clear hg_ hnew_; (first | rw [← Ny265.out] at ho13 | (simp only [Int.reduceToNat] at ho13; rw [← Ny265.out] at ho13)); have HO267 := A_ (Kd.R_lower ho13 (below_size q0_)); replace BK263 := A_ (blk_below (M.Lb BK263) hb); replace HB := A_ (below_step q0_ hb); clear hb ho13))
    repeat (go_quiet (first | ((with_reducible refine gate_dst (N := 25) rfl ?_); refine Kd.R_lit (Kd.int .i64) _ 3 ?hg (N := 25) ?hd (xs := ([] : List Int)) (inner := []) (ok := fun _ => True) (okp := fun _ => True) ?hr ?hp (fun _ hk => hk) trivial (Below.refl _ _) (Nat.le_refl _) (by simp) ?_; (case hd => rfl); (case hg => rfl); (case hr => first | (go_simp; done) | (go_simp; rfl)); (case hp => exact (Reps.none _ _)); intro v266 w12 ho13 hb hg_ hnew_; clear hg_ hnew_; (first | rw [← Ny265.out] at ho13 | (simp only [Int.reduceToNat] at ho13; rw [← Ny265.out] at ho13)); have HO267 := A_ (Kd.R_lower ho13 (below_size q0_)); replace BK263 := A_ (blk_below (M.Lb BK263) hb); replace HB := A_ (below_step q0_ hb); clear hb ho13)); try go_wp2_with (first | ((with_reducible refine gate_dst (N := 25) rfl ?_); refine Kd.R_lit (Kd.int .i64) _ 3 ?hg (N := 25) ?hd (xs := ([] : List Int)) (inner := []) (ok := fun _ => True) (okp := fun _ => True) ?hr ?hp (fun _ hk => hk) trivial (Below.refl _ _) (Nat.le_refl _) (by simp) ?_; (case hd => rfl); (case hg => rfl); (case hr => first | (go_simp; done) | (go_simp; rfl)); (case hp => exact (Reps.none _ _)); intro v266 w12 ho13 hb hg_ hnew_; clear hg_ hnew_; (first | rw [← Ny265.out] at ho13 | (simp only [Int.reduceToNat] at ho13; rw [← Ny265.out] at ho13)); have HO267 := A_ (Kd.R_lower ho13 (below_size q0_)); replace BK263 := A_ (blk_below (M.Lb BK263) hb); replace HB := A_ (below_step q0_ hb); clear hb ho13)))
    go_ret3
    exact ⟨_, q7_, by (with_reducible repeat (first | apply Kd.R_alloc | apply Kd.R_drewN | apply Kd.R_drew)); exact HO267.out, q0_⟩
   ·replace c11 := Bool.eq_false_iff.mpr c11
    subst c11
    have H1 : (spec_WeightsFor.l0 kj1 1 0 a0_0 a0_1) = some (r1, r2, r3) := by rw [if_neg (show ¬ (false = true) by decide)] at H; exact H
    clear H; have H := H1; clear H1
    have H' := A_ H
    clear H
    go_wp2
    repeat (go_quiet (fail); try go_wp2)
    go_loopg [5, 6] kj1 (fun kq v5 v6 w' => ∃ (x5_2 : Int) (x6_2 : Int), v5 = .int .i64 x5_2 ∧ v6 = .int .i64 x6_2 ∧ Aside0 (spec_WeightsFor.l0 kq x5_2 x6_2 a0_0 a0_1 = some (r1, r2, r3)) ∧ Aside0 (kq ≤ kj1) ∧ Aside0 (w'.heap[gb263]? = some (.cells #[.int .i64 a0_0, .int .i64 a0_1] 25 (0, 0))) ∧ Aside0 (Below w.heap.size w w'))
    case atStart => exact ⟨(1), (0), q1_, q1_, H', ⟨Nat.le_refl _⟩, ⟨M.Lb BK263⟩, ⟨q0_⟩⟩
    case round =>
     clear H'; (try clear c1); (try clear p2); (try clear c5); (try clear c7); (try clear c11); (try clear hcz6_0); (try clear hcz6_1); (try clear hcz8_0); (try clear hcz8_1); (try clear hcz9_0); (try clear hcz9_1); (try clear hfz6_0); (try clear hfz6_1); (try clear hfz8_0); (try clear hfz8_1); (try clear hfz9_0); (try clear hfz9_1); (try clear p2); obtain ⟨x5_2, x6_2, rfl, rfl, HA, HK2, BK263, HB⟩ := hrel
     cases gk with
     | zero => exact absurd HA.out (by simp [spec_WeightsFor.l0])
     | succ k2 =>
      have H := HA.out
      clear HA
      simp only [spec_WeightsFor.l0] at H
      by_cases c14 : x6_2 < a0_0
      ·rw [if_pos c14] at H
       have c14b0 : decide (x6_2 < a0_0) = true := decide_eq_true c14
       clear c14
       have H' := A_ H
       clear H
       have hcz15_0 := c20_ BK263
       have hcz15_1 := c21_ BK263
       have hfz15_0 := blk_frozen BK263.out 0
       have hfz15_1 := blk_frozen BK263.out 1
       go_wp2
       repeat (go_quiet (fail); try go_wp2)
       go_roundg k2
       case measure => have := HJ1.out; have := HK2.out; omega
       case rel => exact ⟨(wrap64 (x5_2 * 7)), (wrap64 (x6_2 + 1)), q1_, q1_, H', ⟨by have := HJ1.out; have := HK2.out; omega⟩, ⟨M.Lb BK263⟩, ⟨q0_⟩⟩
      ·rw [if_neg c14] at H
       have c14b0 : decide (x6_2 < a0_0) = false := decide_eq_false c14
       clear c14
       obtain ⟨y268, hy268⟩ : ∃ y_ : List Int, y_ = (([] : List Int)) := ⟨_, rfl⟩
       replace H : (spec_WeightsFor.l1 k2 x5_2 y268 100 0 0 a0_0 a0_1) = some (r1, r2, r3) := by first | (rw [hy268]; with_reducible exact H) | (have H2_ := (Option.bind_some _ _).symm.trans H; rw [hy268]; with_reducible exact H2_) | (have H2_ := (Option.bind_some _ _).symm.trans H; with_reducible exact H2_) | with_reducible exact H | (rw [hy268]; exact H) | exact H
       have Ny268 := A_ hy268; clear hy268
       have H' := A_ H
       clear H
       have hcz16_0 := c20_ BK263
       have hcz16_1 := c21_ BK263
       have hfz16_0 := blk_frozen BK263.out 0
       have hfz16_1 := blk_frozen BK263.out 1
       go_wp2_with (first | ((with_reducible refine gate_dst (N := 34) rfl ?_); refine Kd.R_lit (Kd.int .i64) _ 3 ?hg (N := 34) ?hd (xs := ([] : List Int)) (inner := []) (ok := fun _ => True) (okp := fun _ => True) ?hr ?hp (fun _ hk => hk) trivial (Below.refl _ _) (Nat.le_refl _) (by simp) ?_; (case hd => rfl); (case hg => rfl); (case hr => first | (go_simp; done) | (go_simp; rfl)); (case hp => exact (Reps.none _ _)); intro v269 w17 ho18 hb hg_ hnew_; clear hg_ hnew_; (first | rw [← Ny268.out] at ho18 | (simp only [Int.reduceToNat] at ho18; rw [← Ny268.out] at ho18)); have HO270 := A_ (Kd.R_lower ho18 (below_size q0_)); replace BK263 := A_ (blk_below (M.Lb BK263) hb); replace HB := A_ (below_step q0_ hb); clear hb ho18))
       repeat (go_quiet (first | ((with_reducible refine gate_dst (N := 34) rfl ?_); refine Kd.R_lit (Kd.int .i64) _ 3 ?hg (N := 34) ?hd (xs := ([] : List Int)) (inner := []) (ok := fun _ => True) (okp := fun _ => True) ?hr ?hp (fun _ hk => hk) trivial (Below.refl _ _) (Nat.le_refl _) (by simp) ?_; (case hd => rfl); (case hg => rfl); (case hr => first | (go_simp; done) | (go_simp; rfl)); (case hp => exact (Reps.none _ _)); intro v269 w17 ho18 hb hg_ hnew_; clear hg_ hnew_; (first | rw [← Ny268.out] at ho18 | (simp only [Int.reduceToNat] at ho18; rw [← Ny268.out] at ho18)); have HO270 := A_ (Kd.R_lower ho18 (below_size q0_)); replace BK263 := A_ (blk_below (M.Lb BK263) hb); replace HB := A_ (below_step q0_ hb); clear hb ho18)); try go_wp2_with (first | ((with_reducible refine gate_dst (N := 34) rfl ?_); refine Kd.R_lit (Kd.int .i64) _ 3 ?hg (N := 34) ?hd (xs := ([] : List Int)) (inner := []) (ok := fun _ => True) (okp := fun _ => True) ?hr ?hp (fun _ hk => hk) trivial (Below.refl _ _) (Nat.le_refl _) (by simp) ?_; (case hd => rfl); (case hg => rfl); (case hr => first | (go_simp; done) | (go_simp; rfl)); (case hp => exact (Reps.none _ _)); intro v269 w17 ho18 hb hg_ hnew_; clear hg_ hnew_; (first | rw [← Ny268.out] at ho18 | (simp only [Int.reduceToNat] at ho18; rw [← Ny268.out] at ho18)); have HO270 := A_ (Kd.R_lower ho18 (below_size q0_)); replace BK263 := A_ (blk_below (M.Lb BK263) hb); replace HB := A_ (below_step q0_ hb); clear hb ho18)))
       go_loopg [7, 8, 9, 10] k2 (fun kq v7 v8 v9 v10 w' => ∃ (x7_3 : List Int) (x8_3 : Int) (x9_3 : Int) (x10_3 : Int), v8 = .int .i64 x8_3 ∧ v9 = .int .i64 x9_3 ∧ v10 = .int .i64 x10_3 ∧ Aside0 (spec_WeightsFor.l1 kq x5_2 x7_3 x8_3 x9_3 x10_3 a0_0 a0_1 = some (r1, r2, r3)) ∧ Aside0 (kq ≤ k2) ∧ Aside0 (Kd.R (Kd.int .i64) 3 w' w.heap.size (fun _ => True) v7 x7_3) ∧ Aside0 (w'.heap[gb263]? = some (.cells #[.int .i64 a0_0, .int .i64 a0_1] 25 (0, 0))) ∧ Aside0 (Below w.heap.size w w'))
       case atStart => exact ⟨(y268), (100), (0), (0), q1_, q1_, q1_, H', ⟨Nat.le_refl _⟩, ⟨M.Lr HO270⟩, ⟨M.Lb BK263⟩, ⟨q0_⟩⟩
       case round =>
        clear H'; (try clear c1); (try clear p2); (try clear c5); (try clear p6); (try clear c7); (try clear c11); (try clear c14); (try clear c14b0); (try clear hcz15_0); (try clear hcz15_1); (try clear hcz16_0); (try clear hcz16_1); (try clear hcz6_0); (try clear hcz6_1); (try clear hcz8_0); (try clear hcz8_1); (try clear hcz9_0); (try clear hcz9_1); (try clear hfz15_0); (try clear hfz15_1); (try clear hfz16_0); (try clear hfz16_1); (try clear hfz6_0); (try clear hfz6_1); (try clear hfz8_0); (try clear hfz8_1); (try clear hfz9_0); (try clear hfz9_1); (try clear p2); obtain ⟨x7_3, x8_3, x9_3, x10_3, rfl, rfl, rfl, HA, HK3, HO_7, BK263, HB⟩ := hrel
        cases gk with
        | zero => exact absurd HA.out (by simp [spec_WeightsFor.l1])
        | succ k3 =>
         have H := HA.out
         clear HA
         simp only [spec_WeightsFor.l1] at H
         by_cases c19 : x10_3 < x5_2
         ·rw [if_pos c19] at H
          have c19b0 : decide (x10_3 < x5_2) = true := decide_eq_true c19
          clear c19
          by_cases c20 : 0 ≤ a0_0
          ·rw [if_pos c20] at H
           have c20b0 := eq_true c20
           have c20b1 : decide (0 ≤ a0_0) = true := decide_eq_true c20
           clear c20
           by_cases c21 : (a0_0 : Int).toNat ≤ 35184372088832
           ·rw [if_pos c21] at H
            have c21b0 := eq_true c21
            have c21b1 : decide ((a0_0 : Int).toNat ≤ 35184372088832) = true := decide_eq_true c21
            clear c21
            obtain ⟨y271, hy271⟩ : ∃ y_ : List Int, y_ = (List.replicate (a0_0 : Int).toNat 0) := ⟨_, rfl⟩
            replace H : (spec_WeightsFor.l2 k3 x5_2 x7_3 x8_3 x9_3 x10_3 y271 x10_3 0 (wrap64 (a0_0 - 1)) a0_0 a0_1) = some (r1, r2, r3) := by first | (rw [hy271]; with_reducible exact H) | (have H2_ := (Option.bind_some _ _).symm.trans H; rw [hy271]; with_reducible exact H2_) | (have H2_ := (Option.bind_some _ _).symm.trans H; with_reducible exact H2_) | with_reducible exact H | (rw [hy271]; exact H) | exact H
            have Ny271 := A_ hy271; clear hy271
            have H' := A_ H
            clear H
            have hcz22_0 := c20_ BK263
            have hcz22_1 := c21_ BK263
            have hfz22_0 := blk_frozen BK263.out 0
            have hfz22_1 := blk_frozen BK263.out 1
            go_wp2_with (first | ((with_reducible refine gate_dst (N := 42) rfl ?_); refine Kd.R_make (Kd.int .i64) _ 3 rfl (N := 42) rfl 27 _ _ rfl a0_0 rfl rfl Try.underlying27 (.int .i64 0) 8 info3 rfl (by decide) (by omega) 0 (ok := fun _ => True) (okp := fun _ => True) rfl (fun _ hk => hk) trivial (of_decide_eq_true q5_) (Nat.le_trans (Nat.mul_le_mul_right _ (of_decide_eq_true q5_ : a0_0.toNat ≤ 35184372088832)) (by omega)) (Below.refl _ _) (Nat.le_refl _) ?_; intro v272 w23 ho24 hb hg_ hnew_; clear hg_ hnew_; (first | rw [← Ny271.out] at ho24 | (simp only [Int.reduceToNat] at ho24; rw [← Ny271.out] at ho24)); have HO273 := A_ (Kd.R_lower (Kd.R_new' ho24 (Kd.R_lt (M.Lr HO_7))) (below_size q0_)); replace HO_7 := A_ (Kd.R_elder' (M.Lr HO_7) (Kd.R_base ho24) hb); replace BK263 := A_ (blk_below (M.Lb BK263) hb); replace HB := A_ (below_step q0_ hb); clear hb ho24; have hcz25_0 := c20_ BK263; have hcz25_1 := c21_ BK263; have hfz25_0 := blk_frozen BK263.out 0; have hfz25_1 := blk_frozen BK263.out 1))
            repeat (go_quiet (first | ((with_reducible refine gate_dst (N := 42) rfl ?_); refine Kd.R_make (Kd.int .i64) _ 3 rfl (N := 42) rfl 27 _ _ rfl a0_0 rfl rfl Try.underlying27 (.int .i64 0) 8 info3 rfl (by decide) (by omega) 0 (ok := fun _ => True) (okp := fun _ => True) rfl (fun _ hk => hk) trivial (of_decide_eq_true q5_) (Nat.le_trans (Nat.mul_le_mul_right _ (of_decide_eq_true q5_ : a0_0.toNat ≤ 35184372088832)) (by omega)) (Below.refl _ _) (Nat.le_refl _) ?_; intro v272 w23 ho24 hb hg_ hnew_; clear hg_ hnew_; (first | rw [← Ny271.out] at ho24 | (simp only [Int.reduceToNat] at ho24; rw [← Ny271.out] at ho24)); have HO273 := A_ (Kd.R_lower (Kd.R_new' ho24 (Kd.R_lt (M.Lr HO_7))) (below_size q0_)); replace HO_7 := A_ (Kd.R_elder' (M.Lr HO_7) (Kd.R_base ho24) hb); replace BK263 := A_ (blk_below (M.Lb BK263) hb); replace HB := A_ (below_step q0_ hb); clear hb ho24; have hcz25_0 := c20_ BK263; have hcz25_1 := c21_ BK263; have hfz25_0 := blk_frozen BK263.out 0; have hfz25_1 := blk_frozen BK263.out 1)); try go_wp2_with (first | ((with_reducible refine gate_dst (N := 42) rfl ?_); refine Kd.R_make (Kd.int .i64) _ 3 rfl (N := 42) rfl 27 _ _ rfl a0_0 rfl rfl Try.underlying27 (.int .i64 0) 8 info3 rfl (by decide) (by omega) 0 (ok := fun _ => True) (okp := fun _ => True) rfl (fun _ hk => hk) trivial (of_decide_eq_true q5_) (Nat.le_trans (Nat.mul_le_mul_right _ (of_decide_eq_true q5_ : a0_0.toNat ≤ 35184372088832)) (by omega)) (Below.refl _ _) (Nat.le_refl _) ?_; intro v272 w23 ho24 hb hg_ hnew_; clear hg_ hnew_; (first | rw [← Ny271.out] at ho24 | (simp only [Int.reduceToNat] at ho24; rw [← Ny271.out] at ho24)); have HO273 := A_ (Kd.R_lower (Kd.R_new' ho24 (Kd.R_lt (M.Lr HO_7))) (below_size q0_)); replace HO_7 := A_ (Kd.R_elder' (M.Lr HO_7) (Kd.R_base ho24) hb); replace BK263 := A_ (blk_below (M.Lb BK263) hb); replace HB := A_ (below_step q0_ hb); clear hb ho24; have hcz25_0 := c20_ BK263; have hcz25_1 := c21_ BK263; have hfz25_0 := blk_frozen BK263.out 0; have hfz25_1 := blk_frozen BK263.out 1)))
            go_loopg [12, 13, 14] k3 (fun kq v12 v13 v14 w' => ∃ (x11_4 : List Int) (x12_4 : Int) (x13_4 : Int) (x14_4 : Int), v12 = .int .i64 x12_4 ∧ v13 = .int .i64 x13_4 ∧ v14 = .int .i64 x14_4 ∧ Aside0 (spec_WeightsFor.l2 kq x5_2 x7_3 x8_3 x9_3 x10_3 x11_4 x12_4 x13_4 x14_4 a0_0 a0_1 = some (r1, r2, r3)) ∧ Aside0 (kq ≤ k3) ∧ Aside0 (Kd.R (Kd.int .i64) 3 w' w.heap.size (fun k_ => some k_ ≠ (v272 : Value).ownBlock) u7 x7_3) ∧ Aside0 (Kd.R (Kd.int .i64) 3 w' w.heap.size (fun k_ => some k_ ≠ (u7 : Value).ownBlock) v272 x11_4) ∧ Aside0 (w'.heap[gb263]? = some (.cells #[.int .i64 a0_0, .int .i64 a0_1] 25 (0, 0))) ∧ Aside0 (Below w.heap.size w w'))
            case atStart => exact ⟨(y271), (x10_3), (0), (wrap64 (a0_0 - 1)), q1_, q1_, q1_, H', ⟨Nat.le_refl _⟩, ⟨by (with_reducible repeat (first | apply Kd.R_alloc | apply Kd.R_drewN | apply Kd.R_drew)); exact Kd.R_mono HO_7.out (fun _ hk => hk.2)⟩, ⟨by (with_reducible repeat (first | apply Kd.R_alloc | apply Kd.R_drewN | apply Kd.R_drew)); exact Kd.R_mono HO273.out (fun _ hk => hk.2)⟩, ⟨M.Lb BK263⟩, ⟨q0_⟩⟩
            case round =>
             clear H'; (try clear c1); (try clear c2); (try clear p2); (try clear c5); (try clear p6); (try clear c7); (try clear c11); (try clear c14); (try clear c14b0); (try clear c19); (try clear c19b0); (try clear c20); (try clear c20b0); (try clear c20b1); (try clear c21); (try clear c21b0); (try clear c21b1); (try clear hcz15_0); (try clear hcz15_1); (try clear hcz16_0); (try clear hcz16_1); (try clear hcz22_0); (try clear hcz22_1); (try clear hcz25_0); (try clear hcz25_1); (try clear hcz6_0); (try clear hcz6_1); (try clear hcz8_0); (try clear hcz8_1); (try clear hcz9_0); (try clear hcz9_1)
             (try clear hfz15_0); (try clear hfz15_1); (try clear hfz16_0); (try clear hfz16_1); (try clear hfz22_0); (try clear hfz22_1); (try clear hfz25_0); (try clear hfz25_1); (try clear hfz6_0); (try clear hfz6_1); (try clear hfz8_0); (try clear hfz8_1); (try clear hfz9_0); (try clear hfz9_1); (try clear p2); (try clear p6); obtain ⟨x11_4, x12_4, x13_4, x14_4, rfl, rfl, rfl, HA, HK4, HO_7, HO_11, BK263, HB⟩ := hrel
             cases gk with
             | zero => exact absurd HA.out (by simp [spec_WeightsFor.l2])
             | succ k4 =>
              have H := HA.out
              clear HA
              simp only [spec_WeightsFor.l2] at H
              by_cases c26 : x14_4 ≥ 0
              ·rw [if_pos c26] at H
               have c26b0 : decide (0 ≤ x14_4) = true := decide_eq_true c26
               clear c26
               by_cases c27 : 0 ≤ x14_4
               ·rw [if_pos c27] at H
                have c27b0 : decide (0 ≤ x14_4) = true := decide_eq_true c27
                clear c27
                by_cases c28 : x14_4 < (x11_4.length : Int)
                ·rw [if_pos c28] at H
                 have c28b0 : decide (x14_4 < (x11_4.length : Int)) = true := decide_eq_true c28
                 clear c28
                 obtain ⟨y274, hy274⟩ : ∃ y_ : List Int, y_ = (x11_4.set (x14_4 : Int).toNat (wrap64 ((Int.tmod x12_4 7) - 3))) := ⟨_, rfl⟩
                 replace H : (spec_WeightsFor.l2 k4 x5_2 x7_3 x8_3 x9_3 x10_3 y274 (wrap64 (Int.tdiv x12_4 7)) (wrap64 (x13_4 + (mx (rd y274 x14_4) (wrap64 (-(rd y274 x14_4)))))) (wrap64 (x14_4 - 1)) a0_0 a0_1) = some (r1, r2, r3) := by first | (rw [hy274]; with_reducible exact H) | (have H2_ := (Option.bind_some _ _).symm.trans H; rw [hy274]; with_reducible exact H2_) | (have H2_ := (Option.bind_some _ _).symm.trans H; with_reducible exact H2_) | with_reducible exact H | (rw [hy274]; exact H) | exact H
                 have Ny274 := A_ hy274; clear hy274
                 obtain ⟨ji30, hji30⟩ : ∃ j_ : Int, (mx (rd y274 x14_4) (wrap64 (-(rd y274 x14_4)))) = j_ := ⟨_, rfl⟩
                 replace H : (spec_WeightsFor.l2 k4 x5_2 x7_3 x8_3 x9_3 x10_3 y274 (wrap64 (Int.tdiv x12_4 7)) (wrap64 (x13_4 + (ji30))) (wrap64 (x14_4 - 1)) a0_0 a0_1) = some (r1, r2, r3) := by first | (rw [hji30] at H; exact H) | (simp only [hji30] at H ⊢; exact H)
                 have hji30_ : (if (rd y274 x14_4) < (wrap64 (-(rd y274 x14_4))) then (wrap64 (-(rd y274 x14_4))) else (rd y274 x14_4)) = ji30 := hji30
                 have H' := A_ H
                 clear H
                 have p29 : 0 ≤ (x14_4 : Int) := of_decide_eq_true q5_
                 have q29 : (x14_4 : Int) < ((x11_4.length : Int) : Int) := of_decide_eq_true q5_
                 obtain ⟨go29, co29, eo29, gb29, gl29, cl29, HG29⟩ := Kd.R_form HO_11.out (by omega)
                 (first | cases eo29 | (injection eo29 with ea_ en_ ec_; (first | subst ea_ | (injection ea_ with ea_; subst ea_)); subst ec_; clear en_))
                 have GB29 := A_ gb29; have GG29 := A_ HG29; clear gb29 gl29 HG29
                 obtain ⟨hx29_0, hf29_0⟩ := Kd.R_celln 0 HO_11.out (x14_4 : Int) p29 q29
                 replace p29 := eq_true p29
                 replace q29 := eq_true q29
                 have HP31 := Kd.R_putg HO_11.out (x14_4 : Int) (wrap64 ((Int.tmod x12_4 7) - 3))
                 go_wp2_with (first | ((with_reducible refine gate_store (t := 3) (p := 56) rfl ?_); (try (rw [drewN_self wr]; generalize hq_ : World.drewN wr _ = wr; have n0_ := A_ (Kd.R_at hq_ HO_7.out); have n1_ := A_ (Kd.R_at hq_ HO_11.out); have n2_ := A_ (blk_at hq_ BK263.out); have n3_ := A_ (below_at hq_ HB.out); clear hq_ HO_7 HO_11 BK263 HB; have HO_7 := n0_; have HO_11 := n1_; have BK263 := n2_; have HB := n3_; clear n0_ n1_ n2_ n3_; (try (have HP31 := Kd.R_putg HO_11.out (x14_4 : Int) (wrap64 ((Int.tmod x12_4 7) - 3)))))); refine store_event (t := 3) (p := 56) (v := ?vo_w32) (w1 := (wr.setCell ⟨go29, (x14_4 : Int).toNat, none⟩ (.int .i64 (wrap64 ((Int.tmod x12_4 7) - 3))))) ?hg ?ho ?hn ?hr ?_; (case ho => rfl); (case hg => rfl); (case hn => rfl); (case hr => first | (go_simp; done) | (go_simp; rfl)); intro w32 hw; have hg : wr.grownBy w32 (some go29) := (by rw [hw]; exact HP31.2); have hp_ : Kd.R (Kd.int .i64) 3 w32 w.heap.size (fun k_ => some k_ ≠ (u7 : Value).ownBlock) (.slice (some ⟨go29, 0, none⟩) x11_4.length co29) y274 := (by rw [hw, Ny274.out]; exact HP31.1); clear HP31; replace HO_7 := A_ (Kd.R_after (v := (.slice (some ⟨go29, 0, none⟩) x11_4.length co29)) (v1 := (.slice (some ⟨go29, 0, none⟩) x11_4.length co29)) (ok := (fun _ => True)) (by (with_reducible repeat (first | apply Kd.R_alloc | apply Kd.R_drewN | apply Kd.R_drew)); exact Kd.R_mono HO_7.out (fun _ hk => ⟨trivial, hk⟩)) hg (.inl rfl)); replace BK263 := A_ (blk_grown (g := gb263) (o := .cells #[.int .i64 a0_0, .int .i64 a0_1] 25 (0, 0)) (M.Lb BK263) hg (Kd.R_ne HO_11.out BK263.out (by decide))); replace HO_11 := A_ (hp_); replace HB := A_ ((by rw [hw]; exact below_set (HB.out) GB29.out : Below w.heap.size w w32)); clear hg hw hp_; have p275 : 0 ≤ (x14_4 : Int) := of_decide_eq_true q5_; have q275 : x14_4 < (y274.length : Int) := (by have h_ : (x14_4 : Int) < ((x11_4.length : Int) : Int) := of_decide_eq_true q5_; first | (have e_ := (Kd.R_reads' HO_11.out).1; omega) | simpa only [Ny274.out, List.length_set] using h_); have ql275 : ((x14_4 : Int) < ((x11_4.length : Int) : Int)) = True := eq_true (of_decide_eq_true q5_); obtain ⟨ad275, e275, hx275_0⟩ := Kd.at_int (Kd.R_reads' HO_11.out).2.2 x14_4 p275 q275; obtain rfl : (⟨go29, 0, none⟩ : Addr) = ad275 := (by injection e275); (first | simp only [add_plain] at hx275_0 | simp only [add_at] at hx275_0 | simp only [Addr.add, Nat.zero_add] at hx275_0 | skip); replace p275 := eq_true p275; replace q275 := eq_true q275; have p276 : 0 ≤ (x14_4 : Int) := of_decide_eq_true q5_; have q276 : x14_4 < (y274.length : Int) := (by have h_ : (x14_4 : Int) < ((x11_4.length : Int) : Int) := of_decide_eq_true q5_; first | (have e_ := (Kd.R_reads' HO_11.out).1; omega) | simpa only [Ny274.out, List.length_set] using h_); have ql276 : ((x14_4 : Int) < ((x11_4.length : Int) : Int)) = True := eq_true (of_decide_eq_true q5_); obtain ⟨ad276, e276, hx276_0⟩ := Kd.at_int (Kd.R_reads' HO_11.out).2.2 x14_4 p276 q276; obtain rfl : (⟨go29, 0, none⟩ : Addr) = ad276 := (by injection e276); (first | simp only [add_plain] at hx276_0 | simp only [add_at] at hx276_0 | simp only [Addr.add, Nat.zero_add] at hx276_0 | skip); replace p276 := eq_true p276; replace q276 := eq_true q276))
                 repeat (go_quiet (first | ((with_reducible refine gate_store (t := 3) (p := 56) rfl ?_); (try (rw [drewN_self wr]; generalize hq_ : World.drewN wr _ = wr; have n0_ := A_ (Kd.R_at hq_ HO_7.out); have n1_ := A_ (Kd.R_at hq_ HO_11.out); have n2_ := A_ (blk_at hq_ BK263.out); have n3_ := A_ (below_at hq_ HB.out); clear hq_ HO_7 HO_11 BK263 HB; have HO_7 := n0_; have HO_11 := n1_; have BK263 := n2_; have HB := n3_; clear n0_ n1_ n2_ n3_; (try (have HP31 := Kd.R_putg HO_11.out (x14_4 : Int) (wrap64 ((Int.tmod x12_4 7) - 3)))))); refine store_event (t := 3) (p := 56) (v := ?vo_w32) (w1 := (wr.setCell ⟨go29, (x14_4 : Int).toNat, none⟩ (.int .i64 (wrap64 ((Int.tmod x12_4 7) - 3))))) ?hg ?ho ?hn ?hr ?_; (case ho => rfl); (case hg => rfl); (case hn => rfl); (case hr => first | (go_simp; done) | (go_simp; rfl)); intro w32 hw; have hg : wr.grownBy w32 (some go29) := (by rw [hw]; exact HP31.2); have hp_ : Kd.R (Kd.int .i64) 3 w32 w.heap.size (fun k_ => some k_ ≠ (u7 : Value).ownBlock) (.slice (some ⟨go29, 0, none⟩) x11_4.length co29) y274 := (by rw [hw, Ny274.out]; exact HP31.1); clear HP31; replace HO_7 := A_ (Kd.R_after (v := (.slice (some ⟨go29, 0, none⟩) x11_4.length co29)) (v1 := (.slice (some ⟨go29, 0, none⟩) x11_4.length co29)) (ok := (fun _ => True)) (by (with_reducible repeat (first | apply Kd.R_alloc | apply Kd.R_drewN | apply Kd.R_drew)); exact Kd.R_mono HO_7.out (fun _ hk => ⟨trivial, hk⟩)) hg (.inl rfl)); replace BK263 := A_ (blk_grown (g := gb263) (o := .cells #[.int .i64 a0_0, .int .i64 a0_1] 25 (0, 0)) (M.Lb BK263) hg (Kd.R_ne HO_11.out BK263.out (by decide))); replace HO_11 := A_ (hp_); replace HB := A_ ((by rw [hw]; exact below_set (HB.out) GB29.out : Below w.heap.size w w32)); clear hg hw hp_; have p275 : 0 ≤ (x14_4 : Int) := of_decide_eq_true q5_; have q275 : x14_4 < (y274.length : Int) := (by have h_ : (x14_4 : Int) < ((x11_4.length : Int) : Int) := of_decide_eq_true q5_; first | (have e_ := (Kd.R_reads' HO_11.out).1; omega) | simpa only [Ny274.out, List.length_set] using h_); have ql275 : ((x14_4 : Int) < ((x11_4.length : Int) : Int)) = True := eq_true (of_decide_eq_true q5_); obtain ⟨ad275, e275, hx275_0⟩ := Kd.at_int (Kd.R_reads' HO_11.out).2.2 x14_4 p275 q275; obtain rfl : (⟨go29, 0, none⟩ : Addr) = ad275 := (by injection e275); (first | simp only [add_plain] at hx275_0 | simp only [add_at] at hx275_0 | simp only [Addr.add, Nat.zero_add] at hx275_0 | skip); replace p275 := eq_true p275; replace q275 := eq_true q275; have p276 : 0 ≤ (x14_4 : Int) := of_decide_eq_true q5_; have q276 : x14_4 < (y274.length : Int) := (by have h_ : (x14_4 : Int) < ((x11_4.length : Int) : Int) := of_decide_eq_true q5_; first | (have e_ := (Kd.R_reads' HO_11.out).1; omega) | simpa only [Ny274.out, List.length_set] using h_); have ql276 : ((x14_4 : Int) < ((x11_4.length : Int) : Int)) = True := eq_true (of_decide_eq_true q5_); obtain ⟨ad276, e276, hx276_0⟩ := Kd.at_int (Kd.R_reads' HO_11.out).2.2 x14_4 p276 q276; obtain rfl : (⟨go29, 0, none⟩ : Addr) = ad276 := (by injection e276); (first | simp only [add_plain] at hx276_0 | simp only [add_at] at hx276_0 | simp only [Addr.add, Nat.zero_add] at hx276_0 | skip); replace p276 := eq_true p276; replace q276 := eq_true q276)); try go_wp2_with (first | ((with_reducible refine gate_store (t := 3) (p := 56) rfl ?_); (try (rw [drewN_self wr]; generalize hq_ : World.drewN wr _ = wr; have n0_ := A_ (Kd.R_at hq_ HO_7.out); have n1_ := A_ (Kd.R_at hq_ HO_11.out); have n2_ := A_ (blk_at hq_ BK263.out); have n3_ := A_ (below_at hq_ HB.out); clear hq_ HO_7 HO_11 BK263 HB; have HO_7 := n0_; have HO_11 := n1_; have BK263 := n2_; have HB := n3_; clear n0_ n1_ n2_ n3_; (try (have HP31 := Kd.R_putg HO_11.out (x14_4 : Int) (wrap64 ((Int.tmod x12_4 7) - 3)))))); refine store_event (t := 3) (p := 56) (v := ?vo_w32) (w1 := (wr.setCell ⟨go29, (x14_4 : Int).toNat, none⟩ (.int .i64 (wrap64 ((Int.tmod x12_4 7) - 3))))) ?hg ?ho ?hn ?hr ?_; (case ho => rfl); (case hg => rfl); (case hn => rfl); (case hr => first | (go_simp; done) | (go_simp; rfl)); intro w32 hw; have hg : wr.grownBy w32 (some go29) := (by rw [hw]; exact HP31.2); have hp_ : Kd.R (Kd.int .i64) 3 w32 w.heap.size (fun k_ => some k_ ≠ (u7 : Value).ownBlock) (.slice (some ⟨go29, 0, none⟩) x11_4.length co29) y274 := (by rw [hw, Ny274.out]; exact HP31.1); clear HP31; replace HO_7 := A_ (Kd.R_after (v := (.slice (some ⟨go29, 0, none⟩) x11_4.length co29)) (v1 := (.slice (some ⟨go29, 0, none⟩) x11_4.length co29)) (ok := (fun _ => True)) (by (with_reducible repeat (first | apply Kd.R_alloc | apply Kd.R_drewN | apply Kd.R_drew)); exact Kd.R_mono HO_7.out (fun _ hk => ⟨trivial, hk⟩)) hg (.inl rfl)); replace BK263 := A_ (blk_grown (g := gb263) (o := .cells #[.int .i64 a0_0, .int .i64 a0_1] 25 (0, 0)) (M.Lb BK263) hg (Kd.R_ne HO_11.out BK263.out (by decide))); replace HO_11 := A_ (hp_); replace HB := A_ ((by rw [hw]; exact below_set (HB.out) GB29.out : Below w.heap.size w w32)); clear hg hw hp_; have p275 : 0 ≤ (x14_4 : Int) := of_decide_eq_true q5_; have q275 : x14_4 < (y274.length : Int) := (by have h_ : (x14_4 : Int) < ((x11_4.length : Int) : Int) := of_decide_eq_true q5_; first | (have e_ := (Kd.R_reads' HO_11.out).1; omega) | simpa only [Ny274.out, List.length_set] using h_); have ql275 : ((x14_4 : Int) < ((x11_4.length : Int) : Int)) = True := eq_true (of_decide_eq_true q5_); obtain ⟨ad275, e275, hx275_0⟩ := Kd.at_int (Kd.R_reads' HO_11.out).2.2 x14_4 p275 q275; obtain rfl : (⟨go29, 0, none⟩ : Addr) = ad275 := (by injection e275); (first | simp only [add_plain] at hx275_0 | simp only [add_at] at hx275_0 | simp only [Addr.add, Nat.zero_add] at hx275_0 | skip); replace p275 := eq_true p275; replace q275 := eq_true q275; have p276 : 0 ≤ (x14_4 : Int) := of_decide_eq_true q5_; have q276 : x14_4 < (y274.length : Int) := (by have h_ : (x14_4 : Int) < ((x11_4.length : Int) : Int) := of_decide_eq_true q5_; first | (have e_ := (Kd.R_reads' HO_11.out).1; omega) | simpa only [Ny274.out, List.length_set] using h_); have ql276 : ((x14_4 : Int) < ((x11_4.length : Int) : Int)) = True := eq_true (of_decide_eq_true q5_); obtain ⟨ad276, e276, hx276_0⟩ := Kd.at_int (Kd.R_reads' HO_11.out).2.2 x14_4 p276 q276; obtain rfl : (⟨go29, 0, none⟩ : Addr) = ad276 := (by injection e276); (first | simp only [add_plain] at hx276_0 | simp only [add_at] at hx276_0 | simp only [Addr.add, Nat.zero_add] at hx276_0 | skip); replace p276 := eq_true p276; replace q276 := eq_true q276)))
                 go_roundg k4
                 case measure => have := HJ1.out; have := HK2.out; have := HK3.out; have := HK4.out; omega
                 case rel => exact ⟨(y274), (wrap64 (Int.tdiv x12_4 7)), (wrap64 (x13_4 + (ji30))), (wrap64 (x14_4 - 1)), q1_, (by first | rfl | (simp; done) | (simp only [← hji30] <;> (first | rfl | simp)) | (simp [*]; done)), q1_, H', ⟨by have := HJ1.out; have := HK2.out; have := HK3.out; have := HK4.out; omega⟩, ⟨by (with_reducible repeat (first | apply Kd.R_alloc | apply Kd.R_drewN | apply Kd.R_drew)); exact Kd.R_mono HO_7.out (fun _ hk => hk.2)⟩, ⟨M.Lr HO_11⟩, ⟨M.Lb BK263⟩, ⟨q0_⟩⟩
                ·rw [if_neg c28] at H
                 exact absurd H (by simp)
               ·rw [if_neg c27] at H
                exact absurd H (by simp)
              ·rw [if_neg c26] at H
               have c26b0 : decide (0 ≤ x14_4) = false := decide_eq_false c26
               clear c26
               by_cases c33 : x13_4 ≥ x8_3
               ·rw [if_pos c33] at H
                have c33b0 : decide (x8_3 ≤ x13_4) = true := decide_eq_true c33
                clear c33
                have H' := A_ H
                clear H
                go_wp2
                repeat (go_quiet (fail); try go_wp2)
                go_roundg k4
                case measure => have := HJ1.out; have := HK2.out; have := HK3.out; have := HK4.out; omega
                case rel => exact ⟨(x7_3), (x8_3), (x9_3), (wrap64 (x10_3 + 1)), q1_, q1_, q1_, H', ⟨by have := HJ1.out; have := HK2.out; have := HK3.out; have := HK4.out; omega⟩, ⟨by (with_reducible repeat (first | apply Kd.R_alloc | apply Kd.R_drewN | apply Kd.R_drew)); exact Kd.R_mono HO_7.out (fun _ hk => trivial)⟩, ⟨M.Lb BK263⟩, ⟨q0_⟩⟩
               ·rw [if_neg c33] at H
                have c33b0 : decide (x8_3 ≤ x13_4) = false := decide_eq_false c33
                clear c33; replace H := Option.bind_eq_some_iff.mp H; obtain ⟨⟨t277, t278⟩, A340, H⟩ := H; (try dsimp only at H); have A34 := A_ A340; clear A340
                by_cases c35 : t278 = true
                ·subst c35
                 have H1 : (spec_WeightsFor.l1 k4 x5_2 x11_4 x13_4 t277 (wrap64 (x10_3 + 1)) a0_0 a0_1) = some (r1, r2, r3) := by rw [if_pos rfl] at H; exact H
                 clear H; have H := H1; clear H1
                 have H' := A_ H
                 clear H
                 have hcz36_0 := c20_ BK263
                 have hcz36_1 := c21_ BK263
                 have hfz36_0 := blk_frozen BK263.out 0
                 have hfz36_1 := blk_frozen BK263.out 1
                 obtain ⟨Ao37, co37, eo37⟩ := Kd.R_slice HO_11.out
                 subst eo37
                 go_wp2_with (first | (go_at_call 35; (with_reducible refine (spec_l16Fits.calls k4 a0_0 a0_1 _ _ x11_4 t277 true _ ?side1 ?side2 A34.out).mono ?_); (case side1 => repeat (first | exact (Kd.R_reads' HO_11.out).2.2 | (with_reducible refine Kd.C_alloc ?_ _) | (with_reducible refine Kd.C_drewN ?_ _) | (with_reducible refine Kd.C_drew ?_))); (case side2 => exact (Kd.R_reads' HO_11.out).2.1); rintro e w38 ⟨rfl, hb⟩; replace HO_7 := A_ (Kd.R_below (M.Lr HO_7) hb); replace HO_11 := A_ (Kd.R_below (M.Lr HO_11) hb); replace BK263 := A_ (blk_below (M.Lb BK263) hb); replace HB := A_ (below_step q0_ hb); (try clear hb); (try clear hb2); (try clear hk); (try clear hi)))
                 repeat (go_quiet (first | (go_at_call 35; (with_reducible refine (spec_l16Fits.calls k4 a0_0 a0_1 _ _ x11_4 t277 true _ ?side1 ?side2 A34.out).mono ?_); (case side1 => repeat (first | exact (Kd.R_reads' HO_11.out).2.2 | (with_reducible refine Kd.C_alloc ?_ _) | (with_reducible refine Kd.C_drewN ?_ _) | (with_reducible refine Kd.C_drew ?_))); (case side2 => exact (Kd.R_reads' HO_11.out).2.1); rintro e w38 ⟨rfl, hb⟩; replace HO_7 := A_ (Kd.R_below (M.Lr HO_7) hb); replace HO_11 := A_ (Kd.R_below (M.Lr HO_11) hb); replace BK263 := A_ (blk_below (M.Lb BK263) hb); replace HB := A_ (below_step q0_ hb); (try clear hb); (try clear hb2); (try clear hk); (try clear hi))); try go_wp2_with (first | (go_at_call 35; (with_reducible refine (spec_l16Fits.calls k4 a0_0 a0_1 _ _ x11_4 t277 true _ ?side1 ?side2 A34.out).mono ?_); (case side1 => repeat (first | exact (Kd.R_reads' HO_11.out).2.2 | (with_reducible refine Kd.C_alloc ?_ _) | (with_reducible refine Kd.C_drewN ?_ _) | (with_reducible refine Kd.C_drew ?_))); (case side2 => exact (Kd.R_reads' HO_11.out).2.1); rintro e w38 ⟨rfl, hb⟩; replace HO_7 := A_ (Kd.R_below (M.Lr HO_7) hb); replace HO_11 := A_ (Kd.R_below (M.Lr HO_11) hb); replace BK263 := A_ (blk_below (M.Lb BK263) hb); replace HB := A_ (below_step q0_ hb); (try clear hb); (try clear hb2); (try clear hk); (try clear hi))))
                 go_roundg k4
                 case measure => have := HJ1.out; have := HK2.out; have := HK3.out; have := HK4.out; omega
                 case rel => exact ⟨(x11_4), (x13_4), (t277), (wrap64 (x10_3 + 1)), q1_, q1_, q1_, H', ⟨by have := HJ1.out; have := HK2.out; have := HK3.out; have := HK4.out; omega⟩, ⟨by (with_reducible repeat (first | apply Kd.R_alloc | apply Kd.R_drewN | apply Kd.R_drew)); exact Kd.R_mono HO_11.out (fun _ hk => trivial)⟩, ⟨M.Lb BK263⟩, ⟨q0_⟩⟩
                ·replace c35 := Bool.eq_false_iff.mpr c35
                 subst c35
                 have H1 : (spec_WeightsFor.l1 k4 x5_2 x7_3 x8_3 x9_3 (wrap64 (x10_3 + 1)) a0_0 a0_1) = some (r1, r2, r3) := by rw [if_neg (show ¬ (false = true) by decide)] at H; exact H
                 clear H; have H := H1; clear H1
                 have H' := A_ H
                 clear H
                 have hcz39_0 := c20_ BK263
                 have hcz39_1 := c21_ BK263
                 have hfz39_0 := blk_frozen BK263.out 0
                 have hfz39_1 := blk_frozen BK263.out 1
                 obtain ⟨Ao40, co40, eo40⟩ := Kd.R_slice HO_11.out
                 subst eo40
                 go_wp2_with (first | (go_at_call 35; (with_reducible refine (spec_l16Fits.calls k4 a0_0 a0_1 _ _ x11_4 t277 false _ ?side1 ?side2 A34.out).mono ?_); (case side1 => repeat (first | exact (Kd.R_reads' HO_11.out).2.2 | (with_reducible refine Kd.C_alloc ?_ _) | (with_reducible refine Kd.C_drewN ?_ _) | (with_reducible refine Kd.C_drew ?_))); (case side2 => exact (Kd.R_reads' HO_11.out).2.1); rintro e w41 ⟨rfl, hb⟩; replace HO_7 := A_ (Kd.R_below (M.Lr HO_7) hb); replace HO_11 := A_ (Kd.R_below (M.Lr HO_11) hb); replace BK263 := A_ (blk_below (M.Lb BK263) hb); replace HB := A_ (below_step q0_ hb); (try clear hb); (try clear hb2); (try clear hk); (try clear hi)))
                 repeat (go_quiet (first | (go_at_call 35; (with_reducible refine (spec_l16Fits.calls k4 a0_0 a0_1 _ _ x11_4 t277 false _ ?side1 ?side2 A34.out).mono ?_); (case side1 => repeat (first | exact (Kd.R_reads' HO_11.out).2.2 | (with_reducible refine Kd.C_alloc ?_ _) | (with_reducible refine Kd.C_drewN ?_ _) | (with_reducible refine Kd.C_drew ?_))); (case side2 => exact (Kd.R_reads' HO_11.out).2.1); rintro e w41 ⟨rfl, hb⟩; replace HO_7 := A_ (Kd.R_below (M.Lr HO_7) hb); replace HO_11 := A_ (Kd.R_below (M.Lr HO_11) hb); replace BK263 := A_ (blk_below (M.Lb BK263) hb); replace HB := A_ (below_step q0_ hb); (try clear hb); (try clear hb2); (try clear hk); (try clear hi))); try go_wp2_with (first | (go_at_call 35; (with_reducible refine (spec_l16Fits.calls k4 a0_0 a0_1 _ _ x11_4 t277 false _ ?side1 ?side2 A34.out).mono ?_); (case side1 => repeat (first | exact (Kd.R_reads' HO_11.out).2.2 | (with_reducible refine Kd.C_alloc ?_ _) | (with_reducible refine Kd.C_drewN ?_ _) | (with_reducible refine Kd.C_drew ?_))); (case side2 => exact (Kd.R_reads' HO_11.out).2.1); rintro e w41 ⟨rfl, hb⟩; replace HO_7 := A_ (Kd.R_below (M.Lr HO_7) hb); replace HO_11 := A_ (Kd.R_below (M.Lr HO_11) hb); replace BK263 := A_ (blk_below (M.Lb BK263) hb); replace HB := A_ (below_step q0_ hb); (try clear hb); (try clear hb2); (try clear hk); (try clear hi))))
                 go_roundg k4
                 case measure => have := HJ1.out; have := HK2.out; have := HK3.out; have := HK4.out; omega
                 case rel => exact ⟨(x7_3), (x8_3), (x9_3), (wrap64 (x10_3 + 1)), q1_, q1_, q1_, H', ⟨by have := HJ1.out; have := HK2.out; have := HK3.out; have := HK4.out; omega⟩, ⟨by (with_reducible repeat (first | apply Kd.R_alloc | apply Kd.R_drewN | apply Kd.R_drew)); exact Kd.R_mono HO_7.out (fun _ hk => trivial)⟩, ⟨M.Lb BK263⟩, ⟨q0_⟩⟩
           ·rw [if_neg c21] at H
            exact absurd H (by simp)
          ·rw [if_neg c20] at H
           exact absurd H (by simp)
         ·rw [if_neg c19] at H
          have c19b0 : decide (x10_3 < x5_2) = false := decide_eq_false c19
          clear c19
          simp only [Option.some.injEq, Prod.mk.injEq] at H
          obtain ⟨rfl, rfl, rfl⟩ := H
          go_wp2
          repeat (go_quiet (fail); try go_wp2)
          go_ret3
          exact ⟨_, q7_, by (with_reducible repeat (first | apply Kd.R_alloc | apply Kd.R_drewN | apply Kd.R_drew)); exact HO_7.out, q0_⟩
def impl_isContradiction.f (a0 : Int) (a1 : Int) (a2 : Int) (a3 : Int) : Option (Bool) := if (Go.bits .and .i64 a0 a1) = (Go.bits .and .i64 a2 a3) then (some ((Go.bits .xor .i64 a0 a1) == (Go.bits .xor .i64 a2 a3))) else (some false)
theorem impl_isContradiction.calls (a0 : Int) (a1 : Int) (a2 : Int) (a3 : Int) (r : Bool) (w : World) (h : impl_isContradiction.f a0 a1 a2 a3 = some r) :
  Calls Try.prog 39 #[.int .i64 a0, .int .i64 a1, .int .i64 a2, .int .i64 a3] w fun e w' => e = .returned (.bool r) ∧ Drawn0 w w' := by
 have H : (if (Go.bits .and .i64 a0 a1) = (Go.bits .and .i64 a2 a3) then (some ((Go.bits .xor .i64 a0 a1) == (Go.bits .xor .i64 a2 a3))) else (some false)) = some r := h
 clear h
 by_cases c5 : (Go.bits .and .i64 a0 a1) = (Go.bits .and .i64 a2 a3)
 ·rw [if_pos c5] at H
  have c5b0 : ((Go.bits .and .i64 a0 a1) == (Go.bits .and .i64 a2 a3)) = true := beq_iff_eq.mpr c5
  have c5b1 : ((Go.bits .and .i64 a0 a1) != (Go.bits .and .i64 a2 a3)) = false := bne_eq_false_iff_eq.mpr c5
  clear c5
  obtain rfl := Option.some.inj H
  go_enter Try.func39, Try.ntmps39
  go_wp2
  go_ret
  exact ⟨q1_, q9_⟩
 ·rw [if_neg c5] at H
  have c5b0 : ((Go.bits .and .i64 a0 a1) == (Go.bits .and .i64 a2 a3)) = false := beq_eq_false_iff_ne.mpr c5
  have c5b1 : ((Go.bits .and .i64 a0 a1) != (Go.bits .and .i64 a2 a3)) = true := bne_iff_ne.mpr c5
  obtain rfl := Option.some.inj H
  go_enter Try.func39, Try.ntmps39
  go_wp2
  go_ret
  exact ⟨q1_, q9_⟩
mutual
def impl_Contradiction.l0 : Nat → Int → Int → Int → Int → Option (List Int × Bool)
 | 0, _, _, _, _ => none
 | k + 1, x12, x13, x280000, x280001 => if x13 < x12 then (impl_Contradiction.l1 k x13 x13 x12 x13 x280000 x280001) else (some (([] : List Int), false))
def impl_Contradiction.l1 : Nat → Int → Int → Int → Int → Int → Int → Option (List Int × Bool)
 | 0, _, _, _, _, _, _ => none
 | k + 1, x4, x5, x12, x13, x280000, x280001 => (impl_Table_size.f x280000 x280001).bind fun t282 => (if x5 < t282 then ((impl_Table_at.f x280000 x280001 x4).bind fun t283 => (if t283 = 0 then (impl_Contradiction.j2 k x4 x5 x12 x13 true x280000 x280001) else ((impl_Table_at.f x280000 x280001 x5).bind fun t284 => (impl_Contradiction.j2 k x4 x5 x12 x13 (t284 == 0) x280000 x280001)))) else (impl_Contradiction.l0 k x12 (wrap64 (x13 + 1)) x280000 x280001))
def impl_Contradiction.j2 : Nat → Int → Int → Int → Int → Bool → Int → Int → Option (List Int × Bool)
 | 0, _, _, _, _, _, _, _ => none
 | k + 1, x4, x5, x12, x13, x32, x280000, x280001 => if x32 = true then (impl_Contradiction.l1 k x4 (wrap64 (x5 + 1)) x12 x13 x280000 x280001) else ((impl_Table_size.f x280000 x280001).bind fun t285 => (impl_Contradiction.l2 k x4 x5 x12 x13 t285 0 x280000 x280001))
def impl_Contradiction.l2 : Nat → Int → Int → Int → Int → Int → Int → Int → Int → Option (List Int × Bool)
 | 0, _, _, _, _, _, _, _, _ => none
 | k + 1, x4, x5, x12, x13, x34, x35, x280000, x280001 => if x35 < x34 then (if x35 ≤ (Go.bits .xor .i64 (Go.bits .xor .i64 x4 x5) x35) then ((impl_Table_at.f x280000 x280001 x35).bind fun t286 => (if t286 = 0 then ((impl_Table_at.f x280000 x280001 (Go.bits .xor .i64 (Go.bits .xor .i64 x4 x5) x35)).bind fun t287 => (if t287 = 0 then ((impl_isContradiction.f x4 x5 x35 (Go.bits .xor .i64 (Go.bits .xor .i64 x4 x5) x35)).bind fun t288 => (if t288 = true then (some ((([x4, x5, x35, Go.bits .xor .i64 (Go.bits .xor .i64 x4 x5) x35] : List Int)), true)) else (impl_Contradiction.l2 k x4 x5 x12 x13 x34 (wrap64 (x35 + 1)) x280000 x280001))) else (impl_Contradiction.l2 k x4 x5 x12 x13 x34 (wrap64 (x35 + 1)) x280000 x280001))) else (impl_Contradiction.l2 k x4 x5 x12 x13 x34 (wrap64 (x35 + 1)) x280000 x280001))) else (impl_Contradiction.l2 k x4 x5 x12 x13 x34 (wrap64 (x35 + 1)) x280000 x280001)) else (impl_Contradiction.l1 k x4 (wrap64 (x5 + 1)) x12 x13 x280000 x280001)
end
def impl_Contradiction.f (k : Nat) (a0_0 : Int) (a0_1 : Int) : Option (List Int × Bool) := (impl_IsTable.f a0_0 a0_1).bind fun t280 => (if t280 = true then ((impl_Table_size.f a0_0 a0_1).bind fun t281 => (impl_Contradiction.l0 k t281 0 a0_0 a0_1)) else (some (([] : List Int), false)))
theorem impl_Contradiction.calls (k : Nat) (a0_0 : Int) (a0_1 : Int) (r1 : List Int) (r2 : Bool) (w : World) (h : impl_Contradiction.f k a0_0 a0_1 = some (r1, r2)) :
  Calls Try.prog 8 #[.agg #[.int .i64 a0_0, .int .i64 a0_1]] w fun e w' => ∃ v0_ : Value, e = .returned (.tuple #[v0_, .bool r2]) ∧ Kd.R (Kd.int .i64) 3 w' w.heap.size (fun _ => True) v0_ r1 ∧ Below w.heap.size w w' := by
 have hu25 := Try.underlying25
 have HB := A_ (Below.refl w.heap.size w)
 have H : ((impl_IsTable.f a0_0 a0_1).bind fun t280 => (if t280 = true then ((impl_Table_size.f a0_0 a0_1).bind fun t281 => (impl_Contradiction.l0 k t281 0 a0_0 a0_1)) else (some (([] : List Int), false)))) = some (r1, r2) := h
 clear h; replace H := Option.bind_eq_some_iff.mp H; obtain ⟨t280, A20, H⟩ := H; (try dsimp only at H); have A2 := A_ A20; clear A20
 by_cases c3 : t280 = true
 ·subst c3
  have H1 : ((impl_Table_size.f a0_0 a0_1).bind fun t281 => (impl_Contradiction.l0 k t281 0 a0_0 a0_1)) = some (r1, r2) := by rw [if_pos rfl] at H; exact H
  clear H; have H := H1; clear H1; replace H := Option.bind_eq_some_iff.mp H; obtain ⟨t281, A40, H⟩ := H
  replace H : (impl_Contradiction.l0 k t281 0 a0_0 a0_1) = some (r1, r2) := H
  have A4 := A_ A40; clear A40
  have H' := A_ H
  clear H
  go_enter Try.func8, Try.ntmps8
  go_wp2_with (first | ((with_reducible refine gate_dst (N := 1) rfl ?_); refine box_event ?hg (N := 1) ?hd (cs := #[.int .i64 a0_0, .int .i64 a0_1]) (t := 25) ?hr ?_; (case hd => rfl); (case hg => rfl); (case hr => first | (go_simp; done) | (go_simp; rfl)); intro gb279 hg w5 hbox hb; have BK279 := A_ (hbox); have GW279 := A_ ((by rw [hg]; exact (below_size q0_) : w.heap.size ≤ gb279)); have GE279 := A_ ((by rw [hg]; exact (below_size q0_) : w.heap.size ≤ gb279)); replace HB := A_ (below_step q0_ hb); clear hb hbox hg; have hcz6_0 := c20_ BK279; have hcz6_1 := c21_ BK279; have hfz6_0 := blk_frozen BK279.out 0; have hfz6_1 := blk_frozen BK279.out 1) | ((with_reducible refine gate_callee (f := 36) rfl ?_); refine goesL_ (some 9) rfl rfl Try.func36 kr_ rfl #[.agg #[.int .i64 a0_0, .int .i64 a0_1]] rfl q2_ ?_; (with_reducible refine (impl_IsTable.calls a0_0 a0_1 true _ A2.out).mono ?_); rintro e w7 ⟨rfl, hb⟩; refine ⟨_, rfl, ?_⟩; replace BK279 := A_ (blk_below (M.Lb BK279) hb); replace HB := A_ (below_step q0_ hb); (try clear hb); (try clear hb2); (try clear hk); (try clear hi); have hcz8_0 := c20_ BK279; have hcz8_1 := c21_ BK279; have hfz8_0 := blk_frozen BK279.out 0; have hfz8_1 := blk_frozen BK279.out 1) | ((with_reducible refine gate_callee (f := 37) rfl ?_); refine goesL_ (some 12) rfl rfl Try.func37 kr_ rfl #[.agg #[.int .i64 a0_0, .int .i64 a0_1]] rfl q2_ ?_; (with_reducible refine (impl_Table_size.calls a0_0 a0_1 t281 _ A4.out).mono ?_); rintro e w9 ⟨rfl, hb⟩; refine ⟨_, rfl, ?_⟩; replace BK279 := A_ (blk_below (M.Lb BK279) hb); replace HB := A_ (below_step q0_ hb); (try clear hb); (try clear hb2); (try clear hk); (try clear hi)))
  go_loopg [13] k (fun kq v13 w' => ∃ (x13_1 : Int), v13 = .int .i64 x13_1 ∧ Aside0 (impl_Contradiction.l0 kq t281 x13_1 a0_0 a0_1 = some (r1, r2)) ∧ Aside0 (kq ≤ k) ∧ Aside0 (w'.heap[gb279]? = some (.cells #[.int .i64 a0_0, .int .i64 a0_1] 25 (0, 0))) ∧ Aside0 (Below w.heap.size w w'))
  case atStart => exact ⟨(0), q1_, H', ⟨Nat.le_refl _⟩, ⟨M.Lb BK279⟩, ⟨q0_⟩⟩
  case round =>
   clear H'; (try clear p2); (try clear c3); (try clear c8); (try clear hcz6_0); (try clear hcz6_1); (try clear hcz8_0); (try clear hcz8_1); (try clear hfz6_0); (try clear hfz6_1); (try clear hfz8_0); (try clear hfz8_1); obtain ⟨x13_1, rfl, HA, HK1, BK279, HB⟩ := hrel
   cases gk with
   | zero => exact absurd HA.out (by simp [impl_Contradiction.l0])
   | succ k1 =>
    have H := HA.out
    clear HA
    simp only [impl_Contradiction.l0] at H
    by_cases c10 : x13_1 < t281
    ·rw [if_pos c10] at H
     have c10b0 : decide (x13_1 < t281) = true := decide_eq_true c10
     clear c10
     have H' := A_ H
     clear H
     go_wp2
     go_loopg [5] k1 (fun kq v5 w' => ∃ (x5_2 : Int), v5 = .int .i64 x5_2 ∧ Aside0 (impl_Contradiction.l1 kq x13_1 x5_2 t281 x13_1 a0_0 a0_1 = some (r1, r2)) ∧ Aside0 (kq ≤ k1) ∧ Aside0 (w'.heap[gb279]? = some (.cells #[.int .i64 a0_0, .int .i64 a0_1] 25 (0, 0))) ∧ Aside0 (Below w.heap.size w w'))
     case atStart => exact ⟨(x13_1), q1_, H', ⟨Nat.le_refl _⟩, ⟨M.Lb BK279⟩, ⟨q0_⟩⟩
     case round =>
      clear H'; (try clear c1); (try clear p2); (try clear c3); (try clear c8); (try clear c10); (try clear c10b0); (try clear hcz6_0); (try clear hcz6_1); (try clear hcz8_0); (try clear hcz8_1); (try clear hfz6_0); (try clear hfz6_1); (try clear hfz8_0); (try clear hfz8_1); (try clear p2); obtain ⟨x5_2, rfl, HA, HK2, BK279, HB⟩ := hrel
      cases gk with
      | zero => exact absurd HA.out (by simp [impl_Contradiction.l1])
      | succ k2 =>
       have H := HA.out
       clear HA
       simp only [impl_Contradiction.l1] at H
       replace H := Option.bind_eq_some_iff.mp H; obtain ⟨t282, A110, H⟩ := H; (try dsimp only at H); have A11 := A_ A110; clear A110
       by_cases c12 : x5_2 < t282
       ·rw [if_pos c12] at H
        have c12b0 : decide (x5_2 < t282) = true := decide_eq_true c12
        clear c12; have HC13 := A_ H; clear H
        have hcz14_0 := c20_ BK279
        have hcz14_1 := c21_ BK279
        have hfz14_0 := blk_frozen BK279.out 0
        have hfz14_1 := blk_frozen BK279.out 1
        go_upto_region 9 with (first | ((with_reducible refine gate_callee (f := 37) rfl ?_); refine goesL_ (some 19) rfl rfl Try.func37 kr_ rfl #[.agg #[.int .i64 a0_0, .int .i64 a0_1]] rfl q2_ ?_; (with_reducible refine (impl_Table_size.calls a0_0 a0_1 t282 _ A11.out).mono ?_); rintro e w15 ⟨rfl, hb⟩; refine ⟨_, rfl, ?_⟩; replace BK279 := A_ (blk_below (M.Lb BK279) hb); replace HB := A_ (below_step q0_ hb); (try clear hb); (try clear hb2); (try clear hk); (try clear hi)))
        (try simp only [Act.put, List.setIfInBounds_toArray, List.set_cons_zero, List.set_cons_succ])
        go_cut [32] (fun v32 wc => ∃ (kq : Nat) (x32_12 : Bool), v32 = .bool x32_12 ∧ Aside0 (impl_Contradiction.j2 kq x13_1 x5_2 t281 x13_1 x32_12 a0_0 a0_1 = some (r1, r2)) ∧ Aside0 (kq ≤ k2) ∧ Aside0 (wc.heap[gb279]? = some (.cells #[.int .i64 a0_0, .int .i64 a0_1] 25 (0, 0))) ∧ Aside0 (Below w.heap.size w wc))
        case first =>
         have H := HC13.out
         clear HC13; replace H := Option.bind_eq_some_iff.mp H; obtain ⟨t283, A160, H⟩ := H; (try dsimp only at H); have A16 := A_ A160; clear A160
         by_cases c17 : t283 = 0
         ·rw [if_pos c17] at H
          have c17b0 : (t283 == 0) = true := beq_iff_eq.mpr c17
          have c17b1 : (t283 != 0) = false := bne_eq_false_iff_eq.mpr c17
          clear c17
          (first | rw [c17b0] | (simp only [i64_w, i32_w]; rw [c17b0]) | skip)
          have H' := A_ H
          clear H
          have hcz18_0 := c20_ BK279
          have hcz18_1 := c21_ BK279
          have hfz18_0 := blk_frozen BK279.out 0
          have hfz18_1 := blk_frozen BK279.out 1
          go_wp2_with (first | ((with_reducible refine gate_callee (f := 38) rfl ?_); refine goesL_ (some 25) rfl rfl Try.func38 kr_ rfl #[.agg #[.int .i64 a0_0, .int .i64 a0_1], .int .i64 x13_1] rfl q2_ ?_; (with_reducible refine (impl_Table_at.calls a0_0 a0_1 x13_1 t283 _ A16.out).mono ?_); rintro e w19 ⟨rfl, hb⟩; refine ⟨_, rfl, ?_⟩; replace BK279 := A_ (blk_below (M.Lb BK279) hb); replace HB := A_ (below_step q0_ hb); (try clear hb); (try clear hb2); (try clear hk); (try clear hi)))
          go_meet
          case rel => exact ⟨_, (true), q1_, H', ⟨by have := HK1.out; have := HK2.out; first | omega | exact Nat.le_refl _⟩, ⟨M.Lb BK279⟩, ⟨q0_⟩⟩
         ·rw [if_neg c17] at H
          have c17b0 : (t283 == 0) = false := beq_eq_false_iff_ne.mpr c17
          have c17b1 : (t283 != 0) = true := bne_iff_ne.mpr c17
          (first | rw [c17b0] | (simp only [i64_w, i32_w]; rw [c17b0]) | skip)
          replace H := Option.bind_eq_some_iff.mp H; obtain ⟨t284, A200, H⟩ := H
          replace H : (impl_Contradiction.j2 k2 x13_1 x5_2 t281 x13_1 (t284 == 0) a0_0 a0_1) = some (r1, r2) := H
          have A20 := A_ A200; clear A200
          have H' := A_ H
          clear H
          have hcz21_0 := c20_ BK279
          have hcz21_1 := c21_ BK279
          have hfz21_0 := blk_frozen BK279.out 0
          have hfz21_1 := blk_frozen BK279.out 1
          go_wp2_with (first | ((with_reducible refine gate_callee (f := 38) rfl ?_); refine goesL_ (some 25) rfl rfl Try.func38 kr_ rfl #[.agg #[.int .i64 a0_0, .int .i64 a0_1], .int .i64 x13_1] rfl q2_ ?_; (with_reducible refine (impl_Table_at.calls a0_0 a0_1 x13_1 t283 _ A16.out).mono ?_); rintro e w22 ⟨rfl, hb⟩; refine ⟨_, rfl, ?_⟩; replace BK279 := A_ (blk_below (M.Lb BK279) hb); replace HB := A_ (below_step q0_ hb); (try clear hb); (try clear hb2); (try clear hk); (try clear hi); have hcz23_0 := c20_ BK279; have hcz23_1 := c21_ BK279; have hfz23_0 := blk_frozen BK279.out 0; have hfz23_1 := blk_frozen BK279.out 1) | (go_at_call 38; (with_reducible refine (impl_Table_at.calls a0_0 a0_1 x5_2 t284 _ A20.out).mono ?_); rintro e w24 ⟨rfl, hb⟩; replace BK279 := A_ (blk_below (M.Lb BK279) hb); replace HB := A_ (below_step q0_ hb); (try clear hb); (try clear hb2); (try clear hk); (try clear hi)))
          go_meet
          case rel => exact ⟨_, ((t284 == 0)), q1_, H', ⟨by have := HK1.out; have := HK2.out; first | omega | exact Nat.le_refl _⟩, ⟨M.Lb BK279⟩, ⟨q0_⟩⟩
        case rest =>
         clear HC13; (try clear c1); (try clear p2); (try clear c3); (try clear p6); (try clear c8); (try clear c10); (try clear c10b0); (try clear c12); (try clear c12b0); (try clear c17); (try clear c17b0); (try clear c17b1); (try clear hcz14_0); (try clear hcz14_1); (try clear hcz18_0); (try clear hcz18_1); (try clear hcz21_0); (try clear hcz21_1); (try clear hcz23_0); (try clear hcz23_1); (try clear hcz6_0); (try clear hcz6_1); (try clear hcz8_0); (try clear hcz8_1); (try clear hfz14_0); (try clear hfz14_1); (try clear hfz18_0); (try clear hfz18_1); (try clear hfz21_0); (try clear hfz21_1)
         (try clear hfz23_0); (try clear hfz23_1); (try clear hfz6_0); (try clear hfz6_1); (try clear hfz8_0); (try clear hfz8_1); (try clear p2); obtain ⟨kq, x32_12, rfl, HA, HJ12, BK279, HB⟩ := hcut
         cases kq with
         | zero => exact absurd HA.out (by simp [impl_Contradiction.j2])
         | succ kj12 =>
          have H := HA.out
          clear HA
          simp only [impl_Contradiction.j2] at H
          by_cases c25 : x32_12 = true
          ·subst c25
           have H1 : (impl_Contradiction.l1 kj12 x13_1 (wrap64 (x5_2 + 1)) t281 x13_1 a0_0 a0_1) = some (r1, r2) := by rw [if_pos rfl] at H; exact H
           clear H; have H := H1; clear H1
           have H' := A_ H
           clear H
           go_wp2
           go_roundg kj12
           case measure => have := HK1.out; have := HK2.out; have := HJ12.out; omega
           case rel => exact ⟨(wrap64 (x5_2 + 1)), q1_, H', ⟨by have := HK1.out; have := HK2.out; have := HJ12.out; omega⟩, ⟨M.Lb BK279⟩, ⟨q0_⟩⟩
          ·replace c25 := Bool.eq_false_iff.mpr c25
           subst c25
           have H1 : ((impl_Table_size.f a0_0 a0_1).bind fun t285 => (impl_Contradiction.l2 kj12 x13_1 x5_2 t281 x13_1 t285 0 a0_0 a0_1)) = some (r1, r2) := by rw [if_neg (show ¬ (false = true) by decide)] at H; exact H
           clear H; have H := H1; clear H1; replace H := Option.bind_eq_some_iff.mp H; obtain ⟨t285, A260, H⟩ := H
           replace H : (impl_Contradiction.l2 kj12 x13_1 x5_2 t281 x13_1 t285 0 a0_0 a0_1) = some (r1, r2) := H
           have A26 := A_ A260; clear A260
           have H' := A_ H
           clear H
           have hcz27_0 := c20_ BK279
           have hcz27_1 := c21_ BK279
           have hfz27_0 := blk_frozen BK279.out 0
           have hfz27_1 := blk_frozen BK279.out 1
           go_wp2_with (first | ((with_reducible refine gate_callee (f := 37) rfl ?_); refine goesL_ (some 34) rfl rfl Try.func37 kr_ rfl #[.agg #[.int .i64 a0_0, .int .i64 a0_1]] rfl q2_ ?_; (with_reducible refine (impl_Table_size.calls a0_0 a0_1 t285 _ A26.out).mono ?_); rintro e w28 ⟨rfl, hb⟩; refine ⟨_, rfl, ?_⟩; replace BK279 := A_ (blk_below (M.Lb BK279) hb); replace HB := A_ (below_step q0_ hb); (try clear hb); (try clear hb2); (try clear hk); (try clear hi)))
           go_loopg [35] kj12 (fun kq v35 w' => ∃ (x35_4 : Int), v35 = .int .i64 x35_4 ∧ Aside0 (impl_Contradiction.l2 kq x13_1 x5_2 t281 x13_1 t285 x35_4 a0_0 a0_1 = some (r1, r2)) ∧ Aside0 (kq ≤ kj12) ∧ Aside0 (w'.heap[gb279]? = some (.cells #[.int .i64 a0_0, .int .i64 a0_1] 25 (0, 0))) ∧ Aside0 (Below w.heap.size w w'))
           case atStart => exact ⟨(0), q1_, H', ⟨Nat.le_refl _⟩, ⟨M.Lb BK279⟩, ⟨q0_⟩⟩
           case round =>
            clear H'; (try clear c1); (try clear c2); (try clear p2); (try clear c3); (try clear p6); (try clear c8); (try clear c10); (try clear c10b0); (try clear c12); (try clear c12b0); (try clear c17); (try clear c17b0); (try clear c17b1); (try clear c25); (try clear hcz14_0); (try clear hcz14_1); (try clear hcz18_0); (try clear hcz18_1); (try clear hcz21_0); (try clear hcz21_1); (try clear hcz23_0); (try clear hcz23_1); (try clear hcz27_0); (try clear hcz27_1); (try clear hcz6_0); (try clear hcz6_1); (try clear hcz8_0); (try clear hcz8_1); (try clear hfz14_0); (try clear hfz14_1)
            (try clear hfz18_0); (try clear hfz18_1); (try clear hfz21_0); (try clear hfz21_1); (try clear hfz23_0); (try clear hfz23_1); (try clear hfz27_0); (try clear hfz27_1); (try clear hfz6_0); (try clear hfz6_1); (try clear hfz8_0); (try clear hfz8_1); (try clear p2); (try clear p6); obtain ⟨x35_4, rfl, HA, HK4, BK279, HB⟩ := hrel
            cases gk with
            | zero => exact absurd HA.out (by simp [impl_Contradiction.l2])
            | succ k4 =>
             have H := HA.out
             clear HA
             simp only [impl_Contradiction.l2] at H
             by_cases c29 : x35_4 < t285
             ·rw [if_pos c29] at H
              have c29b0 : decide (x35_4 < t285) = true := decide_eq_true c29
              clear c29
              by_cases c30 : x35_4 ≤ (Go.bits .xor .i64 (Go.bits .xor .i64 x13_1 x5_2) x35_4)
              ·rw [if_pos c30] at H
               have c30b0 : decide (x35_4 ≤ (Go.bits .xor .i64 (Go.bits .xor .i64 x13_1 x5_2) x35_4)) = true := decide_eq_true c30
               clear c30; replace H := Option.bind_eq_some_iff.mp H; obtain ⟨t286, A310, H⟩ := H; (try dsimp only at H); have A31 := A_ A310; clear A310
               by_cases c32 : t286 = 0
               ·rw [if_pos c32] at H
                have c32b0 : (t286 == 0) = true := beq_iff_eq.mpr c32
                have c32b1 : (t286 != 0) = false := bne_eq_false_iff_eq.mpr c32
                clear c32; replace H := Option.bind_eq_some_iff.mp H; obtain ⟨t287, A330, H⟩ := H; (try dsimp only at H); have A33 := A_ A330; clear A330
                by_cases c34 : t287 = 0
                ·rw [if_pos c34] at H
                 have c34b0 : (t287 == 0) = true := beq_iff_eq.mpr c34
                 have c34b1 : (t287 != 0) = false := bne_eq_false_iff_eq.mpr c34
                 clear c34; replace H := Option.bind_eq_some_iff.mp H; obtain ⟨t288, A350, H⟩ := H; (try dsimp only at H); have A35 := A_ A350; clear A350
                 by_cases c36 : t288 = true
                 ·subst c36
                  have H1 : (some ((([x13_1, x5_2, x35_4, Go.bits .xor .i64 (Go.bits .xor .i64 x13_1 x5_2) x35_4] : List Int)), true)) = some (r1, r2) := by rw [if_pos rfl] at H; exact H
                  clear H; have H := H1; clear H1
                  obtain ⟨y289, hy289⟩ : ∃ y_ : List Int, y_ = (([x13_1, x5_2, x35_4, Go.bits .xor .i64 (Go.bits .xor .i64 x13_1 x5_2) x35_4] : List Int)) := ⟨_, rfl⟩
                  replace H : (some (y289, true)) = some (r1, r2) := by first | (rw [hy289]; with_reducible exact H) | (have H2_ := (Option.bind_some _ _).symm.trans H; rw [hy289]; with_reducible exact H2_) | (have H2_ := (Option.bind_some _ _).symm.trans H; with_reducible exact H2_) | with_reducible exact H | (rw [hy289]; exact H) | exact H
                  have Ny289 := A_ hy289; clear hy289
                  simp only [Option.some.injEq, Prod.mk.injEq] at H
                  obtain ⟨rfl, rfl⟩ := H
                  have hcz37_0 := c20_ BK279
                  have hcz37_1 := c21_ BK279
                  have hfz37_0 := blk_frozen BK279.out 0
                  have hfz37_1 := blk_frozen BK279.out 1
                  go_wp2_with (first | (go_at_call 38; (with_reducible refine (impl_Table_at.calls a0_0 a0_1 x35_4 t286 _ A31.out).mono ?_); rintro e w38 ⟨rfl, hb⟩; replace BK279 := A_ (blk_below (M.Lb BK279) hb); replace HB := A_ (below_step q0_ hb); (try clear hb); (try clear hb2); (try clear hk); (try clear hi); have hcz39_0 := c20_ BK279; have hcz39_1 := c21_ BK279; have hfz39_0 := blk_frozen BK279.out 0; have hfz39_1 := blk_frozen BK279.out 1) | (go_at_call 38; (with_reducible refine (impl_Table_at.calls a0_0 a0_1 (Go.bits .xor .i64 (Go.bits .xor .i64 x13_1 x5_2) x35_4) t287 _ A33.out).mono ?_); rintro e w40 ⟨rfl, hb⟩; replace BK279 := A_ (blk_below (M.Lb BK279) hb); replace HB := A_ (below_step q0_ hb); (try clear hb); (try clear hb2); (try clear hk); (try clear hi)) | (go_at_call 39; (with_reducible refine (impl_isContradiction.calls x13_1 x5_2 x35_4 (Go.bits .xor .i64 (Go.bits .xor .i64 x13_1 x5_2) x35_4) true _ A35.out).mono ?_); rintro e w' ⟨rfl, ⟨nd, rfl⟩⟩) | ((with_reducible refine gate_dst (N := 69) rfl ?_); refine Kd.R_lit (Kd.int .i64) _ 3 ?hg (N := 69) ?hd (xs := ([x13_1, x5_2, x35_4, Go.bits .xor .i64 (Go.bits .xor .i64 x13_1 x5_2) x35_4] : List Int)) (inner := [.int .i64 x13_1, .int .i64 x5_2, .int .i64 x35_4, .int .i64 (Go.bits .xor .i64 (Go.bits .xor .i64 x13_1 x5_2) x35_4)]) (ok := fun _ => True) (okp := fun _ => True) ?hr ?hp (fun _ hk => hk) trivial (Below.refl _ _) (Nat.le_refl _) (by simp) ?_; (case hd => rfl); (case hg => rfl); (case hr => first | (go_simp; done) | (go_simp; rfl)); (case hp => exact (Reps.one (show Kd.M (Kd.int .i64) _ _ _ x13_1 [.int .i64 x13_1] from rfl) (Reps.one (show Kd.M (Kd.int .i64) _ _ _ x5_2 [.int .i64 x5_2] from rfl) (Reps.one (show Kd.M (Kd.int .i64) _ _ _ x35_4 [.int .i64 x35_4] from rfl) (Reps.one (show Kd.M (Kd.int .i64) _ _ _ (Go.bits .xor .i64 (Go.bits .xor .i64 x13_1 x5_2) x35_4) [.int .i64 (Go.bits .xor .i64 (Go.bits .xor .i64 x13_1 x5_2) x35_4)] from rfl) (Reps.none _ _)))))); intro v290 w41 ho42 hb hg_ hnew_; clear hg_ hnew_; (first | rw [← Ny289.out] at ho42 | (simp only [Int.reduceToNat] at ho42; rw [← Ny289.out] at ho42)); have HO291 := A_ (Kd.R_lower ho42 (below_size q0_)); replace BK279 := A_ (blk_below (M.Lb BK279) hb); replace HB := A_ (below_step q0_ hb); clear hb ho42))
                  go_ret2
                  exact ⟨_, q7_, by (with_reducible repeat (first | apply Kd.R_alloc | apply Kd.R_drewN | apply Kd.R_drew)); exact HO291.out, q0_⟩
                 ·replace c36 := Bool.eq_false_iff.mpr c36
                  subst c36
                  have H1 : (impl_Contradiction.l2 k4 x13_1 x5_2 t281 x13_1 t285 (wrap64 (x35_4 + 1)) a0_0 a0_1) = some (r1, r2) := by rw [if_neg (show ¬ (false = true) by decide)] at H; exact H
                  clear H; have H := H1; clear H1
                  have H' := A_ H
                  clear H
                  have hcz43_0 := c20_ BK279
                  have hcz43_1 := c21_ BK279
                  have hfz43_0 := blk_frozen BK279.out 0
                  have hfz43_1 := blk_frozen BK279.out 1
                  go_wp2_with (first | (go_at_call 38; (with_reducible refine (impl_Table_at.calls a0_0 a0_1 x35_4 t286 _ A31.out).mono ?_); rintro e w44 ⟨rfl, hb⟩; replace BK279 := A_ (blk_below (M.Lb BK279) hb); replace HB := A_ (below_step q0_ hb); (try clear hb); (try clear hb2); (try clear hk); (try clear hi); have hcz45_0 := c20_ BK279; have hcz45_1 := c21_ BK279; have hfz45_0 := blk_frozen BK279.out 0; have hfz45_1 := blk_frozen BK279.out 1) | (go_at_call 38; (with_reducible refine (impl_Table_at.calls a0_0 a0_1 (Go.bits .xor .i64 (Go.bits .xor .i64 x13_1 x5_2) x35_4) t287 _ A33.out).mono ?_); rintro e w46 ⟨rfl, hb⟩; replace BK279 := A_ (blk_below (M.Lb BK279) hb); replace HB := A_ (below_step q0_ hb); (try clear hb); (try clear hb2); (try clear hk); (try clear hi)) | (go_at_call 39; (with_reducible refine (impl_isContradiction.calls x13_1 x5_2 x35_4 (Go.bits .xor .i64 (Go.bits .xor .i64 x13_1 x5_2) x35_4) false _ A35.out).mono ?_); rintro e w' ⟨rfl, ⟨nd, rfl⟩⟩))
                  go_roundg k4
                  case measure => have := HK1.out; have := HK2.out; have := HJ12.out; have := HK4.out; omega
                  case rel => exact ⟨(wrap64 (x35_4 + 1)), q1_, H', ⟨by have := HK1.out; have := HK2.out; have := HJ12.out; have := HK4.out; omega⟩, ⟨M.Lb BK279⟩, ⟨q0_⟩⟩
                ·rw [if_neg c34] at H
                 have c34b0 : (t287 == 0) = false := beq_eq_false_iff_ne.mpr c34
                 have c34b1 : (t287 != 0) = true := bne_iff_ne.mpr c34
                 have H' := A_ H
                 clear H
                 have hcz47_0 := c20_ BK279
                 have hcz47_1 := c21_ BK279
                 have hfz47_0 := blk_frozen BK279.out 0
                 have hfz47_1 := blk_frozen BK279.out 1
                 go_wp2_with (first | (go_at_call 38; (with_reducible refine (impl_Table_at.calls a0_0 a0_1 x35_4 t286 _ A31.out).mono ?_); rintro e w48 ⟨rfl, hb⟩; replace BK279 := A_ (blk_below (M.Lb BK279) hb); replace HB := A_ (below_step q0_ hb); (try clear hb); (try clear hb2); (try clear hk); (try clear hi); have hcz49_0 := c20_ BK279; have hcz49_1 := c21_ BK279; have hfz49_0 := blk_frozen BK279.out 0; have hfz49_1 := blk_frozen BK279.out 1) | (go_at_call 38; (with_reducible refine (impl_Table_at.calls a0_0 a0_1 (Go.bits .xor .i64 (Go.bits .xor .i64 x13_1 x5_2) x35_4) t287 _ A33.out).mono ?_); rintro e w50 ⟨rfl, hb⟩; replace BK279 := A_ (blk_below (M.Lb BK279) hb); replace HB := A_ (below_step q0_ hb); (try clear hb); (try clear hb2); (try clear hk); (try clear hi)))
                 go_roundg k4
                 case measure => have := HK1.out; have := HK2.out; have := HJ12.out; have := HK4.out; omega
                 case rel => exact ⟨(wrap64 (x35_4 + 1)), q1_, H', ⟨by have := HK1.out; have := HK2.out; have := HJ12.out; have := HK4.out; omega⟩, ⟨M.Lb BK279⟩, ⟨q0_⟩⟩
               ·rw [if_neg c32] at H
                have c32b0 : (t286 == 0) = false := beq_eq_false_iff_ne.mpr c32
                have c32b1 : (t286 != 0) = true := bne_iff_ne.mpr c32
                have H' := A_ H
                clear H
                have hcz51_0 := c20_ BK279
                have hcz51_1 := c21_ BK279
                have hfz51_0 := blk_frozen BK279.out 0
                have hfz51_1 := blk_frozen BK279.out 1
                go_wp2_with (first | (go_at_call 38; (with_reducible refine (impl_Table_at.calls a0_0 a0_1 x35_4 t286 _ A31.out).mono ?_); rintro e w52 ⟨rfl, hb⟩; replace BK279 := A_ (blk_below (M.Lb BK279) hb); replace HB := A_ (below_step q0_ hb); (try clear hb); (try clear hb2); (try clear hk); (try clear hi)))
                go_roundg k4
                case measure => have := HK1.out; have := HK2.out; have := HJ12.out; have := HK4.out; omega
                case rel => exact ⟨(wrap64 (x35_4 + 1)), q1_, H', ⟨by have := HK1.out; have := HK2.out; have := HJ12.out; have := HK4.out; omega⟩, ⟨M.Lb BK279⟩, ⟨q0_⟩⟩
              ·rw [if_neg c30] at H
               have c30b0 : decide (x35_4 ≤ (Go.bits .xor .i64 (Go.bits .xor .i64 x13_1 x5_2) x35_4)) = false := decide_eq_false c30
               clear c30
               have H' := A_ H
               clear H
               go_wp2
               go_roundg k4
               case measure => have := HK1.out; have := HK2.out; have := HJ12.out; have := HK4.out; omega
               case rel => exact ⟨(wrap64 (x35_4 + 1)), q1_, H', ⟨by have := HK1.out; have := HK2.out; have := HJ12.out; have := HK4.out; omega⟩, ⟨M.Lb BK279⟩, ⟨q0_⟩⟩
             ·rw [if_neg c29] at H
              have c29b0 : decide (x35_4 < t285) = false := decide_eq_false c29
              clear c29
              have H' := A_ H
              clear H
              go_wp2
              go_roundg k4
              case measure => have := HK1.out; have := HK2.out; have := HJ12.out; have := HK4.out; omega
              case rel => exact ⟨(wrap64 (x5_2 + 1)), q1_, H', ⟨by have := HK1.out; have := HK2.out; have := HJ12.out; have := HK4.out; omega⟩, ⟨M.Lb BK279⟩, ⟨q0_⟩⟩
       ·rw [if_neg c12] at H
        have c12b0 : decide (x5_2 < t282) = false := decide_eq_false c12
        clear c12
        have H' := A_ H
        clear H
        have hcz53_0 := c20_ BK279
        have hcz53_1 := c21_ BK279
        have hfz53_0 := blk_frozen BK279.out 0
        have hfz53_1 := blk_frozen BK279.out 1
        go_wp2_with (first | ((with_reducible refine gate_callee (f := 37) rfl ?_); refine goesL_ (some 19) rfl rfl Try.func37 kr_ rfl #[.agg #[.int .i64 a0_0, .int .i64 a0_1]] rfl q2_ ?_; (with_reducible refine (impl_Table_size.calls a0_0 a0_1 t282 _ A11.out).mono ?_); rintro e w54 ⟨rfl, hb⟩; refine ⟨_, rfl, ?_⟩; replace BK279 := A_ (blk_below (M.Lb BK279) hb); replace HB := A_ (below_step q0_ hb); (try clear hb); (try clear hb2); (try clear hk); (try clear hi)))
        go_roundg k2
        case measure => have := HK1.out; have := HK2.out; omega
        case rel => exact ⟨(wrap64 (x13_1 + 1)), q1_, H', ⟨by have := HK1.out; have := HK2.out; omega⟩, ⟨M.Lb BK279⟩, ⟨q0_⟩⟩
    ·rw [if_neg c10] at H
     have c10b0 : decide (x13_1 < t281) = false := decide_eq_false c10
     clear c10
     simp only [Option.some.injEq, Prod.mk.injEq] at H
     obtain ⟨rfl, rfl⟩ := H
     go_wp2
     go_ret2
     exact ⟨_, q7_, q17_, q0_⟩
 ·replace c3 := Bool.eq_false_iff.mpr c3
  subst c3
  have H1 : (some (([] : List Int), false)) = some (r1, r2) := by rw [if_neg (show ¬ (false = true) by decide)] at H; exact H
  clear H; have H := H1; clear H1
  simp only [Option.some.injEq, Prod.mk.injEq] at H
  obtain ⟨rfl, rfl⟩ := H
  go_enter Try.func8, Try.ntmps8
  go_wp2_with (first | ((with_reducible refine gate_dst (N := 1) rfl ?_); refine box_event ?hg (N := 1) ?hd (cs := #[.int .i64 a0_0, .int .i64 a0_1]) (t := 25) ?hr ?_; (case hd => rfl); (case hg => rfl); (case hr => first | (go_simp; done) | (go_simp; rfl)); intro gb279 hg w55 hbox hb; have BK279 := A_ (hbox); have GW279 := A_ ((by rw [hg]; exact (below_size q0_) : w.heap.size ≤ gb279)); have GE279 := A_ ((by rw [hg]; exact (below_size q0_) : w.heap.size ≤ gb279)); replace HB := A_ (below_step q0_ hb); clear hb hbox hg; have hcz56_0 := c20_ BK279; have hcz56_1 := c21_ BK279; have hfz56_0 := blk_frozen BK279.out 0; have hfz56_1 := blk_frozen BK279.out 1) | ((with_reducible refine gate_callee (f := 36) rfl ?_); refine goesL_ (some 9) rfl rfl Try.func36 kr_ rfl #[.agg #[.int .i64 a0_0, .int .i64 a0_1]] rfl q2_ ?_; (with_reducible refine (impl_IsTable.calls a0_0 a0_1 false _ A2.out).mono ?_); rintro e w57 ⟨rfl, hb⟩; refine ⟨_, rfl, ?_⟩; replace BK279 := A_ (blk_below (M.Lb BK279) hb); replace HB := A_ (below_step q0_ hb); (try clear hb); (try clear hb2); (try clear hk); (try clear hi)))
  go_ret2
  exact ⟨_, q7_, q17_, q0_⟩
end Go.Proofs.Ytloekoepknfodaa.Print
namespace Go.Proofs.Ytloekoepknfodaa.Print
open Go.RowKit Go.Proofs.YtloekoepknfodaaW.PrintWords Go.Proofs.YtloekoepknfodaaW.PrintLast Go.Proofs.YtloekoepknfodaaW.PrintMore
attribute [local go_sem] max2_int min2_int max_two min_two max_three min_three max_four min_four   -- for this text's walks alone
set_option linter.unusedVariables false
set_option linter.unusedSimpArgs false
set_option maxHeartbeats 8000000
set_option maxRecDepth 100000
mutual
def spec_Contradiction.l0 : Nat → Int → Int → Int → Int → Option (List Int × Bool)
 | 0, _, _, _, _ => none
 | k + 1, x4, x5, x293000, x293001 => if x5 < x4 then (spec_Contradiction.l1 k x4 x5 x5 x293000 x293001) else (some ((([] : List Int)), false))
def spec_Contradiction.l1 : Nat → Int → Int → Int → Int → Int → Option (List Int × Bool)
 | 0, _, _, _, _, _ => none
 | k + 1, x4, x5, x6, x293000, x293001 => if x6 < x4 then (if 0 ≤ x5 then (if 0 ≤ x6 then (if (Go.bits .and .i64 (Go.bits .and .i64 (shr .i64 x293001 x5) (shr .i64 x293001 x6)) 1) = 0 then (spec_Contradiction.l1 k x4 x5 (wrap64 (x6 + 1)) x293000 x293001) else (spec_Contradiction.l2 k x4 x5 x6 0 x293000 x293001)) else (none)) else (none)) else (spec_Contradiction.l0 k x4 (wrap64 (x5 + 1)) x293000 x293001)
def spec_Contradiction.l2 : Nat → Int → Int → Int → Int → Int → Int → Option (List Int × Bool)
 | 0, _, _, _, _, _, _ => none
 | k + 1, x4, x5, x6, x7, x293000, x293001 => if x7 < x4 then (spec_Contradiction.l3 k x4 x5 x6 x7 x7 x293000 x293001) else (spec_Contradiction.l1 k x4 x5 (wrap64 (x6 + 1)) x293000 x293001)
def spec_Contradiction.l3 : Nat → Int → Int → Int → Int → Int → Int → Int → Option (List Int × Bool)
 | 0, _, _, _, _, _, _, _ => none
 | k + 1, x4, x5, x6, x7, x8, x293000, x293001 => if x8 < x4 then (if (Go.bits .and .i64 x5 x6) = (Go.bits .and .i64 x7 x8) then (if (Go.bits .xor .i64 x5 x6) = (Go.bits .xor .i64 x7 x8) then (if 0 ≤ x7 then (if 0 ≤ x8 then (if (Go.bits .and .i64 (Go.bits .or .i64 (shr .i64 x293001 x7) (shr .i64 x293001 x8)) 1) = 0 then (some ((([x5, x6, x7, x8] : List Int)), true)) else (spec_Contradiction.l3 k x4 x5 x6 x7 (wrap64 (x8 + 1)) x293000 x293001)) else (none)) else (none)) else (spec_Contradiction.l3 k x4 x5 x6 x7 (wrap64 (x8 + 1)) x293000 x293001)) else (spec_Contradiction.l3 k x4 x5 x6 x7 (wrap64 (x8 + 1)) x293000 x293001)) else (spec_Contradiction.l2 k x4 x5 x6 (wrap64 (x7 + 1)) x293000 x293001)
end
def spec_Contradiction.f (k : Nat) (a0_0 : Int) (a0_1 : Int) : Option (List Int × Bool) := (spec_IsTable.f a0_0 a0_1).bind fun t293 => (if t293 = true then (if 0 ≤ a0_0 then (spec_Contradiction.l0 k (shl .i64 1 a0_0) 0 a0_0 a0_1) else (none)) else (some ((([] : List Int)), false)))
theorem spec_Contradiction.calls (k : Nat) (a0_0 : Int) (a0_1 : Int) (r1 : List Int) (r2 : Bool) (w : World) (h : spec_Contradiction.f k a0_0 a0_1 = some (r1, r2)) :
  Calls Try.prog 9 #[.agg #[.int .i64 a0_0, .int .i64 a0_1]] w fun e w' => ∃ v0_ : Value, e = .returned (.tuple #[v0_, .bool r2]) ∧ Kd.R (Kd.int .i64) 3 w' w.heap.size (fun _ => True) v0_ r1 ∧ Below w.heap.size w w' := by
 have hu25 := Try.underlying25
 have HB := A_ (Below.refl w.heap.size w)
 have H : ((spec_IsTable.f a0_0 a0_1).bind fun t293 => (if t293 = true then (if 0 ≤ a0_0 then (spec_Contradiction.l0 k (shl .i64 1 a0_0) 0 a0_0 a0_1) else (none)) else (some ((([] : List Int)), false)))) = some (r1, r2) := h
 clear h; replace H := Option.bind_eq_some_iff.mp H; obtain ⟨t293, A20, H⟩ := H; (try dsimp only at H); have A2 := A_ A20; clear A20
 by_cases c3 : t293 = true
 ·subst c3
  have H1 : (if 0 ≤ a0_0 then (spec_Contradiction.l0 k (shl .i64 1 a0_0) 0 a0_0 a0_1) else (none)) = some (r1, r2) := by rw [if_pos rfl] at H; exact H
  clear H; have H := H1; clear H1
  by_cases c4 : 0 ≤ a0_0
  ·rw [if_pos c4] at H
   have c4b0 := eq_true c4
   have c4b1 : decide (0 ≤ a0_0) = true := decide_eq_true c4
   clear c4
   obtain ⟨ji5, hji5⟩ : ∃ j_ : Int, (shl .i64 1 a0_0) = j_ := ⟨_, rfl⟩
   replace H : (spec_Contradiction.l0 k ji5 0 a0_0 a0_1) = some (r1, r2) := q13_
   (try rw [hji5] at A2)
   have hji5_ : (IntKind.i64.wrap (1 * 2 ^ min a0_0.toNat 64)) = ji5 := hji5
   have hji5z : a0_0 ≤ 64 → (IntKind.i64.wrap (1 * 2 ^ a0_0.toNat)) = ji5 := shl_small hji5
   have hji5u : (IntKind.i64.wrap (2 ^ min a0_0.toNat 64)) = ji5 := by have h_ := hji5_; rw [Int.one_mul] at h_; exact h_
   have hji5v : a0_0 ≤ 64 → (IntKind.i64.wrap (2 ^ a0_0.toNat)) = ji5 := fun hle_ => by have h_ := hji5z hle_; rw [Int.one_mul] at h_; exact h_
   have hji5y : (wrap64 (1 * 2 ^ min a0_0.toNat 64)) = ji5 := (i64_w _).symm.trans hji5_
   have hji5x : a0_0 ≤ 64 → (wrap64 (1 * 2 ^ a0_0.toNat)) = ji5 := fun h_ => (i64_w _).symm.trans (hji5z h_)
   have H' := A_ H
   clear H
   go_enter Try.func9, Try.ntmps9
   go_wp2_with (first | ((with_reducible refine gate_dst (N := 1) rfl ?_); refine box_event ?hg (N := 1) ?hd (cs := #[.int .i64 a0_0, .int .i64 a0_1]) (t := 25) ?hr ?_; (case hd => rfl); (case hg => rfl); (case hr => first | (go_simp; done) | (go_simp; rfl)); intro gb292 hg w6 hbox hb; have BK292 := A_ (hbox); have GW292 := A_ ((by rw [hg]; exact (below_size q0_) : w.heap.size ≤ gb292)); have GE292 := A_ ((by rw [hg]; exact (below_size q0_) : w.heap.size ≤ gb292)); replace HB := A_ (below_step q0_ hb); clear hb hbox hg; have hcz7_0 := c20_ BK292; have hcz7_1 := c21_ BK292; have hfz7_0 := blk_frozen BK292.out 0; have hfz7_1 := blk_frozen BK292.out 1) | (go_at_call 16; (with_reducible refine (spec_IsTable.calls a0_0 a0_1 true _ A2.out).mono ?_); rintro e w8 ⟨rfl, hb⟩; replace BK292 := A_ (blk_below (M.Lb BK292) hb); replace HB := A_ (below_step q0_ hb); (try clear hb); (try clear hb2); (try clear hk); (try clear hi); have hcz9_0 := c20_ BK292; have hcz9_1 := c21_ BK292; have hfz9_0 := blk_frozen BK292.out 0; have hfz9_1 := blk_frozen BK292.out 1))
   repeat (go_quiet (first | ((with_reducible refine gate_dst (N := 1) rfl ?_); refine box_event ?hg (N := 1) ?hd (cs := #[.int .i64 a0_0, .int .i64 a0_1]) (t := 25) ?hr ?_; (case hd => rfl); (case hg => rfl); (case hr => first | (go_simp; done) | (go_simp; rfl)); intro gb292 hg w6 hbox hb; have BK292 := A_ (hbox); have GW292 := A_ ((by rw [hg]; exact (below_size q0_) : w.heap.size ≤ gb292)); have GE292 := A_ ((by rw [hg]; exact (below_size q0_) : w.heap.size ≤ gb292)); replace HB := A_ (below_step q0_ hb); clear hb hbox hg; have hcz7_0 := c20_ BK292; have hcz7_1 := c21_ BK292; have hfz7_0 := blk_frozen BK292.out 0; have hfz7_1 := blk_frozen BK292.out 1) | (go_at_call 16; (with_reducible refine (spec_IsTable.calls a0_0 a0_1 true _ A2.out).mono ?_); rintro e w8 ⟨rfl, hb⟩; replace BK292 := A_ (blk_below (M.Lb BK292) hb); replace HB := A_ (below_step q0_ hb); (try clear hb); (try clear hb2); (try clear hk); (try clear hi); have hcz9_0 := c20_ BK292; have hcz9_1 := c21_ BK292; have hfz9_0 := blk_frozen BK292.out 0; have hfz9_1 := blk_frozen BK292.out 1)); try go_wp2_with (first | ((with_reducible refine gate_dst (N := 1) rfl ?_); refine box_event ?hg (N := 1) ?hd (cs := #[.int .i64 a0_0, .int .i64 a0_1]) (t := 25) ?hr ?_; (case hd => rfl); (case hg => rfl); (case hr => first | (go_simp; done) | (go_simp; rfl)); intro gb292 hg w6 hbox hb; have BK292 := A_ (hbox); have GW292 := A_ ((by rw [hg]; exact (below_size q0_) : w.heap.size ≤ gb292)); have GE292 := A_ ((by rw [hg]; exact (below_size q0_) : w.heap.size ≤ gb292)); replace HB := A_ (below_step q0_ hb); clear hb hbox hg; have hcz7_0 := c20_ BK292; have hcz7_1 := c21_ BK292; have hfz7_0 := blk_frozen BK292.out 0; have hfz7_1 := blk_frozen BK292.out 1) | (go_at_call 16; (with_reducible refine (spec_IsTable.calls a0_0 a0_1 true _ A2.out).mono ?_); rintro e w8 ⟨rfl, hb⟩; replace BK292 := A_ (blk_below (M.Lb BK292) hb); replace HB := A_ (below_step q0_ hb); (try clear hb); (try clear hb2); (try clear hk); (try clear hi); have hcz9_0 := c20_ BK292; have hcz9_1 := c21_ BK292; have hfz9_0 := blk_frozen BK292.out 0; have hfz9_1 := blk_frozen BK292.out 1)))
   go_loopg [5] k (fun kq v5 w' => ∃ (x5_1 : Int), v5 = .int .i64 x5_1 ∧ Aside0 (spec_Contradiction.l0 kq ji5 x5_1 a0_0 a0_1 = some (r1, r2)) ∧ Aside0 (kq ≤ k) ∧ Aside0 (w'.heap[gb292]? = some (.cells #[.int .i64 a0_0, .int .i64 a0_1] 25 (0, 0))) ∧ Aside0 (Below w.heap.size w w'))
   case atStart => exact ⟨(0), q1_, H', ⟨Nat.le_refl _⟩, ⟨M.Lb BK292⟩, ⟨q0_⟩⟩
   case round =>
    clear H'; (try clear p2); (try clear c3); (try clear c4); (try clear c4b0); (try clear c4b1); (try clear p6); (try clear c9); (try clear hcz7_0); (try clear hcz7_1); (try clear hcz9_0); (try clear hcz9_1); (try clear hfz7_0); (try clear hfz7_1); (try clear hfz9_0); (try clear hfz9_1); obtain ⟨x5_1, rfl, HA, HK1, BK292, HB⟩ := hrel
    cases gk with
    | zero => exact absurd HA.out (by simp [spec_Contradiction.l0])
    | succ k1 =>
     have H := HA.out
     clear HA
     simp only [spec_Contradiction.l0] at H
     by_cases c10 : x5_1 < ji5
     ·rw [if_pos c10] at H
      have c10b0 : decide (x5_1 < ji5) = true := decide_eq_true c10
      clear c10
      have H' := A_ H
      clear H
      go_wp2
      repeat (go_quiet (fail); try go_wp2)
      go_loopg [6] k1 (fun kq v6 w' => ∃ (x6_2 : Int), v6 = .int .i64 x6_2 ∧ Aside0 (spec_Contradiction.l1 kq ji5 x5_1 x6_2 a0_0 a0_1 = some (r1, r2)) ∧ Aside0 (kq ≤ k1) ∧ Aside0 (w'.heap[gb292]? = some (.cells #[.int .i64 a0_0, .int .i64 a0_1] 25 (0, 0))) ∧ Aside0 (Below w.heap.size w w'))
      case atStart => exact ⟨(x5_1), q1_, H', ⟨Nat.le_refl _⟩, ⟨M.Lb BK292⟩, ⟨q0_⟩⟩
      case round =>
       clear H'; (try clear c1); (try clear p2); (try clear c3); (try clear c4); (try clear c4b0); (try clear c4b1); (try clear p6); (try clear c9); (try clear c10); (try clear c10b0); (try clear hcz7_0); (try clear hcz7_1); (try clear hcz9_0); (try clear hcz9_1); (try clear hfz7_0); (try clear hfz7_1); (try clear hfz9_0); (try clear hfz9_1); (try clear p2); (try clear p6); obtain ⟨x6_2, rfl, HA, HK2, BK292, HB⟩ := hrel
       cases gk with
       | zero => exact absurd HA.out (by simp [spec_Contradiction.l1])
       | succ k2 =>
        have H := HA.out
        clear HA
        simp only [spec_Contradiction.l1] at H
        by_cases c11 : x6_2 < ji5
        ·rw [if_pos c11] at H
         have c11b0 : decide (x6_2 < ji5) = true := decide_eq_true c11
         clear c11
         by_cases c12 : 0 ≤ x5_1
         ·rw [if_pos c12] at H
          have c12b0 := eq_true c12
          have c12b1 : decide (0 ≤ x5_1) = true := decide_eq_true c12
          clear c12
          obtain ⟨ji13, hji13⟩ : ∃ j_ : Int, (shr .i64 a0_1 x5_1) = j_ := ⟨_, rfl⟩
          replace H : (if 0 ≤ x6_2 then (if (Go.bits .and .i64 (Go.bits .and .i64 (ji13) (shr .i64 a0_1 x6_2)) 1) = 0 then (spec_Contradiction.l1 k2 ji5 x5_1 (wrap64 (x6_2 + 1)) a0_0 a0_1) else (spec_Contradiction.l2 k2 ji5 x5_1 x6_2 0 a0_0 a0_1)) else (none)) = some (r1, r2) := by first | (rw [hji13] at H; exact H) | (simp only [hji13] at H ⊢; exact H)
          have hji13_ : (a0_1 / 2 ^ min x5_1.toNat 64) = ji13 := hji13
          have hji13z : x5_1 ≤ 64 → (a0_1 / 2 ^ x5_1.toNat) = ji13 := shr_small hji13
          by_cases c14 : 0 ≤ x6_2
          ·rw [if_pos c14] at H
           have c14b0 := eq_true c14
           have c14b1 : decide (0 ≤ x6_2) = true := decide_eq_true c14
           clear c14
           obtain ⟨ji15, hji15⟩ : ∃ j_ : Int, (shr .i64 a0_1 x6_2) = j_ := ⟨_, rfl⟩
           replace H : (if (Go.bits .and .i64 (Go.bits .and .i64 (ji13) (ji15)) 1) = 0 then (spec_Contradiction.l1 k2 ji5 x5_1 (wrap64 (x6_2 + 1)) a0_0 a0_1) else (spec_Contradiction.l2 k2 ji5 x5_1 x6_2 0 a0_0 a0_1)) = some (r1, r2) := by first | (rw [hji15] at H; exact H) | (simp only [hji15] at H ⊢; exact H)
           have hji15_ : (a0_1 / 2 ^ min x6_2.toNat 64) = ji15 := hji15
           have hji15z : x6_2 ≤ 64 → (a0_1 / 2 ^ x6_2.toNat) = ji15 := shr_small hji15
           by_cases c16 : (Go.bits .and .i64 (Go.bits .and .i64 (ji13) (ji15)) 1) = 0
           ·rw [if_pos c16] at H
            have c16b0 : ((Go.bits .and .i64 (Go.bits .and .i64 (ji13) (ji15)) 1) == 0) = true := beq_iff_eq.mpr c16
            have c16b1 : ((Go.bits .and .i64 (Go.bits .and .i64 (ji13) (ji15)) 1) != 0) = false := bne_eq_false_iff_eq.mpr c16
            clear c16
            have H' := A_ H
            clear H
            have hcz17_0 := c20_ BK292
            have hcz17_1 := c21_ BK292
            have hfz17_0 := blk_frozen BK292.out 0
            have hfz17_1 := blk_frozen BK292.out 1
            go_wp2
            repeat (go_quiet (fail); try go_wp2)
            go_roundg k2
            case measure => have := HK1.out; have := HK2.out; omega
            case rel => exact ⟨(wrap64 (x6_2 + 1)), q1_, H', ⟨by have := HK1.out; have := HK2.out; omega⟩, ⟨M.Lb BK292⟩, ⟨q0_⟩⟩
           ·rw [if_neg c16] at H
            have c16b0 : ((Go.bits .and .i64 (Go.bits .and .i64 (ji13) (ji15)) 1) == 0) = false := beq_eq_false_iff_ne.mpr c16
            have c16b1 : ((Go.bits .and .i64 (Go.bits .and .i64 (ji13) (ji15)) 1) != 0) = true := bne_iff_ne.mpr c16
            have H' := A_ H
            clear H
            have hcz18_0 := c20_ BK292
            have hcz18_1 := c21_ BK292
            have hfz18_0 := blk_frozen BK292.out 0
            have hfz18_1 := blk_frozen BK292.out 1
            go_wp2
            repeat (go_quiet (fail); try go_wp2)
            go_loopg [7] k2 (fun kq v7 w' => ∃ (x7_3 : Int), v7 = .int .i64 x7_3 ∧ Aside0 (spec_Contradiction.l2 kq ji5 x5_1 x6_2 x7_3 a0_0 a0_1 = some (r1, r2)) ∧ Aside0 (kq ≤ k2) ∧ Aside0 (w'.heap[gb292]? = some (.cells #[.int .i64 a0_0, .int .i64 a0_1] 25 (0, 0))) ∧ Aside0 (Below w.heap.size w w'))
            case atStart => exact ⟨(0), q1_, H', ⟨Nat.le_refl _⟩, ⟨M.Lb BK292⟩, ⟨q0_⟩⟩
            case round =>
             clear H'; (try clear c1); (try clear p2); (try clear c3); (try clear c4); (try clear c4b0); (try clear c4b1); (try clear p6); (try clear c9); (try clear c10); (try clear c10b0); (try clear c11); (try clear c11b0); (try clear c12); (try clear c12b0); (try clear c12b1); (try clear c14); (try clear c14b0); (try clear c14b1); (try clear c16); (try clear c16b0); (try clear c16b1); (try clear hcz17_0); (try clear hcz17_1); (try clear hcz18_0); (try clear hcz18_1); (try clear hcz7_0); (try clear hcz7_1); (try clear hcz9_0); (try clear hcz9_1); (try clear hfz17_0); (try clear hfz17_1)
             (try clear hfz18_0); (try clear hfz18_1); (try clear hfz7_0); (try clear hfz7_1); (try clear hfz9_0); (try clear hfz9_1); (try clear p2); (try clear p6); obtain ⟨x7_3, rfl, HA, HK3, BK292, HB⟩ := hrel
             cases gk with
             | zero => exact absurd HA.out (by simp [spec_Contradiction.l2])
             | succ k3 =>
              have H := HA.out
              clear HA
              simp only [spec_Contradiction.l2] at H
              by_cases c19 : x7_3 < ji5
              ·rw [if_pos c19] at H
               have c19b0 : decide (x7_3 < ji5) = true := decide_eq_true c19
               clear c19
               have H' := A_ H
               clear H
               go_wp2
               repeat (go_quiet (fail); try go_wp2)
               go_loopg [8] k3 (fun kq v8 w' => ∃ (x8_4 : Int), v8 = .int .i64 x8_4 ∧ Aside0 (spec_Contradiction.l3 kq ji5 x5_1 x6_2 x7_3 x8_4 a0_0 a0_1 = some (r1, r2)) ∧ Aside0 (kq ≤ k3) ∧ Aside0 (w'.heap[gb292]? = some (.cells #[.int .i64 a0_0, .int .i64 a0_1] 25 (0, 0))) ∧ Aside0 (Below w.heap.size w w'))
               case atStart => exact ⟨(x7_3), q1_, H', ⟨Nat.le_refl _⟩, ⟨M.Lb BK292⟩, ⟨q0_⟩⟩
               case round =>
                clear H'; (try clear c1); (try clear p2); (try clear c3); (try clear c4); (try clear c4b0); (try clear c4b1); (try clear p6); (try clear c9); (try clear c10); (try clear c10b0); (try clear c11); (try clear c11b0); (try clear c12); (try clear c12b0); (try clear c12b1); (try clear c14); (try clear c14b0); (try clear c14b1); (try clear c16); (try clear c16b0); (try clear c16b1); (try clear c19); (try clear c19b0); (try clear hcz17_0); (try clear hcz17_1); (try clear hcz18_0); (try clear hcz18_1); (try clear hcz7_0); (try clear hcz7_1); (try clear hcz9_0); (try clear hcz9_1)
                (try clear hfz17_0); (try clear hfz17_1); (try clear hfz18_0); (try clear hfz18_1); (try clear hfz7_0); (try clear hfz7_1); (try clear hfz9_0); (try clear hfz9_1); (try clear p2); (try clear p6); obtain ⟨x8_4, rfl, HA, HK4, BK292, HB⟩ := hrel
                cases gk with
                | zero => exact absurd HA.out (by simp [spec_Contradiction.l3])
                | succ k4 =>
                 have H := HA.out
                 clear HA
                 simp only [spec_Contradiction.l3] at H
                 by_cases c20 : x8_4 < ji5
                 ·rw [if_pos c20] at H
                  have c20b0 : decide (x8_4 < ji5) = true := decide_eq_true c20
                  clear c20
                  by_cases c21 : (Go.bits .and .i64 x5_1 x6_2) = (Go.bits .and .i64 x7_3 x8_4)
                  ·rw [if_pos c21] at H
                   have c21b0 : ((Go.bits .and .i64 x5_1 x6_2) == (Go.bits .and .i64 x7_3 x8_4)) = true := beq_iff_eq.mpr c21
                   have c21b1 : ((Go.bits .and .i64 x5_1 x6_2) != (Go.bits .and .i64 x7_3 x8_4)) = false := bne_eq_false_iff_eq.mpr c21
                   clear c21
                   by_cases c22 : (Go.bits .xor .i64 x5_1 x6_2) = (Go.bits .xor .i64 x7_3 x8_4)
                   ·rw [if_pos c22] at H
                    have c22b0 : ((Go.bits .xor .i64 x5_1 x6_2) == (Go.bits .xor .i64 x7_3 x8_4)) = true := beq_iff_eq.mpr c22
                    have c22b1 : ((Go.bits .xor .i64 x5_1 x6_2) != (Go.bits .xor .i64 x7_3 x8_4)) = false := bne_eq_false_iff_eq.mpr c22
                    clear c22
                    by_cases c23 : 0 ≤ x7_3
                    ·rw [if_pos c23] at H
                     have c23b0 := eq_true c23
                     have c23b1 : decide (0 ≤ x7_3) = true := decide_eq_true c23
                     clear c23
                     obtain ⟨ji24, hji24⟩ : ∃ j_ : Int, (shr .i64 a0_1 x7_3) = j_ := ⟨_, rfl⟩
                     replace H : (if 0 ≤ x8_4 then (if (Go.bits .and .i64 (Go.bits .or .i64 (ji24) (shr .i64 a0_1 x8_4)) 1) = 0 then (some ((([x5_1, x6_2, x7_3, x8_4] : List Int)), true)) else (spec_Contradiction.l3 k4 ji5 x5_1 x6_2 x7_3 (wrap64 (x8_4 + 1)) a0_0 a0_1)) else (none)) = some (r1, r2) := by first | (rw [hji24] at H; exact H) | (simp only [hji24] at H ⊢; exact H)
                     have hji24_ : (a0_1 / 2 ^ min x7_3.toNat 64) = ji24 := hji24
                     have hji24z : x7_3 ≤ 64 → (a0_1 / 2 ^ x7_3.toNat) = ji24 := shr_small hji24
                     by_cases c25 : 0 ≤ x8_4
                     ·rw [if_pos c25] at H
                      have c25b0 := eq_true c25
                      have c25b1 : decide (0 ≤ x8_4) = true := decide_eq_true c25
                      clear c25
                      obtain ⟨ji26, hji26⟩ : ∃ j_ : Int, (shr .i64 a0_1 x8_4) = j_ := ⟨_, rfl⟩
                      replace H : (if (Go.bits .and .i64 (Go.bits .or .i64 (ji24) (ji26)) 1) = 0 then (some ((([x5_1, x6_2, x7_3, x8_4] : List Int)), true)) else (spec_Contradiction.l3 k4 ji5 x5_1 x6_2 x7_3 (wrap64 (x8_4 + 1)) a0_0 a0_1)) = some (r1, r2) := by first | (rw [hji26] at H; exact H) | (simp only [hji26] at H ⊢; exact H)
                      have hji26_ : (a0_1 / 2 ^ min x8_4.toNat 64) = ji26 := hji26
                      have hji26z : x8_4 ≤ 64 → (a0_1 / 2 ^ x8_4.toNat) = ji26 := shr_small hji26
                      by_cases c27 : (Go.bits .and .i64 (Go.bits .or .i64 (ji24) (ji26)) 1) = 0
                      ·rw [if_pos c27] at H
                       have c27b0 : ((Go.bits .and .i64 (Go.bits .or .i64 (ji24) (ji26)) 1) == 0) = true := beq_iff_eq.mpr c27
                       have c27b1 : ((Go.bits .and .i64 (Go.bits .or .i64 (ji24) (ji26)) 1) != 0) = false := bne_eq_false_iff_eq.mpr c27
                       clear c27
                       obtain ⟨y300, hy300⟩ : ∃ y_ : List Int, y_ = (([x5_1, x6_2, x7_3, x8_4] : List Int)) := ⟨_, rfl⟩
                       replace H : (some (y300, true)) = some (r1, r2) := by first | (rw [hy300]; with_reducible exact H) | (have H2_ := (Option.bind_some _ _).symm.trans H; rw [hy300]; with_reducible exact H2_) | (have H2_ := (Option.bind_some _ _).symm.trans H; with_reducible exact H2_) | with_reducible exact H | (rw [hy300]; exact H) | exact H
                       have Ny300 := A_ hy300; clear hy300
                       simp only [Option.some.injEq, Prod.mk.injEq] at H
                       obtain ⟨rfl, rfl⟩ := H
                       have hcz28_0 := c20_ BK292
                       have hcz28_1 := c21_ BK292
                       have hfz28_0 := blk_frozen BK292.out 0
                       have hfz28_1 := blk_frozen BK292.out 1
                       go_wp2_with (first | ((with_reducible refine gate_dst (N := 82) rfl ?_); refine Kd.R_lit (Kd.int .i64) _ 3 ?hg (N := 82) ?hd (xs := ([x5_1, x6_2, x7_3, x8_4] : List Int)) (inner := [.int .i64 x5_1, .int .i64 x6_2, .int .i64 x7_3, .int .i64 x8_4]) (ok := fun _ => True) (okp := fun _ => True) ?hr ?hp (fun _ hk => hk) trivial (Below.refl _ _) (Nat.le_refl _) (by simp) ?_; (case hd => rfl); (case hg => rfl); (case hr => first | (go_simp; done) | (go_simp; rfl)); (case hp => exact (Reps.one (show Kd.M (Kd.int .i64) _ _ _ x5_1 [.int .i64 x5_1] from rfl) (Reps.one (show Kd.M (Kd.int .i64) _ _ _ x6_2 [.int .i64 x6_2] from rfl) (Reps.one (show Kd.M (Kd.int .i64) _ _ _ x7_3 [.int .i64 x7_3] from rfl) (Reps.one (show Kd.M (Kd.int .i64) _ _ _ x8_4 [.int .i64 x8_4] from rfl) (Reps.none _ _)))))); intro v301 w29 ho30 hb hg_ hnew_; clear hg_ hnew_; (first | rw [← Ny300.out] at ho30 | (simp only [Int.reduceToNat] at ho30; rw [← Ny300.out] at ho30)); have HO302 := A_ (Kd.R_lower ho30 (below_size q0_)); replace BK292 := A_ (blk_below (M.Lb BK292) hb); replace HB := A_ (below_step q0_ hb); clear hb ho30))
                       repeat (go_quiet (first | ((with_reducible refine gate_dst (N := 82) rfl ?_); refine Kd.R_lit (Kd.int .i64) _ 3 ?hg (N := 82) ?hd (xs := ([x5_1, x6_2, x7_3, x8_4] : List Int)) (inner := [.int .i64 x5_1, .int .i64 x6_2, .int .i64 x7_3, .int .i64 x8_4]) (ok := fun _ => True) (okp := fun _ => True) ?hr ?hp (fun _ hk => hk) trivial (Below.refl _ _) (Nat.le_refl _) (by simp) ?_; (case hd => rfl); (case hg => rfl); (case hr => first | (go_simp; done) | (go_simp; rfl)); (case hp => exact (Reps.one (show Kd.M (Kd.int .i64) _ _ _ x5_1 [.int .i64 x5_1] from rfl) (Reps.one (show Kd.M (Kd.int .i64) _ _ _ x6_2 [.int .i64 x6_2] from rfl) (Reps.one (show Kd.M (Kd.int .i64) _ _ _ x7_3 [.int .i64 x7_3] from rfl) (Reps.one (show Kd.M (Kd.int .i64) _ _ _ x8_4 [.int .i64 x8_4] from rfl) (Reps.none _ _)))))); intro v301 w29 ho30 hb hg_ hnew_; clear hg_ hnew_; (first | rw [← Ny300.out] at ho30 | (simp only [Int.reduceToNat] at ho30; rw [← Ny300.out] at ho30)); have HO302 := A_ (Kd.R_lower ho30 (below_size q0_)); replace BK292 := A_ (blk_below (M.Lb BK292) hb); replace HB := A_ (below_step q0_ hb); clear hb ho30)); try go_wp2_with (first | ((with_reducible refine gate_dst (N := 82) rfl ?_); refine Kd.R_lit (Kd.int .i64) _ 3 ?hg (N := 82) ?hd (xs := ([x5_1, x6_2, x7_3, x8_4] : List Int)) (inner := [.int .i64 x5_1, .int .i64 x6_2, .int .i64 x7_3, .int .i64 x8_4]) (ok := fun _ => True) (okp := fun _ => True) ?hr ?hp (fun _ hk => hk) trivial (Below.refl _ _) (Nat.le_refl _) (by simp) ?_; (case hd => rfl); (case hg => rfl); (case hr => first | (go_simp; done) | (go_simp; rfl)); (case hp => exact (Reps.one (show Kd.M (Kd.int .i64) _ _ _ x5_1 [.int .i64 x5_1] from rfl) (Reps.one (show Kd.M (Kd.int .i64) _ _ _ x6_2 [.int .i64 x6_2] from rfl) (Reps.one (show Kd.M (Kd.int .i64) _ _ _ x7_3 [.int .i64 x7_3] from rfl) (Reps.one (show Kd.M (Kd.int .i64) _ _ _ x8_4 [.int .i64 x8_4] from rfl) (Reps.none _ _)))))); intro v301 w29 ho30 hb hg_ hnew_; clear hg_ hnew_; (first | rw [← Ny300.out] at ho30 | (simp only [Int.reduceToNat] at ho30; rw [← Ny300.out] at ho30)); have HO302 := A_ (Kd.R_lower ho30 (below_size q0_)); replace BK292 := A_ (blk_below (M.Lb BK292) hb); replace HB := A_ (below_step q0_ hb); clear hb ho30)))
                       go_ret2
                       exact ⟨_, by first | rfl | (simp [errW_none, errW_some] <;> rfl) | (simp only [← hji5, ← hji13, ← hji15, ← hji24, ← hji26]; first | rfl | (simp [errW_none, errW_some] <;> rfl)) | (simp [*, errW_none, errW_some] <;> rfl), by (with_reducible repeat (first | apply Kd.R_alloc | apply Kd.R_drewN | apply Kd.R_drew)); exact HO302.out, q0_⟩
                      ·rw [if_neg c27] at H
                       have c27b0 : ((Go.bits .and .i64 (Go.bits .or .i64 (ji24) (ji26)) 1) == 0) = false := beq_eq_false_iff_ne.mpr c27
                       have c27b1 : ((Go.bits .and .i64 (Go.bits .or .i64 (ji24) (ji26)) 1) != 0) = true := bne_iff_ne.mpr c27
                       have H' := A_ H
                       clear H
                       have hcz31_0 := c20_ BK292
                       have hcz31_1 := c21_ BK292
                       have hfz31_0 := blk_frozen BK292.out 0
                       have hfz31_1 := blk_frozen BK292.out 1
                       go_wp2
                       repeat (go_quiet (fail); try go_wp2)
                       go_roundg k4
                       case measure => have := HK1.out; have := HK2.out; have := HK3.out; have := HK4.out; omega
                       case rel => exact ⟨(wrap64 (x8_4 + 1)), q1_, H', ⟨by have := HK1.out; have := HK2.out; have := HK3.out; have := HK4.out; omega⟩, ⟨M.Lb BK292⟩, ⟨q0_⟩⟩
                     ·rw [if_neg c25] at H
                      exact absurd H (by simp)
                    ·rw [if_neg c23] at H
                     exact absurd H (by simp)
                   ·rw [if_neg c22] at H
                    have c22b0 : ((Go.bits .xor .i64 x5_1 x6_2) == (Go.bits .xor .i64 x7_3 x8_4)) = false := beq_eq_false_iff_ne.mpr c22
                    have c22b1 : ((Go.bits .xor .i64 x5_1 x6_2) != (Go.bits .xor .i64 x7_3 x8_4)) = true := bne_iff_ne.mpr c22
                    have H' := A_ H
                    clear H
                    go_wp2
                    repeat (go_quiet (fail); try go_wp2)
                    go_roundg k4
                    case measure => have := HK1.out; have := HK2.out; have := HK3.out; have := HK4.out; omega
                    case rel => exact ⟨(wrap64 (x8_4 + 1)), q1_, H', ⟨by have := HK1.out; have := HK2.out; have := HK3.out; have := HK4.out; omega⟩, ⟨M.Lb BK292⟩, ⟨q0_⟩⟩
                  ·rw [if_neg c21] at H
                   have c21b0 : ((Go.bits .and .i64 x5_1 x6_2) == (Go.bits .and .i64 x7_3 x8_4)) = false := beq_eq_false_iff_ne.mpr c21
                   have c21b1 : ((Go.bits .and .i64 x5_1 x6_2) != (Go.bits .and .i64 x7_3 x8_4)) = true := bne_iff_ne.mpr c21
                   have H' := A_ H
                   clear H
                   go_wp2
                   repeat (go_quiet (fail); try go_wp2)
                   go_roundg k4
                   case measure => have := HK1.out; have := HK2.out; have := HK3.out; have := HK4.out; omega
                   case rel => exact ⟨(wrap64 (x8_4 + 1)), q1_, H', ⟨by have := HK1.out; have := HK2.out; have := HK3.out; have := HK4.out; omega⟩, ⟨M.Lb BK292⟩, ⟨q0_⟩⟩
                 ·rw [if_neg c20] at H
                  have c20b0 : decide (x8_4 < ji5) = false := decide_eq_false c20
                  clear c20
                  have H' := A_ H
                  clear H
                  go_wp2
                  repeat (go_quiet (fail); try go_wp2)
                  go_roundg k4
                  case measure => have := HK1.out; have := HK2.out; have := HK3.out; have := HK4.out; omega
                  case rel => exact ⟨(wrap64 (x7_3 + 1)), q1_, H', ⟨by have := HK1.out; have := HK2.out; have := HK3.out; have := HK4.out; omega⟩, ⟨M.Lb BK292⟩, ⟨q0_⟩⟩
              ·rw [if_neg c19] at H
               have c19b0 : decide (x7_3 < ji5) = false := decide_eq_false c19
               clear c19
               have H' := A_ H
               clear H
               go_wp2
               repeat (go_quiet (fail); try go_wp2)
               go_roundg k3
               case measure => have := HK1.out; have := HK2.out; have := HK3.out; omega
               case rel => exact ⟨(wrap64 (x6_2 + 1)), q1_, H', ⟨by have := HK1.out; have := HK2.out; have := HK3.out; omega⟩, ⟨M.Lb BK292⟩, ⟨q0_⟩⟩
          ·rw [if_neg c14] at H
           exact absurd H (by simp)
         ·rw [if_neg c12] at H
          exact absurd H (by simp)
        ·rw [if_neg c11] at H
         have c11b0 : decide (x6_2 < ji5) = false := decide_eq_false c11
         clear c11
         have H' := A_ H
         clear H
         go_wp2
         repeat (go_quiet (fail); try go_wp2)
         go_roundg k2
         case measure => have := HK1.out; have := HK2.out; omega
         case rel => exact ⟨(wrap64 (x5_1 + 1)), q1_, H', ⟨by have := HK1.out; have := HK2.out; omega⟩, ⟨M.Lb BK292⟩, ⟨q0_⟩⟩
     ·rw [if_neg c10] at H
      have c10b0 : decide (x5_1 < ji5) = false := decide_eq_false c10
      clear c10
      obtain ⟨y297, hy297⟩ : ∃ y_ : List Int, y_ = (([] : List Int)) := ⟨_, rfl⟩
      replace H : (some (y297, false)) = some (r1, r2) := by first | (rw [hy297]; with_reducible exact H) | (have H2_ := (Option.bind_some _ _).symm.trans H; rw [hy297]; with_reducible exact H2_) | (have H2_ := (Option.bind_some _ _).symm.trans H; with_reducible exact H2_) | with_reducible exact H | (rw [hy297]; exact H) | exact H
      have Ny297 := A_ hy297; clear hy297
      simp only [Option.some.injEq, Prod.mk.injEq] at H
      obtain ⟨rfl, rfl⟩ := H
      go_wp2_with (first | ((with_reducible refine gate_dst (N := 83) rfl ?_); refine Kd.R_lit (Kd.int .i64) _ 3 ?hg (N := 83) ?hd (xs := ([] : List Int)) (inner := []) (ok := fun _ => True) (okp := fun _ => True) ?hr ?hp (fun _ hk => hk) trivial (Below.refl _ _) (Nat.le_refl _) (by simp) ?_; (case hd => rfl); (case hg => rfl); (case hr => first | (go_simp; done) | (go_simp; rfl)); (case hp => exact (Reps.none _ _)); intro v298 w32 ho33 hb hg_ hnew_; clear hg_ hnew_; (first | rw [← Ny297.out] at ho33 | (simp only [Int.reduceToNat] at ho33; rw [← Ny297.out] at ho33)); have HO299 := A_ (Kd.R_lower ho33 (below_size q0_)); replace BK292 := A_ (blk_below (M.Lb BK292) hb); replace HB := A_ (below_step q0_ hb); clear hb ho33))
      repeat (go_quiet (first | ((with_reducible refine gate_dst (N := 83) rfl ?_); refine Kd.R_lit (Kd.int .i64) _ 3 ?hg (N := 83) ?hd (xs := ([] : List Int)) (inner := []) (ok := fun _ => True) (okp := fun _ => True) ?hr ?hp (fun _ hk => hk) trivial (Below.refl _ _) (Nat.le_refl _) (by simp) ?_; (case hd => rfl); (case hg => rfl); (case hr => first | (go_simp; done) | (go_simp; rfl)); (case hp => exact (Reps.none _ _)); intro v298 w32 ho33 hb hg_ hnew_; clear hg_ hnew_; (first | rw [← Ny297.out] at ho33 | (simp only [Int.reduceToNat] at ho33; rw [← Ny297.out] at ho33)); have HO299 := A_ (Kd.R_lower ho33 (below_size q0_)); replace BK292 := A_ (blk_below (M.Lb BK292) hb); replace HB := A_ (below_step q0_ hb); clear hb ho33)); try go_wp2_with (first | ((with_reducible refine gate_dst (N := 83) rfl ?_); refine Kd.R_lit (Kd.int .i64) _ 3 ?hg (N := 83) ?hd (xs := ([] : List Int)) (inner := []) (ok := fun _ => True) (okp := fun _ => True) ?hr ?hp (fun _ hk => hk) trivial (Below.refl _ _) (Nat.le_refl _) (by simp) ?_; (case hd => rfl); (case hg => rfl); (case hr => first | (go_simp; done) | (go_simp; rfl)); (case hp => exact (Reps.none _ _)); intro v298 w32 ho33 hb hg_ hnew_; clear hg_ hnew_; (first | rw [← Ny297.out] at ho33 | (simp only [Int.reduceToNat] at ho33; rw [← Ny297.out] at ho33)); have HO299 := A_ (Kd.R_lower ho33 (below_size q0_)); replace BK292 := A_ (blk_below (M.Lb BK292) hb); replace HB := A_ (below_step q0_ hb); clear hb ho33)))
      go_ret2
      exact ⟨_, q16_, by (with_reducible repeat (first | apply Kd.R_alloc | apply Kd.R_drewN | apply Kd.R_drew)); exact HO299.out, q0_⟩
  ·rw [if_neg c4] at H
   exact absurd H (by simp)
 ·replace c3 := Bool.eq_false_iff.mpr c3
  subst c3
  have H1 : (some ((([] : List Int)), false)) = some (r1, r2) := by rw [if_neg (show ¬ (false = true) by decide)] at H; exact H
  clear H; have H := H1; clear H1
  obtain ⟨y294, hy294⟩ : ∃ y_ : List Int, y_ = (([] : List Int)) := ⟨_, rfl⟩
  replace H : (some (y294, false)) = some (r1, r2) := by first | (rw [hy294]; with_reducible exact H) | (have H2_ := (Option.bind_some _ _).symm.trans H; rw [hy294]; with_reducible exact H2_) | (have H2_ := (Option.bind_some _ _).symm.trans H; with_reducible exact H2_) | with_reducible exact H | (rw [hy294]; exact H) | exact H
  have Ny294 := A_ hy294; clear hy294
  simp only [Option.some.injEq, Prod.mk.injEq] at H
  obtain ⟨rfl, rfl⟩ := H
  go_enter Try.func9, Try.ntmps9
  go_wp2_with (first | ((with_reducible refine gate_dst (N := 1) rfl ?_); refine box_event ?hg (N := 1) ?hd (cs := #[.int .i64 a0_0, .int .i64 a0_1]) (t := 25) ?hr ?_; (case hd => rfl); (case hg => rfl); (case hr => first | (go_simp; done) | (go_simp; rfl)); intro gb292 hg w34 hbox hb; have BK292 := A_ (hbox); have GW292 := A_ ((by rw [hg]; exact (below_size q0_) : w.heap.size ≤ gb292)); have GE292 := A_ ((by rw [hg]; exact (below_size q0_) : w.heap.size ≤ gb292)); replace HB := A_ (below_step q0_ hb); clear hb hbox hg; have hcz35_0 := c20_ BK292; have hcz35_1 := c21_ BK292; have hfz35_0 := blk_frozen BK292.out 0; have hfz35_1 := blk_frozen BK292.out 1) | (go_at_call 16; (with_reducible refine (spec_IsTable.calls a0_0 a0_1 false _ A2.out).mono ?_); rintro e w36 ⟨rfl, hb⟩; replace BK292 := A_ (blk_below (M.Lb BK292) hb); replace HB := A_ (below_step q0_ hb); (try clear hb); (try clear hb2); (try clear hk); (try clear hi)) | ((with_reducible refine gate_dst (N := 12) rfl ?_); refine Kd.R_lit (Kd.int .i64) _ 3 ?hg (N := 12) ?hd (xs := ([] : List Int)) (inner := []) (ok := fun _ => True) (okp := fun _ => True) ?hr ?hp (fun _ hk => hk) trivial (Below.refl _ _) (Nat.le_refl _) (by simp) ?_; (case hd => rfl); (case hg => rfl); (case hr => first | (go_simp; done) | (go_simp; rfl)); (case hp => exact (Reps.none _ _)); intro v295 w37 ho38 hb hg_ hnew_; clear hg_ hnew_; (first | rw [← Ny294.out] at ho38 | (simp only [Int.reduceToNat] at ho38; rw [← Ny294.out] at ho38)); have HO296 := A_ (Kd.R_lower ho38 (below_size q0_)); replace BK292 := A_ (blk_below (M.Lb BK292) hb); replace HB := A_ (below_step q0_ hb); clear hb ho38))
  repeat (go_quiet (first | ((with_reducible refine gate_dst (N := 1) rfl ?_); refine box_event ?hg (N := 1) ?hd (cs := #[.int .i64 a0_0, .int .i64 a0_1]) (t := 25) ?hr ?_; (case hd => rfl); (case hg => rfl); (case hr => first | (go_simp; done) | (go_simp; rfl)); intro gb292 hg w34 hbox hb; have BK292 := A_ (hbox); have GW292 := A_ ((by rw [hg]; exact (below_size q0_) : w.heap.size ≤ gb292)); have GE292 := A_ ((by rw [hg]; exact (below_size q0_) : w.heap.size ≤ gb292)); replace HB := A_ (below_step q0_ hb); clear hb hbox hg; have hcz35_0 := c20_ BK292; have hcz35_1 := c21_ BK292; have hfz35_0 := blk_frozen BK292.out 0; have hfz35_1 := blk_frozen BK292.out 1) | (go_at_call 16; (with_reducible refine (spec_IsTable.calls a0_0 a0_1 false _ A2.out).mono ?_); rintro e w36 ⟨rfl, hb⟩; replace BK292 := A_ (blk_below (M.Lb BK292) hb); replace HB := A_ (below_step q0_ hb); (try clear hb); (try clear hb2); (try clear hk); (try clear hi)) | ((with_reducible refine gate_dst (N := 12) rfl ?_); refine Kd.R_lit (Kd.int .i64) _ 3 ?hg (N := 12) ?hd (xs := ([] : List Int)) (inner := []) (ok := fun _ => True) (okp := fun _ => True) ?hr ?hp (fun _ hk => hk) trivial (Below.refl _ _) (Nat.le_refl _) (by simp) ?_; (case hd => rfl); (case hg => rfl); (case hr => first | (go_simp; done) | (go_simp; rfl)); (case hp => exact (Reps.none _ _)); intro v295 w37 ho38 hb hg_ hnew_; clear hg_ hnew_; (first | rw [← Ny294.out] at ho38 | (simp only [Int.reduceToNat] at ho38; rw [← Ny294.out] at ho38)); have HO296 := A_ (Kd.R_lower ho38 (below_size q0_)); replace BK292 := A_ (blk_below (M.Lb BK292) hb); replace HB := A_ (below_step q0_ hb); clear hb ho38)); try go_wp2_with (first | ((with_reducible refine gate_dst (N := 1) rfl ?_); refine box_event ?hg (N := 1) ?hd (cs := #[.int .i64 a0_0, .int .i64 a0_1]) (t := 25) ?hr ?_; (case hd => rfl); (case hg => rfl); (case hr => first | (go_simp; done) | (go_simp; rfl)); intro gb292 hg w34 hbox hb; have BK292 := A_ (hbox); have GW292 := A_ ((by rw [hg]; exact (below_size q0_) : w.heap.size ≤ gb292)); have GE292 := A_ ((by rw [hg]; exact (below_size q0_) : w.heap.size ≤ gb292)); replace HB := A_ (below_step q0_ hb); clear hb hbox hg; have hcz35_0 := c20_ BK292; have hcz35_1 := c21_ BK292; have hfz35_0 := blk_frozen BK292.out 0; have hfz35_1 := blk_frozen BK292.out 1) | (go_at_call 16; (with_reducible refine (spec_IsTable.calls a0_0 a0_1 false _ A2.out).mono ?_); rintro e w36 ⟨rfl, hb⟩; replace BK292 := A_ (blk_below (M.Lb BK292) hb); replace HB := A_ (below_step q0_ hb); (try clear hb); (try clear hb2); (try clear hk); (try clear hi)) | ((with_reducible refine gate_dst (N := 12) rfl ?_); refine Kd.R_lit (Kd.int .i64) _ 3 ?hg (N := 12) ?hd (xs := ([] : List Int)) (inner := []) (ok := fun _ => True) (okp := fun _ => True) ?hr ?hp (fun _ hk => hk) trivial (Below.refl _ _) (Nat.le_refl _) (by simp) ?_; (case hd => rfl); (case hg => rfl); (case hr => first | (go_simp; done) | (go_simp; rfl)); (case hp => exact (Reps.none _ _)); intro v295 w37 ho38 hb hg_ hnew_; clear hg_ hnew_; (first | rw [← Ny294.out] at ho38 | (simp only [Int.reduceToNat] at ho38; rw [← Ny294.out] at ho38)); have HO296 := A_ (Kd.R_lower ho38 (below_size q0_)); replace BK292 := A_ (blk_below (M.Lb BK292) hb); replace HB := A_ (below_step q0_ hb); clear hb ho38)))
  go_ret2
  exact ⟨_, q7_, by (with_reducible repeat (first | apply Kd.R_alloc | apply Kd.R_drewN | apply Kd.R_drew)); exact HO296.out, q0_⟩
def laws_sameInts.l0 : Nat → List Int → List Int → Int → Option (Bool)
 | 0, _, _, _ => none
 | k + 1, x0, x1, x5 => if x5 < (x0.length : Int) then (if 0 ≤ x5 then (if x5 < (x1.length : Int) then (if (rd x0 x5) = (rd x1 x5) then (laws_sameInts.l0 k x0 x1 (wrap64 (x5 + 1))) else (some false)) else (none)) else (none)) else (some true)
def laws_sameInts.f (k : Nat) (l0 : List Int) (l1 : List Int) : Option (Bool) := if (l0.length : Int) = (l1.length : Int) then (laws_sameInts.l0 k l0 l1 0) else (some false)
theorem laws_sameInts.calls (k : Nat) (A0 : Option Addr) (c0 : Nat) (l0 : List Int) (A1 : Option Addr) (c1 : Nat) (l1 : List Int) (r : Bool) (w : World) (hr0 : Kd.C (Kd.int .i64) w A0 l0.length l0) (hc0 : l0.length ≤ c0) (hr1 : Kd.C (Kd.int .i64) w A1 l1.length l1) (hc1 : l1.length ≤ c1) (h : laws_sameInts.f k l0 l1 = some r) :
  Calls Try.prog 10 #[.slice A0 l0.length c0, .slice A1 l1.length c1] w fun e w' => e = .returned (.bool r) ∧ Drawn0 w w' := by
 have HR0 := A_ hr0; have HC0 := A_ hc0; clear hr0 hc0; have HR1 := A_ hr1; have HC1 := A_ hc1; clear hr1 hc1
 have H : (if (l0.length : Int) = (l1.length : Int) then (laws_sameInts.l0 k l0 l1 0) else (some false)) = some r := h
 clear h
 by_cases c3 : (l0.length : Int) = (l1.length : Int)
 ·rw [if_pos c3] at H
  have c3b0 : ((l0.length : Int) == (l1.length : Int)) = true := beq_iff_eq.mpr c3
  have c3b1 : ((l0.length : Int) != (l1.length : Int)) = false := bne_eq_false_iff_eq.mpr c3
  have c3b2 : (l0.length == l1.length) = true := by first | simpa using c3 | (simp at c3 ⊢; omega)
  clear c3
  have H' := A_ H
  clear H
  go_enter Try.func10, Try.ntmps10
  go_wp2
  repeat (go_quiet (fail); try go_wp2)
  go_loopg [5] k (fun kq v5 w' => ∃ (x5_1 : Int), v5 = .int .i64 x5_1 ∧ Aside0 (laws_sameInts.l0 kq l0 l1 x5_1 = some r) ∧ Aside0 (kq ≤ k) ∧ Drawn0 w w')
  case atStart => exact ⟨(0), q1_, H', ⟨Nat.le_refl _⟩, q9_⟩
  case round =>
   clear H'; (try clear c1); (try clear p2); (try clear c3); (try clear c3b0); (try clear c3b1); (try clear c3b2)
   obtain ⟨x5_1, rfl, HA, HK1, ⟨m1, rfl⟩⟩ := hrel
   cases gk with
   | zero => exact absurd HA.out (by simp [laws_sameInts.l0])
   | succ k1 =>
    have H := HA.out
    clear HA
    simp only [laws_sameInts.l0] at H
    by_cases c4 : x5_1 < (l0.length : Int)
    ·rw [if_pos c4] at H
     have c4b0 : decide (x5_1 < (l0.length : Int)) = true := decide_eq_true c4
     clear c4
     by_cases c5 : 0 ≤ x5_1
     ·rw [if_pos c5] at H
      have c5b0 : decide (0 ≤ x5_1) = true := decide_eq_true c5
      clear c5
      by_cases c6 : x5_1 < (l1.length : Int)
      ·rw [if_pos c6] at H
       have c6b0 : decide (x5_1 < (l1.length : Int)) = true := decide_eq_true c6
       clear c6
       by_cases c7 : (rd l0 x5_1) = (rd l1 x5_1)
       ·rw [if_pos c7] at H
        have c7b0 : ((rd l0 x5_1) == (rd l1 x5_1)) = true := beq_iff_eq.mpr c7
        have c7b1 : ((rd l0 x5_1) != (rd l1 x5_1)) = false := bne_eq_false_iff_eq.mpr c7
        clear c7
        have H' := A_ H
        clear H
        have p303 : 0 ≤ (x5_1 : Int) := of_decide_eq_true q5_
        have q303 : x5_1 < (l0.length : Int) := of_decide_eq_true q5_
        obtain ⟨ad303, e303, hx303_0⟩ := Kd.at_int HR0.out x5_1 p303 q303
        cases e303
        replace p303 := eq_true p303
        replace q303 := eq_true q303
        have p304 : 0 ≤ (x5_1 : Int) := of_decide_eq_true q5_
        have q304 : x5_1 < (l1.length : Int) := of_decide_eq_true q5_
        obtain ⟨ad304, e304, hx304_0⟩ := Kd.at_int HR1.out x5_1 p304 q304
        cases e304
        replace p304 := eq_true p304
        replace q304 := eq_true q304
        go_wp2
        repeat (go_quiet (fail); try go_wp2)
        go_roundg k1
        case measure => have := HK1.out; omega
        case rel => exact ⟨(wrap64 (x5_1 + 1)), q1_, H', ⟨by have := HK1.out; omega⟩, q9_⟩
       ·rw [if_neg c7] at H
        have c7b0 : ((rd l0 x5_1) == (rd l1 x5_1)) = false := beq_eq_false_iff_ne.mpr c7
        have c7b1 : ((rd l0 x5_1) != (rd l1 x5_1)) = true := bne_iff_ne.mpr c7
        obtain rfl := Option.some.inj H
        have p303 : 0 ≤ (x5_1 : Int) := of_decide_eq_true q5_
        have q303 : x5_1 < (l0.length : Int) := of_decide_eq_true q5_
        obtain ⟨ad303, e303, hx303_0⟩ := Kd.at_int HR0.out x5_1 p303 q303
        cases e303
        replace p303 := eq_true p303
        replace q303 := eq_true q303
        have p304 : 0 ≤ (x5_1 : Int) := of_decide_eq_true q5_
        have q304 : x5_1 < (l1.length : Int) := of_decide_eq_true q5_
        obtain ⟨ad304, e304, hx304_0⟩ := Kd.at_int HR1.out x5_1 p304 q304
        cases e304
        replace p304 := eq_true p304
        replace q304 := eq_true q304
        go_wp2
        repeat (go_quiet (fail); try go_wp2)
        go_ret
        exact ⟨q1_, q9_⟩
      ·rw [if_neg c6] at H
       exact absurd H (by simp)
     ·rw [if_neg c5] at H
      exact absurd H (by simp)
    ·rw [if_neg c4] at H
     have c4b0 : decide (x5_1 < (l0.length : Int)) = false := decide_eq_false c4
     clear c4
     obtain rfl := Option.some.inj H
     go_wp2
     repeat (go_quiet (fail); try go_wp2)
     go_ret
     exact ⟨q1_, q9_⟩
 ·rw [if_neg c3] at H
  have c3b0 : ((l0.length : Int) == (l1.length : Int)) = false := beq_eq_false_iff_ne.mpr c3
  have c3b1 : ((l0.length : Int) != (l1.length : Int)) = true := bne_iff_ne.mpr c3
  have c3b2 : (l0.length == l1.length) = false := by first | simpa using c3 | (simp at c3 ⊢; omega)
  obtain rfl := Option.some.inj H
  go_enter Try.func10, Try.ntmps10
  go_wp2
  repeat (go_quiet (fail); try go_wp2)
  go_ret
  exact ⟨q1_, q9_⟩
def impl_IsThreshold.f (k : Nat) (a0_0 : Int) (a0_1 : Int) : Option (Bool) := (impl_WeightsFor.f k a0_0 a0_1).bind fun bt306 => (some bt306.2.2)
theorem impl_IsThreshold.calls (k : Nat) (a0_0 : Int) (a0_1 : Int) (r : Bool) (w : World) (h : impl_IsThreshold.f k a0_0 a0_1 = some r) :
  Calls Try.prog 11 #[.agg #[.int .i64 a0_0, .int .i64 a0_1]] w fun e w' => e = .returned (.bool r) ∧ Below w.heap.size w w' := by
 have hu25 := Try.underlying25
 have HB := A_ (Below.refl w.heap.size w)
 have H : ((impl_WeightsFor.f k a0_0 a0_1).bind fun bt306 => (some bt306.2.2)) = some r := h
 clear h; replace H := Option.bind_eq_some_iff.mp H; obtain ⟨⟨t306, t309, t310⟩, A20, H⟩ := H
 replace H : (some t310) = some r := H
 have A2 := A_ A20; clear A20
 obtain rfl := Option.some.inj H
 go_enter Try.func11, Try.ntmps11
 go_wp2_with (first | ((with_reducible refine gate_dst (N := 1) rfl ?_); refine box_event ?hg (N := 1) ?hd (cs := #[.int .i64 a0_0, .int .i64 a0_1]) (t := 25) ?hr ?_; (case hd => rfl); (case hg => rfl); (case hr => first | (go_simp; done) | (go_simp; rfl)); intro gb305 hg w3 hbox hb; have BK305 := A_ (hbox); have GW305 := A_ ((by rw [hg]; exact (below_size q0_) : w.heap.size ≤ gb305)); have GE305 := A_ ((by rw [hg]; exact (below_size q0_) : w.heap.size ≤ gb305)); replace HB := A_ (below_step q0_ hb); clear hb hbox hg; have hcz4_0 := c20_ BK305; have hcz4_1 := c21_ BK305; have hfz4_0 := blk_frozen BK305.out 0; have hfz4_1 := blk_frozen BK305.out 1) | ((with_reducible refine gate_callee (f := 6) rfl ?_); refine goesL_ (some 8) rfl rfl Try.func6 kr_ rfl #[.agg #[.int .i64 a0_0, .int .i64 a0_1]] rfl q2_ ?_; (with_reducible refine (impl_WeightsFor.calls k a0_0 a0_1 t306 t309 t310 _ A2.out).mono ?_); rintro e w5 ⟨v307, rfl, ho0, hb⟩; refine ⟨_, rfl, ?_⟩; have HO308 := A_ (Kd.R_lower ho0 (below_size q0_)); replace BK305 := A_ (blk_below (M.Lb BK305) hb); replace HB := A_ (below_step q0_ hb); (try clear hb); (try clear hb2); (try clear hk); (try clear hi); (try clear ho0)))
 go_ret
 exact ⟨q7_, q0_⟩
end Go.Proofs.Ytloekoepknfodaa.Print
