import Derived.Test.YtfoopehlmnejaaaGreatDoorKSizes2
import Derived.Test.YtfoopehlmnejaaaGreatDoorKSizes23
import Derived.Test.YtfoopehlmnejaaaGreatDoorKSizes33
import Derived.Test.YtfoopehlmnejaaaGreatDoorM35
namespace Go.Proofs.YtfoopehlmnejaaaGreatDoor.Print
open Go.RowKit Go.Proofs.YtfoopehlmnejaaaGreatDoorW.PrintWords Go.Proofs.YtfoopehlmnejaaaGreatDoorW.PrintLast Go.Proofs.YtfoopehlmnejaaaGreatDoorW.PrintMore
attribute [local go_sem] max2_int min2_int max_two min_two max_three min_three max_four min_four   -- for this text's walks alone
set_option linter.unusedVariables false
set_option linter.unusedSimpArgs false
set_option maxHeartbeats 8000000
set_option maxRecDepth 100000
def impl_LargestSize.f (a0 : Int) : Option (Int) := (impl_SizesOf.f a0).bind fun bt359 => (if bt359.2 = true then ((slices_Max_int_int.f bt359.1).bind fun t363 => (some t363)) else (some (-1)))
theorem impl_LargestSize.calls (a0 : Int) (r : Int) (w : World) (h : impl_LargestSize.f a0 = some r) :
  Calls Tryz.prog 23 #[.int .i64 a0] w fun e w' => e = .returned (.int .i64 r) ∧ Below w.heap.size w w' := by
 have HB := A_ (Below.refl w.heap.size w)
 have H : ((impl_SizesOf.f a0).bind fun bt359 => (if bt359.2 = true then ((slices_Max_int_int.f bt359.1).bind fun t363 => (some t363)) else (some (-1)))) = some r := h
 clear h; replace H := Option.bind_eq_some_iff.mp H; obtain ⟨⟨t359, t360⟩, A20, H⟩ := H; (try dsimp only at H); have A2 := A_ A20; clear A20
 by_cases c3 : t360 = true
 ·subst c3
  have H1 : ((slices_Max_int_int.f t359).bind fun t363 => (some t363)) = some r := by rw [if_pos rfl] at H; exact H
  clear H; have H := H1; clear H1; replace H := Option.bind_eq_some_iff.mp H; obtain ⟨t363, A40, H⟩ := H
  replace H : (some t363) = some r := H
  have A4 := A_ A40; clear A40
  obtain rfl := Option.some.inj H
  go_enter Tryz.func23, Tryz.ntmps23
  go_wp2_with (first | ((with_reducible refine gate_callee (f := 20) rfl ?_); refine goesL_ (some 7) rfl rfl Tryz.func20 kr_ rfl #[.int .i64 a0] rfl q2_ ?_; (with_reducible refine (impl_SizesOf.calls a0 t359 true _ A2.out).mono ?_); rintro e w5 ⟨v361, rfl, ho0, hb⟩; refine ⟨_, rfl, ?_⟩; have HO362 := A_ (Kd.R_lower ho0 (below_size q0_)); replace HB := A_ (below_step q0_ hb); clear hb ho0; obtain ⟨Ao6, co6, eo6⟩ := Kd.R_slice HO362.out; subst eo6) | ((with_reducible refine gate_callee (f := 60) rfl ?_); refine goesL_ (some 13) rfl rfl Tryz.func60 kr_ rfl #[.slice Ao6 t359.length co6] rfl q2_ ?_; (with_reducible refine (slices_Max_int_int.calls _ _ t359 t363 _ ?side1 ?side2 A4.out).mono ?_); (case side1 => repeat (first | exact (Kd.R_reads' HO362.out).2.2 | (with_reducible refine Kd.C_alloc ?_ _) | (with_reducible refine Kd.C_drewN ?_ _) | (with_reducible refine Kd.C_drew ?_))); (case side2 => exact (Kd.R_reads' HO362.out).2.1); rintro e w' ⟨rfl, ⟨nd, rfl⟩⟩; refine ⟨_, rfl, ?_⟩))
  go_ret
  exact ⟨q6_, q0_⟩
 ·replace c3 := Bool.eq_false_iff.mpr c3
  subst c3
  have H1 : (some (-1)) = some r := by rw [if_neg (show ¬ (false = true) by decide)] at H; exact H
  clear H; have H := H1; clear H1
  obtain rfl := Option.some.inj H
  go_enter Tryz.func23, Tryz.ntmps23
  go_wp2_with (first | ((with_reducible refine gate_callee (f := 20) rfl ?_); refine goesL_ (some 7) rfl rfl Tryz.func20 kr_ rfl #[.int .i64 a0] rfl q2_ ?_; (with_reducible refine (impl_SizesOf.calls a0 t359 false _ A2.out).mono ?_); rintro e w7 ⟨v361, rfl, ho0, hb⟩; refine ⟨_, rfl, ?_⟩; have HO362 := A_ (Kd.R_lower ho0 (below_size q0_)); replace HB := A_ (below_step q0_ hb); clear hb ho0))
  go_ret
  exact ⟨q6_, q0_⟩
def spec_LargestSize.l0 : Nat → List Int → Int → Int → Option (Int)
 | 0, _, _, _ => none
 | k + 1, x3, x5, x6 => if x6 < (x3.length : Int) then (if 0 ≤ x6 then (spec_LargestSize.l0 k x3 (mx x5 (rd x3 x6)) (wrap64 (x6 + 1))) else (none)) else (some x5)
def spec_LargestSize.f (k : Nat) (a0 : Int) : Option (Int) := (spec_SizesOf.f a0).bind fun bt364 => (if bt364.2 = true then (spec_LargestSize.l0 k bt364.1 0 0) else (some (-1)))
theorem spec_LargestSize.calls (k : Nat) (a0 : Int) (r : Int) (w : World) (h : spec_LargestSize.f k a0 = some r) :
  Calls Tryz.prog 24 #[.int .i64 a0] w fun e w' => e = .returned (.int .i64 r) ∧ Below w.heap.size w w' := by
 have HB := A_ (Below.refl w.heap.size w)
 have H : ((spec_SizesOf.f a0).bind fun bt364 => (if bt364.2 = true then (spec_LargestSize.l0 k bt364.1 0 0) else (some (-1)))) = some r := h
 clear h; replace H := Option.bind_eq_some_iff.mp H; obtain ⟨⟨t364, t365⟩, A20, H⟩ := H
 replace H : (if t365 = true then (spec_LargestSize.l0 k t364 0 0) else (some (-1))) = some r := H
 have A2 := A_ A20; clear A20
 by_cases c3 : t365 = true
 ·subst c3
  have H1 : (spec_LargestSize.l0 k t364 0 0) = some r := by rw [if_pos rfl] at H; exact H
  clear H; have H := H1; clear H1
  have H' := A_ H
  clear H
  go_enter Tryz.func24, Tryz.ntmps24
  go_wp2_with (first | ((with_reducible refine gate_callee (f := 21) rfl ?_); refine goesL_ (some 9) rfl rfl Tryz.func21 kr_ rfl #[.int .i64 a0] rfl q2_ ?_; (with_reducible refine (spec_SizesOf.calls a0 t364 true _ A2.out).mono ?_); rintro e w4 ⟨v366, rfl, ho0, hb⟩; refine ⟨_, rfl, ?_⟩; have HO367 := A_ (Kd.R_lower ho0 (below_size q0_)); replace HB := A_ (below_step q0_ hb); clear hb ho0))
  go_loopg [5, 6] k (fun kq v5 v6 w' => ∃ (x5_1 : Int) (x6_1 : Int), v5 = .int .i64 x5_1 ∧ v6 = .int .i64 x6_1 ∧ Aside0 (spec_LargestSize.l0 kq t364 x5_1 x6_1 = some r) ∧ Aside0 (kq ≤ k) ∧ Aside0 (Kd.R (Kd.int .i64) 3 w' w.heap.size (fun _ => True) v366 t364) ∧ Aside0 (Below w.heap.size w w'))
  case atStart => exact ⟨(0), (0), q1_, q1_, H', ⟨Nat.le_refl _⟩, ⟨M.Lr HO367⟩, ⟨q0_⟩⟩
  case round =>
   clear H'; obtain ⟨x5_1, x6_1, rfl, rfl, HA, HK1, HO_3, HB⟩ := hrel
   cases gk with
   | zero => exact absurd HA.out (by simp [spec_LargestSize.l0])
   | succ k1 =>
    have H := HA.out
    clear HA
    simp only [spec_LargestSize.l0] at H
    by_cases c5 : x6_1 < (t364.length : Int)
    ·rw [if_pos c5] at H
     have c5b0 : decide (x6_1 < (t364.length : Int)) = true := decide_eq_true c5
     clear c5
     by_cases c6 : 0 ≤ x6_1
     ·rw [if_pos c6] at H
      have c6b0 : decide (0 ≤ x6_1) = true := decide_eq_true c6
      clear c6
      obtain ⟨ji7, hji7⟩ : ∃ j_ : Int, (mx x5_1 (rd t364 x6_1)) = j_ := ⟨_, rfl⟩
      replace H : (spec_LargestSize.l0 k1 t364 ji7 (wrap64 (x6_1 + 1))) = some r := by first | (rw [hji7] at H; exact H) | (simp only [hji7] at H ⊢; exact H)
      have hji7_ : (if x5_1 < (rd t364 x6_1) then (rd t364 x6_1) else x5_1) = ji7 := hji7
      have H' := A_ H
      clear H
      obtain ⟨Ao8, co8, eo8⟩ := Kd.R_slice HO_3.out
      subst eo8
      have p368 : 0 ≤ (x6_1 : Int) := of_decide_eq_true q8_
      have q368 : x6_1 < (t364.length : Int) := of_decide_eq_true q8_
      obtain ⟨ad368, e368, hx368_0⟩ := Kd.at_int (Kd.R_reads' HO_3.out).2.2 x6_1 p368 q368
      cases e368
      replace p368 := eq_true p368
      replace q368 := eq_true q368
      go_wp2
      go_roundg k1
      case measure => have := HK1.out; omega
      case rel => exact ⟨(ji7), (wrap64 (x6_1 + 1)), (by first | rfl | (simp; done) | (simp only [← hji7] <;> (first | rfl | simp)) | (simp [*]; done)), q1_, H', ⟨by have := HK1.out; omega⟩, ⟨M.Lr HO_3⟩, ⟨q0_⟩⟩
     ·rw [if_neg c6] at H
      exact absurd H (by simp)
    ·rw [if_neg c5] at H
     have c5b0 : decide (x6_1 < (t364.length : Int)) = false := decide_eq_false c5
     clear c5
     obtain rfl := Option.some.inj H
     obtain ⟨Ao9, co9, eo9⟩ := Kd.R_slice HO_3.out
     subst eo9
     go_wp2
     go_ret
     exact ⟨q6_, q0_⟩
 ·replace c3 := Bool.eq_false_iff.mpr c3
  subst c3
  have H1 : (some (-1)) = some r := by rw [if_neg (show ¬ (false = true) by decide)] at H; exact H
  clear H; have H := H1; clear H1
  obtain rfl := Option.some.inj H
  go_enter Tryz.func24, Tryz.ntmps24
  go_wp2_with (first | ((with_reducible refine gate_callee (f := 21) rfl ?_); refine goesL_ (some 9) rfl rfl Tryz.func21 kr_ rfl #[.int .i64 a0] rfl q2_ ?_; (with_reducible refine (spec_SizesOf.calls a0 t364 false _ A2.out).mono ?_); rintro e w10 ⟨v366, rfl, ho0, hb⟩; refine ⟨_, rfl, ?_⟩; have HO367 := A_ (Kd.R_lower ho0 (below_size q0_)); replace HB := A_ (below_step q0_ hb); clear hb ho0))
  go_ret
  exact ⟨q6_, q0_⟩
def spec_DrawCountOfSize.f (k : Nat) (l0 : List Int) : Option (Int × Int) := (spec_l1New.f k l0).bind fun bt369 => ((spec_l1Below.f bt369.1 bt369.2.1 bt369.2.2 5).bind fun bt373 => ((spec_l1Below.f bt369.1 bt373.2.1 bt373.2.2 12).bind fun bt376 => (some (bt373.1, wrap64 (bt376.1 - 1)))))
theorem spec_DrawCountOfSize.calls (k : Nat) (A0 : Option Addr) (c0 : Nat) (l0 : List Int) (r1 : Int) (r2 : Int) (w : World) (hr0 : Kd.C (Kd.int .u8) w A0 l0.length l0) (hc0 : l0.length ≤ c0) (h : spec_DrawCountOfSize.f k l0 = some (r1, r2)) :
  Calls Tryz.prog 25 #[.slice A0 l0.length c0] w fun e w' => e = .returned (.tuple #[.int .i64 r1, .int .i64 r2]) ∧ Below w.heap.size w w' := by
 have HR0 := A_ hr0; have HC0 := A_ hc0; clear hr0 hc0
 have HB := A_ (Below.refl w.heap.size w)
 have H : ((spec_l1New.f k l0).bind fun bt369 => ((spec_l1Below.f bt369.1 bt369.2.1 bt369.2.2 5).bind fun bt373 => ((spec_l1Below.f bt369.1 bt373.2.1 bt373.2.2 12).bind fun bt376 => (some (bt373.1, wrap64 (bt376.1 - 1)))))) = some (r1, r2) := h
 clear h; replace H := Option.bind_eq_some_iff.mp H; obtain ⟨⟨t369, t370, t371⟩, A20, H⟩ := H; (try dsimp only at H); have A2 := A_ A20; clear A20; replace H := Option.bind_eq_some_iff.mp H; obtain ⟨⟨t373, t374, t375⟩, A30, H⟩ := H; (try dsimp only at H); have A3 := A_ A30; clear A30; replace H := Option.bind_eq_some_iff.mp H; obtain ⟨⟨t376, t377, t378⟩, A40, H⟩ := H
 replace H : (some (t373, wrap64 (t376 - 1))) = some (r1, r2) := H
 have A4 := A_ A40; clear A40
 simp only [Option.some.injEq, Prod.mk.injEq] at H
 obtain ⟨rfl, rfl⟩ := H
 go_enter Tryz.func25, Tryz.ntmps25
 go_wp2_with (first | ((with_reducible refine gate_callee (f := 40) rfl ?_); refine goesL_ (some 7) rfl rfl Tryz.func40 kr_ rfl #[.slice A0 l0.length c0] rfl q2_ ?_; (with_reducible refine (spec_l1New.calls k _ _ l0 t369 t370 t371 w _ ?side1 ?side2 ?side3 A2.out).mono ?_); (case side1 => exact q0_); (case side2 => exact HR0.out); (case side3 => exact HC0.out); rintro e w5 ⟨g372, rfl, hi, hb, hb2⟩; refine ⟨_, rfl, ?_⟩; replace HB := A_ (hb); have HI372 := A_ (hi); clear hb hb2 hi) | ((with_reducible refine gate_callee (f := 58) rfl ?_); refine goesL_ (some 9) rfl rfl Tryz.func58 kr_ rfl #[.pointer (some ⟨g372, 0, none⟩), .int .i64 5] rfl q2_ ?_; (with_reducible refine (spec_l1Below.calls g372 t369 t370 t371 5 t373 t374 t375 w _ ?side1 ?side2 A3.out).mono ?_); (case side1 => repeat (first | (with_reducible first | exact HI372.out | apply IsS74.alloc | apply IsS74.drewN | apply IsS74.drew | apply IsS74.set_1 | apply IsS74.set_2) | exact HI372.out)); (case side2 => exact q4_); rintro e w6 ⟨rfl, hi, hb, hk⟩; refine ⟨_, rfl, ?_⟩; replace HB := A_ (hb); replace HI372 := A_ (hi); clear hb hk hi) | ((with_reducible refine gate_callee (f := 58) rfl ?_); refine goesL_ (some 12) rfl rfl Tryz.func58 kr_ rfl #[.pointer (some ⟨g372, 0, none⟩), .int .i64 12] rfl q2_ ?_; (with_reducible refine (spec_l1Below.calls g372 t369 t374 t375 12 t376 t377 t378 w _ ?side1 ?side2 A4.out).mono ?_); (case side1 => repeat (first | (with_reducible first | exact HI372.out | apply IsS74.alloc | apply IsS74.drewN | apply IsS74.drew | apply IsS74.set_1 | apply IsS74.set_2) | exact HI372.out)); (case side2 => exact q4_); rintro e w7 ⟨rfl, hi, hb, hk⟩; refine ⟨_, rfl, ?_⟩; replace HB := A_ (hb); replace HI372 := A_ (hi); clear hb hk hi))
 go_ret2
 exact ⟨q6_, q4_⟩
def spec_l23Draw.f (k : Nat) (l0 : List Int) : Option (Int × Int × Int) := (spec_l1New.f k l0).bind fun bt379 => ((spec_l1PickInt.f bt379.1 bt379.2.1 bt379.2.2 (([4, 3, 3, 2, 0, 5, (-1)] : List Int))).bind fun bt386 => ((spec_l1Below.f bt379.1 bt386.2.1 bt386.2.2 257).bind fun bt389 => ((spec_l1Below.f bt379.1 bt389.2.1 bt389.2.2 256).bind fun bt392 => (some (bt386.1, wrap64 (bt389.1 - 1), bt392.1)))))
theorem spec_l23Draw.calls (k : Nat) (A0 : Option Addr) (c0 : Nat) (l0 : List Int) (r1 : Int) (r2 : Int) (r3 : Int) (w : World) (hr0 : Kd.C (Kd.int .u8) w A0 l0.length l0) (hc0 : l0.length ≤ c0) (h : spec_l23Draw.f k l0 = some (r1, r2, r3)) :
  Calls Tryz.prog 61 #[.slice A0 l0.length c0] w fun e w' => e = .returned (.tuple #[.int .i64 r1, .int .i64 r2, .int .i64 r3]) ∧ Below w.heap.size w w' := by
 have HR0 := A_ hr0; have HC0 := A_ hc0; clear hr0 hc0
 have HB := A_ (Below.refl w.heap.size w)
 have H : ((spec_l1New.f k l0).bind fun bt379 => ((spec_l1PickInt.f bt379.1 bt379.2.1 bt379.2.2 (([4, 3, 3, 2, 0, 5, (-1)] : List Int))).bind fun bt386 => ((spec_l1Below.f bt379.1 bt386.2.1 bt386.2.2 257).bind fun bt389 => ((spec_l1Below.f bt379.1 bt389.2.1 bt389.2.2 256).bind fun bt392 => (some (bt386.1, wrap64 (bt389.1 - 1), bt392.1)))))) = some (r1, r2, r3) := h
 clear h; replace H := Option.bind_eq_some_iff.mp H; obtain ⟨⟨t379, t380, t381⟩, A20, H⟩ := H; (try dsimp only at H); have A2 := A_ A20; clear A20
 obtain ⟨y383, hy383⟩ : ∃ y_ : List Int, y_ = (([4, 3, 3, 2, 0, 5, (-1)] : List Int)) := ⟨_, rfl⟩
 replace H : ((spec_l1PickInt.f t379 t380 t381 y383).bind fun bt386 => ((spec_l1Below.f t379 bt386.2.1 bt386.2.2 257).bind fun bt389 => ((spec_l1Below.f t379 bt389.2.1 bt389.2.2 256).bind fun bt392 => (some (bt386.1, wrap64 (bt389.1 - 1), bt392.1))))) = some (r1, r2, r3) := by first | (rw [hy383]; with_reducible exact H) | (have H2_ := (Option.bind_some _ _).symm.trans H; rw [hy383]; with_reducible exact H2_) | (have H2_ := (Option.bind_some _ _).symm.trans H; with_reducible exact H2_) | with_reducible exact H | (rw [hy383]; exact H) | exact H
 have Ny383 := A_ hy383; clear hy383; replace H := Option.bind_eq_some_iff.mp H; obtain ⟨⟨t386, t387, t388⟩, A30, H⟩ := H; (try dsimp only at H); have A3 := A_ A30; clear A30; replace H := Option.bind_eq_some_iff.mp H; obtain ⟨⟨t389, t390, t391⟩, A40, H⟩ := H; (try dsimp only at H); have A4 := A_ A40; clear A40; replace H := Option.bind_eq_some_iff.mp H; obtain ⟨⟨t392, t393, t394⟩, A50, H⟩ := H
 replace H : (some (t386, wrap64 (t389 - 1), t392)) = some (r1, r2, r3) := H
 have A5 := A_ A50; clear A50
 simp only [Option.some.injEq, Prod.mk.injEq] at H
 obtain ⟨rfl, rfl, rfl⟩ := H
 go_enter Tryz.func61, Tryz.ntmps61
 go_wp2_with (first | ((with_reducible refine gate_callee (f := 40) rfl ?_); refine goesL_ (some 9) rfl rfl Tryz.func40 kr_ rfl #[.slice A0 l0.length c0] rfl q2_ ?_; (with_reducible refine (spec_l1New.calls k _ _ l0 t379 t380 t381 w _ ?side1 ?side2 ?side3 A2.out).mono ?_); (case side1 => exact q0_); (case side2 => exact HR0.out); (case side3 => exact HC0.out); rintro e w6 ⟨g382, rfl, hi, hb, hb2⟩; refine ⟨_, rfl, ?_⟩; replace HB := A_ (hb); have HI382 := A_ (hi); clear hb hb2 hi) | ((with_reducible refine gate_dst (N := 11) rfl ?_); refine Kd.R_lit (Kd.int .i64) _ 3 ?hg (N := 11) ?hd (xs := ([4, 3, 3, 2, 0, 5, (-1)] : List Int)) (inner := [.int .i64 4, .int .i64 3, .int .i64 3, .int .i64 2, .int .i64 0, .int .i64 5, .int .i64 (-1)]) (ok := fun _ => True) (okp := fun _ => True) ?hr ?hp (fun _ hk => hk) trivial (Below.refl _ _) (Nat.le_refl _) (by simp) ?_; (case hd => rfl); (case hg => rfl); (case hr => first | (go_simp; done) | (go_simp; rfl)); (case hp => exact (Reps.one (show Kd.M (Kd.int .i64) _ _ _ 4 [.int .i64 4] from rfl) (Reps.one (show Kd.M (Kd.int .i64) _ _ _ 3 [.int .i64 3] from rfl) (Reps.one (show Kd.M (Kd.int .i64) _ _ _ 3 [.int .i64 3] from rfl) (Reps.one (show Kd.M (Kd.int .i64) _ _ _ 2 [.int .i64 2] from rfl) (Reps.one (show Kd.M (Kd.int .i64) _ _ _ 0 [.int .i64 0] from rfl) (Reps.one (show Kd.M (Kd.int .i64) _ _ _ 5 [.int .i64 5] from rfl) (Reps.one (show Kd.M (Kd.int .i64) _ _ _ (-1) [.int .i64 (-1)] from rfl) (Reps.none _ _))))))))); intro v384 w7 ho8 hb hg_ hnew_; clear hg_ hnew_; (first | rw [← Ny383.out] at ho8 | (simp only [Int.reduceToNat] at ho8; rw [← Ny383.out] at ho8)); have HO385 := A_ (Kd.R_lower ho8 (below_size q4_)); replace HB := A_ (below_step q4_ hb); replace HI382 := A_ (IsS74.below q15_ hb); clear hb ho8; obtain ⟨Ao9, co9, eo9⟩ := Kd.R_slice HO385.out; subst eo9) | ((with_reducible refine gate_callee (f := 87) rfl ?_); refine goesL_ (some 12) rfl rfl Tryz.func87 kr_ rfl #[.pointer (some ⟨g382, 0, none⟩), .slice Ao9 y383.length co9] rfl q2_ ?_; (with_reducible refine (spec_l1PickInt.calls g382 t379 t380 t381 _ _ y383 t386 t387 t388 w _ ?side1 ?side2 ?side3 ?side4 ?side5 A3.out).mono ?_); (case side1 => exact q15_); (case side2 => exact q4_); (case side3 => repeat (first | exact (Kd.R_reads' HO385.out).2.2 | (with_reducible refine Kd.C_alloc ?_ _) | (with_reducible refine Kd.C_drewN ?_ _) | (with_reducible refine Kd.C_drew ?_))); (case side4 => exact (Kd.R_reads' HO385.out).2.1); (case side5 => exact far_slice (IsS74.own_ne HI382.out HO385.out (by decide))); rintro e w10 ⟨rfl, hi, hb, hk⟩; refine ⟨_, rfl, ?_⟩; replace HO385 := A_ (Kd.R_mono (Kd.R_keep (IsS74.apart (show IsS74 w _ g382 t379 t380 t381 from q15_) (M.Lr HO385) (by decide)) hk (fun _ h => h.2)) (fun _ h => h.1)); replace HB := A_ (hb); replace HI382 := A_ (hi); clear hb hk hi) | ((with_reducible refine gate_callee (f := 58) rfl ?_); refine goesL_ (some 14) rfl rfl Tryz.func58 kr_ rfl #[.pointer (some ⟨g382, 0, none⟩), .int .i64 257] rfl q2_ ?_; (with_reducible refine (spec_l1Below.calls g382 t379 t387 t388 257 t389 t390 t391 w _ ?side1 ?side2 A4.out).mono ?_); (case side1 => exact q15_); (case side2 => exact q4_); rintro e w11 ⟨rfl, hi, hb, hk⟩; refine ⟨_, rfl, ?_⟩; replace HO385 := A_ (Kd.R_mono (Kd.R_keep (IsS74.apart (show IsS74 w _ g382 t379 t387 t388 from q15_) (M.Lr HO385) (by decide)) hk (fun _ h => h.2)) (fun _ h => h.1)); replace HB := A_ (hb); replace HI382 := A_ (hi); clear hb hk hi) | ((with_reducible refine gate_callee (f := 58) rfl ?_); refine goesL_ (some 19) rfl rfl Tryz.func58 kr_ rfl #[.pointer (some ⟨g382, 0, none⟩), .int .i64 256] rfl q2_ ?_; (with_reducible refine (spec_l1Below.calls g382 t379 t390 t391 256 t392 t393 t394 w _ ?side1 ?side2 A5.out).mono ?_); (case side1 => exact q15_); (case side2 => exact q4_); rintro e w12 ⟨rfl, hi, hb, hk⟩; refine ⟨_, rfl, ?_⟩; replace HO385 := A_ (Kd.R_mono (Kd.R_keep (IsS74.apart (show IsS74 w _ g382 t379 t390 t391 from q15_) (M.Lr HO385) (by decide)) hk (fun _ h => h.2)) (fun _ h => h.1)); replace HB := A_ (hb); replace HI382 := A_ (hi); clear hb hk hi))
 go_ret3
 exact ⟨q6_, q4_⟩
def spec_DrawEdgesBetween.f (k : Nat) (l0 : List Int) : Option (Int × Int × Int) := (spec_l23Draw.f k l0).bind fun bt395 => (some (bt395.1, bt395.2.1, bt395.2.2))
theorem spec_DrawEdgesBetween.calls (k : Nat) (A0 : Option Addr) (c0 : Nat) (l0 : List Int) (r1 : Int) (r2 : Int) (r3 : Int) (w : World) (hr0 : Kd.C (Kd.int .u8) w A0 l0.length l0) (hc0 : l0.length ≤ c0) (h : spec_DrawEdgesBetween.f k l0 = some (r1, r2, r3)) :
  Calls Tryz.prog 26 #[.slice A0 l0.length c0] w fun e w' => e = .returned (.tuple #[.int .i64 r1, .int .i64 r2, .int .i64 r3]) ∧ Below w.heap.size w w' := by
 have HR0 := A_ hr0; have HC0 := A_ hc0; clear hr0 hc0
 have HB := A_ (Below.refl w.heap.size w)
 have H : ((spec_l23Draw.f k l0).bind fun bt395 => (some (bt395.1, bt395.2.1, bt395.2.2))) = some (r1, r2, r3) := h
 clear h; replace H := Option.bind_eq_some_iff.mp H; obtain ⟨⟨t395, t396, t397⟩, A20, H⟩ := H
 replace H : (some (t395, t396, t397)) = some (r1, r2, r3) := H
 have A2 := A_ A20; clear A20
 simp only [Option.some.injEq, Prod.mk.injEq] at H
 obtain ⟨rfl, rfl, rfl⟩ := H
 go_enter Tryz.func26, Tryz.ntmps26
 go_wp2_with (first | ((with_reducible refine gate_callee (f := 61) rfl ?_); refine goesL_ (some 10) rfl rfl Tryz.func61 kr_ rfl #[.slice A0 l0.length c0] rfl q2_ ?_; (with_reducible refine (spec_l23Draw.calls k _ _ l0 t395 t396 t397 _ ?side1 ?side2 A2.out).mono ?_); (case side1 => exact q13_); (case side2 => exact HC0.out); rintro e w3 ⟨rfl, hb⟩; refine ⟨_, rfl, ?_⟩; replace HB := A_ (below_step q0_ hb); clear hb))
 go_ret3
 exact ⟨q6_, q0_⟩
def spec_DrawPairBound.f (k : Nat) (l0 : List Int) : Option (Int × Int × Int) := (spec_l23Draw.f k l0).bind fun bt398 => (some (bt398.1, bt398.2.1, bt398.2.2))
theorem spec_DrawPairBound.calls (k : Nat) (A0 : Option Addr) (c0 : Nat) (l0 : List Int) (r1 : Int) (r2 : Int) (r3 : Int) (w : World) (hr0 : Kd.C (Kd.int .u8) w A0 l0.length l0) (hc0 : l0.length ≤ c0) (h : spec_DrawPairBound.f k l0 = some (r1, r2, r3)) :
  Calls Tryz.prog 27 #[.slice A0 l0.length c0] w fun e w' => e = .returned (.tuple #[.int .i64 r1, .int .i64 r2, .int .i64 r3]) ∧ Below w.heap.size w w' := by
 have HR0 := A_ hr0; have HC0 := A_ hc0; clear hr0 hc0
 have HB := A_ (Below.refl w.heap.size w)
 have H : ((spec_l23Draw.f k l0).bind fun bt398 => (some (bt398.1, bt398.2.1, bt398.2.2))) = some (r1, r2, r3) := h
 clear h; replace H := Option.bind_eq_some_iff.mp H; obtain ⟨⟨t398, t399, t400⟩, A20, H⟩ := H
 replace H : (some (t398, t399, t400)) = some (r1, r2, r3) := H
 have A2 := A_ A20; clear A20
 simp only [Option.some.injEq, Prod.mk.injEq] at H
 obtain ⟨rfl, rfl, rfl⟩ := H
 go_enter Tryz.func27, Tryz.ntmps27
 go_wp2_with (first | ((with_reducible refine gate_callee (f := 61) rfl ?_); refine goesL_ (some 10) rfl rfl Tryz.func61 kr_ rfl #[.slice A0 l0.length c0] rfl q2_ ?_; (with_reducible refine (spec_l23Draw.calls k _ _ l0 t398 t399 t400 _ ?side1 ?side2 A2.out).mono ?_); (case side1 => exact q13_); (case side2 => exact HC0.out); rintro e w3 ⟨rfl, hb⟩; refine ⟨_, rfl, ?_⟩; replace HB := A_ (below_step q0_ hb); clear hb))
 go_ret3
 exact ⟨q6_, q0_⟩
def spec_DrawTableBound.f (k : Nat) (l0 : List Int) : Option (Int × Int) := (spec_l1New.f k l0).bind fun bt402 => ((spec_l2Any.f k bt402.1 bt402.2.1 bt402.2.2).bind fun bt406 => (some (bt406.1, bt406.2.1)))
theorem spec_DrawTableBound.calls (k : Nat) (A0 : Option Addr) (c0 : Nat) (l0 : List Int) (r1 : Int) (r2 : Int) (w : World) (hr0 : Kd.C (Kd.int .u8) w A0 l0.length l0) (hc0 : l0.length ≤ c0) (h : spec_DrawTableBound.f k l0 = some (r1, r2)) :
  Calls Tryz.prog 28 #[.slice A0 l0.length c0] w fun e w' => e = .returned (.agg #[.int .i64 r1, .int .i64 r2]) ∧ Below w.heap.size w w' := by
 have hu25 := Tryz.underlying25
 have HR0 := A_ hr0; have HC0 := A_ hc0; clear hr0 hc0
 have HB := A_ (Below.refl w.heap.size w)
 have H : ((spec_l1New.f k l0).bind fun bt402 => ((spec_l2Any.f k bt402.1 bt402.2.1 bt402.2.2).bind fun bt406 => (some (bt406.1, bt406.2.1)))) = some (r1, r2) := h
 clear h; replace H := Option.bind_eq_some_iff.mp H; obtain ⟨⟨t402, t403, t404⟩, A20, H⟩ := H
 replace H : ((spec_l2Any.f k t402 t403 t404).bind fun bt406 => (some (bt406.1, bt406.2.1))) = some (r1, r2) := H
 have A2 := A_ A20; clear A20; replace H := Option.bind_eq_some_iff.mp H; obtain ⟨⟨t406, t407, t408, t409⟩, A30, H⟩ := H
 replace H : (some (t406, t407)) = some (r1, r2) := H
 have A3 := A_ A30; clear A30
 simp only [Option.some.injEq, Prod.mk.injEq] at H
 obtain ⟨rfl, rfl⟩ := H
 go_enter Tryz.func28, Tryz.ntmps28
 go_wp2_with (first | ((with_reducible refine gate_dst (N := 2) rfl ?_); refine box_event ?hg (N := 2) ?hd (cs := #[.int .i64 0, .int .i64 0]) (t := 25) ?hr ?_; (case hd => rfl); (case hg => rfl); (case hr => first | (go_simp; done) | (go_simp; rfl)); intro gb401 hg w4 hbox hb; have BK401 := A_ (hbox); have GW401 := A_ ((by rw [hg]; exact (below_size q0_) : w.heap.size ≤ gb401)); have GE401 := A_ ((by rw [hg]; exact (below_size q0_) : w.heap.size ≤ gb401)); replace HB := A_ (below_step q0_ hb); clear hb hbox hg) | ((with_reducible refine gate_callee (f := 40) rfl ?_); refine goesL_ (some 4) rfl rfl Tryz.func40 kr_ rfl #[.slice A0 l0.length c0] rfl q2_ ?_; (with_reducible refine (spec_l1New.calls k _ _ l0 t402 t403 t404 w _ ?side1 ?side2 ?side3 A2.out).mono ?_); (case side1 => exact q0_); (case side2 => exact HR0.out); (case side3 => exact HC0.out); rintro e w5 ⟨g405, rfl, hi, hb, hb2⟩; refine ⟨_, rfl, ?_⟩; replace HB := A_ (hb); have HI405 := A_ (hi); have NB405_401 := A_ (IsS74.ne_blk hi (blk_below (M.Lb BK401) hb2) (by decide)); have NB401_405 := A_ (Ne.symm (IsS74.ne_blk hi (blk_below (M.Lb BK401) hb2) (by decide))); replace BK401 := A_ (blk_below (M.Lb BK401) hb2); clear hb hb2 hi) | ((with_reducible refine gate_callee (f := 62) rfl ?_); refine goesL_ (some 5) rfl rfl Tryz.func62 kr_ rfl #[.pointer (some ⟨g405, 0, none⟩)] rfl q2_ ?_; (with_reducible refine (spec_l2Any.calls k g405 t402 t403 t404 t406 t407 t408 t409 w _ ?side1 ?side2 A3.out).mono ?_); (case side1 => repeat (first | (with_reducible first | exact HI405.out | apply IsS74.alloc | apply IsS74.drewN | apply IsS74.drew | apply IsS74.set_1 | apply IsS74.set_2 | refine IsS74.far ?_ NB405_401.out _) | exact HI405.out)); (case side2 => exact q4_); rintro e w6 ⟨rfl, hi, hb, hk⟩; refine ⟨_, rfl, ?_⟩; replace BK401 := A_ (KeepBut.blk hk (g' := gb401) (o := .cells #[.int .i64 0, .int .i64 0] 25 (0, 0)) (M.Lb BK401) NB401_405.out (by simp)); replace HB := A_ (hb); replace HI405 := A_ (hi); clear hb hk hi; have hnb7 := NB401_405.out; have hnc7 := NB405_401.out; have hcz8_0 := c20_ BK401; have hcz8_1 := c21_ BK401; have hfz8_0 := blk_frozen BK401.out 0; have hfz8_1 := blk_frozen BK401.out 1))
 refine bodyPost_ret (results_cell_row rfl _ _ gb401 25 #[.int .i64 t406, .int .i64 t407] (0, 0) _ rfl (by (with_reducible repeat (first | refine blk_drewN ?_ _ | refine blk_drew ?_ | refine blk_alloc ?_ _)); refine blk_put (cs := #[.int .i64 t406, .int .i64 0]) ?_ 1 _ rfl; (with_reducible repeat (first | refine blk_drewN ?_ _ | refine blk_drew ?_ | refine blk_alloc ?_ _)); refine blk_put (cs := #[.int .i64 0, .int .i64 0]) ?_ 0 _ rfl; (with_reducible repeat (first | refine blk_drewN ?_ _ | refine blk_drew ?_ | refine blk_alloc ?_ _)); exact BK401.out) Tryz.underlying25 rfl kr_) rfl ?_
 exact ⟨q6_, q4_⟩
def spec_DrawBestPair.f (k : Nat) (l0 : List Int) : Option (Int × Int) := (spec_l1New.f k l0).bind fun bt411 => ((spec_l22Small.f k bt411.1 bt411.2.1 bt411.2.2).bind fun bt415 => (some (bt415.1, bt415.2.1)))
theorem spec_DrawBestPair.calls (k : Nat) (A0 : Option Addr) (c0 : Nat) (l0 : List Int) (r1 : Int) (r2 : Int) (w : World) (hr0 : Kd.C (Kd.int .u8) w A0 l0.length l0) (hc0 : l0.length ≤ c0) (h : spec_DrawBestPair.f k l0 = some (r1, r2)) :
  Calls Tryz.prog 29 #[.slice A0 l0.length c0] w fun e w' => e = .returned (.agg #[.int .i64 r1, .int .i64 r2]) ∧ Below w.heap.size w w' := by
 have hu25 := Tryz.underlying25
 have HR0 := A_ hr0; have HC0 := A_ hc0; clear hr0 hc0
 have HB := A_ (Below.refl w.heap.size w)
 have H : ((spec_l1New.f k l0).bind fun bt411 => ((spec_l22Small.f k bt411.1 bt411.2.1 bt411.2.2).bind fun bt415 => (some (bt415.1, bt415.2.1)))) = some (r1, r2) := h
 clear h; replace H := Option.bind_eq_some_iff.mp H; obtain ⟨⟨t411, t412, t413⟩, A20, H⟩ := H
 replace H : ((spec_l22Small.f k t411 t412 t413).bind fun bt415 => (some (bt415.1, bt415.2.1))) = some (r1, r2) := H
 have A2 := A_ A20; clear A20; replace H := Option.bind_eq_some_iff.mp H; obtain ⟨⟨t415, t416, t417, t418⟩, A30, H⟩ := H
 replace H : (some (t415, t416)) = some (r1, r2) := H
 have A3 := A_ A30; clear A30
 simp only [Option.some.injEq, Prod.mk.injEq] at H
 obtain ⟨rfl, rfl⟩ := H
 go_enter Tryz.func29, Tryz.ntmps29
 go_wp2_with (first | ((with_reducible refine gate_dst (N := 2) rfl ?_); refine box_event ?hg (N := 2) ?hd (cs := #[.int .i64 0, .int .i64 0]) (t := 25) ?hr ?_; (case hd => rfl); (case hg => rfl); (case hr => first | (go_simp; done) | (go_simp; rfl)); intro gb410 hg w4 hbox hb; have BK410 := A_ (hbox); have GW410 := A_ ((by rw [hg]; exact (below_size q0_) : w.heap.size ≤ gb410)); have GE410 := A_ ((by rw [hg]; exact (below_size q0_) : w.heap.size ≤ gb410)); replace HB := A_ (below_step q0_ hb); clear hb hbox hg) | ((with_reducible refine gate_callee (f := 40) rfl ?_); refine goesL_ (some 4) rfl rfl Tryz.func40 kr_ rfl #[.slice A0 l0.length c0] rfl q2_ ?_; (with_reducible refine (spec_l1New.calls k _ _ l0 t411 t412 t413 w _ ?side1 ?side2 ?side3 A2.out).mono ?_); (case side1 => exact q0_); (case side2 => exact HR0.out); (case side3 => exact HC0.out); rintro e w5 ⟨g414, rfl, hi, hb, hb2⟩; refine ⟨_, rfl, ?_⟩; replace HB := A_ (hb); have HI414 := A_ (hi); have NB414_410 := A_ (IsS74.ne_blk hi (blk_below (M.Lb BK410) hb2) (by decide)); have NB410_414 := A_ (Ne.symm (IsS74.ne_blk hi (blk_below (M.Lb BK410) hb2) (by decide))); replace BK410 := A_ (blk_below (M.Lb BK410) hb2); clear hb hb2 hi) | ((with_reducible refine gate_callee (f := 39) rfl ?_); refine goesL_ (some 5) rfl rfl Tryz.func39 kr_ rfl #[.pointer (some ⟨g414, 0, none⟩)] rfl q2_ ?_; (with_reducible refine (spec_l22Small.calls k g414 t411 t412 t413 t415 t416 t417 t418 w _ ?side1 ?side2 A3.out).mono ?_); (case side1 => repeat (first | (with_reducible first | exact HI414.out | apply IsS74.alloc | apply IsS74.drewN | apply IsS74.drew | apply IsS74.set_1 | apply IsS74.set_2 | refine IsS74.far ?_ NB414_410.out _) | exact HI414.out)); (case side2 => exact q4_); rintro e w6 ⟨rfl, hi, hb, hk⟩; refine ⟨_, rfl, ?_⟩; replace BK410 := A_ (KeepBut.blk hk (g' := gb410) (o := .cells #[.int .i64 0, .int .i64 0] 25 (0, 0)) (M.Lb BK410) NB410_414.out (by simp)); replace HB := A_ (hb); replace HI414 := A_ (hi); clear hb hk hi; have hnb7 := NB410_414.out; have hnc7 := NB414_410.out; have hcz8_0 := c20_ BK410; have hcz8_1 := c21_ BK410; have hfz8_0 := blk_frozen BK410.out 0; have hfz8_1 := blk_frozen BK410.out 1))
 refine bodyPost_ret (results_cell_row rfl _ _ gb410 25 #[.int .i64 t415, .int .i64 t416] (0, 0) _ rfl (by (with_reducible repeat (first | refine blk_drewN ?_ _ | refine blk_drew ?_ | refine blk_alloc ?_ _)); refine blk_put (cs := #[.int .i64 t415, .int .i64 0]) ?_ 1 _ rfl; (with_reducible repeat (first | refine blk_drewN ?_ _ | refine blk_drew ?_ | refine blk_alloc ?_ _)); refine blk_put (cs := #[.int .i64 0, .int .i64 0]) ?_ 0 _ rfl; (with_reducible repeat (first | refine blk_drewN ?_ _ | refine blk_drew ?_ | refine blk_alloc ?_ _)); exact BK410.out) Tryz.underlying25 rfl kr_) rfl ?_
 exact ⟨q6_, q4_⟩
def spec_l23Fine.f (a0 : Int) (a1 : Int) (a2 : Int) : Option (Bool) := (spec_l1In.f a0 0 4).bind fun t419 => (if t419 = true then ((spec_l2Full.f a0).bind fun t420 => ((spec_l1In.f a1 0 t420).bind fun t421 => (if t421 = true then ((spec_l2Full.f a0).bind fun t422 => ((spec_l1In.f a2 0 t422).bind fun t423 => (some t423))) else (some false)))) else (some false))
theorem spec_l23Fine.calls (a0 : Int) (a1 : Int) (a2 : Int) (r : Bool) (w : World) (h : spec_l23Fine.f a0 a1 a2 = some r) :
  Calls Tryz.prog 65 #[.int .i64 a0, .int .i64 a1, .int .i64 a2] w fun e w' => e = .returned (.bool r) ∧ Drawn0 w w' := by
 have H : ((spec_l1In.f a0 0 4).bind fun t419 => (if t419 = true then ((spec_l2Full.f a0).bind fun t420 => ((spec_l1In.f a1 0 t420).bind fun t421 => (if t421 = true then ((spec_l2Full.f a0).bind fun t422 => ((spec_l1In.f a2 0 t422).bind fun t423 => (some t423))) else (some false)))) else (some false))) = some r := h
 clear h; replace H := Option.bind_eq_some_iff.mp H; obtain ⟨t419, A40, H⟩ := H; (try dsimp only at H); have A4 := A_ A40; clear A40
 by_cases c5 : t419 = true
 ·subst c5
  have H1 : ((spec_l2Full.f a0).bind fun t420 => ((spec_l1In.f a1 0 t420).bind fun t421 => (if t421 = true then ((spec_l2Full.f a0).bind fun t422 => ((spec_l1In.f a2 0 t422).bind fun t423 => (some t423))) else (some false)))) = some r := by rw [if_pos rfl] at H; exact H
  clear H; have H := H1; clear H1; replace H := Option.bind_eq_some_iff.mp H; obtain ⟨t420, A60, H⟩ := H; (try dsimp only at H); have A6 := A_ A60; clear A60; replace H := Option.bind_eq_some_iff.mp H; obtain ⟨t421, A70, H⟩ := H; (try dsimp only at H); have A7 := A_ A70; clear A70
  by_cases c8 : t421 = true
  ·subst c8
   have H1 : ((spec_l2Full.f a0).bind fun t422 => ((spec_l1In.f a2 0 t422).bind fun t423 => (some t423))) = some r := by rw [if_pos rfl] at H; exact H
   clear H; have H := H1; clear H1; replace H := Option.bind_eq_some_iff.mp H; obtain ⟨t422, A90, H⟩ := H
   have A9q : t420 = t422 := Option.some.inj (A6.out.symm.trans A90)
   subst A9q; clear A90
   replace H : ((spec_l1In.f a2 0 t420).bind fun t423 => (some t423)) = some r := H
   replace H := Option.bind_eq_some_iff.mp H; obtain ⟨t423, A100, H⟩ := H
   replace H : (some t423) = some r := H
   have A10 := A_ A100; clear A100
   obtain rfl := Option.some.inj H
   go_enter Tryz.func65, Tryz.ntmps65
   go_wp2_with (first | ((with_reducible refine gate_callee (f := 59) rfl ?_); refine goesL_ (some 8) rfl rfl Tryz.func59 kr_ rfl #[.int .i64 a0, .int .i64 0, .int .i64 4] rfl q2_ ?_; (with_reducible refine (spec_l1In.calls a0 0 4 true _ A4.out).mono ?_); rintro e w' ⟨rfl, ⟨nd, rfl⟩⟩; refine ⟨_, rfl, ?_⟩) | (go_at_call 52; (with_reducible refine (spec_l2Full.calls a0 t420 _ A6.out).mono ?_); rintro e w' ⟨rfl, ⟨nd, rfl⟩⟩) | (go_at_call 59; (with_reducible refine (spec_l1In.calls a1 0 t420 true _ A7.out).mono ?_); rintro e w' ⟨rfl, ⟨nd, rfl⟩⟩) | (go_at_call 59; (with_reducible refine (spec_l1In.calls a2 0 t420 t423 _ A10.out).mono ?_); rintro e w' ⟨rfl, ⟨nd, rfl⟩⟩))
   go_ret
   exact ⟨q1_, q5_⟩
  ·replace c8 := Bool.eq_false_iff.mpr c8
   subst c8
   have H1 : (some false) = some r := by rw [if_neg (show ¬ (false = true) by decide)] at H; exact H
   clear H; have H := H1; clear H1
   obtain rfl := Option.some.inj H
   go_enter Tryz.func65, Tryz.ntmps65
   go_wp2_with (first | ((with_reducible refine gate_callee (f := 59) rfl ?_); refine goesL_ (some 8) rfl rfl Tryz.func59 kr_ rfl #[.int .i64 a0, .int .i64 0, .int .i64 4] rfl q2_ ?_; (with_reducible refine (spec_l1In.calls a0 0 4 true _ A4.out).mono ?_); rintro e w' ⟨rfl, ⟨nd, rfl⟩⟩; refine ⟨_, rfl, ?_⟩) | (go_at_call 52; (with_reducible refine (spec_l2Full.calls a0 t420 _ A6.out).mono ?_); rintro e w' ⟨rfl, ⟨nd, rfl⟩⟩) | (go_at_call 59; (with_reducible refine (spec_l1In.calls a1 0 t420 false _ A7.out).mono ?_); rintro e w' ⟨rfl, ⟨nd, rfl⟩⟩))
   go_ret
   exact ⟨q1_, q5_⟩
 ·replace c5 := Bool.eq_false_iff.mpr c5
  subst c5
  have H1 : (some false) = some r := by rw [if_neg (show ¬ (false = true) by decide)] at H; exact H
  clear H; have H := H1; clear H1
  obtain rfl := Option.some.inj H
  go_enter Tryz.func65, Tryz.ntmps65
  go_wp2_with (first | ((with_reducible refine gate_callee (f := 59) rfl ?_); refine goesL_ (some 8) rfl rfl Tryz.func59 kr_ rfl #[.int .i64 a0, .int .i64 0, .int .i64 4] rfl q2_ ?_; (with_reducible refine (spec_l1In.calls a0 0 4 false _ A4.out).mono ?_); rintro e w' ⟨rfl, ⟨nd, rfl⟩⟩; refine ⟨_, rfl, ?_⟩))
  go_ret
  exact ⟨q1_, q5_⟩
mutual
def spec_l23Edges.l0 : Nat → Int → Int → Int → Int → Int → Option (Int)
 | 0, _, _, _, _, _ => none
 | k + 1, x0, x1, x2, x7, x8 => if 0 ≤ x0 then (if x8 < (shl .i64 1 x0) then (spec_l23Edges.l1 k x0 x1 x2 x7 x8 0) else (some x7)) else (none)
def spec_l23Edges.l1 : Nat → Int → Int → Int → Int → Int → Int → Option (Int)
 | 0, _, _, _, _, _, _ => none
 | k + 1, x0, x1, x2, x7, x8, x9 => if x9 < x0 then (if 0 ≤ x8 then (if (Go.bits .and .i64 (shr .i64 x1 x8) 1) = 1 then (if 0 ≤ x9 then (if 0 ≤ (Go.bits .xor .i64 x8 (shl .i64 1 x9)) then (if (Go.bits .and .i64 (shr .i64 x2 (Go.bits .xor .i64 x8 (shl .i64 1 x9))) 1) = 1 then (spec_l23Edges.l1 k x0 x1 x2 (wrap64 (x7 + 1)) x8 (wrap64 (x9 + 1))) else (spec_l23Edges.l1 k x0 x1 x2 x7 x8 (wrap64 (x9 + 1)))) else (none)) else (none)) else (spec_l23Edges.l1 k x0 x1 x2 x7 x8 (wrap64 (x9 + 1)))) else (none)) else (spec_l23Edges.l0 k x0 x1 x2 x7 (wrap64 (x8 + 1)))
end
def spec_l23Edges.f (k : Nat) (a0 : Int) (a1 : Int) (a2 : Int) : Option (Int) := spec_l23Edges.l0 k a0 a1 a2 0 0
theorem spec_l23Edges.calls (k : Nat) (a0 : Int) (a1 : Int) (a2 : Int) (r : Int) (w : World) (h : spec_l23Edges.f k a0 a1 a2 = some r) :
  Calls Tryz.prog 66 #[.int .i64 a0, .int .i64 a1, .int .i64 a2] w fun e w' => e = .returned (.int .i64 r) ∧ Drawn0 w w' := by
 have H : (spec_l23Edges.l0 k a0 a1 a2 0 0) = some r := h
 clear h
 have H' := A_ H
 clear H
 go_enter Tryz.func66, Tryz.ntmps66
 go_wp2
 go_loopg [7, 8] k (fun kq v7 v8 w' => ∃ (x7_1 : Int) (x8_1 : Int), v7 = .int .i64 x7_1 ∧ v8 = .int .i64 x8_1 ∧ Aside0 (spec_l23Edges.l0 kq a0 a1 a2 x7_1 x8_1 = some r) ∧ Aside0 (kq ≤ k) ∧ Drawn0 w w')
 case atStart => exact ⟨(0), (0), q1_, q1_, H', ⟨Nat.le_refl _⟩, q5_⟩
 case round =>
  clear H'
  obtain ⟨x7_1, x8_1, rfl, rfl, HA, HK1, ⟨m1, rfl⟩⟩ := hrel
  cases gk with
  | zero => exact absurd HA.out (by simp [spec_l23Edges.l0])
  | succ k1 =>
   have H := HA.out
   clear HA
   simp only [spec_l23Edges.l0] at H
   by_cases c4 : 0 ≤ a0
   ·rw [if_pos c4] at H
    have c4b0 := eq_true c4
    have c4b1 : decide (0 ≤ a0) = true := decide_eq_true c4
    clear c4
    obtain ⟨ji5, hji5⟩ : ∃ j_ : Int, (shl .i64 1 a0) = j_ := ⟨_, rfl⟩
    replace H : (if x8_1 < (ji5) then (spec_l23Edges.l1 k1 a0 a1 a2 x7_1 x8_1 0) else (some x7_1)) = some r := q16_
    have hji5_ : (IntKind.i64.wrap (1 * 2 ^ min a0.toNat 64)) = ji5 := hji5
    have hji5z : a0 ≤ 64 → (IntKind.i64.wrap (1 * 2 ^ a0.toNat)) = ji5 := shl_small hji5
    have hji5u : (IntKind.i64.wrap (2 ^ min a0.toNat 64)) = ji5 := by have h_ := hji5_; rw [Int.one_mul] at h_; exact h_
    have hji5v : a0 ≤ 64 → (IntKind.i64.wrap (2 ^ a0.toNat)) = ji5 := fun hle_ => by have h_ := hji5z hle_; rw [Int.one_mul] at h_; exact h_
    have hji5y : (wrap64 (1 * 2 ^ min a0.toNat 64)) = ji5 := (i64_w _).symm.trans hji5_
    have hji5x : a0 ≤ 64 → (wrap64 (1 * 2 ^ a0.toNat)) = ji5 := fun h_ => (i64_w _).symm.trans (hji5z h_)
    by_cases c6 : x8_1 < (ji5)
    ·rw [if_pos c6] at H
     have c6b0 : decide (x8_1 < (ji5)) = true := decide_eq_true c6
     clear c6
     have H' := A_ H
     clear H
     go_wp2
     go_loopg [7, 9] k1 (fun kq v7 v9 w' => ∃ (x7_2 : Int) (x9_2 : Int), v7 = .int .i64 x7_2 ∧ v9 = .int .i64 x9_2 ∧ Aside0 (spec_l23Edges.l1 kq a0 a1 a2 x7_2 x8_1 x9_2 = some r) ∧ Aside0 (kq ≤ k1) ∧ Drawn0 w w')
     case atStart => exact ⟨(x7_1), (0), q1_, q1_, H', ⟨Nat.le_refl _⟩, q5_⟩
     case round =>
      clear H'; clear c4b0 c4b1 c6b0
      obtain ⟨x7_2, x9_2, rfl, rfl, HA, HK2, ⟨m2, rfl⟩⟩ := hrel
      cases gk with
      | zero => exact absurd HA.out (by simp [spec_l23Edges.l1])
      | succ k2 =>
       have H := HA.out
       clear HA
       simp only [spec_l23Edges.l1] at H
       by_cases c7 : x9_2 < a0
       ·rw [if_pos c7] at H
        have c7b0 : decide (x9_2 < a0) = true := decide_eq_true c7
        clear c7
        by_cases c8 : 0 ≤ x8_1
        ·rw [if_pos c8] at H
         have c8b0 := eq_true c8
         have c8b1 : decide (0 ≤ x8_1) = true := decide_eq_true c8
         clear c8
         obtain ⟨ji9, hji9⟩ : ∃ j_ : Int, (shr .i64 a1 x8_1) = j_ := ⟨_, rfl⟩
         replace H : (if (Go.bits .and .i64 (ji9) 1) = 1 then (if 0 ≤ x9_2 then (if 0 ≤ (Go.bits .xor .i64 x8_1 (shl .i64 1 x9_2)) then (if (Go.bits .and .i64 (shr .i64 a2 (Go.bits .xor .i64 x8_1 (shl .i64 1 x9_2))) 1) = 1 then (spec_l23Edges.l1 k2 a0 a1 a2 (wrap64 (x7_2 + 1)) x8_1 (wrap64 (x9_2 + 1))) else (spec_l23Edges.l1 k2 a0 a1 a2 x7_2 x8_1 (wrap64 (x9_2 + 1)))) else (none)) else (none)) else (spec_l23Edges.l1 k2 a0 a1 a2 x7_2 x8_1 (wrap64 (x9_2 + 1)))) = some r := by first | (rw [hji9] at H; exact H) | (simp only [hji9] at H ⊢; exact H)
         have hji9_ : (a1 / 2 ^ min x8_1.toNat 64) = ji9 := hji9
         have hji9z : x8_1 ≤ 64 → (a1 / 2 ^ x8_1.toNat) = ji9 := shr_small hji9
         by_cases c10 : (Go.bits .and .i64 (ji9) 1) = 1
         ·rw [if_pos c10] at H
          have c10b0 : ((Go.bits .and .i64 (ji9) 1) == 1) = true := beq_iff_eq.mpr c10
          have c10b1 : ((Go.bits .and .i64 (ji9) 1) != 1) = false := bne_eq_false_iff_eq.mpr c10
          clear c10
          by_cases c11 : 0 ≤ x9_2
          ·rw [if_pos c11] at H
           have c11b0 := eq_true c11
           have c11b1 : decide (0 ≤ x9_2) = true := decide_eq_true c11
           clear c11
           obtain ⟨ji12, hji12⟩ : ∃ j_ : Int, (shl .i64 1 x9_2) = j_ := ⟨_, rfl⟩
           replace H : (if 0 ≤ (Go.bits .xor .i64 x8_1 (ji12)) then (if (Go.bits .and .i64 (shr .i64 a2 (Go.bits .xor .i64 x8_1 (ji12))) 1) = 1 then (spec_l23Edges.l1 k2 a0 a1 a2 (wrap64 (x7_2 + 1)) x8_1 (wrap64 (x9_2 + 1))) else (spec_l23Edges.l1 k2 a0 a1 a2 x7_2 x8_1 (wrap64 (x9_2 + 1)))) else (none)) = some r := by first | (rw [hji12] at H; exact H) | (simp only [hji12] at H ⊢; exact H)
           have hji12_ : (IntKind.i64.wrap (1 * 2 ^ min x9_2.toNat 64)) = ji12 := hji12
           have hji12z : x9_2 ≤ 64 → (IntKind.i64.wrap (1 * 2 ^ x9_2.toNat)) = ji12 := shl_small hji12
           have hji12u : (IntKind.i64.wrap (2 ^ min x9_2.toNat 64)) = ji12 := by have h_ := hji12_; rw [Int.one_mul] at h_; exact h_
           have hji12v : x9_2 ≤ 64 → (IntKind.i64.wrap (2 ^ x9_2.toNat)) = ji12 := fun hle_ => by have h_ := hji12z hle_; rw [Int.one_mul] at h_; exact h_
           have hji12y : (wrap64 (1 * 2 ^ min x9_2.toNat 64)) = ji12 := (i64_w _).symm.trans hji12_
           have hji12x : x9_2 ≤ 64 → (wrap64 (1 * 2 ^ x9_2.toNat)) = ji12 := fun h_ => (i64_w _).symm.trans (hji12z h_)
           by_cases c13 : 0 ≤ (Go.bits .xor .i64 x8_1 (ji12))
           ·rw [if_pos c13] at H
            have c13b0 := eq_true c13
            have c13b1 : decide (0 ≤ (Go.bits .xor .i64 x8_1 (ji12))) = true := decide_eq_true c13
            clear c13
            obtain ⟨ji14, hji14⟩ : ∃ j_ : Int, (shr .i64 a2 (Go.bits .xor .i64 x8_1 (ji12))) = j_ := ⟨_, rfl⟩
            replace H : (if (Go.bits .and .i64 (ji14) 1) = 1 then (spec_l23Edges.l1 k2 a0 a1 a2 (wrap64 (x7_2 + 1)) x8_1 (wrap64 (x9_2 + 1))) else (spec_l23Edges.l1 k2 a0 a1 a2 x7_2 x8_1 (wrap64 (x9_2 + 1)))) = some r := by first | (rw [hji14] at H; exact H) | (simp only [hji14] at H ⊢; exact H)
            have hji14_ : (a2 / 2 ^ min (Go.bits .xor .i64 x8_1 (ji12)).toNat 64) = ji14 := hji14
            have hji14z : (Go.bits .xor .i64 x8_1 (ji12)) ≤ 64 → (a2 / 2 ^ (Go.bits .xor .i64 x8_1 (ji12)).toNat) = ji14 := shr_small hji14
            by_cases c15 : (Go.bits .and .i64 (ji14) 1) = 1
            ·rw [if_pos c15] at H
             have c15b0 : ((Go.bits .and .i64 (ji14) 1) == 1) = true := beq_iff_eq.mpr c15
             have c15b1 : ((Go.bits .and .i64 (ji14) 1) != 1) = false := bne_eq_false_iff_eq.mpr c15
             clear c15
             have H' := A_ H
             clear H
             go_wp2
             go_roundg k2
             case measure => have := HK1.out; have := HK2.out; omega
             case rel => exact ⟨(wrap64 (x7_2 + 1)), (wrap64 (x9_2 + 1)), q1_, q1_, H', ⟨by have := HK1.out; have := HK2.out; omega⟩, q5_⟩
            ·rw [if_neg c15] at H
             have c15b0 : ((Go.bits .and .i64 (ji14) 1) == 1) = false := beq_eq_false_iff_ne.mpr c15
             have c15b1 : ((Go.bits .and .i64 (ji14) 1) != 1) = true := bne_iff_ne.mpr c15
             have H' := A_ H
             clear H
             go_wp2
             go_roundg k2
             case measure => have := HK1.out; have := HK2.out; omega
             case rel => exact ⟨(x7_2), (wrap64 (x9_2 + 1)), q1_, q1_, H', ⟨by have := HK1.out; have := HK2.out; omega⟩, q5_⟩
           ·rw [if_neg c13] at H
            exact absurd H (by simp)
          ·rw [if_neg c11] at H
           exact absurd H (by simp)
         ·rw [if_neg c10] at H
          have c10b0 : ((Go.bits .and .i64 (ji9) 1) == 1) = false := beq_eq_false_iff_ne.mpr c10
          have c10b1 : ((Go.bits .and .i64 (ji9) 1) != 1) = true := bne_iff_ne.mpr c10
          have H' := A_ H
          clear H
          go_wp2
          go_roundg k2
          case measure => have := HK1.out; have := HK2.out; omega
          case rel => exact ⟨(x7_2), (wrap64 (x9_2 + 1)), q1_, q1_, H', ⟨by have := HK1.out; have := HK2.out; omega⟩, q5_⟩
        ·rw [if_neg c8] at H
         exact absurd H (by simp)
       ·rw [if_neg c7] at H
        have c7b0 : decide (x9_2 < a0) = false := decide_eq_false c7
        clear c7
        have H' := A_ H
        clear H
        go_wp2
        go_roundg k2
        case measure => have := HK1.out; have := HK2.out; omega
        case rel => exact ⟨(x7_2), (wrap64 (x8_1 + 1)), q1_, q1_, H', ⟨by have := HK1.out; have := HK2.out; omega⟩, q5_⟩
    ·rw [if_neg c6] at H
     have c6b0 : decide (x8_1 < (ji5)) = false := decide_eq_false c6
     clear c6
     obtain rfl := Option.some.inj H
     go_wp2
     go_ret
     exact ⟨by first | rfl | (simp; done) | (simp only [← hji5] <;> (first | rfl | simp)) | (simp [*]; done), q5_⟩
   ·rw [if_neg c4] at H
    exact absurd H (by simp)
def spec_PairBound.f (k : Nat) (a0 : Int) (a1 : Int) (a2 : Int) : Option (Int) := (spec_l23Fine.f a0 a1 a2).bind fun t424 => (if t424 = true then ((spec_l2Count.f k a1).bind fun t425 => ((spec_l2Count.f k a2).bind fun t426 => (if (wrap64 (t425 * t426)) = 0 then (some 0) else ((spec_l23Edges.f k a0 a1 a2).bind fun t427 => (some (wrap64 (Int.tdiv (wrap64 ((wrap64 ((wrap64 (t427 * t427)) + (wrap64 (t425 * t426)))) - 1)) (wrap64 (t425 * t426))))))))) else (some (-1)))
theorem spec_PairBound.calls (k : Nat) (a0 : Int) (a1 : Int) (a2 : Int) (r : Int) (w : World) (h : spec_PairBound.f k a0 a1 a2 = some r) :
  Calls Tryz.prog 36 #[.int .i64 a0, .int .i64 a1, .int .i64 a2] w fun e w' => e = .returned (.int .i64 r) ∧ Drawn0 w w' := by
 have H : ((spec_l23Fine.f a0 a1 a2).bind fun t424 => (if t424 = true then ((spec_l2Count.f k a1).bind fun t425 => ((spec_l2Count.f k a2).bind fun t426 => (if (wrap64 (t425 * t426)) = 0 then (some 0) else ((spec_l23Edges.f k a0 a1 a2).bind fun t427 => (some (wrap64 (Int.tdiv (wrap64 ((wrap64 ((wrap64 (t427 * t427)) + (wrap64 (t425 * t426)))) - 1)) (wrap64 (t425 * t426))))))))) else (some (-1)))) = some r := h
 clear h; replace H := Option.bind_eq_some_iff.mp H; obtain ⟨t424, A40, H⟩ := H; (try dsimp only at H); have A4 := A_ A40; clear A40
 by_cases c5 : t424 = true
 ·subst c5
  have H1 : ((spec_l2Count.f k a1).bind fun t425 => ((spec_l2Count.f k a2).bind fun t426 => (if (wrap64 (t425 * t426)) = 0 then (some 0) else ((spec_l23Edges.f k a0 a1 a2).bind fun t427 => (some (wrap64 (Int.tdiv (wrap64 ((wrap64 ((wrap64 (t427 * t427)) + (wrap64 (t425 * t426)))) - 1)) (wrap64 (t425 * t426))))))))) = some r := by rw [if_pos rfl] at H; exact H
  clear H; have H := H1; clear H1; replace H := Option.bind_eq_some_iff.mp H; obtain ⟨t425, A60, H⟩ := H; (try dsimp only at H); have A6 := A_ A60; clear A60; replace H := Option.bind_eq_some_iff.mp H; obtain ⟨t426, A70, H⟩ := H; (try dsimp only at H); have A7 := A_ A70; clear A70
  by_cases c8 : (wrap64 (t425 * t426)) = 0
  ·rw [if_pos c8] at H
   have c8b0 : ((wrap64 (t425 * t426)) == 0) = true := beq_iff_eq.mpr c8
   have c8b1 : ((wrap64 (t425 * t426)) != 0) = false := bne_eq_false_iff_eq.mpr c8
   clear c8
   obtain rfl := Option.some.inj H
   go_enter Tryz.func36, Tryz.ntmps36
   go_wp2_with (first | ((with_reducible refine gate_callee (f := 65) rfl ?_); refine goesL_ (some 12) rfl rfl Tryz.func65 kr_ rfl #[.int .i64 a0, .int .i64 a1, .int .i64 a2] rfl q2_ ?_; (with_reducible refine (spec_l23Fine.calls a0 a1 a2 true _ A4.out).mono ?_); rintro e w' ⟨rfl, ⟨nd, rfl⟩⟩; refine ⟨_, rfl, ?_⟩) | ((with_reducible refine gate_callee (f := 67) rfl ?_); refine goesL_ (some 15) rfl rfl Tryz.func67 kr_ rfl #[.int .i64 a1] rfl q2_ ?_; (with_reducible refine (spec_l2Count.calls k a1 t425 _ A6.out).mono ?_); rintro e w' ⟨rfl, ⟨nd, rfl⟩⟩; refine ⟨_, rfl, ?_⟩) | ((with_reducible refine gate_callee (f := 67) rfl ?_); refine goesL_ (some 17) rfl rfl Tryz.func67 kr_ rfl #[.int .i64 a2] rfl q2_ ?_; (with_reducible refine (spec_l2Count.calls k a2 t426 _ A7.out).mono ?_); rintro e w' ⟨rfl, ⟨nd, rfl⟩⟩; refine ⟨_, rfl, ?_⟩))
   go_ret
   exact ⟨q1_, q5_⟩
  ·rw [if_neg c8] at H
   have c8b0 : ((wrap64 (t425 * t426)) == 0) = false := beq_eq_false_iff_ne.mpr c8
   have c8b1 : ((wrap64 (t425 * t426)) != 0) = true := bne_iff_ne.mpr c8
   replace H := Option.bind_eq_some_iff.mp H; obtain ⟨t427, A90, H⟩ := H; (try dsimp only at H); have A9 := A_ A90; clear A90
   obtain rfl := Option.some.inj H
   go_enter Tryz.func36, Tryz.ntmps36
   go_wp2_with (first | ((with_reducible refine gate_callee (f := 65) rfl ?_); refine goesL_ (some 12) rfl rfl Tryz.func65 kr_ rfl #[.int .i64 a0, .int .i64 a1, .int .i64 a2] rfl q2_ ?_; (with_reducible refine (spec_l23Fine.calls a0 a1 a2 true _ A4.out).mono ?_); rintro e w' ⟨rfl, ⟨nd, rfl⟩⟩; refine ⟨_, rfl, ?_⟩) | ((with_reducible refine gate_callee (f := 67) rfl ?_); refine goesL_ (some 15) rfl rfl Tryz.func67 kr_ rfl #[.int .i64 a1] rfl q2_ ?_; (with_reducible refine (spec_l2Count.calls k a1 t425 _ A6.out).mono ?_); rintro e w' ⟨rfl, ⟨nd, rfl⟩⟩; refine ⟨_, rfl, ?_⟩) | ((with_reducible refine gate_callee (f := 67) rfl ?_); refine goesL_ (some 17) rfl rfl Tryz.func67 kr_ rfl #[.int .i64 a2] rfl q2_ ?_; (with_reducible refine (spec_l2Count.calls k a2 t426 _ A7.out).mono ?_); rintro e w' ⟨rfl, ⟨nd, rfl⟩⟩; refine ⟨_, rfl, ?_⟩) | ((with_reducible refine gate_callee (f := 66) rfl ?_); refine goesL_ (some 24) rfl rfl Tryz.func66 kr_ rfl #[.int .i64 a0, .int .i64 a1, .int .i64 a2] rfl q2_ ?_; (with_reducible refine (spec_l23Edges.calls k a0 a1 a2 t427 _ A9.out).mono ?_); rintro e w' ⟨rfl, ⟨nd, rfl⟩⟩; refine ⟨_, rfl, ?_⟩))
   go_ret
   exact ⟨q1_, q5_⟩
 ·replace c5 := Bool.eq_false_iff.mpr c5
  subst c5
  have H1 : (some (-1)) = some r := by rw [if_neg (show ¬ (false = true) by decide)] at H; exact H
  clear H; have H := H1; clear H1
  obtain rfl := Option.some.inj H
  go_enter Tryz.func36, Tryz.ntmps36
  go_wp2_with (first | ((with_reducible refine gate_callee (f := 65) rfl ?_); refine goesL_ (some 12) rfl rfl Tryz.func65 kr_ rfl #[.int .i64 a0, .int .i64 a1, .int .i64 a2] rfl q2_ ?_; (with_reducible refine (spec_l23Fine.calls a0 a1 a2 false _ A4.out).mono ?_); rintro e w' ⟨rfl, ⟨nd, rfl⟩⟩; refine ⟨_, rfl, ?_⟩))
  go_ret
  exact ⟨q1_, q5_⟩
mutual
def spec_BestPair.j0 : Nat → Bool → Int → Int → Option (Int × Int × Int × Bool)
 | 0, _, _, _ => none
 | k + 1, x19, x429000, x429001 => if x19 = true then (some (0, 0, 0, false)) else (spec_BestPair.l0 k 0 0 0 0 x429000 x429001)
def spec_BestPair.l0 : Nat → Int → Int → Int → Int → Int → Int → Option (Int × Int × Int × Bool)
 | 0, _, _, _, _, _, _ => none
 | k + 1, x6, x7, x8, x9, x429000, x429001 => if x9 ≤ x429001 then (if (Go.bits .and .i64 x9 x429001) = x9 then (spec_BestPair.l1 k x6 x7 x8 x9 0 x429000 x429001) else (spec_BestPair.l0 k x6 x7 x8 (wrap64 (x9 + 1)) x429000 x429001)) else (some (x6, x7, x8, true))
def spec_BestPair.l1 : Nat → Int → Int → Int → Int → Int → Int → Int → Option (Int × Int × Int × Bool)
 | 0, _, _, _, _, _, _, _ => none
 | k + 1, x6, x7, x8, x9, x10, x429000, x429001 => (spec_l2Full.f x429000).bind fun t430 => (if x10 ≤ (wrap64 (t430 - x429001)) then (if (Go.bits .and .i64 x10 x429001) = 0 then ((spec_PairBound.f k x429000 x9 x10).bind fun t431 => (if t431 > x8 then (spec_BestPair.l1 k x9 x10 t431 x9 (wrap64 (x10 + 1)) x429000 x429001) else (spec_BestPair.l1 k x6 x7 x8 x9 (wrap64 (x10 + 1)) x429000 x429001))) else (spec_BestPair.l1 k x6 x7 x8 x9 (wrap64 (x10 + 1)) x429000 x429001)) else (spec_BestPair.l0 k x6 x7 x8 (wrap64 (x9 + 1)) x429000 x429001))
end
def spec_BestPair.f (k : Nat) (a0_0 : Int) (a0_1 : Int) : Option (Int × Int × Int × Bool) := (spec_IsTable.f a0_0 a0_1).bind fun t429 => (if t429 = true then (spec_BestPair.j0 k (decide (a0_0 > 3)) a0_0 a0_1) else (spec_BestPair.j0 k true a0_0 a0_1))
theorem spec_BestPair.calls (k : Nat) (a0_0 : Int) (a0_1 : Int) (r1 : Int) (r2 : Int) (r3 : Int) (r4 : Bool) (w : World) (h : spec_BestPair.f k a0_0 a0_1 = some (r1, r2, r3, r4)) :
  Calls Tryz.prog 30 #[.agg #[.int .i64 a0_0, .int .i64 a0_1]] w fun e w' => e = .returned (.tuple #[.int .i64 r1, .int .i64 r2, .int .i64 r3, .bool r4]) ∧ Below w.heap.size w w' := by
 have hu25 := Tryz.underlying25
 have HB := A_ (Below.refl w.heap.size w)
 have H : ((spec_IsTable.f a0_0 a0_1).bind fun t429 => (if t429 = true then (spec_BestPair.j0 k (decide (a0_0 > 3)) a0_0 a0_1) else (spec_BestPair.j0 k true a0_0 a0_1))) = some (r1, r2, r3, r4) := h
 clear h; have HC2 := A_ H; clear H
 go_enter Tryz.func30, Tryz.ntmps30
 go_upto_region 1 with (first | ((with_reducible refine gate_dst (N := 1) rfl ?_); refine box_event ?hg (N := 1) ?hd (cs := #[.int .i64 a0_0, .int .i64 a0_1]) (t := 25) ?hr ?_; (case hd => rfl); (case hg => rfl); (case hr => first | (go_simp; done) | (go_simp; rfl)); intro gb428 hg w3 hbox hb; have BK428 := A_ (hbox); have GW428 := A_ ((by rw [hg]; exact (below_size q0_) : w.heap.size ≤ gb428)); have GE428 := A_ ((by rw [hg]; exact (below_size q0_) : w.heap.size ≤ gb428)); replace HB := A_ (below_step q0_ hb); clear hb hbox hg))
 repeat (go_quiet (fail); go_upto_region 1 with (fail))
 (try simp only [Act.put, List.setIfInBounds_toArray, List.set_cons_zero, List.set_cons_succ])
 go_cut [19] (fun v19 wc => ∃ (kq : Nat) (x19_1 : Bool), v19 = .bool x19_1 ∧ Aside0 (spec_BestPair.j0 kq x19_1 a0_0 a0_1 = some (r1, r2, r3, r4)) ∧ Aside0 (kq ≤ k) ∧ Aside0 (wc.heap[gb428]? = some (.cells #[.int .i64 a0_0, .int .i64 a0_1] 25 (0, 0))) ∧ Aside0 (Below w.heap.size w wc))
 case first =>
  have H := HC2.out
  clear HC2; replace H := Option.bind_eq_some_iff.mp H; obtain ⟨t429, A40, H⟩ := H; (try dsimp only at H); have A4 := A_ A40; clear A40
  by_cases c5 : t429 = true
  ·subst c5
   have H1 : (spec_BestPair.j0 k (decide (a0_0 > 3)) a0_0 a0_1) = some (r1, r2, r3, r4) := by rw [if_pos rfl] at H; exact H
   clear H; have H := H1; clear H1
   have H' := A_ H
   clear H
   have hcz6_0 := c20_ BK428
   have hcz6_1 := c21_ BK428
   have hfz6_0 := blk_frozen BK428.out 0
   have hfz6_1 := blk_frozen BK428.out 1
   go_wp2_with (first | (go_at_call 44; (with_reducible refine (spec_IsTable.calls a0_0 a0_1 true _ A4.out).mono ?_); rintro e w7 ⟨rfl, hb⟩; replace BK428 := A_ (blk_below (M.Lb BK428) hb); replace HB := A_ (below_step q0_ hb); clear hb; have hcz8_0 := c20_ BK428; have hcz8_1 := c21_ BK428; have hfz8_0 := blk_frozen BK428.out 0; have hfz8_1 := blk_frozen BK428.out 1))
   repeat (go_quiet (fail); try go_wp2_with (fail))
   go_meet
   case rel => exact ⟨_, (decide (a0_0 > 3)), q1_, H', ⟨q12_⟩, ⟨M.Lb BK428⟩, ⟨q0_⟩⟩
  ·replace c5 := Bool.eq_false_iff.mpr c5
   subst c5
   have H1 : (spec_BestPair.j0 k true a0_0 a0_1) = some (r1, r2, r3, r4) := by rw [if_neg (show ¬ (false = true) by decide)] at H; exact H
   clear H; have H := H1; clear H1
   have H' := A_ H
   clear H
   have hcz9_0 := c20_ BK428
   have hcz9_1 := c21_ BK428
   have hfz9_0 := blk_frozen BK428.out 0
   have hfz9_1 := blk_frozen BK428.out 1
   go_wp2_with (first | (go_at_call 44; (with_reducible refine (spec_IsTable.calls a0_0 a0_1 false _ A4.out).mono ?_); rintro e w10 ⟨rfl, hb⟩; replace BK428 := A_ (blk_below (M.Lb BK428) hb); replace HB := A_ (below_step q0_ hb); clear hb))
   repeat (go_quiet (fail); try go_wp2_with (fail))
   go_meet
   case rel => exact ⟨_, (true), q1_, H', ⟨q12_⟩, ⟨M.Lb BK428⟩, ⟨q0_⟩⟩
 case rest =>
  clear HC2; obtain ⟨kq, x19_1, rfl, HA, HJ1, BK428, HB⟩ := hcut
  cases kq with
  | zero => exact absurd HA.out (by simp [spec_BestPair.j0])
  | succ kj1 =>
   have H := HA.out
   clear HA
   simp only [spec_BestPair.j0] at H
   by_cases c11 : x19_1 = true
   ·subst c11
    have H1 : (some (0, 0, 0, false)) = some (r1, r2, r3, r4) := by rw [if_pos rfl] at H; exact H
    clear H; have H := H1; clear H1
    simp only [Option.some.injEq, Prod.mk.injEq] at H
    obtain ⟨rfl, rfl, rfl, rfl⟩ := H
    go_wp2
    repeat (go_quiet (fail); try go_wp2)
    refine bodyPost_ret (results_list (rs := [.tmp 2, .tmp 3, .tmp 4, .tmp 5]) rfl (by simp) (.tmp (.tmp (.tmp (.tmp .nil))))) rfl ?_
    exact ⟨q6_, q0_⟩
   ·replace c11 := Bool.eq_false_iff.mpr c11
    subst c11
    have H1 : (spec_BestPair.l0 kj1 0 0 0 0 a0_0 a0_1) = some (r1, r2, r3, r4) := by rw [if_neg (show ¬ (false = true) by decide)] at H; exact H
    clear H; have H := H1; clear H1
    have H' := A_ H
    clear H
    go_wp2
    repeat (go_quiet (fail); try go_wp2)
    go_loopg [6, 7, 8, 9] kj1 (fun kq v6 v7 v8 v9 w' => ∃ (x6_2 : Int) (x7_2 : Int) (x8_2 : Int) (x9_2 : Int), v6 = .int .i64 x6_2 ∧ v7 = .int .i64 x7_2 ∧ v8 = .int .i64 x8_2 ∧ v9 = .int .i64 x9_2 ∧ Aside0 (spec_BestPair.l0 kq x6_2 x7_2 x8_2 x9_2 a0_0 a0_1 = some (r1, r2, r3, r4)) ∧ Aside0 (kq ≤ kj1) ∧ Aside0 (w'.heap[gb428]? = some (.cells #[.int .i64 a0_0, .int .i64 a0_1] 25 (0, 0))) ∧ Aside0 (Below w.heap.size w w'))
    case atStart => exact ⟨(0), (0), (0), (0), q1_, q1_, q1_, q1_, H', ⟨Nat.le_refl _⟩, ⟨M.Lb BK428⟩, ⟨q0_⟩⟩
    case round =>
     clear H'; obtain ⟨x6_2, x7_2, x8_2, x9_2, rfl, rfl, rfl, rfl, HA, HK2, BK428, HB⟩ := hrel
     cases gk with
     | zero => exact absurd HA.out (by simp [spec_BestPair.l0])
     | succ k2 =>
      have H := HA.out
      clear HA
      simp only [spec_BestPair.l0] at H
      by_cases c12 : x9_2 ≤ a0_1
      ·rw [if_pos c12] at H
       have c12b0 : decide (x9_2 ≤ a0_1) = true := decide_eq_true c12
       clear c12
       by_cases c13 : (Go.bits .and .i64 x9_2 a0_1) = x9_2
       ·rw [if_pos c13] at H
        have c13b0 : ((Go.bits .and .i64 x9_2 a0_1) == x9_2) = true := beq_iff_eq.mpr c13
        have c13b1 : ((Go.bits .and .i64 x9_2 a0_1) != x9_2) = false := bne_eq_false_iff_eq.mpr c13
        clear c13
        have H' := A_ H
        clear H
        have hcz14_0 := c20_ BK428
        have hcz14_1 := c21_ BK428
        have hfz14_0 := blk_frozen BK428.out 0
        have hfz14_1 := blk_frozen BK428.out 1
        go_wp2
        repeat (go_quiet (fail); try go_wp2)
        go_loopg [6, 7, 8, 10] k2 (fun kq v6 v7 v8 v10 w' => ∃ (x6_3 : Int) (x7_3 : Int) (x8_3 : Int) (x10_3 : Int), v6 = .int .i64 x6_3 ∧ v7 = .int .i64 x7_3 ∧ v8 = .int .i64 x8_3 ∧ v10 = .int .i64 x10_3 ∧ Aside0 (spec_BestPair.l1 kq x6_3 x7_3 x8_3 x9_2 x10_3 a0_0 a0_1 = some (r1, r2, r3, r4)) ∧ Aside0 (kq ≤ k2) ∧ Aside0 (w'.heap[gb428]? = some (.cells #[.int .i64 a0_0, .int .i64 a0_1] 25 (0, 0))) ∧ Aside0 (Below w.heap.size w w'))
        case atStart => exact ⟨(x6_2), (x7_2), (x8_2), (0), q1_, q1_, q1_, q1_, H', ⟨Nat.le_refl _⟩, ⟨M.Lb BK428⟩, ⟨q0_⟩⟩
        case round =>
         clear H'; clear c12b0 c13b0 c13b1 hcz14_0 hcz14_1 hfz14_0 hfz14_1; obtain ⟨x6_3, x7_3, x8_3, x10_3, rfl, rfl, rfl, rfl, HA, HK3, BK428, HB⟩ := hrel
         cases gk with
         | zero => exact absurd HA.out (by simp [spec_BestPair.l1])
         | succ k3 =>
          have H := HA.out
          clear HA
          simp only [spec_BestPair.l1] at H
          replace H := Option.bind_eq_some_iff.mp H; obtain ⟨t430, A150, H⟩ := H; (try dsimp only at H); have A15 := A_ A150; clear A150
          by_cases c16 : x10_3 ≤ (wrap64 (t430 - a0_1))
          ·rw [if_pos c16] at H
           have c16b0 : decide (x10_3 ≤ (wrap64 (t430 - a0_1))) = true := decide_eq_true c16
           clear c16
           by_cases c17 : (Go.bits .and .i64 x10_3 a0_1) = 0
           ·rw [if_pos c17] at H
            have c17b0 : ((Go.bits .and .i64 x10_3 a0_1) == 0) = true := beq_iff_eq.mpr c17
            have c17b1 : ((Go.bits .and .i64 x10_3 a0_1) != 0) = false := bne_eq_false_iff_eq.mpr c17
            clear c17; replace H := Option.bind_eq_some_iff.mp H; obtain ⟨t431, A180, H⟩ := H; (try dsimp only at H); have A18 := A_ A180; clear A180
            by_cases c19 : t431 > x8_3
            ·rw [if_pos c19] at H
             have c19b0 : decide (x8_3 < t431) = true := decide_eq_true c19
             clear c19
             have H' := A_ H
             clear H
             have hcz20_0 := c20_ BK428
             have hcz20_1 := c21_ BK428
             have hfz20_0 := blk_frozen BK428.out 0
             have hfz20_1 := blk_frozen BK428.out 1
             go_wp2_with (fail)
             repeat (go_quiet (first | (go_at_call 52; (with_reducible refine (spec_l2Full.calls a0_0 t430 _ A15.out).mono ?_); rintro e w' ⟨rfl, ⟨nd, rfl⟩⟩; (try exact q10_))); try go_wp2_with (first | (go_at_call 36; (with_reducible refine (spec_PairBound.calls k3 a0_0 x9_2 x10_3 t431 _ A18.out).mono ?_); rintro e w' ⟨rfl, ⟨nd, rfl⟩⟩; (try exact q10_))))
             go_roundg k3
             case measure => have := HJ1.out; have := HK2.out; have := HK3.out; omega
             case rel => exact ⟨(x9_2), (x10_3), (t431), (wrap64 (x10_3 + 1)), q1_, q1_, q1_, q1_, H', ⟨by have := HJ1.out; have := HK2.out; have := HK3.out; omega⟩, ⟨M.Lb BK428⟩, ⟨q0_⟩⟩
            ·rw [if_neg c19] at H
             have c19b0 : decide (x8_3 < t431) = false := decide_eq_false c19
             clear c19
             have H' := A_ H
             clear H
             have hcz21_0 := c20_ BK428
             have hcz21_1 := c21_ BK428
             have hfz21_0 := blk_frozen BK428.out 0
             have hfz21_1 := blk_frozen BK428.out 1
             go_wp2_with (fail)
             repeat (go_quiet (first | (go_at_call 52; (with_reducible refine (spec_l2Full.calls a0_0 t430 _ A15.out).mono ?_); rintro e w' ⟨rfl, ⟨nd, rfl⟩⟩; (try exact q10_))); try go_wp2_with (first | (go_at_call 36; (with_reducible refine (spec_PairBound.calls k3 a0_0 x9_2 x10_3 t431 _ A18.out).mono ?_); rintro e w' ⟨rfl, ⟨nd, rfl⟩⟩; (try exact q10_))))
             go_roundg k3
             case measure => have := HJ1.out; have := HK2.out; have := HK3.out; omega
             case rel => exact ⟨(x6_3), (x7_3), (x8_3), (wrap64 (x10_3 + 1)), q1_, q1_, q1_, q1_, H', ⟨by have := HJ1.out; have := HK2.out; have := HK3.out; omega⟩, ⟨M.Lb BK428⟩, ⟨q0_⟩⟩
           ·rw [if_neg c17] at H
            have c17b0 : ((Go.bits .and .i64 x10_3 a0_1) == 0) = false := beq_eq_false_iff_ne.mpr c17
            have c17b1 : ((Go.bits .and .i64 x10_3 a0_1) != 0) = true := bne_iff_ne.mpr c17
            have H' := A_ H
            clear H
            have hcz22_0 := c20_ BK428
            have hcz22_1 := c21_ BK428
            have hfz22_0 := blk_frozen BK428.out 0
            have hfz22_1 := blk_frozen BK428.out 1
            go_wp2_with (fail)
            repeat (go_quiet (first | (go_at_call 52; (with_reducible refine (spec_l2Full.calls a0_0 t430 _ A15.out).mono ?_); rintro e w' ⟨rfl, ⟨nd, rfl⟩⟩; (try exact q10_))); try go_wp2_with (fail))
            go_roundg k3
            case measure => have := HJ1.out; have := HK2.out; have := HK3.out; omega
            case rel => exact ⟨(x6_3), (x7_3), (x8_3), (wrap64 (x10_3 + 1)), q1_, q1_, q1_, q1_, H', ⟨by have := HJ1.out; have := HK2.out; have := HK3.out; omega⟩, ⟨M.Lb BK428⟩, ⟨q0_⟩⟩
          ·rw [if_neg c16] at H
           have c16b0 : decide (x10_3 ≤ (wrap64 (t430 - a0_1))) = false := decide_eq_false c16
           clear c16
           have H' := A_ H
           clear H
           have hcz23_0 := c20_ BK428
           have hcz23_1 := c21_ BK428
           have hfz23_0 := blk_frozen BK428.out 0
           have hfz23_1 := blk_frozen BK428.out 1
           go_wp2_with (fail)
           repeat (go_quiet (first | (go_at_call 52; (with_reducible refine (spec_l2Full.calls a0_0 t430 _ A15.out).mono ?_); rintro e w' ⟨rfl, ⟨nd, rfl⟩⟩; (try exact q10_))); try go_wp2_with (fail))
           go_roundg k3
           case measure => have := HJ1.out; have := HK2.out; have := HK3.out; omega
           case rel => exact ⟨(x6_3), (x7_3), (x8_3), (wrap64 (x9_2 + 1)), q1_, q1_, q1_, q1_, H', ⟨by have := HJ1.out; have := HK2.out; have := HK3.out; omega⟩, ⟨M.Lb BK428⟩, ⟨q0_⟩⟩
       ·rw [if_neg c13] at H
        have c13b0 : ((Go.bits .and .i64 x9_2 a0_1) == x9_2) = false := beq_eq_false_iff_ne.mpr c13
        have c13b1 : ((Go.bits .and .i64 x9_2 a0_1) != x9_2) = true := bne_iff_ne.mpr c13
        have H' := A_ H
        clear H
        have hcz24_0 := c20_ BK428
        have hcz24_1 := c21_ BK428
        have hfz24_0 := blk_frozen BK428.out 0
        have hfz24_1 := blk_frozen BK428.out 1
        go_wp2
        repeat (go_quiet (fail); try go_wp2)
        go_roundg k2
        case measure => have := HJ1.out; have := HK2.out; omega
        case rel => exact ⟨(x6_2), (x7_2), (x8_2), (wrap64 (x9_2 + 1)), q1_, q1_, q1_, q1_, H', ⟨by have := HJ1.out; have := HK2.out; omega⟩, ⟨M.Lb BK428⟩, ⟨q0_⟩⟩
      ·rw [if_neg c12] at H
       have c12b0 : decide (x9_2 ≤ a0_1) = false := decide_eq_false c12
       clear c12
       simp only [Option.some.injEq, Prod.mk.injEq] at H
       obtain ⟨rfl, rfl, rfl, rfl⟩ := H
       have hcz25_0 := c20_ BK428
       have hcz25_1 := c21_ BK428
       have hfz25_0 := blk_frozen BK428.out 0
       have hfz25_1 := blk_frozen BK428.out 1
       go_wp2
       repeat (go_quiet (fail); try go_wp2)
       refine bodyPost_ret (results_list (rs := [.tmp 2, .tmp 3, .tmp 4, .tmp 5]) rfl (by simp) (.tmp (.tmp (.tmp (.tmp .nil))))) rfl ?_
       exact ⟨q6_, q0_⟩
def spec_DrawIsSeparated.j0 : Nat → Int → Int → Bool → List Int → Int → Int → Int → Int → Option (Int × Int × Int × Int)
 | 0, _, _, _, _, _, _, _, _ => none
 | k + 1, x7, x8, x26, x437000, x437001, x437002, x442000, x442001 => if x26 = true then (some (x442000, x442001, x7, x8)) else ((spec_l1Below.f x437000 x437001 x437002 17).bind fun bt449 => ((spec_l1Below.f x437000 bt449.2.1 bt449.2.2 16).bind fun bt452 => (some (x442000, x442001, wrap64 (bt449.1 - 1), bt452.1))))
def spec_DrawIsSeparated.f (k : Nat) (l0 : List Int) : Option (Int × Int × Int × Int) := (spec_l1New.f k l0).bind fun bt433 => ((spec_l22Small.f k bt433.1 bt433.2.1 bt433.2.2).bind fun bt437 => ((spec_BestPair.f k bt437.1 bt437.2.1).bind fun bt442 => (if bt442.2.2.2 = true then ((spec_l1Once.f bt433.1 bt437.2.2.1 bt437.2.2.2 2).bind fun bt446 => (spec_DrawIsSeparated.j0 k bt442.1 bt442.2.1 bt446.1 bt433.1 bt446.2.1 bt446.2.2 bt437.1 bt437.2.1)) else (spec_DrawIsSeparated.j0 k bt442.1 bt442.2.1 false bt433.1 bt437.2.2.1 bt437.2.2.2 bt437.1 bt437.2.1))))
def spec_DrawIsSeparated.T6 : Bool × List (List Nat × List Nat) := (true, [([], []), ([], []), ([1], [1]), ([2], [2]), ([], []), ([4, 2], [4]), ([0, 5, 0], [0]), ([3, 6, 0, 1, 2, 3, 6], [3]), ([5, 7, 0, 1, 2, 3, 4, 5, 6, 7], [5])])
def spec_DrawIsSeparated.B6 : List Nat := [0, 0, 2, 6, 0, 22, 55, 127, 255]
theorem spec_DrawIsSeparated.tab6 : rtab .any (opsOf Tryz.f31 6) = spec_DrawIsSeparated.T6 := by kernel_rfl
theorem spec_DrawIsSeparated.bits6 : waitsOk spec_DrawIsSeparated.T6.2 spec_DrawIsSeparated.B6 = true := by kernel_rfl
theorem spec_DrawIsSeparated.calls (k : Nat) (A0 : Option Addr) (c0 : Nat) (l0 : List Int) (r1 : Int) (r2 : Int) (r3 : Int) (r4 : Int) (w : World) (hr0 : Kd.C (Kd.int .u8) w A0 l0.length l0) (hc0 : l0.length ≤ c0) (h : spec_DrawIsSeparated.f k l0 = some (r1, r2, r3, r4)) :
  Calls Tryz.prog 31 #[.slice A0 l0.length c0] w fun e w' => e = .returned (.tuple #[.agg #[.int .i64 r1, .int .i64 r2], .int .i64 r3, .int .i64 r4]) ∧ Below w.heap.size w w' := by
 have hu25 := Tryz.underlying25
 have HR0 := A_ hr0; have HC0 := A_ hc0; clear hr0 hc0
 have HB := A_ (Below.refl w.heap.size w)
 have H : ((spec_l1New.f k l0).bind fun bt433 => ((spec_l22Small.f k bt433.1 bt433.2.1 bt433.2.2).bind fun bt437 => ((spec_BestPair.f k bt437.1 bt437.2.1).bind fun bt442 => (if bt442.2.2.2 = true then ((spec_l1Once.f bt433.1 bt437.2.2.1 bt437.2.2.2 2).bind fun bt446 => (spec_DrawIsSeparated.j0 k bt442.1 bt442.2.1 bt446.1 bt433.1 bt446.2.1 bt446.2.2 bt437.1 bt437.2.1)) else (spec_DrawIsSeparated.j0 k bt442.1 bt442.2.1 false bt433.1 bt437.2.2.1 bt437.2.2.2 bt437.1 bt437.2.1))))) = some (r1, r2, r3, r4) := h
 clear h; replace H := Option.bind_eq_some_iff.mp H; obtain ⟨⟨t433, t434, t435⟩, A20, H⟩ := H; (try dsimp only at H); have A2 := A_ A20; clear A20; replace H := Option.bind_eq_some_iff.mp H; obtain ⟨⟨t437, t438, t439, t440⟩, A30, H⟩ := H; (try dsimp only at H); have A3 := A_ A30; clear A30; replace H := Option.bind_eq_some_iff.mp H; obtain ⟨⟨t442, t443, t444, t445⟩, A40, H⟩ := H; (try dsimp only at H); have A4 := A_ A40; clear A40; have HC5 := A_ H; clear H
 go_enter Tryz.func31, Tryz.ntmps31
 go_upto_region 4 with (first | ((with_reducible refine gate_dst (N := 2) rfl ?_); refine box_event ?hg (N := 2) ?hd (cs := #[.int .i64 0, .int .i64 0]) (t := 25) ?hr ?_; (case hd => rfl); (case hg => rfl); (case hr => first | (go_simp; done) | (go_simp; rfl)); intro gb432 hg w6 hbox hb; have BK432 := A_ (hbox); have GW432 := A_ ((by rw [hg]; exact (below_size q0_) : w.heap.size ≤ gb432)); have GE432 := A_ ((by rw [hg]; exact (below_size q0_) : w.heap.size ≤ gb432)); replace HB := A_ (below_step q0_ hb); clear hb hbox hg) | ((with_reducible refine gate_callee (f := 40) rfl ?_); refine goesL_ (some 12) rfl rfl Tryz.func40 kr_ rfl #[.slice A0 l0.length c0] rfl q2_ ?_; (with_reducible refine (spec_l1New.calls k _ _ l0 t433 t434 t435 w _ ?side1 ?side2 ?side3 A2.out).mono ?_); (case side1 => exact q0_); (case side2 => exact HR0.out); (case side3 => exact HC0.out); rintro e w7 ⟨g436, rfl, hi, hb, hb2⟩; refine ⟨_, rfl, ?_⟩; replace HB := A_ (hb); have HI436 := A_ (hi); have NB436_432 := A_ (IsS74.ne_blk hi (blk_below (M.Lb BK432) hb2) (by decide)); have NB432_436 := A_ (Ne.symm (IsS74.ne_blk hi (blk_below (M.Lb BK432) hb2) (by decide))); replace BK432 := A_ (blk_below (M.Lb BK432) hb2); clear hb hb2 hi) | ((with_reducible refine gate_callee (f := 39) rfl ?_); refine goesL_ (some 14) rfl rfl Tryz.func39 kr_ rfl #[.pointer (some ⟨g436, 0, none⟩)] rfl q2_ ?_; (with_reducible refine (spec_l22Small.calls k g436 t433 t434 t435 t437 t438 t439 t440 w _ ?side1 ?side2 A3.out).mono ?_); (case side1 => exact q14_); (case side2 => exact q4_); rintro e w8 ⟨rfl, hi, hb, hk⟩; refine ⟨_, rfl, ?_⟩; replace BK432 := A_ (KeepBut.blk hk (g' := gb432) (o := .cells #[.int .i64 0, .int .i64 0] 25 (0, 0)) (M.Lb BK432) NB432_436.out (by simp)); replace HB := A_ (hb); replace HI436 := A_ (hi); clear hb hk hi) | ((with_reducible refine gate_dst (N := 6) rfl ?_); refine box_event ?hg (N := 6) ?hd (cs := #[.int .i64 0, .int .i64 0]) (t := 25) ?hr ?_; (case hd => rfl); (case hg => rfl); (case hr => first | (go_simp; done) | (go_simp; rfl)); intro gb441 hg w9 hbox hb; have BK441 := A_ (hbox); have GW441 := A_ ((by rw [hg]; exact (below_size q4_) : w.heap.size ≤ gb441)); have GE441 := A_ ((by rw [hg]; exact (below_size q4_) : w.heap.size ≤ gb441)); replace HB := A_ (below_step q4_ hb); have NB432_441 := A_ ((by rw [hg]; exact Nat.ne_of_lt (blk_lt (M.Lb BK432)) : gb432 ≠ gb441)); have NB441_432 := A_ ((by rw [hg]; exact Nat.ne_of_gt (blk_lt (M.Lb BK432)) : gb441 ≠ gb432)); replace BK432 := A_ (blk_below (M.Lb BK432) hb); have NB436_441 := A_ ((by rw [hg]; exact Nat.ne_of_lt (IsS74.lt (show IsS74 w _ g436 t433 t439 t440 from q14_)) : g436 ≠ gb441)); have NB441_436 := A_ ((by rw [hg]; exact Nat.ne_of_gt (IsS74.lt (show IsS74 w _ g436 t433 t439 t440 from q14_)) : gb441 ≠ g436)); replace HI436 := A_ (IsS74.below q14_ hb); clear hb hbox hg; have hnb10 := NB441_432.out; have hnc10 := NB432_441.out; have hnb11 := NB441_436.out; have hnc11 := NB436_441.out; have hcz12_0 := c20_ BK441; have hcz12_1 := c21_ BK441; have hfz12_0 := blk_frozen BK441.out 0; have hfz12_1 := blk_frozen BK441.out 1) | ((with_reducible refine gate_callee (f := 30) rfl ?_); refine goesL_ (some 17) rfl rfl Tryz.func30 kr_ rfl #[.agg #[.int .i64 t437, .int .i64 t438]] rfl q2_ ?_; (with_reducible refine (spec_BestPair.calls k t437 t438 t442 t443 t444 t445 _ A4.out).mono ?_); rintro e w13 ⟨rfl, hb⟩; refine ⟨_, rfl, ?_⟩; replace BK432 := A_ (blk_below (g := gb432) (o := .cells #[.int .i64 0, .int .i64 0] 25 (0, 0)) (by (with_reducible repeat (first | refine blk_drewN ?_ _ | refine blk_drew ?_ | refine blk_alloc ?_ _)); refine blk_far ?_ NB432_441.out _; (with_reducible repeat (first | refine blk_drewN ?_ _ | refine blk_drew ?_ | refine blk_alloc ?_ _)); refine blk_far ?_ NB432_441.out _; (with_reducible repeat (first | refine blk_drewN ?_ _ | refine blk_drew ?_ | refine blk_alloc ?_ _)); exact BK432.out) hb); replace BK441 := A_ (blk_below (g := gb441) (o := .cells #[.int .i64 t437, .int .i64 t438] 25 (0, 0)) (by (with_reducible repeat (first | refine blk_drewN ?_ _ | refine blk_drew ?_ | refine blk_alloc ?_ _)); refine blk_put (cs := #[.int .i64 t437, .int .i64 0]) ?_ 1 _ rfl; (with_reducible repeat (first | refine blk_drewN ?_ _ | refine blk_drew ?_ | refine blk_alloc ?_ _)); refine blk_put (cs := #[.int .i64 0, .int .i64 0]) ?_ 0 _ rfl; (with_reducible repeat (first | refine blk_drewN ?_ _ | refine blk_drew ?_ | refine blk_alloc ?_ _)); exact BK441.out) hb); replace HB := A_ (below_step q4_ hb); replace HI436 := A_ (IsS74.below (show IsS74 w ((w9.setCell ⟨gb441, 0, none⟩ (.int .i64 t437)).setCell ⟨gb441, 1, none⟩ (.int .i64 t438)) g436 t433 t439 t440 from q14_) hb); clear hb))
 (try simp only [Act.put, List.setIfInBounds_toArray, List.set_cons_zero, List.set_cons_succ])
 go_cut [26] (fun v26 wc => ∃ (kq : Nat) (x26_4 : Bool) (x437001_4 : Int) (x437002_4 : Int), v26 = .bool x26_4 ∧ Aside0 (spec_DrawIsSeparated.j0 kq t442 t443 x26_4 t433 x437001_4 x437002_4 t437 t438 = some (r1, r2, r3, r4)) ∧ Aside0 (kq ≤ k) ∧ Aside0 (wc.heap[gb432]? = some (.cells #[.int .i64 0, .int .i64 0] 25 (0, 0))) ∧ Aside0 (wc.heap[gb441]? = some (.cells #[.int .i64 t437, .int .i64 t438] 25 (0, 0))) ∧ Aside0 (IsS74 w wc g436 t433 x437001_4 x437002_4) ∧ Aside0 (Below w.heap.size w wc))
 case first =>
  have H := HC5.out
  clear HC5
  by_cases c14 : t445 = true
  ·subst c14
   have H1 : ((spec_l1Once.f t433 t439 t440 2).bind fun bt446 => (spec_DrawIsSeparated.j0 k t442 t443 bt446.1 t433 bt446.2.1 bt446.2.2 t437 t438)) = some (r1, r2, r3, r4) := by rw [if_pos rfl] at H; exact H
   clear H; have H := H1; clear H1; replace H := Option.bind_eq_some_iff.mp H; obtain ⟨⟨t446, t447, t448⟩, A150, H⟩ := H
   replace H : (spec_DrawIsSeparated.j0 k t442 t443 t446 t433 t447 t448 t437 t438) = some (r1, r2, r3, r4) := H
   have A15 := A_ A150; clear A150
   have H' := A_ H
   clear H
   go_wp2_with (first | (go_at_call 63; (with_reducible refine (spec_l1Once.calls g436 t433 t439 t440 2 t446 t447 t448 w _ ?side1 ?side2 A15.out).mono ?_); (case side1 => exact q14_); (case side2 => exact q4_); rintro e w16 ⟨rfl, hi, hb, hk⟩; replace BK432 := A_ (KeepBut.blk hk (g' := gb432) (o := .cells #[.int .i64 0, .int .i64 0] 25 (0, 0)) (M.Lb BK432) NB432_436.out (by simp)); replace BK441 := A_ (KeepBut.blk hk (g' := gb441) (o := .cells #[.int .i64 t437, .int .i64 t438] 25 (0, 0)) (M.Lb BK441) NB441_436.out (by simp)); replace HB := A_ (hb); replace HI436 := A_ (hi); clear hb hk hi))
   go_meet
   case rel => exact ⟨_, (t446), (t447), (t448), q1_, H', ⟨q12_⟩, ⟨M.Lb BK432⟩, ⟨M.Lb BK441⟩, ⟨q14_⟩, ⟨q4_⟩⟩
  ·replace c14 := Bool.eq_false_iff.mpr c14
   subst c14
   have H1 : (spec_DrawIsSeparated.j0 k t442 t443 false t433 t439 t440 t437 t438) = some (r1, r2, r3, r4) := by rw [if_neg (show ¬ (false = true) by decide)] at H; exact H
   clear H; have H := H1; clear H1
   have H' := A_ H
   clear H
   go_wp2
   go_meet
   case rel => exact ⟨_, (false), (t439), (t440), q1_, H', ⟨q12_⟩, ⟨M.Lb BK432⟩, ⟨M.Lb BK441⟩, ⟨q14_⟩, ⟨q4_⟩⟩
 case rest =>
  clear HC5; clear hcz12_0 hcz12_1 hfz12_0 hfz12_1; obtain ⟨kq, x26_4, x437001_4, x437002_4, rfl, HA, HJ4, BK432, BK441, HI436, HB⟩ := hcut
  cases kq with
  | zero => exact absurd HA.out (by simp [spec_DrawIsSeparated.j0])
  | succ kj4 =>
   have H := HA.out
   clear HA
   simp only [spec_DrawIsSeparated.j0] at H
   by_cases c17 : x26_4 = true
   ·subst c17
    have H1 : (some (t437, t438, t442, t443)) = some (r1, r2, r3, r4) := by rw [if_pos rfl] at H; exact H
    clear H; have H := H1; clear H1
    simp only [Option.some.injEq, Prod.mk.injEq] at H
    obtain ⟨rfl, rfl, rfl, rfl⟩ := H
    have hnb18 := NB441_432.out
    have hnc18 := NB432_441.out
    have hnb19 := NB441_436.out
    have hnc19 := NB436_441.out
    have hcz20_0 := c20_ BK441
    have hcz20_1 := c21_ BK441
    have hfz20_0 := blk_frozen BK441.out 0
    have hfz20_1 := blk_frozen BK441.out 1
    have hnb21 := NB432_436.out
    have hnc21 := NB436_432.out
    have hcz22_0 := c20_ BK432
    have hcz22_1 := c21_ BK432
    have hfz22_0 := blk_frozen BK432.out 0
    have hfz22_1 := blk_frozen BK432.out 1
    go_wp2
    refine bodyPost_ret (results_ctt rfl _ _ gb432 25 #[.int .i64 t437, .int .i64 t438] (0, 0) _ rfl (by (with_reducible repeat (first | refine blk_drewN ?_ _ | refine blk_drew ?_ | refine blk_alloc ?_ _)); refine blk_put (cs := #[.int .i64 t437, .int .i64 0]) ?_ 1 _ rfl; (with_reducible repeat (first | refine blk_drewN ?_ _ | refine blk_drew ?_ | refine blk_alloc ?_ _)); refine blk_put (cs := #[.int .i64 0, .int .i64 0]) ?_ 0 _ rfl; (with_reducible repeat (first | refine blk_drewN ?_ _ | refine blk_drew ?_ | refine blk_alloc ?_ _)); exact BK432.out) Tryz.underlying25 rfl kr_) rfl ?_
    exact ⟨q6_, q4_⟩
   ·replace c17 := Bool.eq_false_iff.mpr c17
    subst c17
    have H1 : ((spec_l1Below.f t433 x437001_4 x437002_4 17).bind fun bt449 => ((spec_l1Below.f t433 bt449.2.1 bt449.2.2 16).bind fun bt452 => (some (t437, t438, wrap64 (bt449.1 - 1), bt452.1)))) = some (r1, r2, r3, r4) := by rw [if_neg (show ¬ (false = true) by decide)] at H; exact H
    clear H; have H := H1; clear H1; replace H := Option.bind_eq_some_iff.mp H; obtain ⟨⟨t449, t450, t451⟩, A230, H⟩ := H; (try dsimp only at H); have A23 := A_ A230; clear A230; replace H := Option.bind_eq_some_iff.mp H; obtain ⟨⟨t452, t453, t454⟩, A240, H⟩ := H
    replace H : (some (t437, t438, wrap64 (t449 - 1), t452)) = some (r1, r2, r3, r4) := H
    have A24 := A_ A240; clear A240
    simp only [Option.some.injEq, Prod.mk.injEq] at H
    obtain ⟨rfl, rfl, rfl, rfl⟩ := H
    try go_wp2
    have n0_ := A_ (blk_drew BK432.out)
    have n1_ := A_ (blk_drew BK441.out)
    have n2_ := A_ (IsS74.drew HI436.out)
    have n3_ := A_ (below_drew1 HB.out)
    clear BK432; clear BK441; clear HI436; clear HB; have BK432 := n0_; have BK441 := n1_; have HI436 := n2_; have HB := n3_; clear n0_ n1_ n2_ n3_
    refine start_ (n := 9) (S := fun w' => w'.cell? ⟨gb441, 0, none⟩ = some (.int .i64 t437) ∧ w'.cell? ⟨gb441, 1, none⟩ = some (.int .i64 t438)) (ds := []) #[false, false, false, false, false, false, false, false, false] kr_ rfl rfl ⟨(blk_cell BK441.out 0).trans rfl, (blk_cell BK441.out 1).trans rfl⟩ (fun hHeld => ?_); refine with_tabW spec_DrawIsSeparated.tab6 spec_DrawIsSeparated.bits6 (fun HT_ HW_ => ?_)
    generalize wc.drew = w25 at BK432 BK441 HI436 HB hHeld ⊢
    refine pure_ (i := 1) (N := some 31) (v := ?_) (a' := ?_) #[false, true, false, false, false, false, false, false, false] rfl rfl (any_of HT_.out kr_) (fun _ _ _ h => h) (Or.inl ⟨by rfl, ?_⟩) ?_ ?_; rotate_left
    ·intro w'; go_simp; with_reducible rfl
    rotate_left
    ·simp only [Act.put, List.setIfInBounds_toArray, List.set_cons_zero, List.set_cons_succ, i64_w, i32_w]; rfl
    refine pure_ (i := 4) (N := some 34) (v := ?_) (a' := ?_) #[false, true, false, false, true, false, false, false, false] rfl rfl (any_of HT_.out kr_) (fun _ _ _ h => h) (Or.inl ⟨by rfl, ?_⟩) ?_ ?_; rotate_left
    ·intro w'; go_simp; with_reducible rfl
    rotate_left
    ·simp only [Act.put, List.setIfInBounds_toArray, List.set_cons_zero, List.set_cons_succ, i64_w, i32_w]; rfl
    refine take_ (i := 0) (N := some 30) (v := ?_) (a' := ?_) #[true, true, false, false, true, false, false, false, false] rfl rfl (take_ofW HT_.out HW_.out kr_) (fun _ _ _ h => h) (Or.inl ⟨by rfl, ?_⟩) hHeld ?_ ?_
    rotate_left
    ·rintro w' ⟨s0, s1⟩
     go_simp; with_reducible rfl
    rotate_left
    ·simp only [Act.put, List.setIfInBounds_toArray, List.set_cons_zero, List.set_cons_succ, i64_w, i32_w]; rfl
    refine one_ (i := 2) (N := some 32) #[true, true, true, false, true, false, false, false, false] rfl rfl (one_of HT_.out kr_) (by decide) (fun K hK => ?_)
    refine goes_ Tryz.func58 kr_ rfl #[.pointer (some ⟨g436, 0, none⟩), .int .i64 17] (by rfl) rfl rfl q2_ ?_
    with_reducible refine (spec_l1Below.calls g436 t433 x437001_4 x437002_4 17 t449 t450 t451 w _ ?side1 ?side2 A23.out).mono ?_
    (case side1 => exact q14_)
    (case side2 => exact q4_)
    rintro e w26 ⟨rfl, hi, hb, hk⟩
    refine ⟨_, rfl, ?_⟩
    have n0_ := A_ (KeepBut.blk hk (g' := gb432) (o := .cells #[.int .i64 0, .int .i64 0] 25 (0, 0)) (M.Lb BK432) NB432_436.out (by simp))
    have n1_ := A_ (KeepBut.blk hk (g' := gb441) (o := .cells #[.int .i64 t437, .int .i64 t438] 25 (0, 0)) (M.Lb BK441) NB441_436.out (by simp))
    have n2_ := A_ (hb); have n3_ := A_ (hi); clear BK432; clear BK441; clear HB; clear HI436; have BK432 := n0_; have BK441 := n1_; have HB := n2_; have HI436 := n3_; clear n0_ n1_ n2_ n3_; clear hb hk hi
    refine hK.out _ _ ⟨(blk_cell BK441.out 0).trans rfl, (blk_cell BK441.out 1).trans rfl⟩ (fun hHeld => ?_)
    clear hK K
    refine norm_ (a' := ?_) ?_ ?_
    rotate_left
    ·show Act.put _ (some 32) _ = _
     simp only [Act.put, List.setIfInBounds_toArray, List.set_cons_zero, List.set_cons_succ, i64_w, i32_w]; rfl
    refine pure_ (i := 3) (N := some 33) (v := ?_) (a' := ?_) #[true, true, true, true, true, false, false, false, false] rfl rfl (any_of HT_.out kr_) (fun _ _ _ h => h) (Or.inl ⟨by rfl, ?_⟩) ?_ ?_; rotate_left
    ·intro w'; go_simp; with_reducible rfl
    rotate_left
    ·simp only [Act.put, List.setIfInBounds_toArray, List.set_cons_zero, List.set_cons_succ, i64_w, i32_w]; rfl
    refine one_ (i := 5) (N := some 35) #[true, true, true, true, true, true, false, false, false] rfl rfl (one_of HT_.out kr_) (by decide) (fun K hK => ?_)
    refine goes_ Tryz.func58 kr_ rfl #[.pointer (some ⟨g436, 0, none⟩), .int .i64 16] (by rfl) rfl rfl q2_ ?_
    with_reducible refine (spec_l1Below.calls g436 t433 t450 t451 16 t452 t453 t454 w _ ?side1 ?side2 A24.out).mono ?_
    (case side1 => exact q14_)
    (case side2 => exact q4_)
    rintro e w27 ⟨rfl, hi, hb, hk⟩
    refine ⟨_, rfl, ?_⟩
    have n0_ := A_ (KeepBut.blk hk (g' := gb432) (o := .cells #[.int .i64 0, .int .i64 0] 25 (0, 0)) (M.Lb BK432) NB432_436.out (by simp))
    have n1_ := A_ (KeepBut.blk hk (g' := gb441) (o := .cells #[.int .i64 t437, .int .i64 t438] 25 (0, 0)) (M.Lb BK441) NB441_436.out (by simp))
    have n2_ := A_ (hb); have n3_ := A_ (hi); clear BK432; clear BK441; clear HB; clear HI436; have BK432 := n0_; have BK441 := n1_; have HB := n2_; have HI436 := n3_; clear n0_ n1_ n2_ n3_; clear hb hk hi
    refine hK.out _ _ ⟨(blk_cell BK441.out 0).trans rfl, (blk_cell BK441.out 1).trans rfl⟩ (fun hHeld => ?_)
    clear hK K
    refine norm_ (a' := ?_) ?_ ?_
    rotate_left
    ·show Act.put _ (some 35) _ = _
     simp only [Act.put, List.setIfInBounds_toArray, List.set_cons_zero, List.set_cons_succ, i64_w, i32_w]; rfl
    refine one_ (i := 6) (N := none) #[true, true, true, true, true, true, true, false, false] rfl rfl (one_of HT_.out kr_) (by decide) (fun K hK => ?_)
    have hs28 := c20_ BK432
    have hfs28 := blk_frozen BK432.out 0
    have hns28_1 := NB441_432.out
    have hms28_1 := NB432_441.out
    have hs29 := c21_ BK432
    have hfs29 := blk_frozen BK432.out 1
    have hns29_1 := NB441_432.out
    have hms29_1 := NB432_441.out
    refine skip_ (w1 := ?_) (by rfl) rfl ?_ ?_
    rotate_left
    ·go_simp; rfl
    refine hK.out _ _ ⟨((cell_far (p := ⟨gb432, _, none⟩) NB441_432.out _).trans (((cell_far (p := ⟨gb432, _, none⟩) NB441_432.out _).trans (hHeld.1)))), ((cell_far (p := ⟨gb432, _, none⟩) NB441_432.out _).trans (((cell_far (p := ⟨gb432, _, none⟩) NB441_432.out _).trans (hHeld.2))))⟩ (fun hHeld => ?_)
    clear hK K; refine pure_ (i := 7) (N := some 3) (v := ?_) (a' := ?_) #[true, true, true, true, true, true, true, true, false] rfl rfl (any_of HT_.out kr_) (fun _ _ _ h => h) (Or.inl ⟨by rfl, ?_⟩) ?_ ?_; rotate_left
    ·intro w'; go_simp; with_reducible rfl
    rotate_left
    ·simp only [Act.put, List.setIfInBounds_toArray, List.set_cons_zero, List.set_cons_succ, i64_w, i32_w]; rfl
    refine pure_ (i := 8) (N := some 4) (v := ?_) (a' := ?_) #[true, true, true, true, true, true, true, true, true] rfl rfl (any_of HT_.out kr_) (fun _ _ _ h => h) (Or.inl ⟨by rfl, ?_⟩) ?_ ?_; rotate_left
    ·intro w'; go_simp; with_reducible rfl
    rotate_left
    ·simp only [Act.put, List.setIfInBounds_toArray, List.set_cons_zero, List.set_cons_succ, i64_w, i32_w]; rfl
    refine done_ (done_of HT_.out kr_) ?_
    try go_wp2
    refine bodyPost_ret (results_ctt rfl _ _ gb432 25 #[.int .i64 t437, .int .i64 t438] (0, 0) _ rfl (by (with_reducible repeat (first | refine blk_drewN ?_ _ | refine blk_drew ?_ | refine blk_alloc ?_ _)); refine blk_put (cs := #[.int .i64 t437, .int .i64 0]) ?_ 1 _ rfl; (with_reducible repeat (first | refine blk_drewN ?_ _ | refine blk_drew ?_ | refine blk_alloc ?_ _)); refine blk_put (cs := #[.int .i64 0, .int .i64 0]) ?_ 0 _ rfl; (with_reducible repeat (first | refine blk_drewN ?_ _ | refine blk_drew ?_ | refine blk_alloc ?_ _)); exact BK432.out) Tryz.underlying25 rfl kr_) rfl ?_
    exact ⟨q6_, q4_⟩
def impl_CountOfSize.l0 : Nat → Int → Int → List Int → Int → Int → Option (Int)
 | 0, _, _, _, _, _ => none
 | k + 1, x1, x7, x17, x18, x19 => if x19 < x18 then (if 0 ≤ x19 then (if x19 < (x17.length : Int) then (if (rd x17 x19) = x1 then (impl_CountOfSize.l0 k x1 (wrap64 (x7 + 1)) x17 x18 (wrap64 (x19 + 1))) else (impl_CountOfSize.l0 k x1 x7 x17 x18 (wrap64 (x19 + 1)))) else (none)) else (none)) else (some x7)
def impl_CountOfSize.f (k : Nat) (a0 : Int) (a1 : Int) : Option (Int) := (impl_SizesOf.f a0).bind fun bt455 => (if bt455.2 = true then (impl_CountOfSize.l0 k a1 0 bt455.1 (bt455.1.length : Int) 0) else (some (-1)))
theorem impl_CountOfSize.calls (k : Nat) (a0 : Int) (a1 : Int) (r : Int) (w : World) (h : impl_CountOfSize.f k a0 a1 = some r) :
  Calls Tryz.prog 32 #[.int .i64 a0, .int .i64 a1] w fun e w' => e = .returned (.int .i64 r) ∧ Below w.heap.size w w' := by
 have HB := A_ (Below.refl w.heap.size w)
 have H : ((impl_SizesOf.f a0).bind fun bt455 => (if bt455.2 = true then (impl_CountOfSize.l0 k a1 0 bt455.1 (bt455.1.length : Int) 0) else (some (-1)))) = some r := h
 clear h; replace H := Option.bind_eq_some_iff.mp H; obtain ⟨⟨t455, t456⟩, A30, H⟩ := H
 replace H : (if t456 = true then (impl_CountOfSize.l0 k a1 0 t455 (t455.length : Int) 0) else (some (-1))) = some r := H
 have A3 := A_ A30; clear A30
 by_cases c4 : t456 = true
 ·subst c4
  have H1 : (impl_CountOfSize.l0 k a1 0 t455 (t455.length : Int) 0) = some r := by rw [if_pos rfl] at H; exact H
  clear H; have H := H1; clear H1
  have H' := A_ H
  clear H
  go_enter Tryz.func32, Tryz.ntmps32
  go_wp2_with (first | ((with_reducible refine gate_callee (f := 20) rfl ?_); refine goesL_ (some 12) rfl rfl Tryz.func20 kr_ rfl #[.int .i64 a0] rfl q2_ ?_; (with_reducible refine (impl_SizesOf.calls a0 t455 true _ A3.out).mono ?_); rintro e w5 ⟨v457, rfl, ho0, hb⟩; refine ⟨_, rfl, ?_⟩; have HO458 := A_ (Kd.R_lower ho0 (below_size q0_)); replace HB := A_ (below_step q0_ hb); clear hb ho0; obtain ⟨Ao6, co6, eo6⟩ := Kd.R_slice HO458.out; subst eo6))
  go_loopg [7, 19] k (fun kq v7 v19 w' => ∃ (x7_1 : Int) (x19_1 : Int), v7 = .int .i64 x7_1 ∧ v19 = .int .i64 x19_1 ∧ Aside0 (impl_CountOfSize.l0 kq a1 x7_1 t455 (t455.length : Int) x19_1 = some r) ∧ Aside0 (kq ≤ k) ∧ Aside0 (Kd.R (Kd.int .i64) 3 w' w.heap.size (fun _ => True) (.slice Ao6 t455.length co6) t455) ∧ Aside0 (Below w.heap.size w w'))
  case atStart => exact ⟨(0), (0), q1_, q1_, H', ⟨Nat.le_refl _⟩, ⟨M.Lr HO458⟩, ⟨q0_⟩⟩
  case round =>
   clear H'; obtain ⟨x7_1, x19_1, rfl, rfl, HA, HK1, HO_17, HB⟩ := hrel
   cases gk with
   | zero => exact absurd HA.out (by simp [impl_CountOfSize.l0])
   | succ k1 =>
    have H := HA.out
    clear HA
    simp only [impl_CountOfSize.l0] at H
    by_cases c7 : x19_1 < (t455.length : Int)
    ·rw [if_pos c7] at H
     have c7b0 : decide (x19_1 < (t455.length : Int)) = true := decide_eq_true c7
     clear c7
     by_cases c8 : 0 ≤ x19_1
     ·rw [if_pos c8] at H
      have c8b0 : decide (0 ≤ x19_1) = true := decide_eq_true c8
      clear c8
      by_cases c9 : x19_1 < (t455.length : Int)
      ·rw [if_pos c9] at H
       have c9b0 : decide (x19_1 < (t455.length : Int)) = true := decide_eq_true c9
       clear c9
       by_cases c10 : (rd t455 x19_1) = a1
       ·rw [if_pos c10] at H
        have c10b0 : ((rd t455 x19_1) == a1) = true := beq_iff_eq.mpr c10
        have c10b1 : ((rd t455 x19_1) != a1) = false := bne_eq_false_iff_eq.mpr c10
        clear c10
        have H' := A_ H
        clear H
        have p459 : 0 ≤ (x19_1 : Int) := of_decide_eq_true q8_
        have q459 : x19_1 < (t455.length : Int) := of_decide_eq_true q8_
        obtain ⟨ad459, e459, hx459_0⟩ := Kd.at_int (Kd.R_reads' HO_17.out).2.2 x19_1 p459 q459
        cases e459
        replace p459 := eq_true p459
        replace q459 := eq_true q459
        go_wp2
        go_roundg k1
        case measure => have := HK1.out; omega
        case rel => exact ⟨(wrap64 (x7_1 + 1)), (wrap64 (x19_1 + 1)), q1_, q1_, H', ⟨by have := HK1.out; omega⟩, ⟨M.Lr HO_17⟩, ⟨q0_⟩⟩
       ·rw [if_neg c10] at H
        have c10b0 : ((rd t455 x19_1) == a1) = false := beq_eq_false_iff_ne.mpr c10
        have c10b1 : ((rd t455 x19_1) != a1) = true := bne_iff_ne.mpr c10
        have H' := A_ H
        clear H
        have p459 : 0 ≤ (x19_1 : Int) := of_decide_eq_true q8_
        have q459 : x19_1 < (t455.length : Int) := of_decide_eq_true q8_
        obtain ⟨ad459, e459, hx459_0⟩ := Kd.at_int (Kd.R_reads' HO_17.out).2.2 x19_1 p459 q459
        cases e459
        replace p459 := eq_true p459
        replace q459 := eq_true q459
        go_wp2
        go_roundg k1
        case measure => have := HK1.out; omega
        case rel => exact ⟨(x7_1), (wrap64 (x19_1 + 1)), q1_, q1_, H', ⟨by have := HK1.out; omega⟩, ⟨M.Lr HO_17⟩, ⟨q0_⟩⟩
      ·rw [if_neg c9] at H
       exact absurd H (by simp)
     ·rw [if_neg c8] at H
      exact absurd H (by simp)
    ·rw [if_neg c7] at H
     have c7b0 : decide (x19_1 < (t455.length : Int)) = false := decide_eq_false c7
     clear c7
     obtain rfl := Option.some.inj H
     go_wp2
     go_ret
     exact ⟨q6_, q0_⟩
 ·replace c4 := Bool.eq_false_iff.mpr c4
  subst c4
  have H1 : (some (-1)) = some r := by rw [if_neg (show ¬ (false = true) by decide)] at H; exact H
  clear H; have H := H1; clear H1
  obtain rfl := Option.some.inj H
  go_enter Tryz.func32, Tryz.ntmps32
  go_wp2_with (first | ((with_reducible refine gate_callee (f := 20) rfl ?_); refine goesL_ (some 12) rfl rfl Tryz.func20 kr_ rfl #[.int .i64 a0] rfl q2_ ?_; (with_reducible refine (impl_SizesOf.calls a0 t455 false _ A3.out).mono ?_); rintro e w11 ⟨v457, rfl, ho0, hb⟩; refine ⟨_, rfl, ?_⟩; have HO458 := A_ (Kd.R_lower ho0 (below_size q0_)); replace HB := A_ (below_step q0_ hb); clear hb ho0))
  go_ret
  exact ⟨q6_, q0_⟩
def spec_CountOfSize.l0 : Nat → Int → List Int → Int → Int → Option (Int)
 | 0, _, _, _, _ => none
 | k + 1, x1, x5, x7, x8 => if x8 < (x5.length : Int) then (if 0 ≤ x8 then (if (rd x5 x8) = x1 then (spec_CountOfSize.l0 k x1 x5 (wrap64 (x7 + 1)) (wrap64 (x8 + 1))) else (spec_CountOfSize.l0 k x1 x5 x7 (wrap64 (x8 + 1)))) else (none)) else (some x7)
def spec_CountOfSize.f (k : Nat) (a0 : Int) (a1 : Int) : Option (Int) := (spec_SizesOf.f a0).bind fun bt460 => (if bt460.2 = true then (spec_CountOfSize.l0 k a1 bt460.1 0 0) else (some (-1)))
theorem spec_CountOfSize.calls (k : Nat) (a0 : Int) (a1 : Int) (r : Int) (w : World) (h : spec_CountOfSize.f k a0 a1 = some r) :
  Calls Tryz.prog 33 #[.int .i64 a0, .int .i64 a1] w fun e w' => e = .returned (.int .i64 r) ∧ Below w.heap.size w w' := by
 have HB := A_ (Below.refl w.heap.size w)
 have H : ((spec_SizesOf.f a0).bind fun bt460 => (if bt460.2 = true then (spec_CountOfSize.l0 k a1 bt460.1 0 0) else (some (-1)))) = some r := h
 clear h; replace H := Option.bind_eq_some_iff.mp H; obtain ⟨⟨t460, t461⟩, A30, H⟩ := H
 replace H : (if t461 = true then (spec_CountOfSize.l0 k a1 t460 0 0) else (some (-1))) = some r := H
 have A3 := A_ A30; clear A30
 by_cases c4 : t461 = true
 ·subst c4
  have H1 : (spec_CountOfSize.l0 k a1 t460 0 0) = some r := by rw [if_pos rfl] at H; exact H
  clear H; have H := H1; clear H1
  have H' := A_ H
  clear H
  go_enter Tryz.func33, Tryz.ntmps33
  go_wp2_with (first | ((with_reducible refine gate_callee (f := 21) rfl ?_); refine goesL_ (some 11) rfl rfl Tryz.func21 kr_ rfl #[.int .i64 a0] rfl q2_ ?_; (with_reducible refine (spec_SizesOf.calls a0 t460 true _ A3.out).mono ?_); rintro e w5 ⟨v462, rfl, ho0, hb⟩; refine ⟨_, rfl, ?_⟩; have HO463 := A_ (Kd.R_lower ho0 (below_size q0_)); replace HB := A_ (below_step q0_ hb); clear hb ho0))
  go_loopg [7, 8] k (fun kq v7 v8 w' => ∃ (x7_1 : Int) (x8_1 : Int), v7 = .int .i64 x7_1 ∧ v8 = .int .i64 x8_1 ∧ Aside0 (spec_CountOfSize.l0 kq a1 t460 x7_1 x8_1 = some r) ∧ Aside0 (kq ≤ k) ∧ Aside0 (Kd.R (Kd.int .i64) 3 w' w.heap.size (fun _ => True) v462 t460) ∧ Aside0 (Below w.heap.size w w'))
  case atStart => exact ⟨(0), (0), q1_, q1_, H', ⟨Nat.le_refl _⟩, ⟨M.Lr HO463⟩, ⟨q0_⟩⟩
  case round =>
   clear H'; obtain ⟨x7_1, x8_1, rfl, rfl, HA, HK1, HO_5, HB⟩ := hrel
   cases gk with
   | zero => exact absurd HA.out (by simp [spec_CountOfSize.l0])
   | succ k1 =>
    have H := HA.out
    clear HA
    simp only [spec_CountOfSize.l0] at H
    by_cases c6 : x8_1 < (t460.length : Int)
    ·rw [if_pos c6] at H
     have c6b0 : decide (x8_1 < (t460.length : Int)) = true := decide_eq_true c6
     clear c6
     by_cases c7 : 0 ≤ x8_1
     ·rw [if_pos c7] at H
      have c7b0 : decide (0 ≤ x8_1) = true := decide_eq_true c7
      clear c7
      by_cases c8 : (rd t460 x8_1) = a1
      ·rw [if_pos c8] at H
       have c8b0 : ((rd t460 x8_1) == a1) = true := beq_iff_eq.mpr c8
       have c8b1 : ((rd t460 x8_1) != a1) = false := bne_eq_false_iff_eq.mpr c8
       clear c8
       have H' := A_ H
       clear H
       obtain ⟨Ao9, co9, eo9⟩ := Kd.R_slice HO_5.out
       subst eo9
       have p464 : 0 ≤ (x8_1 : Int) := of_decide_eq_true q8_
       have q464 : x8_1 < (t460.length : Int) := of_decide_eq_true q8_
       obtain ⟨ad464, e464, hx464_0⟩ := Kd.at_int (Kd.R_reads' HO_5.out).2.2 x8_1 p464 q464
       cases e464
       replace p464 := eq_true p464
       replace q464 := eq_true q464
       go_wp2
       go_roundg k1
       case measure => have := HK1.out; omega
       case rel => exact ⟨(wrap64 (x7_1 + 1)), (wrap64 (x8_1 + 1)), q1_, q1_, H', ⟨by have := HK1.out; omega⟩, ⟨M.Lr HO_5⟩, ⟨q0_⟩⟩
      ·rw [if_neg c8] at H
       have c8b0 : ((rd t460 x8_1) == a1) = false := beq_eq_false_iff_ne.mpr c8
       have c8b1 : ((rd t460 x8_1) != a1) = true := bne_iff_ne.mpr c8
       have H' := A_ H
       clear H
       obtain ⟨Ao10, co10, eo10⟩ := Kd.R_slice HO_5.out
       subst eo10
       have p464 : 0 ≤ (x8_1 : Int) := of_decide_eq_true q8_
       have q464 : x8_1 < (t460.length : Int) := of_decide_eq_true q8_
       obtain ⟨ad464, e464, hx464_0⟩ := Kd.at_int (Kd.R_reads' HO_5.out).2.2 x8_1 p464 q464
       cases e464
       replace p464 := eq_true p464
       replace q464 := eq_true q464
       go_wp2
       go_roundg k1
       case measure => have := HK1.out; omega
       case rel => exact ⟨(x7_1), (wrap64 (x8_1 + 1)), q1_, q1_, H', ⟨by have := HK1.out; omega⟩, ⟨M.Lr HO_5⟩, ⟨q0_⟩⟩
     ·rw [if_neg c7] at H
      exact absurd H (by simp)
    ·rw [if_neg c6] at H
     have c6b0 : decide (x8_1 < (t460.length : Int)) = false := decide_eq_false c6
     clear c6
     obtain rfl := Option.some.inj H
     obtain ⟨Ao11, co11, eo11⟩ := Kd.R_slice HO_5.out
     subst eo11
     go_wp2
     go_ret
     exact ⟨q6_, q0_⟩
 ·replace c4 := Bool.eq_false_iff.mpr c4
  subst c4
  have H1 : (some (-1)) = some r := by rw [if_neg (show ¬ (false = true) by decide)] at H; exact H
  clear H; have H := H1; clear H1
  obtain rfl := Option.some.inj H
  go_enter Tryz.func33, Tryz.ntmps33
  go_wp2_with (first | ((with_reducible refine gate_callee (f := 21) rfl ?_); refine goesL_ (some 11) rfl rfl Tryz.func21 kr_ rfl #[.int .i64 a0] rfl q2_ ?_; (with_reducible refine (spec_SizesOf.calls a0 t460 false _ A3.out).mono ?_); rintro e w12 ⟨v462, rfl, ho0, hb⟩; refine ⟨_, rfl, ?_⟩; have HO463 := A_ (Kd.R_lower ho0 (below_size q0_)); replace HB := A_ (below_step q0_ hb); clear hb ho0))
  go_ret
  exact ⟨q6_, q0_⟩
def impl_EdgesBetween.f (k : Nat) (a0 : Int) (a1 : Int) (a2 : Int) : Option (Int) := (impl_areSets.f a0 a1 a2).bind fun t465 => (if t465 = true then ((impl_edges.f k a0 a1 a2).bind fun t466 => (some t466)) else (some (-1)))
theorem impl_EdgesBetween.calls (k : Nat) (a0 : Int) (a1 : Int) (a2 : Int) (r : Int) (w : World) (h : impl_EdgesBetween.f k a0 a1 a2 = some r) :
  Calls Tryz.prog 34 #[.int .i64 a0, .int .i64 a1, .int .i64 a2] w fun e w' => e = .returned (.int .i64 r) ∧ Drawn0 w w' := by
 have H : ((impl_areSets.f a0 a1 a2).bind fun t465 => (if t465 = true then ((impl_edges.f k a0 a1 a2).bind fun t466 => (some t466)) else (some (-1)))) = some r := h
 clear h; replace H := Option.bind_eq_some_iff.mp H; obtain ⟨t465, A40, H⟩ := H; (try dsimp only at H); have A4 := A_ A40; clear A40
 by_cases c5 : t465 = true
 ·subst c5
  have H1 : ((impl_edges.f k a0 a1 a2).bind fun t466 => (some t466)) = some r := by rw [if_pos rfl] at H; exact H
  clear H; have H := H1; clear H1; replace H := Option.bind_eq_some_iff.mp H; obtain ⟨t466, A60, H⟩ := H
  replace H : (some t466) = some r := H
  have A6 := A_ A60; clear A60
  obtain rfl := Option.some.inj H
  go_enter Tryz.func34, Tryz.ntmps34
  go_wp2_with (first | ((with_reducible refine gate_callee (f := 57) rfl ?_); refine goesL_ (some 10) rfl rfl Tryz.func57 kr_ rfl #[.int .i64 a0, .int .i64 a1, .int .i64 a2] rfl q2_ ?_; (with_reducible refine (impl_areSets.calls a0 a1 a2 true _ A4.out).mono ?_); rintro e w' ⟨rfl, ⟨nd, rfl⟩⟩; refine ⟨_, rfl, ?_⟩) | ((with_reducible refine gate_callee (f := 64) rfl ?_); refine goesL_ (some 15) rfl rfl Tryz.func64 kr_ rfl #[.int .i64 a0, .int .i64 a1, .int .i64 a2] rfl q2_ ?_; (with_reducible refine (impl_edges.calls k a0 a1 a2 t466 _ A6.out).mono ?_); rintro e w' ⟨rfl, ⟨nd, rfl⟩⟩; refine ⟨_, rfl, ?_⟩))
  go_ret
  exact ⟨q1_, q5_⟩
 ·replace c5 := Bool.eq_false_iff.mpr c5
  subst c5
  have H1 : (some (-1)) = some r := by rw [if_neg (show ¬ (false = true) by decide)] at H; exact H
  clear H; have H := H1; clear H1
  obtain rfl := Option.some.inj H
  go_enter Tryz.func34, Tryz.ntmps34
  go_wp2_with (first | ((with_reducible refine gate_callee (f := 57) rfl ?_); refine goesL_ (some 10) rfl rfl Tryz.func57 kr_ rfl #[.int .i64 a0, .int .i64 a1, .int .i64 a2] rfl q2_ ?_; (with_reducible refine (impl_areSets.calls a0 a1 a2 false _ A4.out).mono ?_); rintro e w' ⟨rfl, ⟨nd, rfl⟩⟩; refine ⟨_, rfl, ?_⟩))
  go_ret
  exact ⟨q1_, q5_⟩
def spec_EdgesBetween.f (k : Nat) (a0 : Int) (a1 : Int) (a2 : Int) : Option (Int) := (spec_l23Fine.f a0 a1 a2).bind fun t467 => (if t467 = true then ((spec_l23Edges.f k a0 a1 a2).bind fun t468 => (some t468)) else (some (-1)))
theorem spec_EdgesBetween.calls (k : Nat) (a0 : Int) (a1 : Int) (a2 : Int) (r : Int) (w : World) (h : spec_EdgesBetween.f k a0 a1 a2 = some r) :
  Calls Tryz.prog 35 #[.int .i64 a0, .int .i64 a1, .int .i64 a2] w fun e w' => e = .returned (.int .i64 r) ∧ Drawn0 w w' := by
 have H : ((spec_l23Fine.f a0 a1 a2).bind fun t467 => (if t467 = true then ((spec_l23Edges.f k a0 a1 a2).bind fun t468 => (some t468)) else (some (-1)))) = some r := h
 clear h; replace H := Option.bind_eq_some_iff.mp H; obtain ⟨t467, A40, H⟩ := H; (try dsimp only at H); have A4 := A_ A40; clear A40
 by_cases c5 : t467 = true
 ·subst c5
  have H1 : ((spec_l23Edges.f k a0 a1 a2).bind fun t468 => (some t468)) = some r := by rw [if_pos rfl] at H; exact H
  clear H; have H := H1; clear H1; replace H := Option.bind_eq_some_iff.mp H; obtain ⟨t468, A60, H⟩ := H
  replace H : (some t468) = some r := H
  have A6 := A_ A60; clear A60
  obtain rfl := Option.some.inj H
  go_enter Tryz.func35, Tryz.ntmps35
  go_wp2_with (first | ((with_reducible refine gate_callee (f := 65) rfl ?_); refine goesL_ (some 10) rfl rfl Tryz.func65 kr_ rfl #[.int .i64 a0, .int .i64 a1, .int .i64 a2] rfl q2_ ?_; (with_reducible refine (spec_l23Fine.calls a0 a1 a2 true _ A4.out).mono ?_); rintro e w' ⟨rfl, ⟨nd, rfl⟩⟩; refine ⟨_, rfl, ?_⟩) | ((with_reducible refine gate_callee (f := 66) rfl ?_); refine goesL_ (some 15) rfl rfl Tryz.func66 kr_ rfl #[.int .i64 a0, .int .i64 a1, .int .i64 a2] rfl q2_ ?_; (with_reducible refine (spec_l23Edges.calls k a0 a1 a2 t468 _ A6.out).mono ?_); rintro e w' ⟨rfl, ⟨nd, rfl⟩⟩; refine ⟨_, rfl, ?_⟩))
  go_ret
  exact ⟨q1_, q5_⟩
 ·replace c5 := Bool.eq_false_iff.mpr c5
  subst c5
  have H1 : (some (-1)) = some r := by rw [if_neg (show ¬ (false = true) by decide)] at H; exact H
  clear H; have H := H1; clear H1
  obtain rfl := Option.some.inj H
  go_enter Tryz.func35, Tryz.ntmps35
  go_wp2_with (first | ((with_reducible refine gate_callee (f := 65) rfl ?_); refine goesL_ (some 10) rfl rfl Tryz.func65 kr_ rfl #[.int .i64 a0, .int .i64 a1, .int .i64 a2] rfl q2_ ?_; (with_reducible refine (spec_l23Fine.calls a0 a1 a2 false _ A4.out).mono ?_); rintro e w' ⟨rfl, ⟨nd, rfl⟩⟩; refine ⟨_, rfl, ?_⟩))
  go_ret
  exact ⟨q1_, q5_⟩
def spec_TableBound.j0 : Nat → Bool → Int → Int → Option (Int)
 | 0, _, _, _ => none
 | k + 1, x10, x470000, x470001 => if x10 = true then (some (-1)) else ((spec_l2Full.f x470000).bind fun t471 => ((spec_PairBound.f k x470000 x470001 (wrap64 (t471 - x470001))).bind fun t472 => (some t472)))
def spec_TableBound.f (k : Nat) (a0_0 : Int) (a0_1 : Int) : Option (Int) := (spec_IsTable.f a0_0 a0_1).bind fun t470 => (if t470 = true then (spec_TableBound.j0 k (decide (a0_0 > 4)) a0_0 a0_1) else (spec_TableBound.j0 k true a0_0 a0_1))
theorem spec_TableBound.calls (k : Nat) (a0_0 : Int) (a0_1 : Int) (r : Int) (w : World) (h : spec_TableBound.f k a0_0 a0_1 = some r) :
  Calls Tryz.prog 37 #[.agg #[.int .i64 a0_0, .int .i64 a0_1]] w fun e w' => e = .returned (.int .i64 r) ∧ Below w.heap.size w w' := by
 have hu25 := Tryz.underlying25
 have HB := A_ (Below.refl w.heap.size w)
 have H : ((spec_IsTable.f a0_0 a0_1).bind fun t470 => (if t470 = true then (spec_TableBound.j0 k (decide (a0_0 > 4)) a0_0 a0_1) else (spec_TableBound.j0 k true a0_0 a0_1))) = some r := h
 clear h; have HC2 := A_ H; clear H
 go_enter Tryz.func37, Tryz.ntmps37
 go_upto_region 1 with (first | ((with_reducible refine gate_dst (N := 1) rfl ?_); refine box_event ?hg (N := 1) ?hd (cs := #[.int .i64 a0_0, .int .i64 a0_1]) (t := 25) ?hr ?_; (case hd => rfl); (case hg => rfl); (case hr => first | (go_simp; done) | (go_simp; rfl)); intro gb469 hg w3 hbox hb; have BK469 := A_ (hbox); have GW469 := A_ ((by rw [hg]; exact (below_size q0_) : w.heap.size ≤ gb469)); have GE469 := A_ ((by rw [hg]; exact (below_size q0_) : w.heap.size ≤ gb469)); replace HB := A_ (below_step q0_ hb); clear hb hbox hg))
 repeat (go_quiet (fail); go_upto_region 1 with (fail))
 (try simp only [Act.put, List.setIfInBounds_toArray, List.set_cons_zero, List.set_cons_succ])
 go_cut [10] (fun v10 wc => ∃ (kq : Nat) (x10_1 : Bool), v10 = .bool x10_1 ∧ Aside0 (spec_TableBound.j0 kq x10_1 a0_0 a0_1 = some r) ∧ Aside0 (kq ≤ k) ∧ Aside0 (wc.heap[gb469]? = some (.cells #[.int .i64 a0_0, .int .i64 a0_1] 25 (0, 0))) ∧ Aside0 (Below w.heap.size w wc))
 case first =>
  have H := HC2.out
  clear HC2; replace H := Option.bind_eq_some_iff.mp H; obtain ⟨t470, A40, H⟩ := H; (try dsimp only at H); have A4 := A_ A40; clear A40
  by_cases c5 : t470 = true
  ·subst c5
   have H1 : (spec_TableBound.j0 k (decide (a0_0 > 4)) a0_0 a0_1) = some r := by rw [if_pos rfl] at H; exact H
   clear H; have H := H1; clear H1
   have H' := A_ H
   clear H
   have hcz6_0 := c20_ BK469
   have hcz6_1 := c21_ BK469
   have hfz6_0 := blk_frozen BK469.out 0
   have hfz6_1 := blk_frozen BK469.out 1
   go_wp2_with (first | (go_at_call 44; (with_reducible refine (spec_IsTable.calls a0_0 a0_1 true _ A4.out).mono ?_); rintro e w7 ⟨rfl, hb⟩; replace BK469 := A_ (blk_below (M.Lb BK469) hb); replace HB := A_ (below_step q0_ hb); clear hb; have hcz8_0 := c20_ BK469; have hcz8_1 := c21_ BK469; have hfz8_0 := blk_frozen BK469.out 0; have hfz8_1 := blk_frozen BK469.out 1))
   repeat (go_quiet (fail); try go_wp2_with (fail))
   go_meet
   case rel => exact ⟨_, (decide (a0_0 > 4)), q1_, H', ⟨q12_⟩, ⟨M.Lb BK469⟩, ⟨q0_⟩⟩
  ·replace c5 := Bool.eq_false_iff.mpr c5
   subst c5
   have H1 : (spec_TableBound.j0 k true a0_0 a0_1) = some r := by rw [if_neg (show ¬ (false = true) by decide)] at H; exact H
   clear H; have H := H1; clear H1
   have H' := A_ H
   clear H
   have hcz9_0 := c20_ BK469
   have hcz9_1 := c21_ BK469
   have hfz9_0 := blk_frozen BK469.out 0
   have hfz9_1 := blk_frozen BK469.out 1
   go_wp2_with (first | (go_at_call 44; (with_reducible refine (spec_IsTable.calls a0_0 a0_1 false _ A4.out).mono ?_); rintro e w10 ⟨rfl, hb⟩; replace BK469 := A_ (blk_below (M.Lb BK469) hb); replace HB := A_ (below_step q0_ hb); clear hb))
   repeat (go_quiet (fail); try go_wp2_with (fail))
   go_meet
   case rel => exact ⟨_, (true), q1_, H', ⟨q12_⟩, ⟨M.Lb BK469⟩, ⟨q0_⟩⟩
 case rest =>
  clear HC2; obtain ⟨kq, x10_1, rfl, HA, HJ1, BK469, HB⟩ := hcut
  cases kq with
  | zero => exact absurd HA.out (by simp [spec_TableBound.j0])
  | succ kj1 =>
   have H := HA.out
   clear HA
   simp only [spec_TableBound.j0] at H
   by_cases c11 : x10_1 = true
   ·subst c11
    have H1 : (some (-1)) = some r := by rw [if_pos rfl] at H; exact H
    clear H; have H := H1; clear H1
    obtain rfl := Option.some.inj H
    go_wp2
    repeat (go_quiet (fail); try go_wp2)
    go_ret
    exact ⟨q6_, q0_⟩
   ·replace c11 := Bool.eq_false_iff.mpr c11
    subst c11
    have H1 : ((spec_l2Full.f a0_0).bind fun t471 => ((spec_PairBound.f kj1 a0_0 a0_1 (wrap64 (t471 - a0_1))).bind fun t472 => (some t472))) = some r := by rw [if_neg (show ¬ (false = true) by decide)] at H; exact H
    clear H; have H := H1; clear H1; replace H := Option.bind_eq_some_iff.mp H; obtain ⟨t471, A120, H⟩ := H
    replace H : ((spec_PairBound.f kj1 a0_0 a0_1 (wrap64 (t471 - a0_1))).bind fun t472 => (some t472)) = some r := H
    have A12 := A_ A120; clear A120; replace H := Option.bind_eq_some_iff.mp H; obtain ⟨t472, A130, H⟩ := H
    replace H : (some t472) = some r := H
    have A13 := A_ A130; clear A130
    obtain rfl := Option.some.inj H
    have hcz14_0 := c20_ BK469
    have hcz14_1 := c21_ BK469
    have hfz14_0 := blk_frozen BK469.out 0
    have hfz14_1 := blk_frozen BK469.out 1
    go_wp2_with (fail)
    repeat (go_quiet (first | (go_at_call 52; (with_reducible refine (spec_l2Full.calls a0_0 t471 _ A12.out).mono ?_); rintro e w' ⟨rfl, ⟨nd, rfl⟩⟩; (try exact q10_)) | (go_at_call 36; (with_reducible refine (spec_PairBound.calls kj1 a0_0 a0_1 (wrap64 (t471 - a0_1)) t472 _ A13.out).mono ?_); rintro e w' ⟨rfl, ⟨nd, rfl⟩⟩; (try exact q10_))); try go_wp2_with (fail))
    go_ret
    exact ⟨q6_, q0_⟩
def spec_IsSeparated.f (a0_0 : Int) (a0_1 : Int) (a1 : Int) (a2 : Int) : Option (Bool) := (spec_IsTable.f a0_0 a0_1).bind fun t474 => (if t474 = true then ((spec_l2Full.f a0_0).bind fun t475 => ((spec_l1In.f a1 0 t475).bind fun t476 => (if t476 = true then ((spec_l2Full.f a0_0).bind fun t477 => ((spec_l1In.f a2 0 t477).bind fun t478 => (if t478 = true then (if (Go.bits .and .i64 a1 a0_1) = a1 then (some ((Go.bits .and .i64 a2 a0_1) == 0)) else (some false)) else (some false)))) else (some false)))) else (some false))
theorem spec_IsSeparated.calls (a0_0 : Int) (a0_1 : Int) (a1 : Int) (a2 : Int) (r : Bool) (w : World) (h : spec_IsSeparated.f a0_0 a0_1 a1 a2 = some r) :
  Calls Tryz.prog 38 #[.agg #[.int .i64 a0_0, .int .i64 a0_1], .int .i64 a1, .int .i64 a2] w fun e w' => e = .returned (.bool r) ∧ Below w.heap.size w w' := by
 have hu25 := Tryz.underlying25
 have HB := A_ (Below.refl w.heap.size w)
 have H : ((spec_IsTable.f a0_0 a0_1).bind fun t474 => (if t474 = true then ((spec_l2Full.f a0_0).bind fun t475 => ((spec_l1In.f a1 0 t475).bind fun t476 => (if t476 = true then ((spec_l2Full.f a0_0).bind fun t477 => ((spec_l1In.f a2 0 t477).bind fun t478 => (if t478 = true then (if (Go.bits .and .i64 a1 a0_1) = a1 then (some ((Go.bits .and .i64 a2 a0_1) == 0)) else (some false)) else (some false)))) else (some false)))) else (some false))) = some r := h
 clear h; replace H := Option.bind_eq_some_iff.mp H; obtain ⟨t474, A40, H⟩ := H; (try dsimp only at H); have A4 := A_ A40; clear A40
 by_cases c5 : t474 = true
 ·subst c5
  have H1 : ((spec_l2Full.f a0_0).bind fun t475 => ((spec_l1In.f a1 0 t475).bind fun t476 => (if t476 = true then ((spec_l2Full.f a0_0).bind fun t477 => ((spec_l1In.f a2 0 t477).bind fun t478 => (if t478 = true then (if (Go.bits .and .i64 a1 a0_1) = a1 then (some ((Go.bits .and .i64 a2 a0_1) == 0)) else (some false)) else (some false)))) else (some false)))) = some r := by rw [if_pos rfl] at H; exact H
  clear H; have H := H1; clear H1; replace H := Option.bind_eq_some_iff.mp H; obtain ⟨t475, A60, H⟩ := H; (try dsimp only at H); have A6 := A_ A60; clear A60; replace H := Option.bind_eq_some_iff.mp H; obtain ⟨t476, A70, H⟩ := H; (try dsimp only at H); have A7 := A_ A70; clear A70
  by_cases c8 : t476 = true
  ·subst c8
   have H1 : ((spec_l2Full.f a0_0).bind fun t477 => ((spec_l1In.f a2 0 t477).bind fun t478 => (if t478 = true then (if (Go.bits .and .i64 a1 a0_1) = a1 then (some ((Go.bits .and .i64 a2 a0_1) == 0)) else (some false)) else (some false)))) = some r := by rw [if_pos rfl] at H; exact H
   clear H; have H := H1; clear H1; replace H := Option.bind_eq_some_iff.mp H; obtain ⟨t477, A90, H⟩ := H
   have A9q : t475 = t477 := Option.some.inj (A6.out.symm.trans A90)
   subst A9q; clear A90; (try dsimp only at H); replace H := Option.bind_eq_some_iff.mp H; obtain ⟨t478, A100, H⟩ := H; (try dsimp only at H); have A10 := A_ A100; clear A100
   by_cases c11 : t478 = true
   ·subst c11
    have H1 : (if (Go.bits .and .i64 a1 a0_1) = a1 then (some ((Go.bits .and .i64 a2 a0_1) == 0)) else (some false)) = some r := by rw [if_pos rfl] at H; exact H
    clear H; have H := H1; clear H1
    by_cases c12 : (Go.bits .and .i64 a1 a0_1) = a1
    ·rw [if_pos c12] at H
     have c12b0 : ((Go.bits .and .i64 a1 a0_1) == a1) = true := beq_iff_eq.mpr c12
     have c12b1 : ((Go.bits .and .i64 a1 a0_1) != a1) = false := bne_eq_false_iff_eq.mpr c12
     clear c12
     obtain rfl := Option.some.inj H
     go_enter Tryz.func38, Tryz.ntmps38
     go_wp2_with (first | ((with_reducible refine gate_dst (N := 3) rfl ?_); refine box_event ?hg (N := 3) ?hd (cs := #[.int .i64 a0_0, .int .i64 a0_1]) (t := 25) ?hr ?_; (case hd => rfl); (case hg => rfl); (case hr => first | (go_simp; done) | (go_simp; rfl)); intro gb473 hg w13 hbox hb; have BK473 := A_ (hbox); have GW473 := A_ ((by rw [hg]; exact (below_size q0_) : w.heap.size ≤ gb473)); have GE473 := A_ ((by rw [hg]; exact (below_size q0_) : w.heap.size ≤ gb473)); replace HB := A_ (below_step q0_ hb); clear hb hbox hg; have hcz14_0 := c20_ BK473; have hcz14_1 := c21_ BK473; have hfz14_0 := blk_frozen BK473.out 0; have hfz14_1 := blk_frozen BK473.out 1) | ((with_reducible refine gate_callee (f := 44) rfl ?_); refine goesL_ (some 8) rfl rfl Tryz.func44 kr_ rfl #[.agg #[.int .i64 a0_0, .int .i64 a0_1]] rfl q2_ ?_; (with_reducible refine (spec_IsTable.calls a0_0 a0_1 true _ A4.out).mono ?_); rintro e w15 ⟨rfl, hb⟩; refine ⟨_, rfl, ?_⟩; replace BK473 := A_ (blk_below (M.Lb BK473) hb); replace HB := A_ (below_step q0_ hb); clear hb; have hcz16_0 := c20_ BK473; have hcz16_1 := c21_ BK473; have hfz16_0 := blk_frozen BK473.out 0; have hfz16_1 := blk_frozen BK473.out 1) | (go_at_call 52; (with_reducible refine (spec_l2Full.calls a0_0 t475 _ A6.out).mono ?_); rintro e w' ⟨rfl, ⟨nd, rfl⟩⟩) | (go_at_call 59; (with_reducible refine (spec_l1In.calls a1 0 t475 true _ A7.out).mono ?_); rintro e w' ⟨rfl, ⟨nd, rfl⟩⟩) | (go_at_call 59; (with_reducible refine (spec_l1In.calls a2 0 t475 true _ A10.out).mono ?_); rintro e w' ⟨rfl, ⟨nd, rfl⟩⟩))
     go_ret
     exact ⟨q6_, q0_⟩
    ·rw [if_neg c12] at H
     have c12b0 : ((Go.bits .and .i64 a1 a0_1) == a1) = false := beq_eq_false_iff_ne.mpr c12
     have c12b1 : ((Go.bits .and .i64 a1 a0_1) != a1) = true := bne_iff_ne.mpr c12
     obtain rfl := Option.some.inj H
     go_enter Tryz.func38, Tryz.ntmps38
     go_wp2_with (first | ((with_reducible refine gate_dst (N := 3) rfl ?_); refine box_event ?hg (N := 3) ?hd (cs := #[.int .i64 a0_0, .int .i64 a0_1]) (t := 25) ?hr ?_; (case hd => rfl); (case hg => rfl); (case hr => first | (go_simp; done) | (go_simp; rfl)); intro gb473 hg w17 hbox hb; have BK473 := A_ (hbox); have GW473 := A_ ((by rw [hg]; exact (below_size q0_) : w.heap.size ≤ gb473)); have GE473 := A_ ((by rw [hg]; exact (below_size q0_) : w.heap.size ≤ gb473)); replace HB := A_ (below_step q0_ hb); clear hb hbox hg; have hcz18_0 := c20_ BK473; have hcz18_1 := c21_ BK473; have hfz18_0 := blk_frozen BK473.out 0; have hfz18_1 := blk_frozen BK473.out 1) | ((with_reducible refine gate_callee (f := 44) rfl ?_); refine goesL_ (some 8) rfl rfl Tryz.func44 kr_ rfl #[.agg #[.int .i64 a0_0, .int .i64 a0_1]] rfl q2_ ?_; (with_reducible refine (spec_IsTable.calls a0_0 a0_1 true _ A4.out).mono ?_); rintro e w19 ⟨rfl, hb⟩; refine ⟨_, rfl, ?_⟩; replace BK473 := A_ (blk_below (M.Lb BK473) hb); replace HB := A_ (below_step q0_ hb); clear hb; have hcz20_0 := c20_ BK473; have hcz20_1 := c21_ BK473; have hfz20_0 := blk_frozen BK473.out 0; have hfz20_1 := blk_frozen BK473.out 1) | (go_at_call 52; (with_reducible refine (spec_l2Full.calls a0_0 t475 _ A6.out).mono ?_); rintro e w' ⟨rfl, ⟨nd, rfl⟩⟩) | (go_at_call 59; (with_reducible refine (spec_l1In.calls a1 0 t475 true _ A7.out).mono ?_); rintro e w' ⟨rfl, ⟨nd, rfl⟩⟩) | (go_at_call 59; (with_reducible refine (spec_l1In.calls a2 0 t475 true _ A10.out).mono ?_); rintro e w' ⟨rfl, ⟨nd, rfl⟩⟩))
     go_ret
     exact ⟨q6_, q0_⟩
   ·replace c11 := Bool.eq_false_iff.mpr c11
    subst c11
    have H1 : (some false) = some r := by rw [if_neg (show ¬ (false = true) by decide)] at H; exact H
    clear H; have H := H1; clear H1
    obtain rfl := Option.some.inj H
    go_enter Tryz.func38, Tryz.ntmps38
    go_wp2_with (first | ((with_reducible refine gate_dst (N := 3) rfl ?_); refine box_event ?hg (N := 3) ?hd (cs := #[.int .i64 a0_0, .int .i64 a0_1]) (t := 25) ?hr ?_; (case hd => rfl); (case hg => rfl); (case hr => first | (go_simp; done) | (go_simp; rfl)); intro gb473 hg w21 hbox hb; have BK473 := A_ (hbox); have GW473 := A_ ((by rw [hg]; exact (below_size q0_) : w.heap.size ≤ gb473)); have GE473 := A_ ((by rw [hg]; exact (below_size q0_) : w.heap.size ≤ gb473)); replace HB := A_ (below_step q0_ hb); clear hb hbox hg; have hcz22_0 := c20_ BK473; have hcz22_1 := c21_ BK473; have hfz22_0 := blk_frozen BK473.out 0; have hfz22_1 := blk_frozen BK473.out 1) | ((with_reducible refine gate_callee (f := 44) rfl ?_); refine goesL_ (some 8) rfl rfl Tryz.func44 kr_ rfl #[.agg #[.int .i64 a0_0, .int .i64 a0_1]] rfl q2_ ?_; (with_reducible refine (spec_IsTable.calls a0_0 a0_1 true _ A4.out).mono ?_); rintro e w23 ⟨rfl, hb⟩; refine ⟨_, rfl, ?_⟩; replace BK473 := A_ (blk_below (M.Lb BK473) hb); replace HB := A_ (below_step q0_ hb); clear hb; have hcz24_0 := c20_ BK473; have hcz24_1 := c21_ BK473; have hfz24_0 := blk_frozen BK473.out 0; have hfz24_1 := blk_frozen BK473.out 1) | (go_at_call 52; (with_reducible refine (spec_l2Full.calls a0_0 t475 _ A6.out).mono ?_); rintro e w' ⟨rfl, ⟨nd, rfl⟩⟩) | (go_at_call 59; (with_reducible refine (spec_l1In.calls a1 0 t475 true _ A7.out).mono ?_); rintro e w' ⟨rfl, ⟨nd, rfl⟩⟩) | (go_at_call 59; (with_reducible refine (spec_l1In.calls a2 0 t475 false _ A10.out).mono ?_); rintro e w' ⟨rfl, ⟨nd, rfl⟩⟩))
    go_ret
    exact ⟨q6_, q0_⟩
  ·replace c8 := Bool.eq_false_iff.mpr c8
   subst c8
   have H1 : (some false) = some r := by rw [if_neg (show ¬ (false = true) by decide)] at H; exact H
   clear H; have H := H1; clear H1
   obtain rfl := Option.some.inj H
   go_enter Tryz.func38, Tryz.ntmps38
   go_wp2_with (first | ((with_reducible refine gate_dst (N := 3) rfl ?_); refine box_event ?hg (N := 3) ?hd (cs := #[.int .i64 a0_0, .int .i64 a0_1]) (t := 25) ?hr ?_; (case hd => rfl); (case hg => rfl); (case hr => first | (go_simp; done) | (go_simp; rfl)); intro gb473 hg w25 hbox hb; have BK473 := A_ (hbox); have GW473 := A_ ((by rw [hg]; exact (below_size q0_) : w.heap.size ≤ gb473)); have GE473 := A_ ((by rw [hg]; exact (below_size q0_) : w.heap.size ≤ gb473)); replace HB := A_ (below_step q0_ hb); clear hb hbox hg; have hcz26_0 := c20_ BK473; have hcz26_1 := c21_ BK473; have hfz26_0 := blk_frozen BK473.out 0; have hfz26_1 := blk_frozen BK473.out 1) | ((with_reducible refine gate_callee (f := 44) rfl ?_); refine goesL_ (some 8) rfl rfl Tryz.func44 kr_ rfl #[.agg #[.int .i64 a0_0, .int .i64 a0_1]] rfl q2_ ?_; (with_reducible refine (spec_IsTable.calls a0_0 a0_1 true _ A4.out).mono ?_); rintro e w27 ⟨rfl, hb⟩; refine ⟨_, rfl, ?_⟩; replace BK473 := A_ (blk_below (M.Lb BK473) hb); replace HB := A_ (below_step q0_ hb); clear hb; have hcz28_0 := c20_ BK473; have hcz28_1 := c21_ BK473; have hfz28_0 := blk_frozen BK473.out 0; have hfz28_1 := blk_frozen BK473.out 1) | (go_at_call 52; (with_reducible refine (spec_l2Full.calls a0_0 t475 _ A6.out).mono ?_); rintro e w' ⟨rfl, ⟨nd, rfl⟩⟩) | (go_at_call 59; (with_reducible refine (spec_l1In.calls a1 0 t475 false _ A7.out).mono ?_); rintro e w' ⟨rfl, ⟨nd, rfl⟩⟩))
   go_ret
   exact ⟨q6_, q0_⟩
 ·replace c5 := Bool.eq_false_iff.mpr c5
  subst c5
  have H1 : (some false) = some r := by rw [if_neg (show ¬ (false = true) by decide)] at H; exact H
  clear H; have H := H1; clear H1
  obtain rfl := Option.some.inj H
  go_enter Tryz.func38, Tryz.ntmps38
  go_wp2_with (first | ((with_reducible refine gate_dst (N := 3) rfl ?_); refine box_event ?hg (N := 3) ?hd (cs := #[.int .i64 a0_0, .int .i64 a0_1]) (t := 25) ?hr ?_; (case hd => rfl); (case hg => rfl); (case hr => first | (go_simp; done) | (go_simp; rfl)); intro gb473 hg w29 hbox hb; have BK473 := A_ (hbox); have GW473 := A_ ((by rw [hg]; exact (below_size q0_) : w.heap.size ≤ gb473)); have GE473 := A_ ((by rw [hg]; exact (below_size q0_) : w.heap.size ≤ gb473)); replace HB := A_ (below_step q0_ hb); clear hb hbox hg; have hcz30_0 := c20_ BK473; have hcz30_1 := c21_ BK473; have hfz30_0 := blk_frozen BK473.out 0; have hfz30_1 := blk_frozen BK473.out 1) | ((with_reducible refine gate_callee (f := 44) rfl ?_); refine goesL_ (some 8) rfl rfl Tryz.func44 kr_ rfl #[.agg #[.int .i64 a0_0, .int .i64 a0_1]] rfl q2_ ?_; (with_reducible refine (spec_IsTable.calls a0_0 a0_1 false _ A4.out).mono ?_); rintro e w31 ⟨rfl, hb⟩; refine ⟨_, rfl, ?_⟩; replace BK473 := A_ (blk_below (M.Lb BK473) hb); replace HB := A_ (below_step q0_ hb); clear hb))
  go_ret
  exact ⟨q6_, q0_⟩
end Go.Proofs.YtfoopehlmnejaaaGreatDoor.Print
