/- Several texts of this repo's programs in one: plain lemmas, or functions of the given program as plain Lean functions with proofs that their calls compute them. -/
import Derived.Test.YtonaebjpnmiilaaKLearning12
import Derived.Test.YtonaebjpnmiilaaKLearning3
import Derived.Test.YtonaebjpnmiilaaKLearning14
import Derived.Test.YtonaebjpnmiilaaKLearning2
import Derived.Test.YtonaebjpnmiilaaKLearning23
namespace Go.Proofs.Ytonaebjpnmiilaa.Print
open Go.RowKit Go.Proofs.YtonaebjpnmiilaaW.PrintWords Go.Proofs.YtonaebjpnmiilaaW.PrintLast Go.Proofs.YtonaebjpnmiilaaW.PrintMore
attribute [local go_sem] max2_int min2_int max_two min_two max_three min_three max_four min_four   -- for this text's walks alone
set_option linter.unusedVariables false
set_option linter.unusedSimpArgs false
private theorem sT_ {α : Type _} (l : List α) (i : Nat) (a : α) : l.toArray.setIfInBounds i a = (l.set i a).toArray := List.setIfInBounds_toArray ..
private theorem s0_ {α : Type _} {x y : α} {l : List α} : (x :: l).set 0 y = y :: l := rfl
private theorem s1_ {α : Type _} {x y : α} {l : List α} {n : Nat} : (x :: l).set (n + 1) y = x :: l.set n y := rfl
attribute [local go_sem high] eqA33
/-! ### laws_FnLearning: function 3 -/
mutual
def laws_FnLearning.j0 : Nat → List Int → Int → List (S57) → List Int → Bool → Option (Bool)
 | 0, _, _, _, _, _ => none
 | k + 1, x0, x3, x4, x7, x77 => if x77 = true then (some false) else (laws_FnLearning.l0 k x0 x3 x4 x7 0)
def laws_FnLearning.l0 : Nat → List Int → Int → List (S57) → List Int → Int → Option (Bool)
 | 0, _, _, _, _, _ => none
 | k + 1, x0, x3, x4, x7, x9 => if x9 < (x7.length : Int) then (if 0 ≤ x9 then ((impl_LearnTable.f x3 x4 (rd x7 x9)).bind fun bt451 => (if bt451.2.2 = true then ((impl_IsConsistent.f k bt451.1 bt451.2.1 x4).bind fun t455 => (if t455 = true then ((impl_ErrorsOf.f k bt451.1 bt451.2.1 x4).bind fun t456 => (laws_FnLearning.j2 k x0 x3 x4 x7 x9 (t456 != 0) bt451.1 bt451.2.1)) else (laws_FnLearning.j2 k x0 x3 x4 x7 x9 true bt451.1 bt451.2.1))) else (laws_FnLearning.j2 k x0 x3 x4 x7 x9 true bt451.1 bt451.2.1))) else (none)) else ((impl_LeastSet.f k x3 x4).bind fun bt462 => (if (bt462.2 != (decide ((x7.length : Int) > 0))) = true then (laws_FnLearning.j4 k x0 true) else (if bt462.2 = true then ((laws_has.f k x7 bt462.1).bind fun t464 => (laws_FnLearning.j4 k x0 (!t464))) else (laws_FnLearning.j4 k x0 false))))
def laws_FnLearning.j2 : Nat → List Int → Int → List (S57) → List Int → Int → Bool → Int → Int → Option (Bool)
 | 0, _, _, _, _, _, _, _, _ => none
 | k + 1, x0, x3, x4, x7, x9, x107, x455000, x455001 => if x107 = true then (some false) else ((impl_VariablesOf.f k x455000 x455001).bind fun t457 => (laws_FnLearning.l1 k x0 x3 x4 x7 x9 t457 0))
def laws_FnLearning.l1 : Nat → List Int → Int → List (S57) → List Int → Int → List Int → Int → Option (Bool)
 | 0, _, _, _, _, _, _, _ => none
 | k + 1, x0, x3, x4, x7, x9, x12, x13 => if x13 < (x12.length : Int) then (if 0 ≤ x9 then (if x9 < (x7.length : Int) then (if 0 ≤ x13 then (if 0 ≤ (rd x12 x13) then (if (Go.bits .and .i64 (shr .i64 (rd x7 x9) (rd x12 x13)) 1) = 0 then (some false) else (laws_FnLearning.l1 k x0 x3 x4 x7 x9 x12 (wrap64 (x13 + 1)))) else (none)) else (none)) else (none)) else (none)) else (laws_FnLearning.l0 k x0 x3 x4 x7 (wrap64 (x9 + 1)))
def laws_FnLearning.j4 : Nat → List Int → Bool → Option (Bool)
 | 0, _, _ => none
 | k + 1, x0, x146 => if x146 = true then (some false) else ((spec_DrawSamplesOf.f k x0).bind fun bt465 => ((impl_SamplesOf.f k bt465.1 bt465.2.1 bt465.2.2).bind fun bt471 => ((spec_SamplesOf.f k bt465.1 bt465.2.1 bt465.2.2).bind fun bt475 => (if (bt471.2 != bt475.2) = true then (laws_FnLearning.j5 k x0 bt471.2 bt475.1 true bt465.1 bt465.2.1) else ((laws_sameSamples.f k bt471.1 bt475.1).bind fun t479 => (laws_FnLearning.j5 k x0 bt471.2 bt475.1 (!t479) bt465.1 bt465.2.1))))))
def laws_FnLearning.j5 : Nat → List Int → Bool → List (S57) → Bool → Int → Int → Option (Bool)
 | 0, _, _, _, _, _, _ => none
 | k + 1, x0, x19, x20, x172, x471000, x471001 => if x172 = true then (some false) else (if x19 = true then ((impl_LeastSet.f k x471000 x20).bind fun bt480 => ((impl_IsConsistent.f k x471000 x471001 x20).bind fun t482 => (if t482 = true then (if bt480.2 = true then ((impl_CountOnes.f 5 bt480.1).bind fun t483 => ((impl_VariablesOf.f k x471000 x471001).bind fun t484 => (if t483 > (t484.length : Int) then (some false) else (laws_FnLearning.j6 k x0)))) else (some false)) else (some false)))) else (laws_FnLearning.j6 k x0))
def laws_FnLearning.j6 : Nat → List Int → Option (Bool)
 | 0, _ => none
 | k + 1, x0 => (spec_DrawLearnTable.f k x0).bind fun bt487 => ((impl_LearnTable.f bt487.1 bt487.2.1 bt487.2.2).bind fun bt492 => ((spec_LearnTable.f k bt487.1 bt487.2.1 bt487.2.2).bind fun bt496 => ((spec_DrawIsConsistent.f k x0).bind fun bt500 => ((spec_DrawLeastSet.f k x0).bind fun bt506 => ((impl_LeastSet.f k bt506.1 bt506.2).bind fun bt510 => ((spec_LeastSet.f k bt506.1 bt506.2).bind fun bt512 => ((spec_DrawErrorsOf.f k x0).bind fun bt514 => ((spec_DrawIsSampleList.f k x0).bind fun bt520 => (if (bt492.1 == bt496.1 && (bt492.2.1 == bt496.2.1)) = true then (if (bt492.2.2 == bt496.2.2) = true then ((impl_IsConsistent.f k bt500.1 bt500.2.1 bt500.2.2).bind fun t524 => ((spec_IsConsistent.f k bt500.1 bt500.2.1 bt500.2.2).bind fun t525 => (if (t524 == t525) = true then (if bt510.1 = bt512.1 then (if (bt510.2 == bt512.2) = true then ((impl_ErrorsOf.f k bt514.1 bt514.2.1 bt514.2.2).bind fun t526 => ((spec_ErrorsOf.f k bt514.1 bt514.2.1 bt514.2.2).bind fun t527 => (if t526 = t527 then ((impl_IsSampleList.f bt520.1 bt520.2).bind fun t528 => ((spec_IsSampleList.f k bt520.1 bt520.2).bind fun t529 => (some (t528 == t529)))) else (some false)))) else (some false)) else (some false)) else (some false)))) else (some false)) else (some false))))))))))
end
def laws_FnLearning.f (k : Nat) (l0 : List Int) : Option (Bool) := (laws_big.f l0).bind fun t435 => (if t435 = true then (some true) else ((spec_DrawConsistentSets.f k l0).bind fun bt436 => ((impl_ConsistentSets.f k bt436.1 bt436.2).bind fun bt440 => ((spec_ConsistentSets.f k bt436.1 bt436.2).bind fun bt444 => (if (bt440.2 != bt444.2) = true then (laws_FnLearning.j0 k l0 bt436.1 bt436.2 bt444.1 true) else ((laws_sameInts.f k bt440.1 bt444.1).bind fun t448 => (if t448 = true then ((impl_IsSampleList.f bt436.1 bt436.2).bind fun t449 => (laws_FnLearning.j0 k l0 bt436.1 bt436.2 bt444.1 (t449 != bt444.2))) else (laws_FnLearning.j0 k l0 bt436.1 bt436.2 bt444.1 true))))))))
theorem laws_FnLearning.j0_dead {k : Nat} {y0 : List Int} {y1 : Int} {y2 : List (S57)} {y3 : List Int} {r : Bool} (h : laws_FnLearning.j0 k y0 y1 y2 y3 true = some r) (hr : r = true) : False := by
 cases k with
 | zero => rw [laws_FnLearning.j0] at h; cases h
 | succ k => rw [laws_FnLearning.j0, if_pos rfl] at h; cases (Option.some.inj h).trans hr
theorem laws_FnLearning.j2_dead {k : Nat} {y0 : List Int} {y1 : Int} {y2 : List (S57)} {y3 : List Int} {y4 : Int} {y6 : Int} {y7 : Int} {r : Bool} (h : laws_FnLearning.j2 k y0 y1 y2 y3 y4 true y6 y7 = some r) (hr : r = true) : False := by
 cases k with
 | zero => rw [laws_FnLearning.j2] at h; cases h
 | succ k => rw [laws_FnLearning.j2, if_pos rfl] at h; cases (Option.some.inj h).trans hr
theorem laws_FnLearning.j4_dead {k : Nat} {y0 : List Int} {r : Bool} (h : laws_FnLearning.j4 k y0 true = some r) (hr : r = true) : False := by
 cases k with
 | zero => rw [laws_FnLearning.j4] at h; cases h
 | succ k => rw [laws_FnLearning.j4, if_pos rfl] at h; cases (Option.some.inj h).trans hr
theorem laws_FnLearning.j5_dead {k : Nat} {y0 : List Int} {y1 : Bool} {y2 : List (S57)} {y4 : Int} {y5 : Int} {r : Bool} (h : laws_FnLearning.j5 k y0 y1 y2 true y4 y5 = some r) (hr : r = true) : False := by
 cases k with
 | zero => rw [laws_FnLearning.j5] at h; cases h
 | succ k => rw [laws_FnLearning.j5, if_pos rfl] at h; cases (Option.some.inj h).trans hr
def laws_FnLearning.T18 : Bool × List (List Nat × List Nat) := (true, [([], []), ([], []), ([0, 1], [0, 1]), ([2], [2]), ([], []), ([], []), ([4, 5], [4, 5]), ([6], [6]), ([3, 7], [3, 7]), ([8], [8]), ([9], [9])])
def laws_FnLearning.B18 : List Nat := [0, 0, 3, 7, 0, 0, 48, 112, 255, 511, 1023]
theorem laws_FnLearning.tab18 : rtab .any (opsOf Try.f3 18) = laws_FnLearning.T18 := by kernel_rfl
theorem laws_FnLearning.bits18 : waitsOk laws_FnLearning.T18.2 laws_FnLearning.B18 = true := by kernel_rfl
def laws_FnLearning.T30 : Bool × List (List Nat × List Nat) := (true, [([], []), ([], []), ([0, 1], [0, 1]), ([2], [2]), ([3, 2], [3]), ([4], [4]), ([5, 4], [4, 5]), ([4, 6], [4, 6]), ([7, 4], [7]), ([8], [8]), ([9, 8], [8, 9]), ([10, 8, 8], [8, 10]), ([8], [8]), ([12, 11, 8], [8, 12]), ([13, 8], [8, 13]), ([11, 14, 8], [8, 11, 14]), ([8, 15], [8, 15])])
def laws_FnLearning.B30 : List Nat := [0, 0, 3, 7, 15, 31, 63, 127, 255, 511, 1023, 2047, 511, 8191, 16383, 32767, 65535]
theorem laws_FnLearning.tab30 : rtab .any (opsOf Try.f3 30) = laws_FnLearning.T30 := by kernel_rfl
theorem laws_FnLearning.bits30 : waitsOk laws_FnLearning.T30.2 laws_FnLearning.B30 = true := by kernel_rfl
def laws_FnLearning.T41 : Bool × List (List Nat × List Nat) := (true, [([], []), ([], []), ([0, 1], [0, 1]), ([2], [2]), ([3], [3]), ([3], [3]), ([4, 5, 3], [3, 4, 5]), ([3, 6], [3, 6]), ([7, 3], [7]), ([8], [8]), ([8], [8]), ([9, 10, 8, 8], [8, 9, 10]), ([8], [8]), ([8], [8]), ([12, 13, 11, 8], [8, 12, 13]), ([11, 14, 8], [8, 11, 14]), ([8, 15], [8, 15]), ([16, 14], [16]), ([17], [17]), ([17], [17]), ([18, 19, 17], [17, 18, 19]), ([17, 20], [17, 20]), ([21, 17], [21]), ([22], [22]), ([22], [22]), ([23, 24, 22], [22, 23, 24]), ([22, 25], [22, 25]), ([26, 22], [26]), ([27], [27]), ([27], [27]), ([28, 29, 27, 27], [27, 28, 29]), ([27], [27]), ([27], [27]), ([31, 32, 30, 27], [27, 31, 32]), ([30, 33, 27], [27, 30, 33]), ([27, 34], [27, 34]), ([35, 33], [35]), ([36], [36]), ([36], [36]), ([37, 38, 36, 36], [36, 37, 38]), ([36], [36]), ([36], [36]), ([40, 41, 39, 36], [36, 40, 41]), ([39, 42, 36], [36, 39, 42]), ([36, 43], [36, 43]), ([44, 42, 0, 1, 2, 3, 4, 5, 6, 7, 8, 9, 10, 11, 12, 13, 14, 15, 16, 17, 18, 19, 20, 21, 22, 23, 24, 25, 26, 27, 28, 29, 30, 31, 32, 33, 34, 35, 36, 37, 38, 39, 40, 41, 42, 43, 44], [44])])
def laws_FnLearning.B41 : List Nat := [0, 0, 3, 7, 15, 15, 63, 127, 255, 511, 511, 2047, 511, 511, 16383, 32767, 65535, 131071, 262143, 262143, 1048575, 2097151, 4194303, 8388607, 8388607, 33554431, 67108863, 134217727, 268435455, 268435455, 1073741823, 268435455, 268435455, 8589934591, 17179869183, 34359738367, 68719476735, 137438953471, 137438953471, 549755813887, 137438953471, 137438953471, 4398046511103, 8796093022207, 17592186044415, 35184372088831]
theorem laws_FnLearning.tab41 : rtab .any (opsOf Try.f3 41) = laws_FnLearning.T41 := by kernel_rfl
theorem laws_FnLearning.bits41 : waitsOk laws_FnLearning.T41.2 laws_FnLearning.B41 = true := by kernel_rfl
set_option maxHeartbeats 8000000 in
set_option maxRecDepth 100000 in
theorem laws_FnLearning.calls (k : Nat) (A0 : Option Addr) (c0 : Nat) (l0 : List Int) (r : Bool) (w : World) (hr0 : Kd.C (Kd.int .u8) w A0 l0.length l0) (hc0 : l0.length ≤ c0) (h : laws_FnLearning.f k l0 = some r) (hr_ : r = true) :
  Calls Try.prog 3 #[.slice A0 l0.length c0] w fun e w' => e = .returned (.bool r) ∧ Below w.heap.size w w' := by
 have HRT := Aside0.mk hr_; clear hr_
 have hu33 := Try.underlying33
 have HR0 := Aside0.mk hr0; have HC0 := Aside0.mk hc0; clear hr0 hc0
 have HB := Aside0.mk (Below.refl w.heap.size w)
 have H : ((laws_big.f l0).bind fun t435 => (if t435 = true then (some true) else ((spec_DrawConsistentSets.f k l0).bind fun bt436 => ((impl_ConsistentSets.f k bt436.1 bt436.2).bind fun bt440 => ((spec_ConsistentSets.f k bt436.1 bt436.2).bind fun bt444 => (if (bt440.2 != bt444.2) = true then (laws_FnLearning.j0 k l0 bt436.1 bt436.2 bt444.1 true) else ((laws_sameInts.f k bt440.1 bt444.1).bind fun t448 => (if t448 = true then ((impl_IsSampleList.f bt436.1 bt436.2).bind fun t449 => (laws_FnLearning.j0 k l0 bt436.1 bt436.2 bt444.1 (t449 != bt444.2))) else (laws_FnLearning.j0 k l0 bt436.1 bt436.2 bt444.1 true))))))))) = some r := h
 clear h; replace H := Option.bind_eq_some_iff.mp H; obtain ⟨t435, A20, H⟩ := H; (try dsimp only at H); have A2 := Aside0.mk A20; clear A20
 by_cases c3 : t435 = true
 ·subst c3
  have H1 : (some true) = some r := by rw [if_pos rfl] at H; exact H
  clear H; have H := H1; clear H1
  obtain rfl := Option.some.inj H
  go_enter Try.func3, Try.ntmps3
  go_wp2_with (first | ((with_reducible refine gate_callee (f := 4) rfl ?_); refine goesL_ (some 44) rfl rfl Try.func4 (by kernel_rfl) rfl #[.slice A0 l0.length c0] rfl (by first | rfl | (simp only [List.map_toArray, List.map_cons, List.map_nil, List.length_drop, List.length_take]; rfl)) ?_; (with_reducible refine (laws_big.calls _ _ l0 true _ ?side1 ?side2 A2.out).mono ?_); (case side1 => repeat (first | exact HR0.out | (with_reducible refine Kd.C_alloc ?_ _) | (with_reducible refine Kd.C_drewN ?_ _) | (with_reducible refine Kd.C_drew ?_))); (case side2 => exact HC0.out); rintro e w' ⟨rfl, ⟨nd, rfl⟩⟩; refine ⟨_, rfl, ?_⟩))
  go_ret
  exact ⟨by first | rfl | (simp [errW_none, errW_some] <;> rfl) | (simp [*, errW_none, errW_some] <;> rfl), by repeat (first | (with_reducible first | exact HB.out | apply below_alloc | apply pw_below_drewN | apply below_drew1) | exact HB.out)⟩
 ·replace c3 := Bool.eq_false_iff.mpr c3
  subst c3
  have H1 : ((spec_DrawConsistentSets.f k l0).bind fun bt436 => ((impl_ConsistentSets.f k bt436.1 bt436.2).bind fun bt440 => ((spec_ConsistentSets.f k bt436.1 bt436.2).bind fun bt444 => (if (bt440.2 != bt444.2) = true then (laws_FnLearning.j0 k l0 bt436.1 bt436.2 bt444.1 true) else ((laws_sameInts.f k bt440.1 bt444.1).bind fun t448 => (if t448 = true then ((impl_IsSampleList.f bt436.1 bt436.2).bind fun t449 => (laws_FnLearning.j0 k l0 bt436.1 bt436.2 bt444.1 (t449 != bt444.2))) else (laws_FnLearning.j0 k l0 bt436.1 bt436.2 bt444.1 true))))))) = some r := by rw [if_neg (show ¬ (false = true) by decide)] at H; exact H
  clear H; have H := H1; clear H1; replace H := Option.bind_eq_some_iff.mp H; obtain ⟨⟨t436, t437⟩, A40, H⟩ := H; (try dsimp only at H); have A4 := Aside0.mk A40; clear A40; replace H := Option.bind_eq_some_iff.mp H; obtain ⟨⟨t440, t441⟩, A50, H⟩ := H; (try dsimp only at H); have A5 := Aside0.mk A50; clear A50; replace H := Option.bind_eq_some_iff.mp H; obtain ⟨⟨t444, t445⟩, A60, H⟩ := H; (try dsimp only at H); have A6 := Aside0.mk A60; clear A60; have HC7 := Aside0.mk H; clear H
  go_enter Try.func3, Try.ntmps3
  go_upto_region 6 with (first | ((with_reducible refine gate_callee (f := 4) rfl ?_); refine goesL_ (some 44) rfl rfl Try.func4 (by kernel_rfl) rfl #[.slice A0 l0.length c0] rfl (by first | rfl | (simp only [List.map_toArray, List.map_cons, List.map_nil, List.length_drop, List.length_take]; rfl)) ?_; (with_reducible refine (laws_big.calls _ _ l0 false _ ?side1 ?side2 A2.out).mono ?_); (case side1 => repeat (first | exact HR0.out | (with_reducible refine Kd.C_alloc ?_ _) | (with_reducible refine Kd.C_drewN ?_ _) | (with_reducible refine Kd.C_drew ?_))); (case side2 => exact HC0.out); rintro e w' ⟨rfl, ⟨nd, rfl⟩⟩; refine ⟨_, rfl, ?_⟩) | ((with_reducible refine gate_callee (f := 5) rfl ?_); refine goesL_ (some 47) rfl rfl Try.func5 (by kernel_rfl) rfl #[.slice A0 l0.length c0] rfl (by first | rfl | (simp only [List.map_toArray, List.map_cons, List.map_nil, List.length_drop, List.length_take]; rfl)) ?_; (with_reducible refine (spec_DrawConsistentSets.calls k _ _ l0 t436 t437 _ ?side1 ?side2 A4.out).mono ?_); (case side1 => repeat (first | exact HR0.out | (with_reducible refine Kd.C_alloc ?_ _) | (with_reducible refine Kd.C_drewN ?_ _) | (with_reducible refine Kd.C_drew ?_))); (case side2 => exact HC0.out); rintro e w8 ⟨v438, rfl, ho0, hb⟩; refine ⟨_, rfl, ?_⟩; have n0_ := Aside0.mk (Kd.R_lower ho0 (below_size (by repeat (first | (with_reducible first | exact HB.out | apply below_alloc | apply pw_below_drewN | apply below_drew1) | exact HB.out)))); have n1_ := Aside0.mk (below_step (by repeat (first | (with_reducible first | exact HB.out | apply below_alloc | apply pw_below_drewN | apply below_drew1) | exact HB.out)) hb); clear HB; have HO439 := n0_; have HB := n1_; clear n0_ n1_; (try clear hb); (try clear hb2); (try clear hk); (try clear hi); (try clear ho0); obtain ⟨Ao9, co9, eo9⟩ := Kd.R_slice HO439.out; subst eo9) | ((with_reducible refine gate_callee (f := 6) rfl ?_); refine goesL_ (some 53) rfl rfl Try.func6 (by kernel_rfl) rfl #[.int .i64 t436, .slice Ao9 t437.length co9] rfl (by first | rfl | (simp only [List.map_toArray, List.map_cons, List.map_nil, List.length_drop, List.length_take]; rfl)) ?_; (with_reducible refine (impl_ConsistentSets.calls k t436 _ _ t437 t440 t441 _ ?side1 ?side2 A5.out).mono ?_); (case side1 => repeat (first | exact (Kd.R_reads' HO439.out).2.2 | (with_reducible refine Kd.C_alloc ?_ _) | (with_reducible refine Kd.C_drewN ?_ _) | (with_reducible refine Kd.C_drew ?_))); (case side2 => exact (Kd.R_reads' HO439.out).2.1); rintro e w10 ⟨v442, rfl, ho0, hb⟩; refine ⟨_, rfl, ?_⟩; have n0_ := Aside0.mk (Kd.R_below (by (with_reducible repeat (first | apply Kd.R_alloc | apply Kd.R_drewN | apply Kd.R_drew)); exact HO439.out) hb); have n1_ := Aside0.mk (Kd.R_lower ho0 (below_size (by repeat (first | (with_reducible first | exact HB.out | apply below_alloc | apply pw_below_drewN | apply below_drew1) | exact HB.out)))); have n2_ := Aside0.mk (below_step (by repeat (first | (with_reducible first | exact HB.out | apply below_alloc | apply pw_below_drewN | apply below_drew1) | exact HB.out)) hb); clear HO439; clear HB; have HO439 := n0_; have HO443 := n1_; have HB := n2_; clear n0_ n1_ n2_; (try clear hb); (try clear hb2); (try clear hk); (try clear hi); (try clear ho0)) | ((with_reducible refine gate_callee (f := 7) rfl ?_); refine goesL_ (some 59) rfl rfl Try.func7 (by kernel_rfl) rfl #[.int .i64 t436, .slice Ao9 t437.length co9] rfl (by first | rfl | (simp only [List.map_toArray, List.map_cons, List.map_nil, List.length_drop, List.length_take]; rfl)) ?_; (with_reducible refine (spec_ConsistentSets.calls k t436 _ _ t437 t444 t445 _ ?side1 ?side2 A6.out).mono ?_); (case side1 => repeat (first | exact (Kd.R_reads' HO439.out).2.2 | (with_reducible refine Kd.C_alloc ?_ _) | (with_reducible refine Kd.C_drewN ?_ _) | (with_reducible refine Kd.C_drew ?_))); (case side2 => exact (Kd.R_reads' HO439.out).2.1); rintro e w11 ⟨v446, rfl, ho0, hb⟩; refine ⟨_, rfl, ?_⟩; have n0_ := Aside0.mk (Kd.R_below (by (with_reducible repeat (first | apply Kd.R_alloc | apply Kd.R_drewN | apply Kd.R_drew)); exact HO439.out) hb); have n1_ := Aside0.mk (Kd.R_elder' (by (with_reducible repeat (first | apply Kd.R_alloc | apply Kd.R_drewN | apply Kd.R_drew)); exact HO443.out) (Kd.R_base ho0) hb); have n2_ := Aside0.mk (Kd.R_lower (Kd.R_new' ho0 (Kd.R_lt (by (with_reducible repeat (first | apply Kd.R_alloc | apply Kd.R_drewN | apply Kd.R_drew)); exact HO443.out))) (below_size (by repeat (first | (with_reducible first | exact HB.out | apply below_alloc | apply pw_below_drewN | apply below_drew1) | exact HB.out)))); have n3_ := Aside0.mk (below_step (by repeat (first | (with_reducible first | exact HB.out | apply below_alloc | apply pw_below_drewN | apply below_drew1) | exact HB.out)) hb); clear HO439; clear HO443; clear HB; have HO439 := n0_; have HO443 := n1_; have HO447 := n2_; have HB := n3_; clear n0_ n1_ n2_ n3_; (try clear hb); (try clear hb2); (try clear hk); (try clear hi); (try clear ho0)))
  (try simp only [Act.put, List.setIfInBounds_toArray, List.set_cons_zero, List.set_cons_succ])
  go_cut [77] (fun v77 wc => ∃ (kq : Nat) (x77_6 : Bool), v77 = .bool x77_6 ∧ Aside0 (laws_FnLearning.j0 kq l0 t436 t437 t444 x77_6 = some r) ∧ Aside0 (kq ≤ k) ∧ Aside0 (Kd.R k57 57 wc w.heap.size (fun _ => True) (.slice Ao9 t437.length co9) t437) ∧ Aside0 (Kd.R (Kd.int .i64) 3 wc w.heap.size (fun _ => True) v446 t444) ∧ Aside0 (Below w.heap.size w wc))
  case first =>
   as_aux_lemma =>
   have H := HC7.out
   clear HC7
   by_cases c12 : (t441 != t445) = true
   ·rw [if_pos c12] at H
    have c12b0 : (t441 != t445) = true := c12
    (try (have c12b1 : decide (t441 = t445) = false := by simpa using c12))
    (try (have c12b2 : (t441 == t445) = false := by simpa using c12))
    (try (have c12b3 : ¬ (t441 = t445) := by simpa using c12))
    clear c12
    (first | rw [c12b0] | rw [c12b1] | (simp only [i64_w, i32_w]; rw [c12b0]) | skip)
    first | exact (laws_FnLearning.j0_dead H HRT.out).elim | exact (laws_FnLearning.j2_dead H HRT.out).elim | exact (laws_FnLearning.j4_dead H HRT.out).elim | exact (laws_FnLearning.j5_dead H HRT.out).elim
   ·rw [if_neg c12] at H
    have c12b0 : (t441 != t445) = false := by simpa using c12
    (try (have c12b1 : decide (t441 = t445) = true := by simpa using c12))
    (try (have c12b2 : (t441 == t445) = true := by simpa using c12))
    clear c12
    (first | rw [c12b0] | rw [c12b1] | (simp only [i64_w, i32_w]; rw [c12b0]) | skip)
    replace H := Option.bind_eq_some_iff.mp H; obtain ⟨t448, A130, H⟩ := H; (try dsimp only at H); have A13 := Aside0.mk A130; clear A130
    by_cases c14 : t448 = true
    ·subst c14
     have H1 : ((impl_IsSampleList.f t436 t437).bind fun t449 => (laws_FnLearning.j0 k l0 t436 t437 t444 (t449 != t445))) = some r := by rw [if_pos rfl] at H; exact H
     clear H; have H := H1; clear H1; replace H := Option.bind_eq_some_iff.mp H; obtain ⟨t449, A150, H⟩ := H
     replace H : (laws_FnLearning.j0 k l0 t436 t437 t444 (t449 != t445)) = some r := H
     have A15 := Aside0.mk A150; clear A150
     have H' := Aside0.mk H
     clear H
     obtain ⟨Ao16, co16, eo16⟩ := Kd.R_slice HO443.out
     subst eo16
     obtain ⟨Ao17, co17, eo17⟩ := Kd.R_slice HO447.out
     subst eo17
     go_wp2_with (first | (go_at_call 8; (with_reducible refine (laws_sameInts.calls k _ _ t440 _ _ t444 true _ ?side1 ?side2 ?side3 ?side4 A13.out).mono ?_); (case side1 => repeat (first | exact (Kd.R_reads' HO443.out).2.2 | (with_reducible refine Kd.C_alloc ?_ _) | (with_reducible refine Kd.C_drewN ?_ _) | (with_reducible refine Kd.C_drew ?_))); (case side2 => exact (Kd.R_reads' HO443.out).2.1); (case side3 => repeat (first | exact (Kd.R_reads' HO447.out).2.2 | (with_reducible refine Kd.C_alloc ?_ _) | (with_reducible refine Kd.C_drewN ?_ _) | (with_reducible refine Kd.C_drew ?_))); (case side4 => exact (Kd.R_reads' HO447.out).2.1); rintro e w' ⟨rfl, ⟨nd, rfl⟩⟩) | (go_at_call 9; (with_reducible refine (impl_IsSampleList.calls t436 _ _ t437 t449 _ ?side1 ?side2 A15.out).mono ?_); (case side1 => repeat (first | exact (Kd.R_reads' HO439.out).2.2 | (with_reducible refine Kd.C_alloc ?_ _) | (with_reducible refine Kd.C_drewN ?_ _) | (with_reducible refine Kd.C_drew ?_))); (case side2 => exact (Kd.R_reads' HO439.out).2.1); rintro e w18 ⟨rfl, hb⟩; have n0_ := Aside0.mk (Kd.R_below (by (with_reducible repeat (first | apply Kd.R_alloc | apply Kd.R_drewN | apply Kd.R_drew)); exact HO439.out) hb); have n1_ := Aside0.mk (Kd.R_below (by (with_reducible repeat (first | apply Kd.R_alloc | apply Kd.R_drewN | apply Kd.R_drew)); exact HO443.out) hb); have n2_ := Aside0.mk (Kd.R_below (by (with_reducible repeat (first | apply Kd.R_alloc | apply Kd.R_drewN | apply Kd.R_drew)); exact HO447.out) hb); have n3_ := Aside0.mk (below_step (by repeat (first | (with_reducible first | exact HB.out | apply below_alloc | apply pw_below_drewN | apply below_drew1) | exact HB.out)) hb); clear HO439; clear HO443; clear HO447; clear HB; have HO439 := n0_; have HO443 := n1_; have HO447 := n2_; have HB := n3_; clear n0_ n1_ n2_ n3_; (try clear hb); (try clear hb2); (try clear hk); (try clear hi)))
     go_meet
     case rel => exact ⟨_, ((t449 != t445)), (by first | rfl | (simp; done) | (simp [*]; done)), H', ⟨by first | omega | exact Nat.le_refl _⟩, ⟨by (with_reducible repeat (first | apply Kd.R_alloc | apply Kd.R_drewN | apply Kd.R_drew)); exact HO439.out⟩, ⟨by (with_reducible repeat (first | apply Kd.R_alloc | apply Kd.R_drewN | apply Kd.R_drew)); exact Kd.R_mono HO447.out (fun _ hk => trivial)⟩, ⟨by repeat (first | (with_reducible first | exact HB.out | apply below_alloc | apply pw_below_drewN | apply below_drew1) | exact HB.out)⟩⟩
    ·replace c14 := Bool.eq_false_iff.mpr c14
     subst c14
     have H1 : (laws_FnLearning.j0 k l0 t436 t437 t444 true) = some r := by rw [if_neg (show ¬ (false = true) by decide)] at H; exact H
     clear H; have H := H1; clear H1
     first | exact (laws_FnLearning.j0_dead H HRT.out).elim | exact (laws_FnLearning.j2_dead H HRT.out).elim | exact (laws_FnLearning.j4_dead H HRT.out).elim | exact (laws_FnLearning.j5_dead H HRT.out).elim
  case rest =>
   as_aux_lemma =>
   clear HC7; (try clear c1); (try clear p2); (try clear c3); (try clear c4); (try clear c5); (try clear c6); (try clear c7); (try clear c12); (try clear c12b0); (try clear c12b1); (try clear c12b2); (try clear c14); obtain ⟨kq, x77_6, rfl, HA, HJ6, HO_4, HO_7, HB⟩ := hcut
   cases kq with
   | zero => exact absurd HA.out (by simp [laws_FnLearning.j0])
   | succ kj6 =>
    have H := HA.out
    clear HA
    simp only [laws_FnLearning.j0] at H
    by_cases c21 : x77_6 = true
    ·subst c21
     have H1 : (some false) = some r := by rw [if_pos rfl] at H; exact H
     clear H; have H := H1; clear H1
     exact absurd (Option.some.inj H) (by rw [HRT.out]; decide)
    ·replace c21 := Bool.eq_false_iff.mpr c21
     subst c21
     have H1 : (laws_FnLearning.l0 kj6 l0 t436 t437 t444 0) = some r := by rw [if_neg (show ¬ (false = true) by decide)] at H; exact H
     clear H; have H := H1; clear H1
     have H' := Aside0.mk H
     clear H
     go_wp2
     go_loopg [9] kj6 (fun kq v9 w' => ∃ (x9_2 : Int), v9 = .int .i64 x9_2 ∧ Aside0 (laws_FnLearning.l0 kq l0 t436 t437 t444 x9_2 = some r) ∧ Aside0 (kq ≤ kj6) ∧ Aside0 (Kd.R k57 57 w' w.heap.size (fun _ => True) (.slice Ao9 t437.length co9) t437) ∧ Aside0 (Kd.R (Kd.int .i64) 3 w' w.heap.size (fun _ => True) v446 t444) ∧ Aside0 (Below w.heap.size w w'))
     case atStart => exact ⟨(0), (by first | rfl | (simp; done) | (simp [*]; done)), H', ⟨Nat.le_refl _⟩, ⟨by (with_reducible repeat (first | apply Kd.R_alloc | apply Kd.R_drewN | apply Kd.R_drew)); exact HO_4.out⟩, ⟨by (with_reducible repeat (first | apply Kd.R_alloc | apply Kd.R_drewN | apply Kd.R_drew)); exact HO_7.out⟩, ⟨by repeat (first | (with_reducible first | exact HB.out | apply below_alloc | apply pw_below_drewN | apply below_drew1) | exact HB.out)⟩⟩
     case round =>
      as_aux_lemma =>
      clear H'; (try clear c1); (try clear c2); (try clear p2); (try clear c3); (try clear c4); (try clear c5); (try clear c6); (try clear c7); (try clear c12); (try clear c12b0); (try clear c12b1); (try clear c12b2); (try clear c14); (try clear c21); (try clear p2); obtain ⟨x9_2, rfl, HA, HK2, HO_4, HO_7, HB⟩ := hrel
      cases gk with
      | zero => exact absurd HA.out (by simp [laws_FnLearning.l0])
      | succ k2 =>
       have H := HA.out
       clear HA
       simp only [laws_FnLearning.l0] at H
       by_cases c22 : x9_2 < (t444.length : Int)
       ·rw [if_pos c22] at H
        have c22b0 : decide (x9_2 < (t444.length : Int)) = true := decide_eq_true c22
        clear c22
        by_cases c23 : 0 ≤ x9_2
        ·rw [if_pos c23] at H
         have c23b0 : decide (0 ≤ x9_2) = true := decide_eq_true c23
         clear c23; replace H := Option.bind_eq_some_iff.mp H; obtain ⟨⟨t451, t452, t453⟩, A240, H⟩ := H; (try dsimp only at H); have A24 := Aside0.mk A240; clear A240; have HC25 := Aside0.mk H; clear H
         obtain ⟨Ao26, co26, eo26⟩ := Kd.R_slice HO_7.out
         subst eo26
         have p450 : 0 ≤ (x9_2 : Int) := of_decide_eq_true (by first | (with_reducible assumption) | assumption)
         have q450 : x9_2 < (t444.length : Int) := of_decide_eq_true (by first | (with_reducible assumption) | assumption)
         obtain ⟨ad450, e450, hx450_0⟩ := Kd.at_int (Kd.R_reads' HO_7.out).2.2 x9_2 p450 q450
         cases e450
         replace p450 := eq_true p450
         replace q450 := eq_true q450
         go_upto_region 12 with (first | ((with_reducible refine gate_callee (f := 10) rfl ?_); refine goesL_ (some 91) rfl rfl Try.func10 (by kernel_rfl) rfl #[.int .i64 t436, .slice Ao9 t437.length co9, .int .i64 (rd t444 x9_2)] rfl (by first | rfl | (simp only [List.map_toArray, List.map_cons, List.map_nil, List.length_drop, List.length_take]; rfl)) ?_; (with_reducible refine (impl_LearnTable.calls t436 _ _ t437 (rd t444 x9_2) t451 t452 t453 _ ?side1 ?side2 A24.out).mono ?_); (case side1 => repeat (first | exact (Kd.R_reads' HO_4.out).2.2 | (with_reducible refine Kd.C_alloc ?_ _) | (with_reducible refine Kd.C_drewN ?_ _) | (with_reducible refine Kd.C_drew ?_))); (case side2 => exact (Kd.R_reads' HO_4.out).2.1); rintro e w27 ⟨rfl, hb⟩; refine ⟨_, rfl, ?_⟩; have n0_ := Aside0.mk (Kd.R_below (by (with_reducible repeat (first | apply Kd.R_alloc | apply Kd.R_drewN | apply Kd.R_drew)); exact HO_4.out) hb); have n1_ := Aside0.mk (Kd.R_below (by (with_reducible repeat (first | apply Kd.R_alloc | apply Kd.R_drewN | apply Kd.R_drew)); exact HO_7.out) hb); have n2_ := Aside0.mk (below_step (by repeat (first | (with_reducible first | exact HB.out | apply below_alloc | apply pw_below_drewN | apply below_drew1) | exact HB.out)) hb); clear HO_4; clear HO_7; clear HB; have HO_4 := n0_; have HO_7 := n1_; have HB := n2_; clear n0_ n1_ n2_; (try clear hb); (try clear hb2); (try clear hk); (try clear hi)) | ((with_reducible refine gate_dst (N := 10) rfl ?_); (try (refine gate_guard (by rfl) ?_; dsimp only)); refine box_event ?hg (N := 10) ?hd (cs := #[.int .i64 0, .int .i64 0]) (t := 33) ?hr ?_; (case hd => rfl); (case hg => rfl); (case hr => first | (go_simp; done) | (go_simp; rfl)); intro gb454 hg w28 hbox hb; have n0_ := Aside0.mk (Kd.R_below (by (with_reducible repeat (first | apply Kd.R_alloc | apply Kd.R_drewN | apply Kd.R_drew)); exact HO_4.out) hb); have n1_ := Aside0.mk (Kd.R_below (by (with_reducible repeat (first | apply Kd.R_alloc | apply Kd.R_drewN | apply Kd.R_drew)); exact HO_7.out) hb); have n2_ := Aside0.mk (below_step (by repeat (first | (with_reducible first | exact HB.out | apply below_alloc | apply pw_below_drewN | apply below_drew1) | exact HB.out)) hb); have n3_ := Aside0.mk (hbox); have n4_ := Aside0.mk ((by rw [hg]; exact (below_size (by repeat (first | (with_reducible first | exact HB.out | apply below_alloc | apply pw_below_drewN | apply below_drew1) | exact HB.out))) : w.heap.size ≤ gb454)); have n5_ := Aside0.mk ((by rw [hg]; exact (below_size (by repeat (first | (with_reducible first | exact HB.out | apply below_alloc | apply pw_below_drewN | apply below_drew1) | exact HB.out))) : w.heap.size ≤ gb454)); clear HO_4; clear HO_7; clear HB; have HO_4 := n0_; have HO_7 := n1_; have HB := n2_; have BK454 := n3_; have GW454 := n4_; have GE454 := n5_; clear n0_ n1_ n2_ n3_ n4_ n5_; clear hb hbox hg; have hcz29_0 : w28.cell? ⟨gb454, 0, none⟩ = some (.int .i64 0) := (blk_cell BK454.out 0).trans rfl; have hcz29_1 : w28.cell? ⟨gb454, 1, none⟩ = some (.int .i64 0) := (blk_cell BK454.out 1).trans rfl; have hfz29_0 := blk_frozen BK454.out 0; have hfz29_1 := blk_frozen BK454.out 1))
         (try simp only [Act.put, List.setIfInBounds_toArray, List.set_cons_zero, List.set_cons_succ])
         go_cut [107] (fun v107 wc => ∃ (kq : Nat) (x107_24 : Bool), v107 = .bool x107_24 ∧ Aside0 (laws_FnLearning.j2 kq l0 t436 t437 t444 x9_2 x107_24 t451 t452 = some r) ∧ Aside0 (kq ≤ k2) ∧ Aside0 (Kd.R k57 57 wc w.heap.size (fun _ => True) (.slice Ao9 t437.length co9) t437) ∧ Aside0 (Kd.R (Kd.int .i64) 3 wc w.heap.size (fun _ => True) (.slice (some ad450) t444.length co26) t444) ∧ Aside0 (wc.heap[gb454]? = some (.cells #[.int .i64 t451, .int .i64 t452] 33 (0, 0))) ∧ Aside0 (Below w.heap.size w wc))
         case first =>
          as_aux_lemma =>
          have H := HC25.out
          clear HC25
          by_cases c30 : t453 = true
          ·subst c30
           have H1 : ((impl_IsConsistent.f k2 t451 t452 t437).bind fun t455 => (if t455 = true then ((impl_ErrorsOf.f k2 t451 t452 t437).bind fun t456 => (laws_FnLearning.j2 k2 l0 t436 t437 t444 x9_2 (t456 != 0) t451 t452)) else (laws_FnLearning.j2 k2 l0 t436 t437 t444 x9_2 true t451 t452))) = some r := by rw [if_pos rfl] at H; exact H
           clear H; have H := H1; clear H1; replace H := Option.bind_eq_some_iff.mp H; obtain ⟨t455, A310, H⟩ := H; (try dsimp only at H); have A31 := Aside0.mk A310; clear A310
           by_cases c32 : t455 = true
           ·subst c32
            have H1 : ((impl_ErrorsOf.f k2 t451 t452 t437).bind fun t456 => (laws_FnLearning.j2 k2 l0 t436 t437 t444 x9_2 (t456 != 0) t451 t452)) = some r := by rw [if_pos rfl] at H; exact H
            clear H; have H := H1; clear H1; replace H := Option.bind_eq_some_iff.mp H; obtain ⟨t456, A330, H⟩ := H
            replace H : (laws_FnLearning.j2 k2 l0 t436 t437 t444 x9_2 (t456 != 0) t451 t452) = some r := H
            have A33 := Aside0.mk A330; clear A330
            have H' := Aside0.mk H
            clear H
            have hcz34_0 : w28.cell? ⟨gb454, 0, none⟩ = some (.int .i64 0) := (blk_cell BK454.out 0).trans rfl
            have hcz34_1 : w28.cell? ⟨gb454, 1, none⟩ = some (.int .i64 0) := (blk_cell BK454.out 1).trans rfl
            have hfz34_0 := blk_frozen BK454.out 0
            have hfz34_1 := blk_frozen BK454.out 1
            go_wp2_with (first | (go_at_call 11; (with_reducible refine (impl_IsConsistent.calls k2 t451 t452 _ _ t437 true _ ?side1 ?side2 A31.out).mono ?_); (case side1 => refine (Kd.R_reads' (e := 57) (base := w.heap.size) (ok := fun k_ => True) (n := t437.length) (c := co9) ?_).2.2; exact (by (with_reducible repeat (first | apply Kd.R_alloc | apply Kd.R_drewN | apply Kd.R_drew)); exact (Kd.R_mono (Kd.R_far (p := ⟨gb454, 1, none⟩) (Kd.R_far (p := ⟨gb454, 0, none⟩) (Kd.R_types HO_4.out BK454.out (by decide)) (fun _ hk => hk.2) (.int .i64 t451)) (fun _ hk => hk.2) (.int .i64 t452)) (fun _ h_ => h_.1)))); (case side2 => exact (Kd.R_reads' HO_4.out).2.1); rintro e w35 ⟨rfl, hb⟩; have n0_ := Aside0.mk (Kd.R_below (by (with_reducible repeat (first | apply Kd.R_alloc | apply Kd.R_drewN | apply Kd.R_drew)); exact (Kd.R_mono (Kd.R_far (p := ⟨gb454, 1, none⟩) (Kd.R_far (p := ⟨gb454, 0, none⟩) (Kd.R_types HO_4.out BK454.out (by decide)) (fun _ hk => hk.2) (.int .i64 t451)) (fun _ hk => hk.2) (.int .i64 t452)) (fun _ h_ => h_.1))) hb); have n1_ := Aside0.mk (Kd.R_below (by (with_reducible repeat (first | apply Kd.R_alloc | apply Kd.R_drewN | apply Kd.R_drew)); exact (Kd.R_mono (Kd.R_far (p := ⟨gb454, 1, none⟩) (Kd.R_far (p := ⟨gb454, 0, none⟩) (Kd.R_types HO_7.out BK454.out (by decide)) (fun _ hk => hk.2) (.int .i64 t451)) (fun _ hk => hk.2) (.int .i64 t452)) (fun _ h_ => h_.1))) hb); have n2_ := Aside0.mk (blk_below (g := gb454) (o := .cells #[.int .i64 t451, .int .i64 t452] 33 (0, 0)) (by (with_reducible repeat (first | refine blk_drewN ?_ _ | refine blk_drew ?_ | refine blk_alloc ?_ _)); refine blk_put (cs := #[.int .i64 t451, .int .i64 0]) ?_ 1 _ rfl; (with_reducible repeat (first | refine blk_drewN ?_ _ | refine blk_drew ?_ | refine blk_alloc ?_ _)); refine blk_put (cs := #[.int .i64 0, .int .i64 0]) ?_ 0 _ rfl; (with_reducible repeat (first | refine blk_drewN ?_ _ | refine blk_drew ?_ | refine blk_alloc ?_ _)); exact BK454.out) hb); have n3_ := Aside0.mk (below_step (by repeat (first | (with_reducible first | exact HB.out | apply below_alloc | apply pw_below_drewN | apply below_drew1 | refine below_set ?_ GE454.out) | exact HB.out)) hb); clear HO_4; clear HO_7; clear BK454; clear HB; have HO_4 := n0_; have HO_7 := n1_; have BK454 := n2_; have HB := n3_; clear n0_ n1_ n2_ n3_; (try clear hb); (try clear hb2); (try clear hk); (try clear hi); have hcz36_0 : w35.cell? ⟨gb454, 0, none⟩ = some (.int .i64 t451) := (blk_cell BK454.out 0).trans rfl; have hcz36_1 : w35.cell? ⟨gb454, 1, none⟩ = some (.int .i64 t452) := (blk_cell BK454.out 1).trans rfl; have hfz36_0 := blk_frozen BK454.out 0; have hfz36_1 := blk_frozen BK454.out 1) | (go_at_call 12; (with_reducible refine (impl_ErrorsOf.calls k2 t451 t452 _ _ t437 t456 _ ?side1 ?side2 A33.out).mono ?_); (case side1 => repeat (first | exact (Kd.R_reads' HO_4.out).2.2 | (with_reducible refine Kd.C_alloc ?_ _) | (with_reducible refine Kd.C_drewN ?_ _) | (with_reducible refine Kd.C_drew ?_))); (case side2 => exact (Kd.R_reads' HO_4.out).2.1); rintro e w37 ⟨rfl, hb⟩; have n0_ := Aside0.mk (Kd.R_below (by (with_reducible repeat (first | apply Kd.R_alloc | apply Kd.R_drewN | apply Kd.R_drew)); exact HO_4.out) hb); have n1_ := Aside0.mk (Kd.R_below (by (with_reducible repeat (first | apply Kd.R_alloc | apply Kd.R_drewN | apply Kd.R_drew)); exact HO_7.out) hb); have n2_ := Aside0.mk (blk_below (g := gb454) (o := .cells #[.int .i64 t451, .int .i64 t452] 33 (0, 0)) (by (with_reducible repeat (first | refine blk_drewN ?_ _ | refine blk_drew ?_ | refine blk_alloc ?_ _)); exact BK454.out) hb); have n3_ := Aside0.mk (below_step (by repeat (first | (with_reducible first | exact HB.out | apply below_alloc | apply pw_below_drewN | apply below_drew1 | refine below_set ?_ GE454.out) | exact HB.out)) hb); clear HO_4; clear HO_7; clear BK454; clear HB; have HO_4 := n0_; have HO_7 := n1_; have BK454 := n2_; have HB := n3_; clear n0_ n1_ n2_ n3_; (try clear hb); (try clear hb2); (try clear hk); (try clear hi)))
            go_meet
            case rel => exact ⟨_, ((t456 != 0)), (by first | rfl | (simp; done) | (simp [*]; done)), H', ⟨by have := HJ6.out; have := HK2.out; first | omega | exact Nat.le_refl _⟩, ⟨by (with_reducible repeat (first | apply Kd.R_alloc | apply Kd.R_drewN | apply Kd.R_drew)); exact HO_4.out⟩, ⟨by (with_reducible repeat (first | apply Kd.R_alloc | apply Kd.R_drewN | apply Kd.R_drew)); exact HO_7.out⟩, ⟨by (with_reducible repeat (first | refine blk_drewN ?_ _ | refine blk_drew ?_ | refine blk_alloc ?_ _)); exact BK454.out⟩, ⟨by repeat (first | (with_reducible first | exact HB.out | apply below_alloc | apply pw_below_drewN | apply below_drew1 | refine below_set ?_ GE454.out) | exact HB.out)⟩⟩
           ·replace c32 := Bool.eq_false_iff.mpr c32
            subst c32
            have H1 : (laws_FnLearning.j2 k2 l0 t436 t437 t444 x9_2 true t451 t452) = some r := by rw [if_neg (show ¬ (false = true) by decide)] at H; exact H
            clear H; have H := H1; clear H1
            first | exact (laws_FnLearning.j0_dead H HRT.out).elim | exact (laws_FnLearning.j2_dead H HRT.out).elim | exact (laws_FnLearning.j4_dead H HRT.out).elim | exact (laws_FnLearning.j5_dead H HRT.out).elim
          ·replace c30 := Bool.eq_false_iff.mpr c30
           subst c30
           have H1 : (laws_FnLearning.j2 k2 l0 t436 t437 t444 x9_2 true t451 t452) = some r := by rw [if_neg (show ¬ (false = true) by decide)] at H; exact H
           clear H; have H := H1; clear H1
           first | exact (laws_FnLearning.j0_dead H HRT.out).elim | exact (laws_FnLearning.j2_dead H HRT.out).elim | exact (laws_FnLearning.j4_dead H HRT.out).elim | exact (laws_FnLearning.j5_dead H HRT.out).elim
         case rest =>
          as_aux_lemma =>
          clear HC25; (try clear c1); (try clear c2); (try clear p2); (try clear c3); (try clear c4); (try clear p4); (try clear q4); (try clear hx4); (try clear c5); (try clear c6); (try clear c7); (try clear c10); (try clear c12); (try clear c12b0); (try clear c12b1); (try clear c12b2); (try clear c14); (try clear c21); (try clear c22); (try clear c22b0); (try clear c23); (try clear c23b0); (try clear c30); (try clear c32); (try clear hcz29_0); (try clear hcz29_1); (try clear hcz34_0); (try clear hcz34_1); (try clear hcz36_0); (try clear hcz36_1); (try clear hcz38_0); (try clear hcz38_1)
          (try clear hfz29_0); (try clear hfz29_1); (try clear hfz34_0); (try clear hfz34_1); (try clear hfz36_0); (try clear hfz36_1); (try clear hfz38_0); (try clear hfz38_1); (try clear hx450_0); (try clear p2); (try clear p450); (try clear q450); obtain ⟨kq, x107_24, rfl, HA, HJ24, HO_4, HO_7, BK454, HB⟩ := hcut
          cases kq with
          | zero => exact absurd HA.out (by simp [laws_FnLearning.j2])
          | succ kj24 =>
           have H := HA.out
           clear HA
           simp only [laws_FnLearning.j2] at H
           by_cases c40 : x107_24 = true
           ·subst c40
            have H1 : (some false) = some r := by rw [if_pos rfl] at H; exact H
            clear H; have H := H1; clear H1
            exact absurd (Option.some.inj H) (by rw [HRT.out]; decide)
           ·replace c40 := Bool.eq_false_iff.mpr c40
            subst c40
            have H1 : ((impl_VariablesOf.f kj24 t451 t452).bind fun t457 => (laws_FnLearning.l1 kj24 l0 t436 t437 t444 x9_2 t457 0)) = some r := by rw [if_neg (show ¬ (false = true) by decide)] at H; exact H
            clear H; have H := H1; clear H1; replace H := Option.bind_eq_some_iff.mp H; obtain ⟨t457, A410, H⟩ := H
            replace H : (laws_FnLearning.l1 kj24 l0 t436 t437 t444 x9_2 t457 0) = some r := H
            have A41 := Aside0.mk A410; clear A410
            have H' := Aside0.mk H
            clear H
            have hcz42_0 : wc.cell? ⟨gb454, 0, none⟩ = some (.int .i64 t451) := (blk_cell BK454.out 0).trans rfl
            have hcz42_1 : wc.cell? ⟨gb454, 1, none⟩ = some (.int .i64 t452) := (blk_cell BK454.out 1).trans rfl
            have hfz42_0 := blk_frozen BK454.out 0
            have hfz42_1 := blk_frozen BK454.out 1
            go_wp2_with (first | ((with_reducible refine gate_callee (f := 13) rfl ?_); refine goesL_ (some 109) rfl rfl Try.func13 (by kernel_rfl) rfl #[.agg #[.int .i64 t451, .int .i64 t452]] rfl (by first | rfl | (simp only [List.map_toArray, List.map_cons, List.map_nil, List.length_drop, List.length_take]; rfl)) ?_; (with_reducible refine (impl_VariablesOf.calls kj24 t451 t452 t457 _ A41.out).mono ?_); rintro e w43 ⟨v458, rfl, ho0, hb⟩; refine ⟨_, rfl, ?_⟩; have n0_ := Aside0.mk (Kd.R_below (by (with_reducible repeat (first | apply Kd.R_alloc | apply Kd.R_drewN | apply Kd.R_drew)); exact HO_4.out) hb); have n1_ := Aside0.mk (Kd.R_elder' (by (with_reducible repeat (first | apply Kd.R_alloc | apply Kd.R_drewN | apply Kd.R_drew)); exact HO_7.out) (Kd.R_base ho0) hb); have n2_ := Aside0.mk (Kd.R_lower (Kd.R_new' ho0 (Kd.R_lt (by (with_reducible repeat (first | apply Kd.R_alloc | apply Kd.R_drewN | apply Kd.R_drew)); exact HO_7.out))) (below_size (by repeat (first | (with_reducible first | exact HB.out | apply below_alloc | apply pw_below_drewN | apply below_drew1 | refine below_set ?_ GE454.out) | exact HB.out)))); have n3_ := Aside0.mk (blk_below (g := gb454) (o := .cells #[.int .i64 t451, .int .i64 t452] 33 (0, 0)) (by (with_reducible repeat (first | refine blk_drewN ?_ _ | refine blk_drew ?_ | refine blk_alloc ?_ _)); exact BK454.out) hb); have n4_ := Aside0.mk (below_step (by repeat (first | (with_reducible first | exact HB.out | apply below_alloc | apply pw_below_drewN | apply below_drew1 | refine below_set ?_ GE454.out) | exact HB.out)) hb); clear HO_4; clear HO_7; clear BK454; clear HB; have HO_4 := n0_; have HO_7 := n1_; have HO459 := n2_; have BK454 := n3_; have HB := n4_; clear n0_ n1_ n2_ n3_ n4_; (try clear hb); (try clear hb2); (try clear hk); (try clear hi); (try clear ho0)))
            go_loopg [13] kj24 (fun kq v13 w' => ∃ (x13_4 : Int), v13 = .int .i64 x13_4 ∧ Aside0 (laws_FnLearning.l1 kq l0 t436 t437 t444 x9_2 t457 x13_4 = some r) ∧ Aside0 (kq ≤ kj24) ∧ Aside0 (Kd.R k57 57 w' w.heap.size (fun _ => True) (.slice Ao9 t437.length co9) t437) ∧ Aside0 (Kd.R (Kd.int .i64) 3 w' w.heap.size (fun k_ => some k_ ≠ (v458 : Value).ownBlock) (.slice (some ad450) t444.length co26) t444) ∧ Aside0 (Kd.R (Kd.int .i64) 3 w' w.heap.size (fun k_ => some k_ ≠ ((.slice (some ad450) t444.length co26) : Value).ownBlock) v458 t457) ∧ Aside0 (w'.heap[gb454]? = some (.cells #[.int .i64 t451, .int .i64 t452] 33 (0, 0))) ∧ Aside0 (Below w.heap.size w w'))
            case atStart => exact ⟨(0), (by first | rfl | (simp; done) | (simp [*]; done)), H', ⟨Nat.le_refl _⟩, ⟨by (with_reducible repeat (first | apply Kd.R_alloc | apply Kd.R_drewN | apply Kd.R_drew)); exact HO_4.out⟩, ⟨by (with_reducible repeat (first | apply Kd.R_alloc | apply Kd.R_drewN | apply Kd.R_drew)); exact Kd.R_mono HO_7.out (fun _ hk => hk.2)⟩, ⟨by (with_reducible repeat (first | apply Kd.R_alloc | apply Kd.R_drewN | apply Kd.R_drew)); exact Kd.R_mono HO459.out (fun _ hk => hk.2)⟩, ⟨by (with_reducible repeat (first | refine blk_drewN ?_ _ | refine blk_drew ?_ | refine blk_alloc ?_ _)); exact BK454.out⟩, ⟨by repeat (first | (with_reducible first | exact HB.out | apply below_alloc | apply pw_below_drewN | apply below_drew1 | refine below_set ?_ GE454.out) | exact HB.out)⟩⟩
            case round =>
             as_aux_lemma =>
             clear H'; (try clear c1); (try clear c2); (try clear p2); (try clear c3); (try clear c4); (try clear p4); (try clear q4); (try clear hx4); (try clear c5); (try clear c6); (try clear c7); (try clear c10); (try clear c12); (try clear c12b0); (try clear c12b1); (try clear c12b2); (try clear c13); (try clear c14); (try clear c21); (try clear c22); (try clear c22b0); (try clear c23); (try clear c23b0); (try clear c30); (try clear c32); (try clear c40); (try clear hcz29_0); (try clear hcz29_1); (try clear hcz34_0); (try clear hcz34_1); (try clear hcz36_0); (try clear hcz36_1)
             (try clear hcz38_0); (try clear hcz38_1); (try clear hcz42_0); (try clear hcz42_1); (try clear hfz29_0); (try clear hfz29_1); (try clear hfz34_0); (try clear hfz34_1); (try clear hfz36_0); (try clear hfz36_1); (try clear hfz38_0); (try clear hfz38_1); (try clear hfz42_0); (try clear hfz42_1); (try clear hx450_0); (try clear p2); (try clear p4); (try clear p450); (try clear q4); (try clear q450); obtain ⟨x13_4, rfl, HA, HK4, HO_4, HO_7, HO_12, BK454, HB⟩ := hrel
             cases gk with
             | zero => exact absurd HA.out (by simp [laws_FnLearning.l1])
             | succ k4 =>
              have H := HA.out
              clear HA
              simp only [laws_FnLearning.l1] at H
              by_cases c44 : x13_4 < (t457.length : Int)
              ·rw [if_pos c44] at H
               have c44b0 : decide (x13_4 < (t457.length : Int)) = true := decide_eq_true c44
               clear c44
               by_cases c45 : 0 ≤ x9_2
               ·rw [if_pos c45] at H
                have c45b0 : decide (0 ≤ x9_2) = true := decide_eq_true c45
                clear c45
                by_cases c46 : x9_2 < (t444.length : Int)
                ·rw [if_pos c46] at H
                 have c46b0 : decide (x9_2 < (t444.length : Int)) = true := decide_eq_true c46
                 clear c46
                 by_cases c47 : 0 ≤ x13_4
                 ·rw [if_pos c47] at H
                  have c47b0 : decide (0 ≤ x13_4) = true := decide_eq_true c47
                  clear c47
                  by_cases c48 : 0 ≤ (rd t457 x13_4)
                  ·rw [if_pos c48] at H
                   have c48b0 := eq_true c48
                   have c48b1 : decide (0 ≤ (rd t457 x13_4)) = true := decide_eq_true c48
                   clear c48
                   obtain ⟨ji49, hji49⟩ : ∃ j_ : Int, (shr .i64 (rd t444 x9_2) (rd t457 x13_4)) = j_ := ⟨_, rfl⟩
                   replace H : (if (Go.bits .and .i64 (ji49) 1) = 0 then (some false) else (laws_FnLearning.l1 k4 l0 t436 t437 t444 x9_2 t457 (wrap64 (x13_4 + 1)))) = some r := by first | (rw [hji49] at H; exact H) | (simp only [hji49] at H ⊢; exact H)
                   have hji49_ : ((rd t444 x9_2) / 2 ^ min (rd t457 x13_4).toNat 64) = ji49 := hji49
                   have hji49z : (rd t457 x13_4) ≤ 64 → ((rd t444 x9_2) / 2 ^ (rd t457 x13_4).toNat) = ji49 := shr_small hji49
                   by_cases c50 : (Go.bits .and .i64 (ji49) 1) = 0
                   ·rw [if_pos c50] at H
                    have c50b0 : ((Go.bits .and .i64 (ji49) 1) == 0) = true := beq_iff_eq.mpr c50
                    have c50b1 : ((Go.bits .and .i64 (ji49) 1) != 0) = false := bne_eq_false_iff_eq.mpr c50
                    clear c50
                    exact absurd (Option.some.inj H) (by rw [HRT.out]; decide)
                   ·rw [if_neg c50] at H
                    have c50b0 : ((Go.bits .and .i64 (ji49) 1) == 0) = false := beq_eq_false_iff_ne.mpr c50
                    have c50b1 : ((Go.bits .and .i64 (ji49) 1) != 0) = true := bne_iff_ne.mpr c50
                    have H' := Aside0.mk H
                    clear H
                    obtain ⟨Ao53, co53, eo53⟩ := Kd.R_slice HO_12.out
                    subst eo53
                    try go_wp2
                    have n0_ := Aside0.mk (Kd.R_drew HO_4.out)
                    have n1_ := Aside0.mk (Kd.R_drew HO_7.out)
                    have n2_ := Aside0.mk (Kd.R_drew HO_12.out)
                    have n3_ := Aside0.mk (blk_drew BK454.out)
                    have n4_ := Aside0.mk (below_drew1 HB.out)
                    clear HO_4; clear HO_7; clear HO_12; clear BK454; clear HB; have HO_4 := n0_; have HO_7 := n1_; have HO_12 := n2_; have BK454 := n3_; have HB := n4_; clear n0_ n1_ n2_ n3_ n4_
                    have p460 : 0 ≤ (x9_2 : Int) := of_decide_eq_true (by first | (with_reducible assumption) | assumption)
                    have q460 : x9_2 < (t444.length : Int) := of_decide_eq_true (by first | (with_reducible assumption) | assumption)
                    obtain ⟨ad460, e460, hx460_0⟩ := Kd.at_int (Kd.R_reads' HO_7.out).2.2 x9_2 p460 q460
                    obtain rfl : ad450 = ad460 := (by injection e460)
                    replace p460 := eq_true p460
                    replace q460 := eq_true q460
                    have p461 : 0 ≤ (x13_4 : Int) := of_decide_eq_true (by first | (with_reducible assumption) | assumption)
                    have q461 : x13_4 < (t457.length : Int) := of_decide_eq_true (by first | (with_reducible assumption) | assumption)
                    obtain ⟨ad461, e461, hx461_0⟩ := Kd.at_int (Kd.R_reads' HO_12.out).2.2 x13_4 p461 q461
                    cases e461
                    replace p461 := eq_true p461
                    replace q461 := eq_true q461
                    refine start_ (n := 11) (S := fun w' => w'.cell? (ad450.add (x9_2).toNat) = some (.int .i64 (rd t444 x9_2)) ∧ w'.cell? (ad461.add (x13_4).toNat) = some (.int .i64 (rd t457 x13_4))) (ds := []) #[false, false, false, false, false, false, false, false, false, false, false] (by kernel_rfl) rfl rfl ⟨hx460_0, hx461_0⟩ (fun hHeld => ?_); refine with_tabW laws_FnLearning.tab18 laws_FnLearning.bits18 (fun HT_ HW_ => ?_)
                    generalize wr.drew = w54 at HO_4 HO_7 HO_12 BK454 HB hx460_0 hx461_0 hHeld ⊢
                    refine pure_ (i := 0) (N := some 116) (v := ?_) (a' := ?_) #[true, false, false, false, false, false, false, false, false, false, false] rfl rfl (any_of HT_.out (by kernel_rfl)) (fun _ _ _ h => h) (Or.inl ⟨by rfl, ?_⟩) ?_ ?_; rotate_left
                    ·intro w'; go_simp; with_reducible rfl
                    rotate_left
                    ·simp only [Act.put, sT_, s0_, s1_, i64_w, i32_w]; rfl
                    refine pure_ (i := 1) (N := some 117) (v := ?_) (a' := ?_) #[true, true, false, false, false, false, false, false, false, false, false] rfl rfl (any_of HT_.out (by kernel_rfl)) (fun _ _ _ h => h) (Or.inl ⟨by rfl, ?_⟩) ?_ ?_; rotate_left
                    ·intro w'; go_simp; with_reducible rfl
                    rotate_left
                    ·simp only [Act.put, sT_, s0_, s1_, i64_w, i32_w]; rfl
                    refine pure_ (i := 2) (N := some 118) (v := ?_) (a' := ?_) #[true, true, true, false, false, false, false, false, false, false, false] rfl rfl (any_of HT_.out (by kernel_rfl)) (fun _ _ _ h => h) (Or.inl ⟨by rfl, ?_⟩) ?_ ?_; rotate_left
                    ·intro w'; go_simp; with_reducible rfl
                    rotate_left
                    ·simp only [Act.put, sT_, s0_, s1_, i64_w, i32_w]; rfl
                    refine pure_ (i := 4) (N := some 120) (v := ?_) (a' := ?_) #[true, true, true, false, true, false, false, false, false, false, false] rfl rfl (any_of HT_.out (by kernel_rfl)) (fun _ _ _ h => h) (Or.inl ⟨by rfl, ?_⟩) ?_ ?_; rotate_left
                    ·intro w'; go_simp; with_reducible rfl
                    rotate_left
                    ·simp only [Act.put, sT_, s0_, s1_, i64_w, i32_w]; rfl
                    refine pure_ (i := 5) (N := some 121) (v := ?_) (a' := ?_) #[true, true, true, false, true, true, false, false, false, false, false] rfl rfl (any_of HT_.out (by kernel_rfl)) (fun _ _ _ h => h) (Or.inl ⟨by rfl, ?_⟩) ?_ ?_; rotate_left
                    ·intro w'; go_simp; with_reducible rfl
                    rotate_left
                    ·simp only [Act.put, sT_, s0_, s1_, i64_w, i32_w]; rfl
                    refine pure_ (i := 6) (N := some 122) (v := ?_) (a' := ?_) #[true, true, true, false, true, true, true, false, false, false, false] rfl rfl (any_of HT_.out (by kernel_rfl)) (fun _ _ _ h => h) (Or.inl ⟨by rfl, ?_⟩) ?_ ?_; rotate_left
                    ·intro w'; go_simp; with_reducible rfl
                    rotate_left
                    ·simp only [Act.put, sT_, s0_, s1_, i64_w, i32_w]; rfl
                    refine take_ (i := 3) (N := some 119) (v := ?_) (a' := ?_) #[true, true, true, true, true, true, true, false, false, false, false] rfl rfl (take_ofW HT_.out HW_.out (by kernel_rfl)) (fun _ _ _ h => h) (Or.inl ⟨by rfl, ?_⟩) hHeld ?_ ?_
                    rotate_left
                    ·rintro w' ⟨s0, s1⟩
                     go_simp; with_reducible rfl
                    rotate_left
                    ·simp only [Act.put, sT_, s0_, s1_, i64_w, i32_w]; rfl
                    refine take_ (i := 7) (N := some 123) (v := ?_) (a' := ?_) #[true, true, true, true, true, true, true, true, false, false, false] rfl rfl (take_ofW HT_.out HW_.out (by kernel_rfl)) (fun _ _ _ h => h) (Or.inl ⟨by rfl, ?_⟩) hHeld ?_ ?_
                    rotate_left
                    ·rintro w' ⟨s0, s1⟩
                     go_simp; with_reducible rfl
                    rotate_left
                    ·simp only [Act.put, sT_, s0_, s1_, i64_w, i32_w]; rfl
                    refine pure_ (i := 8) (N := some 124) (v := ?_) (a' := ?_) #[true, true, true, true, true, true, true, true, true, false, false] rfl rfl (any_of HT_.out (by kernel_rfl)) (fun _ _ _ h => h) (Or.inl ⟨by rfl, ?_⟩) ?_ ?_; rotate_left
                    ·intro w'; go_simp; with_reducible rfl
                    rotate_left
                    ·simp only [Act.put, sT_, s0_, s1_, i64_w, i32_w]; rfl
                    refine pure_ (i := 9) (N := some 125) (v := ?_) (a' := ?_) #[true, true, true, true, true, true, true, true, true, true, false] rfl rfl (any_of HT_.out (by kernel_rfl)) (fun _ _ _ h => h) (Or.inl ⟨by rfl, ?_⟩) ?_ ?_; rotate_left
                    ·intro w'; go_simp; with_reducible rfl
                    rotate_left
                    ·simp only [Act.put, sT_, s0_, s1_, i64_w, i32_w]; rfl
                    refine pure_ (i := 10) (N := some 126) (v := ?_) (a' := ?_) #[true, true, true, true, true, true, true, true, true, true, true] rfl rfl (any_of HT_.out (by kernel_rfl)) (fun _ _ _ h => h) (Or.inl ⟨by rfl, ?_⟩) ?_ ?_; rotate_left
                    ·intro w'; go_simp; with_reducible rfl
                    rotate_left
                    ·simp only [Act.put, sT_, s0_, s1_, i64_w, i32_w]; rfl
                    refine done_ (done_of HT_.out (by kernel_rfl)) ?_
                    try go_wp2
                    go_roundg k4
                    case measure => have := HJ6.out; have := HK2.out; have := HJ24.out; have := HK4.out; omega
                    case rel => exact ⟨(wrap64 (x13_4 + 1)), (by first | rfl | (simp; done) | (simp [*]; done)), H', ⟨by have := HJ6.out; have := HK2.out; have := HJ24.out; have := HK4.out; omega⟩, ⟨by (with_reducible repeat (first | apply Kd.R_alloc | apply Kd.R_drewN | apply Kd.R_drew)); exact HO_4.out⟩, ⟨by (with_reducible repeat (first | apply Kd.R_alloc | apply Kd.R_drewN | apply Kd.R_drew)); exact HO_7.out⟩, ⟨by (with_reducible repeat (first | apply Kd.R_alloc | apply Kd.R_drewN | apply Kd.R_drew)); exact HO_12.out⟩, ⟨by (with_reducible repeat (first | refine blk_drewN ?_ _ | refine blk_drew ?_ | refine blk_alloc ?_ _)); exact BK454.out⟩, ⟨by repeat (first | (with_reducible first | exact HB.out | apply below_alloc | apply pw_below_drewN | apply below_drew1 | refine below_set ?_ GE454.out) | exact HB.out)⟩⟩
                  ·rw [if_neg c48] at H
                   exact absurd H (by simp)
                 ·rw [if_neg c47] at H
                  exact absurd H (by simp)
                ·rw [if_neg c46] at H
                 exact absurd H (by simp)
               ·rw [if_neg c45] at H
                exact absurd H (by simp)
              ·rw [if_neg c44] at H
               have c44b0 : decide (x13_4 < (t457.length : Int)) = false := decide_eq_false c44
               clear c44
               have H' := Aside0.mk H
               clear H
               obtain ⟨Ao55, co55, eo55⟩ := Kd.R_slice HO_12.out
               subst eo55
               go_wp2
               go_roundg k4
               case measure => have := HJ6.out; have := HK2.out; have := HJ24.out; have := HK4.out; omega
               case rel => exact ⟨(wrap64 (x9_2 + 1)), (by first | rfl | (simp; done) | (simp [*]; done)), H', ⟨by have := HJ6.out; have := HK2.out; have := HJ24.out; have := HK4.out; omega⟩, ⟨by (with_reducible repeat (first | apply Kd.R_alloc | apply Kd.R_drewN | apply Kd.R_drew)); exact HO_4.out⟩, ⟨by (with_reducible repeat (first | apply Kd.R_alloc | apply Kd.R_drewN | apply Kd.R_drew)); exact Kd.R_mono HO_7.out (fun _ hk => trivial)⟩, ⟨by repeat (first | (with_reducible first | exact HB.out | apply below_alloc | apply pw_below_drewN | apply below_drew1 | refine below_set ?_ GE454.out) | exact HB.out)⟩⟩
        ·rw [if_neg c23] at H
         exact absurd H (by simp)
       ·rw [if_neg c22] at H
        have c22b0 : decide (x9_2 < (t444.length : Int)) = false := decide_eq_false c22
        clear c22; replace H := Option.bind_eq_some_iff.mp H; obtain ⟨⟨t462, t463⟩, A560, H⟩ := H; (try dsimp only at H); have A56 := Aside0.mk A560; clear A560; have HC57 := Aside0.mk H; clear H
        obtain ⟨Ao58, co58, eo58⟩ := Kd.R_slice HO_7.out
        subst eo58
        go_upto_region 21 with (first | ((with_reducible refine gate_callee (f := 14) rfl ?_); refine goesL_ (some 130) rfl rfl Try.func14 (by kernel_rfl) rfl #[.int .i64 t436, .slice Ao9 t437.length co9] rfl (by first | rfl | (simp only [List.map_toArray, List.map_cons, List.map_nil, List.length_drop, List.length_take]; rfl)) ?_; (with_reducible refine (impl_LeastSet.calls k2 t436 _ _ t437 t462 t463 _ ?side1 ?side2 A56.out).mono ?_); (case side1 => repeat (first | exact (Kd.R_reads' HO_4.out).2.2 | (with_reducible refine Kd.C_alloc ?_ _) | (with_reducible refine Kd.C_drewN ?_ _) | (with_reducible refine Kd.C_drew ?_))); (case side2 => exact (Kd.R_reads' HO_4.out).2.1); rintro e w59 ⟨rfl, hb⟩; refine ⟨_, rfl, ?_⟩; have n0_ := Aside0.mk (Kd.R_below (by (with_reducible repeat (first | apply Kd.R_alloc | apply Kd.R_drewN | apply Kd.R_drew)); exact HO_4.out) hb); have n1_ := Aside0.mk (Kd.R_below (by (with_reducible repeat (first | apply Kd.R_alloc | apply Kd.R_drewN | apply Kd.R_drew)); exact HO_7.out) hb); have n2_ := Aside0.mk (below_step (by repeat (first | (with_reducible first | exact HB.out | apply below_alloc | apply pw_below_drewN | apply below_drew1) | exact HB.out)) hb); clear HO_4; clear HO_7; clear HB; have HO_4 := n0_; have HO_7 := n1_; have HB := n2_; clear n0_ n1_ n2_; (try clear hb); (try clear hb2); (try clear hk); (try clear hi)))
        (try simp only [Act.put, List.setIfInBounds_toArray, List.set_cons_zero, List.set_cons_succ])
        go_cut [146] (fun v146 wc => ∃ (kq : Nat) (x146_56 : Bool), v146 = .bool x146_56 ∧ Aside0 (laws_FnLearning.j4 kq l0 x146_56 = some r) ∧ Aside0 (kq ≤ k2) ∧ Aside0 (Below w.heap.size w wc))
        case first =>
         as_aux_lemma =>
         have H := HC57.out
         clear HC57
         by_cases c60 : (t463 != (decide ((t444.length : Int) > 0))) = true
         ·rw [if_pos c60] at H
          have c60b0 : (t463 != (decide ((t444.length : Int) > 0))) = true := c60
          (try (have c60b1 : decide (t463 = (decide ((t444.length : Int) > 0))) = false := by simpa using c60))
          (try (have c60b2 : (t463 == (decide ((t444.length : Int) > 0))) = false := by simpa using c60))
          (try (have c60b3 : ¬ (t463 = (decide ((t444.length : Int) > 0))) := by simpa using c60))
          clear c60
          (first | rw [c60b0] | rw [c60b1] | (simp only [i64_w, i32_w]; rw [c60b0]) | skip)
          first | exact (laws_FnLearning.j0_dead H HRT.out).elim | exact (laws_FnLearning.j2_dead H HRT.out).elim | exact (laws_FnLearning.j4_dead H HRT.out).elim | exact (laws_FnLearning.j5_dead H HRT.out).elim
         ·rw [if_neg c60] at H
          have c60b0 : (t463 != (decide ((t444.length : Int) > 0))) = false := by simpa using c60
          (try (have c60b1 : decide (t463 = (decide ((t444.length : Int) > 0))) = true := by simpa using c60))
          (try (have c60b2 : (t463 == (decide ((t444.length : Int) > 0))) = true := by simpa using c60))
          clear c60
          (first | rw [c60b0] | rw [c60b1] | (simp only [i64_w, i32_w]; rw [c60b0]) | skip)
          by_cases c61 : t463 = true
          ·subst c61
           have c60b9 : decide (0 < t444.length) = true := by (have e_ : decide (0 < t444.length) = decide ((t444.length : Int) > 0) := decide_eq_decide.mpr (by omega)); rw [e_]; revert c60b0; cases decide ((t444.length : Int) > 0) <;> simp
           have H1 : ((laws_has.f k2 t444 t462).bind fun t464 => (laws_FnLearning.j4 k2 l0 (!t464))) = some r := by rw [if_pos rfl] at H; exact H
           clear H; have H := H1; clear H1; replace H := Option.bind_eq_some_iff.mp H; obtain ⟨t464, A620, H⟩ := H
           replace H : (laws_FnLearning.j4 k2 l0 (!t464)) = some r := H
           have A62 := Aside0.mk A620; clear A620
           have H' := Aside0.mk H
           clear H
           go_wp2_with (first | (go_at_call 15; (with_reducible refine (laws_has.calls k2 _ _ t444 t462 t464 _ ?side1 ?side2 A62.out).mono ?_); (case side1 => repeat (first | exact (Kd.R_reads' HO_7.out).2.2 | (with_reducible refine Kd.C_alloc ?_ _) | (with_reducible refine Kd.C_drewN ?_ _) | (with_reducible refine Kd.C_drew ?_))); (case side2 => exact (Kd.R_reads' HO_7.out).2.1); rintro e w' ⟨rfl, ⟨nd, rfl⟩⟩))
           go_meet
           case rel => exact ⟨_, (!t464), (by first | rfl | (simp; done) | (simp [*]; done)), H', ⟨by have := HJ6.out; have := HK2.out; first | omega | exact Nat.le_refl _⟩, ⟨by repeat (first | (with_reducible first | exact HB.out | apply below_alloc | apply pw_below_drewN | apply below_drew1) | exact HB.out)⟩⟩
          ·replace c61 := Bool.eq_false_iff.mpr c61
           subst c61
           have c60b9 : decide (0 < t444.length) = false := by (have e_ : decide (0 < t444.length) = decide ((t444.length : Int) > 0) := decide_eq_decide.mpr (by omega)); rw [e_]; revert c60b0; cases decide ((t444.length : Int) > 0) <;> simp
           have H1 : (laws_FnLearning.j4 k2 l0 false) = some r := by rw [if_neg (show ¬ (false = true) by decide)] at H; exact H
           clear H; have H := H1; clear H1
           have H' := Aside0.mk H
           clear H
           go_wp2
           go_meet
           case rel => exact ⟨_, (false), (by first | rfl | (simp; done) | (simp [*]; done)), H', ⟨by have := HJ6.out; have := HK2.out; first | omega | exact Nat.le_refl _⟩, ⟨by repeat (first | (with_reducible first | exact HB.out | apply below_alloc | apply pw_below_drewN | apply below_drew1) | exact HB.out)⟩⟩
        case rest =>
         as_aux_lemma =>
         clear HC57; (try clear c1); (try clear c2); (try clear p2); (try clear c3); (try clear c4); (try clear p4); (try clear q4); (try clear hx4); (try clear c5); (try clear c6); (try clear p6); (try clear c7); (try clear c10); (try clear c12); (try clear c12b0); (try clear c12b1); (try clear c12b2); (try clear c13); (try clear c14); (try clear c21); (try clear c22); (try clear c22b0); (try clear c23); (try clear c23b0); (try clear c30); (try clear c32); (try clear c40); (try clear c44); (try clear c44b0); (try clear c45); (try clear c45b0); (try clear p45); (try clear q45); (try clear hx45)
         (try clear c46); (try clear c46b0); (try clear p46); (try clear q46); (try clear hx46); (try clear c47); (try clear c47b0); (try clear c48); (try clear c48b0); (try clear c48b1); (try clear c50); (try clear c50b0); (try clear c50b1); (try clear c60); (try clear c60b0); (try clear c60b1); (try clear c60b2); (try clear c61); (try clear hcz29_0); (try clear hcz29_1); (try clear hcz34_0); (try clear hcz34_1); (try clear hcz36_0); (try clear hcz36_1); (try clear hcz38_0); (try clear hcz38_1); (try clear hcz42_0); (try clear hcz42_1); (try clear hfz29_0); (try clear hfz29_1); (try clear hfz34_0)
         (try clear hfz34_1); (try clear hfz36_0); (try clear hfz36_1); (try clear hfz38_0); (try clear hfz38_1); (try clear hfz42_0); (try clear hfz42_1); (try clear hx450_0); (try clear hx460_0); (try clear hx461_0); (try clear p2); (try clear p4); (try clear p450); (try clear p460); (try clear p461); (try clear q4); (try clear q450); (try clear q460); (try clear q461); obtain ⟨kq, x146_56, rfl, HA, HJ56, HB⟩ := hcut
         cases kq with
         | zero => exact absurd HA.out (by simp [laws_FnLearning.j4])
         | succ kj56 =>
          have H := HA.out
          clear HA
          simp only [laws_FnLearning.j4] at H
          by_cases c63 : x146_56 = true
          ·subst c63
           have H1 : (some false) = some r := by rw [if_pos rfl] at H; exact H
           clear H; have H := H1; clear H1
           exact absurd (Option.some.inj H) (by rw [HRT.out]; decide)
          ·replace c63 := Bool.eq_false_iff.mpr c63
           subst c63
           have H1 : ((spec_DrawSamplesOf.f kj56 l0).bind fun bt465 => ((impl_SamplesOf.f kj56 bt465.1 bt465.2.1 bt465.2.2).bind fun bt471 => ((spec_SamplesOf.f kj56 bt465.1 bt465.2.1 bt465.2.2).bind fun bt475 => (if (bt471.2 != bt475.2) = true then (laws_FnLearning.j5 kj56 l0 bt471.2 bt475.1 true bt465.1 bt465.2.1) else ((laws_sameSamples.f kj56 bt471.1 bt475.1).bind fun t479 => (laws_FnLearning.j5 kj56 l0 bt471.2 bt475.1 (!t479) bt465.1 bt465.2.1)))))) = some r := by rw [if_neg (show ¬ (false = true) by decide)] at H; exact H
           clear H; have H := H1; clear H1; replace H := Option.bind_eq_some_iff.mp H; obtain ⟨⟨t465, t466, t467⟩, A640, H⟩ := H; (try dsimp only at H); have A64 := Aside0.mk A640; clear A640; replace H := Option.bind_eq_some_iff.mp H; obtain ⟨⟨t471, t474⟩, A650, H⟩ := H; (try dsimp only at H); have A65 := Aside0.mk A650; clear A650; replace H := Option.bind_eq_some_iff.mp H; obtain ⟨⟨t475, t478⟩, A660, H⟩ := H; (try dsimp only at H); have A66 := Aside0.mk A660; clear A660; have HC67 := Aside0.mk H; clear H
           go_upto_region 26 with (first | ((with_reducible refine gate_callee (f := 16) rfl ?_); refine goesL_ (some 149) rfl rfl Try.func16 (by kernel_rfl) rfl #[.slice A0 l0.length c0] rfl (by first | rfl | (simp only [List.map_toArray, List.map_cons, List.map_nil, List.length_drop, List.length_take]; rfl)) ?_; (with_reducible refine (spec_DrawSamplesOf.calls kj56 _ _ l0 t465 t466 t467 _ ?side1 ?side2 A64.out).mono ?_); (case side1 => repeat (first | exact (Kd.C_below HR0.out HB.out) | (with_reducible refine Kd.C_alloc ?_ _) | (with_reducible refine Kd.C_drewN ?_ _) | (with_reducible refine Kd.C_drew ?_))); (case side2 => exact HC0.out); rintro e w68 ⟨v468, rfl, ho0, hb⟩; refine ⟨_, rfl, ?_⟩; have n0_ := Aside0.mk (Kd.R_lower ho0 (below_size (by repeat (first | (with_reducible first | exact HB.out | apply below_alloc | apply pw_below_drewN | apply below_drew1) | exact HB.out)))); have n1_ := Aside0.mk (below_step (by repeat (first | (with_reducible first | exact HB.out | apply below_alloc | apply pw_below_drewN | apply below_drew1) | exact HB.out)) hb); clear HB; have HO469 := n0_; have HB := n1_; clear n0_ n1_; (try clear hb); (try clear hb2); (try clear hk); (try clear hi); (try clear ho0)) | ((with_reducible refine gate_dst (N := 16) rfl ?_); (try (refine gate_guard (by rfl) ?_; dsimp only)); refine box_event ?hg (N := 16) ?hd (cs := #[.int .i64 0, .int .i64 0]) (t := 33) ?hr ?_; (case hd => rfl); (case hg => rfl); (case hr => first | (go_simp; done) | (go_simp; rfl)); intro gb470 hg w69 hbox hb; have n0_ := Aside0.mk (Kd.R_below (by (with_reducible repeat (first | apply Kd.R_alloc | apply Kd.R_drewN | apply Kd.R_drew)); exact HO469.out) hb); have n1_ := Aside0.mk (below_step (by repeat (first | (with_reducible first | exact HB.out | apply below_alloc | apply pw_below_drewN | apply below_drew1) | exact HB.out)) hb); have n2_ := Aside0.mk (hbox); have n3_ := Aside0.mk ((by rw [hg]; exact (below_size (by repeat (first | (with_reducible first | exact HB.out | apply below_alloc | apply pw_below_drewN | apply below_drew1) | exact HB.out))) : w.heap.size ≤ gb470)); have n4_ := Aside0.mk ((by rw [hg]; exact (below_size (by repeat (first | (with_reducible first | exact HB.out | apply below_alloc | apply pw_below_drewN | apply below_drew1) | exact HB.out))) : w.heap.size ≤ gb470)); clear HO469; clear HB; have HO469 := n0_; have HB := n1_; have BK470 := n2_; have GW470 := n3_; have GE470 := n4_; clear n0_ n1_ n2_ n3_ n4_; clear hb hbox hg; have hcz70_0 : w69.cell? ⟨gb470, 0, none⟩ = some (.int .i64 0) := (blk_cell BK470.out 0).trans rfl; have hcz70_1 : w69.cell? ⟨gb470, 1, none⟩ = some (.int .i64 0) := (blk_cell BK470.out 1).trans rfl; have hfz70_0 := blk_frozen BK470.out 0; have hfz70_1 := blk_frozen BK470.out 1; obtain ⟨Ao71, co71, eo71⟩ := Kd.R_slice HO469.out; subst eo71) | ((with_reducible refine gate_callee (f := 17) rfl ?_); refine goesL_ (some 155) rfl rfl Try.func17 (by kernel_rfl) rfl #[.agg #[.int .i64 t465, .int .i64 t466], .slice Ao71 t467.length co71] rfl (by first | rfl | (simp only [List.map_toArray, List.map_cons, List.map_nil, List.length_drop, List.length_take]; rfl)) ?_; (with_reducible refine (impl_SamplesOf.calls kj56 t465 t466 _ _ t467 t471 t474 _ ?side1 ?side2 A65.out).mono ?_); (case side1 => refine (Kd.R_reads' (e := 3) (base := w.heap.size) (ok := fun k_ => True) (n := t467.length) (c := co71) ?_).2.2; exact (by (with_reducible repeat (first | apply Kd.R_alloc | apply Kd.R_drewN | apply Kd.R_drew)); exact (Kd.R_mono (Kd.R_far (p := ⟨gb470, 1, none⟩) (Kd.R_far (p := ⟨gb470, 0, none⟩) (Kd.R_types HO469.out BK470.out (by decide)) (fun _ hk => hk.2) (.int .i64 t465)) (fun _ hk => hk.2) (.int .i64 t466)) (fun _ h_ => h_.1)))); (case side2 => exact (Kd.R_reads' HO469.out).2.1); rintro e w72 ⟨v472, rfl, ho0, hb⟩; refine ⟨_, rfl, ?_⟩; have n0_ := Aside0.mk (Kd.R_below (by (with_reducible repeat (first | apply Kd.R_alloc | apply Kd.R_drewN | apply Kd.R_drew)); exact (Kd.R_mono (Kd.R_far (p := ⟨gb470, 1, none⟩) (Kd.R_far (p := ⟨gb470, 0, none⟩) (Kd.R_types HO469.out BK470.out (by decide)) (fun _ hk => hk.2) (.int .i64 t465)) (fun _ hk => hk.2) (.int .i64 t466)) (fun _ h_ => h_.1))) hb); have n1_ := Aside0.mk (Kd.R_lower ho0 (below_size (by repeat (first | (with_reducible first | exact HB.out | apply below_alloc | apply pw_below_drewN | apply below_drew1 | refine below_set ?_ GE470.out) | exact HB.out)))); have n2_ := Aside0.mk (blk_below (g := gb470) (o := .cells #[.int .i64 t465, .int .i64 t466] 33 (0, 0)) (by (with_reducible repeat (first | refine blk_drewN ?_ _ | refine blk_drew ?_ | refine blk_alloc ?_ _)); refine blk_put (cs := #[.int .i64 t465, .int .i64 0]) ?_ 1 _ rfl; (with_reducible repeat (first | refine blk_drewN ?_ _ | refine blk_drew ?_ | refine blk_alloc ?_ _)); refine blk_put (cs := #[.int .i64 0, .int .i64 0]) ?_ 0 _ rfl; (with_reducible repeat (first | refine blk_drewN ?_ _ | refine blk_drew ?_ | refine blk_alloc ?_ _)); exact BK470.out) hb); have n3_ := Aside0.mk (below_step (by repeat (first | (with_reducible first | exact HB.out | apply below_alloc | apply pw_below_drewN | apply below_drew1 | refine below_set ?_ GE470.out) | exact HB.out)) hb); clear HO469; clear BK470; clear HB; have HO469 := n0_; have HO473 := n1_; have BK470 := n2_; have HB := n3_; clear n0_ n1_ n2_ n3_; (try clear hb); (try clear hb2); (try clear hk); (try clear hi); (try clear ho0); have hcz73_0 : w72.cell? ⟨gb470, 0, none⟩ = some (.int .i64 t465) := (blk_cell BK470.out 0).trans rfl; have hcz73_1 : w72.cell? ⟨gb470, 1, none⟩ = some (.int .i64 t466) := (blk_cell BK470.out 1).trans rfl; have hfz73_0 := blk_frozen BK470.out 0; have hfz73_1 := blk_frozen BK470.out 1) | ((with_reducible refine gate_callee (f := 18) rfl ?_); refine goesL_ (some 161) rfl rfl Try.func18 (by kernel_rfl) rfl #[.agg #[.int .i64 t465, .int .i64 t466], .slice Ao71 t467.length co71] rfl (by first | rfl | (simp only [List.map_toArray, List.map_cons, List.map_nil, List.length_drop, List.length_take]; rfl)) ?_; (with_reducible refine (spec_SamplesOf.calls kj56 t465 t466 _ _ t467 t475 t478 _ ?side1 ?side2 A66.out).mono ?_); (case side1 => repeat (first | exact (Kd.R_reads' HO469.out).2.2 | (with_reducible refine Kd.C_alloc ?_ _) | (with_reducible refine Kd.C_drewN ?_ _) | (with_reducible refine Kd.C_drew ?_))); (case side2 => exact (Kd.R_reads' HO469.out).2.1); rintro e w74 ⟨v476, rfl, ho0, hb⟩; refine ⟨_, rfl, ?_⟩; have n0_ := Aside0.mk (Kd.R_below (by (with_reducible repeat (first | apply Kd.R_alloc | apply Kd.R_drewN | apply Kd.R_drew)); exact HO469.out) hb); have n1_ := Aside0.mk (Kd.R_elder' (by (with_reducible repeat (first | apply Kd.R_alloc | apply Kd.R_drewN | apply Kd.R_drew)); exact HO473.out) (Kd.R_base ho0) hb); have n2_ := Aside0.mk (Kd.R_lower (Kd.R_new' ho0 (Kd.R_lt (by (with_reducible repeat (first | apply Kd.R_alloc | apply Kd.R_drewN | apply Kd.R_drew)); exact HO473.out))) (below_size (by repeat (first | (with_reducible first | exact HB.out | apply below_alloc | apply pw_below_drewN | apply below_drew1 | refine below_set ?_ GE470.out) | exact HB.out)))); have n3_ := Aside0.mk (blk_below (g := gb470) (o := .cells #[.int .i64 t465, .int .i64 t466] 33 (0, 0)) (by (with_reducible repeat (first | refine blk_drewN ?_ _ | refine blk_drew ?_ | refine blk_alloc ?_ _)); exact BK470.out) hb); have n4_ := Aside0.mk (below_step (by repeat (first | (with_reducible first | exact HB.out | apply below_alloc | apply pw_below_drewN | apply below_drew1 | refine below_set ?_ GE470.out) | exact HB.out)) hb); clear HO469; clear HO473; clear BK470; clear HB; have HO469 := n0_; have HO473 := n1_; have HO477 := n2_; have BK470 := n3_; have HB := n4_; clear n0_ n1_ n2_ n3_ n4_; (try clear hb); (try clear hb2); (try clear hk); (try clear hi); (try clear ho0)))
           (try simp only [Act.put, List.setIfInBounds_toArray, List.set_cons_zero, List.set_cons_succ])
           go_cut [172] (fun v172 wc => ∃ (kq : Nat) (x172_66 : Bool), v172 = .bool x172_66 ∧ Aside0 (laws_FnLearning.j5 kq l0 t474 t475 x172_66 t465 t466 = some r) ∧ Aside0 (kq ≤ kj56) ∧ Aside0 (Kd.R k57 57 wc w.heap.size (fun _ => True) v476 t475) ∧ Aside0 (wc.heap[gb470]? = some (.cells #[.int .i64 t465, .int .i64 t466] 33 (0, 0))) ∧ Aside0 (Below w.heap.size w wc))
           case first =>
            as_aux_lemma =>
            have H := HC67.out
            clear HC67
            by_cases c75 : (t474 != t478) = true
            ·rw [if_pos c75] at H
             have c75b0 : (t474 != t478) = true := c75
             (try (have c75b1 : decide (t474 = t478) = false := by simpa using c75))
             (try (have c75b2 : (t474 == t478) = false := by simpa using c75))
             (try (have c75b3 : ¬ (t474 = t478) := by simpa using c75))
             clear c75
             (first | rw [c75b0] | rw [c75b1] | (simp only [i64_w, i32_w]; rw [c75b0]) | skip)
             first | exact (laws_FnLearning.j0_dead H HRT.out).elim | exact (laws_FnLearning.j2_dead H HRT.out).elim | exact (laws_FnLearning.j4_dead H HRT.out).elim | exact (laws_FnLearning.j5_dead H HRT.out).elim
            ·rw [if_neg c75] at H
             have c75b0 : (t474 != t478) = false := by simpa using c75
             (try (have c75b1 : decide (t474 = t478) = true := by simpa using c75))
             (try (have c75b2 : (t474 == t478) = true := by simpa using c75))
             clear c75
             (first | rw [c75b0] | rw [c75b1] | (simp only [i64_w, i32_w]; rw [c75b0]) | skip)
             replace H := Option.bind_eq_some_iff.mp H; obtain ⟨t479, A760, H⟩ := H
             replace H : (laws_FnLearning.j5 kj56 l0 t474 t475 (!t479) t465 t466) = some r := H
             have A76 := Aside0.mk A760; clear A760
             have H' := Aside0.mk H
             clear H
             obtain ⟨Ao77, co77, eo77⟩ := Kd.R_slice HO473.out
             subst eo77
             obtain ⟨Ao78, co78, eo78⟩ := Kd.R_slice HO477.out
             subst eo78
             go_wp2_with (first | (go_at_call 19; (with_reducible refine (laws_sameSamples.calls kj56 _ _ t471 _ _ t475 t479 _ ?side1 ?side2 ?side3 ?side4 A76.out).mono ?_); (case side1 => repeat (first | exact (Kd.R_reads' HO473.out).2.2 | (with_reducible refine Kd.C_alloc ?_ _) | (with_reducible refine Kd.C_drewN ?_ _) | (with_reducible refine Kd.C_drew ?_))); (case side2 => exact (Kd.R_reads' HO473.out).2.1); (case side3 => repeat (first | exact (Kd.R_reads' HO477.out).2.2 | (with_reducible refine Kd.C_alloc ?_ _) | (with_reducible refine Kd.C_drewN ?_ _) | (with_reducible refine Kd.C_drew ?_))); (case side4 => exact (Kd.R_reads' HO477.out).2.1); rintro e w' ⟨rfl, ⟨nd, rfl⟩⟩))
             go_meet
             case rel => exact ⟨_, (!t479), (by first | rfl | (simp; done) | (simp [*]; done)), H', ⟨by have := HJ6.out; have := HK2.out; have := HJ56.out; first | omega | exact Nat.le_refl _⟩, ⟨by (with_reducible repeat (first | apply Kd.R_alloc | apply Kd.R_drewN | apply Kd.R_drew)); exact Kd.R_mono HO477.out (fun _ hk => trivial)⟩, ⟨by (with_reducible repeat (first | refine blk_drewN ?_ _ | refine blk_drew ?_ | refine blk_alloc ?_ _)); exact BK470.out⟩, ⟨by repeat (first | (with_reducible first | exact HB.out | apply below_alloc | apply pw_below_drewN | apply below_drew1 | refine below_set ?_ GE470.out) | exact HB.out)⟩⟩
           case rest =>
            as_aux_lemma =>
            clear HC67; (try clear c1); (try clear c2); (try clear p2); (try clear c3); (try clear c4); (try clear p4); (try clear q4); (try clear hx4); (try clear c5); (try clear c6); (try clear p6); (try clear c7); (try clear c10); (try clear c12); (try clear c12b0); (try clear c12b1); (try clear c12b2); (try clear c13); (try clear c14); (try clear c16); (try clear c17); (try clear c18); (try clear c21); (try clear c22); (try clear c22b0); (try clear c23); (try clear c23b0); (try clear c30); (try clear c32); (try clear c40); (try clear c44); (try clear c44b0); (try clear c45); (try clear c45b0)
            (try clear p45); (try clear q45); (try clear hx45); (try clear c46); (try clear c46b0); (try clear p46); (try clear q46); (try clear hx46); (try clear c47); (try clear c47b0); (try clear c48); (try clear c48b0); (try clear c48b1); (try clear c50); (try clear c50b0); (try clear c50b1); (try clear c60); (try clear c60b0); (try clear c60b1); (try clear c60b2); (try clear c61); (try clear c63); (try clear p64); (try clear c75); (try clear c75b0); (try clear c75b1); (try clear c75b2); (try clear hcz29_0); (try clear hcz29_1); (try clear hcz34_0); (try clear hcz34_1); (try clear hcz36_0)
            (try clear hcz36_1); (try clear hcz38_0); (try clear hcz38_1); (try clear hcz42_0); (try clear hcz42_1); (try clear hcz70_0); (try clear hcz70_1); (try clear hcz73_0); (try clear hcz73_1); (try clear hfz29_0); (try clear hfz29_1); (try clear hfz34_0); (try clear hfz34_1); (try clear hfz36_0); (try clear hfz36_1); (try clear hfz38_0); (try clear hfz38_1); (try clear hfz42_0); (try clear hfz42_1); (try clear hfz70_0); (try clear hfz70_1); (try clear hfz73_0); (try clear hfz73_1); (try clear hx450_0); (try clear hx460_0); (try clear hx461_0); (try clear p2); (try clear p4)
            (try clear p45); (try clear p450); (try clear p46); (try clear p460); (try clear p461); (try clear p6); (try clear q4); (try clear q45); (try clear q450); (try clear q46); (try clear q460); (try clear q461); obtain ⟨kq, x172_66, rfl, HA, HJ66, HO_20, BK470, HB⟩ := hcut
            cases kq with
            | zero => exact absurd HA.out (by simp [laws_FnLearning.j5])
            | succ kj66 =>
             have H := HA.out
             clear HA
             simp only [laws_FnLearning.j5] at H
             by_cases c79 : x172_66 = true
             ·subst c79
              have H1 : (some false) = some r := by rw [if_pos rfl] at H; exact H
              clear H; have H := H1; clear H1
              exact absurd (Option.some.inj H) (by rw [HRT.out]; decide)
             ·replace c79 := Bool.eq_false_iff.mpr c79
              subst c79
              have H1 : (if t474 = true then ((impl_LeastSet.f kj66 t465 t475).bind fun bt480 => ((impl_IsConsistent.f kj66 t465 t466 t475).bind fun t482 => (if t482 = true then (if bt480.2 = true then ((impl_CountOnes.f 5 bt480.1).bind fun t483 => ((impl_VariablesOf.f kj66 t465 t466).bind fun t484 => (if t483 > (t484.length : Int) then (some false) else (laws_FnLearning.j6 kj66 l0)))) else (some false)) else (some false)))) else (laws_FnLearning.j6 kj66 l0)) = some r := by rw [if_neg (show ¬ (false = true) by decide)] at H; exact H
              clear H; have H := H1; clear H1; have HC80 := Aside0.mk H; clear H
              go_upto_if 173 with (fail)
              go_cut [] (fun wc => ∃ (kq : Nat), Aside0 (laws_FnLearning.j6 kq l0 = some r) ∧ Aside0 (kq ≤ kj66) ∧ Aside0 (wc.heap[gb470]? = some (.cells #[.int .i64 t465, .int .i64 t466] 33 (0, 0))) ∧ Aside0 (Below w.heap.size w wc))
              case first =>
               as_aux_lemma =>
               have H := HC80.out
               clear HC80
               by_cases c81 : t474 = true
               ·subst c81
                have H1 : ((impl_LeastSet.f kj66 t465 t475).bind fun bt480 => ((impl_IsConsistent.f kj66 t465 t466 t475).bind fun t482 => (if t482 = true then (if bt480.2 = true then ((impl_CountOnes.f 5 bt480.1).bind fun t483 => ((impl_VariablesOf.f kj66 t465 t466).bind fun t484 => (if t483 > (t484.length : Int) then (some false) else (laws_FnLearning.j6 kj66 l0)))) else (some false)) else (some false)))) = some r := by rw [if_pos rfl] at H; exact H
                clear H; have H := H1; clear H1; replace H := Option.bind_eq_some_iff.mp H; obtain ⟨⟨t480, t481⟩, A820, H⟩ := H; (try dsimp only at H); have A82 := Aside0.mk A820; clear A820; replace H := Option.bind_eq_some_iff.mp H; obtain ⟨t482, A830, H⟩ := H; (try dsimp only at H); have A83 := Aside0.mk A830; clear A830
                by_cases c84 : t482 = true
                ·subst c84
                 have H1 : (if t481 = true then ((impl_CountOnes.f 5 t480).bind fun t483 => ((impl_VariablesOf.f kj66 t465 t466).bind fun t484 => (if t483 > (t484.length : Int) then (some false) else (laws_FnLearning.j6 kj66 l0)))) else (some false)) = some r := by rw [if_pos rfl] at H; exact H
                 clear H; have H := H1; clear H1
                 by_cases c85 : t481 = true
                 ·subst c85
                  have H1 : ((impl_CountOnes.f 5 t480).bind fun t483 => ((impl_VariablesOf.f kj66 t465 t466).bind fun t484 => (if t483 > (t484.length : Int) then (some false) else (laws_FnLearning.j6 kj66 l0)))) = some r := by rw [if_pos rfl] at H; exact H
                  clear H; have H := H1; clear H1; replace H := Option.bind_eq_some_iff.mp H; obtain ⟨t483, A860, H⟩ := H; (try dsimp only at H); have A86 := Aside0.mk A860; clear A860; replace H := Option.bind_eq_some_iff.mp H; obtain ⟨t484, A870, H⟩ := H
                  replace H : (if t483 > (t484.length : Int) then (some false) else (laws_FnLearning.j6 kj66 l0)) = some r := H
                  have A87 := Aside0.mk A870; clear A870
                  by_cases c88 : t483 > (t484.length : Int)
                  ·rw [if_pos c88] at H
                   have c88b0 : decide ((t484.length : Int) < t483) = true := decide_eq_true c88
                   clear c88
                   (first | rw [c88b0] | (simp only [i64_w, i32_w]; rw [c88b0]) | skip)
                   exact absurd (Option.some.inj H) (by rw [HRT.out]; decide)
                  ·rw [if_neg c88] at H
                   have c88b0 : decide ((t484.length : Int) < t483) = false := decide_eq_false c88
                   clear c88
                   (first | rw [c88b0] | (simp only [i64_w, i32_w]; rw [c88b0]) | skip)
                   have H' := Aside0.mk H
                   clear H
                   have hcz97_0 : wc.cell? ⟨gb470, 0, none⟩ = some (.int .i64 t465) := (blk_cell BK470.out 0).trans rfl
                   have hcz97_1 : wc.cell? ⟨gb470, 1, none⟩ = some (.int .i64 t466) := (blk_cell BK470.out 1).trans rfl
                   have hfz97_0 := blk_frozen BK470.out 0
                   have hfz97_1 := blk_frozen BK470.out 1
                   obtain ⟨Ao98, co98, eo98⟩ := Kd.R_slice HO_20.out
                   subst eo98
                   try go_wp2_with (first | ((with_reducible refine gate_callee (f := 14) rfl ?_); refine goesL_ (some 178) rfl rfl Try.func14 (by kernel_rfl) rfl #[.int .i64 t465, .slice Ao98 t475.length co98] rfl (by first | rfl | (simp only [List.map_toArray, List.map_cons, List.map_nil, List.length_drop, List.length_take]; rfl)) ?_; (with_reducible refine (impl_LeastSet.calls kj66 t465 _ _ t475 t480 true _ ?side1 ?side2 A82.out).mono ?_); (case side1 => repeat (first | exact (Kd.R_reads' HO_20.out).2.2 | (with_reducible refine Kd.C_alloc ?_ _) | (with_reducible refine Kd.C_drewN ?_ _) | (with_reducible refine Kd.C_drew ?_))); (case side2 => exact (Kd.R_reads' HO_20.out).2.1); rintro e w99 ⟨rfl, hb⟩; refine ⟨_, rfl, ?_⟩; have n0_ := Aside0.mk (Kd.R_below (by (with_reducible repeat (first | apply Kd.R_alloc | apply Kd.R_drewN | apply Kd.R_drew)); exact HO_20.out) hb); have n1_ := Aside0.mk (blk_below (g := gb470) (o := .cells #[.int .i64 t465, .int .i64 t466] 33 (0, 0)) (by (with_reducible repeat (first | refine blk_drewN ?_ _ | refine blk_drew ?_ | refine blk_alloc ?_ _)); exact BK470.out) hb); have n2_ := Aside0.mk (below_step (by repeat (first | (with_reducible first | exact HB.out | apply below_alloc | apply pw_below_drewN | apply below_drew1 | refine below_set ?_ GE470.out) | exact HB.out)) hb); clear HO_20; clear BK470; clear HB; have HO_20 := n0_; have BK470 := n1_; have HB := n2_; clear n0_ n1_ n2_; (try clear hb); (try clear hb2); (try clear hk); (try clear hi)))
                   have n0_ := Aside0.mk (Kd.R_drew HO_20.out)
                   have n1_ := Aside0.mk (blk_drew BK470.out)
                   have n2_ := Aside0.mk (below_drew1 HB.out)
                   clear HO_20; clear BK470; clear HB; have HO_20 := n0_; have BK470 := n1_; have HB := n2_; clear n0_ n1_ n2_
                   refine start_ (n := 17) (S := fun w' => w'.cell? ⟨gb470, 0, none⟩ = some (.int .i64 t465) ∧ w'.cell? ⟨gb470, 1, none⟩ = some (.int .i64 t466)) (ds := []) #[false, false, false, false, false, false, false, false, false, false, false, false, false, false, false, false, false] (by kernel_rfl) rfl rfl ⟨(blk_cell BK470.out 0).trans rfl, (blk_cell BK470.out 1).trans rfl⟩ (fun hHeld => ?_); refine with_tabW laws_FnLearning.tab30 laws_FnLearning.bits30 (fun HT_ HW_ => ?_)
                   generalize w99.drew = w100 at HO_20 BK470 HB hHeld ⊢
                   refine pure_ (i := 1) (N := some 182) (v := ?_) (a' := ?_) #[false, true, false, false, false, false, false, false, false, false, false, false, false, false, false, false, false] rfl rfl (any_of HT_.out (by kernel_rfl)) (fun _ _ _ h => h) (Or.inl ⟨by rfl, ?_⟩) ?_ ?_; rotate_left
                   ·intro w'; go_simp; with_reducible rfl
                   rotate_left
                   ·simp only [Act.put, sT_, s0_, s1_, i64_w, i32_w]; rfl
                   refine take_ (i := 0) (N := some 181) (v := ?_) (a' := ?_) #[true, true, false, false, false, false, false, false, false, false, false, false, false, false, false, false, false] rfl rfl (take_ofW HT_.out HW_.out (by kernel_rfl)) (fun _ _ _ h => h) (Or.inl ⟨by rfl, ?_⟩) hHeld ?_ ?_
                   rotate_left
                   ·rintro w' ⟨s0, s1⟩
                    go_simp; with_reducible rfl
                   rotate_left
                   ·simp only [Act.put, sT_, s0_, s1_, i64_w, i32_w]; rfl
                   refine one_ (i := 2) (N := some 183) #[true, true, true, false, false, false, false, false, false, false, false, false, false, false, false, false, false] rfl rfl (one_of HT_.out (by kernel_rfl)) (by decide) (fun K hK => ?_)
                   refine goes_ Try.func11 (by kernel_rfl) rfl #[.agg #[.int .i64 t465, .int .i64 t466], .slice Ao98 t475.length co98] (by rfl) rfl rfl (by first | rfl | (simp only [List.map_toArray, List.map_cons, List.map_nil, List.length_drop, List.length_take]; rfl)) ?_
                   with_reducible refine (impl_IsConsistent.calls kj66 t465 t466 _ _ t475 true _ ?side1 ?side2 A83.out).mono ?_
                   (case side1 => repeat (first | exact (Kd.R_reads' HO_20.out).2.2 | (with_reducible refine Kd.C_alloc ?_ _) | (with_reducible refine Kd.C_drewN ?_ _) | (with_reducible refine Kd.C_drew ?_)))
                   (case side2 => exact (Kd.R_reads' HO_20.out).2.1)
                   rintro e w101 ⟨rfl, hb⟩
                   refine ⟨_, rfl, ?_⟩
                   have n0_ := Aside0.mk (Kd.R_below (by (with_reducible repeat (first | apply Kd.R_alloc | apply Kd.R_drewN | apply Kd.R_drew)); exact HO_20.out) hb)
                   have n1_ := Aside0.mk (blk_below (g := gb470) (o := .cells #[.int .i64 t465, .int .i64 t466] 33 (0, 0)) (by (with_reducible repeat (first | refine blk_drewN ?_ _ | refine blk_drew ?_ | refine blk_alloc ?_ _)); exact BK470.out) hb)
                   have n2_ := Aside0.mk (below_step (by repeat (first | (with_reducible first | exact HB.out | apply below_alloc | apply pw_below_drewN | apply below_drew1 | refine below_set ?_ GE470.out) | exact HB.out)) hb)
                   clear HO_20; clear BK470; clear HB; have HO_20 := n0_; have BK470 := n1_; have HB := n2_; clear n0_ n1_ n2_; (try clear hb); (try clear hb2); (try clear hk); (try clear hi)
                   refine hK.out _ _ ⟨(blk_cell BK470.out 0).trans rfl, (blk_cell BK470.out 1).trans rfl⟩ (fun hHeld => ?_)
                   clear hK K
                   refine norm_ (a' := ?_) ?_ ?_
                   rotate_left
                   ·show Act.put _ (some 183) _ = _
                    simp only [Act.put, sT_, s0_, s1_, i64_w, i32_w]; rfl
                   refine pure_ (i := 3) (N := some 184) (v := ?_) (a' := ?_) #[true, true, true, true, false, false, false, false, false, false, false, false, false, false, false, false, false] rfl rfl (any_of HT_.out (by kernel_rfl)) (fun _ _ _ h => h) (Or.inl ⟨by rfl, ?_⟩) ?_ ?_; rotate_left
                   ·intro w'; go_simp; with_reducible rfl
                   rotate_left
                   ·simp only [Act.put, sT_, s0_, s1_, i64_w, i32_w]; rfl
                   refine pure_ (i := 4) (N := some 185) (v := ?_) (a' := ?_) #[true, true, true, true, true, false, false, false, false, false, false, false, false, false, false, false, false] rfl rfl (any_of HT_.out (by kernel_rfl)) (fun _ _ _ h => h) (Or.inl ⟨by rfl, ?_⟩) ?_ ?_; rotate_left
                   ·intro w'; go_simp; with_reducible rfl
                   rotate_left
                   ·simp only [Act.put, sT_, s0_, s1_, i64_w, i32_w]; rfl
                   refine pure_ (i := 5) (N := some 186) (v := ?_) (a' := ?_) #[true, true, true, true, true, true, false, false, false, false, false, false, false, false, false, false, false] rfl rfl (any_of HT_.out (by kernel_rfl)) (fun _ _ _ h => h) (Or.inl ⟨by rfl, ?_⟩) ?_ ?_; rotate_left
                   ·intro w'; go_simp; with_reducible rfl
                   rotate_left
                   ·simp only [Act.put, sT_, s0_, s1_, i64_w, i32_w]; rfl
                   refine pure_ (i := 6) (N := some 187) (v := ?_) (a' := ?_) #[true, true, true, true, true, true, true, false, false, false, false, false, false, false, false, false, false] rfl rfl (any_of HT_.out (by kernel_rfl)) (fun _ _ _ h => h) (Or.inl ⟨by rfl, ?_⟩) ?_ ?_; rotate_left
                   ·intro w'; go_simp; with_reducible rfl
                   rotate_left
                   ·simp only [Act.put, sT_, s0_, s1_, i64_w, i32_w]; rfl
                   refine pure_ (i := 7) (N := some 188) (v := ?_) (a' := ?_) #[true, true, true, true, true, true, true, true, false, false, false, false, false, false, false, false, false] rfl rfl (any_of HT_.out (by kernel_rfl)) (fun _ _ _ h => h) (Or.inl ⟨by rfl, ?_⟩) ?_ ?_; rotate_left
                   ·intro w'; go_simp; with_reducible rfl
                   rotate_left
                   ·simp only [Act.put, sT_, s0_, s1_, i64_w, i32_w]; rfl
                   refine pure_ (i := 8) (N := some 189) (v := ?_) (a' := ?_) #[true, true, true, true, true, true, true, true, true, false, false, false, false, false, false, false, false] rfl rfl (any_of HT_.out (by kernel_rfl)) (fun _ _ _ h => h) (Or.inl ⟨by rfl, ?_⟩) ?_ ?_; rotate_left
                   ·intro w'; go_simp; with_reducible rfl
                   rotate_left
                   ·simp only [Act.put, sT_, s0_, s1_, i64_w, i32_w]; rfl
                   refine pure_ (i := 9) (N := some 190) (v := ?_) (a' := ?_) #[true, true, true, true, true, true, true, true, true, true, false, false, false, false, false, false, false] rfl rfl (any_of HT_.out (by kernel_rfl)) (fun _ _ _ h => h) (Or.inl ⟨by rfl, ?_⟩) ?_ ?_; rotate_left
                   ·intro w'; go_simp; with_reducible rfl
                   rotate_left
                   ·simp only [Act.put, sT_, s0_, s1_, i64_w, i32_w]; rfl
                   refine pure_ (i := 10) (N := some 191) (v := ?_) (a' := ?_) #[true, true, true, true, true, true, true, true, true, true, true, false, false, false, false, false, false] rfl rfl (any_of HT_.out (by kernel_rfl)) (fun _ _ _ h => h) (Or.inl ⟨by rfl, ?_⟩) ?_ ?_; rotate_left
                   ·intro w'; go_simp; with_reducible rfl
                   rotate_left
                   ·simp only [Act.put, sT_, s0_, s1_, i64_w, i32_w]; rfl
                   refine take_ (i := 12) (N := some 193) (v := ?_) (a' := ?_) #[true, true, true, true, true, true, true, true, true, true, true, false, true, false, false, false, false] rfl rfl (take_ofW HT_.out HW_.out (by kernel_rfl)) (fun _ _ _ h => h) (Or.inl ⟨by rfl, ?_⟩) hHeld ?_ ?_
                   rotate_left
                   ·rintro w' ⟨s0, s1⟩
                    go_simp; with_reducible rfl
                   rotate_left
                   ·simp only [Act.put, sT_, s0_, s1_, i64_w, i32_w]; rfl
                   refine one_ (i := 11) (N := some 192) #[true, true, true, true, true, true, true, true, true, true, true, true, true, false, false, false, false] rfl rfl (one_of HT_.out (by kernel_rfl)) (by decide) (fun K hK => ?_)
                   refine goes_ Try.func20 (by kernel_rfl) rfl #[.agg #[.int .i64 5, .int .i64 t480]] (by rfl) rfl rfl (by first | rfl | (simp only [List.map_toArray, List.map_cons, List.map_nil, List.length_drop, List.length_take]; rfl)) ?_
                   with_reducible refine (impl_CountOnes.calls 5 t480 t483 _ A86.out).mono ?_
                   rintro e w102 ⟨rfl, hb⟩
                   refine ⟨_, rfl, ?_⟩
                   have n0_ := Aside0.mk (Kd.R_below (by (with_reducible repeat (first | apply Kd.R_alloc | apply Kd.R_drewN | apply Kd.R_drew)); exact HO_20.out) hb)
                   have n1_ := Aside0.mk (blk_below (g := gb470) (o := .cells #[.int .i64 t465, .int .i64 t466] 33 (0, 0)) (by (with_reducible repeat (first | refine blk_drewN ?_ _ | refine blk_drew ?_ | refine blk_alloc ?_ _)); exact BK470.out) hb)
                   have n2_ := Aside0.mk (below_step (by repeat (first | (with_reducible first | exact HB.out | apply below_alloc | apply pw_below_drewN | apply below_drew1 | refine below_set ?_ GE470.out) | exact HB.out)) hb)
                   clear HO_20; clear BK470; clear HB; have HO_20 := n0_; have BK470 := n1_; have HB := n2_; clear n0_ n1_ n2_; (try clear hb); (try clear hb2); (try clear hk); (try clear hi)
                   refine hK.out _ _ ⟨(blk_cell BK470.out 0).trans rfl, (blk_cell BK470.out 1).trans rfl⟩ (fun hHeld => ?_)
                   clear hK K
                   refine norm_ (a' := ?_) ?_ ?_
                   rotate_left
                   ·show Act.put _ (some 192) _ = _
                    simp only [Act.put, sT_, s0_, s1_, i64_w, i32_w]; rfl
                   refine one_ (i := 13) (N := some 194) #[true, true, true, true, true, true, true, true, true, true, true, true, true, true, false, false, false] rfl rfl (one_of HT_.out (by kernel_rfl)) (by decide) (fun K hK => ?_)
                   refine goes_ Try.func13 (by kernel_rfl) rfl #[.agg #[.int .i64 t465, .int .i64 t466]] (by rfl) rfl rfl (by first | rfl | (simp only [List.map_toArray, List.map_cons, List.map_nil, List.length_drop, List.length_take]; rfl)) ?_
                   with_reducible refine (impl_VariablesOf.calls kj66 t465 t466 t484 _ A87.out).mono ?_
                   rintro e w103 ⟨v485, rfl, ho0, hb⟩
                   refine ⟨_, rfl, ?_⟩
                   have n0_ := Aside0.mk (Kd.R_below (by (with_reducible repeat (first | apply Kd.R_alloc | apply Kd.R_drewN | apply Kd.R_drew)); exact HO_20.out) hb)
                   have n1_ := Aside0.mk (Kd.R_lower ho0 (below_size (by repeat (first | (with_reducible first | exact HB.out | apply below_alloc | apply pw_below_drewN | apply below_drew1 | refine below_set ?_ GE470.out) | exact HB.out))))
                   have n2_ := Aside0.mk (blk_below (g := gb470) (o := .cells #[.int .i64 t465, .int .i64 t466] 33 (0, 0)) (by (with_reducible repeat (first | refine blk_drewN ?_ _ | refine blk_drew ?_ | refine blk_alloc ?_ _)); exact BK470.out) hb)
                   have n3_ := Aside0.mk (below_step (by repeat (first | (with_reducible first | exact HB.out | apply below_alloc | apply pw_below_drewN | apply below_drew1 | refine below_set ?_ GE470.out) | exact HB.out)) hb)
                   clear HO_20; clear BK470; clear HB; have HO_20 := n0_; have HO486 := n1_; have BK470 := n2_; have HB := n3_; clear n0_ n1_ n2_ n3_; (try clear hb); (try clear hb2); (try clear hk); (try clear hi); (try clear ho0)
                   obtain ⟨Ao104, co104, eo104⟩ := Kd.R_slice HO486.out
                   (first | subst eo104 | (injection eo104 with f1_ f2_ f3_; have f4_ := f1_.symm; have f5_ := f3_.symm; clear f1_ f2_ f3_; subst f4_; subst f5_))
                   refine hK.out _ _ ⟨(blk_cell BK470.out 0).trans rfl, (blk_cell BK470.out 1).trans rfl⟩ (fun hHeld => ?_)
                   clear hK K
                   refine norm_ (a' := ?_) ?_ ?_
                   rotate_left
                   ·show Act.put _ (some 194) _ = _
                    simp only [Act.put, sT_, s0_, s1_, i64_w, i32_w]; rfl
                   refine pure_ (i := 14) (N := some 195) (v := ?_) (a' := ?_) #[true, true, true, true, true, true, true, true, true, true, true, true, true, true, true, false, false] rfl rfl (any_of HT_.out (by kernel_rfl)) (fun _ _ _ h => h) (Or.inl ⟨by rfl, ?_⟩) ?_ ?_; rotate_left
                   ·intro w'; go_simp; with_reducible rfl
                   rotate_left
                   ·simp only [Act.put, sT_, s0_, s1_, i64_w, i32_w]; rfl
                   refine pure_ (i := 15) (N := some 196) (v := ?_) (a' := ?_) #[true, true, true, true, true, true, true, true, true, true, true, true, true, true, true, true, false] rfl rfl (any_of HT_.out (by kernel_rfl)) (fun _ _ _ h => h) (Or.inl ⟨by rfl, ?_⟩) ?_ ?_; rotate_left
                   ·intro w'; go_simp; with_reducible rfl
                   rotate_left
                   ·simp only [Act.put, sT_, s0_, s1_, i64_w, i32_w]; rfl
                   refine pure_ (i := 16) (N := some 197) (v := ?_) (a' := ?_) #[true, true, true, true, true, true, true, true, true, true, true, true, true, true, true, true, true] rfl rfl (any_of HT_.out (by kernel_rfl)) (fun _ _ _ h => h) (Or.inl ⟨by rfl, ?_⟩) ?_ ?_; rotate_left
                   ·intro w'; go_simp; with_reducible rfl
                   rotate_left
                   ·simp only [Act.put, sT_, s0_, s1_, i64_w, i32_w]; rfl
                   refine done_ (done_of HT_.out (by kernel_rfl)) ?_
                   try go_wp2
                   go_meet
                   case rel => exact ⟨_, H', ⟨by have := HJ6.out; have := HK2.out; have := HJ56.out; have := HJ66.out; first | omega | exact Nat.le_refl _⟩, ⟨by (with_reducible repeat (first | refine blk_drewN ?_ _ | refine blk_drew ?_ | refine blk_alloc ?_ _)); exact BK470.out⟩, ⟨by repeat (first | (with_reducible first | exact HB.out | apply below_alloc | apply pw_below_drewN | apply below_drew1 | refine below_set ?_ GE470.out) | exact HB.out)⟩⟩
                 ·replace c85 := Bool.eq_false_iff.mpr c85
                  subst c85
                  have H1 : (some false) = some r := by rw [if_neg (show ¬ (false = true) by decide)] at H; exact H
                  clear H; have H := H1; clear H1
                  exact absurd (Option.some.inj H) (by rw [HRT.out]; decide)
                ·replace c84 := Bool.eq_false_iff.mpr c84
                 subst c84
                 have H1 : (some false) = some r := by rw [if_neg (show ¬ (false = true) by decide)] at H; exact H
                 clear H; have H := H1; clear H1
                 exact absurd (Option.some.inj H) (by rw [HRT.out]; decide)
               ·replace c81 := Bool.eq_false_iff.mpr c81
                subst c81
                have H1 : (laws_FnLearning.j6 kj66 l0) = some r := by rw [if_neg (show ¬ (false = true) by decide)] at H; exact H
                clear H; have H := H1; clear H1
                have H' := Aside0.mk H
                clear H
                go_wp2
                go_meet
                case rel => exact ⟨_, H', ⟨by have := HJ6.out; have := HK2.out; have := HJ56.out; have := HJ66.out; first | omega | exact Nat.le_refl _⟩, ⟨by (with_reducible repeat (first | refine blk_drewN ?_ _ | refine blk_drew ?_ | refine blk_alloc ?_ _)); exact BK470.out⟩, ⟨by repeat (first | (with_reducible first | exact HB.out | apply below_alloc | apply pw_below_drewN | apply below_drew1 | refine below_set ?_ GE470.out) | exact HB.out)⟩⟩
              case rest =>
               as_aux_lemma =>
               clear HC80; (try clear c1); (try clear c2); (try clear p2); (try clear c8); (try clear c11); (try clear c13); (try clear c14); (try clear c20); (try clear c81); (try clear c84); (try clear c85); (try clear c88); (try clear c88b0); (try clear hcz105_0); (try clear hcz105_1); (try clear hcz110_0); (try clear hcz110_1); (try clear hcz97_0); (try clear hcz97_1); (try clear hfz105_0); (try clear hfz105_1); (try clear hfz110_0); (try clear hfz110_1); (try clear hfz97_0); (try clear hfz97_1); obtain ⟨kq, HA, HJ79, BK470, HB⟩ := hcut
               cases kq with
               | zero => exact absurd HA.out (by simp [laws_FnLearning.j6])
               | succ kj79 =>
                have H := HA.out
                clear HA
                simp only [laws_FnLearning.j6] at H
                replace H := Option.bind_eq_some_iff.mp H; obtain ⟨⟨t487, t488, t489⟩, A1150, H⟩ := H; (try dsimp only at H); have A115 := Aside0.mk A1150; clear A1150; replace H := Option.bind_eq_some_iff.mp H; obtain ⟨⟨t492, t493, t494⟩, A1160, H⟩ := H; (try dsimp only at H); have A116 := Aside0.mk A1160; clear A1160; replace H := Option.bind_eq_some_iff.mp H; obtain ⟨⟨t496, t497, t498⟩, A1170, H⟩ := H; (try dsimp only at H); have A117 := Aside0.mk A1170; clear A1170; replace H := Option.bind_eq_some_iff.mp H; obtain ⟨⟨t500, t501, t502⟩, A1180, H⟩ := H; (try dsimp only at H); have A118 := Aside0.mk A1180
                clear A1180; replace H := Option.bind_eq_some_iff.mp H; obtain ⟨⟨t506, t507⟩, A1190, H⟩ := H; (try dsimp only at H); have A119 := Aside0.mk A1190; clear A1190; replace H := Option.bind_eq_some_iff.mp H; obtain ⟨⟨t510, t511⟩, A1200, H⟩ := H; (try dsimp only at H); have A120 := Aside0.mk A1200; clear A1200; replace H := Option.bind_eq_some_iff.mp H; obtain ⟨⟨t512, t513⟩, A1210, H⟩ := H; (try dsimp only at H); have A121 := Aside0.mk A1210; clear A1210; replace H := Option.bind_eq_some_iff.mp H; obtain ⟨⟨t514, t515, t516⟩, A1220, H⟩ := H; (try dsimp only at H); have A122 := Aside0.mk A1220
                clear A1220; replace H := Option.bind_eq_some_iff.mp H; obtain ⟨⟨t520, t521⟩, A1230, H⟩ := H; (try dsimp only at H); have A123 := Aside0.mk A1230; clear A1230
                by_cases c124 : (t492 == t496 && (t493 == t497)) = true
                ·rw [if_pos c124] at H
                 have c124b0 : (t492 == t496 && (t493 == t497)) = true := c124
                 (try (have c124b1 : decide (t492 = t496 && (t493 == t497)) = true := by simpa using c124))
                 (try (have c124b2 : (t492 == t496 && (t493 == t497)) = true := by simpa using c124))
                 clear c124
                 by_cases c125 : (t494 == t498) = true
                 ·rw [if_pos c125] at H
                  have c125b0 : (t494 == t498) = true := c125
                  (try (have c125b1 : decide (t494 = t498) = true := by simpa using c125))
                  (try (have c125b2 : (t494 == t498) = true := by simpa using c125))
                  clear c125; replace H := Option.bind_eq_some_iff.mp H; obtain ⟨t524, A1260, H⟩ := H; (try dsimp only at H); have A126 := Aside0.mk A1260; clear A1260; replace H := Option.bind_eq_some_iff.mp H; obtain ⟨t525, A1270, H⟩ := H; (try dsimp only at H); have A127 := Aside0.mk A1270; clear A1270
                  by_cases c128 : (t524 == t525) = true
                  ·rw [if_pos c128] at H
                   have c128b0 : (t524 == t525) = true := c128
                   (try (have c128b1 : decide (t524 = t525) = true := by simpa using c128))
                   (try (have c128b2 : (t524 == t525) = true := by simpa using c128))
                   clear c128
                   by_cases c129 : t510 = t512
                   ·rw [if_pos c129] at H
                    have c129b0 : (t510 == t512) = true := beq_iff_eq.mpr c129
                    have c129b1 : (t510 != t512) = false := bne_eq_false_iff_eq.mpr c129
                    clear c129
                    by_cases c130 : (t511 == t513) = true
                    ·rw [if_pos c130] at H
                     have c130b0 : (t511 == t513) = true := c130
                     (try (have c130b1 : decide (t511 = t513) = true := by simpa using c130))
                     (try (have c130b2 : (t511 == t513) = true := by simpa using c130))
                     clear c130; replace H := Option.bind_eq_some_iff.mp H; obtain ⟨t526, A1310, H⟩ := H; (try dsimp only at H); have A131 := Aside0.mk A1310; clear A1310; replace H := Option.bind_eq_some_iff.mp H; obtain ⟨t527, A1320, H⟩ := H; (try dsimp only at H); have A132 := Aside0.mk A1320; clear A1320
                     by_cases c133 : t526 = t527
                     ·rw [if_pos c133] at H
                      have c133b0 : (t526 == t527) = true := beq_iff_eq.mpr c133
                      have c133b1 : (t526 != t527) = false := bne_eq_false_iff_eq.mpr c133
                      clear c133; replace H := Option.bind_eq_some_iff.mp H; obtain ⟨t528, A1340, H⟩ := H
                      replace H : ((spec_IsSampleList.f kj79 t520 t521).bind fun t529 => (some (t528 == t529))) = some r := H
                      have A134 := Aside0.mk A1340; clear A1340; replace H := Option.bind_eq_some_iff.mp H; obtain ⟨t529, A1350, H⟩ := H
                      replace H : (some (t528 == t529)) = some r := H
                      have A135 := Aside0.mk A1350; clear A1350
                      obtain rfl := Option.some.inj H
                      try go_wp2_with (first | ((with_reducible refine gate_callee (f := 21) rfl ?_); refine goesL_ (some 200) rfl rfl Try.func21 (by kernel_rfl) rfl #[.slice A0 l0.length c0] rfl (by first | rfl | (simp only [List.map_toArray, List.map_cons, List.map_nil, List.length_drop, List.length_take]; rfl)) ?_; (with_reducible refine (spec_DrawLearnTable.calls kj79 _ _ l0 t487 t488 t489 _ ?side1 ?side2 A115.out).mono ?_); (case side1 => repeat (first | exact (Kd.C_below HR0.out HB.out) | (with_reducible refine Kd.C_alloc ?_ _) | (with_reducible refine Kd.C_drewN ?_ _) | (with_reducible refine Kd.C_drew ?_))); (case side2 => exact HC0.out); rintro e w136 ⟨v490, rfl, ho0, hb⟩; refine ⟨_, rfl, ?_⟩; have n0_ := Aside0.mk (Kd.R_lower ho0 (below_size (by repeat (first | (with_reducible first | exact HB.out | apply below_alloc | apply pw_below_drewN | apply below_drew1 | refine below_set ?_ GE470.out) | exact HB.out)))); have n1_ := Aside0.mk (blk_below (g := gb470) (o := .cells #[.int .i64 t465, .int .i64 t466] 33 (0, 0)) (by (with_reducible repeat (first | refine blk_drewN ?_ _ | refine blk_drew ?_ | refine blk_alloc ?_ _)); exact BK470.out) hb); have n2_ := Aside0.mk (below_step (by repeat (first | (with_reducible first | exact HB.out | apply below_alloc | apply pw_below_drewN | apply below_drew1 | refine below_set ?_ GE470.out) | exact HB.out)) hb); clear BK470; clear HB; have HO491 := n0_; have BK470 := n1_; have HB := n2_; clear n0_ n1_ n2_; (try clear hb); (try clear hb2); (try clear hk); (try clear hi); (try clear ho0); obtain ⟨Ao137, co137, eo137⟩ := Kd.R_slice HO491.out; subst eo137) | ((with_reducible refine gate_callee (f := 10) rfl ?_); refine goesL_ (some 208) rfl rfl Try.func10 (by kernel_rfl) rfl #[.int .i64 t487, .slice Ao137 t488.length co137, .int .i64 t489] rfl (by first | rfl | (simp only [List.map_toArray, List.map_cons, List.map_nil, List.length_drop, List.length_take]; rfl)) ?_; (with_reducible refine (impl_LearnTable.calls t487 _ _ t488 t489 t492 t493 t494 _ ?side1 ?side2 A116.out).mono ?_); (case side1 => repeat (first | exact (Kd.R_reads' HO491.out).2.2 | (with_reducible refine Kd.C_alloc ?_ _) | (with_reducible refine Kd.C_drewN ?_ _) | (with_reducible refine Kd.C_drew ?_))); (case side2 => exact (Kd.R_reads' HO491.out).2.1); rintro e w138 ⟨rfl, hb⟩; refine ⟨_, rfl, ?_⟩; have n0_ := Aside0.mk (Kd.R_below (by (with_reducible repeat (first | apply Kd.R_alloc | apply Kd.R_drewN | apply Kd.R_drew)); exact HO491.out) hb); have n1_ := Aside0.mk (blk_below (g := gb470) (o := .cells #[.int .i64 t465, .int .i64 t466] 33 (0, 0)) (by (with_reducible repeat (first | refine blk_drewN ?_ _ | refine blk_drew ?_ | refine blk_alloc ?_ _)); exact BK470.out) hb); have n2_ := Aside0.mk (below_step (by repeat (first | (with_reducible first | exact HB.out | apply below_alloc | apply pw_below_drewN | apply below_drew1 | refine below_set ?_ GE470.out) | exact HB.out)) hb); clear HO491; clear BK470; clear HB; have HO491 := n0_; have BK470 := n1_; have HB := n2_; clear n0_ n1_ n2_; (try clear hb); (try clear hb2); (try clear hk); (try clear hi)) | ((with_reducible refine gate_dst (N := 27) rfl ?_); (try (refine gate_guard (by rfl) ?_; dsimp only)); refine box_event ?hg (N := 27) ?hd (cs := #[.int .i64 0, .int .i64 0]) (t := 33) ?hr ?_; (case hd => rfl); (case hg => rfl); (case hr => first | (go_simp; done) | (go_simp; rfl)); intro gb495 hg w139 hbox hb; have n0_ := Aside0.mk (Kd.R_below (by (with_reducible repeat (first | apply Kd.R_alloc | apply Kd.R_drewN | apply Kd.R_drew)); exact HO491.out) hb); have n1_ := Aside0.mk (blk_below (g := gb470) (o := .cells #[.int .i64 t465, .int .i64 t466] 33 (0, 0)) (by (with_reducible repeat (first | refine blk_drewN ?_ _ | refine blk_drew ?_ | refine blk_alloc ?_ _)); exact BK470.out) hb); have n2_ := Aside0.mk (below_step (by repeat (first | (with_reducible first | exact HB.out | apply below_alloc | apply pw_below_drewN | apply below_drew1 | refine below_set ?_ GE470.out) | exact HB.out)) hb); have n3_ := Aside0.mk (hbox); have n4_ := Aside0.mk ((by rw [hg]; exact (below_size (by repeat (first | (with_reducible first | exact HB.out | apply below_alloc | apply pw_below_drewN | apply below_drew1 | refine below_set ?_ GE470.out) | exact HB.out))) : w.heap.size ≤ gb495)); have n5_ := Aside0.mk ((by rw [hg]; exact (below_size (by repeat (first | (with_reducible first | exact HB.out | apply below_alloc | apply pw_below_drewN | apply below_drew1 | refine below_set ?_ GE470.out) | exact HB.out))) : w.heap.size ≤ gb495)); have n6_ := Aside0.mk ((by rw [hg]; exact Nat.ne_of_lt (blk_lt (g := gb470) (o := .cells #[.int .i64 t465, .int .i64 t466] 33 (0, 0)) (by (with_reducible repeat (first | refine blk_drewN ?_ _ | refine blk_drew ?_ | refine blk_alloc ?_ _)); exact BK470.out)) : gb470 ≠ gb495)); have n7_ := Aside0.mk ((by rw [hg]; exact Nat.ne_of_gt (blk_lt (g := gb470) (o := .cells #[.int .i64 t465, .int .i64 t466] 33 (0, 0)) (by (with_reducible repeat (first | refine blk_drewN ?_ _ | refine blk_drew ?_ | refine blk_alloc ?_ _)); exact BK470.out)) : gb495 ≠ gb470)); clear HO491; clear BK470; clear HB; have HO491 := n0_; have BK470 := n1_; have HB := n2_; have BK495 := n3_; have GW495 := n4_; have GE495 := n5_; have NB470_495 := n6_; have NB495_470 := n7_; clear n0_ n1_ n2_ n3_ n4_ n5_ n6_ n7_; clear hb hbox hg; have hnb140 := NB495_470.out; have hnc140 := NB470_495.out; have hcz141_0 : w139.cell? ⟨gb495, 0, none⟩ = some (.int .i64 0) := (blk_cell BK495.out 0).trans rfl; have hcz141_1 : w139.cell? ⟨gb495, 1, none⟩ = some (.int .i64 0) := (blk_cell BK495.out 1).trans rfl; have hfz141_0 := blk_frozen BK495.out 0; have hfz141_1 := blk_frozen BK495.out 1) | ((with_reducible refine gate_callee (f := 22) rfl ?_); refine goesL_ (some 215) rfl rfl Try.func22 (by kernel_rfl) rfl #[.int .i64 t487, .slice Ao137 t488.length co137, .int .i64 t489] rfl (by first | rfl | (simp only [List.map_toArray, List.map_cons, List.map_nil, List.length_drop, List.length_take]; rfl)) ?_; (with_reducible refine (spec_LearnTable.calls kj79 t487 _ _ t488 t489 t496 t497 t498 _ ?side1 ?side2 A117.out).mono ?_); (case side1 => refine (Kd.R_reads' (e := 57) (base := w.heap.size) (ok := fun k_ => True) (n := t488.length) (c := co137) ?_).2.2; exact (by (with_reducible repeat (first | apply Kd.R_alloc | apply Kd.R_drewN | apply Kd.R_drew)); exact (Kd.R_mono (Kd.R_far (p := ⟨gb495, 1, none⟩) (Kd.R_far (p := ⟨gb495, 0, none⟩) (Kd.R_types HO491.out BK495.out (by decide)) (fun _ hk => hk.2) (.int .i64 t492)) (fun _ hk => hk.2) (.int .i64 t493)) (fun _ h_ => h_.1)))); (case side2 => exact (Kd.R_reads' HO491.out).2.1); rintro e w142 ⟨rfl, hb⟩; refine ⟨_, rfl, ?_⟩; have n0_ := Aside0.mk (Kd.R_below (by (with_reducible repeat (first | apply Kd.R_alloc | apply Kd.R_drewN | apply Kd.R_drew)); exact (Kd.R_mono (Kd.R_far (p := ⟨gb495, 1, none⟩) (Kd.R_far (p := ⟨gb495, 0, none⟩) (Kd.R_types HO491.out BK495.out (by decide)) (fun _ hk => hk.2) (.int .i64 t492)) (fun _ hk => hk.2) (.int .i64 t493)) (fun _ h_ => h_.1))) hb); have n1_ := Aside0.mk (blk_below (g := gb470) (o := .cells #[.int .i64 t465, .int .i64 t466] 33 (0, 0)) (by (with_reducible repeat (first | refine blk_drewN ?_ _ | refine blk_drew ?_ | refine blk_alloc ?_ _)); refine blk_far ?_ NB470_495.out _; (with_reducible repeat (first | refine blk_drewN ?_ _ | refine blk_drew ?_ | refine blk_alloc ?_ _)); refine blk_far ?_ NB470_495.out _; (with_reducible repeat (first | refine blk_drewN ?_ _ | refine blk_drew ?_ | refine blk_alloc ?_ _)); exact BK470.out) hb); have n2_ := Aside0.mk (blk_below (g := gb495) (o := .cells #[.int .i64 t492, .int .i64 t493] 33 (0, 0)) (by (with_reducible repeat (first | refine blk_drewN ?_ _ | refine blk_drew ?_ | refine blk_alloc ?_ _)); refine blk_put (cs := #[.int .i64 t492, .int .i64 0]) ?_ 1 _ rfl; (with_reducible repeat (first | refine blk_drewN ?_ _ | refine blk_drew ?_ | refine blk_alloc ?_ _)); refine blk_put (cs := #[.int .i64 0, .int .i64 0]) ?_ 0 _ rfl; (with_reducible repeat (first | refine blk_drewN ?_ _ | refine blk_drew ?_ | refine blk_alloc ?_ _)); exact BK495.out) hb); have n3_ := Aside0.mk (below_step (by repeat (first | (with_reducible first | exact HB.out | apply below_alloc | apply pw_below_drewN | apply below_drew1 | refine below_set ?_ GE470.out | refine below_set ?_ GE495.out) | exact HB.out)) hb); clear HO491; clear BK470; clear BK495; clear HB; have HO491 := n0_; have BK470 := n1_; have BK495 := n2_; have HB := n3_; clear n0_ n1_ n2_ n3_; (try clear hb); (try clear hb2); (try clear hk); (try clear hi)) | ((with_reducible refine gate_dst (N := 29) rfl ?_); (try (refine gate_guard (by rfl) ?_; dsimp only)); refine box_event ?hg (N := 29) ?hd (cs := #[.int .i64 0, .int .i64 0]) (t := 33) ?hr ?_; (case hd => rfl); (case hg => rfl); (case hr => first | (go_simp; done) | (go_simp; rfl)); intro gb499 hg w143 hbox hb; have n0_ := Aside0.mk (Kd.R_below (by (with_reducible repeat (first | apply Kd.R_alloc | apply Kd.R_drewN | apply Kd.R_drew)); exact HO491.out) hb); have n1_ := Aside0.mk (blk_below (g := gb470) (o := .cells #[.int .i64 t465, .int .i64 t466] 33 (0, 0)) (by (with_reducible repeat (first | refine blk_drewN ?_ _ | refine blk_drew ?_ | refine blk_alloc ?_ _)); exact BK470.out) hb); have n2_ := Aside0.mk (blk_below (g := gb495) (o := .cells #[.int .i64 t492, .int .i64 t493] 33 (0, 0)) (by (with_reducible repeat (first | refine blk_drewN ?_ _ | refine blk_drew ?_ | refine blk_alloc ?_ _)); exact BK495.out) hb); have n3_ := Aside0.mk (below_step (by repeat (first | (with_reducible first | exact HB.out | apply below_alloc | apply pw_below_drewN | apply below_drew1 | refine below_set ?_ GE470.out | refine below_set ?_ GE495.out) | exact HB.out)) hb); have n4_ := Aside0.mk (hbox); have n5_ := Aside0.mk ((by rw [hg]; exact (below_size (by repeat (first | (with_reducible first | exact HB.out | apply below_alloc | apply pw_below_drewN | apply below_drew1 | refine below_set ?_ GE470.out | refine below_set ?_ GE495.out) | exact HB.out))) : w.heap.size ≤ gb499)); have n6_ := Aside0.mk ((by rw [hg]; exact (below_size (by repeat (first | (with_reducible first | exact HB.out | apply below_alloc | apply pw_below_drewN | apply below_drew1 | refine below_set ?_ GE470.out | refine below_set ?_ GE495.out) | exact HB.out))) : w.heap.size ≤ gb499)); have n7_ := Aside0.mk ((by rw [hg]; exact Nat.ne_of_lt (blk_lt (g := gb470) (o := .cells #[.int .i64 t465, .int .i64 t466] 33 (0, 0)) (by (with_reducible repeat (first | refine blk_drewN ?_ _ | refine blk_drew ?_ | refine blk_alloc ?_ _)); exact BK470.out)) : gb470 ≠ gb499)); have n8_ := Aside0.mk ((by rw [hg]; exact Nat.ne_of_gt (blk_lt (g := gb470) (o := .cells #[.int .i64 t465, .int .i64 t466] 33 (0, 0)) (by (with_reducible repeat (first | refine blk_drewN ?_ _ | refine blk_drew ?_ | refine blk_alloc ?_ _)); exact BK470.out)) : gb499 ≠ gb470)); have n9_ := Aside0.mk ((by rw [hg]; exact Nat.ne_of_lt (blk_lt (g := gb495) (o := .cells #[.int .i64 t492, .int .i64 t493] 33 (0, 0)) (by (with_reducible repeat (first | refine blk_drewN ?_ _ | refine blk_drew ?_ | refine blk_alloc ?_ _)); exact BK495.out)) : gb495 ≠ gb499)); have n10_ := Aside0.mk ((by rw [hg]; exact Nat.ne_of_gt (blk_lt (g := gb495) (o := .cells #[.int .i64 t492, .int .i64 t493] 33 (0, 0)) (by (with_reducible repeat (first | refine blk_drewN ?_ _ | refine blk_drew ?_ | refine blk_alloc ?_ _)); exact BK495.out)) : gb499 ≠ gb495)); clear HO491; clear BK470; clear BK495; clear HB; have HO491 := n0_; have BK470 := n1_; have BK495 := n2_; have HB := n3_; have BK499 := n4_; have GW499 := n5_; have GE499 := n6_; have NB470_499 := n7_; have NB499_470 := n8_; have NB495_499 := n9_; have NB499_495 := n10_; clear n0_ n1_ n2_ n3_ n4_ n5_ n6_ n7_ n8_ n9_ n10_; clear hb hbox hg; have hnb144 := NB499_470.out; have hnc144 := NB470_499.out; have hnb145 := NB499_495.out; have hnc145 := NB495_499.out; have hcz146_0 : w143.cell? ⟨gb499, 0, none⟩ = some (.int .i64 0) := (blk_cell BK499.out 0).trans rfl; have hcz146_1 : w143.cell? ⟨gb499, 1, none⟩ = some (.int .i64 0) := (blk_cell BK499.out 1).trans rfl; have hfz146_0 := blk_frozen BK499.out 0; have hfz146_1 := blk_frozen BK499.out 1) | ((with_reducible refine gate_callee (f := 23) rfl ?_); refine goesL_ (some 220) rfl rfl Try.func23 (by kernel_rfl) rfl #[.slice A0 l0.length c0] rfl (by first | rfl | (simp only [List.map_toArray, List.map_cons, List.map_nil, List.length_drop, List.length_take]; rfl)) ?_; (with_reducible refine (spec_DrawIsConsistent.calls kj79 _ _ l0 t500 t501 t502 _ ?side1 ?side2 A118.out).mono ?_); (case side1 => exact Kd.C_below HR0.out (by repeat (first | (with_reducible first | exact HB.out | apply below_alloc | apply pw_below_drewN | apply below_drew1 | refine below_set ?_ GE470.out | refine below_set ?_ GE495.out | refine below_set ?_ GE499.out) | exact HB.out))); (case side2 => exact HC0.out); rintro e w147 ⟨v503, rfl, ho0, hb⟩; refine ⟨_, rfl, ?_⟩; have n0_ := Aside0.mk (Kd.R_elder' (by (with_reducible repeat (first | apply Kd.R_alloc | apply Kd.R_drewN | apply Kd.R_drew)); exact (Kd.R_mono (Kd.R_far (p := ⟨gb499, 1, none⟩) (Kd.R_far (p := ⟨gb499, 0, none⟩) (Kd.R_types HO491.out BK499.out (by decide)) (fun _ hk => hk.2) (.int .i64 t496)) (fun _ hk => hk.2) (.int .i64 t497)) (fun _ h_ => h_.1))) (Kd.R_base ho0) hb); have n1_ := Aside0.mk (Kd.R_lower (Kd.R_new' ho0 (Kd.R_lt (by (with_reducible repeat (first | apply Kd.R_alloc | apply Kd.R_drewN | apply Kd.R_drew)); exact (Kd.R_mono (Kd.R_far (p := ⟨gb499, 1, none⟩) (Kd.R_far (p := ⟨gb499, 0, none⟩) (Kd.R_types HO491.out BK499.out (by decide)) (fun _ hk => hk.2) (.int .i64 t496)) (fun _ hk => hk.2) (.int .i64 t497)) (fun _ h_ => h_.1))))) (below_size (by repeat (first | (with_reducible first | exact HB.out | apply below_alloc | apply pw_below_drewN | apply below_drew1 | refine below_set ?_ GE470.out | refine below_set ?_ GE495.out | refine below_set ?_ GE499.out) | exact HB.out)))); have n2_ := Aside0.mk (blk_below (g := gb470) (o := .cells #[.int .i64 t465, .int .i64 t466] 33 (0, 0)) (by (with_reducible repeat (first | refine blk_drewN ?_ _ | refine blk_drew ?_ | refine blk_alloc ?_ _)); refine blk_far ?_ NB470_499.out _; (with_reducible repeat (first | refine blk_drewN ?_ _ | refine blk_drew ?_ | refine blk_alloc ?_ _)); refine blk_far ?_ NB470_499.out _; (with_reducible repeat (first | refine blk_drewN ?_ _ | refine blk_drew ?_ | refine blk_alloc ?_ _)); exact BK470.out) hb); have n3_ := Aside0.mk (blk_below (g := gb495) (o := .cells #[.int .i64 t492, .int .i64 t493] 33 (0, 0)) (by (with_reducible repeat (first | refine blk_drewN ?_ _ | refine blk_drew ?_ | refine blk_alloc ?_ _)); refine blk_far ?_ NB495_499.out _; (with_reducible repeat (first | refine blk_drewN ?_ _ | refine blk_drew ?_ | refine blk_alloc ?_ _)); refine blk_far ?_ NB495_499.out _; (with_reducible repeat (first | refine blk_drewN ?_ _ | refine blk_drew ?_ | refine blk_alloc ?_ _)); exact BK495.out) hb); have n4_ := Aside0.mk (blk_below (g := gb499) (o := .cells #[.int .i64 t496, .int .i64 t497] 33 (0, 0)) (by (with_reducible repeat (first | refine blk_drewN ?_ _ | refine blk_drew ?_ | refine blk_alloc ?_ _)); refine blk_put (cs := #[.int .i64 t496, .int .i64 0]) ?_ 1 _ rfl; (with_reducible repeat (first | refine blk_drewN ?_ _ | refine blk_drew ?_ | refine blk_alloc ?_ _)); refine blk_put (cs := #[.int .i64 0, .int .i64 0]) ?_ 0 _ rfl; (with_reducible repeat (first | refine blk_drewN ?_ _ | refine blk_drew ?_ | refine blk_alloc ?_ _)); exact BK499.out) hb); have n5_ := Aside0.mk (below_step (by repeat (first | (with_reducible first | exact HB.out | apply below_alloc | apply pw_below_drewN | apply below_drew1 | refine below_set ?_ GE470.out | refine below_set ?_ GE495.out | refine below_set ?_ GE499.out) | exact HB.out)) hb); clear HO491; clear BK470; clear BK495; clear BK499; clear HB; have HO491 := n0_; have HO504 := n1_; have BK470 := n2_; have BK495 := n3_; have BK499 := n4_; have HB := n5_; clear n0_ n1_ n2_ n3_ n4_ n5_; (try clear hb); (try clear hb2); (try clear hk); (try clear hi); (try clear ho0)) | ((with_reducible refine gate_dst (N := 31) rfl ?_); (try (refine gate_guard (by rfl) ?_; dsimp only)); refine box_event ?hg (N := 31) ?hd (cs := #[.int .i64 0, .int .i64 0]) (t := 33) ?hr ?_; (case hd => rfl); (case hg => rfl); (case hr => first | (go_simp; done) | (go_simp; rfl)); intro gb505 hg w148 hbox hb; have n0_ := Aside0.mk (Kd.R_below (by (with_reducible repeat (first | apply Kd.R_alloc | apply Kd.R_drewN | apply Kd.R_drew)); exact HO491.out) hb); have n1_ := Aside0.mk (Kd.R_below (by (with_reducible repeat (first | apply Kd.R_alloc | apply Kd.R_drewN | apply Kd.R_drew)); exact HO504.out) hb); have n2_ := Aside0.mk (blk_below (g := gb470) (o := .cells #[.int .i64 t465, .int .i64 t466] 33 (0, 0)) (by (with_reducible repeat (first | refine blk_drewN ?_ _ | refine blk_drew ?_ | refine blk_alloc ?_ _)); exact BK470.out) hb); have n3_ := Aside0.mk (blk_below (g := gb495) (o := .cells #[.int .i64 t492, .int .i64 t493] 33 (0, 0)) (by (with_reducible repeat (first | refine blk_drewN ?_ _ | refine blk_drew ?_ | refine blk_alloc ?_ _)); exact BK495.out) hb); have n4_ := Aside0.mk (blk_below (g := gb499) (o := .cells #[.int .i64 t496, .int .i64 t497] 33 (0, 0)) (by (with_reducible repeat (first | refine blk_drewN ?_ _ | refine blk_drew ?_ | refine blk_alloc ?_ _)); exact BK499.out) hb); have n5_ := Aside0.mk (below_step (by repeat (first | (with_reducible first | exact HB.out | apply below_alloc | apply pw_below_drewN | apply below_drew1 | refine below_set ?_ GE470.out | refine below_set ?_ GE495.out | refine below_set ?_ GE499.out) | exact HB.out)) hb); have n6_ := Aside0.mk (hbox); have n7_ := Aside0.mk ((by rw [hg]; exact (below_size (by repeat (first | (with_reducible first | exact HB.out | apply below_alloc | apply pw_below_drewN | apply below_drew1 | refine below_set ?_ GE470.out | refine below_set ?_ GE495.out | refine below_set ?_ GE499.out) | exact HB.out))) : w.heap.size ≤ gb505)); have n8_ := Aside0.mk ((by rw [hg]; exact (below_size (by repeat (first | (with_reducible first | exact HB.out | apply below_alloc | apply pw_below_drewN | apply below_drew1 | refine below_set ?_ GE470.out | refine below_set ?_ GE495.out | refine below_set ?_ GE499.out) | exact HB.out))) : w.heap.size ≤ gb505)); have n9_ := Aside0.mk ((by rw [hg]; exact Nat.ne_of_lt (blk_lt (g := gb470) (o := .cells #[.int .i64 t465, .int .i64 t466] 33 (0, 0)) (by (with_reducible repeat (first | refine blk_drewN ?_ _ | refine blk_drew ?_ | refine blk_alloc ?_ _)); exact BK470.out)) : gb470 ≠ gb505)); have n10_ := Aside0.mk ((by rw [hg]; exact Nat.ne_of_gt (blk_lt (g := gb470) (o := .cells #[.int .i64 t465, .int .i64 t466] 33 (0, 0)) (by (with_reducible repeat (first | refine blk_drewN ?_ _ | refine blk_drew ?_ | refine blk_alloc ?_ _)); exact BK470.out)) : gb505 ≠ gb470)); have n11_ := Aside0.mk ((by rw [hg]; exact Nat.ne_of_lt (blk_lt (g := gb495) (o := .cells #[.int .i64 t492, .int .i64 t493] 33 (0, 0)) (by (with_reducible repeat (first | refine blk_drewN ?_ _ | refine blk_drew ?_ | refine blk_alloc ?_ _)); exact BK495.out)) : gb495 ≠ gb505)); have n12_ := Aside0.mk ((by rw [hg]; exact Nat.ne_of_gt (blk_lt (g := gb495) (o := .cells #[.int .i64 t492, .int .i64 t493] 33 (0, 0)) (by (with_reducible repeat (first | refine blk_drewN ?_ _ | refine blk_drew ?_ | refine blk_alloc ?_ _)); exact BK495.out)) : gb505 ≠ gb495)); have n13_ := Aside0.mk ((by rw [hg]; exact Nat.ne_of_lt (blk_lt (g := gb499) (o := .cells #[.int .i64 t496, .int .i64 t497] 33 (0, 0)) (by (with_reducible repeat (first | refine blk_drewN ?_ _ | refine blk_drew ?_ | refine blk_alloc ?_ _)); exact BK499.out)) : gb499 ≠ gb505)); have n14_ := Aside0.mk ((by rw [hg]; exact Nat.ne_of_gt (blk_lt (g := gb499) (o := .cells #[.int .i64 t496, .int .i64 t497] 33 (0, 0)) (by (with_reducible repeat (first | refine blk_drewN ?_ _ | refine blk_drew ?_ | refine blk_alloc ?_ _)); exact BK499.out)) : gb505 ≠ gb499)); clear HO491; clear HO504; clear BK470; clear BK495; clear BK499; clear HB; have HO491 := n0_; have HO504 := n1_; have BK470 := n2_; have BK495 := n3_; have BK499 := n4_; have HB := n5_; have BK505 := n6_; have GW505 := n7_; have GE505 := n8_; have NB470_505 := n9_; have NB505_470 := n10_; have NB495_505 := n11_; have NB505_495 := n12_; have NB499_505 := n13_; have NB505_499 := n14_; clear n0_ n1_ n2_ n3_ n4_ n5_ n6_ n7_ n8_ n9_ n10_ n11_ n12_ n13_ n14_; clear hb hbox hg; have hnb149 := NB505_470.out; have hnc149 := NB470_505.out; have hnb150 := NB505_495.out; have hnc150 := NB495_505.out; have hnb151 := NB505_499.out; have hnc151 := NB499_505.out; have hcz152_0 : w148.cell? ⟨gb505, 0, none⟩ = some (.int .i64 0) := (blk_cell BK505.out 0).trans rfl; have hcz152_1 : w148.cell? ⟨gb505, 1, none⟩ = some (.int .i64 0) := (blk_cell BK505.out 1).trans rfl; have hfz152_0 := blk_frozen BK505.out 0; have hfz152_1 := blk_frozen BK505.out 1) | ((with_reducible refine gate_callee (f := 24) rfl ?_); refine goesL_ (some 225) rfl rfl Try.func24 (by kernel_rfl) rfl #[.slice A0 l0.length c0] rfl (by first | rfl | (simp only [List.map_toArray, List.map_cons, List.map_nil, List.length_drop, List.length_take]; rfl)) ?_; (with_reducible refine (spec_DrawLeastSet.calls kj79 _ _ l0 t506 t507 _ ?side1 ?side2 A119.out).mono ?_); (case side1 => exact Kd.C_below HR0.out (by repeat (first | (with_reducible first | exact HB.out | apply below_alloc | apply pw_below_drewN | apply below_drew1 | refine below_set ?_ GE470.out | refine below_set ?_ GE495.out | refine below_set ?_ GE499.out | refine below_set ?_ GE505.out) | exact HB.out))); (case side2 => exact HC0.out); rintro e w153 ⟨v508, rfl, ho0, hb⟩; refine ⟨_, rfl, ?_⟩; have n0_ := Aside0.mk (Kd.R_elder' (by (with_reducible repeat (first | apply Kd.R_alloc | apply Kd.R_drewN | apply Kd.R_drew)); exact (Kd.R_mono (Kd.R_far (p := ⟨gb505, 1, none⟩) (Kd.R_far (p := ⟨gb505, 0, none⟩) (Kd.R_types HO491.out BK505.out (by decide)) (fun _ hk => hk.2) (.int .i64 t500)) (fun _ hk => hk.2) (.int .i64 t501)) (fun _ h_ => h_.1))) (Kd.R_base ho0) hb); have n1_ := Aside0.mk (Kd.R_elder' (by (with_reducible repeat (first | apply Kd.R_alloc | apply Kd.R_drewN | apply Kd.R_drew)); exact (Kd.R_mono (Kd.R_far (p := ⟨gb505, 1, none⟩) (Kd.R_far (p := ⟨gb505, 0, none⟩) (Kd.R_types HO504.out BK505.out (by decide)) (fun _ hk => hk.2) (.int .i64 t500)) (fun _ hk => hk.2) (.int .i64 t501)) (fun _ h_ => h_.1))) (Kd.R_base ho0) hb); have n2_ := Aside0.mk (Kd.R_lower (Kd.R_new' (Kd.R_new' ho0 (Kd.R_lt (by (with_reducible repeat (first | apply Kd.R_alloc | apply Kd.R_drewN | apply Kd.R_drew)); exact (Kd.R_mono (Kd.R_far (p := ⟨gb505, 1, none⟩) (Kd.R_far (p := ⟨gb505, 0, none⟩) (Kd.R_types HO491.out BK505.out (by decide)) (fun _ hk => hk.2) (.int .i64 t500)) (fun _ hk => hk.2) (.int .i64 t501)) (fun _ h_ => h_.1))))) (Kd.R_lt (by (with_reducible repeat (first | apply Kd.R_alloc | apply Kd.R_drewN | apply Kd.R_drew)); exact (Kd.R_mono (Kd.R_far (p := ⟨gb505, 1, none⟩) (Kd.R_far (p := ⟨gb505, 0, none⟩) (Kd.R_types HO504.out BK505.out (by decide)) (fun _ hk => hk.2) (.int .i64 t500)) (fun _ hk => hk.2) (.int .i64 t501)) (fun _ h_ => h_.1))))) (below_size (by repeat (first | (with_reducible first | exact HB.out | apply below_alloc | apply pw_below_drewN | apply below_drew1 | refine below_set ?_ GE470.out | refine below_set ?_ GE495.out | refine below_set ?_ GE499.out | refine below_set ?_ GE505.out) | exact HB.out)))); have n3_ := Aside0.mk (blk_below (g := gb470) (o := .cells #[.int .i64 t465, .int .i64 t466] 33 (0, 0)) (by (with_reducible repeat (first | refine blk_drewN ?_ _ | refine blk_drew ?_ | refine blk_alloc ?_ _)); refine blk_far ?_ NB470_505.out _; (with_reducible repeat (first | refine blk_drewN ?_ _ | refine blk_drew ?_ | refine blk_alloc ?_ _)); refine blk_far ?_ NB470_505.out _; (with_reducible repeat (first | refine blk_drewN ?_ _ | refine blk_drew ?_ | refine blk_alloc ?_ _)); exact BK470.out) hb); have n4_ := Aside0.mk (blk_below (g := gb495) (o := .cells #[.int .i64 t492, .int .i64 t493] 33 (0, 0)) (by (with_reducible repeat (first | refine blk_drewN ?_ _ | refine blk_drew ?_ | refine blk_alloc ?_ _)); refine blk_far ?_ NB495_505.out _; (with_reducible repeat (first | refine blk_drewN ?_ _ | refine blk_drew ?_ | refine blk_alloc ?_ _)); refine blk_far ?_ NB495_505.out _; (with_reducible repeat (first | refine blk_drewN ?_ _ | refine blk_drew ?_ | refine blk_alloc ?_ _)); exact BK495.out) hb); have n5_ := Aside0.mk (blk_below (g := gb499) (o := .cells #[.int .i64 t496, .int .i64 t497] 33 (0, 0)) (by (with_reducible repeat (first | refine blk_drewN ?_ _ | refine blk_drew ?_ | refine blk_alloc ?_ _)); refine blk_far ?_ NB499_505.out _; (with_reducible repeat (first | refine blk_drewN ?_ _ | refine blk_drew ?_ | refine blk_alloc ?_ _)); refine blk_far ?_ NB499_505.out _; (with_reducible repeat (first | refine blk_drewN ?_ _ | refine blk_drew ?_ | refine blk_alloc ?_ _)); exact BK499.out) hb); have n6_ := Aside0.mk (blk_below (g := gb505) (o := .cells #[.int .i64 t500, .int .i64 t501] 33 (0, 0)) (by (with_reducible repeat (first | refine blk_drewN ?_ _ | refine blk_drew ?_ | refine blk_alloc ?_ _)); refine blk_put (cs := #[.int .i64 t500, .int .i64 0]) ?_ 1 _ rfl; (with_reducible repeat (first | refine blk_drewN ?_ _ | refine blk_drew ?_ | refine blk_alloc ?_ _)); refine blk_put (cs := #[.int .i64 0, .int .i64 0]) ?_ 0 _ rfl; (with_reducible repeat (first | refine blk_drewN ?_ _ | refine blk_drew ?_ | refine blk_alloc ?_ _)); exact BK505.out) hb); have n7_ := Aside0.mk (below_step (by repeat (first | (with_reducible first | exact HB.out | apply below_alloc | apply pw_below_drewN | apply below_drew1 | refine below_set ?_ GE470.out | refine below_set ?_ GE495.out | refine below_set ?_ GE499.out | refine below_set ?_ GE505.out) | exact HB.out)) hb); clear HO491; clear HO504; clear BK470; clear BK495; clear BK499; clear BK505; clear HB; have HO491 := n0_; have HO504 := n1_; have HO509 := n2_; have BK470 := n3_; have BK495 := n4_; have BK499 := n5_; have BK505 := n6_; have HB := n7_; clear n0_ n1_ n2_ n3_ n4_ n5_ n6_ n7_; (try clear hb); (try clear hb2); (try clear hk); (try clear hi); (try clear ho0); obtain ⟨Ao154, co154, eo154⟩ := Kd.R_slice HO509.out; subst eo154) | ((with_reducible refine gate_callee (f := 14) rfl ?_); refine goesL_ (some 231) rfl rfl Try.func14 (by kernel_rfl) rfl #[.int .i64 t506, .slice Ao154 t507.length co154] rfl (by first | rfl | (simp only [List.map_toArray, List.map_cons, List.map_nil, List.length_drop, List.length_take]; rfl)) ?_; (with_reducible refine (impl_LeastSet.calls kj79 t506 _ _ t507 t510 t511 _ ?side1 ?side2 A120.out).mono ?_); (case side1 => repeat (first | exact (Kd.R_reads' HO509.out).2.2 | (with_reducible refine Kd.C_alloc ?_ _) | (with_reducible refine Kd.C_drewN ?_ _) | (with_reducible refine Kd.C_drew ?_))); (case side2 => exact (Kd.R_reads' HO509.out).2.1); rintro e w155 ⟨rfl, hb⟩; refine ⟨_, rfl, ?_⟩; have n0_ := Aside0.mk (Kd.R_below (by (with_reducible repeat (first | apply Kd.R_alloc | apply Kd.R_drewN | apply Kd.R_drew)); exact HO491.out) hb); have n1_ := Aside0.mk (Kd.R_below (by (with_reducible repeat (first | apply Kd.R_alloc | apply Kd.R_drewN | apply Kd.R_drew)); exact HO504.out) hb); have n2_ := Aside0.mk (Kd.R_below (by (with_reducible repeat (first | apply Kd.R_alloc | apply Kd.R_drewN | apply Kd.R_drew)); exact HO509.out) hb); have n3_ := Aside0.mk (blk_below (g := gb470) (o := .cells #[.int .i64 t465, .int .i64 t466] 33 (0, 0)) (by (with_reducible repeat (first | refine blk_drewN ?_ _ | refine blk_drew ?_ | refine blk_alloc ?_ _)); exact BK470.out) hb); have n4_ := Aside0.mk (blk_below (g := gb495) (o := .cells #[.int .i64 t492, .int .i64 t493] 33 (0, 0)) (by (with_reducible repeat (first | refine blk_drewN ?_ _ | refine blk_drew ?_ | refine blk_alloc ?_ _)); exact BK495.out) hb); have n5_ := Aside0.mk (blk_below (g := gb499) (o := .cells #[.int .i64 t496, .int .i64 t497] 33 (0, 0)) (by (with_reducible repeat (first | refine blk_drewN ?_ _ | refine blk_drew ?_ | refine blk_alloc ?_ _)); exact BK499.out) hb); have n6_ := Aside0.mk (blk_below (g := gb505) (o := .cells #[.int .i64 t500, .int .i64 t501] 33 (0, 0)) (by (with_reducible repeat (first | refine blk_drewN ?_ _ | refine blk_drew ?_ | refine blk_alloc ?_ _)); exact BK505.out) hb); have n7_ := Aside0.mk (below_step (by repeat (first | (with_reducible first | exact HB.out | apply below_alloc | apply pw_below_drewN | apply below_drew1 | refine below_set ?_ GE470.out | refine below_set ?_ GE495.out | refine below_set ?_ GE499.out | refine below_set ?_ GE505.out) | exact HB.out)) hb); clear HO491; clear HO504; clear HO509; clear BK470; clear BK495; clear BK499; clear BK505; clear HB; have HO491 := n0_; have HO504 := n1_; have HO509 := n2_; have BK470 := n3_; have BK495 := n4_; have BK499 := n5_; have BK505 := n6_; have HB := n7_; clear n0_ n1_ n2_ n3_ n4_ n5_ n6_ n7_; (try clear hb); (try clear hb2); (try clear hk); (try clear hi)) | ((with_reducible refine gate_callee (f := 25) rfl ?_); refine goesL_ (some 237) rfl rfl Try.func25 (by kernel_rfl) rfl #[.int .i64 t506, .slice Ao154 t507.length co154] rfl (by first | rfl | (simp only [List.map_toArray, List.map_cons, List.map_nil, List.length_drop, List.length_take]; rfl)) ?_; (with_reducible refine (spec_LeastSet.calls kj79 t506 _ _ t507 t512 t513 _ ?side1 ?side2 A121.out).mono ?_); (case side1 => repeat (first | exact (Kd.R_reads' HO509.out).2.2 | (with_reducible refine Kd.C_alloc ?_ _) | (with_reducible refine Kd.C_drewN ?_ _) | (with_reducible refine Kd.C_drew ?_))); (case side2 => exact (Kd.R_reads' HO509.out).2.1); rintro e w156 ⟨rfl, hb⟩; refine ⟨_, rfl, ?_⟩; have n0_ := Aside0.mk (Kd.R_below (by (with_reducible repeat (first | apply Kd.R_alloc | apply Kd.R_drewN | apply Kd.R_drew)); exact HO491.out) hb); have n1_ := Aside0.mk (Kd.R_below (by (with_reducible repeat (first | apply Kd.R_alloc | apply Kd.R_drewN | apply Kd.R_drew)); exact HO504.out) hb); have n2_ := Aside0.mk (Kd.R_below (by (with_reducible repeat (first | apply Kd.R_alloc | apply Kd.R_drewN | apply Kd.R_drew)); exact HO509.out) hb); have n3_ := Aside0.mk (blk_below (g := gb470) (o := .cells #[.int .i64 t465, .int .i64 t466] 33 (0, 0)) (by (with_reducible repeat (first | refine blk_drewN ?_ _ | refine blk_drew ?_ | refine blk_alloc ?_ _)); exact BK470.out) hb); have n4_ := Aside0.mk (blk_below (g := gb495) (o := .cells #[.int .i64 t492, .int .i64 t493] 33 (0, 0)) (by (with_reducible repeat (first | refine blk_drewN ?_ _ | refine blk_drew ?_ | refine blk_alloc ?_ _)); exact BK495.out) hb); have n5_ := Aside0.mk (blk_below (g := gb499) (o := .cells #[.int .i64 t496, .int .i64 t497] 33 (0, 0)) (by (with_reducible repeat (first | refine blk_drewN ?_ _ | refine blk_drew ?_ | refine blk_alloc ?_ _)); exact BK499.out) hb); have n6_ := Aside0.mk (blk_below (g := gb505) (o := .cells #[.int .i64 t500, .int .i64 t501] 33 (0, 0)) (by (with_reducible repeat (first | refine blk_drewN ?_ _ | refine blk_drew ?_ | refine blk_alloc ?_ _)); exact BK505.out) hb); have n7_ := Aside0.mk (below_step (by repeat (first | (with_reducible first | exact HB.out | apply below_alloc | apply pw_below_drewN | apply below_drew1 | refine below_set ?_ GE470.out | refine below_set ?_ GE495.out | refine below_set ?_ GE499.out | refine below_set ?_ GE505.out) | exact HB.out)) hb); clear HO491; clear HO504; clear HO509; clear BK470; clear BK495; clear BK499; clear BK505; clear HB; have HO491 := n0_; have HO504 := n1_; have HO509 := n2_; have BK470 := n3_; have BK495 := n4_; have BK499 := n5_; have BK505 := n6_; have HB := n7_; clear n0_ n1_ n2_ n3_ n4_ n5_ n6_ n7_; (try clear hb); (try clear hb2); (try clear hk); (try clear hi)) | ((with_reducible refine gate_callee (f := 26) rfl ?_); refine goesL_ (some 242) rfl rfl Try.func26 (by kernel_rfl) rfl #[.slice A0 l0.length c0] rfl (by first | rfl | (simp only [List.map_toArray, List.map_cons, List.map_nil, List.length_drop, List.length_take]; rfl)) ?_; (with_reducible refine (spec_DrawErrorsOf.calls kj79 _ _ l0 t514 t515 t516 _ ?side1 ?side2 A122.out).mono ?_); (case side1 => repeat (first | exact (Kd.C_below HR0.out HB.out) | (with_reducible refine Kd.C_alloc ?_ _) | (with_reducible refine Kd.C_drewN ?_ _) | (with_reducible refine Kd.C_drew ?_))); (case side2 => exact HC0.out); rintro e w157 ⟨v517, rfl, ho0, hb⟩; refine ⟨_, rfl, ?_⟩; have n0_ := Aside0.mk (Kd.R_elder' (by (with_reducible repeat (first | apply Kd.R_alloc | apply Kd.R_drewN | apply Kd.R_drew)); exact HO491.out) (Kd.R_base ho0) hb); have n1_ := Aside0.mk (Kd.R_elder' (by (with_reducible repeat (first | apply Kd.R_alloc | apply Kd.R_drewN | apply Kd.R_drew)); exact HO504.out) (Kd.R_base ho0) hb); have n2_ := Aside0.mk (Kd.R_elder' (by (with_reducible repeat (first | apply Kd.R_alloc | apply Kd.R_drewN | apply Kd.R_drew)); exact HO509.out) (Kd.R_base ho0) hb); have n3_ := Aside0.mk (Kd.R_lower (Kd.R_new' (Kd.R_new' (Kd.R_new' ho0 (Kd.R_lt (by (with_reducible repeat (first | apply Kd.R_alloc | apply Kd.R_drewN | apply Kd.R_drew)); exact HO491.out))) (Kd.R_lt (by (with_reducible repeat (first | apply Kd.R_alloc | apply Kd.R_drewN | apply Kd.R_drew)); exact HO504.out))) (Kd.R_lt (by (with_reducible repeat (first | apply Kd.R_alloc | apply Kd.R_drewN | apply Kd.R_drew)); exact HO509.out))) (below_size (by repeat (first | (with_reducible first | exact HB.out | apply below_alloc | apply pw_below_drewN | apply below_drew1 | refine below_set ?_ GE470.out | refine below_set ?_ GE495.out | refine below_set ?_ GE499.out | refine below_set ?_ GE505.out) | exact HB.out)))); have n4_ := Aside0.mk (blk_below (g := gb470) (o := .cells #[.int .i64 t465, .int .i64 t466] 33 (0, 0)) (by (with_reducible repeat (first | refine blk_drewN ?_ _ | refine blk_drew ?_ | refine blk_alloc ?_ _)); exact BK470.out) hb); have n5_ := Aside0.mk (blk_below (g := gb495) (o := .cells #[.int .i64 t492, .int .i64 t493] 33 (0, 0)) (by (with_reducible repeat (first | refine blk_drewN ?_ _ | refine blk_drew ?_ | refine blk_alloc ?_ _)); exact BK495.out) hb); have n6_ := Aside0.mk (blk_below (g := gb499) (o := .cells #[.int .i64 t496, .int .i64 t497] 33 (0, 0)) (by (with_reducible repeat (first | refine blk_drewN ?_ _ | refine blk_drew ?_ | refine blk_alloc ?_ _)); exact BK499.out) hb); have n7_ := Aside0.mk (blk_below (g := gb505) (o := .cells #[.int .i64 t500, .int .i64 t501] 33 (0, 0)) (by (with_reducible repeat (first | refine blk_drewN ?_ _ | refine blk_drew ?_ | refine blk_alloc ?_ _)); exact BK505.out) hb); have n8_ := Aside0.mk (below_step (by repeat (first | (with_reducible first | exact HB.out | apply below_alloc | apply pw_below_drewN | apply below_drew1 | refine below_set ?_ GE470.out | refine below_set ?_ GE495.out | refine below_set ?_ GE499.out | refine below_set ?_ GE505.out) | exact HB.out)) hb); clear HO491; clear HO504; clear HO509; clear BK470; clear BK495; clear BK499; clear BK505; clear HB; have HO491 := n0_; have HO504 := n1_; have HO509 := n2_; have HO518 := n3_; have BK470 := n4_; have BK495 := n5_; have BK499 := n6_; have BK505 := n7_; have HB := n8_; clear n0_ n1_ n2_ n3_ n4_ n5_ n6_ n7_ n8_; (try clear hb); (try clear hb2); (try clear hk); (try clear hi); (try clear ho0)) | ((with_reducible refine gate_dst (N := 39) rfl ?_); (try (refine gate_guard (by rfl) ?_; dsimp only)); refine box_event ?hg (N := 39) ?hd (cs := #[.int .i64 0, .int .i64 0]) (t := 33) ?hr ?_; (case hd => rfl); (case hg => rfl); (case hr => first | (go_simp; done) | (go_simp; rfl)); intro gb519 hg w158 hbox hb; have n0_ := Aside0.mk (Kd.R_below (by (with_reducible repeat (first | apply Kd.R_alloc | apply Kd.R_drewN | apply Kd.R_drew)); exact HO491.out) hb); have n1_ := Aside0.mk (Kd.R_below (by (with_reducible repeat (first | apply Kd.R_alloc | apply Kd.R_drewN | apply Kd.R_drew)); exact HO504.out) hb); have n2_ := Aside0.mk (Kd.R_below (by (with_reducible repeat (first | apply Kd.R_alloc | apply Kd.R_drewN | apply Kd.R_drew)); exact HO509.out) hb); have n3_ := Aside0.mk (Kd.R_below (by (with_reducible repeat (first | apply Kd.R_alloc | apply Kd.R_drewN | apply Kd.R_drew)); exact HO518.out) hb); have n4_ := Aside0.mk (blk_below (g := gb470) (o := .cells #[.int .i64 t465, .int .i64 t466] 33 (0, 0)) (by (with_reducible repeat (first | refine blk_drewN ?_ _ | refine blk_drew ?_ | refine blk_alloc ?_ _)); exact BK470.out) hb); have n5_ := Aside0.mk (blk_below (g := gb495) (o := .cells #[.int .i64 t492, .int .i64 t493] 33 (0, 0)) (by (with_reducible repeat (first | refine blk_drewN ?_ _ | refine blk_drew ?_ | refine blk_alloc ?_ _)); exact BK495.out) hb); have n6_ := Aside0.mk (blk_below (g := gb499) (o := .cells #[.int .i64 t496, .int .i64 t497] 33 (0, 0)) (by (with_reducible repeat (first | refine blk_drewN ?_ _ | refine blk_drew ?_ | refine blk_alloc ?_ _)); exact BK499.out) hb); have n7_ := Aside0.mk (blk_below (g := gb505) (o := .cells #[.int .i64 t500, .int .i64 t501] 33 (0, 0)) (by (with_reducible repeat (first | refine blk_drewN ?_ _ | refine blk_drew ?_ | refine blk_alloc ?_ _)); exact BK505.out) hb); have n8_ := Aside0.mk (below_step (by repeat (first | (with_reducible first | exact HB.out | apply below_alloc | apply pw_below_drewN | apply below_drew1 | refine below_set ?_ GE470.out | refine below_set ?_ GE495.out | refine below_set ?_ GE499.out | refine below_set ?_ GE505.out) | exact HB.out)) hb); have n9_ := Aside0.mk (hbox); have n10_ := Aside0.mk ((by rw [hg]; exact (below_size (by repeat (first | (with_reducible first | exact HB.out | apply below_alloc | apply pw_below_drewN | apply below_drew1 | refine below_set ?_ GE470.out | refine below_set ?_ GE495.out | refine below_set ?_ GE499.out | refine below_set ?_ GE505.out) | exact HB.out))) : w.heap.size ≤ gb519)); have n11_ := Aside0.mk ((by rw [hg]; exact (below_size (by repeat (first | (with_reducible first | exact HB.out | apply below_alloc | apply pw_below_drewN | apply below_drew1 | refine below_set ?_ GE470.out | refine below_set ?_ GE495.out | refine below_set ?_ GE499.out | refine below_set ?_ GE505.out) | exact HB.out))) : w.heap.size ≤ gb519)); have n12_ := Aside0.mk ((by rw [hg]; exact Nat.ne_of_lt (blk_lt (g := gb470) (o := .cells #[.int .i64 t465, .int .i64 t466] 33 (0, 0)) (by (with_reducible repeat (first | refine blk_drewN ?_ _ | refine blk_drew ?_ | refine blk_alloc ?_ _)); exact BK470.out)) : gb470 ≠ gb519)); have n13_ := Aside0.mk ((by rw [hg]; exact Nat.ne_of_gt (blk_lt (g := gb470) (o := .cells #[.int .i64 t465, .int .i64 t466] 33 (0, 0)) (by (with_reducible repeat (first | refine blk_drewN ?_ _ | refine blk_drew ?_ | refine blk_alloc ?_ _)); exact BK470.out)) : gb519 ≠ gb470)); have n14_ := Aside0.mk ((by rw [hg]; exact Nat.ne_of_lt (blk_lt (g := gb495) (o := .cells #[.int .i64 t492, .int .i64 t493] 33 (0, 0)) (by (with_reducible repeat (first | refine blk_drewN ?_ _ | refine blk_drew ?_ | refine blk_alloc ?_ _)); exact BK495.out)) : gb495 ≠ gb519)); have n15_ := Aside0.mk ((by rw [hg]; exact Nat.ne_of_gt (blk_lt (g := gb495) (o := .cells #[.int .i64 t492, .int .i64 t493] 33 (0, 0)) (by (with_reducible repeat (first | refine blk_drewN ?_ _ | refine blk_drew ?_ | refine blk_alloc ?_ _)); exact BK495.out)) : gb519 ≠ gb495)); have n16_ := Aside0.mk ((by rw [hg]; exact Nat.ne_of_lt (blk_lt (g := gb499) (o := .cells #[.int .i64 t496, .int .i64 t497] 33 (0, 0)) (by (with_reducible repeat (first | refine blk_drewN ?_ _ | refine blk_drew ?_ | refine blk_alloc ?_ _)); exact BK499.out)) : gb499 ≠ gb519)); have n17_ := Aside0.mk ((by rw [hg]; exact Nat.ne_of_gt (blk_lt (g := gb499) (o := .cells #[.int .i64 t496, .int .i64 t497] 33 (0, 0)) (by (with_reducible repeat (first | refine blk_drewN ?_ _ | refine blk_drew ?_ | refine blk_alloc ?_ _)); exact BK499.out)) : gb519 ≠ gb499)); have n18_ := Aside0.mk ((by rw [hg]; exact Nat.ne_of_lt (blk_lt (g := gb505) (o := .cells #[.int .i64 t500, .int .i64 t501] 33 (0, 0)) (by (with_reducible repeat (first | refine blk_drewN ?_ _ | refine blk_drew ?_ | refine blk_alloc ?_ _)); exact BK505.out)) : gb505 ≠ gb519)); have n19_ := Aside0.mk ((by rw [hg]; exact Nat.ne_of_gt (blk_lt (g := gb505) (o := .cells #[.int .i64 t500, .int .i64 t501] 33 (0, 0)) (by (with_reducible repeat (first | refine blk_drewN ?_ _ | refine blk_drew ?_ | refine blk_alloc ?_ _)); exact BK505.out)) : gb519 ≠ gb505)); clear HO491; clear HO504; clear HO509; clear HO518; clear BK470; clear BK495; clear BK499; clear BK505; clear HB; have HO491 := n0_; have HO504 := n1_; have HO509 := n2_; have HO518 := n3_; have BK470 := n4_; have BK495 := n5_; have BK499 := n6_; have BK505 := n7_; have HB := n8_; have BK519 := n9_; have GW519 := n10_; have GE519 := n11_; have NB470_519 := n12_; have NB519_470 := n13_; have NB495_519 := n14_; have NB519_495 := n15_; have NB499_519 := n16_; have NB519_499 := n17_; have NB505_519 := n18_; have NB519_505 := n19_; clear n0_ n1_ n2_ n3_ n4_ n5_ n6_ n7_ n8_ n9_ n10_ n11_ n12_ n13_ n14_ n15_ n16_ n17_ n18_ n19_; clear hb hbox hg; have hnb159 := NB519_470.out; have hnc159 := NB470_519.out; have hnb160 := NB519_495.out; have hnc160 := NB495_519.out; have hnb161 := NB519_499.out; have hnc161 := NB499_519.out; have hnb162 := NB519_505.out; have hnc162 := NB505_519.out; have hcz163_0 : w158.cell? ⟨gb519, 0, none⟩ = some (.int .i64 0) := (blk_cell BK519.out 0).trans rfl; have hcz163_1 : w158.cell? ⟨gb519, 1, none⟩ = some (.int .i64 0) := (blk_cell BK519.out 1).trans rfl; have hfz163_0 := blk_frozen BK519.out 0; have hfz163_1 := blk_frozen BK519.out 1) | ((with_reducible refine gate_callee (f := 27) rfl ?_); refine goesL_ (some 247) rfl rfl Try.func27 (by kernel_rfl) rfl #[.slice A0 l0.length c0] rfl (by first | rfl | (simp only [List.map_toArray, List.map_cons, List.map_nil, List.length_drop, List.length_take]; rfl)) ?_; (with_reducible refine (spec_DrawIsSampleList.calls kj79 _ _ l0 t520 t521 _ ?side1 ?side2 A123.out).mono ?_); (case side1 => exact Kd.C_below HR0.out (by repeat (first | (with_reducible first | exact HB.out | apply below_alloc | apply pw_below_drewN | apply below_drew1 | refine below_set ?_ GE470.out | refine below_set ?_ GE495.out | refine below_set ?_ GE499.out | refine below_set ?_ GE505.out | refine below_set ?_ GE519.out) | exact HB.out))); (case side2 => exact HC0.out); rintro e w164 ⟨v522, rfl, ho0, hb⟩; refine ⟨_, rfl, ?_⟩; have n0_ := Aside0.mk (Kd.R_elder' (by (with_reducible repeat (first | apply Kd.R_alloc | apply Kd.R_drewN | apply Kd.R_drew)); exact (Kd.R_mono (Kd.R_far (p := ⟨gb519, 1, none⟩) (Kd.R_far (p := ⟨gb519, 0, none⟩) (Kd.R_types HO491.out BK519.out (by decide)) (fun _ hk => hk.2) (.int .i64 t514)) (fun _ hk => hk.2) (.int .i64 t515)) (fun _ h_ => h_.1))) (Kd.R_base ho0) hb); have n1_ := Aside0.mk (Kd.R_elder' (by (with_reducible repeat (first | apply Kd.R_alloc | apply Kd.R_drewN | apply Kd.R_drew)); exact (Kd.R_mono (Kd.R_far (p := ⟨gb519, 1, none⟩) (Kd.R_far (p := ⟨gb519, 0, none⟩) (Kd.R_types HO504.out BK519.out (by decide)) (fun _ hk => hk.2) (.int .i64 t514)) (fun _ hk => hk.2) (.int .i64 t515)) (fun _ h_ => h_.1))) (Kd.R_base ho0) hb); have n2_ := Aside0.mk (Kd.R_elder' (by (with_reducible repeat (first | apply Kd.R_alloc | apply Kd.R_drewN | apply Kd.R_drew)); exact (Kd.R_mono (Kd.R_far (p := ⟨gb519, 1, none⟩) (Kd.R_far (p := ⟨gb519, 0, none⟩) (Kd.R_types HO509.out BK519.out (by decide)) (fun _ hk => hk.2) (.int .i64 t514)) (fun _ hk => hk.2) (.int .i64 t515)) (fun _ h_ => h_.1))) (Kd.R_base ho0) hb); have n3_ := Aside0.mk (Kd.R_elder' (by (with_reducible repeat (first | apply Kd.R_alloc | apply Kd.R_drewN | apply Kd.R_drew)); exact (Kd.R_mono (Kd.R_far (p := ⟨gb519, 1, none⟩) (Kd.R_far (p := ⟨gb519, 0, none⟩) (Kd.R_types HO518.out BK519.out (by decide)) (fun _ hk => hk.2) (.int .i64 t514)) (fun _ hk => hk.2) (.int .i64 t515)) (fun _ h_ => h_.1))) (Kd.R_base ho0) hb); have n4_ := Aside0.mk (Kd.R_lower (Kd.R_new' (Kd.R_new' (Kd.R_new' (Kd.R_new' ho0 (Kd.R_lt (by (with_reducible repeat (first | apply Kd.R_alloc | apply Kd.R_drewN | apply Kd.R_drew)); exact (Kd.R_mono (Kd.R_far (p := ⟨gb519, 1, none⟩) (Kd.R_far (p := ⟨gb519, 0, none⟩) (Kd.R_types HO491.out BK519.out (by decide)) (fun _ hk => hk.2) (.int .i64 t514)) (fun _ hk => hk.2) (.int .i64 t515)) (fun _ h_ => h_.1))))) (Kd.R_lt (by (with_reducible repeat (first | apply Kd.R_alloc | apply Kd.R_drewN | apply Kd.R_drew)); exact (Kd.R_mono (Kd.R_far (p := ⟨gb519, 1, none⟩) (Kd.R_far (p := ⟨gb519, 0, none⟩) (Kd.R_types HO504.out BK519.out (by decide)) (fun _ hk => hk.2) (.int .i64 t514)) (fun _ hk => hk.2) (.int .i64 t515)) (fun _ h_ => h_.1))))) (Kd.R_lt (by (with_reducible repeat (first | apply Kd.R_alloc | apply Kd.R_drewN | apply Kd.R_drew)); exact (Kd.R_mono (Kd.R_far (p := ⟨gb519, 1, none⟩) (Kd.R_far (p := ⟨gb519, 0, none⟩) (Kd.R_types HO509.out BK519.out (by decide)) (fun _ hk => hk.2) (.int .i64 t514)) (fun _ hk => hk.2) (.int .i64 t515)) (fun _ h_ => h_.1))))) (Kd.R_lt (by (with_reducible repeat (first | apply Kd.R_alloc | apply Kd.R_drewN | apply Kd.R_drew)); exact (Kd.R_mono (Kd.R_far (p := ⟨gb519, 1, none⟩) (Kd.R_far (p := ⟨gb519, 0, none⟩) (Kd.R_types HO518.out BK519.out (by decide)) (fun _ hk => hk.2) (.int .i64 t514)) (fun _ hk => hk.2) (.int .i64 t515)) (fun _ h_ => h_.1))))) (below_size (by repeat (first | (with_reducible first | exact HB.out | apply below_alloc | apply pw_below_drewN | apply below_drew1 | refine below_set ?_ GE470.out | refine below_set ?_ GE495.out | refine below_set ?_ GE499.out | refine below_set ?_ GE505.out | refine below_set ?_ GE519.out) | exact HB.out)))); have n5_ := Aside0.mk (blk_below (g := gb470) (o := .cells #[.int .i64 t465, .int .i64 t466] 33 (0, 0)) (by (with_reducible repeat (first | refine blk_drewN ?_ _ | refine blk_drew ?_ | refine blk_alloc ?_ _)); refine blk_far ?_ NB470_519.out _; (with_reducible repeat (first | refine blk_drewN ?_ _ | refine blk_drew ?_ | refine blk_alloc ?_ _)); refine blk_far ?_ NB470_519.out _; (with_reducible repeat (first | refine blk_drewN ?_ _ | refine blk_drew ?_ | refine blk_alloc ?_ _)); exact BK470.out) hb); have n6_ := Aside0.mk (blk_below (g := gb495) (o := .cells #[.int .i64 t492, .int .i64 t493] 33 (0, 0)) (by (with_reducible repeat (first | refine blk_drewN ?_ _ | refine blk_drew ?_ | refine blk_alloc ?_ _)); refine blk_far ?_ NB495_519.out _; (with_reducible repeat (first | refine blk_drewN ?_ _ | refine blk_drew ?_ | refine blk_alloc ?_ _)); refine blk_far ?_ NB495_519.out _; (with_reducible repeat (first | refine blk_drewN ?_ _ | refine blk_drew ?_ | refine blk_alloc ?_ _)); exact BK495.out) hb); have n7_ := Aside0.mk (blk_below (g := gb499) (o := .cells #[.int .i64 t496, .int .i64 t497] 33 (0, 0)) (by (with_reducible repeat (first | refine blk_drewN ?_ _ | refine blk_drew ?_ | refine blk_alloc ?_ _)); refine blk_far ?_ NB499_519.out _; (with_reducible repeat (first | refine blk_drewN ?_ _ | refine blk_drew ?_ | refine blk_alloc ?_ _)); refine blk_far ?_ NB499_519.out _; (with_reducible repeat (first | refine blk_drewN ?_ _ | refine blk_drew ?_ | refine blk_alloc ?_ _)); exact BK499.out) hb); have n8_ := Aside0.mk (blk_below (g := gb505) (o := .cells #[.int .i64 t500, .int .i64 t501] 33 (0, 0)) (by (with_reducible repeat (first | refine blk_drewN ?_ _ | refine blk_drew ?_ | refine blk_alloc ?_ _)); refine blk_far ?_ NB505_519.out _; (with_reducible repeat (first | refine blk_drewN ?_ _ | refine blk_drew ?_ | refine blk_alloc ?_ _)); refine blk_far ?_ NB505_519.out _; (with_reducible repeat (first | refine blk_drewN ?_ _ | refine blk_drew ?_ | refine blk_alloc ?_ _)); exact BK505.out) hb); have n9_ := Aside0.mk (blk_below (g := gb519) (o := .cells #[.int .i64 t514, .int .i64 t515] 33 (0, 0)) (by (with_reducible repeat (first | refine blk_drewN ?_ _ | refine blk_drew ?_ | refine blk_alloc ?_ _)); refine blk_put (cs := #[.int .i64 t514, .int .i64 0]) ?_ 1 _ rfl; (with_reducible repeat (first | refine blk_drewN ?_ _ | refine blk_drew ?_ | refine blk_alloc ?_ _)); refine blk_put (cs := #[.int .i64 0, .int .i64 0]) ?_ 0 _ rfl; (with_reducible repeat (first | refine blk_drewN ?_ _ | refine blk_drew ?_ | refine blk_alloc ?_ _)); exact BK519.out) hb); have n10_ := Aside0.mk (below_step (by repeat (first | (with_reducible first | exact HB.out | apply below_alloc | apply pw_below_drewN | apply below_drew1 | refine below_set ?_ GE470.out | refine below_set ?_ GE495.out | refine below_set ?_ GE499.out | refine below_set ?_ GE505.out | refine below_set ?_ GE519.out) | exact HB.out)) hb); clear HO491; clear HO504; clear HO509; clear HO518; clear BK470; clear BK495; clear BK499; clear BK505; clear BK519; clear HB; have HO491 := n0_; have HO504 := n1_; have HO509 := n2_; have HO518 := n3_; have HO523 := n4_; have BK470 := n5_; have BK495 := n6_; have BK499 := n7_; have BK505 := n8_; have BK519 := n9_; have HB := n10_; clear n0_ n1_ n2_ n3_ n4_ n5_ n6_ n7_ n8_ n9_ n10_; (try clear hb); (try clear hb2); (try clear hk); (try clear hi); (try clear ho0)))
                      have n0_ := Aside0.mk (Kd.R_drew HO491.out)
                      have n1_ := Aside0.mk (Kd.R_drew HO504.out)
                      have n2_ := Aside0.mk (Kd.R_drew HO509.out)
                      have n3_ := Aside0.mk (Kd.R_drew HO518.out)
                      have n4_ := Aside0.mk (Kd.R_drew HO523.out)
                      have n5_ := Aside0.mk (blk_drew BK470.out)
                      have n6_ := Aside0.mk (blk_drew BK495.out)
                      have n7_ := Aside0.mk (blk_drew BK499.out)
                      have n8_ := Aside0.mk (blk_drew BK505.out)
                      have n9_ := Aside0.mk (blk_drew BK519.out)
                      have n10_ := Aside0.mk (below_drew1 HB.out)
                      clear HO491; clear HO504; clear HO509; clear HO518; clear HO523; clear BK470; clear BK495; clear BK499; clear BK505; clear BK519; clear HB; have HO491 := n0_; have HO504 := n1_; have HO509 := n2_; have HO518 := n3_; have HO523 := n4_; have BK470 := n5_; have BK495 := n6_; have BK499 := n7_; have BK505 := n8_; have BK519 := n9_; have HB := n10_; clear n0_ n1_ n2_ n3_ n4_ n5_ n6_ n7_ n8_ n9_ n10_
                      obtain ⟨Ao166, co166, eo166⟩ := Kd.R_slice HO504.out
                      (first | subst eo166 | (injection eo166 with f1_ f2_ f3_; have f4_ := f1_.symm; have f5_ := f3_.symm; clear f1_ f2_ f3_; subst f4_; subst f5_))
                      refine start_ (n := 46) (S := fun w' => w'.cell? ⟨gb495, 0, none⟩ = some (.int .i64 t492) ∧ w'.cell? ⟨gb495, 1, none⟩ = some (.int .i64 t493) ∧ w'.cell? ⟨gb499, 0, none⟩ = some (.int .i64 t496) ∧ w'.cell? ⟨gb499, 1, none⟩ = some (.int .i64 t497) ∧ w'.cell? ⟨gb505, 0, none⟩ = some (.int .i64 t500) ∧ w'.cell? ⟨gb505, 1, none⟩ = some (.int .i64 t501) ∧ w'.cell? ⟨gb519, 0, none⟩ = some (.int .i64 t514) ∧ w'.cell? ⟨gb519, 1, none⟩ = some (.int .i64 t515)) (ds := []) #[false, false, false, false, false, false, false, false, false, false, false, false, false, false, false, false, false, false, false, false, false, false, false, false, false, false, false, false, false, false, false, false, false, false, false, false, false, false, false, false, false, false, false, false, false, false] (by kernel_rfl) rfl rfl ⟨(blk_cell BK495.out 0).trans rfl, (blk_cell BK495.out 1).trans rfl, (blk_cell BK499.out 0).trans rfl, (blk_cell BK499.out 1).trans rfl, (blk_cell BK505.out 0).trans rfl, (blk_cell BK505.out 1).trans rfl, (blk_cell BK519.out 0).trans rfl, (blk_cell BK519.out 1).trans rfl⟩ (fun hHeld => ?_); refine with_tabW laws_FnLearning.tab41 laws_FnLearning.bits41 (fun HT_ HW_ => ?_)
                      generalize w164.drew = w165 at HO491 HO504 HO509 HO518 HO523 BK470 BK495 BK499 BK505 BK519 HB hHeld ⊢
                      refine take_ (i := 0) (N := some 250) (v := ?_) (a' := ?_) #[true, false, false, false, false, false, false, false, false, false, false, false, false, false, false, false, false, false, false, false, false, false, false, false, false, false, false, false, false, false, false, false, false, false, false, false, false, false, false, false, false, false, false, false, false, false] rfl rfl (take_ofW HT_.out HW_.out (by kernel_rfl)) (fun _ _ _ h => h) (Or.inl ⟨by rfl, ?_⟩) hHeld ?_ ?_
                      rotate_left
                      ·rintro w' ⟨s0, s1, s2, s3, s4, s5, s6, s7⟩
                       go_simp; with_reducible rfl
                      rotate_left
                      ·simp only [Act.put, sT_, s0_, s1_, i64_w, i32_w]; rfl
                      refine take_ (i := 1) (N := some 251) (v := ?_) (a' := ?_) #[true, true, false, false, false, false, false, false, false, false, false, false, false, false, false, false, false, false, false, false, false, false, false, false, false, false, false, false, false, false, false, false, false, false, false, false, false, false, false, false, false, false, false, false, false, false] rfl rfl (take_ofW HT_.out HW_.out (by kernel_rfl)) (fun _ _ _ h => h) (Or.inl ⟨by rfl, ?_⟩) hHeld ?_ ?_
                      rotate_left
                      ·rintro w' ⟨s0, s1, s2, s3, s4, s5, s6, s7⟩
                       go_simp; with_reducible rfl
                      rotate_left
                      ·simp only [Act.put, sT_, s0_, s1_, i64_w, i32_w]; rfl
                      refine pure_ (i := 2) (N := some 252) (v := ?_) (a' := ?_) #[true, true, true, false, false, false, false, false, false, false, false, false, false, false, false, false, false, false, false, false, false, false, false, false, false, false, false, false, false, false, false, false, false, false, false, false, false, false, false, false, false, false, false, false, false, false] rfl rfl (any_of HT_.out (by kernel_rfl)) (fun _ _ _ h => h) (Or.inl ⟨by rfl, ?_⟩) ?_ ?_; rotate_left
                      ·intro w'; go_simp; with_reducible rfl
                      rotate_left
                      ·simp only [Act.put, sT_, s0_, s1_, i64_w, i32_w]; rfl
                      refine pure_ (i := 3) (N := some 253) (v := ?_) (a' := ?_) #[true, true, true, true, false, false, false, false, false, false, false, false, false, false, false, false, false, false, false, false, false, false, false, false, false, false, false, false, false, false, false, false, false, false, false, false, false, false, false, false, false, false, false, false, false, false] rfl rfl (any_of HT_.out (by kernel_rfl)) (fun _ _ _ h => h) (Or.inl ⟨by rfl, ?_⟩) ?_ ?_; rotate_left
                      ·intro w'; go_simp; with_reducible rfl
                      rotate_left
                      ·simp only [Act.put, sT_, s0_, s1_, i64_w, i32_w]; rfl
                      refine pure_ (i := 4) (N := some 254) (v := ?_) (a' := ?_) #[true, true, true, true, true, false, false, false, false, false, false, false, false, false, false, false, false, false, false, false, false, false, false, false, false, false, false, false, false, false, false, false, false, false, false, false, false, false, false, false, false, false, false, false, false, false] rfl rfl (any_of HT_.out (by kernel_rfl)) (fun _ _ _ h => h) (Or.inl ⟨by rfl, ?_⟩) ?_ ?_; rotate_left
                      ·intro w'; go_simp; with_reducible rfl
                      rotate_left
                      ·simp only [Act.put, sT_, s0_, s1_, i64_w, i32_w]; rfl
                      refine pure_ (i := 5) (N := some 255) (v := ?_) (a' := ?_) #[true, true, true, true, true, true, false, false, false, false, false, false, false, false, false, false, false, false, false, false, false, false, false, false, false, false, false, false, false, false, false, false, false, false, false, false, false, false, false, false, false, false, false, false, false, false] rfl rfl (any_of HT_.out (by kernel_rfl)) (fun _ _ _ h => h) (Or.inl ⟨by rfl, ?_⟩) ?_ ?_; rotate_left
                      ·intro w'; go_simp; with_reducible rfl
                      rotate_left
                      ·simp only [Act.put, sT_, s0_, s1_, i64_w, i32_w]; rfl
                      refine pure_ (i := 6) (N := some 256) (v := ?_) (a' := ?_) #[true, true, true, true, true, true, true, false, false, false, false, false, false, false, false, false, false, false, false, false, false, false, false, false, false, false, false, false, false, false, false, false, false, false, false, false, false, false, false, false, false, false, false, false, false, false] rfl rfl (any_of HT_.out (by kernel_rfl)) (fun _ _ _ h => h) (Or.inl ⟨by rfl, ?_⟩) ?_ ?_; rotate_left
                      ·intro w'; go_simp; with_reducible rfl
                      rotate_left
                      ·simp only [Act.put, sT_, s0_, s1_, i64_w, i32_w]; rfl
                      refine pure_ (i := 7) (N := some 257) (v := ?_) (a' := ?_) #[true, true, true, true, true, true, true, true, false, false, false, false, false, false, false, false, false, false, false, false, false, false, false, false, false, false, false, false, false, false, false, false, false, false, false, false, false, false, false, false, false, false, false, false, false, false] rfl rfl (any_of HT_.out (by kernel_rfl)) (fun _ _ _ h => h) (Or.inl ⟨by rfl, ?_⟩) ?_ ?_; rotate_left
                      ·intro w'; go_simp; with_reducible rfl
                      rotate_left
                      ·simp only [Act.put, sT_, s0_, s1_, i64_w, i32_w]; rfl
                      refine pure_ (i := 8) (N := some 258) (v := ?_) (a' := ?_) #[true, true, true, true, true, true, true, true, true, false, false, false, false, false, false, false, false, false, false, false, false, false, false, false, false, false, false, false, false, false, false, false, false, false, false, false, false, false, false, false, false, false, false, false, false, false] rfl rfl (any_of HT_.out (by kernel_rfl)) (fun _ _ _ h => h) (Or.inl ⟨by rfl, ?_⟩) ?_ ?_; rotate_left
                      ·intro w'; go_simp; with_reducible rfl
                      rotate_left
                      ·simp only [Act.put, sT_, s0_, s1_, i64_w, i32_w]; rfl
                      refine pure_ (i := 10) (N := some 260) (v := ?_) (a' := ?_) #[true, true, true, true, true, true, true, true, true, false, true, false, false, false, false, false, false, false, false, false, false, false, false, false, false, false, false, false, false, false, false, false, false, false, false, false, false, false, false, false, false, false, false, false, false, false] rfl rfl (any_of HT_.out (by kernel_rfl)) (fun _ _ _ h => h) (Or.inl ⟨by rfl, ?_⟩) ?_ ?_; rotate_left
                      ·intro w'; go_simp; with_reducible rfl
                      rotate_left
                      ·simp only [Act.put, sT_, s0_, s1_, i64_w, i32_w]; rfl
                      refine pure_ (i := 13) (N := some 263) (v := ?_) (a' := ?_) #[true, true, true, true, true, true, true, true, true, false, true, false, false, true, false, false, false, false, false, false, false, false, false, false, false, false, false, false, false, false, false, false, false, false, false, false, false, false, false, false, false, false, false, false, false, false] rfl rfl (any_of HT_.out (by kernel_rfl)) (fun _ _ _ h => h) (Or.inl ⟨by rfl, ?_⟩) ?_ ?_; rotate_left
                      ·intro w'; go_simp; with_reducible rfl
                      rotate_left
                      ·simp only [Act.put, sT_, s0_, s1_, i64_w, i32_w]; rfl
                      refine take_ (i := 9) (N := some 259) (v := ?_) (a' := ?_) #[true, true, true, true, true, true, true, true, true, true, true, false, false, true, false, false, false, false, false, false, false, false, false, false, false, false, false, false, false, false, false, false, false, false, false, false, false, false, false, false, false, false, false, false, false, false] rfl rfl (take_ofW HT_.out HW_.out (by kernel_rfl)) (fun _ _ _ h => h) (Or.inl ⟨by rfl, ?_⟩) hHeld ?_ ?_
                      rotate_left
                      ·rintro w' ⟨s0, s1, s2, s3, s4, s5, s6, s7⟩
                       go_simp; with_reducible rfl
                      rotate_left
                      ·simp only [Act.put, sT_, s0_, s1_, i64_w, i32_w]; rfl
                      refine take_ (i := 12) (N := some 262) (v := ?_) (a' := ?_) #[true, true, true, true, true, true, true, true, true, true, true, false, true, true, false, false, false, false, false, false, false, false, false, false, false, false, false, false, false, false, false, false, false, false, false, false, false, false, false, false, false, false, false, false, false, false] rfl rfl (take_ofW HT_.out HW_.out (by kernel_rfl)) (fun _ _ _ h => h) (Or.inl ⟨by rfl, ?_⟩) hHeld ?_ ?_
                      rotate_left
                      ·rintro w' ⟨s0, s1, s2, s3, s4, s5, s6, s7⟩
                       go_simp; with_reducible rfl
                      rotate_left
                      ·simp only [Act.put, sT_, s0_, s1_, i64_w, i32_w]; rfl
                      refine one_ (i := 11) (N := some 261) #[true, true, true, true, true, true, true, true, true, true, true, true, true, true, false, false, false, false, false, false, false, false, false, false, false, false, false, false, false, false, false, false, false, false, false, false, false, false, false, false, false, false, false, false, false, false] rfl rfl (one_of HT_.out (by kernel_rfl)) (by decide) (fun K hK => ?_)
                      refine goes_ Try.func11 (by kernel_rfl) rfl #[.agg #[.int .i64 t500, .int .i64 t501], .slice Ao166 t502.length co166] (by rfl) rfl rfl (by first | rfl | (simp only [List.map_toArray, List.map_cons, List.map_nil, List.length_drop, List.length_take]; rfl)) ?_
                      with_reducible refine (impl_IsConsistent.calls kj79 t500 t501 _ _ t502 t524 _ ?side1 ?side2 A126.out).mono ?_
                      (case side1 => repeat (first | exact (Kd.R_reads' HO504.out).2.2 | (with_reducible refine Kd.C_alloc ?_ _) | (with_reducible refine Kd.C_drewN ?_ _) | (with_reducible refine Kd.C_drew ?_)))
                      (case side2 => exact (Kd.R_reads' HO504.out).2.1)
                      rintro e w167 ⟨rfl, hb⟩
                      refine ⟨_, rfl, ?_⟩
                      have n0_ := Aside0.mk (Kd.R_below (by (with_reducible repeat (first | apply Kd.R_alloc | apply Kd.R_drewN | apply Kd.R_drew)); exact HO491.out) hb)
                      have n1_ := Aside0.mk (Kd.R_below (by (with_reducible repeat (first | apply Kd.R_alloc | apply Kd.R_drewN | apply Kd.R_drew)); exact HO504.out) hb)
                      have n2_ := Aside0.mk (Kd.R_below (by (with_reducible repeat (first | apply Kd.R_alloc | apply Kd.R_drewN | apply Kd.R_drew)); exact HO509.out) hb)
                      have n3_ := Aside0.mk (Kd.R_below (by (with_reducible repeat (first | apply Kd.R_alloc | apply Kd.R_drewN | apply Kd.R_drew)); exact HO518.out) hb)
                      have n4_ := Aside0.mk (Kd.R_below (by (with_reducible repeat (first | apply Kd.R_alloc | apply Kd.R_drewN | apply Kd.R_drew)); exact HO523.out) hb)
                      have n5_ := Aside0.mk (blk_below (g := gb470) (o := .cells #[.int .i64 t465, .int .i64 t466] 33 (0, 0)) (by (with_reducible repeat (first | refine blk_drewN ?_ _ | refine blk_drew ?_ | refine blk_alloc ?_ _)); exact BK470.out) hb)
                      have n6_ := Aside0.mk (blk_below (g := gb495) (o := .cells #[.int .i64 t492, .int .i64 t493] 33 (0, 0)) (by (with_reducible repeat (first | refine blk_drewN ?_ _ | refine blk_drew ?_ | refine blk_alloc ?_ _)); exact BK495.out) hb)
                      have n7_ := Aside0.mk (blk_below (g := gb499) (o := .cells #[.int .i64 t496, .int .i64 t497] 33 (0, 0)) (by (with_reducible repeat (first | refine blk_drewN ?_ _ | refine blk_drew ?_ | refine blk_alloc ?_ _)); exact BK499.out) hb)
                      have n8_ := Aside0.mk (blk_below (g := gb505) (o := .cells #[.int .i64 t500, .int .i64 t501] 33 (0, 0)) (by (with_reducible repeat (first | refine blk_drewN ?_ _ | refine blk_drew ?_ | refine blk_alloc ?_ _)); exact BK505.out) hb)
                      have n9_ := Aside0.mk (blk_below (g := gb519) (o := .cells #[.int .i64 t514, .int .i64 t515] 33 (0, 0)) (by (with_reducible repeat (first | refine blk_drewN ?_ _ | refine blk_drew ?_ | refine blk_alloc ?_ _)); exact BK519.out) hb)
                      have n10_ := Aside0.mk (below_step (by repeat (first | (with_reducible first | exact HB.out | apply below_alloc | apply pw_below_drewN | apply below_drew1 | refine below_set ?_ GE470.out | refine below_set ?_ GE495.out | refine below_set ?_ GE499.out | refine below_set ?_ GE505.out | refine below_set ?_ GE519.out) | exact HB.out)) hb)
                      clear HO491; clear HO504; clear HO509; clear HO518; clear HO523; clear BK470; clear BK495; clear BK499; clear BK505; clear BK519; clear HB; have HO491 := n0_; have HO504 := n1_; have HO509 := n2_; have HO518 := n3_; have HO523 := n4_; have BK470 := n5_; have BK495 := n6_; have BK499 := n7_; have BK505 := n8_; have BK519 := n9_; have HB := n10_; clear n0_ n1_ n2_ n3_ n4_ n5_ n6_ n7_ n8_ n9_ n10_; (try clear hb); (try clear hb2); (try clear hk); (try clear hi)
                      refine hK.out _ _ ⟨(blk_cell BK495.out 0).trans rfl, (blk_cell BK495.out 1).trans rfl, (blk_cell BK499.out 0).trans rfl, (blk_cell BK499.out 1).trans rfl, (blk_cell BK505.out 0).trans rfl, (blk_cell BK505.out 1).trans rfl, (blk_cell BK519.out 0).trans rfl, (blk_cell BK519.out 1).trans rfl⟩ (fun hHeld => ?_)
                      clear hK K
                      refine norm_ (a' := ?_) ?_ ?_
                      rotate_left
                      ·show Act.put _ (some 261) _ = _
                       simp only [Act.put, sT_, s0_, s1_, i64_w, i32_w]; rfl
                      refine one_ (i := 14) (N := some 264) #[true, true, true, true, true, true, true, true, true, true, true, true, true, true, true, false, false, false, false, false, false, false, false, false, false, false, false, false, false, false, false, false, false, false, false, false, false, false, false, false, false, false, false, false, false, false] rfl rfl (one_of HT_.out (by kernel_rfl)) (by decide) (fun K hK => ?_)
                      refine goes_ Try.func28 (by kernel_rfl) rfl #[.agg #[.int .i64 t500, .int .i64 t501], .slice Ao166 t502.length co166] (by rfl) rfl rfl (by first | rfl | (simp only [List.map_toArray, List.map_cons, List.map_nil, List.length_drop, List.length_take]; rfl)) ?_
                      with_reducible refine (spec_IsConsistent.calls kj79 t500 t501 _ _ t502 t525 _ ?side1 ?side2 A127.out).mono ?_
                      (case side1 => repeat (first | exact (Kd.R_reads' HO504.out).2.2 | (with_reducible refine Kd.C_alloc ?_ _) | (with_reducible refine Kd.C_drewN ?_ _) | (with_reducible refine Kd.C_drew ?_)))
                      (case side2 => exact (Kd.R_reads' HO504.out).2.1)
                      rintro e w168 ⟨rfl, hb⟩
                      refine ⟨_, rfl, ?_⟩
                      have n0_ := Aside0.mk (Kd.R_below (by (with_reducible repeat (first | apply Kd.R_alloc | apply Kd.R_drewN | apply Kd.R_drew)); exact HO491.out) hb)
                      have n1_ := Aside0.mk (Kd.R_below (by (with_reducible repeat (first | apply Kd.R_alloc | apply Kd.R_drewN | apply Kd.R_drew)); exact HO504.out) hb)
                      have n2_ := Aside0.mk (Kd.R_below (by (with_reducible repeat (first | apply Kd.R_alloc | apply Kd.R_drewN | apply Kd.R_drew)); exact HO509.out) hb)
                      have n3_ := Aside0.mk (Kd.R_below (by (with_reducible repeat (first | apply Kd.R_alloc | apply Kd.R_drewN | apply Kd.R_drew)); exact HO518.out) hb)
                      have n4_ := Aside0.mk (Kd.R_below (by (with_reducible repeat (first | apply Kd.R_alloc | apply Kd.R_drewN | apply Kd.R_drew)); exact HO523.out) hb)
                      have n5_ := Aside0.mk (blk_below (g := gb470) (o := .cells #[.int .i64 t465, .int .i64 t466] 33 (0, 0)) (by (with_reducible repeat (first | refine blk_drewN ?_ _ | refine blk_drew ?_ | refine blk_alloc ?_ _)); exact BK470.out) hb)
                      have n6_ := Aside0.mk (blk_below (g := gb495) (o := .cells #[.int .i64 t492, .int .i64 t493] 33 (0, 0)) (by (with_reducible repeat (first | refine blk_drewN ?_ _ | refine blk_drew ?_ | refine blk_alloc ?_ _)); exact BK495.out) hb)
                      have n7_ := Aside0.mk (blk_below (g := gb499) (o := .cells #[.int .i64 t496, .int .i64 t497] 33 (0, 0)) (by (with_reducible repeat (first | refine blk_drewN ?_ _ | refine blk_drew ?_ | refine blk_alloc ?_ _)); exact BK499.out) hb)
                      have n8_ := Aside0.mk (blk_below (g := gb505) (o := .cells #[.int .i64 t500, .int .i64 t501] 33 (0, 0)) (by (with_reducible repeat (first | refine blk_drewN ?_ _ | refine blk_drew ?_ | refine blk_alloc ?_ _)); exact BK505.out) hb)
                      have n9_ := Aside0.mk (blk_below (g := gb519) (o := .cells #[.int .i64 t514, .int .i64 t515] 33 (0, 0)) (by (with_reducible repeat (first | refine blk_drewN ?_ _ | refine blk_drew ?_ | refine blk_alloc ?_ _)); exact BK519.out) hb)
                      have n10_ := Aside0.mk (below_step (by repeat (first | (with_reducible first | exact HB.out | apply below_alloc | apply pw_below_drewN | apply below_drew1 | refine below_set ?_ GE470.out | refine below_set ?_ GE495.out | refine below_set ?_ GE499.out | refine below_set ?_ GE505.out | refine below_set ?_ GE519.out) | exact HB.out)) hb)
                      clear HO491; clear HO504; clear HO509; clear HO518; clear HO523; clear BK470; clear BK495; clear BK499; clear BK505; clear BK519; clear HB; have HO491 := n0_; have HO504 := n1_; have HO509 := n2_; have HO518 := n3_; have HO523 := n4_; have BK470 := n5_; have BK495 := n6_; have BK499 := n7_; have BK505 := n8_; have BK519 := n9_; have HB := n10_; clear n0_ n1_ n2_ n3_ n4_ n5_ n6_ n7_ n8_ n9_ n10_; (try clear hb); (try clear hb2); (try clear hk); (try clear hi)
                      obtain ⟨Ao169, co169, eo169⟩ := Kd.R_slice HO518.out
                      (first | subst eo169 | (injection eo169 with f1_ f2_ f3_; have f4_ := f1_.symm; have f5_ := f3_.symm; clear f1_ f2_ f3_; subst f4_; subst f5_))
                      refine hK.out _ _ ⟨(blk_cell BK495.out 0).trans rfl, (blk_cell BK495.out 1).trans rfl, (blk_cell BK499.out 0).trans rfl, (blk_cell BK499.out 1).trans rfl, (blk_cell BK505.out 0).trans rfl, (blk_cell BK505.out 1).trans rfl, (blk_cell BK519.out 0).trans rfl, (blk_cell BK519.out 1).trans rfl⟩ (fun hHeld => ?_)
                      clear hK K
                      refine norm_ (a' := ?_) ?_ ?_
                      rotate_left
                      ·show Act.put _ (some 264) _ = _
                       simp only [Act.put, sT_, s0_, s1_, i64_w, i32_w]; rfl
                      refine pure_ (i := 15) (N := some 265) (v := ?_) (a' := ?_) #[true, true, true, true, true, true, true, true, true, true, true, true, true, true, true, true, false, false, false, false, false, false, false, false, false, false, false, false, false, false, false, false, false, false, false, false, false, false, false, false, false, false, false, false, false, false] rfl rfl (any_of HT_.out (by kernel_rfl)) (fun _ _ _ h => h) (Or.inl ⟨by rfl, ?_⟩) ?_ ?_; rotate_left
                      ·intro w'; go_simp; with_reducible rfl
                      rotate_left
                      ·simp only [Act.put, sT_, s0_, s1_, i64_w, i32_w]; rfl
                      refine pure_ (i := 16) (N := some 266) (v := ?_) (a' := ?_) #[true, true, true, true, true, true, true, true, true, true, true, true, true, true, true, true, true, false, false, false, false, false, false, false, false, false, false, false, false, false, false, false, false, false, false, false, false, false, false, false, false, false, false, false, false, false] rfl rfl (any_of HT_.out (by kernel_rfl)) (fun _ _ _ h => h) (Or.inl ⟨by rfl, ?_⟩) ?_ ?_; rotate_left
                      ·intro w'; go_simp; with_reducible rfl
                      rotate_left
                      ·simp only [Act.put, sT_, s0_, s1_, i64_w, i32_w]; rfl
                      refine pure_ (i := 17) (N := some 267) (v := ?_) (a' := ?_) #[true, true, true, true, true, true, true, true, true, true, true, true, true, true, true, true, true, true, false, false, false, false, false, false, false, false, false, false, false, false, false, false, false, false, false, false, false, false, false, false, false, false, false, false, false, false] rfl rfl (any_of HT_.out (by kernel_rfl)) (fun _ _ _ h => h) (Or.inl ⟨by rfl, ?_⟩) ?_ ?_; rotate_left
                      ·intro w'; go_simp; with_reducible rfl
                      rotate_left
                      ·simp only [Act.put, sT_, s0_, s1_, i64_w, i32_w]; rfl
                      refine pure_ (i := 18) (N := some 268) (v := ?_) (a' := ?_) #[true, true, true, true, true, true, true, true, true, true, true, true, true, true, true, true, true, true, true, false, false, false, false, false, false, false, false, false, false, false, false, false, false, false, false, false, false, false, false, false, false, false, false, false, false, false] rfl rfl (any_of HT_.out (by kernel_rfl)) (fun _ _ _ h => h) (Or.inl ⟨by rfl, ?_⟩) ?_ ?_; rotate_left
                      ·intro w'; go_simp; with_reducible rfl
                      rotate_left
                      ·simp only [Act.put, sT_, s0_, s1_, i64_w, i32_w]; rfl
                      refine pure_ (i := 19) (N := some 269) (v := ?_) (a' := ?_) #[true, true, true, true, true, true, true, true, true, true, true, true, true, true, true, true, true, true, true, true, false, false, false, false, false, false, false, false, false, false, false, false, false, false, false, false, false, false, false, false, false, false, false, false, false, false] rfl rfl (any_of HT_.out (by kernel_rfl)) (fun _ _ _ h => h) (Or.inl ⟨by rfl, ?_⟩) ?_ ?_; rotate_left
                      ·intro w'; go_simp; with_reducible rfl
                      rotate_left
                      ·simp only [Act.put, sT_, s0_, s1_, i64_w, i32_w]; rfl
                      refine pure_ (i := 20) (N := some 270) (v := ?_) (a' := ?_) #[true, true, true, true, true, true, true, true, true, true, true, true, true, true, true, true, true, true, true, true, true, false, false, false, false, false, false, false, false, false, false, false, false, false, false, false, false, false, false, false, false, false, false, false, false, false] rfl rfl (any_of HT_.out (by kernel_rfl)) (fun _ _ _ h => h) (Or.inl ⟨by rfl, ?_⟩) ?_ ?_; rotate_left
                      ·intro w'; go_simp; with_reducible rfl
                      rotate_left
                      ·simp only [Act.put, sT_, s0_, s1_, i64_w, i32_w]; rfl
                      refine pure_ (i := 21) (N := some 271) (v := ?_) (a' := ?_) #[true, true, true, true, true, true, true, true, true, true, true, true, true, true, true, true, true, true, true, true, true, true, false, false, false, false, false, false, false, false, false, false, false, false, false, false, false, false, false, false, false, false, false, false, false, false] rfl rfl (any_of HT_.out (by kernel_rfl)) (fun _ _ _ h => h) (Or.inl ⟨by rfl, ?_⟩) ?_ ?_; rotate_left
                      ·intro w'; go_simp; with_reducible rfl
                      rotate_left
                      ·simp only [Act.put, sT_, s0_, s1_, i64_w, i32_w]; rfl
                      refine pure_ (i := 22) (N := some 272) (v := ?_) (a' := ?_) #[true, true, true, true, true, true, true, true, true, true, true, true, true, true, true, true, true, true, true, true, true, true, true, false, false, false, false, false, false, false, false, false, false, false, false, false, false, false, false, false, false, false, false, false, false, false] rfl rfl (any_of HT_.out (by kernel_rfl)) (fun _ _ _ h => h) (Or.inl ⟨by rfl, ?_⟩) ?_ ?_; rotate_left
                      ·intro w'; go_simp; with_reducible rfl
                      rotate_left
                      ·simp only [Act.put, sT_, s0_, s1_, i64_w, i32_w]; rfl
                      refine pure_ (i := 23) (N := some 273) (v := ?_) (a' := ?_) #[true, true, true, true, true, true, true, true, true, true, true, true, true, true, true, true, true, true, true, true, true, true, true, true, false, false, false, false, false, false, false, false, false, false, false, false, false, false, false, false, false, false, false, false, false, false] rfl rfl (any_of HT_.out (by kernel_rfl)) (fun _ _ _ h => h) (Or.inl ⟨by rfl, ?_⟩) ?_ ?_; rotate_left
                      ·intro w'; go_simp; with_reducible rfl
                      rotate_left
                      ·simp only [Act.put, sT_, s0_, s1_, i64_w, i32_w]; rfl
                      refine pure_ (i := 24) (N := some 274) (v := ?_) (a' := ?_) #[true, true, true, true, true, true, true, true, true, true, true, true, true, true, true, true, true, true, true, true, true, true, true, true, true, false, false, false, false, false, false, false, false, false, false, false, false, false, false, false, false, false, false, false, false, false] rfl rfl (any_of HT_.out (by kernel_rfl)) (fun _ _ _ h => h) (Or.inl ⟨by rfl, ?_⟩) ?_ ?_; rotate_left
                      ·intro w'; go_simp; with_reducible rfl
                      rotate_left
                      ·simp only [Act.put, sT_, s0_, s1_, i64_w, i32_w]; rfl
                      refine pure_ (i := 25) (N := some 275) (v := ?_) (a' := ?_) #[true, true, true, true, true, true, true, true, true, true, true, true, true, true, true, true, true, true, true, true, true, true, true, true, true, true, false, false, false, false, false, false, false, false, false, false, false, false, false, false, false, false, false, false, false, false] rfl rfl (any_of HT_.out (by kernel_rfl)) (fun _ _ _ h => h) (Or.inl ⟨by rfl, ?_⟩) ?_ ?_; rotate_left
                      ·intro w'; go_simp; with_reducible rfl
                      rotate_left
                      ·simp only [Act.put, sT_, s0_, s1_, i64_w, i32_w]; rfl
                      refine pure_ (i := 26) (N := some 276) (v := ?_) (a' := ?_) #[true, true, true, true, true, true, true, true, true, true, true, true, true, true, true, true, true, true, true, true, true, true, true, true, true, true, true, false, false, false, false, false, false, false, false, false, false, false, false, false, false, false, false, false, false, false] rfl rfl (any_of HT_.out (by kernel_rfl)) (fun _ _ _ h => h) (Or.inl ⟨by rfl, ?_⟩) ?_ ?_; rotate_left
                      ·intro w'; go_simp; with_reducible rfl
                      rotate_left
                      ·simp only [Act.put, sT_, s0_, s1_, i64_w, i32_w]; rfl
                      refine pure_ (i := 27) (N := some 277) (v := ?_) (a' := ?_) #[true, true, true, true, true, true, true, true, true, true, true, true, true, true, true, true, true, true, true, true, true, true, true, true, true, true, true, true, false, false, false, false, false, false, false, false, false, false, false, false, false, false, false, false, false, false] rfl rfl (any_of HT_.out (by kernel_rfl)) (fun _ _ _ h => h) (Or.inl ⟨by rfl, ?_⟩) ?_ ?_; rotate_left
                      ·intro w'; go_simp; with_reducible rfl
                      rotate_left
                      ·simp only [Act.put, sT_, s0_, s1_, i64_w, i32_w]; rfl
                      refine pure_ (i := 29) (N := some 279) (v := ?_) (a' := ?_) #[true, true, true, true, true, true, true, true, true, true, true, true, true, true, true, true, true, true, true, true, true, true, true, true, true, true, true, true, false, true, false, false, false, false, false, false, false, false, false, false, false, false, false, false, false, false] rfl rfl (any_of HT_.out (by kernel_rfl)) (fun _ _ _ h => h) (Or.inl ⟨by rfl, ?_⟩) ?_ ?_; rotate_left
                      ·intro w'; go_simp; with_reducible rfl
                      rotate_left
                      ·simp only [Act.put, sT_, s0_, s1_, i64_w, i32_w]; rfl
                      refine pure_ (i := 32) (N := some 282) (v := ?_) (a' := ?_) #[true, true, true, true, true, true, true, true, true, true, true, true, true, true, true, true, true, true, true, true, true, true, true, true, true, true, true, true, false, true, false, false, true, false, false, false, false, false, false, false, false, false, false, false, false, false] rfl rfl (any_of HT_.out (by kernel_rfl)) (fun _ _ _ h => h) (Or.inl ⟨by rfl, ?_⟩) ?_ ?_; rotate_left
                      ·intro w'; go_simp; with_reducible rfl
                      rotate_left
                      ·simp only [Act.put, sT_, s0_, s1_, i64_w, i32_w]; rfl
                      refine take_ (i := 28) (N := some 278) (v := ?_) (a' := ?_) #[true, true, true, true, true, true, true, true, true, true, true, true, true, true, true, true, true, true, true, true, true, true, true, true, true, true, true, true, true, true, false, false, true, false, false, false, false, false, false, false, false, false, false, false, false, false] rfl rfl (take_ofW HT_.out HW_.out (by kernel_rfl)) (fun _ _ _ h => h) (Or.inl ⟨by rfl, ?_⟩) hHeld ?_ ?_
                      rotate_left
                      ·rintro w' ⟨s0, s1, s2, s3, s4, s5, s6, s7⟩
                       go_simp; with_reducible rfl
                      rotate_left
                      ·simp only [Act.put, sT_, s0_, s1_, i64_w, i32_w]; rfl
                      refine take_ (i := 31) (N := some 281) (v := ?_) (a' := ?_) #[true, true, true, true, true, true, true, true, true, true, true, true, true, true, true, true, true, true, true, true, true, true, true, true, true, true, true, true, true, true, false, true, true, false, false, false, false, false, false, false, false, false, false, false, false, false] rfl rfl (take_ofW HT_.out HW_.out (by kernel_rfl)) (fun _ _ _ h => h) (Or.inl ⟨by rfl, ?_⟩) hHeld ?_ ?_
                      rotate_left
                      ·rintro w' ⟨s0, s1, s2, s3, s4, s5, s6, s7⟩
                       go_simp; with_reducible rfl
                      rotate_left
                      ·simp only [Act.put, sT_, s0_, s1_, i64_w, i32_w]; rfl
                      refine one_ (i := 30) (N := some 280) #[true, true, true, true, true, true, true, true, true, true, true, true, true, true, true, true, true, true, true, true, true, true, true, true, true, true, true, true, true, true, true, true, true, false, false, false, false, false, false, false, false, false, false, false, false, false] rfl rfl (one_of HT_.out (by kernel_rfl)) (by decide) (fun K hK => ?_)
                      refine goes_ Try.func12 (by kernel_rfl) rfl #[.agg #[.int .i64 t514, .int .i64 t515], .slice Ao169 t516.length co169] (by rfl) rfl rfl (by first | rfl | (simp only [List.map_toArray, List.map_cons, List.map_nil, List.length_drop, List.length_take]; rfl)) ?_
                      with_reducible refine (impl_ErrorsOf.calls kj79 t514 t515 _ _ t516 t526 _ ?side1 ?side2 A131.out).mono ?_
                      (case side1 => repeat (first | exact (Kd.R_reads' HO518.out).2.2 | (with_reducible refine Kd.C_alloc ?_ _) | (with_reducible refine Kd.C_drewN ?_ _) | (with_reducible refine Kd.C_drew ?_)))
                      (case side2 => exact (Kd.R_reads' HO518.out).2.1)
                      rintro e w170 ⟨rfl, hb⟩
                      refine ⟨_, rfl, ?_⟩
                      have n0_ := Aside0.mk (Kd.R_below (by (with_reducible repeat (first | apply Kd.R_alloc | apply Kd.R_drewN | apply Kd.R_drew)); exact HO491.out) hb)
                      have n1_ := Aside0.mk (Kd.R_below (by (with_reducible repeat (first | apply Kd.R_alloc | apply Kd.R_drewN | apply Kd.R_drew)); exact HO504.out) hb)
                      have n2_ := Aside0.mk (Kd.R_below (by (with_reducible repeat (first | apply Kd.R_alloc | apply Kd.R_drewN | apply Kd.R_drew)); exact HO509.out) hb)
                      have n3_ := Aside0.mk (Kd.R_below (by (with_reducible repeat (first | apply Kd.R_alloc | apply Kd.R_drewN | apply Kd.R_drew)); exact HO518.out) hb)
                      have n4_ := Aside0.mk (Kd.R_below (by (with_reducible repeat (first | apply Kd.R_alloc | apply Kd.R_drewN | apply Kd.R_drew)); exact HO523.out) hb)
                      have n5_ := Aside0.mk (blk_below (g := gb470) (o := .cells #[.int .i64 t465, .int .i64 t466] 33 (0, 0)) (by (with_reducible repeat (first | refine blk_drewN ?_ _ | refine blk_drew ?_ | refine blk_alloc ?_ _)); exact BK470.out) hb)
                      have n6_ := Aside0.mk (blk_below (g := gb495) (o := .cells #[.int .i64 t492, .int .i64 t493] 33 (0, 0)) (by (with_reducible repeat (first | refine blk_drewN ?_ _ | refine blk_drew ?_ | refine blk_alloc ?_ _)); exact BK495.out) hb)
                      have n7_ := Aside0.mk (blk_below (g := gb499) (o := .cells #[.int .i64 t496, .int .i64 t497] 33 (0, 0)) (by (with_reducible repeat (first | refine blk_drewN ?_ _ | refine blk_drew ?_ | refine blk_alloc ?_ _)); exact BK499.out) hb)
                      have n8_ := Aside0.mk (blk_below (g := gb505) (o := .cells #[.int .i64 t500, .int .i64 t501] 33 (0, 0)) (by (with_reducible repeat (first | refine blk_drewN ?_ _ | refine blk_drew ?_ | refine blk_alloc ?_ _)); exact BK505.out) hb)
                      have n9_ := Aside0.mk (blk_below (g := gb519) (o := .cells #[.int .i64 t514, .int .i64 t515] 33 (0, 0)) (by (with_reducible repeat (first | refine blk_drewN ?_ _ | refine blk_drew ?_ | refine blk_alloc ?_ _)); exact BK519.out) hb)
                      have n10_ := Aside0.mk (below_step (by repeat (first | (with_reducible first | exact HB.out | apply below_alloc | apply pw_below_drewN | apply below_drew1 | refine below_set ?_ GE470.out | refine below_set ?_ GE495.out | refine below_set ?_ GE499.out | refine below_set ?_ GE505.out | refine below_set ?_ GE519.out) | exact HB.out)) hb)
                      clear HO491; clear HO504; clear HO509; clear HO518; clear HO523; clear BK470; clear BK495; clear BK499; clear BK505; clear BK519; clear HB; have HO491 := n0_; have HO504 := n1_; have HO509 := n2_; have HO518 := n3_; have HO523 := n4_; have BK470 := n5_; have BK495 := n6_; have BK499 := n7_; have BK505 := n8_; have BK519 := n9_; have HB := n10_; clear n0_ n1_ n2_ n3_ n4_ n5_ n6_ n7_ n8_ n9_ n10_; (try clear hb); (try clear hb2); (try clear hk); (try clear hi)
                      refine hK.out _ _ ⟨(blk_cell BK495.out 0).trans rfl, (blk_cell BK495.out 1).trans rfl, (blk_cell BK499.out 0).trans rfl, (blk_cell BK499.out 1).trans rfl, (blk_cell BK505.out 0).trans rfl, (blk_cell BK505.out 1).trans rfl, (blk_cell BK519.out 0).trans rfl, (blk_cell BK519.out 1).trans rfl⟩ (fun hHeld => ?_)
                      clear hK K
                      refine norm_ (a' := ?_) ?_ ?_
                      rotate_left
                      ·show Act.put _ (some 280) _ = _
                       simp only [Act.put, sT_, s0_, s1_, i64_w, i32_w]; rfl
                      refine one_ (i := 33) (N := some 283) #[true, true, true, true, true, true, true, true, true, true, true, true, true, true, true, true, true, true, true, true, true, true, true, true, true, true, true, true, true, true, true, true, true, true, false, false, false, false, false, false, false, false, false, false, false, false] rfl rfl (one_of HT_.out (by kernel_rfl)) (by decide) (fun K hK => ?_)
                      refine goes_ Try.func29 (by kernel_rfl) rfl #[.agg #[.int .i64 t514, .int .i64 t515], .slice Ao169 t516.length co169] (by rfl) rfl rfl (by first | rfl | (simp only [List.map_toArray, List.map_cons, List.map_nil, List.length_drop, List.length_take]; rfl)) ?_
                      with_reducible refine (spec_ErrorsOf.calls kj79 t514 t515 _ _ t516 t527 _ ?side1 ?side2 A132.out).mono ?_
                      (case side1 => repeat (first | exact (Kd.R_reads' HO518.out).2.2 | (with_reducible refine Kd.C_alloc ?_ _) | (with_reducible refine Kd.C_drewN ?_ _) | (with_reducible refine Kd.C_drew ?_)))
                      (case side2 => exact (Kd.R_reads' HO518.out).2.1)
                      rintro e w171 ⟨rfl, hb⟩
                      refine ⟨_, rfl, ?_⟩
                      have n0_ := Aside0.mk (Kd.R_below (by (with_reducible repeat (first | apply Kd.R_alloc | apply Kd.R_drewN | apply Kd.R_drew)); exact HO491.out) hb)
                      have n1_ := Aside0.mk (Kd.R_below (by (with_reducible repeat (first | apply Kd.R_alloc | apply Kd.R_drewN | apply Kd.R_drew)); exact HO504.out) hb)
                      have n2_ := Aside0.mk (Kd.R_below (by (with_reducible repeat (first | apply Kd.R_alloc | apply Kd.R_drewN | apply Kd.R_drew)); exact HO509.out) hb)
                      have n3_ := Aside0.mk (Kd.R_below (by (with_reducible repeat (first | apply Kd.R_alloc | apply Kd.R_drewN | apply Kd.R_drew)); exact HO518.out) hb)
                      have n4_ := Aside0.mk (Kd.R_below (by (with_reducible repeat (first | apply Kd.R_alloc | apply Kd.R_drewN | apply Kd.R_drew)); exact HO523.out) hb)
                      have n5_ := Aside0.mk (blk_below (g := gb470) (o := .cells #[.int .i64 t465, .int .i64 t466] 33 (0, 0)) (by (with_reducible repeat (first | refine blk_drewN ?_ _ | refine blk_drew ?_ | refine blk_alloc ?_ _)); exact BK470.out) hb)
                      have n6_ := Aside0.mk (blk_below (g := gb495) (o := .cells #[.int .i64 t492, .int .i64 t493] 33 (0, 0)) (by (with_reducible repeat (first | refine blk_drewN ?_ _ | refine blk_drew ?_ | refine blk_alloc ?_ _)); exact BK495.out) hb)
                      have n7_ := Aside0.mk (blk_below (g := gb499) (o := .cells #[.int .i64 t496, .int .i64 t497] 33 (0, 0)) (by (with_reducible repeat (first | refine blk_drewN ?_ _ | refine blk_drew ?_ | refine blk_alloc ?_ _)); exact BK499.out) hb)
                      have n8_ := Aside0.mk (blk_below (g := gb505) (o := .cells #[.int .i64 t500, .int .i64 t501] 33 (0, 0)) (by (with_reducible repeat (first | refine blk_drewN ?_ _ | refine blk_drew ?_ | refine blk_alloc ?_ _)); exact BK505.out) hb)
                      have n9_ := Aside0.mk (blk_below (g := gb519) (o := .cells #[.int .i64 t514, .int .i64 t515] 33 (0, 0)) (by (with_reducible repeat (first | refine blk_drewN ?_ _ | refine blk_drew ?_ | refine blk_alloc ?_ _)); exact BK519.out) hb)
                      have n10_ := Aside0.mk (below_step (by repeat (first | (with_reducible first | exact HB.out | apply below_alloc | apply pw_below_drewN | apply below_drew1 | refine below_set ?_ GE470.out | refine below_set ?_ GE495.out | refine below_set ?_ GE499.out | refine below_set ?_ GE505.out | refine below_set ?_ GE519.out) | exact HB.out)) hb)
                      clear HO491; clear HO504; clear HO509; clear HO518; clear HO523; clear BK470; clear BK495; clear BK499; clear BK505; clear BK519; clear HB; have HO491 := n0_; have HO504 := n1_; have HO509 := n2_; have HO518 := n3_; have HO523 := n4_; have BK470 := n5_; have BK495 := n6_; have BK499 := n7_; have BK505 := n8_; have BK519 := n9_; have HB := n10_; clear n0_ n1_ n2_ n3_ n4_ n5_ n6_ n7_ n8_ n9_ n10_; (try clear hb); (try clear hb2); (try clear hk); (try clear hi)
                      obtain ⟨Ao172, co172, eo172⟩ := Kd.R_slice HO523.out
                      (first | subst eo172 | (injection eo172 with f1_ f2_ f3_; have f4_ := f1_.symm; have f5_ := f3_.symm; clear f1_ f2_ f3_; subst f4_; subst f5_))
                      refine hK.out _ _ ⟨(blk_cell BK495.out 0).trans rfl, (blk_cell BK495.out 1).trans rfl, (blk_cell BK499.out 0).trans rfl, (blk_cell BK499.out 1).trans rfl, (blk_cell BK505.out 0).trans rfl, (blk_cell BK505.out 1).trans rfl, (blk_cell BK519.out 0).trans rfl, (blk_cell BK519.out 1).trans rfl⟩ (fun hHeld => ?_)
                      clear hK K
                      refine norm_ (a' := ?_) ?_ ?_
                      rotate_left
                      ·show Act.put _ (some 283) _ = _
                       simp only [Act.put, sT_, s0_, s1_, i64_w, i32_w]; rfl
                      refine pure_ (i := 34) (N := some 284) (v := ?_) (a' := ?_) #[true, true, true, true, true, true, true, true, true, true, true, true, true, true, true, true, true, true, true, true, true, true, true, true, true, true, true, true, true, true, true, true, true, true, true, false, false, false, false, false, false, false, false, false, false, false] rfl rfl (any_of HT_.out (by kernel_rfl)) (fun _ _ _ h => h) (Or.inl ⟨by rfl, ?_⟩) ?_ ?_; rotate_left
                      ·intro w'; go_simp; with_reducible rfl
                      rotate_left
                      ·simp only [Act.put, sT_, s0_, s1_, i64_w, i32_w]; rfl
                      refine pure_ (i := 35) (N := some 285) (v := ?_) (a' := ?_) #[true, true, true, true, true, true, true, true, true, true, true, true, true, true, true, true, true, true, true, true, true, true, true, true, true, true, true, true, true, true, true, true, true, true, true, true, false, false, false, false, false, false, false, false, false, false] rfl rfl (any_of HT_.out (by kernel_rfl)) (fun _ _ _ h => h) (Or.inl ⟨by rfl, ?_⟩) ?_ ?_; rotate_left
                      ·intro w'; go_simp; with_reducible rfl
                      rotate_left
                      ·simp only [Act.put, sT_, s0_, s1_, i64_w, i32_w]; rfl
                      refine pure_ (i := 36) (N := some 286) (v := ?_) (a' := ?_) #[true, true, true, true, true, true, true, true, true, true, true, true, true, true, true, true, true, true, true, true, true, true, true, true, true, true, true, true, true, true, true, true, true, true, true, true, true, false, false, false, false, false, false, false, false, false] rfl rfl (any_of HT_.out (by kernel_rfl)) (fun _ _ _ h => h) (Or.inl ⟨by rfl, ?_⟩) ?_ ?_; rotate_left
                      ·intro w'; go_simp; with_reducible rfl
                      rotate_left
                      ·simp only [Act.put, sT_, s0_, s1_, i64_w, i32_w]; rfl
                      refine pure_ (i := 37) (N := some 287) (v := ?_) (a' := ?_) #[true, true, true, true, true, true, true, true, true, true, true, true, true, true, true, true, true, true, true, true, true, true, true, true, true, true, true, true, true, true, true, true, true, true, true, true, true, true, false, false, false, false, false, false, false, false] rfl rfl (any_of HT_.out (by kernel_rfl)) (fun _ _ _ h => h) (Or.inl ⟨by rfl, ?_⟩) ?_ ?_; rotate_left
                      ·intro w'; go_simp; with_reducible rfl
                      rotate_left
                      ·simp only [Act.put, sT_, s0_, s1_, i64_w, i32_w]; rfl
                      refine pure_ (i := 38) (N := some 288) (v := ?_) (a' := ?_) #[true, true, true, true, true, true, true, true, true, true, true, true, true, true, true, true, true, true, true, true, true, true, true, true, true, true, true, true, true, true, true, true, true, true, true, true, true, true, true, false, false, false, false, false, false, false] rfl rfl (any_of HT_.out (by kernel_rfl)) (fun _ _ _ h => h) (Or.inl ⟨by rfl, ?_⟩) ?_ ?_; rotate_left
                      ·intro w'; go_simp; with_reducible rfl
                      rotate_left
                      ·simp only [Act.put, sT_, s0_, s1_, i64_w, i32_w]; rfl
                      refine pure_ (i := 40) (N := some 290) (v := ?_) (a' := ?_) #[true, true, true, true, true, true, true, true, true, true, true, true, true, true, true, true, true, true, true, true, true, true, true, true, true, true, true, true, true, true, true, true, true, true, true, true, true, true, true, false, true, false, false, false, false, false] rfl rfl (any_of HT_.out (by kernel_rfl)) (fun _ _ _ h => h) (Or.inl ⟨by rfl, ?_⟩) ?_ ?_; rotate_left
                      ·intro w'; go_simp; with_reducible rfl
                      rotate_left
                      ·simp only [Act.put, sT_, s0_, s1_, i64_w, i32_w]; rfl
                      refine pure_ (i := 41) (N := some 291) (v := ?_) (a' := ?_) #[true, true, true, true, true, true, true, true, true, true, true, true, true, true, true, true, true, true, true, true, true, true, true, true, true, true, true, true, true, true, true, true, true, true, true, true, true, true, true, false, true, true, false, false, false, false] rfl rfl (any_of HT_.out (by kernel_rfl)) (fun _ _ _ h => h) (Or.inl ⟨by rfl, ?_⟩) ?_ ?_; rotate_left
                      ·intro w'; go_simp; with_reducible rfl
                      rotate_left
                      ·simp only [Act.put, sT_, s0_, s1_, i64_w, i32_w]; rfl
                      refine one_ (i := 39) (N := some 289) #[true, true, true, true, true, true, true, true, true, true, true, true, true, true, true, true, true, true, true, true, true, true, true, true, true, true, true, true, true, true, true, true, true, true, true, true, true, true, true, true, true, true, false, false, false, false] rfl rfl (one_of HT_.out (by kernel_rfl)) (by decide) (fun K hK => ?_)
                      refine goes_ Try.func9 (by kernel_rfl) rfl #[.int .i64 t520, .slice Ao172 t521.length co172] (by rfl) rfl rfl (by first | rfl | (simp only [List.map_toArray, List.map_cons, List.map_nil, List.length_drop, List.length_take]; rfl)) ?_
                      with_reducible refine (impl_IsSampleList.calls t520 _ _ t521 t528 _ ?side1 ?side2 A134.out).mono ?_
                      (case side1 => repeat (first | exact (Kd.R_reads' HO523.out).2.2 | (with_reducible refine Kd.C_alloc ?_ _) | (with_reducible refine Kd.C_drewN ?_ _) | (with_reducible refine Kd.C_drew ?_)))
                      (case side2 => exact (Kd.R_reads' HO523.out).2.1)
                      rintro e w173 ⟨rfl, hb⟩
                      refine ⟨_, rfl, ?_⟩
                      have n0_ := Aside0.mk (Kd.R_below (by (with_reducible repeat (first | apply Kd.R_alloc | apply Kd.R_drewN | apply Kd.R_drew)); exact HO491.out) hb)
                      have n1_ := Aside0.mk (Kd.R_below (by (with_reducible repeat (first | apply Kd.R_alloc | apply Kd.R_drewN | apply Kd.R_drew)); exact HO504.out) hb)
                      have n2_ := Aside0.mk (Kd.R_below (by (with_reducible repeat (first | apply Kd.R_alloc | apply Kd.R_drewN | apply Kd.R_drew)); exact HO509.out) hb)
                      have n3_ := Aside0.mk (Kd.R_below (by (with_reducible repeat (first | apply Kd.R_alloc | apply Kd.R_drewN | apply Kd.R_drew)); exact HO518.out) hb)
                      have n4_ := Aside0.mk (Kd.R_below (by (with_reducible repeat (first | apply Kd.R_alloc | apply Kd.R_drewN | apply Kd.R_drew)); exact HO523.out) hb)
                      have n5_ := Aside0.mk (blk_below (g := gb470) (o := .cells #[.int .i64 t465, .int .i64 t466] 33 (0, 0)) (by (with_reducible repeat (first | refine blk_drewN ?_ _ | refine blk_drew ?_ | refine blk_alloc ?_ _)); exact BK470.out) hb)
                      have n6_ := Aside0.mk (blk_below (g := gb495) (o := .cells #[.int .i64 t492, .int .i64 t493] 33 (0, 0)) (by (with_reducible repeat (first | refine blk_drewN ?_ _ | refine blk_drew ?_ | refine blk_alloc ?_ _)); exact BK495.out) hb)
                      have n7_ := Aside0.mk (blk_below (g := gb499) (o := .cells #[.int .i64 t496, .int .i64 t497] 33 (0, 0)) (by (with_reducible repeat (first | refine blk_drewN ?_ _ | refine blk_drew ?_ | refine blk_alloc ?_ _)); exact BK499.out) hb)
                      have n8_ := Aside0.mk (blk_below (g := gb505) (o := .cells #[.int .i64 t500, .int .i64 t501] 33 (0, 0)) (by (with_reducible repeat (first | refine blk_drewN ?_ _ | refine blk_drew ?_ | refine blk_alloc ?_ _)); exact BK505.out) hb)
                      have n9_ := Aside0.mk (blk_below (g := gb519) (o := .cells #[.int .i64 t514, .int .i64 t515] 33 (0, 0)) (by (with_reducible repeat (first | refine blk_drewN ?_ _ | refine blk_drew ?_ | refine blk_alloc ?_ _)); exact BK519.out) hb)
                      have n10_ := Aside0.mk (below_step (by repeat (first | (with_reducible first | exact HB.out | apply below_alloc | apply pw_below_drewN | apply below_drew1 | refine below_set ?_ GE470.out | refine below_set ?_ GE495.out | refine below_set ?_ GE499.out | refine below_set ?_ GE505.out | refine below_set ?_ GE519.out) | exact HB.out)) hb)
                      clear HO491; clear HO504; clear HO509; clear HO518; clear HO523; clear BK470; clear BK495; clear BK499; clear BK505; clear BK519; clear HB; have HO491 := n0_; have HO504 := n1_; have HO509 := n2_; have HO518 := n3_; have HO523 := n4_; have BK470 := n5_; have BK495 := n6_; have BK499 := n7_; have BK505 := n8_; have BK519 := n9_; have HB := n10_; clear n0_ n1_ n2_ n3_ n4_ n5_ n6_ n7_ n8_ n9_ n10_; (try clear hb); (try clear hb2); (try clear hk); (try clear hi)
                      refine hK.out _ _ ⟨(blk_cell BK495.out 0).trans rfl, (blk_cell BK495.out 1).trans rfl, (blk_cell BK499.out 0).trans rfl, (blk_cell BK499.out 1).trans rfl, (blk_cell BK505.out 0).trans rfl, (blk_cell BK505.out 1).trans rfl, (blk_cell BK519.out 0).trans rfl, (blk_cell BK519.out 1).trans rfl⟩ (fun hHeld => ?_)
                      clear hK K
                      refine norm_ (a' := ?_) ?_ ?_
                      rotate_left
                      ·show Act.put _ (some 289) _ = _
                       simp only [Act.put, sT_, s0_, s1_, i64_w, i32_w]; rfl
                      refine one_ (i := 42) (N := some 292) #[true, true, true, true, true, true, true, true, true, true, true, true, true, true, true, true, true, true, true, true, true, true, true, true, true, true, true, true, true, true, true, true, true, true, true, true, true, true, true, true, true, true, true, false, false, false] rfl rfl (one_of HT_.out (by kernel_rfl)) (by decide) (fun K hK => ?_)
                      refine goes_ Try.func30 (by kernel_rfl) rfl #[.int .i64 t520, .slice Ao172 t521.length co172] (by rfl) rfl rfl (by first | rfl | (simp only [List.map_toArray, List.map_cons, List.map_nil, List.length_drop, List.length_take]; rfl)) ?_
                      with_reducible refine (spec_IsSampleList.calls kj79 t520 _ _ t521 t529 _ ?side1 ?side2 A135.out).mono ?_
                      (case side1 => repeat (first | exact (Kd.R_reads' HO523.out).2.2 | (with_reducible refine Kd.C_alloc ?_ _) | (with_reducible refine Kd.C_drewN ?_ _) | (with_reducible refine Kd.C_drew ?_)))
                      (case side2 => exact (Kd.R_reads' HO523.out).2.1)
                      rintro e w' ⟨rfl, ⟨nd, rfl⟩⟩
                      refine ⟨_, rfl, ?_⟩
                      refine hK.out _ _ ⟨(blk_cell BK495.out 0).trans rfl, (blk_cell BK495.out 1).trans rfl, (blk_cell BK499.out 0).trans rfl, (blk_cell BK499.out 1).trans rfl, (blk_cell BK505.out 0).trans rfl, (blk_cell BK505.out 1).trans rfl, (blk_cell BK519.out 0).trans rfl, (blk_cell BK519.out 1).trans rfl⟩ (fun hHeld => ?_)
                      clear hK K
                      refine norm_ (a' := ?_) ?_ ?_
                      rotate_left
                      ·show Act.put _ (some 292) _ = _
                       simp only [Act.put, sT_, s0_, s1_, i64_w, i32_w]; rfl
                      refine pure_ (i := 43) (N := some 293) (v := ?_) (a' := ?_) #[true, true, true, true, true, true, true, true, true, true, true, true, true, true, true, true, true, true, true, true, true, true, true, true, true, true, true, true, true, true, true, true, true, true, true, true, true, true, true, true, true, true, true, true, false, false] rfl rfl (any_of HT_.out (by kernel_rfl)) (fun _ _ _ h => h) (Or.inl ⟨by rfl, ?_⟩) ?_ ?_; rotate_left
                      ·intro w'; go_simp; with_reducible rfl
                      rotate_left
                      ·simp only [Act.put, sT_, s0_, s1_, i64_w, i32_w]; rfl
                      refine pure_ (i := 44) (N := some 294) (v := ?_) (a' := ?_) #[true, true, true, true, true, true, true, true, true, true, true, true, true, true, true, true, true, true, true, true, true, true, true, true, true, true, true, true, true, true, true, true, true, true, true, true, true, true, true, true, true, true, true, true, true, false] rfl rfl (any_of HT_.out (by kernel_rfl)) (fun _ _ _ h => h) (Or.inl ⟨by rfl, ?_⟩) ?_ ?_; rotate_left
                      ·intro w'; go_simp; with_reducible rfl
                      rotate_left
                      ·simp only [Act.put, sT_, s0_, s1_, i64_w, i32_w]; rfl
                      refine pure_ (i := 45) (N := some 2) (v := ?_) (a' := ?_) #[true, true, true, true, true, true, true, true, true, true, true, true, true, true, true, true, true, true, true, true, true, true, true, true, true, true, true, true, true, true, true, true, true, true, true, true, true, true, true, true, true, true, true, true, true, true] rfl rfl (any_of HT_.out (by kernel_rfl)) (fun _ _ _ h => h) (Or.inl ⟨by rfl, ?_⟩) ?_ ?_; rotate_left
                      ·intro w'; go_simp; with_reducible rfl
                      rotate_left
                      ·simp only [Act.put, sT_, s0_, s1_, i64_w, i32_w]; rfl
                      refine done_ (done_of HT_.out (by kernel_rfl)) ?_
                      try go_wp2
                      go_ret
                      exact ⟨by first | rfl | (simp [errW_none, errW_some] <;> rfl) | (simp [*, errW_none, errW_some] <;> rfl), by repeat (first | (with_reducible first | exact HB.out | apply below_alloc | apply pw_below_drewN | apply below_drew1 | refine below_set ?_ GE470.out | refine below_set ?_ GE495.out | refine below_set ?_ GE499.out | refine below_set ?_ GE505.out | refine below_set ?_ GE519.out) | exact HB.out)⟩
                     ·rw [if_neg c133] at H
                      have c133b0 : (t526 == t527) = false := beq_eq_false_iff_ne.mpr c133
                      have c133b1 : (t526 != t527) = true := bne_iff_ne.mpr c133
                      exact absurd (Option.some.inj H) (by rw [HRT.out]; decide)
                    ·rw [if_neg c130] at H
                     have c130b0 : (t511 == t513) = false := by simpa using c130
                     (try (have c130b1 : decide (t511 = t513) = false := by simpa using c130))
                     (try (have c130b2 : (t511 == t513) = false := by simpa using c130))
                     (try (have c130b3 : ¬ (t511 = t513) := by simpa using c130))
                     clear c130
                     exact absurd (Option.some.inj H) (by rw [HRT.out]; decide)
                   ·rw [if_neg c129] at H
                    have c129b0 : (t510 == t512) = false := beq_eq_false_iff_ne.mpr c129
                    have c129b1 : (t510 != t512) = true := bne_iff_ne.mpr c129
                    exact absurd (Option.some.inj H) (by rw [HRT.out]; decide)
                  ·rw [if_neg c128] at H
                   have c128b0 : (t524 == t525) = false := by simpa using c128
                   (try (have c128b1 : decide (t524 = t525) = false := by simpa using c128))
                   (try (have c128b2 : (t524 == t525) = false := by simpa using c128))
                   (try (have c128b3 : ¬ (t524 = t525) := by simpa using c128))
                   clear c128
                   exact absurd (Option.some.inj H) (by rw [HRT.out]; decide)
                 ·rw [if_neg c125] at H
                  have c125b0 : (t494 == t498) = false := by simpa using c125
                  (try (have c125b1 : decide (t494 = t498) = false := by simpa using c125))
                  (try (have c125b2 : (t494 == t498) = false := by simpa using c125))
                  (try (have c125b3 : ¬ (t494 = t498) := by simpa using c125))
                  clear c125
                  exact absurd (Option.some.inj H) (by rw [HRT.out]; decide)
                ·rw [if_neg c124] at H
                 have c124b0 : (t492 == t496 && (t493 == t497)) = false := by simpa using c124
                 (try (have c124b1 : decide (t492 = t496 && (t493 == t497)) = false := by simpa using c124))
                 (try (have c124b2 : (t492 == t496 && (t493 == t497)) = false := by simpa using c124))
                 (try (have c124b3 : ¬ (t492 = t496 && (t493 == t497)) := by simpa using c124))
                 clear c124
                 exact absurd (Option.some.inj H) (by rw [HRT.out]; decide)
/-- THE ONE PURE STATEMENT of laws_FnLearning: yours. -/
def laws_FnLearning.Pure : Prop := ∀ (l0 : List Int), l0.length ≤ maxLen → l0.length * 1 ≤ 140737488351232 → (∀ x ∈ l0, (Lit.int .u8 x).wf = true) → ∃ k, laws_FnLearning.f k l0 = some true
theorem laws_FnLearning.walk (P : laws_FnLearning.Pure) (a0 : Option Addr) (len0 cap0 : Nat) (z0 : List Int) (w : World) (w0 : (a0 = none ∧ len0 = 0 ∧ cap0 = 0 ∧ z0 = []) ∨ ∃ x, a0 = some x ∧ len0 ≤ cap0 ∧ cap0 ≤ maxLen ∧ z0.length = cap0 ∧ (∀ i, i < z0.length → w.cell? (x.add i) = some (.int .u8 (z0.getD i 0))) ∧ ∀ n ∈ z0, (Lit.int .u8 n).wf = true) (y0 : len0 * 1 ≤ 140737488351232) :
  Calls Try.prog 3 #[.slice a0 len0 cap0] w fun e w' => e = .returned (.bool true) ∧ Below w.heap.size w w' := by
 obtain ⟨l0, rfl, hr0, hm0, hw0, hc0⟩ := ReadsInt.ofRowC w0
 obtain ⟨k, h⟩ := P l0 hm0 y0 hw0
 refine (laws_FnLearning.calls k _ _ l0 true w (Kd.C_of_reads (d := (0 : Int)) (h1 := fun _ => rfl) hr0) hc0 h rfl).mono ?_
 rintro e w' ⟨rfl, hd⟩
 exact ⟨rfl, hd⟩
end Go.Proofs.Ytonaebjpnmiilaa.Print
