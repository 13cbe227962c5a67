import Derived.Test.YtloekoepknfodaaKThreshold2
import Derived.Test.YtloekoepknfodaaKThreshold6
import Derived.Test.YtloekoepknfodaaKThreshold8
import Derived.Test.YtloekoepknfodaaKThreshold18
import Derived.Test.YtloekoepknfodaaKThreshold24
import Derived.Test.YtloekoepknfodaaM40
namespace Go.Proofs.Ytloekoepknfodaa.Print
open Go.RowKit Go.Proofs.YtloekoepknfodaaW.PrintWords Go.Proofs.YtloekoepknfodaaW.PrintLast Go.Proofs.YtloekoepknfodaaW.PrintMore
attribute [local go_sem] max2_int min2_int max_two min_two max_three min_three max_four min_four   -- for this text's walks alone
set_option linter.unusedVariables false
set_option linter.unusedSimpArgs false
attribute [local go_sem high] eqA25
mutual
def laws_FnThreshold.j0 : Nat → List Int → Bool → List Int → Int → Bool → List Int → Bool → Int → Int → Option (Bool)
 | 0, _, _, _, _, _, _, _, _, _ => none
 | k + 1, x0, x6, x7, x8, x11, x12, x85, x486000, x486001 => if x85 = true then (some false) else (if x6 = true then ((impl_TableOfWeights.f x7 x8).bind fun bt507 => (if bt507.2.2 = true then (if (!(bt507.1 == x486000) || (!(bt507.2.1 == x486001))) = true then (laws_FnThreshold.j1 k x0 x6 x7 x11 x12 true x486000 x486001) else (if x11 = true then (laws_FnThreshold.j1 k x0 x6 x7 x11 x12 true x486000 x486001) else ((impl_IsUnate.f k x486000 x486001).bind fun t511 => (laws_FnThreshold.j1 k x0 x6 x7 x11 x12 (!t511) x486000 x486001)))) else (laws_FnThreshold.j1 k x0 x6 x7 x11 x12 true x486000 x486001))) else (laws_FnThreshold.j3 k x0 x6 x11 x12 x486000 x486001))
def laws_FnThreshold.j3 : Nat → List Int → Bool → Bool → List Int → Int → Int → Option (Bool)
 | 0, _, _, _, _, _, _ => none
 | k + 1, x0, x6, x11, x12, x486000, x486001 => if x11 = true then ((impl_IsContradiction.f k x486000 x486001 x12).bind fun t520 => (if t520 = true then ((spec_IsTable.f x486000 x486001).bind fun t521 => (if t521 = true then (if x486000 ≤ 4 then (laws_FnThreshold.j4 k x0 (x6 == x11)) else (laws_FnThreshold.j4 k x0 false)) else (laws_FnThreshold.j4 k x0 false))) else (laws_FnThreshold.j4 k x0 true))) else ((spec_IsTable.f x486000 x486001).bind fun t522 => (if t522 = true then (if x486000 ≤ 4 then (laws_FnThreshold.j4 k x0 (x6 == x11)) else (laws_FnThreshold.j4 k x0 false)) else (laws_FnThreshold.j4 k x0 false)))
def laws_FnThreshold.j4 : Nat → List Int → Bool → Option (Bool)
 | 0, _, _ => none
 | k + 1, x0, x168 => if x168 = true then (some false) else ((spec_DrawTableOfWeights.f k x0).bind fun bt523 => ((impl_TableOfWeights.f bt523.1 bt523.2).bind fun bt527 => ((spec_TableOfWeights.f k bt523.1 bt523.2).bind fun bt531 => (if (!(bt527.1 == bt531.1) || (!(bt527.2.1 == bt531.2.1))) = true then (laws_FnThreshold.j5 k x0 true) else (if (bt527.2.2 != bt531.2.2) = true then (laws_FnThreshold.j5 k x0 true) else (if bt527.2.2 = true then ((impl_IsThreshold.f k bt531.1 bt531.2.1).bind fun t535 => (laws_FnThreshold.j5 k x0 (t535 != (decide (bt531.1 ≤ 4))))) else (laws_FnThreshold.j5 k x0 false)))))))
def laws_FnThreshold.j5 : Nat → List Int → Bool → Option (Bool)
 | 0, _, _ => none
 | k + 1, x0, x204 => if x204 = true then (some false) else ((spec_DrawIsContradiction.f k x0).bind fun bt536 => ((spec_DrawCountThreshold.f k x0).bind fun t542 => ((spec_DrawChowNumbers.f k x0).bind fun bt543 => ((impl_ChowNumbers.f k bt543.1 bt543.2).bind fun t546 => ((impl_IsContradiction.f k bt536.1 bt536.2.1 bt536.2.2).bind fun t549 => ((spec_IsContradiction.f k bt536.1 bt536.2.1 bt536.2.2).bind fun t550 => (if (t549 == t550) = true then ((impl_CountThreshold.f k t542).bind fun t551 => ((spec_CountThreshold.f k t542).bind fun t552 => (if t551 = t552 then ((spec_ChowNumbers.f k bt543.1 bt543.2).bind fun t553 => ((laws_sameInts.f k t546 t553).bind fun t556 => (if t556 = true then (if (t546.length : Int) = 0 then (some true) else (if 0 < (t546.length : Int) then ((impl_CountOnes.f bt543.1 bt543.2).bind fun t558 => (if (rd t546 0) = t558 then (some ((t546.length : Int) == (wrap64 (bt543.1 + 1)))) else (some false))) else (none))) else (some false)))) else (some false)))) else (some false))))))))
def laws_FnThreshold.j1 : Nat → List Int → Bool → List Int → Bool → List Int → Bool → Int → Int → Option (Bool)
 | 0, _, _, _, _, _, _, _, _ => none
 | k + 1, x0, x6, x7, x11, x12, x107, x486000, x486001 => if x107 = true then (some false) else (laws_FnThreshold.l0 k x0 x6 x7 x11 x12 0 x486000 x486001)
def laws_FnThreshold.l0 : Nat → List Int → Bool → List Int → Bool → List Int → Int → Int → Int → Option (Bool)
 | 0, _, _, _, _, _, _, _, _ => none
 | k + 1, x0, x6, x7, x11, x12, x16, x486000, x486001 => if x16 < (x7.length : Int) then ((impl_PolarityOf.f x486000 x486001 x16).bind fun t512 => (if t512 = 1 then (if 0 ≤ x16 then (if (rd x7 x16) < 1 then (some false) else (if t512 = (-1) then (if (rd x7 x16) > (-1) then (some false) else (if t512 = 0 then (if (rd x7 x16) = 0 then (laws_FnThreshold.l0 k x0 x6 x7 x11 x12 (wrap64 (x16 + 1)) x486000 x486001) else (some false)) else (laws_FnThreshold.l0 k x0 x6 x7 x11 x12 (wrap64 (x16 + 1)) x486000 x486001))) else (if t512 = 0 then (if (rd x7 x16) = 0 then (laws_FnThreshold.l0 k x0 x6 x7 x11 x12 (wrap64 (x16 + 1)) x486000 x486001) else (some false)) else (laws_FnThreshold.l0 k x0 x6 x7 x11 x12 (wrap64 (x16 + 1)) x486000 x486001)))) else (none)) else (if t512 = (-1) then (if 0 ≤ x16 then (if (rd x7 x16) > (-1) then (some false) else (if t512 = 0 then (if (rd x7 x16) = 0 then (laws_FnThreshold.l0 k x0 x6 x7 x11 x12 (wrap64 (x16 + 1)) x486000 x486001) else (some false)) else (laws_FnThreshold.l0 k x0 x6 x7 x11 x12 (wrap64 (x16 + 1)) x486000 x486001))) else (none)) else (if t512 = 0 then (if 0 ≤ x16 then (if (rd x7 x16) = 0 then (laws_FnThreshold.l0 k x0 x6 x7 x11 x12 (wrap64 (x16 + 1)) x486000 x486001) else (some false)) else (none)) else (laws_FnThreshold.l0 k x0 x6 x7 x11 x12 (wrap64 (x16 + 1)) x486000 x486001))))) else (laws_FnThreshold.j3 k x0 x6 x11 x12 x486000 x486001)
end
def laws_FnThreshold.f (k : Nat) (l0 : List Int) : Option (Bool) := (laws_big.f l0).bind fun t482 => (if t482 = true then (some true) else ((spec_DrawWeightsFor.f k l0).bind fun bt483 => ((impl_WeightsFor.f k bt483.1 bt483.2).bind fun bt486 => ((spec_WeightsFor.f k bt483.1 bt483.2).bind fun bt491 => ((impl_Contradiction.f k bt483.1 bt483.2).bind fun bt496 => ((spec_Contradiction.f k bt483.1 bt483.2).bind fun bt500 => (if (bt486.2.2 != bt491.2.2) = true then (laws_FnThreshold.j0 k l0 bt486.2.2 bt491.1 bt491.2.1 bt496.2 bt500.1 true bt483.1 bt483.2) else (if bt486.2.1 = bt491.2.1 then ((laws_sameInts.f k bt486.1 bt491.1).bind fun t504 => (if t504 = true then (if (bt496.2 != bt500.2) = true then (laws_FnThreshold.j0 k l0 bt486.2.2 bt491.1 bt491.2.1 bt496.2 bt500.1 true bt483.1 bt483.2) else ((laws_sameInts.f k bt496.1 bt500.1).bind fun t505 => (if t505 = true then ((impl_IsThreshold.f k bt483.1 bt483.2).bind fun t506 => (laws_FnThreshold.j0 k l0 bt486.2.2 bt491.1 bt491.2.1 bt496.2 bt500.1 (t506 != bt491.2.2) bt483.1 bt483.2)) else (laws_FnThreshold.j0 k l0 bt486.2.2 bt491.1 bt491.2.1 bt496.2 bt500.1 true bt483.1 bt483.2)))) else (laws_FnThreshold.j0 k l0 bt486.2.2 bt491.1 bt491.2.1 bt496.2 bt500.1 true bt483.1 bt483.2))) else (laws_FnThreshold.j0 k l0 bt486.2.2 bt491.1 bt491.2.1 bt496.2 bt500.1 true bt483.1 bt483.2)))))))))
theorem laws_FnThreshold.j0_dead {k : Nat} {y0 : List Int} {y1 : Bool} {y2 : List Int} {y3 : Int} {y4 : Bool} {y5 : List Int} {y7 : Int} {y8 : Int} {r : Bool} (h : laws_FnThreshold.j0 k y0 y1 y2 y3 y4 y5 true y7 y8 = some r) (hr : r = true) : False := by
 cases k with
 | zero => rw [laws_FnThreshold.j0] at h; cases h
 | succ k => rw [laws_FnThreshold.j0, if_pos rfl] at h; cases (Option.some.inj h).trans hr
theorem laws_FnThreshold.j4_dead {k : Nat} {y0 : List Int} {r : Bool} (h : laws_FnThreshold.j4 k y0 true = some r) (hr : r = true) : False := by
 cases k with
 | zero => rw [laws_FnThreshold.j4] at h; cases h
 | succ k => rw [laws_FnThreshold.j4, if_pos rfl] at h; cases (Option.some.inj h).trans hr
theorem laws_FnThreshold.j5_dead {k : Nat} {y0 : List Int} {r : Bool} (h : laws_FnThreshold.j5 k y0 true = some r) (hr : r = true) : False := by
 cases k with
 | zero => rw [laws_FnThreshold.j5] at h; cases h
 | succ k => rw [laws_FnThreshold.j5, if_pos rfl] at h; cases (Option.some.inj h).trans hr
theorem laws_FnThreshold.j1_dead {k : Nat} {y0 : List Int} {y1 : Bool} {y2 : List Int} {y3 : Bool} {y4 : List Int} {y6 : Int} {y7 : Int} {r : Bool} (h : laws_FnThreshold.j1 k y0 y1 y2 y3 y4 true y6 y7 = some r) (hr : r = true) : False := by
 cases k with
 | zero => rw [laws_FnThreshold.j1] at h; cases h
 | succ k => rw [laws_FnThreshold.j1, if_pos rfl] at h; cases (Option.some.inj h).trans hr
def laws_FnThreshold.T25 : Bool × List (List Nat × List Nat) := (true, [([], []), ([], []), ([0, 1], [0, 1]), ([2], [2]), ([3], [3]), ([3], [3]), ([4, 5, 3], [3, 4, 5]), ([3, 6], [3, 6]), ([7, 3], [7]), ([8], [8]), ([9, 8, 8], [8, 9]), ([10], [10]), ([11, 10, 10], [10, 11]), ([10], [10]), ([13, 10], [10, 13]), ([14, 10], [10, 14]), ([12, 15, 10], [10, 12, 15]), ([10, 16, 8], [8, 10, 16]), ([8, 17], [8, 17])])
def laws_FnThreshold.B25 : List Nat := [0, 0, 3, 7, 15, 15, 63, 127, 255, 511, 1023, 2047, 4095, 2047, 10239, 26623, 65535, 131071, 262143]
theorem laws_FnThreshold.tab25 : rtab .any (opsOf Try.f3 25) = laws_FnThreshold.T25 := by kernel_rfl
theorem laws_FnThreshold.bits25 : waitsOk laws_FnThreshold.T25.2 laws_FnThreshold.B25 = true := by kernel_rfl
def laws_FnThreshold.T31 : Bool × List (List Nat × List Nat) := (true, [([], []), ([], []), ([0, 1], [0, 1]), ([], []), ([], []), ([3, 4, 2], [3, 4]), ([2, 5], [2, 5]), ([6, 5], [6]), ([7], [7]), ([8, 7, 7], [7, 8]), ([7], [7]), ([10, 9, 7], [7, 10]), ([9, 11, 7], [7, 9, 11]), ([7, 12], [7, 12]), ([13, 11], [13]), ([14], [14]), ([14], [14]), ([16, 14, 14], [14, 16]), ([15, 17, 17, 14], [14, 15, 17]), ([14, 18], [14, 18]), ([19, 18], [19]), ([20], [20]), ([21, 20], [20, 21]), ([22, 20], [20, 22]), ([23, 20, 20], [20, 23]), ([24], [24]), ([25, 24], [24, 25]), ([26, 24], [24, 26]), ([24], [24]), ([28, 24, 24], [24, 28]), ([27, 29, 24], [24, 27, 29]), ([30, 29, 24], [24, 30]), ([31], [31]), ([32, 31], [31, 32]), ([31], [31]), ([34, 31], [31, 34]), ([35, 31], [31, 35]), ([33, 36, 31], [31, 33, 36]), ([31, 37, 24], [24, 31, 37]), ([24, 38, 20], [20, 24, 38]), ([20, 39], [20, 39]), ([40, 31, 0, 1, 2, 3, 4, 5, 6, 7, 8, 9, 10, 11, 12, 13, 14, 15, 16, 17, 18, 19, 20, 21, 22, 23, 24, 25, 26, 27, 28, 29, 30, 31, 32, 33, 34, 35, 36, 37, 38, 39, 40], [40])])
def laws_FnThreshold.B31 : List Nat := [0, 0, 3, 0, 0, 31, 63, 127, 255, 511, 255, 2047, 4095, 8191, 16383, 32767, 32767, 98303, 262143, 524287, 1048575, 2097151, 4194303, 8388607, 16777215, 33554431, 67108863, 134217727, 33554431, 301989887, 1073741823, 2147483647, 4294967295, 8589934591, 4294967295, 21474836479, 55834574847, 137438953471, 274877906943, 549755813887, 1099511627775, 2199023255551]
theorem laws_FnThreshold.tab31 : rtab .any (opsOf Try.f3 31) = laws_FnThreshold.T31 := by kernel_rfl
theorem laws_FnThreshold.bits31 : waitsOk laws_FnThreshold.T31.2 laws_FnThreshold.B31 = true := by kernel_rfl
set_option maxHeartbeats 8000000 in
set_option maxRecDepth 100000 in
theorem laws_FnThreshold.calls (k : Nat) (A0 : Option Addr) (c0 : Nat) (l0 : List Int) (r : Bool) (w : World) (hr0 : Kd.C (Kd.int .u8) w A0 l0.length l0) (hc0 : l0.length ≤ c0) (h : laws_FnThreshold.f k l0 = some r) (hr_ : r = true) :
  Calls Try.prog 3 #[.slice A0 l0.length c0] w fun e w' => e = .returned (.bool r) ∧ Below w.heap.size w w' := by
 have HRT := A_ hr_; clear hr_
 have hu25 := Try.underlying25
 have HR0 := A_ hr0; have HC0 := A_ hc0; clear hr0 hc0
 have HB := A_ (Below.refl w.heap.size w)
 have H : ((laws_big.f l0).bind fun t482 => (if t482 = true then (some true) else ((spec_DrawWeightsFor.f k l0).bind fun bt483 => ((impl_WeightsFor.f k bt483.1 bt483.2).bind fun bt486 => ((spec_WeightsFor.f k bt483.1 bt483.2).bind fun bt491 => ((impl_Contradiction.f k bt483.1 bt483.2).bind fun bt496 => ((spec_Contradiction.f k bt483.1 bt483.2).bind fun bt500 => (if (bt486.2.2 != bt491.2.2) = true then (laws_FnThreshold.j0 k l0 bt486.2.2 bt491.1 bt491.2.1 bt496.2 bt500.1 true bt483.1 bt483.2) else (if bt486.2.1 = bt491.2.1 then ((laws_sameInts.f k bt486.1 bt491.1).bind fun t504 => (if t504 = true then (if (bt496.2 != bt500.2) = true then (laws_FnThreshold.j0 k l0 bt486.2.2 bt491.1 bt491.2.1 bt496.2 bt500.1 true bt483.1 bt483.2) else ((laws_sameInts.f k bt496.1 bt500.1).bind fun t505 => (if t505 = true then ((impl_IsThreshold.f k bt483.1 bt483.2).bind fun t506 => (laws_FnThreshold.j0 k l0 bt486.2.2 bt491.1 bt491.2.1 bt496.2 bt500.1 (t506 != bt491.2.2) bt483.1 bt483.2)) else (laws_FnThreshold.j0 k l0 bt486.2.2 bt491.1 bt491.2.1 bt496.2 bt500.1 true bt483.1 bt483.2)))) else (laws_FnThreshold.j0 k l0 bt486.2.2 bt491.1 bt491.2.1 bt496.2 bt500.1 true bt483.1 bt483.2))) else (laws_FnThreshold.j0 k l0 bt486.2.2 bt491.1 bt491.2.1 bt496.2 bt500.1 true bt483.1 bt483.2)))))))))) = some r := h
 clear h; replace H := Option.bind_eq_some_iff.mp H; obtain ⟨t482, A20, H⟩ := H; (try dsimp only at H); have A2 := A_ A20; clear A20
 by_cases c3 : t482 = true
 ·subst c3
  rw [if_pos rfl] at H
  (try dsimp only at H)
  obtain rfl := Option.some.inj H
  go_enter Try.func3, Try.ntmps3
  go_wp2_with (first | ((with_reducible refine gate_callee (f := 4) rfl ?_); refine goesL_ (some 30) rfl rfl Try.func4 kr_ rfl #[.slice A0 l0.length c0] rfl q2_ ?_; (with_reducible refine (laws_big.calls _ _ l0 true _ ?side1 ?side2 A2.out).mono ?_); (case side1 => exact q19_); (case side2 => exact HC0.out); rintro e w' ⟨rfl, ⟨nd, rfl⟩⟩; refine ⟨_, rfl, ?_⟩))
  go_ret
  exact ⟨q7_, M.Lw HB⟩
 ·replace c3 := Bool.eq_false_iff.mpr c3
  subst c3
  rw [if_neg (show ¬ (false = true) by decide)] at H
  (try dsimp only at H); replace H := Option.bind_eq_some_iff.mp H; obtain ⟨⟨t483, t484⟩, A40, H⟩ := H; (try dsimp only at H); have A4 := A_ A40; clear A40; replace H := Option.bind_eq_some_iff.mp H; obtain ⟨⟨t486, t489, t490⟩, A50, H⟩ := H; (try dsimp only at H); have A5 := A_ A50; clear A50; replace H := Option.bind_eq_some_iff.mp H; obtain ⟨⟨t491, t494, t495⟩, A60, H⟩ := H; (try dsimp only at H); have A6 := A_ A60; clear A60; replace H := Option.bind_eq_some_iff.mp H; obtain ⟨⟨t496, t499⟩, A70, H⟩ := H; (try dsimp only at H); have A7 := A_ A70; clear A70; replace H := Option.bind_eq_some_iff.mp H
  obtain ⟨⟨t500, t503⟩, A80, H⟩ := H; (try dsimp only at H); have A8 := A_ A80; clear A80; have HC9 := A_ H; clear H
  go_enter Try.func3, Try.ntmps3
  go_upto_region 8 with (first | ((with_reducible refine gate_callee (f := 4) rfl ?_); refine goesL_ (some 30) rfl rfl Try.func4 kr_ rfl #[.slice A0 l0.length c0] rfl q2_ ?_; (with_reducible refine (laws_big.calls _ _ l0 false _ ?side1 ?side2 A2.out).mono ?_); (case side1 => exact q19_); (case side2 => exact HC0.out); rintro e w' ⟨rfl, ⟨nd, rfl⟩⟩; refine ⟨_, rfl, ?_⟩) | ((with_reducible refine gate_callee (f := 5) rfl ?_); refine goesL_ (some 32) rfl rfl Try.func5 kr_ rfl #[.slice A0 l0.length c0] rfl q2_ ?_; (with_reducible refine (spec_DrawWeightsFor.calls k _ _ l0 t483 t484 _ ?side1 ?side2 A4.out).mono ?_); (case side1 => exact q19_); (case side2 => exact HC0.out); rintro e w10 ⟨rfl, hb⟩; refine ⟨_, rfl, ?_⟩; replace HB := A_ (below_step q0_ hb); (try clear hb); (try clear hb2); (try clear hk); (try clear hi)) | ((with_reducible refine gate_dst (N := 3) rfl ?_); (try (refine gate_guard (by rfl) ?_; dsimp only)); refine box_event ?hg (N := 3) ?hd (cs := #[.int .i64 0, .int .i64 0]) (t := 25) ?hr ?_; (case hd => rfl); (case hg => rfl); (case hr => first | (go_simp; done) | (go_simp; rfl)); intro gb485 hg w11 hbox hb; have BK485 := A_ (hbox); have GW485 := A_ ((by rw [hg]; exact (below_size q0_) : w.heap.size ≤ gb485)); have GE485 := A_ ((by rw [hg]; exact (below_size q0_) : w.heap.size ≤ gb485)); replace HB := A_ (below_step q0_ hb); clear hb hbox hg; have hcz12_0 := c20_ BK485; have hcz12_1 := c21_ BK485; have hfz12_0 := blk_frozen BK485.out 0; have hfz12_1 := blk_frozen BK485.out 1) | ((with_reducible refine gate_callee (f := 6) rfl ?_); refine goesL_ (some 35) rfl rfl Try.func6 kr_ rfl #[.agg #[.int .i64 t483, .int .i64 t484]] rfl q2_ ?_; (with_reducible refine (impl_WeightsFor.calls k t483 t484 t486 t489 t490 _ A5.out).mono ?_); rintro e w13 ⟨v487, rfl, ho0, hb⟩; refine ⟨_, rfl, ?_⟩; have HO488 := A_ (Kd.R_lower ho0 (below_size q0_)); replace BK485 := A_ (blk_below (g := gb485) (o := .cells #[.int .i64 t483, .int .i64 t484] 25 (0, 0)) (by (with_reducible repeat (first | refine blk_drewN ?_ _ | refine blk_drew ?_ | refine blk_alloc ?_ _)); refine blk_put (cs := #[.int .i64 t483, .int .i64 0]) ?_ 1 _ rfl; (with_reducible repeat (first | refine blk_drewN ?_ _ | refine blk_drew ?_ | refine blk_alloc ?_ _)); refine blk_put (cs := #[.int .i64 0, .int .i64 0]) ?_ 0 _ rfl; (with_reducible repeat (first | refine blk_drewN ?_ _ | refine blk_drew ?_ | refine blk_alloc ?_ _)); exact BK485.out) hb); replace HB := A_ (below_step q0_ hb); (try clear hb); (try clear hb2); (try clear hk); (try clear hi); (try clear ho0); have hcz14_0 := c20_ BK485; have hcz14_1 := c21_ BK485; have hfz14_0 := blk_frozen BK485.out 0; have hfz14_1 := blk_frozen BK485.out 1) | ((with_reducible refine gate_callee (f := 7) rfl ?_); refine goesL_ (some 41) rfl rfl Try.func7 kr_ rfl #[.agg #[.int .i64 t483, .int .i64 t484]] rfl q2_ ?_; (with_reducible refine (spec_WeightsFor.calls k t483 t484 t491 t494 t495 _ A6.out).mono ?_); rintro e w15 ⟨v492, rfl, ho0, hb⟩; refine ⟨_, rfl, ?_⟩; have HO493 := A_ (Kd.R_lower (Kd.R_new' ho0 (Kd.R_lt (M.Lr HO488))) (below_size q0_)); replace HO488 := A_ (Kd.R_elder' (M.Lr HO488) (Kd.R_base ho0) hb); replace BK485 := A_ (blk_below (M.Lb BK485) hb); replace HB := A_ (below_step q0_ hb); (try clear hb); (try clear hb2); (try clear hk); (try clear hi); (try clear ho0); have hcz16_0 := c20_ BK485; have hcz16_1 := c21_ BK485; have hfz16_0 := blk_frozen BK485.out 0; have hfz16_1 := blk_frozen BK485.out 1) | ((with_reducible refine gate_callee (f := 8) rfl ?_); refine goesL_ (some 47) rfl rfl Try.func8 kr_ rfl #[.agg #[.int .i64 t483, .int .i64 t484]] rfl q2_ ?_; (with_reducible refine (impl_Contradiction.calls k t483 t484 t496 t499 _ A7.out).mono ?_); rintro e w17 ⟨v497, rfl, ho0, hb⟩; refine ⟨_, rfl, ?_⟩; have HO498 := A_ (Kd.R_lower (Kd.R_new' (Kd.R_new' ho0 (Kd.R_lt (M.Lr HO488))) (Kd.R_lt (M.Lr HO493))) (below_size q0_)); replace HO488 := A_ (Kd.R_elder' (M.Lr HO488) (Kd.R_base ho0) hb); replace HO493 := A_ (Kd.R_elder' (M.Lr HO493) (Kd.R_base ho0) hb); replace BK485 := A_ (blk_below (M.Lb BK485) hb); replace HB := A_ (below_step q0_ hb); (try clear hb); (try clear hb2); (try clear hk); (try clear hi); (try clear ho0); have hcz18_0 := c20_ BK485; have hcz18_1 := c21_ BK485; have hfz18_0 := blk_frozen BK485.out 0; have hfz18_1 := blk_frozen BK485.out 1) | ((with_reducible refine gate_callee (f := 9) rfl ?_); refine goesL_ (some 52) rfl rfl Try.func9 kr_ rfl #[.agg #[.int .i64 t483, .int .i64 t484]] rfl q2_ ?_; (with_reducible refine (spec_Contradiction.calls k t483 t484 t500 t503 _ A8.out).mono ?_); rintro e w19 ⟨v501, rfl, ho0, hb⟩; refine ⟨_, rfl, ?_⟩; have HO502 := A_ (Kd.R_lower (Kd.R_new' (Kd.R_new' (Kd.R_new' ho0 (Kd.R_lt (M.Lr HO488))) (Kd.R_lt (M.Lr HO493))) (Kd.R_lt (M.Lr HO498))) (below_size q0_)); replace HO488 := A_ (Kd.R_elder' (M.Lr HO488) (Kd.R_base ho0) hb); replace HO493 := A_ (Kd.R_elder' (M.Lr HO493) (Kd.R_base ho0) hb); replace HO498 := A_ (Kd.R_elder' (M.Lr HO498) (Kd.R_base ho0) hb); replace BK485 := A_ (blk_below (M.Lb BK485) hb); replace HB := A_ (below_step q0_ hb); (try clear hb); (try clear hb2); (try clear hk); (try clear hi); (try clear ho0)))
  (try simp only [Act.put, M.sT_, M.s0_, M.s1_])
  go_cut [85] (fun v85 wc => ∃ (kq : Nat) (x85_8 : Bool), v85 = .bool x85_8 ∧ Aside0 (laws_FnThreshold.j0 kq l0 t490 t491 t494 t499 t500 x85_8 t483 t484 = some r) ∧ Aside0 (kq ≤ k) ∧ Aside0 (Kd.R (Kd.int .i64) 3 wc w.heap.size (fun k_ => some k_ ≠ (v501 : Value).ownBlock) v492 t491) ∧ Aside0 (Kd.R (Kd.int .i64) 3 wc w.heap.size (fun k_ => some k_ ≠ (v492 : Value).ownBlock) v501 t500) ∧ Aside0 (wc.heap[gb485]? = some (.cells #[.int .i64 t483, .int .i64 t484] 25 (0, 0))) ∧ Aside0 (Below w.heap.size w wc))
  case first =>
   as_aux_lemma =>
   have H := HC9.out
   clear HC9
   by_cases c20 : (t490 != t495) = true
   ·rw [if_pos c20] at H
    have c20b0 : (t490 != t495) = true := c20
    (try (have c20b1 : decide (t490 = t495) = false := by simpa using c20))
    (try (have c20b2 : (t490 == t495) = false := by simpa using c20))
    (try (have c20b3 : ¬ (t490 = t495) := by simpa using c20))
    clear c20
    (first | rw [c20b0] | rw [c20b1] | (simp only [i64_w, i32_w]; rw [c20b0]) | skip)
    first | exact (laws_FnThreshold.j0_dead H HRT.out).elim | exact (laws_FnThreshold.j4_dead H HRT.out).elim | exact (laws_FnThreshold.j5_dead H HRT.out).elim | exact (laws_FnThreshold.j1_dead H HRT.out).elim
   ·rw [if_neg c20] at H
    have c20b0 : (t490 != t495) = false := by simpa using c20
    (try (have c20b1 : decide (t490 = t495) = true := by simpa using c20))
    (try (have c20b2 : (t490 == t495) = true := by simpa using c20))
    clear c20
    (first | rw [c20b0] | rw [c20b1] | (simp only [i64_w, i32_w]; rw [c20b0]) | skip)
    by_cases c21 : t489 = t494
    ·rw [if_pos c21] at H
     have c21b0 : (t489 == t494) = true := beq_iff_eq.mpr c21
     have c21b1 : (t489 != t494) = false := bne_eq_false_iff_eq.mpr c21
     clear c21; replace H := Option.bind_eq_some_iff.mp H; obtain ⟨t504, A220, H⟩ := H; (try dsimp only at H); have A22 := A_ A220; clear A220
     by_cases c23 : t504 = true
     ·subst c23
      rw [if_pos rfl] at H
      (try dsimp only at H)
      by_cases c24 : (t499 != t503) = true
      ·rw [if_pos c24] at H
       have c24b0 : (t499 != t503) = true := c24
       (try (have c24b1 : decide (t499 = t503) = false := by simpa using c24))
       (try (have c24b2 : (t499 == t503) = false := by simpa using c24))
       (try (have c24b3 : ¬ (t499 = t503) := by simpa using c24))
       clear c24
       first | exact (laws_FnThreshold.j0_dead H HRT.out).elim | exact (laws_FnThreshold.j4_dead H HRT.out).elim | exact (laws_FnThreshold.j5_dead H HRT.out).elim | exact (laws_FnThreshold.j1_dead H HRT.out).elim
      ·rw [if_neg c24] at H
       have c24b0 : (t499 != t503) = false := by simpa using c24
       (try (have c24b1 : decide (t499 = t503) = true := by simpa using c24))
       (try (have c24b2 : (t499 == t503) = true := by simpa using c24))
       clear c24; replace H := Option.bind_eq_some_iff.mp H; obtain ⟨t505, A270, H⟩ := H; (try dsimp only at H); have A27 := A_ A270; clear A270
       by_cases c28 : t505 = true
       ·subst c28
        rw [if_pos rfl] at H
        (try dsimp only at H); replace H := Option.bind_eq_some_iff.mp H; obtain ⟨t506, A290, H⟩ := H
        replace H : (laws_FnThreshold.j0 k l0 t490 t491 t494 t499 t500 (t506 != t495) t483 t484) = some r := H
        have A29 := A_ A290; clear A290
        have H' := A_ H
        clear H
        obtain ⟨Ao30, co30, eo30⟩ := Kd.R_slice HO488.out
        subst eo30
        obtain ⟨Ao31, co31, eo31⟩ := Kd.R_slice HO493.out
        subst eo31
        go_wp2_with (first | (go_at_call 10; (with_reducible refine (laws_sameInts.calls k _ _ t486 _ _ t491 true _ ?side1 ?side2 ?side3 ?side4 A22.out).mono ?_); (case side1 => repeat (first | exact (Kd.R_reads' HO488.out).2.2 | (with_reducible refine Kd.C_alloc ?_ _) | (with_reducible refine Kd.C_drewN ?_ _) | (with_reducible refine Kd.C_drew ?_))); (case side2 => exact (Kd.R_reads' HO488.out).2.1); (case side3 => repeat (first | exact (Kd.R_reads' HO493.out).2.2 | (with_reducible refine Kd.C_alloc ?_ _) | (with_reducible refine Kd.C_drewN ?_ _) | (with_reducible refine Kd.C_drew ?_))); (case side4 => exact (Kd.R_reads' HO493.out).2.1); rintro e w' ⟨rfl, ⟨nd, rfl⟩⟩; obtain ⟨Ao32, co32, eo32⟩ := Kd.R_slice HO498.out; subst eo32; obtain ⟨Ao33, co33, eo33⟩ := Kd.R_slice HO502.out; subst eo33) | (go_at_call 10; (with_reducible refine (laws_sameInts.calls k _ _ t496 _ _ t500 true _ ?side1 ?side2 ?side3 ?side4 A27.out).mono ?_); (case side1 => repeat (first | exact (Kd.R_reads' HO498.out).2.2 | (with_reducible refine Kd.C_alloc ?_ _) | (with_reducible refine Kd.C_drewN ?_ _) | (with_reducible refine Kd.C_drew ?_))); (case side2 => exact (Kd.R_reads' HO498.out).2.1); (case side3 => repeat (first | exact (Kd.R_reads' HO502.out).2.2 | (with_reducible refine Kd.C_alloc ?_ _) | (with_reducible refine Kd.C_drewN ?_ _) | (with_reducible refine Kd.C_drew ?_))); (case side4 => exact (Kd.R_reads' HO502.out).2.1); rintro e w' ⟨rfl, ⟨nd, rfl⟩⟩; have hcz34_0 := c20_ BK485; have hcz34_1 := c21_ BK485; have hfz34_0 := blk_frozen BK485.out 0; have hfz34_1 := blk_frozen BK485.out 1) | (go_at_call 11; (with_reducible refine (impl_IsThreshold.calls k t483 t484 t506 _ A29.out).mono ?_); rintro e w35 ⟨rfl, hb⟩; replace HO488 := A_ (Kd.R_below (M.Lr HO488) hb); replace HO493 := A_ (Kd.R_below (M.Lr HO493) hb); replace HO498 := A_ (Kd.R_below (M.Lr HO498) hb); replace HO502 := A_ (Kd.R_below (M.Lr HO502) hb); replace BK485 := A_ (blk_below (M.Lb BK485) hb); replace HB := A_ (below_step (M.Lw HB) hb); (try clear hb); (try clear hb2); (try clear hk); (try clear hi)))
        go_meet
        case rel => exact ⟨_, ((t506 != t495)), q1_, H', ⟨by first | omega | exact Nat.le_refl _⟩, ⟨by (with_reducible repeat (first | apply Kd.R_alloc | apply Kd.R_drewN | apply Kd.R_drew)); exact Kd.R_mono HO493.out (fun _ hk => hk.2)⟩, ⟨by (with_reducible repeat (first | apply Kd.R_alloc | apply Kd.R_drewN | apply Kd.R_drew)); exact Kd.R_mono HO502.out (fun _ hk => hk.1.2)⟩, ⟨M.Lb BK485⟩, ⟨M.Lw HB⟩⟩
       ·replace c28 := Bool.eq_false_iff.mpr c28
        subst c28
        rw [if_neg (show ¬ (false = true) by decide)] at H
        (try dsimp only at H)
        first | exact (laws_FnThreshold.j0_dead H HRT.out).elim | exact (laws_FnThreshold.j4_dead H HRT.out).elim | exact (laws_FnThreshold.j5_dead H HRT.out).elim | exact (laws_FnThreshold.j1_dead H HRT.out).elim
     ·replace c23 := Bool.eq_false_iff.mpr c23
      subst c23
      rw [if_neg (show ¬ (false = true) by decide)] at H
      (try dsimp only at H)
      first | exact (laws_FnThreshold.j0_dead H HRT.out).elim | exact (laws_FnThreshold.j4_dead H HRT.out).elim | exact (laws_FnThreshold.j5_dead H HRT.out).elim | exact (laws_FnThreshold.j1_dead H HRT.out).elim
    ·rw [if_neg c21] at H
     have c21b0 : (t489 == t494) = false := beq_eq_false_iff_ne.mpr c21
     have c21b1 : (t489 != t494) = true := bne_iff_ne.mpr c21
     first | exact (laws_FnThreshold.j0_dead H HRT.out).elim | exact (laws_FnThreshold.j4_dead H HRT.out).elim | exact (laws_FnThreshold.j5_dead H HRT.out).elim | exact (laws_FnThreshold.j1_dead H HRT.out).elim
  case rest =>
   as_aux_lemma =>
   clear HC9; (try clear c2); (try clear p2); (try clear c3); (try clear c4); (try clear c5); (try clear c6); (try clear c7); (try clear c8); (try clear c9); (try clear c20); (try clear c20b0); (try clear c20b1); (try clear c20b2); (try clear c21); (try clear c21b0); (try clear c21b1); (try clear c23); (try clear c24); (try clear c24b0); (try clear c24b1); (try clear c24b2); (try clear c28); (try clear hcz12_0); (try clear hcz12_1); (try clear hcz14_0); (try clear hcz14_1); (try clear hcz16_0); (try clear hcz16_1); (try clear hcz18_0); (try clear hcz18_1); (try clear hcz34_0); (try clear hcz34_1)
   (try clear hfz12_0); (try clear hfz12_1); (try clear hfz14_0); (try clear hfz14_1); (try clear hfz16_0); (try clear hfz16_1); (try clear hfz18_0); (try clear hfz18_1); (try clear hfz34_0); (try clear hfz34_1); obtain ⟨kq, x85_8, rfl, HA, HJ8, HO_7, HO_12, BK485, HB⟩ := hcut
   cases kq with
   | zero => exact absurd HA.out (by simp [laws_FnThreshold.j0])
   | succ kj8 =>
    have H := HA.out
    clear HA
    simp only [laws_FnThreshold.j0] at H
    by_cases c42 : x85_8 = true
    ·subst c42
     rw [if_pos rfl] at H
     (try dsimp only at H)
     exact absurd (Option.some.inj H) (by rw [HRT.out]; decide)
    ·replace c42 := Bool.eq_false_iff.mpr c42
     subst c42
     rw [if_neg (show ¬ (false = true) by decide)] at H
     (try dsimp only at H); have HC43 := A_ H; clear H
     go_upto_if 86 with (fail)
     go_cut [] (fun wc => ∃ (kq : Nat), Aside0 (laws_FnThreshold.j3 kq l0 t490 t499 t500 t483 t484 = some r) ∧ Aside0 (kq ≤ kj8) ∧ Aside0 (Kd.R (Kd.int .i64) 3 wc w.heap.size (fun _ => True) v501 t500) ∧ Aside0 (wc.heap[gb485]? = some (.cells #[.int .i64 t483, .int .i64 t484] 25 (0, 0))) ∧ Aside0 (Below w.heap.size w wc))
     case first =>
      as_aux_lemma =>
      have H := HC43.out
      clear HC43
      by_cases c44 : t490 = true
      ·subst c44
       rw [if_pos rfl] at H
       (try dsimp only at H); replace H := Option.bind_eq_some_iff.mp H; obtain ⟨⟨t507, t508, t509⟩, A450, H⟩ := H; (try dsimp only at H); have A45 := A_ A450; clear A450; have HC46 := A_ H; clear H
       obtain ⟨Ao47, co47, eo47⟩ := Kd.R_slice HO_7.out
       subst eo47
       go_upto_region 12 with (first | ((with_reducible refine gate_callee (f := 12) rfl ?_); refine goesL_ (some 90) rfl rfl Try.func12 kr_ rfl #[.slice Ao47 t491.length co47, .int .i64 t494] rfl q2_ ?_; (with_reducible refine (impl_TableOfWeights.calls _ _ t491 t494 t507 t508 t509 _ ?side1 ?side2 A45.out).mono ?_); (case side1 => repeat (first | exact (Kd.R_reads' HO_7.out).2.2 | (with_reducible refine Kd.C_alloc ?_ _) | (with_reducible refine Kd.C_drewN ?_ _) | (with_reducible refine Kd.C_drew ?_))); (case side2 => exact (Kd.R_reads' HO_7.out).2.1); rintro e w48 ⟨rfl, hb⟩; refine ⟨_, rfl, ?_⟩; replace HO_7 := A_ (Kd.R_below (M.Lr HO_7) hb); replace HO_12 := A_ (Kd.R_below (M.Lr HO_12) hb); replace BK485 := A_ (blk_below (M.Lb BK485) hb); replace HB := A_ (below_step (M.Lw HB) hb); (try clear hb); (try clear hb2); (try clear hk); (try clear hi)) | ((with_reducible refine gate_dst (N := 14) rfl ?_); (try (refine gate_guard (by rfl) ?_; dsimp only)); refine box_event ?hg (N := 14) ?hd (cs := #[.int .i64 0, .int .i64 0]) (t := 25) ?hr ?_; (case hd => rfl); (case hg => rfl); (case hr => first | (go_simp; done) | (go_simp; rfl)); intro gb510 hg w49 hbox hb; replace HO_7 := A_ (Kd.R_below (M.Lr HO_7) hb); replace HO_12 := A_ (Kd.R_below (M.Lr HO_12) hb); have BK510 := A_ (hbox); have GW510 := A_ ((by rw [hg]; exact (below_size (M.Lw HB)) : w.heap.size ≤ gb510)); have GE510 := A_ ((by rw [hg]; exact (below_size (M.Lw HB)) : w.heap.size ≤ gb510)); replace HB := A_ (below_step (M.Lw HB) hb); have NB485_510 := A_ ((by rw [hg]; exact Nat.ne_of_lt (blk_lt (M.Lb BK485)) : gb485 ≠ gb510)); have NB510_485 := A_ ((by rw [hg]; exact Nat.ne_of_gt (blk_lt (M.Lb BK485)) : gb510 ≠ gb485)); replace BK485 := A_ (blk_below (M.Lb BK485) hb); clear hb hbox hg; have hnb50 := NB510_485.out; have hnc50 := NB485_510.out; have hcz51_0 := c20_ BK510; have hcz51_1 := c21_ BK510; have hfz51_0 := blk_frozen BK510.out 0; have hfz51_1 := blk_frozen BK510.out 1))
       (try simp only [Act.put, M.sT_, M.s0_, M.s1_])
       go_cut [107] (fun v107 wc => ∃ (kq : Nat) (x107_45 : Bool), v107 = .bool x107_45 ∧ Aside0 (laws_FnThreshold.j1 kq l0 true t491 t499 t500 x107_45 t483 t484 = some r) ∧ Aside0 (kq ≤ kj8) ∧ Aside0 (Kd.R (Kd.int .i64) 3 wc w.heap.size (fun k_ => some k_ ≠ (v501 : Value).ownBlock) (.slice Ao47 t491.length co47) t491) ∧ Aside0 (Kd.R (Kd.int .i64) 3 wc w.heap.size (fun k_ => some k_ ≠ ((.slice Ao47 t491.length co47) : Value).ownBlock) v501 t500) ∧ Aside0 (wc.heap[gb485]? = some (.cells #[.int .i64 t483, .int .i64 t484] 25 (0, 0))) ∧ Aside0 (wc.heap[gb510]? = some (.cells #[.int .i64 t507, .int .i64 t508] 25 (0, 0))) ∧ Aside0 (Below w.heap.size w wc))
       case first =>
        as_aux_lemma =>
        have H := HC46.out
        clear HC46
        by_cases c52 : t509 = true
        ·subst c52
         rw [if_pos rfl] at H
         (try dsimp only at H)
         by_cases c53 : (!(t507 == t483) || (!(t508 == t484))) = true
         ·rw [if_pos c53] at H
          have c53b0 : (!(t507 == t483) || (!(t508 == t484))) = true := c53
          clear c53
          (first | rw [c53b0] | (simp only [i64_w, i32_w]; rw [c53b0]) | skip)
          first | exact (laws_FnThreshold.j0_dead H HRT.out).elim | exact (laws_FnThreshold.j4_dead H HRT.out).elim | exact (laws_FnThreshold.j5_dead H HRT.out).elim | exact (laws_FnThreshold.j1_dead H HRT.out).elim
         ·rw [if_neg c53] at H
          have c53b0 : (!(t507 == t483) || (!(t508 == t484))) = false := by simpa using c53
          clear c53
          (first | rw [c53b0] | (simp only [i64_w, i32_w]; rw [c53b0]) | skip)
          by_cases c57 : t499 = true
          ·subst c57
           rw [if_pos rfl] at H
           (try dsimp only at H)
           first | exact (laws_FnThreshold.j0_dead H HRT.out).elim | exact (laws_FnThreshold.j4_dead H HRT.out).elim | exact (laws_FnThreshold.j5_dead H HRT.out).elim | exact (laws_FnThreshold.j1_dead H HRT.out).elim
          ·replace c57 := Bool.eq_false_iff.mpr c57
           subst c57
           rw [if_neg (show ¬ (false = true) by decide)] at H
           (try dsimp only at H); replace H := Option.bind_eq_some_iff.mp H; obtain ⟨t511, A610, H⟩ := H
           replace H : (laws_FnThreshold.j1 kj8 l0 true t491 false t500 (!t511) t483 t484) = some r := H
           have A61 := A_ A610; clear A610
           have H' := A_ H
           clear H
           have hnb62 := NB510_485.out
           have hnc62 := NB485_510.out
           have hcz63_0 := c20_ BK510
           have hcz63_1 := c21_ BK510
           have hfz63_0 := blk_frozen BK510.out 0
           have hfz63_1 := blk_frozen BK510.out 1
           have hcz64_0 := c20_ BK485
           have hcz64_1 := c21_ BK485
           have hfz64_0 := blk_frozen BK485.out 0
           have hfz64_1 := blk_frozen BK485.out 1
           go_wp2_with (first | (go_at_call 13; (with_reducible refine (impl_IsUnate.calls kj8 t483 t484 t511 _ A61.out).mono ?_); rintro e w65 ⟨rfl, hb⟩; replace HO_7 := A_ (Kd.R_below (by (with_reducible repeat (first | apply Kd.R_alloc | apply Kd.R_drewN | apply Kd.R_drew)); exact (Kd.R_mono (Kd.R_far (p := ⟨gb510, 1, none⟩) (Kd.R_far (p := ⟨gb510, 0, none⟩) (Kd.R_types HO_7.out BK510.out (by decide)) (fun _ hk => hk.2) (.int .i64 t507)) (fun _ hk => hk.2) (.int .i64 t508)) (fun _ h_ => h_.1))) hb); replace HO_12 := A_ (Kd.R_below (by (with_reducible repeat (first | apply Kd.R_alloc | apply Kd.R_drewN | apply Kd.R_drew)); exact (Kd.R_mono (Kd.R_far (p := ⟨gb510, 1, none⟩) (Kd.R_far (p := ⟨gb510, 0, none⟩) (Kd.R_types HO_12.out BK510.out (by decide)) (fun _ hk => hk.2) (.int .i64 t507)) (fun _ hk => hk.2) (.int .i64 t508)) (fun _ h_ => h_.1))) hb); replace BK485 := A_ (blk_below (g := gb485) (o := .cells #[.int .i64 t483, .int .i64 t484] 25 (0, 0)) (by (with_reducible repeat (first | refine blk_drewN ?_ _ | refine blk_drew ?_ | refine blk_alloc ?_ _)); refine blk_far ?_ NB485_510.out _; (with_reducible repeat (first | refine blk_drewN ?_ _ | refine blk_drew ?_ | refine blk_alloc ?_ _)); refine blk_far ?_ NB485_510.out _; (with_reducible repeat (first | refine blk_drewN ?_ _ | refine blk_drew ?_ | refine blk_alloc ?_ _)); exact BK485.out) hb); replace BK510 := A_ (blk_below (g := gb510) (o := .cells #[.int .i64 t507, .int .i64 t508] 25 (0, 0)) (by (with_reducible repeat (first | refine blk_drewN ?_ _ | refine blk_drew ?_ | refine blk_alloc ?_ _)); refine blk_put (cs := #[.int .i64 t507, .int .i64 0]) ?_ 1 _ rfl; (with_reducible repeat (first | refine blk_drewN ?_ _ | refine blk_drew ?_ | refine blk_alloc ?_ _)); refine blk_put (cs := #[.int .i64 0, .int .i64 0]) ?_ 0 _ rfl; (with_reducible repeat (first | refine blk_drewN ?_ _ | refine blk_drew ?_ | refine blk_alloc ?_ _)); exact BK510.out) hb); replace HB := A_ (below_step q0_ hb); (try clear hb); (try clear hb2); (try clear hk); (try clear hi)))
           go_meet
           case rel => exact ⟨_, (!t511), q1_, H', ⟨by have := HJ8.out; first | omega | exact Nat.le_refl _⟩, ⟨M.Lr HO_7⟩, ⟨M.Lr HO_12⟩, ⟨M.Lb BK485⟩, ⟨M.Lb BK510⟩, ⟨M.Lw HB⟩⟩
        ·replace c52 := Bool.eq_false_iff.mpr c52
         subst c52
         rw [if_neg (show ¬ (false = true) by decide)] at H
         (try dsimp only at H)
         first | exact (laws_FnThreshold.j0_dead H HRT.out).elim | exact (laws_FnThreshold.j4_dead H HRT.out).elim | exact (laws_FnThreshold.j5_dead H HRT.out).elim | exact (laws_FnThreshold.j1_dead H HRT.out).elim
       case rest =>
        as_aux_lemma =>
        clear HC46; (try clear c1); (try clear c2); (try clear p2); (try clear c3); (try clear c4); (try clear c5); (try clear c6); (try clear c7); (try clear c8); (try clear c9); (try clear c12); (try clear c20); (try clear c20b0); (try clear c20b1); (try clear c20b2); (try clear c21); (try clear c21b0); (try clear c21b1); (try clear c23); (try clear c24); (try clear c24b0); (try clear c24b1); (try clear c24b2); (try clear c28); (try clear c42); (try clear c44); (try clear c50); (try clear c52); (try clear c53); (try clear c53b0); (try clear c54); (try clear c57); (try clear c58); (try clear c62)
        (try clear hcz12_0); (try clear hcz12_1); (try clear hcz14_0); (try clear hcz14_1); (try clear hcz16_0); (try clear hcz16_1); (try clear hcz18_0); (try clear hcz18_1); (try clear hcz34_0); (try clear hcz34_1); (try clear hcz51_0); (try clear hcz51_1); (try clear hcz55_0); (try clear hcz55_1); (try clear hcz56_0); (try clear hcz56_1); (try clear hcz59_0); (try clear hcz59_1); (try clear hcz60_0); (try clear hcz60_1); (try clear hcz63_0); (try clear hcz63_1); (try clear hcz64_0); (try clear hcz64_1); (try clear hfz12_0); (try clear hfz12_1); (try clear hfz14_0); (try clear hfz14_1)
        (try clear hfz16_0); (try clear hfz16_1); (try clear hfz18_0); (try clear hfz18_1); (try clear hfz34_0); (try clear hfz34_1); (try clear hfz51_0); (try clear hfz51_1); (try clear hfz55_0); (try clear hfz55_1); (try clear hfz56_0); (try clear hfz56_1); (try clear hfz59_0); (try clear hfz59_1); (try clear hfz60_0); (try clear hfz60_1); (try clear hfz63_0); (try clear hfz63_1); (try clear hfz64_0); (try clear hfz64_1); (try clear p2); obtain ⟨kq, x107_45, rfl, HA, HJ45, HO_7, HO_12, BK485, BK510, HB⟩ := hcut
        cases kq with
        | zero => exact absurd HA.out (by simp [laws_FnThreshold.j1])
        | succ kj45 =>
         have H := HA.out
         clear HA
         simp only [laws_FnThreshold.j1] at H
         by_cases c66 : x107_45 = true
         ·subst c66
          rw [if_pos rfl] at H
          (try dsimp only at H)
          exact absurd (Option.some.inj H) (by rw [HRT.out]; decide)
         ·replace c66 := Bool.eq_false_iff.mpr c66
          subst c66
          rw [if_neg (show ¬ (false = true) by decide)] at H
          (try dsimp only at H)
          have H' := A_ H
          clear H
          go_wp2
          go_loopg [16] kj45 (fun kq v16 w' => ∃ (x16_3 : Int), v16 = .int .i64 x16_3 ∧ Aside0 (laws_FnThreshold.l0 kq l0 true t491 t499 t500 x16_3 t483 t484 = some r) ∧ Aside0 (kq ≤ kj45) ∧ Aside0 (Kd.R (Kd.int .i64) 3 w' w.heap.size (fun k_ => some k_ ≠ (v501 : Value).ownBlock) (.slice Ao47 t491.length co47) t491) ∧ Aside0 (Kd.R (Kd.int .i64) 3 w' w.heap.size (fun k_ => some k_ ≠ ((.slice Ao47 t491.length co47) : Value).ownBlock) v501 t500) ∧ Aside0 (w'.heap[gb485]? = some (.cells #[.int .i64 t483, .int .i64 t484] 25 (0, 0))) ∧ Aside0 (w'.heap[gb510]? = some (.cells #[.int .i64 t507, .int .i64 t508] 25 (0, 0))) ∧ Aside0 (Below w.heap.size w w'))
          case atStart => exact ⟨(0), q1_, H', ⟨Nat.le_refl _⟩, ⟨M.Lr HO_7⟩, ⟨M.Lr HO_12⟩, ⟨M.Lb BK485⟩, ⟨M.Lb BK510⟩, ⟨M.Lw HB⟩⟩
          case round =>
           as_aux_lemma =>
           clear H'; (try clear c1); (try clear c2); (try clear p2); (try clear c3); (try clear c4); (try clear c5); (try clear c6); (try clear c7); (try clear c8); (try clear c9); (try clear c12); (try clear c20); (try clear c20b0); (try clear c20b1); (try clear c20b2); (try clear c21); (try clear c21b0); (try clear c21b1); (try clear c23); (try clear c24); (try clear c24b0); (try clear c24b1); (try clear c24b2); (try clear c28); (try clear c42); (try clear c44); (try clear c50); (try clear c52); (try clear c53); (try clear c53b0); (try clear c54); (try clear c57); (try clear c58); (try clear c62)
           (try clear c66); (try clear hcz12_0); (try clear hcz12_1); (try clear hcz14_0); (try clear hcz14_1); (try clear hcz16_0); (try clear hcz16_1); (try clear hcz18_0); (try clear hcz18_1); (try clear hcz34_0); (try clear hcz34_1); (try clear hcz51_0); (try clear hcz51_1); (try clear hcz55_0); (try clear hcz55_1); (try clear hcz56_0); (try clear hcz56_1); (try clear hcz59_0); (try clear hcz59_1); (try clear hcz60_0); (try clear hcz60_1); (try clear hcz63_0); (try clear hcz63_1); (try clear hcz64_0); (try clear hcz64_1); (try clear hfz12_0); (try clear hfz12_1); (try clear hfz14_0)
           (try clear hfz14_1); (try clear hfz16_0); (try clear hfz16_1); (try clear hfz18_0); (try clear hfz18_1); (try clear hfz34_0); (try clear hfz34_1); (try clear hfz51_0); (try clear hfz51_1); (try clear hfz55_0); (try clear hfz55_1); (try clear hfz56_0); (try clear hfz56_1); (try clear hfz59_0); (try clear hfz59_1); (try clear hfz60_0); (try clear hfz60_1); (try clear hfz63_0); (try clear hfz63_1); (try clear hfz64_0); (try clear hfz64_1); (try clear p2); obtain ⟨x16_3, rfl, HA, HK3, HO_7, HO_12, BK485, BK510, HB⟩ := hrel
           cases gk with
           | zero => exact absurd HA.out (by simp [laws_FnThreshold.l0])
           | succ k3 =>
            have H := HA.out
            clear HA
            simp only [laws_FnThreshold.l0] at H
            by_cases c67 : x16_3 < (t491.length : Int)
            ·rw [if_pos c67] at H
             have c67b0 : decide (x16_3 < (t491.length : Int)) = true := decide_eq_true c67
             clear c67; replace H := Option.bind_eq_some_iff.mp H; obtain ⟨t512, A680, H⟩ := H; (try dsimp only at H); have A68 := A_ A680; clear A680
             by_cases c69 : t512 = 1
             ·rw [if_pos c69] at H
              have c69b0 : (t512 == 1) = true := beq_iff_eq.mpr c69
              have c69b1 : (t512 != 1) = false := bne_eq_false_iff_eq.mpr c69
              clear c69
              by_cases c70 : 0 ≤ x16_3
              ·rw [if_pos c70] at H
               have c70b0 : decide (0 ≤ x16_3) = true := decide_eq_true c70
               clear c70
               by_cases c71 : (rd t491 x16_3) < 1
               ·rw [if_pos c71] at H
                have c71b0 : decide ((rd t491 x16_3) < 1) = true := decide_eq_true c71
                clear c71
                exact absurd (Option.some.inj H) (by rw [HRT.out]; decide)
               ·rw [if_neg c71] at H
                have c71b0 : decide ((rd t491 x16_3) < 1) = false := decide_eq_false c71
                clear c71
                by_cases c75 : t512 = (-1)
                ·rw [if_pos c75] at H
                 have c75b0 : (t512 == (-1)) = true := beq_iff_eq.mpr c75
                 have c75b1 : (t512 != (-1)) = false := bne_eq_false_iff_eq.mpr c75
                 clear c75
                 by_cases c76 : (rd t491 x16_3) > (-1)
                 ·rw [if_pos c76] at H
                  have c76b0 : decide ((-1) < (rd t491 x16_3)) = true := decide_eq_true c76
                  clear c76
                  exact absurd (Option.some.inj H) (by rw [HRT.out]; decide)
                 ·rw [if_neg c76] at H
                  have c76b0 : decide ((-1) < (rd t491 x16_3)) = false := decide_eq_false c76
                  clear c76
                  by_cases c80 : t512 = 0
                  ·rw [if_pos c80] at H
                   have c80b0 : (t512 == 0) = true := beq_iff_eq.mpr c80
                   have c80b1 : (t512 != 0) = false := bne_eq_false_iff_eq.mpr c80
                   clear c80
                   by_cases c81 : (rd t491 x16_3) = 0
                   ·rw [if_pos c81] at H
                    have c81b0 : ((rd t491 x16_3) == 0) = true := beq_iff_eq.mpr c81
                    have c81b1 : ((rd t491 x16_3) != 0) = false := bne_eq_false_iff_eq.mpr c81
                    clear c81
                    have H' := A_ H
                    clear H
                    have hnb82 := NB485_510.out
                    have hnc82 := NB510_485.out
                    have hcz83_0 := c20_ BK485
                    have hcz83_1 := c21_ BK485
                    have hfz83_0 := blk_frozen BK485.out 0
                    have hfz83_1 := blk_frozen BK485.out 1
                    go_wp2_with (first | ((with_reducible refine gate_callee (f := 14) rfl ?_); refine goesL_ (some 116) rfl rfl Try.func14 kr_ rfl #[.agg #[.int .i64 t483, .int .i64 t484], .int .i64 x16_3] rfl q2_ ?_; (with_reducible refine (impl_PolarityOf.calls t483 t484 x16_3 t512 _ A68.out).mono ?_); rintro e w84 ⟨rfl, hb⟩; refine ⟨_, rfl, ?_⟩; replace HO_7 := A_ (Kd.R_below (M.Lr HO_7) hb); replace HO_12 := A_ (Kd.R_below (M.Lr HO_12) hb); replace BK485 := A_ (blk_below (M.Lb BK485) hb); replace BK510 := A_ (blk_below (M.Lb BK510) hb); replace HB := A_ (below_step (M.Lw HB) hb); (try clear hb); (try clear hb2); (try clear hk); (try clear hi); have p513 : 0 ≤ (x16_3 : Int) := of_decide_eq_true q5_; have q513 : x16_3 < (t491.length : Int) := of_decide_eq_true q5_; obtain ⟨ad513, e513, hx513_0⟩ := Kd.at_int (Kd.R_reads' HO_7.out).2.2 x16_3 p513 q513; cases e513; replace p513 := eq_true p513; replace q513 := eq_true q513; have p514 : 0 ≤ (x16_3 : Int) := of_decide_eq_true q5_; have q514 : x16_3 < (t491.length : Int) := of_decide_eq_true q5_; obtain ⟨ad514, e514, hx514_0⟩ := Kd.at_int (Kd.R_reads' HO_7.out).2.2 x16_3 p514 q514; obtain rfl : ad513 = ad514 := (by injection e514); replace p514 := eq_true p514; replace q514 := eq_true q514; have p515 : 0 ≤ (x16_3 : Int) := of_decide_eq_true q5_; have q515 : x16_3 < (t491.length : Int) := of_decide_eq_true q5_; obtain ⟨ad515, e515, hx515_0⟩ := Kd.at_int (Kd.R_reads' HO_7.out).2.2 x16_3 p515 q515; obtain rfl : ad513 = ad515 := (by injection e515); replace p515 := eq_true p515; replace q515 := eq_true q515))
                    go_roundg k3
                    case measure => have := HJ8.out; have := HJ45.out; have := HK3.out; omega
                    case rel => exact ⟨(wrap64 (x16_3 + 1)), q1_, H', ⟨by have := HJ8.out; have := HJ45.out; have := HK3.out; omega⟩, ⟨M.Lr HO_7⟩, ⟨M.Lr HO_12⟩, ⟨M.Lb BK485⟩, ⟨M.Lb BK510⟩, ⟨M.Lw HB⟩⟩
                   ·rw [if_neg c81] at H
                    have c81b0 : ((rd t491 x16_3) == 0) = false := beq_eq_false_iff_ne.mpr c81
                    have c81b1 : ((rd t491 x16_3) != 0) = true := bne_iff_ne.mpr c81
                    exact absurd (Option.some.inj H) (by rw [HRT.out]; decide)
                  ·rw [if_neg c80] at H
                   have c80b0 : (t512 == 0) = false := beq_eq_false_iff_ne.mpr c80
                   have c80b1 : (t512 != 0) = true := bne_iff_ne.mpr c80
                   have H' := A_ H
                   clear H
                   have hnb88 := NB485_510.out
                   have hnc88 := NB510_485.out
                   have hcz89_0 := c20_ BK485
                   have hcz89_1 := c21_ BK485
                   have hfz89_0 := blk_frozen BK485.out 0
                   have hfz89_1 := blk_frozen BK485.out 1
                   go_wp2_with (first | ((with_reducible refine gate_callee (f := 14) rfl ?_); refine goesL_ (some 116) rfl rfl Try.func14 kr_ rfl #[.agg #[.int .i64 t483, .int .i64 t484], .int .i64 x16_3] rfl q2_ ?_; (with_reducible refine (impl_PolarityOf.calls t483 t484 x16_3 t512 _ A68.out).mono ?_); rintro e w90 ⟨rfl, hb⟩; refine ⟨_, rfl, ?_⟩; replace HO_7 := A_ (Kd.R_below (M.Lr HO_7) hb); replace HO_12 := A_ (Kd.R_below (M.Lr HO_12) hb); replace BK485 := A_ (blk_below (M.Lb BK485) hb); replace BK510 := A_ (blk_below (M.Lb BK510) hb); replace HB := A_ (below_step (M.Lw HB) hb); (try clear hb); (try clear hb2); (try clear hk); (try clear hi); have p513 : 0 ≤ (x16_3 : Int) := of_decide_eq_true q5_; have q513 : x16_3 < (t491.length : Int) := of_decide_eq_true q5_; obtain ⟨ad513, e513, hx513_0⟩ := Kd.at_int (Kd.R_reads' HO_7.out).2.2 x16_3 p513 q513; cases e513; replace p513 := eq_true p513; replace q513 := eq_true q513; have p514 : 0 ≤ (x16_3 : Int) := of_decide_eq_true q5_; have q514 : x16_3 < (t491.length : Int) := of_decide_eq_true q5_; obtain ⟨ad514, e514, hx514_0⟩ := Kd.at_int (Kd.R_reads' HO_7.out).2.2 x16_3 p514 q514; obtain rfl : ad513 = ad514 := (by injection e514); replace p514 := eq_true p514; replace q514 := eq_true q514))
                   go_roundg k3
                   case measure => have := HJ8.out; have := HJ45.out; have := HK3.out; omega
                   case rel => exact ⟨(wrap64 (x16_3 + 1)), q1_, H', ⟨by have := HJ8.out; have := HJ45.out; have := HK3.out; omega⟩, ⟨M.Lr HO_7⟩, ⟨M.Lr HO_12⟩, ⟨M.Lb BK485⟩, ⟨M.Lb BK510⟩, ⟨M.Lw HB⟩⟩
                ·rw [if_neg c75] at H
                 have c75b0 : (t512 == (-1)) = false := beq_eq_false_iff_ne.mpr c75
                 have c75b1 : (t512 != (-1)) = true := bne_iff_ne.mpr c75
                 by_cases c91 : t512 = 0
                 ·rw [if_pos c91] at H
                  have c91b0 : (t512 == 0) = true := beq_iff_eq.mpr c91
                  have c91b1 : (t512 != 0) = false := bne_eq_false_iff_eq.mpr c91
                  clear c91
                  by_cases c92 : (rd t491 x16_3) = 0
                  ·rw [if_pos c92] at H
                   have c92b0 : ((rd t491 x16_3) == 0) = true := beq_iff_eq.mpr c92
                   have c92b1 : ((rd t491 x16_3) != 0) = false := bne_eq_false_iff_eq.mpr c92
                   clear c92
                   have H' := A_ H
                   clear H
                   have hnb93 := NB485_510.out
                   have hnc93 := NB510_485.out
                   have hcz94_0 := c20_ BK485
                   have hcz94_1 := c21_ BK485
                   have hfz94_0 := blk_frozen BK485.out 0
                   have hfz94_1 := blk_frozen BK485.out 1
                   go_wp2_with (first | ((with_reducible refine gate_callee (f := 14) rfl ?_); refine goesL_ (some 116) rfl rfl Try.func14 kr_ rfl #[.agg #[.int .i64 t483, .int .i64 t484], .int .i64 x16_3] rfl q2_ ?_; (with_reducible refine (impl_PolarityOf.calls t483 t484 x16_3 t512 _ A68.out).mono ?_); rintro e w95 ⟨rfl, hb⟩; refine ⟨_, rfl, ?_⟩; replace HO_7 := A_ (Kd.R_below (M.Lr HO_7) hb); replace HO_12 := A_ (Kd.R_below (M.Lr HO_12) hb); replace BK485 := A_ (blk_below (M.Lb BK485) hb); replace BK510 := A_ (blk_below (M.Lb BK510) hb); replace HB := A_ (below_step (M.Lw HB) hb); (try clear hb); (try clear hb2); (try clear hk); (try clear hi); have p513 : 0 ≤ (x16_3 : Int) := of_decide_eq_true q5_; have q513 : x16_3 < (t491.length : Int) := of_decide_eq_true q5_; obtain ⟨ad513, e513, hx513_0⟩ := Kd.at_int (Kd.R_reads' HO_7.out).2.2 x16_3 p513 q513; cases e513; replace p513 := eq_true p513; replace q513 := eq_true q513; have p516 : 0 ≤ (x16_3 : Int) := of_decide_eq_true q5_; have q516 : x16_3 < (t491.length : Int) := of_decide_eq_true q5_; obtain ⟨ad516, e516, hx516_0⟩ := Kd.at_int (Kd.R_reads' HO_7.out).2.2 x16_3 p516 q516; obtain rfl : ad513 = ad516 := (by injection e516); replace p516 := eq_true p516; replace q516 := eq_true q516))
                   go_roundg k3
                   case measure => have := HJ8.out; have := HJ45.out; have := HK3.out; omega
                   case rel => exact ⟨(wrap64 (x16_3 + 1)), q1_, H', ⟨by have := HJ8.out; have := HJ45.out; have := HK3.out; omega⟩, ⟨M.Lr HO_7⟩, ⟨M.Lr HO_12⟩, ⟨M.Lb BK485⟩, ⟨M.Lb BK510⟩, ⟨M.Lw HB⟩⟩
                  ·rw [if_neg c92] at H
                   have c92b0 : ((rd t491 x16_3) == 0) = false := beq_eq_false_iff_ne.mpr c92
                   have c92b1 : ((rd t491 x16_3) != 0) = true := bne_iff_ne.mpr c92
                   exact absurd (Option.some.inj H) (by rw [HRT.out]; decide)
                 ·rw [if_neg c91] at H
                  have c91b0 : (t512 == 0) = false := beq_eq_false_iff_ne.mpr c91
                  have c91b1 : (t512 != 0) = true := bne_iff_ne.mpr c91
                  have H' := A_ H
                  clear H
                  have hnb99 := NB485_510.out
                  have hnc99 := NB510_485.out
                  have hcz100_0 := c20_ BK485
                  have hcz100_1 := c21_ BK485
                  have hfz100_0 := blk_frozen BK485.out 0
                  have hfz100_1 := blk_frozen BK485.out 1
                  go_wp2_with (first | ((with_reducible refine gate_callee (f := 14) rfl ?_); refine goesL_ (some 116) rfl rfl Try.func14 kr_ rfl #[.agg #[.int .i64 t483, .int .i64 t484], .int .i64 x16_3] rfl q2_ ?_; (with_reducible refine (impl_PolarityOf.calls t483 t484 x16_3 t512 _ A68.out).mono ?_); rintro e w101 ⟨rfl, hb⟩; refine ⟨_, rfl, ?_⟩; replace HO_7 := A_ (Kd.R_below (M.Lr HO_7) hb); replace HO_12 := A_ (Kd.R_below (M.Lr HO_12) hb); replace BK485 := A_ (blk_below (M.Lb BK485) hb); replace BK510 := A_ (blk_below (M.Lb BK510) hb); replace HB := A_ (below_step (M.Lw HB) hb); (try clear hb); (try clear hb2); (try clear hk); (try clear hi); have p513 : 0 ≤ (x16_3 : Int) := of_decide_eq_true q5_; have q513 : x16_3 < (t491.length : Int) := of_decide_eq_true q5_; obtain ⟨ad513, e513, hx513_0⟩ := Kd.at_int (Kd.R_reads' HO_7.out).2.2 x16_3 p513 q513; cases e513; replace p513 := eq_true p513; replace q513 := eq_true q513))
                  go_roundg k3
                  case measure => have := HJ8.out; have := HJ45.out; have := HK3.out; omega
                  case rel => exact ⟨(wrap64 (x16_3 + 1)), q1_, H', ⟨by have := HJ8.out; have := HJ45.out; have := HK3.out; omega⟩, ⟨M.Lr HO_7⟩, ⟨M.Lr HO_12⟩, ⟨M.Lb BK485⟩, ⟨M.Lb BK510⟩, ⟨M.Lw HB⟩⟩
              ·rw [if_neg c70] at H
               exact absurd H (by simp)
             ·rw [if_neg c69] at H
              have c69b0 : (t512 == 1) = false := beq_eq_false_iff_ne.mpr c69
              have c69b1 : (t512 != 1) = true := bne_iff_ne.mpr c69
              by_cases c102 : t512 = (-1)
              ·rw [if_pos c102] at H
               have c102b0 : (t512 == (-1)) = true := beq_iff_eq.mpr c102
               have c102b1 : (t512 != (-1)) = false := bne_eq_false_iff_eq.mpr c102
               clear c102
               by_cases c103 : 0 ≤ x16_3
               ·rw [if_pos c103] at H
                have c103b0 : decide (0 ≤ x16_3) = true := decide_eq_true c103
                clear c103
                by_cases c104 : (rd t491 x16_3) > (-1)
                ·rw [if_pos c104] at H
                 have c104b0 : decide ((-1) < (rd t491 x16_3)) = true := decide_eq_true c104
                 clear c104
                 exact absurd (Option.some.inj H) (by rw [HRT.out]; decide)
                ·rw [if_neg c104] at H
                 have c104b0 : decide ((-1) < (rd t491 x16_3)) = false := decide_eq_false c104
                 clear c104
                 by_cases c108 : t512 = 0
                 ·rw [if_pos c108] at H
                  have c108b0 : (t512 == 0) = true := beq_iff_eq.mpr c108
                  have c108b1 : (t512 != 0) = false := bne_eq_false_iff_eq.mpr c108
                  clear c108
                  by_cases c109 : (rd t491 x16_3) = 0
                  ·rw [if_pos c109] at H
                   have c109b0 : ((rd t491 x16_3) == 0) = true := beq_iff_eq.mpr c109
                   have c109b1 : ((rd t491 x16_3) != 0) = false := bne_eq_false_iff_eq.mpr c109
                   clear c109
                   have H' := A_ H
                   clear H
                   have hnb110 := NB485_510.out
                   have hnc110 := NB510_485.out
                   have hcz111_0 := c20_ BK485
                   have hcz111_1 := c21_ BK485
                   have hfz111_0 := blk_frozen BK485.out 0
                   have hfz111_1 := blk_frozen BK485.out 1
                   go_wp2_with (first | ((with_reducible refine gate_callee (f := 14) rfl ?_); refine goesL_ (some 116) rfl rfl Try.func14 kr_ rfl #[.agg #[.int .i64 t483, .int .i64 t484], .int .i64 x16_3] rfl q2_ ?_; (with_reducible refine (impl_PolarityOf.calls t483 t484 x16_3 t512 _ A68.out).mono ?_); rintro e w112 ⟨rfl, hb⟩; refine ⟨_, rfl, ?_⟩; replace HO_7 := A_ (Kd.R_below (M.Lr HO_7) hb); replace HO_12 := A_ (Kd.R_below (M.Lr HO_12) hb); replace BK485 := A_ (blk_below (M.Lb BK485) hb); replace BK510 := A_ (blk_below (M.Lb BK510) hb); replace HB := A_ (below_step (M.Lw HB) hb); (try clear hb); (try clear hb2); (try clear hk); (try clear hi); have p517 : 0 ≤ (x16_3 : Int) := of_decide_eq_true q5_; have q517 : x16_3 < (t491.length : Int) := of_decide_eq_true q5_; obtain ⟨ad517, e517, hx517_0⟩ := Kd.at_int (Kd.R_reads' HO_7.out).2.2 x16_3 p517 q517; cases e517; replace p517 := eq_true p517; replace q517 := eq_true q517; have p518 : 0 ≤ (x16_3 : Int) := of_decide_eq_true q5_; have q518 : x16_3 < (t491.length : Int) := of_decide_eq_true q5_; obtain ⟨ad518, e518, hx518_0⟩ := Kd.at_int (Kd.R_reads' HO_7.out).2.2 x16_3 p518 q518; obtain rfl : ad517 = ad518 := (by injection e518); replace p518 := eq_true p518; replace q518 := eq_true q518))
                   go_roundg k3
                   case measure => have := HJ8.out; have := HJ45.out; have := HK3.out; omega
                   case rel => exact ⟨(wrap64 (x16_3 + 1)), q1_, H', ⟨by have := HJ8.out; have := HJ45.out; have := HK3.out; omega⟩, ⟨M.Lr HO_7⟩, ⟨M.Lr HO_12⟩, ⟨M.Lb BK485⟩, ⟨M.Lb BK510⟩, ⟨M.Lw HB⟩⟩
                  ·rw [if_neg c109] at H
                   have c109b0 : ((rd t491 x16_3) == 0) = false := beq_eq_false_iff_ne.mpr c109
                   have c109b1 : ((rd t491 x16_3) != 0) = true := bne_iff_ne.mpr c109
                   exact absurd (Option.some.inj H) (by rw [HRT.out]; decide)
                 ·rw [if_neg c108] at H
                  have c108b0 : (t512 == 0) = false := beq_eq_false_iff_ne.mpr c108
                  have c108b1 : (t512 != 0) = true := bne_iff_ne.mpr c108
                  have H' := A_ H
                  clear H
                  have hnb116 := NB485_510.out
                  have hnc116 := NB510_485.out
                  have hcz117_0 := c20_ BK485
                  have hcz117_1 := c21_ BK485
                  have hfz117_0 := blk_frozen BK485.out 0
                  have hfz117_1 := blk_frozen BK485.out 1
                  go_wp2_with (first | ((with_reducible refine gate_callee (f := 14) rfl ?_); refine goesL_ (some 116) rfl rfl Try.func14 kr_ rfl #[.agg #[.int .i64 t483, .int .i64 t484], .int .i64 x16_3] rfl q2_ ?_; (with_reducible refine (impl_PolarityOf.calls t483 t484 x16_3 t512 _ A68.out).mono ?_); rintro e w118 ⟨rfl, hb⟩; refine ⟨_, rfl, ?_⟩; replace HO_7 := A_ (Kd.R_below (M.Lr HO_7) hb); replace HO_12 := A_ (Kd.R_below (M.Lr HO_12) hb); replace BK485 := A_ (blk_below (M.Lb BK485) hb); replace BK510 := A_ (blk_below (M.Lb BK510) hb); replace HB := A_ (below_step (M.Lw HB) hb); (try clear hb); (try clear hb2); (try clear hk); (try clear hi); have p517 : 0 ≤ (x16_3 : Int) := of_decide_eq_true q5_; have q517 : x16_3 < (t491.length : Int) := of_decide_eq_true q5_; obtain ⟨ad517, e517, hx517_0⟩ := Kd.at_int (Kd.R_reads' HO_7.out).2.2 x16_3 p517 q517; cases e517; replace p517 := eq_true p517; replace q517 := eq_true q517))
                  go_roundg k3
                  case measure => have := HJ8.out; have := HJ45.out; have := HK3.out; omega
                  case rel => exact ⟨(wrap64 (x16_3 + 1)), q1_, H', ⟨by have := HJ8.out; have := HJ45.out; have := HK3.out; omega⟩, ⟨M.Lr HO_7⟩, ⟨M.Lr HO_12⟩, ⟨M.Lb BK485⟩, ⟨M.Lb BK510⟩, ⟨M.Lw HB⟩⟩
               ·rw [if_neg c103] at H
                exact absurd H (by simp)
              ·rw [if_neg c102] at H
               have c102b0 : (t512 == (-1)) = false := beq_eq_false_iff_ne.mpr c102
               have c102b1 : (t512 != (-1)) = true := bne_iff_ne.mpr c102
               by_cases c119 : t512 = 0
               ·rw [if_pos c119] at H
                have c119b0 : (t512 == 0) = true := beq_iff_eq.mpr c119
                have c119b1 : (t512 != 0) = false := bne_eq_false_iff_eq.mpr c119
                clear c119
                by_cases c120 : 0 ≤ x16_3
                ·rw [if_pos c120] at H
                 have c120b0 : decide (0 ≤ x16_3) = true := decide_eq_true c120
                 clear c120
                 by_cases c121 : (rd t491 x16_3) = 0
                 ·rw [if_pos c121] at H
                  have c121b0 : ((rd t491 x16_3) == 0) = true := beq_iff_eq.mpr c121
                  have c121b1 : ((rd t491 x16_3) != 0) = false := bne_eq_false_iff_eq.mpr c121
                  clear c121
                  have H' := A_ H
                  clear H
                  have hnb122 := NB485_510.out
                  have hnc122 := NB510_485.out
                  have hcz123_0 := c20_ BK485
                  have hcz123_1 := c21_ BK485
                  have hfz123_0 := blk_frozen BK485.out 0
                  have hfz123_1 := blk_frozen BK485.out 1
                  go_wp2_with (first | ((with_reducible refine gate_callee (f := 14) rfl ?_); refine goesL_ (some 116) rfl rfl Try.func14 kr_ rfl #[.agg #[.int .i64 t483, .int .i64 t484], .int .i64 x16_3] rfl q2_ ?_; (with_reducible refine (impl_PolarityOf.calls t483 t484 x16_3 t512 _ A68.out).mono ?_); rintro e w124 ⟨rfl, hb⟩; refine ⟨_, rfl, ?_⟩; replace HO_7 := A_ (Kd.R_below (M.Lr HO_7) hb); replace HO_12 := A_ (Kd.R_below (M.Lr HO_12) hb); replace BK485 := A_ (blk_below (M.Lb BK485) hb); replace BK510 := A_ (blk_below (M.Lb BK510) hb); replace HB := A_ (below_step (M.Lw HB) hb); (try clear hb); (try clear hb2); (try clear hk); (try clear hi); have p519 : 0 ≤ (x16_3 : Int) := of_decide_eq_true q5_; have q519 : x16_3 < (t491.length : Int) := of_decide_eq_true q5_; obtain ⟨ad519, e519, hx519_0⟩ := Kd.at_int (Kd.R_reads' HO_7.out).2.2 x16_3 p519 q519; cases e519; replace p519 := eq_true p519; replace q519 := eq_true q519))
                  go_roundg k3
                  case measure => have := HJ8.out; have := HJ45.out; have := HK3.out; omega
                  case rel => exact ⟨(wrap64 (x16_3 + 1)), q1_, H', ⟨by have := HJ8.out; have := HJ45.out; have := HK3.out; omega⟩, ⟨M.Lr HO_7⟩, ⟨M.Lr HO_12⟩, ⟨M.Lb BK485⟩, ⟨M.Lb BK510⟩, ⟨M.Lw HB⟩⟩
                 ·rw [if_neg c121] at H
                  have c121b0 : ((rd t491 x16_3) == 0) = false := beq_eq_false_iff_ne.mpr c121
                  have c121b1 : ((rd t491 x16_3) != 0) = true := bne_iff_ne.mpr c121
                  exact absurd (Option.some.inj H) (by rw [HRT.out]; decide)
                ·rw [if_neg c120] at H
                 exact absurd H (by simp)
               ·rw [if_neg c119] at H
                have c119b0 : (t512 == 0) = false := beq_eq_false_iff_ne.mpr c119
                have c119b1 : (t512 != 0) = true := bne_iff_ne.mpr c119
                have H' := A_ H
                clear H
                have hnb128 := NB485_510.out
                have hnc128 := NB510_485.out
                have hcz129_0 := c20_ BK485
                have hcz129_1 := c21_ BK485
                have hfz129_0 := blk_frozen BK485.out 0
                have hfz129_1 := blk_frozen BK485.out 1
                go_wp2_with (first | ((with_reducible refine gate_callee (f := 14) rfl ?_); refine goesL_ (some 116) rfl rfl Try.func14 kr_ rfl #[.agg #[.int .i64 t483, .int .i64 t484], .int .i64 x16_3] rfl q2_ ?_; (with_reducible refine (impl_PolarityOf.calls t483 t484 x16_3 t512 _ A68.out).mono ?_); rintro e w130 ⟨rfl, hb⟩; refine ⟨_, rfl, ?_⟩; replace HO_7 := A_ (Kd.R_below (M.Lr HO_7) hb); replace HO_12 := A_ (Kd.R_below (M.Lr HO_12) hb); replace BK485 := A_ (blk_below (M.Lb BK485) hb); replace BK510 := A_ (blk_below (M.Lb BK510) hb); replace HB := A_ (below_step (M.Lw HB) hb); (try clear hb); (try clear hb2); (try clear hk); (try clear hi)))
                go_roundg k3
                case measure => have := HJ8.out; have := HJ45.out; have := HK3.out; omega
                case rel => exact ⟨(wrap64 (x16_3 + 1)), q1_, H', ⟨by have := HJ8.out; have := HJ45.out; have := HK3.out; omega⟩, ⟨M.Lr HO_7⟩, ⟨M.Lr HO_12⟩, ⟨M.Lb BK485⟩, ⟨M.Lb BK510⟩, ⟨M.Lw HB⟩⟩
            ·rw [if_neg c67] at H
             have c67b0 : decide (x16_3 < (t491.length : Int)) = false := decide_eq_false c67
             clear c67
             have H' := A_ H
             clear H
             go_wp2
             go_meet
             case rel => exact ⟨_, H', ⟨by have := HJ8.out; have := HJ45.out; have := HK3.out; first | omega | exact Nat.le_refl _⟩, ⟨by (with_reducible repeat (first | apply Kd.R_alloc | apply Kd.R_drewN | apply Kd.R_drew)); exact Kd.R_mono HO_12.out (fun _ hk => trivial)⟩, ⟨M.Lb BK485⟩, ⟨M.Lw HB⟩⟩
      ·replace c44 := Bool.eq_false_iff.mpr c44
       subst c44
       rw [if_neg (show ¬ (false = true) by decide)] at H
       (try dsimp only at H)
       have H' := A_ H
       clear H
       go_wp2
       go_meet
       case rel => exact ⟨_, H', ⟨by have := HJ8.out; first | omega | exact Nat.le_refl _⟩, ⟨by (with_reducible repeat (first | apply Kd.R_alloc | apply Kd.R_drewN | apply Kd.R_drew)); exact Kd.R_mono HO_12.out (fun _ hk => trivial)⟩, ⟨M.Lb BK485⟩, ⟨M.Lw HB⟩⟩
     case rest =>
      as_aux_lemma =>
      clear HC43; (try clear c1); (try clear c2); (try clear p2); (try clear c3); (try clear c4); (try clear c5); (try clear p5); (try clear q5); (try clear hx5); (try clear c6); (try clear p6); (try clear c7); (try clear c8); (try clear c9); (try clear c10); (try clear c11); (try clear c12); (try clear c14); (try clear c20); (try clear c20b0); (try clear c20b1); (try clear c20b2); (try clear c21); (try clear c21b0); (try clear c21b1); (try clear c23); (try clear c24); (try clear c24b0); (try clear c24b1); (try clear c24b2); (try clear c28); (try clear c42); (try clear c44); (try clear c50)
      (try clear p51); (try clear q51); (try clear hx51); (try clear c52); (try clear c53); (try clear c53b0); (try clear c54); (try clear c57); (try clear c58); (try clear c62); (try clear p64); (try clear c66); (try clear c67); (try clear c67b0); (try clear c69); (try clear c69b0); (try clear c69b1); (try clear c70); (try clear c70b0); (try clear c71); (try clear c71b0); (try clear c72); (try clear c75); (try clear c75b0); (try clear c75b1); (try clear c76); (try clear c76b0); (try clear c77); (try clear c80); (try clear c80b0); (try clear c80b1); (try clear c81); (try clear c81b0); (try clear c81b1)
      (try clear c82); (try clear c85); (try clear c88); (try clear c91); (try clear c91b0); (try clear c91b1); (try clear c92); (try clear c92b0); (try clear c92b1); (try clear c93); (try clear c96); (try clear c99); (try clear c102); (try clear c102b0); (try clear c102b1); (try clear c103); (try clear c103b0); (try clear c104); (try clear c104b0); (try clear c105); (try clear c108); (try clear c108b0); (try clear c108b1); (try clear c109); (try clear c109b0); (try clear c109b1); (try clear c110); (try clear c113); (try clear c116); (try clear c119); (try clear c119b0); (try clear c119b1)
      (try clear c120); (try clear c120b0); (try clear c121); (try clear c121b0); (try clear c121b1); (try clear c122); (try clear c125); (try clear c128); (try clear hcz100_0); (try clear hcz100_1); (try clear hcz106_0); (try clear hcz106_1); (try clear hcz111_0); (try clear hcz111_1); (try clear hcz114_0); (try clear hcz114_1); (try clear hcz117_0); (try clear hcz117_1); (try clear hcz123_0); (try clear hcz123_1); (try clear hcz126_0); (try clear hcz126_1); (try clear hcz129_0); (try clear hcz129_1); (try clear hcz12_0); (try clear hcz12_1); (try clear hcz14_0); (try clear hcz14_1); (try clear hcz16_0)
      (try clear hcz16_1); (try clear hcz18_0); (try clear hcz18_1); (try clear hcz34_0); (try clear hcz34_1); (try clear hcz51_0); (try clear hcz51_1); (try clear hcz55_0); (try clear hcz55_1); (try clear hcz56_0); (try clear hcz56_1); (try clear hcz59_0); (try clear hcz59_1); (try clear hcz60_0); (try clear hcz60_1); (try clear hcz63_0); (try clear hcz63_1); (try clear hcz64_0); (try clear hcz64_1); (try clear hcz73_0); (try clear hcz73_1); (try clear hcz78_0); (try clear hcz78_1); (try clear hcz83_0); (try clear hcz83_1); (try clear hcz86_0); (try clear hcz86_1); (try clear hcz89_0); (try clear hcz89_1)
      (try clear hcz94_0); (try clear hcz94_1); (try clear hcz97_0); (try clear hcz97_1); (try clear hfz100_0); (try clear hfz100_1); (try clear hfz106_0); (try clear hfz106_1); (try clear hfz111_0); (try clear hfz111_1); (try clear hfz114_0); (try clear hfz114_1); (try clear hfz117_0); (try clear hfz117_1); (try clear hfz123_0); (try clear hfz123_1); (try clear hfz126_0); (try clear hfz126_1); (try clear hfz129_0); (try clear hfz129_1); (try clear hfz12_0); (try clear hfz12_1); (try clear hfz14_0); (try clear hfz14_1); (try clear hfz16_0); (try clear hfz16_1); (try clear hfz18_0); (try clear hfz18_1)
      (try clear hfz34_0); (try clear hfz34_1); (try clear hfz51_0); (try clear hfz51_1); (try clear hfz55_0); (try clear hfz55_1); (try clear hfz56_0); (try clear hfz56_1); (try clear hfz59_0); (try clear hfz59_1); (try clear hfz60_0); (try clear hfz60_1); (try clear hfz63_0); (try clear hfz63_1); (try clear hfz64_0); (try clear hfz64_1); (try clear hfz73_0); (try clear hfz73_1); (try clear hfz78_0); (try clear hfz78_1); (try clear hfz83_0); (try clear hfz83_1); (try clear hfz86_0); (try clear hfz86_1); (try clear hfz89_0); (try clear hfz89_1); (try clear hfz94_0); (try clear hfz94_1); (try clear hfz97_0)
      (try clear hfz97_1); (try clear hx513_0); (try clear hx514_0); (try clear hx515_0); (try clear hx516_0); (try clear hx517_0); (try clear hx518_0); (try clear hx519_0); (try clear p2); (try clear p513); (try clear p514); (try clear p515); (try clear p516); (try clear p517); (try clear p518); (try clear p519); (try clear q513); (try clear q514); (try clear q515); (try clear q516); (try clear q517); (try clear q518); (try clear q519); obtain ⟨kq, HA, HJ42, HO_12, BK485, HB⟩ := hcut
      cases kq with
      | zero => exact absurd HA.out (by simp [laws_FnThreshold.j3])
      | succ kj42 =>
       have H := HA.out
       clear HA
       simp only [laws_FnThreshold.j3] at H
       have HC131 := A_ H; clear H
       go_upto_region 20 with (fail)
       go_cut [168] (fun v168 wc => ∃ (kq : Nat) (x168_130 : Bool), v168 = .bool x168_130 ∧ Aside0 (laws_FnThreshold.j4 kq l0 x168_130 = some r) ∧ Aside0 (kq ≤ kj42) ∧ Aside0 (wc.heap[gb485]? = some (.cells #[.int .i64 t483, .int .i64 t484] 25 (0, 0))) ∧ Aside0 (Below w.heap.size w wc))
       case first =>
        as_aux_lemma =>
        have H := HC131.out
        clear HC131
        by_cases c132 : t499 = true
        ·subst c132
         rw [if_pos rfl] at H
         (try dsimp only at H); replace H := Option.bind_eq_some_iff.mp H; obtain ⟨t520, A1330, H⟩ := H; (try dsimp only at H); have A133 := A_ A1330; clear A1330
         by_cases c134 : t520 = true
         ·subst c134
          rw [if_pos rfl] at H
          (try dsimp only at H); replace H := Option.bind_eq_some_iff.mp H; obtain ⟨t521, A1350, H⟩ := H; (try dsimp only at H); have A135 := A_ A1350; clear A1350
          by_cases c136 : t521 = true
          ·subst c136
           rw [if_pos rfl] at H
           (try dsimp only at H)
           by_cases c137 : t483 ≤ 4
           ·rw [if_pos c137] at H
            have c137b0 : decide (t483 ≤ 4) = true := decide_eq_true c137
            clear c137
            (first | rw [c137b0] | (simp only [i64_w, i32_w]; rw [c137b0]) | skip)
            have H' := A_ H
            clear H
            have hcz138_0 := c20_ BK485
            have hcz138_1 := c21_ BK485
            have hfz138_0 := blk_frozen BK485.out 0
            have hfz138_1 := blk_frozen BK485.out 1
            obtain ⟨Ao139, co139, eo139⟩ := Kd.R_slice HO_12.out
            subst eo139
            go_wp2_with (first | (go_at_call 15; (with_reducible refine (impl_IsContradiction.calls kj42 t483 t484 _ _ t500 true _ ?side1 ?side2 A133.out).mono ?_); (case side1 => repeat (first | exact (Kd.R_reads' HO_12.out).2.2 | (with_reducible refine Kd.C_alloc ?_ _) | (with_reducible refine Kd.C_drewN ?_ _) | (with_reducible refine Kd.C_drew ?_))); (case side2 => exact (Kd.R_reads' HO_12.out).2.1); rintro e w140 ⟨rfl, hb⟩; replace HO_12 := A_ (Kd.R_below (M.Lr HO_12) hb); replace BK485 := A_ (blk_below (M.Lb BK485) hb); replace HB := A_ (below_step (M.Lw HB) hb); (try clear hb); (try clear hb2); (try clear hk); (try clear hi); have hcz141_0 := c20_ BK485; have hcz141_1 := c21_ BK485; have hfz141_0 := blk_frozen BK485.out 0; have hfz141_1 := blk_frozen BK485.out 1) | (go_at_call 16; (with_reducible refine (spec_IsTable.calls t483 t484 true _ A135.out).mono ?_); rintro e w142 ⟨rfl, hb⟩; replace HO_12 := A_ (Kd.R_below (M.Lr HO_12) hb); replace BK485 := A_ (blk_below (M.Lb BK485) hb); replace HB := A_ (below_step (M.Lw HB) hb); (try clear hb); (try clear hb2); (try clear hk); (try clear hi); have hcz143_0 := c20_ BK485; have hcz143_1 := c21_ BK485; have hfz143_0 := blk_frozen BK485.out 0; have hfz143_1 := blk_frozen BK485.out 1))
            go_meet
            case rel => exact ⟨_, ((t490 == true)), q1_, H', ⟨by have := HJ8.out; have := HJ42.out; first | omega | exact Nat.le_refl _⟩, ⟨M.Lb BK485⟩, ⟨M.Lw HB⟩⟩
           ·rw [if_neg c137] at H
            have c137b0 : decide (t483 ≤ 4) = false := decide_eq_false c137
            clear c137
            (first | rw [c137b0] | (simp only [i64_w, i32_w]; rw [c137b0]) | skip)
            have H' := A_ H
            clear H
            have hcz144_0 := c20_ BK485
            have hcz144_1 := c21_ BK485
            have hfz144_0 := blk_frozen BK485.out 0
            have hfz144_1 := blk_frozen BK485.out 1
            obtain ⟨Ao145, co145, eo145⟩ := Kd.R_slice HO_12.out
            subst eo145
            go_wp2_with (first | (go_at_call 15; (with_reducible refine (impl_IsContradiction.calls kj42 t483 t484 _ _ t500 true _ ?side1 ?side2 A133.out).mono ?_); (case side1 => repeat (first | exact (Kd.R_reads' HO_12.out).2.2 | (with_reducible refine Kd.C_alloc ?_ _) | (with_reducible refine Kd.C_drewN ?_ _) | (with_reducible refine Kd.C_drew ?_))); (case side2 => exact (Kd.R_reads' HO_12.out).2.1); rintro e w146 ⟨rfl, hb⟩; replace HO_12 := A_ (Kd.R_below (M.Lr HO_12) hb); replace BK485 := A_ (blk_below (M.Lb BK485) hb); replace HB := A_ (below_step (M.Lw HB) hb); (try clear hb); (try clear hb2); (try clear hk); (try clear hi); have hcz147_0 := c20_ BK485; have hcz147_1 := c21_ BK485; have hfz147_0 := blk_frozen BK485.out 0; have hfz147_1 := blk_frozen BK485.out 1) | (go_at_call 16; (with_reducible refine (spec_IsTable.calls t483 t484 true _ A135.out).mono ?_); rintro e w148 ⟨rfl, hb⟩; replace HO_12 := A_ (Kd.R_below (M.Lr HO_12) hb); replace BK485 := A_ (blk_below (M.Lb BK485) hb); replace HB := A_ (below_step (M.Lw HB) hb); (try clear hb); (try clear hb2); (try clear hk); (try clear hi); have hcz149_0 := c20_ BK485; have hcz149_1 := c21_ BK485; have hfz149_0 := blk_frozen BK485.out 0; have hfz149_1 := blk_frozen BK485.out 1))
            go_meet
            case rel => exact ⟨_, (false), q1_, H', ⟨by have := HJ8.out; have := HJ42.out; first | omega | exact Nat.le_refl _⟩, ⟨M.Lb BK485⟩, ⟨M.Lw HB⟩⟩
          ·replace c136 := Bool.eq_false_iff.mpr c136
           subst c136
           rw [if_neg (show ¬ (false = true) by decide)] at H
           (try dsimp only at H)
           have H' := A_ H
           clear H
           have hcz150_0 := c20_ BK485
           have hcz150_1 := c21_ BK485
           have hfz150_0 := blk_frozen BK485.out 0
           have hfz150_1 := blk_frozen BK485.out 1
           obtain ⟨Ao151, co151, eo151⟩ := Kd.R_slice HO_12.out
           subst eo151
           go_wp2_with (first | (go_at_call 15; (with_reducible refine (impl_IsContradiction.calls kj42 t483 t484 _ _ t500 true _ ?side1 ?side2 A133.out).mono ?_); (case side1 => repeat (first | exact (Kd.R_reads' HO_12.out).2.2 | (with_reducible refine Kd.C_alloc ?_ _) | (with_reducible refine Kd.C_drewN ?_ _) | (with_reducible refine Kd.C_drew ?_))); (case side2 => exact (Kd.R_reads' HO_12.out).2.1); rintro e w152 ⟨rfl, hb⟩; replace HO_12 := A_ (Kd.R_below (M.Lr HO_12) hb); replace BK485 := A_ (blk_below (M.Lb BK485) hb); replace HB := A_ (below_step (M.Lw HB) hb); (try clear hb); (try clear hb2); (try clear hk); (try clear hi); have hcz153_0 := c20_ BK485; have hcz153_1 := c21_ BK485; have hfz153_0 := blk_frozen BK485.out 0; have hfz153_1 := blk_frozen BK485.out 1) | (go_at_call 16; (with_reducible refine (spec_IsTable.calls t483 t484 false _ A135.out).mono ?_); rintro e w154 ⟨rfl, hb⟩; replace HO_12 := A_ (Kd.R_below (M.Lr HO_12) hb); replace BK485 := A_ (blk_below (M.Lb BK485) hb); replace HB := A_ (below_step (M.Lw HB) hb); (try clear hb); (try clear hb2); (try clear hk); (try clear hi)))
           go_meet
           case rel => exact ⟨_, (false), q1_, H', ⟨by have := HJ8.out; have := HJ42.out; first | omega | exact Nat.le_refl _⟩, ⟨M.Lb BK485⟩, ⟨M.Lw HB⟩⟩
         ·replace c134 := Bool.eq_false_iff.mpr c134
          subst c134
          rw [if_neg (show ¬ (false = true) by decide)] at H
          (try dsimp only at H)
          first | exact (laws_FnThreshold.j0_dead H HRT.out).elim | exact (laws_FnThreshold.j4_dead H HRT.out).elim | exact (laws_FnThreshold.j5_dead H HRT.out).elim | exact (laws_FnThreshold.j1_dead H HRT.out).elim
        ·replace c132 := Bool.eq_false_iff.mpr c132
         subst c132
         rw [if_neg (show ¬ (false = true) by decide)] at H
         (try dsimp only at H); replace H := Option.bind_eq_some_iff.mp H; obtain ⟨t522, A1580, H⟩ := H; (try dsimp only at H); have A158 := A_ A1580; clear A1580
         by_cases c159 : t522 = true
         ·subst c159
          rw [if_pos rfl] at H
          (try dsimp only at H)
          by_cases c160 : t483 ≤ 4
          ·rw [if_pos c160] at H
           have c160b0 : decide (t483 ≤ 4) = true := decide_eq_true c160
           clear c160
           have H' := A_ H
           clear H
           have hcz161_0 := c20_ BK485
           have hcz161_1 := c21_ BK485
           have hfz161_0 := blk_frozen BK485.out 0
           have hfz161_1 := blk_frozen BK485.out 1
           go_wp2_with (first | (go_at_call 16; (with_reducible refine (spec_IsTable.calls t483 t484 true _ A158.out).mono ?_); rintro e w162 ⟨rfl, hb⟩; replace HO_12 := A_ (Kd.R_below (M.Lr HO_12) hb); replace BK485 := A_ (blk_below (M.Lb BK485) hb); replace HB := A_ (below_step (M.Lw HB) hb); (try clear hb); (try clear hb2); (try clear hk); (try clear hi); have hcz163_0 := c20_ BK485; have hcz163_1 := c21_ BK485; have hfz163_0 := blk_frozen BK485.out 0; have hfz163_1 := blk_frozen BK485.out 1))
           go_meet
           case rel => exact ⟨_, ((t490 == false)), q1_, H', ⟨by have := HJ8.out; have := HJ42.out; first | omega | exact Nat.le_refl _⟩, ⟨M.Lb BK485⟩, ⟨M.Lw HB⟩⟩
          ·rw [if_neg c160] at H
           have c160b0 : decide (t483 ≤ 4) = false := decide_eq_false c160
           clear c160
           have H' := A_ H
           clear H
           have hcz164_0 := c20_ BK485
           have hcz164_1 := c21_ BK485
           have hfz164_0 := blk_frozen BK485.out 0
           have hfz164_1 := blk_frozen BK485.out 1
           go_wp2_with (first | (go_at_call 16; (with_reducible refine (spec_IsTable.calls t483 t484 true _ A158.out).mono ?_); rintro e w165 ⟨rfl, hb⟩; replace HO_12 := A_ (Kd.R_below (M.Lr HO_12) hb); replace BK485 := A_ (blk_below (M.Lb BK485) hb); replace HB := A_ (below_step (M.Lw HB) hb); (try clear hb); (try clear hb2); (try clear hk); (try clear hi); have hcz166_0 := c20_ BK485; have hcz166_1 := c21_ BK485; have hfz166_0 := blk_frozen BK485.out 0; have hfz166_1 := blk_frozen BK485.out 1))
           go_meet
           case rel => exact ⟨_, (false), q1_, H', ⟨by have := HJ8.out; have := HJ42.out; first | omega | exact Nat.le_refl _⟩, ⟨M.Lb BK485⟩, ⟨M.Lw HB⟩⟩
         ·replace c159 := Bool.eq_false_iff.mpr c159
          subst c159
          rw [if_neg (show ¬ (false = true) by decide)] at H
          (try dsimp only at H)
          have H' := A_ H
          clear H
          have hcz167_0 := c20_ BK485
          have hcz167_1 := c21_ BK485
          have hfz167_0 := blk_frozen BK485.out 0
          have hfz167_1 := blk_frozen BK485.out 1
          go_wp2_with (first | (go_at_call 16; (with_reducible refine (spec_IsTable.calls t483 t484 false _ A158.out).mono ?_); rintro e w168 ⟨rfl, hb⟩; replace HO_12 := A_ (Kd.R_below (M.Lr HO_12) hb); replace BK485 := A_ (blk_below (M.Lb BK485) hb); replace HB := A_ (below_step (M.Lw HB) hb); (try clear hb); (try clear hb2); (try clear hk); (try clear hi)))
          go_meet
          case rel => exact ⟨_, (false), q1_, H', ⟨by have := HJ8.out; have := HJ42.out; first | omega | exact Nat.le_refl _⟩, ⟨M.Lb BK485⟩, ⟨M.Lw HB⟩⟩
       case rest =>
        as_aux_lemma =>
        clear HC131; (try clear c1); (try clear c2); (try clear p2); (try clear c3); (try clear c4); (try clear c5); (try clear p5); (try clear q5); (try clear hx5); (try clear c6); (try clear p6); (try clear c7); (try clear c8); (try clear c9); (try clear c10); (try clear c11); (try clear c12); (try clear c13); (try clear c14); (try clear c15); (try clear c16); (try clear c20); (try clear c20b0); (try clear c20b1); (try clear c20b2); (try clear c21); (try clear c21b0); (try clear c21b1); (try clear c23); (try clear c24); (try clear c24b0); (try clear c24b1); (try clear c24b2); (try clear c28)
        (try clear c42); (try clear c44); (try clear c50); (try clear p51); (try clear q51); (try clear hx51); (try clear c52); (try clear c53); (try clear c53b0); (try clear c54); (try clear c57); (try clear c58); (try clear c62); (try clear p64); (try clear c66); (try clear c67); (try clear c67b0); (try clear c69); (try clear c69b0); (try clear c69b1); (try clear c70); (try clear c70b0); (try clear c71); (try clear c71b0); (try clear c72); (try clear c75); (try clear c75b0); (try clear c75b1); (try clear c76); (try clear c76b0); (try clear c77); (try clear c80); (try clear c80b0); (try clear c80b1)
        (try clear c81); (try clear c81b0); (try clear c81b1); (try clear c82); (try clear c85); (try clear c88); (try clear c91); (try clear c91b0); (try clear c91b1); (try clear c92); (try clear c92b0); (try clear c92b1); (try clear c93); (try clear c96); (try clear c99); (try clear c102); (try clear c102b0); (try clear c102b1); (try clear c103); (try clear c103b0); (try clear c104); (try clear c104b0); (try clear c105); (try clear c108); (try clear c108b0); (try clear c108b1); (try clear c109); (try clear c109b0); (try clear c109b1); (try clear c110); (try clear c113); (try clear c116)
        (try clear c119); (try clear c119b0); (try clear c119b1); (try clear c120); (try clear c120b0); (try clear c121); (try clear c121b0); (try clear c121b1); (try clear c122); (try clear c125); (try clear c128); (try clear c132); (try clear c134); (try clear c136); (try clear c137); (try clear c137b0); (try clear c159); (try clear c160); (try clear c160b0); (try clear hcz100_0); (try clear hcz100_1); (try clear hcz106_0); (try clear hcz106_1); (try clear hcz111_0); (try clear hcz111_1); (try clear hcz114_0); (try clear hcz114_1); (try clear hcz117_0); (try clear hcz117_1); (try clear hcz123_0)
        (try clear hcz123_1); (try clear hcz126_0); (try clear hcz126_1); (try clear hcz129_0); (try clear hcz129_1); (try clear hcz12_0); (try clear hcz12_1); (try clear hcz138_0); (try clear hcz138_1); (try clear hcz141_0); (try clear hcz141_1); (try clear hcz143_0); (try clear hcz143_1); (try clear hcz144_0); (try clear hcz144_1); (try clear hcz147_0); (try clear hcz147_1); (try clear hcz149_0); (try clear hcz149_1); (try clear hcz14_0); (try clear hcz14_1); (try clear hcz150_0); (try clear hcz150_1); (try clear hcz153_0); (try clear hcz153_1); (try clear hcz155_0); (try clear hcz155_1)
        (try clear hcz161_0); (try clear hcz161_1); (try clear hcz163_0); (try clear hcz163_1); (try clear hcz164_0); (try clear hcz164_1); (try clear hcz166_0); (try clear hcz166_1); (try clear hcz167_0); (try clear hcz167_1); (try clear hcz16_0); (try clear hcz16_1); (try clear hcz18_0); (try clear hcz18_1); (try clear hcz34_0); (try clear hcz34_1); (try clear hcz51_0); (try clear hcz51_1); (try clear hcz55_0); (try clear hcz55_1); (try clear hcz56_0); (try clear hcz56_1); (try clear hcz59_0); (try clear hcz59_1); (try clear hcz60_0); (try clear hcz60_1); (try clear hcz63_0); (try clear hcz63_1)
        (try clear hcz64_0); (try clear hcz64_1); (try clear hcz73_0); (try clear hcz73_1); (try clear hcz78_0); (try clear hcz78_1); (try clear hcz83_0); (try clear hcz83_1); (try clear hcz86_0); (try clear hcz86_1); (try clear hcz89_0); (try clear hcz89_1); (try clear hcz94_0); (try clear hcz94_1); (try clear hcz97_0); (try clear hcz97_1); (try clear hfz100_0); (try clear hfz100_1); (try clear hfz106_0); (try clear hfz106_1); (try clear hfz111_0); (try clear hfz111_1); (try clear hfz114_0); (try clear hfz114_1); (try clear hfz117_0); (try clear hfz117_1); (try clear hfz123_0); (try clear hfz123_1)
        (try clear hfz126_0); (try clear hfz126_1); (try clear hfz129_0); (try clear hfz129_1); (try clear hfz12_0); (try clear hfz12_1); (try clear hfz138_0); (try clear hfz138_1); (try clear hfz141_0); (try clear hfz141_1); (try clear hfz143_0); (try clear hfz143_1); (try clear hfz144_0); (try clear hfz144_1); (try clear hfz147_0); (try clear hfz147_1); (try clear hfz149_0); (try clear hfz149_1); (try clear hfz14_0); (try clear hfz14_1); (try clear hfz150_0); (try clear hfz150_1); (try clear hfz153_0); (try clear hfz153_1); (try clear hfz155_0); (try clear hfz155_1); (try clear hfz161_0)
        (try clear hfz161_1); (try clear hfz163_0); (try clear hfz163_1); (try clear hfz164_0); (try clear hfz164_1); (try clear hfz166_0); (try clear hfz166_1); (try clear hfz167_0); (try clear hfz167_1); (try clear hfz16_0); (try clear hfz16_1); (try clear hfz18_0); (try clear hfz18_1); (try clear hfz34_0); (try clear hfz34_1); (try clear hfz51_0); (try clear hfz51_1); (try clear hfz55_0); (try clear hfz55_1); (try clear hfz56_0); (try clear hfz56_1); (try clear hfz59_0); (try clear hfz59_1); (try clear hfz60_0); (try clear hfz60_1); (try clear hfz63_0); (try clear hfz63_1); (try clear hfz64_0)
        (try clear hfz64_1); (try clear hfz73_0); (try clear hfz73_1); (try clear hfz78_0); (try clear hfz78_1); (try clear hfz83_0); (try clear hfz83_1); (try clear hfz86_0); (try clear hfz86_1); (try clear hfz89_0); (try clear hfz89_1); (try clear hfz94_0); (try clear hfz94_1); (try clear hfz97_0); (try clear hfz97_1); (try clear hx513_0); (try clear hx514_0); (try clear hx515_0); (try clear hx516_0); (try clear hx517_0); (try clear hx518_0); (try clear hx519_0); (try clear p2); (try clear p5); (try clear p51); (try clear p513); (try clear p514); (try clear p515); (try clear p516); (try clear p517)
        (try clear p518); (try clear p519); (try clear p6); (try clear p64); (try clear q5); (try clear q51); (try clear q513); (try clear q514); (try clear q515); (try clear q516); (try clear q517); (try clear q518); (try clear q519); obtain ⟨kq, x168_130, rfl, HA, HJ130, BK485, HB⟩ := hcut
        cases kq with
        | zero => exact absurd HA.out (by simp [laws_FnThreshold.j4])
        | succ kj130 =>
         have H := HA.out
         clear HA
         simp only [laws_FnThreshold.j4] at H
         by_cases c169 : x168_130 = true
         ·subst c169
          rw [if_pos rfl] at H
          (try dsimp only at H)
          exact absurd (Option.some.inj H) (by rw [HRT.out]; decide)
         ·replace c169 := Bool.eq_false_iff.mpr c169
          subst c169
          rw [if_neg (show ¬ (false = true) by decide)] at H
          (try dsimp only at H); replace H := Option.bind_eq_some_iff.mp H; obtain ⟨⟨t523, t524⟩, A1700, H⟩ := H; (try dsimp only at H); have A170 := A_ A1700; clear A1700; replace H := Option.bind_eq_some_iff.mp H; obtain ⟨⟨t527, t528, t529⟩, A1710, H⟩ := H; (try dsimp only at H); have A171 := A_ A1710; clear A1710; replace H := Option.bind_eq_some_iff.mp H; obtain ⟨⟨t531, t532, t533⟩, A1720, H⟩ := H; (try dsimp only at H); have A172 := A_ A1720; clear A1720; have HC173 := A_ H; clear H
          go_upto_region 25 with (first | ((with_reducible refine gate_callee (f := 17) rfl ?_); refine goesL_ (some 171) rfl rfl Try.func17 kr_ rfl #[.slice A0 l0.length c0] rfl q2_ ?_; (with_reducible refine (spec_DrawTableOfWeights.calls kj130 _ _ l0 t523 t524 _ ?side1 ?side2 A170.out).mono ?_); (case side1 => exact q14_); (case side2 => exact HC0.out); rintro e w174 ⟨v525, rfl, ho0, hb⟩; refine ⟨_, rfl, ?_⟩; have HO526 := A_ (Kd.R_lower ho0 (below_size q0_)); replace BK485 := A_ (blk_below (M.Lb BK485) hb); replace HB := A_ (below_step q0_ hb); (try clear hb); (try clear hb2); (try clear hk); (try clear hi); (try clear ho0); obtain ⟨Ao175, co175, eo175⟩ := Kd.R_slice HO526.out; subst eo175) | ((with_reducible refine gate_callee (f := 12) rfl ?_); refine goesL_ (some 177) rfl rfl Try.func12 kr_ rfl #[.slice Ao175 t523.length co175, .int .i64 t524] rfl q2_ ?_; (with_reducible refine (impl_TableOfWeights.calls _ _ t523 t524 t527 t528 t529 _ ?side1 ?side2 A171.out).mono ?_); (case side1 => repeat (first | exact (Kd.R_reads' HO526.out).2.2 | (with_reducible refine Kd.C_alloc ?_ _) | (with_reducible refine Kd.C_drewN ?_ _) | (with_reducible refine Kd.C_drew ?_))); (case side2 => exact (Kd.R_reads' HO526.out).2.1); rintro e w176 ⟨rfl, hb⟩; refine ⟨_, rfl, ?_⟩; replace HO526 := A_ (Kd.R_below (M.Lr HO526) hb); replace BK485 := A_ (blk_below (M.Lb BK485) hb); replace HB := A_ (below_step q0_ hb); (try clear hb); (try clear hb2); (try clear hk); (try clear hi)) | ((with_reducible refine gate_dst (N := 20) rfl ?_); (try (refine gate_guard (by rfl) ?_; dsimp only)); refine box_event ?hg (N := 20) ?hd (cs := #[.int .i64 0, .int .i64 0]) (t := 25) ?hr ?_; (case hd => rfl); (case hg => rfl); (case hr => first | (go_simp; done) | (go_simp; rfl)); intro gb530 hg w177 hbox hb; replace HO526 := A_ (Kd.R_below (M.Lr HO526) hb); have BK530 := A_ (hbox); have GW530 := A_ ((by rw [hg]; exact (below_size q0_) : w.heap.size ≤ gb530)); have GE530 := A_ ((by rw [hg]; exact (below_size q0_) : w.heap.size ≤ gb530)); replace HB := A_ (below_step q0_ hb); have NB485_530 := A_ ((by rw [hg]; exact Nat.ne_of_lt (blk_lt (M.Lb BK485)) : gb485 ≠ gb530)); have NB530_485 := A_ ((by rw [hg]; exact Nat.ne_of_gt (blk_lt (M.Lb BK485)) : gb530 ≠ gb485)); replace BK485 := A_ (blk_below (M.Lb BK485) hb); clear hb hbox hg; have hnb178 := NB530_485.out; have hnc178 := NB485_530.out; have hcz179_0 := c20_ BK530; have hcz179_1 := c21_ BK530; have hfz179_0 := blk_frozen BK530.out 0; have hfz179_1 := blk_frozen BK530.out 1) | ((with_reducible refine gate_callee (f := 18) rfl ?_); refine goesL_ (some 183) rfl rfl Try.func18 kr_ rfl #[.slice Ao175 t523.length co175, .int .i64 t524] rfl q2_ ?_; (with_reducible refine (spec_TableOfWeights.calls kj130 _ _ t523 t524 t531 t532 t533 _ ?side1 ?side2 A172.out).mono ?_); (case side1 => refine (Kd.R_reads' (e := 3) (base := w.heap.size) (ok := fun k_ => True) (n := t523.length) (c := co175) ?_).2.2; exact (by (with_reducible repeat (first | apply Kd.R_alloc | apply Kd.R_drewN | apply Kd.R_drew)); exact (Kd.R_mono (Kd.R_far (p := ⟨gb530, 1, none⟩) (Kd.R_far (p := ⟨gb530, 0, none⟩) (Kd.R_types HO526.out BK530.out (by decide)) (fun _ hk => hk.2) (.int .i64 t527)) (fun _ hk => hk.2) (.int .i64 t528)) (fun _ h_ => h_.1)))); (case side2 => exact (Kd.R_reads' HO526.out).2.1); rintro e w180 ⟨rfl, hb⟩; refine ⟨_, rfl, ?_⟩; replace HO526 := A_ (Kd.R_below (by (with_reducible repeat (first | apply Kd.R_alloc | apply Kd.R_drewN | apply Kd.R_drew)); exact (Kd.R_mono (Kd.R_far (p := ⟨gb530, 1, none⟩) (Kd.R_far (p := ⟨gb530, 0, none⟩) (Kd.R_types HO526.out BK530.out (by decide)) (fun _ hk => hk.2) (.int .i64 t527)) (fun _ hk => hk.2) (.int .i64 t528)) (fun _ h_ => h_.1))) hb); replace BK485 := A_ (blk_below (g := gb485) (o := .cells #[.int .i64 t483, .int .i64 t484] 25 (0, 0)) (by (with_reducible repeat (first | refine blk_drewN ?_ _ | refine blk_drew ?_ | refine blk_alloc ?_ _)); refine blk_far ?_ NB485_530.out _; (with_reducible repeat (first | refine blk_drewN ?_ _ | refine blk_drew ?_ | refine blk_alloc ?_ _)); refine blk_far ?_ NB485_530.out _; (with_reducible repeat (first | refine blk_drewN ?_ _ | refine blk_drew ?_ | refine blk_alloc ?_ _)); exact BK485.out) hb); replace BK530 := A_ (blk_below (g := gb530) (o := .cells #[.int .i64 t527, .int .i64 t528] 25 (0, 0)) (by (with_reducible repeat (first | refine blk_drewN ?_ _ | refine blk_drew ?_ | refine blk_alloc ?_ _)); refine blk_put (cs := #[.int .i64 t527, .int .i64 0]) ?_ 1 _ rfl; (with_reducible repeat (first | refine blk_drewN ?_ _ | refine blk_drew ?_ | refine blk_alloc ?_ _)); refine blk_put (cs := #[.int .i64 0, .int .i64 0]) ?_ 0 _ rfl; (with_reducible repeat (first | refine blk_drewN ?_ _ | refine blk_drew ?_ | refine blk_alloc ?_ _)); exact BK530.out) hb); replace HB := A_ (below_step q0_ hb); (try clear hb); (try clear hb2); (try clear hk); (try clear hi)) | ((with_reducible refine gate_dst (N := 22) rfl ?_); (try (refine gate_guard (by rfl) ?_; dsimp only)); refine box_event ?hg (N := 22) ?hd (cs := #[.int .i64 0, .int .i64 0]) (t := 25) ?hr ?_; (case hd => rfl); (case hg => rfl); (case hr => first | (go_simp; done) | (go_simp; rfl)); intro gb534 hg w181 hbox hb; replace HO526 := A_ (Kd.R_below (M.Lr HO526) hb); have BK534 := A_ (hbox); have GW534 := A_ ((by rw [hg]; exact (below_size q0_) : w.heap.size ≤ gb534)); have GE534 := A_ ((by rw [hg]; exact (below_size q0_) : w.heap.size ≤ gb534)); replace HB := A_ (below_step q0_ hb); have NB485_534 := A_ ((by rw [hg]; exact Nat.ne_of_lt (blk_lt (M.Lb BK485)) : gb485 ≠ gb534)); have NB534_485 := A_ ((by rw [hg]; exact Nat.ne_of_gt (blk_lt (M.Lb BK485)) : gb534 ≠ gb485)); replace BK485 := A_ (blk_below (M.Lb BK485) hb); have NB530_534 := A_ ((by rw [hg]; exact Nat.ne_of_lt (blk_lt (M.Lb BK530)) : gb530 ≠ gb534)); have NB534_530 := A_ ((by rw [hg]; exact Nat.ne_of_gt (blk_lt (M.Lb BK530)) : gb534 ≠ gb530)); replace BK530 := A_ (blk_below (M.Lb BK530) hb); clear hb hbox hg; have hnb182 := NB534_485.out; have hnc182 := NB485_534.out; have hnb183 := NB534_530.out; have hnc183 := NB530_534.out; have hcz184_0 := c20_ BK534; have hcz184_1 := c21_ BK534; have hfz184_0 := blk_frozen BK534.out 0; have hfz184_1 := blk_frozen BK534.out 1))
          (try simp only [Act.put, M.sT_, M.s0_, M.s1_])
          go_cut [204] (fun v204 wc => ∃ (kq : Nat) (x204_172 : Bool), v204 = .bool x204_172 ∧ Aside0 (laws_FnThreshold.j5 kq l0 x204_172 = some r) ∧ Aside0 (kq ≤ kj130) ∧ Aside0 (wc.heap[gb485]? = some (.cells #[.int .i64 t483, .int .i64 t484] 25 (0, 0))) ∧ Aside0 (wc.heap[gb530]? = some (.cells #[.int .i64 t527, .int .i64 t528] 25 (0, 0))) ∧ Aside0 (wc.heap[gb534]? = some (.cells #[.int .i64 t531, .int .i64 t532] 25 (0, 0))) ∧ Aside0 (Below w.heap.size w wc))
          case first =>
           as_aux_lemma =>
           have H := HC173.out
           clear HC173
           by_cases c185 : (!(t527 == t531) || (!(t528 == t532))) = true
           ·rw [if_pos c185] at H
            have c185b0 : (!(t527 == t531) || (!(t528 == t532))) = true := c185
            clear c185
            (first | rw [c185b0] | (simp only [i64_w, i32_w]; rw [c185b0]) | skip)
            first | exact (laws_FnThreshold.j0_dead H HRT.out).elim | exact (laws_FnThreshold.j4_dead H HRT.out).elim | exact (laws_FnThreshold.j5_dead H HRT.out).elim | exact (laws_FnThreshold.j1_dead H HRT.out).elim
           ·rw [if_neg c185] at H
            have c185b0 : (!(t527 == t531) || (!(t528 == t532))) = false := by simpa using c185
            clear c185
            (first | rw [c185b0] | (simp only [i64_w, i32_w]; rw [c185b0]) | skip)
            by_cases c188 : (t529 != t533) = true
            ·rw [if_pos c188] at H
             have c188b0 : (t529 != t533) = true := c188
             (try (have c188b1 : decide (t529 = t533) = false := by simpa using c188))
             (try (have c188b2 : (t529 == t533) = false := by simpa using c188))
             (try (have c188b3 : ¬ (t529 = t533) := by simpa using c188))
             clear c188
             first | exact (laws_FnThreshold.j0_dead H HRT.out).elim | exact (laws_FnThreshold.j4_dead H HRT.out).elim | exact (laws_FnThreshold.j5_dead H HRT.out).elim | exact (laws_FnThreshold.j1_dead H HRT.out).elim
            ·rw [if_neg c188] at H
             have c188b0 : (t529 != t533) = false := by simpa using c188
             (try (have c188b1 : decide (t529 = t533) = true := by simpa using c188))
             (try (have c188b2 : (t529 == t533) = true := by simpa using c188))
             clear c188
             by_cases c191 : t529 = true
             ·subst c191
              rw [if_pos rfl] at H
              (try dsimp only at H); replace H := Option.bind_eq_some_iff.mp H; obtain ⟨t535, A1920, H⟩ := H
              replace H : (laws_FnThreshold.j5 kj130 l0 (t535 != (decide (t531 ≤ 4)))) = some r := H
              have A192 := A_ A1920; clear A1920
              have H' := A_ H
              clear H
              try go_wp2
              have n0_ : Aside0 (Kd.R (Kd.int .i64) 3 ((w181.setCell ⟨gb534, 0, none⟩ (.int .i64 t531)).setCell ⟨gb534, 1, none⟩ (.int .i64 t532)) w.heap.size (fun _ => True) (.slice Ao175 t523.length co175) t523) := ⟨by (with_reducible repeat (first | apply Kd.R_alloc | apply Kd.R_drewN | apply Kd.R_drew)); exact Kd.R_mono (Kd.R_far (p := ⟨gb534, 1, none⟩) (Kd.R_far (p := ⟨gb534, 0, none⟩) (Kd.R_types HO526.out BK534.out (by decide)) (fun _ hk => hk.2) (.int .i64 t531)) (fun _ hk => hk.2) (.int .i64 t532)) (fun _ hk => trivial)⟩
              have n1_ : Aside0 (((w181.setCell ⟨gb534, 0, none⟩ (.int .i64 t531)).setCell ⟨gb534, 1, none⟩ (.int .i64 t532)).heap[gb485]? = some (.cells #[.int .i64 t483, .int .i64 t484] 25 (0, 0))) := ⟨by (with_reducible repeat (first | refine blk_drewN ?_ _ | refine blk_drew ?_ | refine blk_alloc ?_ _)); refine blk_far ?_ NB485_534.out _; (with_reducible repeat (first | refine blk_drewN ?_ _ | refine blk_drew ?_ | refine blk_alloc ?_ _)); refine blk_far ?_ NB485_534.out _; (with_reducible repeat (first | refine blk_drewN ?_ _ | refine blk_drew ?_ | refine blk_alloc ?_ _)); exact BK485.out⟩
              have n2_ : Aside0 (((w181.setCell ⟨gb534, 0, none⟩ (.int .i64 t531)).setCell ⟨gb534, 1, none⟩ (.int .i64 t532)).heap[gb530]? = some (.cells #[.int .i64 t527, .int .i64 t528] 25 (0, 0))) := ⟨by (with_reducible repeat (first | refine blk_drewN ?_ _ | refine blk_drew ?_ | refine blk_alloc ?_ _)); refine blk_far ?_ NB530_534.out _; (with_reducible repeat (first | refine blk_drewN ?_ _ | refine blk_drew ?_ | refine blk_alloc ?_ _)); refine blk_far ?_ NB530_534.out _; (with_reducible repeat (first | refine blk_drewN ?_ _ | refine blk_drew ?_ | refine blk_alloc ?_ _)); exact BK530.out⟩
              have n3_ : Aside0 (((w181.setCell ⟨gb534, 0, none⟩ (.int .i64 t531)).setCell ⟨gb534, 1, none⟩ (.int .i64 t532)).heap[gb534]? = some (.cells #[.int .i64 t531, .int .i64 t532] 25 (0, 0))) := ⟨by (with_reducible repeat (first | refine blk_drewN ?_ _ | refine blk_drew ?_ | refine blk_alloc ?_ _)); refine blk_put (cs := #[.int .i64 t531, .int .i64 0]) ?_ 1 _ rfl; (with_reducible repeat (first | refine blk_drewN ?_ _ | refine blk_drew ?_ | refine blk_alloc ?_ _)); refine blk_put (cs := #[.int .i64 0, .int .i64 0]) ?_ 0 _ rfl; (with_reducible repeat (first | refine blk_drewN ?_ _ | refine blk_drew ?_ | refine blk_alloc ?_ _)); exact BK534.out⟩
              have n4_ : Aside0 (Below w.heap.size w ((w181.setCell ⟨gb534, 0, none⟩ (.int .i64 t531)).setCell ⟨gb534, 1, none⟩ (.int .i64 t532))) := ⟨q0_⟩
              (try clear HO526); (try clear BK485); (try clear BK530); (try clear BK534); (try clear HB)
              generalize ((w181.setCell ⟨gb534, 0, none⟩ (.int .i64 t531)).setCell ⟨gb534, 1, none⟩ (.int .i64 t532)) = w193 at n0_ n1_ n2_ n3_ n4_ ⊢
              have HO526 := n0_; have BK485 := n1_; have BK530 := n2_; have BK534 := n3_; have HB := n4_; clear n0_ n1_ n2_ n3_ n4_
              have n0_ := A_ (Kd.R_drew HO526.out)
              have n1_ := A_ (blk_drew BK485.out)
              have n2_ := A_ (blk_drew BK530.out)
              have n3_ := A_ (blk_drew BK534.out)
              have n4_ := A_ (below_drew1 HB.out)
              clear HO526; clear BK485; clear BK530; clear BK534; clear HB; have HO526 := n0_; have BK485 := n1_; have BK530 := n2_; have BK534 := n3_; have HB := n4_; clear n0_ n1_ n2_ n3_ n4_
              refine start_ (n := 19) (S := fun w' => w'.cell? ⟨gb530, 0, none⟩ = some (.int .i64 t527) ∧ w'.cell? ⟨gb530, 1, none⟩ = some (.int .i64 t528) ∧ w'.cell? ⟨gb534, 0, none⟩ = some (.int .i64 t531) ∧ w'.cell? ⟨gb534, 1, none⟩ = some (.int .i64 t532)) (ds := []) #[false, false, false, false, false, false, false, false, false, false, false, false, false, false, false, false, false, false, false] kr_ rfl rfl ⟨(blk_cell BK530.out 0).trans rfl, (blk_cell BK530.out 1).trans rfl, (blk_cell BK534.out 0).trans rfl, (blk_cell BK534.out 1).trans rfl⟩ (fun hHeld => ?_); refine with_tabW laws_FnThreshold.tab25 laws_FnThreshold.bits25 (fun HT_ HW_ => ?_)
              generalize w193.drew = w194 at HO526 BK485 BK530 BK534 HB hHeld ⊢
              refine take_ (i := 0) (N := some 186) (v := ?_) (a' := ?_) #[true, false, false, false, false, false, false, false, false, false, false, false, false, false, false, false, false, false, false] rfl rfl (take_ofW HT_.out HW_.out kr_) (fun _ _ _ h => h) (Or.inl ⟨by rfl, ?_⟩) hHeld ?_ ?_
              rotate_left
              ·rintro w' ⟨s0, s1, s2, s3⟩
               go_simp; with_reducible rfl
              rotate_left
              ·simp only [Act.put, M.sT_, M.s0_, M.s1_, i64_w, i32_w]; rfl
              refine take_ (i := 1) (N := some 187) (v := ?_) (a' := ?_) #[true, true, false, false, false, false, false, false, false, false, false, false, false, false, false, false, false, false, false] rfl rfl (take_ofW HT_.out HW_.out kr_) (fun _ _ _ h => h) (Or.inl ⟨by rfl, ?_⟩) hHeld ?_ ?_
              rotate_left
              ·rintro w' ⟨s0, s1, s2, s3⟩
               go_simp; with_reducible rfl
              rotate_left
              ·simp only [Act.put, M.sT_, M.s0_, M.s1_, i64_w, i32_w]; rfl
              refine pure_ (i := 2) (N := some 188) (v := ?_) (a' := ?_) #[true, true, true, false, false, false, false, false, false, false, false, false, false, false, false, false, false, false, false] rfl rfl (any_of HT_.out kr_) (fun _ _ _ h => h) (Or.inl ⟨by rfl, ?_⟩) ?_ ?_; rotate_left
              ·intro w'; go_simp; with_reducible rfl
              rotate_left
              ·simp only [Act.put, M.sT_, M.s0_, M.s1_, i64_w, i32_w]; rfl
              refine pure_ (i := 3) (N := some 189) (v := ?_) (a' := ?_) #[true, true, true, true, false, false, false, false, false, false, false, false, false, false, false, false, false, false, false] rfl rfl (any_of HT_.out kr_) (fun _ _ _ h => h) (Or.inl ⟨by rfl, ?_⟩) ?_ ?_; rotate_left
              ·intro w'; go_simp; with_reducible rfl
              rotate_left
              ·simp only [Act.put, M.sT_, M.s0_, M.s1_, i64_w, i32_w]; rfl
              refine pure_ (i := 4) (N := some 190) (v := ?_) (a' := ?_) #[true, true, true, true, true, false, false, false, false, false, false, false, false, false, false, false, false, false, false] rfl rfl (any_of HT_.out kr_) (fun _ _ _ h => h) (Or.inl ⟨by rfl, ?_⟩) ?_ ?_; rotate_left
              ·intro w'; go_simp; with_reducible rfl
              rotate_left
              ·simp only [Act.put, M.sT_, M.s0_, M.s1_, i64_w, i32_w]; rfl
              refine pure_ (i := 5) (N := some 191) (v := ?_) (a' := ?_) #[true, true, true, true, true, true, false, false, false, false, false, false, false, false, false, false, false, false, false] rfl rfl (any_of HT_.out kr_) (fun _ _ _ h => h) (Or.inl ⟨by rfl, ?_⟩) ?_ ?_; rotate_left
              ·intro w'; go_simp; with_reducible rfl
              rotate_left
              ·simp only [Act.put, M.sT_, M.s0_, M.s1_, i64_w, i32_w]; rfl
              refine pure_ (i := 6) (N := some 192) (v := ?_) (a' := ?_) #[true, true, true, true, true, true, true, false, false, false, false, false, false, false, false, false, false, false, false] rfl rfl (any_of HT_.out kr_) (fun _ _ _ h => h) (Or.inl ⟨by rfl, ?_⟩) ?_ ?_; rotate_left
              ·intro w'; go_simp; with_reducible rfl
              rotate_left
              ·simp only [Act.put, M.sT_, M.s0_, M.s1_, i64_w, i32_w]; rfl
              refine pure_ (i := 7) (N := some 193) (v := ?_) (a' := ?_) #[true, true, true, true, true, true, true, true, false, false, false, false, false, false, false, false, false, false, false] rfl rfl (any_of HT_.out kr_) (fun _ _ _ h => h) (Or.inl ⟨by rfl, ?_⟩) ?_ ?_; rotate_left
              ·intro w'; go_simp; with_reducible rfl
              rotate_left
              ·simp only [Act.put, M.sT_, M.s0_, M.s1_, i64_w, i32_w]; rfl
              refine pure_ (i := 8) (N := some 194) (v := ?_) (a' := ?_) #[true, true, true, true, true, true, true, true, true, false, false, false, false, false, false, false, false, false, false] rfl rfl (any_of HT_.out kr_) (fun _ _ _ h => h) (Or.inl ⟨by rfl, ?_⟩) ?_ ?_; rotate_left
              ·intro w'; go_simp; with_reducible rfl
              rotate_left
              ·simp only [Act.put, M.sT_, M.s0_, M.s1_, i64_w, i32_w]; rfl
              refine pure_ (i := 9) (N := some 195) (v := ?_) (a' := ?_) #[true, true, true, true, true, true, true, true, true, true, false, false, false, false, false, false, false, false, false] rfl rfl (any_of HT_.out kr_) (fun _ _ _ h => h) (Or.inl ⟨by rfl, ?_⟩) ?_ ?_; rotate_left
              ·intro w'; go_simp; with_reducible rfl
              rotate_left
              ·simp only [Act.put, M.sT_, M.s0_, M.s1_, i64_w, i32_w]; rfl
              refine pure_ (i := 10) (N := some 196) (v := ?_) (a' := ?_) #[true, true, true, true, true, true, true, true, true, true, true, false, false, false, false, false, false, false, false] rfl rfl (any_of HT_.out kr_) (fun _ _ _ h => h) (Or.inl ⟨by rfl, ?_⟩) ?_ ?_; rotate_left
              ·intro w'; go_simp; with_reducible rfl
              rotate_left
              ·simp only [Act.put, M.sT_, M.s0_, M.s1_, i64_w, i32_w]; rfl
              refine pure_ (i := 13) (N := some 199) (v := ?_) (a' := ?_) #[true, true, true, true, true, true, true, true, true, true, true, false, false, true, false, false, false, false, false] rfl rfl (any_of HT_.out kr_) (fun _ _ _ h => h) (Or.inl ⟨by rfl, ?_⟩) ?_ ?_; rotate_left
              ·intro w'; go_simp; with_reducible rfl
              rotate_left
              ·simp only [Act.put, M.sT_, M.s0_, M.s1_, i64_w, i32_w]; rfl
              refine take_ (i := 11) (N := some 197) (v := ?_) (a' := ?_) #[true, true, true, true, true, true, true, true, true, true, true, true, false, true, false, false, false, false, false] rfl rfl (take_ofW HT_.out HW_.out kr_) (fun _ _ _ h => h) (Or.inl ⟨by rfl, ?_⟩) hHeld ?_ ?_
              rotate_left
              ·rintro w' ⟨s0, s1, s2, s3⟩
               go_simp; with_reducible rfl
              rotate_left
              ·simp only [Act.put, M.sT_, M.s0_, M.s1_, i64_w, i32_w]; rfl
              refine take_ (i := 14) (N := some 200) (v := ?_) (a' := ?_) #[true, true, true, true, true, true, true, true, true, true, true, true, false, true, true, false, false, false, false] rfl rfl (take_ofW HT_.out HW_.out kr_) (fun _ _ _ h => h) (Or.inl ⟨by rfl, ?_⟩) hHeld ?_ ?_
              rotate_left
              ·rintro w' ⟨s0, s1, s2, s3⟩
               go_simp; with_reducible rfl
              rotate_left
              ·simp only [Act.put, M.sT_, M.s0_, M.s1_, i64_w, i32_w]; rfl
              refine pure_ (i := 15) (N := some 201) (v := ?_) (a' := ?_) #[true, true, true, true, true, true, true, true, true, true, true, true, false, true, true, true, false, false, false] rfl rfl (any_of HT_.out kr_) (fun _ _ _ h => h) (Or.inl ⟨by rfl, ?_⟩) ?_ ?_; rotate_left
              ·intro w'; go_simp; with_reducible rfl
              rotate_left
              ·simp only [Act.put, M.sT_, M.s0_, M.s1_, i64_w, i32_w]; rfl
              refine one_ (i := 12) (N := some 198) #[true, true, true, true, true, true, true, true, true, true, true, true, true, true, true, true, false, false, false] rfl rfl (one_of HT_.out kr_) (by decide) (fun K hK => ?_)
              refine goes_ Try.func11 kr_ rfl #[.agg #[.int .i64 t531, .int .i64 t532]] (by rfl) rfl rfl q2_ ?_
              with_reducible refine (impl_IsThreshold.calls kj130 t531 t532 t535 _ A192.out).mono ?_
              rintro e w195 ⟨rfl, hb⟩
              refine ⟨_, rfl, ?_⟩
              have n0_ := A_ (Kd.R_below (M.Lr HO526) hb)
              have n1_ := A_ (blk_below (M.Lb BK485) hb)
              have n2_ := A_ (blk_below (M.Lb BK530) hb)
              have n3_ := A_ (blk_below (M.Lb BK534) hb)
              have n4_ := A_ (below_step (M.Lw HB) hb)
              clear HO526; clear BK485; clear BK530; clear BK534; clear HB; have HO526 := n0_; have BK485 := n1_; have BK530 := n2_; have BK534 := n3_; have HB := n4_; clear n0_ n1_ n2_ n3_ n4_; (try clear hb); (try clear hb2); (try clear hk); (try clear hi)
              refine hK.out _ _ ⟨(blk_cell BK530.out 0).trans rfl, (blk_cell BK530.out 1).trans rfl, (blk_cell BK534.out 0).trans rfl, (blk_cell BK534.out 1).trans rfl⟩ (fun hHeld => ?_)
              clear hK K
              refine norm_ (a' := ?_) ?_ ?_
              rotate_left
              ·show Act.put _ (some 198) _ = _
               simp only [Act.put, M.sT_, M.s0_, M.s1_, i64_w, i32_w]; rfl
              refine pure_ (i := 16) (N := some 202) (v := ?_) (a' := ?_) #[true, true, true, true, true, true, true, true, true, true, true, true, true, true, true, true, true, false, false] rfl rfl (any_of HT_.out kr_) (fun _ _ _ h => h) (Or.inl ⟨by rfl, ?_⟩) ?_ ?_; rotate_left
              ·intro w'; go_simp; with_reducible rfl
              rotate_left
              ·simp only [Act.put, M.sT_, M.s0_, M.s1_, i64_w, i32_w]; rfl
              refine pure_ (i := 17) (N := some 203) (v := ?_) (a' := ?_) #[true, true, true, true, true, true, true, true, true, true, true, true, true, true, true, true, true, true, false] rfl rfl (any_of HT_.out kr_) (fun _ _ _ h => h) (Or.inl ⟨by rfl, ?_⟩) ?_ ?_; rotate_left
              ·intro w'; go_simp; with_reducible rfl
              rotate_left
              ·simp only [Act.put, M.sT_, M.s0_, M.s1_, i64_w, i32_w]; rfl
              refine pure_ (i := 18) (N := some 204) (v := ?_) (a' := ?_) #[true, true, true, true, true, true, true, true, true, true, true, true, true, true, true, true, true, true, true] rfl rfl (any_of HT_.out kr_) (fun _ _ _ h => h) (Or.inl ⟨by rfl, ?_⟩) ?_ ?_; rotate_left
              ·intro w'; go_simp; with_reducible rfl
              rotate_left
              ·simp only [Act.put, M.sT_, M.s0_, M.s1_, i64_w, i32_w]; rfl
              refine done_ (done_of HT_.out kr_) ?_
              try go_wp2
              go_meet
              case rel => exact ⟨_, ((t535 != (decide (t531 ≤ 4)))), q1_, H', ⟨by have := HJ8.out; have := HJ42.out; have := HJ130.out; first | omega | exact Nat.le_refl _⟩, ⟨M.Lb BK485⟩, ⟨M.Lb BK530⟩, ⟨M.Lb BK534⟩, ⟨M.Lw HB⟩⟩
             ·replace c191 := Bool.eq_false_iff.mpr c191
              subst c191
              rw [if_neg (show ¬ (false = true) by decide)] at H
              (try dsimp only at H)
              have H' := A_ H
              clear H
              try go_wp2
              have n0_ : Aside0 (Kd.R (Kd.int .i64) 3 ((w181.setCell ⟨gb534, 0, none⟩ (.int .i64 t531)).setCell ⟨gb534, 1, none⟩ (.int .i64 t532)) w.heap.size (fun _ => True) (.slice Ao175 t523.length co175) t523) := ⟨by (with_reducible repeat (first | apply Kd.R_alloc | apply Kd.R_drewN | apply Kd.R_drew)); exact Kd.R_mono (Kd.R_far (p := ⟨gb534, 1, none⟩) (Kd.R_far (p := ⟨gb534, 0, none⟩) (Kd.R_types HO526.out BK534.out (by decide)) (fun _ hk => hk.2) (.int .i64 t531)) (fun _ hk => hk.2) (.int .i64 t532)) (fun _ hk => trivial)⟩
              have n1_ : Aside0 (((w181.setCell ⟨gb534, 0, none⟩ (.int .i64 t531)).setCell ⟨gb534, 1, none⟩ (.int .i64 t532)).heap[gb485]? = some (.cells #[.int .i64 t483, .int .i64 t484] 25 (0, 0))) := ⟨by (with_reducible repeat (first | refine blk_drewN ?_ _ | refine blk_drew ?_ | refine blk_alloc ?_ _)); refine blk_far ?_ NB485_534.out _; (with_reducible repeat (first | refine blk_drewN ?_ _ | refine blk_drew ?_ | refine blk_alloc ?_ _)); refine blk_far ?_ NB485_534.out _; (with_reducible repeat (first | refine blk_drewN ?_ _ | refine blk_drew ?_ | refine blk_alloc ?_ _)); exact BK485.out⟩
              have n2_ : Aside0 (((w181.setCell ⟨gb534, 0, none⟩ (.int .i64 t531)).setCell ⟨gb534, 1, none⟩ (.int .i64 t532)).heap[gb530]? = some (.cells #[.int .i64 t527, .int .i64 t528] 25 (0, 0))) := ⟨by (with_reducible repeat (first | refine blk_drewN ?_ _ | refine blk_drew ?_ | refine blk_alloc ?_ _)); refine blk_far ?_ NB530_534.out _; (with_reducible repeat (first | refine blk_drewN ?_ _ | refine blk_drew ?_ | refine blk_alloc ?_ _)); refine blk_far ?_ NB530_534.out _; (with_reducible repeat (first | refine blk_drewN ?_ _ | refine blk_drew ?_ | refine blk_alloc ?_ _)); exact BK530.out⟩
              have n3_ : Aside0 (((w181.setCell ⟨gb534, 0, none⟩ (.int .i64 t531)).setCell ⟨gb534, 1, none⟩ (.int .i64 t532)).heap[gb534]? = some (.cells #[.int .i64 t531, .int .i64 t532] 25 (0, 0))) := ⟨by (with_reducible repeat (first | refine blk_drewN ?_ _ | refine blk_drew ?_ | refine blk_alloc ?_ _)); refine blk_put (cs := #[.int .i64 t531, .int .i64 0]) ?_ 1 _ rfl; (with_reducible repeat (first | refine blk_drewN ?_ _ | refine blk_drew ?_ | refine blk_alloc ?_ _)); refine blk_put (cs := #[.int .i64 0, .int .i64 0]) ?_ 0 _ rfl; (with_reducible repeat (first | refine blk_drewN ?_ _ | refine blk_drew ?_ | refine blk_alloc ?_ _)); exact BK534.out⟩
              have n4_ : Aside0 (Below w.heap.size w ((w181.setCell ⟨gb534, 0, none⟩ (.int .i64 t531)).setCell ⟨gb534, 1, none⟩ (.int .i64 t532))) := ⟨q0_⟩
              (try clear HO526); (try clear BK485); (try clear BK530); (try clear BK534); (try clear HB)
              generalize ((w181.setCell ⟨gb534, 0, none⟩ (.int .i64 t531)).setCell ⟨gb534, 1, none⟩ (.int .i64 t532)) = w196 at n0_ n1_ n2_ n3_ n4_ ⊢
              have HO526 := n0_; have BK485 := n1_; have BK530 := n2_; have BK534 := n3_; have HB := n4_; clear n0_ n1_ n2_ n3_ n4_
              have n0_ := A_ (Kd.R_drew HO526.out)
              have n1_ := A_ (blk_drew BK485.out)
              have n2_ := A_ (blk_drew BK530.out)
              have n3_ := A_ (blk_drew BK534.out)
              have n4_ := A_ (below_drew1 HB.out)
              clear HO526; clear BK485; clear BK530; clear BK534; clear HB; have HO526 := n0_; have BK485 := n1_; have BK530 := n2_; have BK534 := n3_; have HB := n4_; clear n0_ n1_ n2_ n3_ n4_
              refine start_ (n := 19) (S := fun w' => w'.cell? ⟨gb530, 0, none⟩ = some (.int .i64 t527) ∧ w'.cell? ⟨gb530, 1, none⟩ = some (.int .i64 t528) ∧ w'.cell? ⟨gb534, 0, none⟩ = some (.int .i64 t531) ∧ w'.cell? ⟨gb534, 1, none⟩ = some (.int .i64 t532)) (ds := []) #[false, false, false, false, false, false, false, false, false, false, false, false, false, false, false, false, false, false, false] kr_ rfl rfl ⟨(blk_cell BK530.out 0).trans rfl, (blk_cell BK530.out 1).trans rfl, (blk_cell BK534.out 0).trans rfl, (blk_cell BK534.out 1).trans rfl⟩ (fun hHeld => ?_); refine with_tabW laws_FnThreshold.tab25 laws_FnThreshold.bits25 (fun HT_ HW_ => ?_)
              generalize w196.drew = w197 at HO526 BK485 BK530 BK534 HB hHeld ⊢
              refine take_ (i := 0) (N := some 186) (v := ?_) (a' := ?_) #[true, false, false, false, false, false, false, false, false, false, false, false, false, false, false, false, false, false, false] rfl rfl (take_ofW HT_.out HW_.out kr_) (fun _ _ _ h => h) (Or.inl ⟨by rfl, ?_⟩) hHeld ?_ ?_
              rotate_left
              ·rintro w' ⟨s0, s1, s2, s3⟩
               go_simp; with_reducible rfl
              rotate_left
              ·simp only [Act.put, M.sT_, M.s0_, M.s1_, i64_w, i32_w]; rfl
              refine take_ (i := 1) (N := some 187) (v := ?_) (a' := ?_) #[true, true, false, false, false, false, false, false, false, false, false, false, false, false, false, false, false, false, false] rfl rfl (take_ofW HT_.out HW_.out kr_) (fun _ _ _ h => h) (Or.inl ⟨by rfl, ?_⟩) hHeld ?_ ?_
              rotate_left
              ·rintro w' ⟨s0, s1, s2, s3⟩
               go_simp; with_reducible rfl
              rotate_left
              ·simp only [Act.put, M.sT_, M.s0_, M.s1_, i64_w, i32_w]; rfl
              refine pure_ (i := 2) (N := some 188) (v := ?_) (a' := ?_) #[true, true, true, false, false, false, false, false, false, false, false, false, false, false, false, false, false, false, false] rfl rfl (any_of HT_.out kr_) (fun _ _ _ h => h) (Or.inl ⟨by rfl, ?_⟩) ?_ ?_; rotate_left
              ·intro w'; go_simp; with_reducible rfl
              rotate_left
              ·simp only [Act.put, M.sT_, M.s0_, M.s1_, i64_w, i32_w]; rfl
              refine pure_ (i := 3) (N := some 189) (v := ?_) (a' := ?_) #[true, true, true, true, false, false, false, false, false, false, false, false, false, false, false, false, false, false, false] rfl rfl (any_of HT_.out kr_) (fun _ _ _ h => h) (Or.inl ⟨by rfl, ?_⟩) ?_ ?_; rotate_left
              ·intro w'; go_simp; with_reducible rfl
              rotate_left
              ·simp only [Act.put, M.sT_, M.s0_, M.s1_, i64_w, i32_w]; rfl
              refine pure_ (i := 4) (N := some 190) (v := ?_) (a' := ?_) #[true, true, true, true, true, false, false, false, false, false, false, false, false, false, false, false, false, false, false] rfl rfl (any_of HT_.out kr_) (fun _ _ _ h => h) (Or.inl ⟨by rfl, ?_⟩) ?_ ?_; rotate_left
              ·intro w'; go_simp; with_reducible rfl
              rotate_left
              ·simp only [Act.put, M.sT_, M.s0_, M.s1_, i64_w, i32_w]; rfl
              refine pure_ (i := 5) (N := some 191) (v := ?_) (a' := ?_) #[true, true, true, true, true, true, false, false, false, false, false, false, false, false, false, false, false, false, false] rfl rfl (any_of HT_.out kr_) (fun _ _ _ h => h) (Or.inl ⟨by rfl, ?_⟩) ?_ ?_; rotate_left
              ·intro w'; go_simp; with_reducible rfl
              rotate_left
              ·simp only [Act.put, M.sT_, M.s0_, M.s1_, i64_w, i32_w]; rfl
              refine pure_ (i := 6) (N := some 192) (v := ?_) (a' := ?_) #[true, true, true, true, true, true, true, false, false, false, false, false, false, false, false, false, false, false, false] rfl rfl (any_of HT_.out kr_) (fun _ _ _ h => h) (Or.inl ⟨by rfl, ?_⟩) ?_ ?_; rotate_left
              ·intro w'; go_simp; with_reducible rfl
              rotate_left
              ·simp only [Act.put, M.sT_, M.s0_, M.s1_, i64_w, i32_w]; rfl
              refine pure_ (i := 7) (N := some 193) (v := ?_) (a' := ?_) #[true, true, true, true, true, true, true, true, false, false, false, false, false, false, false, false, false, false, false] rfl rfl (any_of HT_.out kr_) (fun _ _ _ h => h) (Or.inl ⟨by rfl, ?_⟩) ?_ ?_; rotate_left
              ·intro w'; go_simp; with_reducible rfl
              rotate_left
              ·simp only [Act.put, M.sT_, M.s0_, M.s1_, i64_w, i32_w]; rfl
              refine pure_ (i := 8) (N := some 194) (v := ?_) (a' := ?_) #[true, true, true, true, true, true, true, true, true, false, false, false, false, false, false, false, false, false, false] rfl rfl (any_of HT_.out kr_) (fun _ _ _ h => h) (Or.inl ⟨by rfl, ?_⟩) ?_ ?_; rotate_left
              ·intro w'; go_simp; with_reducible rfl
              rotate_left
              ·simp only [Act.put, M.sT_, M.s0_, M.s1_, i64_w, i32_w]; rfl
              refine pure_ (i := 9) (N := some 195) (v := ?_) (a' := ?_) #[true, true, true, true, true, true, true, true, true, true, false, false, false, false, false, false, false, false, false] rfl rfl (any_of HT_.out kr_) (fun _ _ _ h => h) (Or.inl ⟨by rfl, ?_⟩) ?_ ?_; rotate_left
              ·intro w'; go_simp; with_reducible rfl
              rotate_left
              ·simp only [Act.put, M.sT_, M.s0_, M.s1_, i64_w, i32_w]; rfl
              refine pure_ (i := 10) (N := some 196) (v := ?_) (a' := ?_) #[true, true, true, true, true, true, true, true, true, true, true, false, false, false, false, false, false, false, false] rfl rfl (any_of HT_.out kr_) (fun _ _ _ h => h) (Or.inl ⟨by rfl, ?_⟩) ?_ ?_; rotate_left
              ·intro w'; go_simp; with_reducible rfl
              rotate_left
              ·simp only [Act.put, M.sT_, M.s0_, M.s1_, i64_w, i32_w]; rfl
              refine pure_ (i := 11) (N := some 197) (v := undef) (a' := ?_) #[true, true, true, true, true, true, true, true, true, true, true, true, false, false, false, false, false, false, false] rfl rfl (any_of HT_.out kr_) (fun _ _ _ h => h) (Or.inr ⟨by rfl, rfl⟩) ?_ ?_; rotate_left
              ·simp only [Act.put, M.sT_, M.s0_, M.s1_, i64_w, i32_w]; rfl
              refine pure_ (i := 12) (N := some 198) (v := undef) (a' := ?_) #[true, true, true, true, true, true, true, true, true, true, true, true, true, false, false, false, false, false, false] rfl rfl (any_of HT_.out kr_) (fun _ _ _ h => h) (Or.inr ⟨by rfl, rfl⟩) ?_ ?_; rotate_left
              ·simp only [Act.put, M.sT_, M.s0_, M.s1_, i64_w, i32_w]; rfl
              refine pure_ (i := 13) (N := some 199) (v := undef) (a' := ?_) #[true, true, true, true, true, true, true, true, true, true, true, true, true, true, false, false, false, false, false] rfl rfl (any_of HT_.out kr_) (fun _ _ _ h => h) (Or.inr ⟨by rfl, rfl⟩) ?_ ?_; rotate_left
              ·simp only [Act.put, M.sT_, M.s0_, M.s1_, i64_w, i32_w]; rfl
              refine pure_ (i := 14) (N := some 200) (v := undef) (a' := ?_) #[true, true, true, true, true, true, true, true, true, true, true, true, true, true, true, false, false, false, false] rfl rfl (any_of HT_.out kr_) (fun _ _ _ h => h) (Or.inr ⟨by rfl, rfl⟩) ?_ ?_; rotate_left
              ·simp only [Act.put, M.sT_, M.s0_, M.s1_, i64_w, i32_w]; rfl
              refine pure_ (i := 15) (N := some 201) (v := undef) (a' := ?_) #[true, true, true, true, true, true, true, true, true, true, true, true, true, true, true, true, false, false, false] rfl rfl (any_of HT_.out kr_) (fun _ _ _ h => h) (Or.inr ⟨by rfl, rfl⟩) ?_ ?_; rotate_left
              ·simp only [Act.put, M.sT_, M.s0_, M.s1_, i64_w, i32_w]; rfl
              refine pure_ (i := 16) (N := some 202) (v := undef) (a' := ?_) #[true, true, true, true, true, true, true, true, true, true, true, true, true, true, true, true, true, false, false] rfl rfl (any_of HT_.out kr_) (fun _ _ _ h => h) (Or.inr ⟨by rfl, rfl⟩) ?_ ?_; rotate_left
              ·simp only [Act.put, M.sT_, M.s0_, M.s1_, i64_w, i32_w]; rfl
              refine pure_ (i := 17) (N := some 203) (v := ?_) (a' := ?_) #[true, true, true, true, true, true, true, true, true, true, true, true, true, true, true, true, true, true, false] rfl rfl (any_of HT_.out kr_) (fun _ _ _ h => h) (Or.inl ⟨by rfl, ?_⟩) ?_ ?_; rotate_left
              ·intro w'; go_simp; with_reducible rfl
              rotate_left
              ·simp only [Act.put, M.sT_, M.s0_, M.s1_, i64_w, i32_w]; rfl
              refine pure_ (i := 18) (N := some 204) (v := ?_) (a' := ?_) #[true, true, true, true, true, true, true, true, true, true, true, true, true, true, true, true, true, true, true] rfl rfl (any_of HT_.out kr_) (fun _ _ _ h => h) (Or.inl ⟨by rfl, ?_⟩) ?_ ?_; rotate_left
              ·intro w'; go_simp; with_reducible rfl
              rotate_left
              ·simp only [Act.put, M.sT_, M.s0_, M.s1_, i64_w, i32_w]; rfl
              refine done_ (done_of HT_.out kr_) ?_
              try go_wp2
              go_meet
              case rel => exact ⟨_, (false), q1_, H', ⟨by have := HJ8.out; have := HJ42.out; have := HJ130.out; first | omega | exact Nat.le_refl _⟩, ⟨M.Lb BK485⟩, ⟨M.Lb BK530⟩, ⟨M.Lb BK534⟩, ⟨M.Lw HB⟩⟩
          case rest =>
           as_aux_lemma =>
           clear HC173; (try clear c1); (try clear p2); (try clear c11); (try clear c18); (try clear c19); (try clear c185); (try clear c185b0); (try clear c188); (try clear c188b0); (try clear c188b1); (try clear c188b2); (try clear c191); obtain ⟨kq, x204_172, rfl, HA, HJ172, BK485, BK530, BK534, HB⟩ := hcut
           cases kq with
           | zero => exact absurd HA.out (by simp [laws_FnThreshold.j5])
           | succ kj172 =>
            have H := HA.out
            clear HA
            simp only [laws_FnThreshold.j5] at H
            by_cases c198 : x204_172 = true
            ·subst c198
             rw [if_pos rfl] at H
             (try dsimp only at H)
             exact absurd (Option.some.inj H) (by rw [HRT.out]; decide)
            ·replace c198 := Bool.eq_false_iff.mpr c198
             subst c198
             rw [if_neg (show ¬ (false = true) by decide)] at H
             (try dsimp only at H); replace H := Option.bind_eq_some_iff.mp H; obtain ⟨⟨t536, t537, t538⟩, A1990, H⟩ := H; (try dsimp only at H); have A199 := A_ A1990; clear A1990; replace H := Option.bind_eq_some_iff.mp H; obtain ⟨t542, A2000, H⟩ := H; (try dsimp only at H); have A200 := A_ A2000; clear A2000; replace H := Option.bind_eq_some_iff.mp H; obtain ⟨⟨t543, t544⟩, A2010, H⟩ := H; (try dsimp only at H); have A201 := A_ A2010; clear A2010; replace H := Option.bind_eq_some_iff.mp H; obtain ⟨t546, A2020, H⟩ := H; (try dsimp only at H); have A202 := A_ A2020
             clear A2020; replace H := Option.bind_eq_some_iff.mp H; obtain ⟨t549, A2030, H⟩ := H; (try dsimp only at H); have A203 := A_ A2030; clear A2030; replace H := Option.bind_eq_some_iff.mp H; obtain ⟨t550, A2040, H⟩ := H; (try dsimp only at H); have A204 := A_ A2040; clear A2040
             by_cases c205 : (t549 == t550) = true
             ·rw [if_pos c205] at H
              have c205b0 : (t549 == t550) = true := c205
              (try (have c205b1 : decide (t549 = t550) = true := by simpa using c205))
              (try (have c205b2 : (t549 == t550) = true := by simpa using c205))
              clear c205; replace H := Option.bind_eq_some_iff.mp H; obtain ⟨t551, A2060, H⟩ := H; (try dsimp only at H); have A206 := A_ A2060; clear A2060; replace H := Option.bind_eq_some_iff.mp H; obtain ⟨t552, A2070, H⟩ := H; (try dsimp only at H); have A207 := A_ A2070; clear A2070
              by_cases c208 : t551 = t552
              ·rw [if_pos c208] at H
               have c208b0 : (t551 == t552) = true := beq_iff_eq.mpr c208
               have c208b1 : (t551 != t552) = false := bne_eq_false_iff_eq.mpr c208
               clear c208; replace H := Option.bind_eq_some_iff.mp H; obtain ⟨t553, A2090, H⟩ := H; (try dsimp only at H); have A209 := A_ A2090; clear A2090; replace H := Option.bind_eq_some_iff.mp H; obtain ⟨t556, A2100, H⟩ := H; (try dsimp only at H); have A210 := A_ A2100; clear A2100
               by_cases c211 : t556 = true
               ·subst c211
                rw [if_pos rfl] at H
                (try dsimp only at H)
                by_cases c212 : (t546.length : Int) = 0
                ·rw [if_pos c212] at H
                 have c212b0 : ((t546.length : Int) == 0) = true := beq_iff_eq.mpr c212
                 have c212b1 : ((t546.length : Int) != 0) = false := bne_eq_false_iff_eq.mpr c212
                 clear c212
                 obtain rfl := Option.some.inj H
                 try go_wp2_with (first | ((with_reducible refine gate_callee (f := 19) rfl ?_); refine goesL_ (some 207) rfl rfl Try.func19 kr_ rfl #[.slice A0 l0.length c0] rfl q2_ ?_; (with_reducible refine (spec_DrawIsContradiction.calls kj172 _ _ l0 t536 t537 t538 _ ?side1 ?side2 A199.out).mono ?_); (case side1 => exact q14_); (case side2 => exact HC0.out); rintro e w213 ⟨v539, rfl, ho0, hb⟩; refine ⟨_, rfl, ?_⟩; have HO540 := A_ (Kd.R_lower ho0 (below_size q0_)); replace BK485 := A_ (blk_below (M.Lb BK485) hb); replace BK530 := A_ (blk_below (M.Lb BK530) hb); replace BK534 := A_ (blk_below (M.Lb BK534) hb); replace HB := A_ (below_step q0_ hb); (try clear hb); (try clear hb2); (try clear hk); (try clear hi); (try clear ho0)) | ((with_reducible refine gate_dst (N := 24) rfl ?_); (try (refine gate_guard (by rfl) ?_; dsimp only)); refine box_event ?hg (N := 24) ?hd (cs := #[.int .i64 0, .int .i64 0]) (t := 25) ?hr ?_; (case hd => rfl); (case hg => rfl); (case hr => first | (go_simp; done) | (go_simp; rfl)); intro gb541 hg w214 hbox hb; replace HO540 := A_ (Kd.R_below (M.Lr HO540) hb); have BK541 := A_ (hbox); have GW541 := A_ ((by rw [hg]; exact (below_size q0_) : w.heap.size ≤ gb541)); have GE541 := A_ ((by rw [hg]; exact (below_size q0_) : w.heap.size ≤ gb541)); replace HB := A_ (below_step q0_ hb); have NB485_541 := A_ ((by rw [hg]; exact Nat.ne_of_lt (blk_lt (M.Lb BK485)) : gb485 ≠ gb541)); have NB541_485 := A_ ((by rw [hg]; exact Nat.ne_of_gt (blk_lt (M.Lb BK485)) : gb541 ≠ gb485)); replace BK485 := A_ (blk_below (M.Lb BK485) hb); have NB530_541 := A_ ((by rw [hg]; exact Nat.ne_of_lt (blk_lt (M.Lb BK530)) : gb530 ≠ gb541)); have NB541_530 := A_ ((by rw [hg]; exact Nat.ne_of_gt (blk_lt (M.Lb BK530)) : gb541 ≠ gb530)); replace BK530 := A_ (blk_below (M.Lb BK530) hb); have NB534_541 := A_ ((by rw [hg]; exact Nat.ne_of_lt (blk_lt (M.Lb BK534)) : gb534 ≠ gb541)); have NB541_534 := A_ ((by rw [hg]; exact Nat.ne_of_gt (blk_lt (M.Lb BK534)) : gb541 ≠ gb534)); replace BK534 := A_ (blk_below (M.Lb BK534) hb); clear hb hbox hg; have hnb215 := NB541_485.out; have hnc215 := NB485_541.out; have hnb216 := NB541_530.out; have hnc216 := NB530_541.out; have hnb217 := NB541_534.out; have hnc217 := NB534_541.out; have hcz218_0 := c20_ BK541; have hcz218_1 := c21_ BK541; have hfz218_0 := blk_frozen BK541.out 0; have hfz218_1 := blk_frozen BK541.out 1) | ((with_reducible refine gate_callee (f := 20) rfl ?_); refine goesL_ (some 211) rfl rfl Try.func20 kr_ rfl #[.slice A0 l0.length c0] rfl q2_ ?_; (with_reducible refine (spec_DrawCountThreshold.calls kj172 _ _ l0 t542 _ ?side1 ?side2 A200.out).mono ?_); (case side1 => exact Kd.C_below HR0.out q0_); (case side2 => exact HC0.out); rintro e w219 ⟨rfl, hb⟩; refine ⟨_, rfl, ?_⟩; replace HO540 := A_ (Kd.R_below (by (with_reducible repeat (first | apply Kd.R_alloc | apply Kd.R_drewN | apply Kd.R_drew)); exact (Kd.R_mono (Kd.R_far (p := ⟨gb541, 1, none⟩) (Kd.R_far (p := ⟨gb541, 0, none⟩) (Kd.R_types HO540.out BK541.out (by decide)) (fun _ hk => hk.2) (.int .i64 t536)) (fun _ hk => hk.2) (.int .i64 t537)) (fun _ h_ => h_.1))) hb); replace BK485 := A_ (blk_below (g := gb485) (o := .cells #[.int .i64 t483, .int .i64 t484] 25 (0, 0)) (by (with_reducible repeat (first | refine blk_drewN ?_ _ | refine blk_drew ?_ | refine blk_alloc ?_ _)); refine blk_far ?_ NB485_541.out _; (with_reducible repeat (first | refine blk_drewN ?_ _ | refine blk_drew ?_ | refine blk_alloc ?_ _)); refine blk_far ?_ NB485_541.out _; (with_reducible repeat (first | refine blk_drewN ?_ _ | refine blk_drew ?_ | refine blk_alloc ?_ _)); exact BK485.out) hb); replace BK530 := A_ (blk_below (g := gb530) (o := .cells #[.int .i64 t527, .int .i64 t528] 25 (0, 0)) (by (with_reducible repeat (first | refine blk_drewN ?_ _ | refine blk_drew ?_ | refine blk_alloc ?_ _)); refine blk_far ?_ NB530_541.out _; (with_reducible repeat (first | refine blk_drewN ?_ _ | refine blk_drew ?_ | refine blk_alloc ?_ _)); refine blk_far ?_ NB530_541.out _; (with_reducible repeat (first | refine blk_drewN ?_ _ | refine blk_drew ?_ | refine blk_alloc ?_ _)); exact BK530.out) hb); replace BK534 := A_ (blk_below (g := gb534) (o := .cells #[.int .i64 t531, .int .i64 t532] 25 (0, 0)) (by (with_reducible repeat (first | refine blk_drewN ?_ _ | refine blk_drew ?_ | refine blk_alloc ?_ _)); refine blk_far ?_ NB534_541.out _; (with_reducible repeat (first | refine blk_drewN ?_ _ | refine blk_drew ?_ | refine blk_alloc ?_ _)); refine blk_far ?_ NB534_541.out _; (with_reducible repeat (first | refine blk_drewN ?_ _ | refine blk_drew ?_ | refine blk_alloc ?_ _)); exact BK534.out) hb); replace BK541 := A_ (blk_below (g := gb541) (o := .cells #[.int .i64 t536, .int .i64 t537] 25 (0, 0)) (by (with_reducible repeat (first | refine blk_drewN ?_ _ | refine blk_drew ?_ | refine blk_alloc ?_ _)); refine blk_put (cs := #[.int .i64 t536, .int .i64 0]) ?_ 1 _ rfl; (with_reducible repeat (first | refine blk_drewN ?_ _ | refine blk_drew ?_ | refine blk_alloc ?_ _)); refine blk_put (cs := #[.int .i64 0, .int .i64 0]) ?_ 0 _ rfl; (with_reducible repeat (first | refine blk_drewN ?_ _ | refine blk_drew ?_ | refine blk_alloc ?_ _)); exact BK541.out) hb); replace HB := A_ (below_step q0_ hb); (try clear hb); (try clear hb2); (try clear hk); (try clear hi)) | ((with_reducible refine gate_callee (f := 21) rfl ?_); refine goesL_ (some 213) rfl rfl Try.func21 kr_ rfl #[.slice A0 l0.length c0] rfl q2_ ?_; (with_reducible refine (spec_DrawChowNumbers.calls kj172 _ _ l0 t543 t544 _ ?side1 ?side2 A201.out).mono ?_); (case side1 => exact q14_); (case side2 => exact HC0.out); rintro e w220 ⟨rfl, hb⟩; refine ⟨_, rfl, ?_⟩; replace HO540 := A_ (Kd.R_below (M.Lr HO540) hb); replace BK485 := A_ (blk_below (M.Lb BK485) hb); replace BK530 := A_ (blk_below (M.Lb BK530) hb); replace BK534 := A_ (blk_below (M.Lb BK534) hb); replace BK541 := A_ (blk_below (M.Lb BK541) hb); replace HB := A_ (below_step q0_ hb); (try clear hb); (try clear hb2); (try clear hk); (try clear hi)) | ((with_reducible refine gate_dst (N := 27) rfl ?_); (try (refine gate_guard (by rfl) ?_; dsimp only)); refine box_event ?hg (N := 27) ?hd (cs := #[.int .i64 0, .int .i64 0]) (t := 25) ?hr ?_; (case hd => rfl); (case hg => rfl); (case hr => first | (go_simp; done) | (go_simp; rfl)); intro gb545 hg w221 hbox hb; replace HO540 := A_ (Kd.R_below (M.Lr HO540) hb); have BK545 := A_ (hbox); have GW545 := A_ ((by rw [hg]; exact (below_size q0_) : w.heap.size ≤ gb545)); have GE545 := A_ ((by rw [hg]; exact (below_size q0_) : w.heap.size ≤ gb545)); replace HB := A_ (below_step q0_ hb); have NB485_545 := A_ ((by rw [hg]; exact Nat.ne_of_lt (blk_lt (M.Lb BK485)) : gb485 ≠ gb545)); have NB545_485 := A_ ((by rw [hg]; exact Nat.ne_of_gt (blk_lt (M.Lb BK485)) : gb545 ≠ gb485)); replace BK485 := A_ (blk_below (M.Lb BK485) hb); have NB530_545 := A_ ((by rw [hg]; exact Nat.ne_of_lt (blk_lt (M.Lb BK530)) : gb530 ≠ gb545)); have NB545_530 := A_ ((by rw [hg]; exact Nat.ne_of_gt (blk_lt (M.Lb BK530)) : gb545 ≠ gb530)); replace BK530 := A_ (blk_below (M.Lb BK530) hb); have NB534_545 := A_ ((by rw [hg]; exact Nat.ne_of_lt (blk_lt (M.Lb BK534)) : gb534 ≠ gb545)); have NB545_534 := A_ ((by rw [hg]; exact Nat.ne_of_gt (blk_lt (M.Lb BK534)) : gb545 ≠ gb534)); replace BK534 := A_ (blk_below (M.Lb BK534) hb); have NB541_545 := A_ ((by rw [hg]; exact Nat.ne_of_lt (blk_lt (M.Lb BK541)) : gb541 ≠ gb545)); have NB545_541 := A_ ((by rw [hg]; exact Nat.ne_of_gt (blk_lt (M.Lb BK541)) : gb545 ≠ gb541)); replace BK541 := A_ (blk_below (M.Lb BK541) hb); clear hb hbox hg; have hnb222 := NB545_485.out; have hnc222 := NB485_545.out; have hnb223 := NB545_530.out; have hnc223 := NB530_545.out; have hnb224 := NB545_534.out; have hnc224 := NB534_545.out; have hnb225 := NB545_541.out; have hnc225 := NB541_545.out; have hcz226_0 := c20_ BK545; have hcz226_1 := c21_ BK545; have hfz226_0 := blk_frozen BK545.out 0; have hfz226_1 := blk_frozen BK545.out 1) | ((with_reducible refine gate_callee (f := 22) rfl ?_); refine goesL_ (some 215) rfl rfl Try.func22 kr_ rfl #[.agg #[.int .i64 t543, .int .i64 t544]] rfl q2_ ?_; (with_reducible refine (impl_ChowNumbers.calls kj172 t543 t544 t546 _ A202.out).mono ?_); rintro e w227 ⟨v547, rfl, ho0, hb⟩; refine ⟨_, rfl, ?_⟩; have HO548 := A_ (Kd.R_lower (Kd.R_new' ho0 (Kd.R_lt (by (with_reducible repeat (first | apply Kd.R_alloc | apply Kd.R_drewN | apply Kd.R_drew)); exact (Kd.R_mono (Kd.R_far (p := ⟨gb545, 1, none⟩) (Kd.R_far (p := ⟨gb545, 0, none⟩) (Kd.R_types HO540.out BK545.out (by decide)) (fun _ hk => hk.2) (.int .i64 t543)) (fun _ hk => hk.2) (.int .i64 t544)) (fun _ h_ => h_.1))))) (below_size q0_)); replace HO540 := A_ (Kd.R_elder' (by (with_reducible repeat (first | apply Kd.R_alloc | apply Kd.R_drewN | apply Kd.R_drew)); exact (Kd.R_mono (Kd.R_far (p := ⟨gb545, 1, none⟩) (Kd.R_far (p := ⟨gb545, 0, none⟩) (Kd.R_types HO540.out BK545.out (by decide)) (fun _ hk => hk.2) (.int .i64 t543)) (fun _ hk => hk.2) (.int .i64 t544)) (fun _ h_ => h_.1))) (Kd.R_base ho0) hb); replace BK485 := A_ (blk_below (g := gb485) (o := .cells #[.int .i64 t483, .int .i64 t484] 25 (0, 0)) (by (with_reducible repeat (first | refine blk_drewN ?_ _ | refine blk_drew ?_ | refine blk_alloc ?_ _)); refine blk_far ?_ NB485_545.out _; (with_reducible repeat (first | refine blk_drewN ?_ _ | refine blk_drew ?_ | refine blk_alloc ?_ _)); refine blk_far ?_ NB485_545.out _; (with_reducible repeat (first | refine blk_drewN ?_ _ | refine blk_drew ?_ | refine blk_alloc ?_ _)); exact BK485.out) hb); replace BK530 := A_ (blk_below (g := gb530) (o := .cells #[.int .i64 t527, .int .i64 t528] 25 (0, 0)) (by (with_reducible repeat (first | refine blk_drewN ?_ _ | refine blk_drew ?_ | refine blk_alloc ?_ _)); refine blk_far ?_ NB530_545.out _; (with_reducible repeat (first | refine blk_drewN ?_ _ | refine blk_drew ?_ | refine blk_alloc ?_ _)); refine blk_far ?_ NB530_545.out _; (with_reducible repeat (first | refine blk_drewN ?_ _ | refine blk_drew ?_ | refine blk_alloc ?_ _)); exact BK530.out) hb); replace BK534 := A_ (blk_below (g := gb534) (o := .cells #[.int .i64 t531, .int .i64 t532] 25 (0, 0)) (by (with_reducible repeat (first | refine blk_drewN ?_ _ | refine blk_drew ?_ | refine blk_alloc ?_ _)); refine blk_far ?_ NB534_545.out _; (with_reducible repeat (first | refine blk_drewN ?_ _ | refine blk_drew ?_ | refine blk_alloc ?_ _)); refine blk_far ?_ NB534_545.out _; (with_reducible repeat (first | refine blk_drewN ?_ _ | refine blk_drew ?_ | refine blk_alloc ?_ _)); exact BK534.out) hb); replace BK541 := A_ (blk_below (g := gb541) (o := .cells #[.int .i64 t536, .int .i64 t537] 25 (0, 0)) (by (with_reducible repeat (first | refine blk_drewN ?_ _ | refine blk_drew ?_ | refine blk_alloc ?_ _)); refine blk_far ?_ NB541_545.out _; (with_reducible repeat (first | refine blk_drewN ?_ _ | refine blk_drew ?_ | refine blk_alloc ?_ _)); refine blk_far ?_ NB541_545.out _; (with_reducible repeat (first | refine blk_drewN ?_ _ | refine blk_drew ?_ | refine blk_alloc ?_ _)); exact BK541.out) hb); replace BK545 := A_ (blk_below (g := gb545) (o := .cells #[.int .i64 t543, .int .i64 t544] 25 (0, 0)) (by (with_reducible repeat (first | refine blk_drewN ?_ _ | refine blk_drew ?_ | refine blk_alloc ?_ _)); refine blk_put (cs := #[.int .i64 t543, .int .i64 0]) ?_ 1 _ rfl; (with_reducible repeat (first | refine blk_drewN ?_ _ | refine blk_drew ?_ | refine blk_alloc ?_ _)); refine blk_put (cs := #[.int .i64 0, .int .i64 0]) ?_ 0 _ rfl; (with_reducible repeat (first | refine blk_drewN ?_ _ | refine blk_drew ?_ | refine blk_alloc ?_ _)); exact BK545.out) hb); replace HB := A_ (below_step q0_ hb); (try clear hb); (try clear hb2); (try clear hk); (try clear hi); (try clear ho0)))
                 have n0_ := A_ (Kd.R_drew HO540.out)
                 have n1_ := A_ (Kd.R_drew HO548.out)
                 have n2_ := A_ (blk_drew BK485.out)
                 have n3_ := A_ (blk_drew BK530.out)
                 have n4_ := A_ (blk_drew BK534.out)
                 have n5_ := A_ (blk_drew BK541.out)
                 have n6_ := A_ (blk_drew BK545.out)
                 have n7_ := A_ (below_drew1 HB.out)
                 clear HO540; clear HO548; clear BK485; clear BK530; clear BK534; clear BK541; clear BK545; clear HB; have HO540 := n0_; have HO548 := n1_; have BK485 := n2_; have BK530 := n3_; have BK534 := n4_; have BK541 := n5_; have BK545 := n6_; have HB := n7_; clear n0_ n1_ n2_ n3_ n4_ n5_ n6_ n7_
                 obtain ⟨Ao229, co229, eo229⟩ := Kd.R_slice HO540.out
                 (first | subst eo229 | (injection eo229 with f1_ f2_ f3_; have f4_ := f1_.symm; have f5_ := f3_.symm; clear f1_ f2_ f3_; subst f4_; subst f5_))
                 refine start_ (n := 42) (S := fun w' => w'.cell? ⟨gb541, 0, none⟩ = some (.int .i64 t536) ∧ w'.cell? ⟨gb541, 1, none⟩ = some (.int .i64 t537) ∧ w'.cell? ⟨gb545, 0, none⟩ = some (.int .i64 t543) ∧ w'.cell? ⟨gb545, 1, none⟩ = some (.int .i64 t544)) (ds := []) #[false, false, false, false, false, false, false, false, false, false, false, false, false, false, false, false, false, false, false, false, false, false, false, false, false, false, false, false, false, false, false, false, false, false, false, false, false, false, false, false, false, false] kr_ rfl rfl ⟨(blk_cell BK541.out 0).trans rfl, (blk_cell BK541.out 1).trans rfl, (blk_cell BK545.out 0).trans rfl, (blk_cell BK545.out 1).trans rfl⟩ (fun hHeld => ?_); refine with_tabW laws_FnThreshold.tab31 laws_FnThreshold.bits31 (fun HT_ HW_ => ?_)
                 generalize w227.drew = w228 at HO540 HO548 BK485 BK530 BK534 BK541 BK545 HB hHeld ⊢
                 refine pure_ (i := 1) (N := some 217) (v := ?_) (a' := ?_) #[false, true, false, false, false, false, false, false, false, false, false, false, false, false, false, false, false, false, false, false, false, false, false, false, false, false, false, false, false, false, false, false, false, false, false, false, false, false, false, false, false, false] rfl rfl (any_of HT_.out kr_) (fun _ _ _ h => h) (Or.inl ⟨by rfl, ?_⟩) ?_ ?_; rotate_left
                 ·intro w'; go_simp; with_reducible rfl
                 rotate_left
                 ·simp only [Act.put, M.sT_, M.s0_, M.s1_, i64_w, i32_w]; rfl
                 refine pure_ (i := 4) (N := some 220) (v := ?_) (a' := ?_) #[false, true, false, false, true, false, false, false, false, false, false, false, false, false, false, false, false, false, false, false, false, false, false, false, false, false, false, false, false, false, false, false, false, false, false, false, false, false, false, false, false, false] rfl rfl (any_of HT_.out kr_) (fun _ _ _ h => h) (Or.inl ⟨by rfl, ?_⟩) ?_ ?_; rotate_left
                 ·intro w'; go_simp; with_reducible rfl
                 rotate_left
                 ·simp only [Act.put, M.sT_, M.s0_, M.s1_, i64_w, i32_w]; rfl
                 refine take_ (i := 0) (N := some 216) (v := ?_) (a' := ?_) #[true, true, false, false, true, false, false, false, false, false, false, false, false, false, false, false, false, false, false, false, false, false, false, false, false, false, false, false, false, false, false, false, false, false, false, false, false, false, false, false, false, false] rfl rfl (take_ofW HT_.out HW_.out kr_) (fun _ _ _ h => h) (Or.inl ⟨by rfl, ?_⟩) hHeld ?_ ?_
                 rotate_left
                 ·rintro w' ⟨s0, s1, s2, s3⟩
                  go_simp; with_reducible rfl
                 rotate_left
                 ·simp only [Act.put, M.sT_, M.s0_, M.s1_, i64_w, i32_w]; rfl
                 refine take_ (i := 3) (N := some 219) (v := ?_) (a' := ?_) #[true, true, false, true, true, false, false, false, false, false, false, false, false, false, false, false, false, false, false, false, false, false, false, false, false, false, false, false, false, false, false, false, false, false, false, false, false, false, false, false, false, false] rfl rfl (take_ofW HT_.out HW_.out kr_) (fun _ _ _ h => h) (Or.inl ⟨by rfl, ?_⟩) hHeld ?_ ?_
                 rotate_left
                 ·rintro w' ⟨s0, s1, s2, s3⟩
                  go_simp; with_reducible rfl
                 rotate_left
                 ·simp only [Act.put, M.sT_, M.s0_, M.s1_, i64_w, i32_w]; rfl
                 refine one_ (i := 2) (N := some 218) #[true, true, true, true, true, false, false, false, false, false, false, false, false, false, false, false, false, false, false, false, false, false, false, false, false, false, false, false, false, false, false, false, false, false, false, false, false, false, false, false, false, false] rfl rfl (one_of HT_.out kr_) (by decide) (fun K hK => ?_)
                 refine goes_ Try.func15 kr_ rfl #[.agg #[.int .i64 t536, .int .i64 t537], .slice Ao229 t538.length co229] (by rfl) rfl rfl q2_ ?_
                 with_reducible refine (impl_IsContradiction.calls kj172 t536 t537 _ _ t538 t549 _ ?side1 ?side2 A203.out).mono ?_
                 (case side1 => repeat (first | exact (Kd.R_reads' HO540.out).2.2 | (with_reducible refine Kd.C_alloc ?_ _) | (with_reducible refine Kd.C_drewN ?_ _) | (with_reducible refine Kd.C_drew ?_)))
                 (case side2 => exact (Kd.R_reads' HO540.out).2.1)
                 rintro e w230 ⟨rfl, hb⟩
                 refine ⟨_, rfl, ?_⟩
                 have n0_ := A_ (Kd.R_below (M.Lr HO540) hb)
                 have n1_ := A_ (Kd.R_below (M.Lr HO548) hb)
                 have n2_ := A_ (blk_below (M.Lb BK485) hb)
                 have n3_ := A_ (blk_below (M.Lb BK530) hb)
                 have n4_ := A_ (blk_below (M.Lb BK534) hb)
                 have n5_ := A_ (blk_below (M.Lb BK541) hb)
                 have n6_ := A_ (blk_below (M.Lb BK545) hb)
                 have n7_ := A_ (below_step (M.Lw HB) hb)
                 clear HO540; clear HO548; clear BK485; clear BK530; clear BK534; clear BK541; clear BK545; clear HB; have HO540 := n0_; have HO548 := n1_; have BK485 := n2_; have BK530 := n3_; have BK534 := n4_; have BK541 := n5_; have BK545 := n6_; have HB := n7_; clear n0_ n1_ n2_ n3_ n4_ n5_ n6_ n7_; (try clear hb); (try clear hb2); (try clear hk); (try clear hi)
                 refine hK.out _ _ ⟨(blk_cell BK541.out 0).trans rfl, (blk_cell BK541.out 1).trans rfl, (blk_cell BK545.out 0).trans rfl, (blk_cell BK545.out 1).trans rfl⟩ (fun hHeld => ?_)
                 clear hK K
                 refine norm_ (a' := ?_) ?_ ?_
                 rotate_left
                 ·show Act.put _ (some 218) _ = _
                  simp only [Act.put, M.sT_, M.s0_, M.s1_, i64_w, i32_w]; rfl
                 refine one_ (i := 5) (N := some 221) #[true, true, true, true, true, true, false, false, false, false, false, false, false, false, false, false, false, false, false, false, false, false, false, false, false, false, false, false, false, false, false, false, false, false, false, false, false, false, false, false, false, false] rfl rfl (one_of HT_.out kr_) (by decide) (fun K hK => ?_)
                 refine goes_ Try.func23 kr_ rfl #[.agg #[.int .i64 t536, .int .i64 t537], .slice Ao229 t538.length co229] (by rfl) rfl rfl q2_ ?_
                 with_reducible refine (spec_IsContradiction.calls kj172 t536 t537 _ _ t538 t550 _ ?side1 ?side2 A204.out).mono ?_
                 (case side1 => repeat (first | exact (Kd.R_reads' HO540.out).2.2 | (with_reducible refine Kd.C_alloc ?_ _) | (with_reducible refine Kd.C_drewN ?_ _) | (with_reducible refine Kd.C_drew ?_)))
                 (case side2 => exact (Kd.R_reads' HO540.out).2.1)
                 rintro e w231 ⟨rfl, hb⟩
                 refine ⟨_, rfl, ?_⟩
                 have n0_ := A_ (Kd.R_below (M.Lr HO540) hb)
                 have n1_ := A_ (Kd.R_below (M.Lr HO548) hb)
                 have n2_ := A_ (blk_below (M.Lb BK485) hb)
                 have n3_ := A_ (blk_below (M.Lb BK530) hb)
                 have n4_ := A_ (blk_below (M.Lb BK534) hb)
                 have n5_ := A_ (blk_below (M.Lb BK541) hb)
                 have n6_ := A_ (blk_below (M.Lb BK545) hb)
                 have n7_ := A_ (below_step (M.Lw HB) hb)
                 clear HO540; clear HO548; clear BK485; clear BK530; clear BK534; clear BK541; clear BK545; clear HB; have HO540 := n0_; have HO548 := n1_; have BK485 := n2_; have BK530 := n3_; have BK534 := n4_; have BK541 := n5_; have BK545 := n6_; have HB := n7_; clear n0_ n1_ n2_ n3_ n4_ n5_ n6_ n7_; (try clear hb); (try clear hb2); (try clear hk); (try clear hi)
                 refine hK.out _ _ ⟨(blk_cell BK541.out 0).trans rfl, (blk_cell BK541.out 1).trans rfl, (blk_cell BK545.out 0).trans rfl, (blk_cell BK545.out 1).trans rfl⟩ (fun hHeld => ?_)
                 clear hK K
                 refine norm_ (a' := ?_) ?_ ?_
                 rotate_left
                 ·show Act.put _ (some 221) _ = _
                  simp only [Act.put, M.sT_, M.s0_, M.s1_, i64_w, i32_w]; rfl
                 refine pure_ (i := 6) (N := some 222) (v := ?_) (a' := ?_) #[true, true, true, true, true, true, true, false, false, false, false, false, false, false, false, false, false, false, false, false, false, false, false, false, false, false, false, false, false, false, false, false, false, false, false, false, false, false, false, false, false, false] rfl rfl (any_of HT_.out kr_) (fun _ _ _ h => h) (Or.inl ⟨by rfl, ?_⟩) ?_ ?_; rotate_left
                 ·intro w'; go_simp; with_reducible rfl
                 rotate_left
                 ·simp only [Act.put, M.sT_, M.s0_, M.s1_, i64_w, i32_w]; rfl
                 refine pure_ (i := 7) (N := some 223) (v := ?_) (a' := ?_) #[true, true, true, true, true, true, true, true, false, false, false, false, false, false, false, false, false, false, false, false, false, false, false, false, false, false, false, false, false, false, false, false, false, false, false, false, false, false, false, false, false, false] rfl rfl (any_of HT_.out kr_) (fun _ _ _ h => h) (Or.inl ⟨by rfl, ?_⟩) ?_ ?_; rotate_left
                 ·intro w'; go_simp; with_reducible rfl
                 rotate_left
                 ·simp only [Act.put, M.sT_, M.s0_, M.s1_, i64_w, i32_w]; rfl
                 refine pure_ (i := 8) (N := some 224) (v := ?_) (a' := ?_) #[true, true, true, true, true, true, true, true, true, false, false, false, false, false, false, false, false, false, false, false, false, false, false, false, false, false, false, false, false, false, false, false, false, false, false, false, false, false, false, false, false, false] rfl rfl (any_of HT_.out kr_) (fun _ _ _ h => h) (Or.inl ⟨by rfl, ?_⟩) ?_ ?_; rotate_left
                 ·intro w'; go_simp; with_reducible rfl
                 rotate_left
                 ·simp only [Act.put, M.sT_, M.s0_, M.s1_, i64_w, i32_w]; rfl
                 refine pure_ (i := 10) (N := some 226) (v := ?_) (a' := ?_) #[true, true, true, true, true, true, true, true, true, false, true, false, false, false, false, false, false, false, false, false, false, false, false, false, false, false, false, false, false, false, false, false, false, false, false, false, false, false, false, false, false, false] rfl rfl (any_of HT_.out kr_) (fun _ _ _ h => h) (Or.inl ⟨by rfl, ?_⟩) ?_ ?_; rotate_left
                 ·intro w'; go_simp; with_reducible rfl
                 rotate_left
                 ·simp only [Act.put, M.sT_, M.s0_, M.s1_, i64_w, i32_w]; rfl
                 refine one_ (i := 9) (N := some 225) #[true, true, true, true, true, true, true, true, true, true, true, false, false, false, false, false, false, false, false, false, false, false, false, false, false, false, false, false, false, false, false, false, false, false, false, false, false, false, false, false, false, false] rfl rfl (one_of HT_.out kr_) (by decide) (fun K hK => ?_)
                 refine goes_ Try.func24 kr_ rfl #[.int .i64 t542] (by rfl) rfl rfl q2_ ?_
                 with_reducible refine (impl_CountThreshold.calls kj172 t542 t551 _ A206.out).mono ?_
                 rintro e w232 ⟨rfl, hb⟩
                 refine ⟨_, rfl, ?_⟩
                 have n0_ := A_ (Kd.R_below (M.Lr HO540) hb)
                 have n1_ := A_ (Kd.R_below (M.Lr HO548) hb)
                 have n2_ := A_ (blk_below (M.Lb BK485) hb)
                 have n3_ := A_ (blk_below (M.Lb BK530) hb)
                 have n4_ := A_ (blk_below (M.Lb BK534) hb)
                 have n5_ := A_ (blk_below (M.Lb BK541) hb)
                 have n6_ := A_ (blk_below (M.Lb BK545) hb)
                 have n7_ := A_ (below_step (M.Lw HB) hb)
                 clear HO540; clear HO548; clear BK485; clear BK530; clear BK534; clear BK541; clear BK545; clear HB; have HO540 := n0_; have HO548 := n1_; have BK485 := n2_; have BK530 := n3_; have BK534 := n4_; have BK541 := n5_; have BK545 := n6_; have HB := n7_; clear n0_ n1_ n2_ n3_ n4_ n5_ n6_ n7_; (try clear hb); (try clear hb2); (try clear hk); (try clear hi)
                 refine hK.out _ _ ⟨(blk_cell BK541.out 0).trans rfl, (blk_cell BK541.out 1).trans rfl, (blk_cell BK545.out 0).trans rfl, (blk_cell BK545.out 1).trans rfl⟩ (fun hHeld => ?_)
                 clear hK K
                 refine norm_ (a' := ?_) ?_ ?_
                 rotate_left
                 ·show Act.put _ (some 225) _ = _
                  simp only [Act.put, M.sT_, M.s0_, M.s1_, i64_w, i32_w]; rfl
                 refine one_ (i := 11) (N := some 227) #[true, true, true, true, true, true, true, true, true, true, true, true, false, false, false, false, false, false, false, false, false, false, false, false, false, false, false, false, false, false, false, false, false, false, false, false, false, false, false, false, false, false] rfl rfl (one_of HT_.out kr_) (by decide) (fun K hK => ?_)
                 refine goes_ Try.func25 kr_ rfl #[.int .i64 t542] (by rfl) rfl rfl q2_ ?_
                 with_reducible refine (spec_CountThreshold.calls kj172 t542 t552 _ A207.out).mono ?_
                 rintro e w233 ⟨rfl, hb⟩
                 refine ⟨_, rfl, ?_⟩
                 have n0_ := A_ (Kd.R_below (M.Lr HO540) hb)
                 have n1_ := A_ (Kd.R_below (M.Lr HO548) hb)
                 have n2_ := A_ (blk_below (M.Lb BK485) hb)
                 have n3_ := A_ (blk_below (M.Lb BK530) hb)
                 have n4_ := A_ (blk_below (M.Lb BK534) hb)
                 have n5_ := A_ (blk_below (M.Lb BK541) hb)
                 have n6_ := A_ (blk_below (M.Lb BK545) hb)
                 have n7_ := A_ (below_step (M.Lw HB) hb)
                 clear HO540; clear HO548; clear BK485; clear BK530; clear BK534; clear BK541; clear BK545; clear HB; have HO540 := n0_; have HO548 := n1_; have BK485 := n2_; have BK530 := n3_; have BK534 := n4_; have BK541 := n5_; have BK545 := n6_; have HB := n7_; clear n0_ n1_ n2_ n3_ n4_ n5_ n6_ n7_; (try clear hb); (try clear hb2); (try clear hk); (try clear hi)
                 refine hK.out _ _ ⟨(blk_cell BK541.out 0).trans rfl, (blk_cell BK541.out 1).trans rfl, (blk_cell BK545.out 0).trans rfl, (blk_cell BK545.out 1).trans rfl⟩ (fun hHeld => ?_)
                 clear hK K
                 refine norm_ (a' := ?_) ?_ ?_
                 rotate_left
                 ·show Act.put _ (some 227) _ = _
                  simp only [Act.put, M.sT_, M.s0_, M.s1_, i64_w, i32_w]; rfl
                 refine pure_ (i := 12) (N := some 228) (v := ?_) (a' := ?_) #[true, true, true, true, true, true, true, true, true, true, true, true, true, false, false, false, false, false, false, false, false, false, false, false, false, false, false, false, false, false, false, false, false, false, false, false, false, false, false, false, false, false] rfl rfl (any_of HT_.out kr_) (fun _ _ _ h => h) (Or.inl ⟨by rfl, ?_⟩) ?_ ?_; rotate_left
                 ·intro w'; go_simp; with_reducible rfl
                 rotate_left
                 ·simp only [Act.put, M.sT_, M.s0_, M.s1_, i64_w, i32_w]; rfl
                 refine pure_ (i := 13) (N := some 229) (v := ?_) (a' := ?_) #[true, true, true, true, true, true, true, true, true, true, true, true, true, true, false, false, false, false, false, false, false, false, false, false, false, false, false, false, false, false, false, false, false, false, false, false, false, false, false, false, false, false] rfl rfl (any_of HT_.out kr_) (fun _ _ _ h => h) (Or.inl ⟨by rfl, ?_⟩) ?_ ?_; rotate_left
                 ·intro w'; go_simp; with_reducible rfl
                 rotate_left
                 ·simp only [Act.put, M.sT_, M.s0_, M.s1_, i64_w, i32_w]; rfl
                 refine pure_ (i := 14) (N := some 230) (v := ?_) (a' := ?_) #[true, true, true, true, true, true, true, true, true, true, true, true, true, true, true, false, false, false, false, false, false, false, false, false, false, false, false, false, false, false, false, false, false, false, false, false, false, false, false, false, false, false] rfl rfl (any_of HT_.out kr_) (fun _ _ _ h => h) (Or.inl ⟨by rfl, ?_⟩) ?_ ?_; rotate_left
                 ·intro w'; go_simp; with_reducible rfl
                 rotate_left
                 ·simp only [Act.put, M.sT_, M.s0_, M.s1_, i64_w, i32_w]; rfl
                 refine pure_ (i := 15) (N := some 231) (v := ?_) (a' := ?_) #[true, true, true, true, true, true, true, true, true, true, true, true, true, true, true, true, false, false, false, false, false, false, false, false, false, false, false, false, false, false, false, false, false, false, false, false, false, false, false, false, false, false] rfl rfl (any_of HT_.out kr_) (fun _ _ _ h => h) (Or.inl ⟨by rfl, ?_⟩) ?_ ?_; rotate_left
                 ·intro w'; go_simp; with_reducible rfl
                 rotate_left
                 ·simp only [Act.put, M.sT_, M.s0_, M.s1_, i64_w, i32_w]; rfl
                 refine take_ (i := 16) (N := some 232) (v := ?_) (a' := ?_) #[true, true, true, true, true, true, true, true, true, true, true, true, true, true, true, true, true, false, false, false, false, false, false, false, false, false, false, false, false, false, false, false, false, false, false, false, false, false, false, false, false, false] rfl rfl (take_ofW HT_.out HW_.out kr_) (fun _ _ _ h => h) (Or.inl ⟨by rfl, ?_⟩) hHeld ?_ ?_
                 rotate_left
                 ·rintro w' ⟨s0, s1, s2, s3⟩
                  go_simp; with_reducible rfl
                 rotate_left
                 ·simp only [Act.put, M.sT_, M.s0_, M.s1_, i64_w, i32_w]; rfl
                 refine one_ (i := 17) (N := some 233) #[true, true, true, true, true, true, true, true, true, true, true, true, true, true, true, true, true, true, false, false, false, false, false, false, false, false, false, false, false, false, false, false, false, false, false, false, false, false, false, false, false, false] rfl rfl (one_of HT_.out kr_) (by decide) (fun K hK => ?_)
                 refine goes_ Try.func26 kr_ rfl #[.agg #[.int .i64 t543, .int .i64 t544]] (by rfl) rfl rfl q2_ ?_
                 with_reducible refine (spec_ChowNumbers.calls kj172 t543 t544 t553 _ A209.out).mono ?_
                 rintro e w234 ⟨v554, rfl, ho0, hb⟩
                 refine ⟨_, rfl, ?_⟩
                 have n0_ := A_ (Kd.R_elder' (M.Lr HO540) (Kd.R_base ho0) hb)
                 have n1_ := A_ (Kd.R_elder' (M.Lr HO548) (Kd.R_base ho0) hb)
                 have n2_ := A_ (Kd.R_lower (Kd.R_new' (Kd.R_new' ho0 (Kd.R_lt (M.Lr HO540))) (Kd.R_lt (M.Lr HO548))) (below_size (M.Lw HB)))
                 have n3_ := A_ (blk_below (M.Lb BK485) hb)
                 have n4_ := A_ (blk_below (M.Lb BK530) hb)
                 have n5_ := A_ (blk_below (M.Lb BK534) hb)
                 have n6_ := A_ (blk_below (M.Lb BK541) hb)
                 have n7_ := A_ (blk_below (M.Lb BK545) hb)
                 have n8_ := A_ (below_step (M.Lw HB) hb)
                 clear HO540; clear HO548; clear BK485; clear BK530; clear BK534; clear BK541; clear BK545; clear HB; have HO540 := n0_; have HO548 := n1_; have HO555 := n2_; have BK485 := n3_; have BK530 := n4_; have BK534 := n5_; have BK541 := n6_; have BK545 := n7_; have HB := n8_; clear n0_ n1_ n2_ n3_ n4_ n5_ n6_ n7_ n8_; (try clear hb); (try clear hb2); (try clear hk); (try clear hi); (try clear ho0)
                 obtain ⟨Ao235, co235, eo235⟩ := Kd.R_slice HO548.out
                 (first | subst eo235 | (injection eo235 with f1_ f2_ f3_; have f4_ := f1_.symm; have f5_ := f3_.symm; clear f1_ f2_ f3_; subst f4_; subst f5_))
                 obtain ⟨Ao236, co236, eo236⟩ := Kd.R_slice HO555.out
                 (first | subst eo236 | (injection eo236 with f1_ f2_ f3_; have f4_ := f1_.symm; have f5_ := f3_.symm; clear f1_ f2_ f3_; subst f4_; subst f5_))
                 refine hK.out _ _ ⟨(blk_cell BK541.out 0).trans rfl, (blk_cell BK541.out 1).trans rfl, (blk_cell BK545.out 0).trans rfl, (blk_cell BK545.out 1).trans rfl⟩ (fun hHeld => ?_)
                 clear hK K
                 refine norm_ (a' := ?_) ?_ ?_
                 rotate_left
                 ·show Act.put _ (some 233) _ = _
                  simp only [Act.put, M.sT_, M.s0_, M.s1_, i64_w, i32_w]; rfl
                 refine one_ (i := 18) (N := some 234) #[true, true, true, true, true, true, true, true, true, true, true, true, true, true, true, true, true, true, true, false, false, false, false, false, false, false, false, false, false, false, false, false, false, false, false, false, false, false, false, false, false, false] rfl rfl (one_of HT_.out kr_) (by decide) (fun K hK => ?_)
                 refine goes_ Try.func10 kr_ rfl #[.slice Ao235 t546.length co235, .slice Ao236 t553.length co236] (by rfl) rfl rfl q2_ ?_
                 with_reducible refine (laws_sameInts.calls kj172 _ _ t546 _ _ t553 true _ ?side1 ?side2 ?side3 ?side4 A210.out).mono ?_
                 (case side1 => repeat (first | exact (Kd.R_reads' HO548.out).2.2 | (with_reducible refine Kd.C_alloc ?_ _) | (with_reducible refine Kd.C_drewN ?_ _) | (with_reducible refine Kd.C_drew ?_)))
                 (case side2 => exact (Kd.R_reads' HO548.out).2.1)
                 (case side3 => repeat (first | exact (Kd.R_reads' HO555.out).2.2 | (with_reducible refine Kd.C_alloc ?_ _) | (with_reducible refine Kd.C_drewN ?_ _) | (with_reducible refine Kd.C_drew ?_)))
                 (case side4 => exact (Kd.R_reads' HO555.out).2.1)
                 rintro e w' ⟨rfl, ⟨nd, rfl⟩⟩
                 refine ⟨_, rfl, ?_⟩
                 refine hK.out _ _ ⟨(blk_cell BK541.out 0).trans rfl, (blk_cell BK541.out 1).trans rfl, (blk_cell BK545.out 0).trans rfl, (blk_cell BK545.out 1).trans rfl⟩ (fun hHeld => ?_)
                 clear hK K
                 refine norm_ (a' := ?_) ?_ ?_
                 rotate_left
                 ·show Act.put _ (some 234) _ = _
                  simp only [Act.put, M.sT_, M.s0_, M.s1_, i64_w, i32_w]; rfl
                 refine pure_ (i := 19) (N := some 235) (v := ?_) (a' := ?_) #[true, true, true, true, true, true, true, true, true, true, true, true, true, true, true, true, true, true, true, true, false, false, false, false, false, false, false, false, false, false, false, false, false, false, false, false, false, false, false, false, false, false] rfl rfl (any_of HT_.out kr_) (fun _ _ _ h => h) (Or.inl ⟨by rfl, ?_⟩) ?_ ?_; rotate_left
                 ·intro w'; go_simp; with_reducible rfl
                 rotate_left
                 ·simp only [Act.put, M.sT_, M.s0_, M.s1_, i64_w, i32_w]; rfl
                 refine pure_ (i := 20) (N := some 236) (v := ?_) (a' := ?_) #[true, true, true, true, true, true, true, true, true, true, true, true, true, true, true, true, true, true, true, true, true, false, false, false, false, false, false, false, false, false, false, false, false, false, false, false, false, false, false, false, false, false] rfl rfl (any_of HT_.out kr_) (fun _ _ _ h => h) (Or.inl ⟨by rfl, ?_⟩) ?_ ?_; rotate_left
                 ·intro w'; go_simp; with_reducible rfl
                 rotate_left
                 ·simp only [Act.put, M.sT_, M.s0_, M.s1_, i64_w, i32_w]; rfl
                 refine pure_ (i := 21) (N := some 237) (v := ?_) (a' := ?_) #[true, true, true, true, true, true, true, true, true, true, true, true, true, true, true, true, true, true, true, true, true, true, false, false, false, false, false, false, false, false, false, false, false, false, false, false, false, false, false, false, false, false] rfl rfl (any_of HT_.out kr_) (fun _ _ _ h => h) (Or.inl ⟨by rfl, ?_⟩) ?_ ?_; rotate_left
                 ·intro w'; go_simp; with_reducible rfl
                 rotate_left
                 ·simp only [Act.put, M.sT_, M.s0_, M.s1_, i64_w, i32_w]; rfl
                 refine pure_ (i := 22) (N := some 238) (v := ?_) (a' := ?_) #[true, true, true, true, true, true, true, true, true, true, true, true, true, true, true, true, true, true, true, true, true, true, true, false, false, false, false, false, false, false, false, false, false, false, false, false, false, false, false, false, false, false] rfl rfl (any_of HT_.out kr_) (fun _ _ _ h => h) (Or.inl ⟨by rfl, ?_⟩) ?_ ?_; rotate_left
                 ·intro w'; go_simp; with_reducible rfl
                 rotate_left
                 ·simp only [Act.put, M.sT_, M.s0_, M.s1_, i64_w, i32_w]; rfl
                 refine pure_ (i := 23) (N := some 239) (v := ?_) (a' := ?_) #[true, true, true, true, true, true, true, true, true, true, true, true, true, true, true, true, true, true, true, true, true, true, true, true, false, false, false, false, false, false, false, false, false, false, false, false, false, false, false, false, false, false] rfl rfl (any_of HT_.out kr_) (fun _ _ _ h => h) (Or.inl ⟨by rfl, ?_⟩) ?_ ?_; rotate_left
                 ·intro w'; go_simp; with_reducible rfl
                 rotate_left
                 ·simp only [Act.put, M.sT_, M.s0_, M.s1_, i64_w, i32_w]; rfl
                 refine pure_ (i := 24) (N := some 240) (v := ?_) (a' := ?_) #[true, true, true, true, true, true, true, true, true, true, true, true, true, true, true, true, true, true, true, true, true, true, true, true, true, false, false, false, false, false, false, false, false, false, false, false, false, false, false, false, false, false] rfl rfl (any_of HT_.out kr_) (fun _ _ _ h => h) (Or.inl ⟨by rfl, ?_⟩) ?_ ?_; rotate_left
                 ·intro w'; go_simp; with_reducible rfl
                 rotate_left
                 ·simp only [Act.put, M.sT_, M.s0_, M.s1_, i64_w, i32_w]; rfl
                 refine pure_ (i := 25) (N := some 241) (v := undef) (a' := ?_) #[true, true, true, true, true, true, true, true, true, true, true, true, true, true, true, true, true, true, true, true, true, true, true, true, true, true, false, false, false, false, false, false, false, false, false, false, false, false, false, false, false, false] rfl rfl (any_of HT_.out kr_) (fun _ _ _ h => h) (Or.inr ⟨by rfl, rfl⟩) ?_ ?_; rotate_left
                 ·simp only [Act.put, M.sT_, M.s0_, M.s1_, i64_w, i32_w]; rfl
                 refine pure_ (i := 26) (N := some 242) (v := undef) (a' := ?_) #[true, true, true, true, true, true, true, true, true, true, true, true, true, true, true, true, true, true, true, true, true, true, true, true, true, true, true, false, false, false, false, false, false, false, false, false, false, false, false, false, false, false] rfl rfl (any_of HT_.out kr_) (fun _ _ _ h => h) (Or.inr ⟨by rfl, rfl⟩) ?_ ?_; rotate_left
                 ·simp only [Act.put, M.sT_, M.s0_, M.s1_, i64_w, i32_w]; rfl
                 refine pure_ (i := 27) (N := some 243) (v := undef) (a' := ?_) #[true, true, true, true, true, true, true, true, true, true, true, true, true, true, true, true, true, true, true, true, true, true, true, true, true, true, true, true, false, false, false, false, false, false, false, false, false, false, false, false, false, false] rfl rfl (any_of HT_.out kr_) (fun _ _ _ h => h) (Or.inr ⟨by rfl, rfl⟩) ?_ ?_; rotate_left
                 ·simp only [Act.put, M.sT_, M.s0_, M.s1_, i64_w, i32_w]; rfl
                 refine pure_ (i := 28) (N := some 244) (v := undef) (a' := ?_) #[true, true, true, true, true, true, true, true, true, true, true, true, true, true, true, true, true, true, true, true, true, true, true, true, true, true, true, true, true, false, false, false, false, false, false, false, false, false, false, false, false, false] rfl rfl (any_of HT_.out kr_) (fun _ _ _ h => h) (Or.inr ⟨by rfl, rfl⟩) ?_ ?_; rotate_left
                 ·simp only [Act.put, M.sT_, M.s0_, M.s1_, i64_w, i32_w]; rfl
                 refine pure_ (i := 29) (N := some 245) (v := undef) (a' := ?_) #[true, true, true, true, true, true, true, true, true, true, true, true, true, true, true, true, true, true, true, true, true, true, true, true, true, true, true, true, true, true, false, false, false, false, false, false, false, false, false, false, false, false] rfl rfl (any_of HT_.out kr_) (fun _ _ _ h => h) (Or.inr ⟨by rfl, rfl⟩) ?_ ?_; rotate_left
                 ·simp only [Act.put, M.sT_, M.s0_, M.s1_, i64_w, i32_w]; rfl
                 refine pure_ (i := 30) (N := some 246) (v := undef) (a' := ?_) #[true, true, true, true, true, true, true, true, true, true, true, true, true, true, true, true, true, true, true, true, true, true, true, true, true, true, true, true, true, true, true, false, false, false, false, false, false, false, false, false, false, false] rfl rfl (any_of HT_.out kr_) (fun _ _ _ h => h) (Or.inr ⟨by rfl, rfl⟩) ?_ ?_; rotate_left
                 ·simp only [Act.put, M.sT_, M.s0_, M.s1_, i64_w, i32_w]; rfl
                 refine pure_ (i := 31) (N := some 247) (v := undef) (a' := ?_) #[true, true, true, true, true, true, true, true, true, true, true, true, true, true, true, true, true, true, true, true, true, true, true, true, true, true, true, true, true, true, true, true, false, false, false, false, false, false, false, false, false, false] rfl rfl (any_of HT_.out kr_) (fun _ _ _ h => h) (Or.inr ⟨by rfl, rfl⟩) ?_ ?_; rotate_left
                 ·simp only [Act.put, M.sT_, M.s0_, M.s1_, i64_w, i32_w]; rfl
                 refine pure_ (i := 32) (N := some 248) (v := undef) (a' := ?_) #[true, true, true, true, true, true, true, true, true, true, true, true, true, true, true, true, true, true, true, true, true, true, true, true, true, true, true, true, true, true, true, true, true, false, false, false, false, false, false, false, false, false] rfl rfl (any_of HT_.out kr_) (fun _ _ _ h => h) (Or.inr ⟨by rfl, rfl⟩) ?_ ?_; rotate_left
                 ·simp only [Act.put, M.sT_, M.s0_, M.s1_, i64_w, i32_w]; rfl
                 refine pure_ (i := 33) (N := some 249) (v := undef) (a' := ?_) #[true, true, true, true, true, true, true, true, true, true, true, true, true, true, true, true, true, true, true, true, true, true, true, true, true, true, true, true, true, true, true, true, true, true, false, false, false, false, false, false, false, false] rfl rfl (any_of HT_.out kr_) (fun _ _ _ h => h) (Or.inr ⟨by rfl, rfl⟩) ?_ ?_; rotate_left
                 ·simp only [Act.put, M.sT_, M.s0_, M.s1_, i64_w, i32_w]; rfl
                 refine pure_ (i := 34) (N := some 250) (v := undef) (a' := ?_) #[true, true, true, true, true, true, true, true, true, true, true, true, true, true, true, true, true, true, true, true, true, true, true, true, true, true, true, true, true, true, true, true, true, true, true, false, false, false, false, false, false, false] rfl rfl (any_of HT_.out kr_) (fun _ _ _ h => h) (Or.inr ⟨by rfl, rfl⟩) ?_ ?_; rotate_left
                 ·simp only [Act.put, M.sT_, M.s0_, M.s1_, i64_w, i32_w]; rfl
                 refine pure_ (i := 35) (N := some 251) (v := undef) (a' := ?_) #[true, true, true, true, true, true, true, true, true, true, true, true, true, true, true, true, true, true, true, true, true, true, true, true, true, true, true, true, true, true, true, true, true, true, true, true, false, false, false, false, false, false] rfl rfl (any_of HT_.out kr_) (fun _ _ _ h => h) (Or.inr ⟨by rfl, rfl⟩) ?_ ?_; rotate_left
                 ·simp only [Act.put, M.sT_, M.s0_, M.s1_, i64_w, i32_w]; rfl
                 refine pure_ (i := 36) (N := some 252) (v := undef) (a' := ?_) #[true, true, true, true, true, true, true, true, true, true, true, true, true, true, true, true, true, true, true, true, true, true, true, true, true, true, true, true, true, true, true, true, true, true, true, true, true, false, false, false, false, false] rfl rfl (any_of HT_.out kr_) (fun _ _ _ h => h) (Or.inr ⟨by rfl, rfl⟩) ?_ ?_; rotate_left
                 ·simp only [Act.put, M.sT_, M.s0_, M.s1_, i64_w, i32_w]; rfl
                 refine pure_ (i := 37) (N := some 253) (v := undef) (a' := ?_) #[true, true, true, true, true, true, true, true, true, true, true, true, true, true, true, true, true, true, true, true, true, true, true, true, true, true, true, true, true, true, true, true, true, true, true, true, true, true, false, false, false, false] rfl rfl (any_of HT_.out kr_) (fun _ _ _ h => h) (Or.inr ⟨by rfl, rfl⟩) ?_ ?_; rotate_left
                 ·simp only [Act.put, M.sT_, M.s0_, M.s1_, i64_w, i32_w]; rfl
                 refine pure_ (i := 38) (N := some 254) (v := undef) (a' := ?_) #[true, true, true, true, true, true, true, true, true, true, true, true, true, true, true, true, true, true, true, true, true, true, true, true, true, true, true, true, true, true, true, true, true, true, true, true, true, true, true, false, false, false] rfl rfl (any_of HT_.out kr_) (fun _ _ _ h => h) (Or.inr ⟨by rfl, rfl⟩) ?_ ?_; rotate_left
                 ·simp only [Act.put, M.sT_, M.s0_, M.s1_, i64_w, i32_w]; rfl
                 refine pure_ (i := 39) (N := some 255) (v := ?_) (a' := ?_) #[true, true, true, true, true, true, true, true, true, true, true, true, true, true, true, true, true, true, true, true, true, true, true, true, true, true, true, true, true, true, true, true, true, true, true, true, true, true, true, true, false, false] rfl rfl (any_of HT_.out kr_) (fun _ _ _ h => h) (Or.inl ⟨by rfl, ?_⟩) ?_ ?_; rotate_left
                 ·intro w'; go_simp; with_reducible rfl
                 rotate_left
                 ·simp only [Act.put, M.sT_, M.s0_, M.s1_, i64_w, i32_w]; rfl
                 refine pure_ (i := 40) (N := some 256) (v := ?_) (a' := ?_) #[true, true, true, true, true, true, true, true, true, true, true, true, true, true, true, true, true, true, true, true, true, true, true, true, true, true, true, true, true, true, true, true, true, true, true, true, true, true, true, true, true, false] rfl rfl (any_of HT_.out kr_) (fun _ _ _ h => h) (Or.inl ⟨by rfl, ?_⟩) ?_ ?_; rotate_left
                 ·intro w'; go_simp; with_reducible rfl
                 rotate_left
                 ·simp only [Act.put, M.sT_, M.s0_, M.s1_, i64_w, i32_w]; rfl
                 refine pure_ (i := 41) (N := some 2) (v := ?_) (a' := ?_) #[true, true, true, true, true, true, true, true, true, true, true, true, true, true, true, true, true, true, true, true, true, true, true, true, true, true, true, true, true, true, true, true, true, true, true, true, true, true, true, true, true, true] rfl rfl (any_of HT_.out kr_) (fun _ _ _ h => h) (Or.inl ⟨by rfl, ?_⟩) ?_ ?_; rotate_left
                 ·intro w'; go_simp; with_reducible rfl
                 rotate_left
                 ·simp only [Act.put, M.sT_, M.s0_, M.s1_, i64_w, i32_w]; rfl
                 refine done_ (done_of HT_.out kr_) ?_
                 try go_wp2
                 go_ret
                 exact ⟨q7_, M.Lw HB⟩
                ·rw [if_neg c212] at H
                 have c212b0 : ((t546.length : Int) == 0) = false := beq_eq_false_iff_ne.mpr c212
                 have c212b1 : ((t546.length : Int) != 0) = true := bne_iff_ne.mpr c212
                 have c212b2 : ¬ (t546 = []) := fun h_ => c212 (by rw [h_]; rfl)
                 by_cases c237 : 0 < (t546.length : Int)
                 ·rw [if_pos c237] at H
                  have c237b0 : decide (0 < (t546.length : Int)) = true := decide_eq_true c237
                  have c237b1 : decide (0 < t546.length) = true := decide_eq_true (by omega)
                  clear c237; replace H := Option.bind_eq_some_iff.mp H; obtain ⟨t558, A2380, H⟩ := H; (try dsimp only at H); have A238 := A_ A2380; clear A2380
                  by_cases c239 : (rd t546 0) = t558
                  ·rw [if_pos c239] at H
                   have c239b0 : ((rd t546 0) == t558) = true := beq_iff_eq.mpr c239
                   have c239b1 : ((rd t546 0) != t558) = false := bne_eq_false_iff_eq.mpr c239
                   clear c239
                   obtain rfl := Option.some.inj H
                   try go_wp2_with (first | ((with_reducible refine gate_callee (f := 19) rfl ?_); refine goesL_ (some 207) rfl rfl Try.func19 kr_ rfl #[.slice A0 l0.length c0] rfl q2_ ?_; (with_reducible refine (spec_DrawIsContradiction.calls kj172 _ _ l0 t536 t537 t538 _ ?side1 ?side2 A199.out).mono ?_); (case side1 => exact q14_); (case side2 => exact HC0.out); rintro e w240 ⟨v539, rfl, ho0, hb⟩; refine ⟨_, rfl, ?_⟩; have HO540 := A_ (Kd.R_lower ho0 (below_size q0_)); replace BK485 := A_ (blk_below (M.Lb BK485) hb); replace BK530 := A_ (blk_below (M.Lb BK530) hb); replace BK534 := A_ (blk_below (M.Lb BK534) hb); replace HB := A_ (below_step q0_ hb); (try clear hb); (try clear hb2); (try clear hk); (try clear hi); (try clear ho0)) | ((with_reducible refine gate_dst (N := 24) rfl ?_); (try (refine gate_guard (by rfl) ?_; dsimp only)); refine box_event ?hg (N := 24) ?hd (cs := #[.int .i64 0, .int .i64 0]) (t := 25) ?hr ?_; (case hd => rfl); (case hg => rfl); (case hr => first | (go_simp; done) | (go_simp; rfl)); intro gb541 hg w241 hbox hb; replace HO540 := A_ (Kd.R_below (M.Lr HO540) hb); have BK541 := A_ (hbox); have GW541 := A_ ((by rw [hg]; exact (below_size q0_) : w.heap.size ≤ gb541)); have GE541 := A_ ((by rw [hg]; exact (below_size q0_) : w.heap.size ≤ gb541)); replace HB := A_ (below_step q0_ hb); have NB485_541 := A_ ((by rw [hg]; exact Nat.ne_of_lt (blk_lt (M.Lb BK485)) : gb485 ≠ gb541)); have NB541_485 := A_ ((by rw [hg]; exact Nat.ne_of_gt (blk_lt (M.Lb BK485)) : gb541 ≠ gb485)); replace BK485 := A_ (blk_below (M.Lb BK485) hb); have NB530_541 := A_ ((by rw [hg]; exact Nat.ne_of_lt (blk_lt (M.Lb BK530)) : gb530 ≠ gb541)); have NB541_530 := A_ ((by rw [hg]; exact Nat.ne_of_gt (blk_lt (M.Lb BK530)) : gb541 ≠ gb530)); replace BK530 := A_ (blk_below (M.Lb BK530) hb); have NB534_541 := A_ ((by rw [hg]; exact Nat.ne_of_lt (blk_lt (M.Lb BK534)) : gb534 ≠ gb541)); have NB541_534 := A_ ((by rw [hg]; exact Nat.ne_of_gt (blk_lt (M.Lb BK534)) : gb541 ≠ gb534)); replace BK534 := A_ (blk_below (M.Lb BK534) hb); clear hb hbox hg; have hnb242 := NB541_485.out; have hnc242 := NB485_541.out; have hnb243 := NB541_530.out; have hnc243 := NB530_541.out; have hnb244 := NB541_534.out; have hnc244 := NB534_541.out; have hcz245_0 := c20_ BK541; have hcz245_1 := c21_ BK541; have hfz245_0 := blk_frozen BK541.out 0; have hfz245_1 := blk_frozen BK541.out 1) | ((with_reducible refine gate_callee (f := 20) rfl ?_); refine goesL_ (some 211) rfl rfl Try.func20 kr_ rfl #[.slice A0 l0.length c0] rfl q2_ ?_; (with_reducible refine (spec_DrawCountThreshold.calls kj172 _ _ l0 t542 _ ?side1 ?side2 A200.out).mono ?_); (case side1 => exact Kd.C_below HR0.out q0_); (case side2 => exact HC0.out); rintro e w246 ⟨rfl, hb⟩; refine ⟨_, rfl, ?_⟩; replace HO540 := A_ (Kd.R_below (by (with_reducible repeat (first | apply Kd.R_alloc | apply Kd.R_drewN | apply Kd.R_drew)); exact (Kd.R_mono (Kd.R_far (p := ⟨gb541, 1, none⟩) (Kd.R_far (p := ⟨gb541, 0, none⟩) (Kd.R_types HO540.out BK541.out (by decide)) (fun _ hk => hk.2) (.int .i64 t536)) (fun _ hk => hk.2) (.int .i64 t537)) (fun _ h_ => h_.1))) hb); replace BK485 := A_ (blk_below (g := gb485) (o := .cells #[.int .i64 t483, .int .i64 t484] 25 (0, 0)) (by (with_reducible repeat (first | refine blk_drewN ?_ _ | refine blk_drew ?_ | refine blk_alloc ?_ _)); refine blk_far ?_ NB485_541.out _; (with_reducible repeat (first | refine blk_drewN ?_ _ | refine blk_drew ?_ | refine blk_alloc ?_ _)); refine blk_far ?_ NB485_541.out _; (with_reducible repeat (first | refine blk_drewN ?_ _ | refine blk_drew ?_ | refine blk_alloc ?_ _)); exact BK485.out) hb); replace BK530 := A_ (blk_below (g := gb530) (o := .cells #[.int .i64 t527, .int .i64 t528] 25 (0, 0)) (by (with_reducible repeat (first | refine blk_drewN ?_ _ | refine blk_drew ?_ | refine blk_alloc ?_ _)); refine blk_far ?_ NB530_541.out _; (with_reducible repeat (first | refine blk_drewN ?_ _ | refine blk_drew ?_ | refine blk_alloc ?_ _)); refine blk_far ?_ NB530_541.out _; (with_reducible repeat (first | refine blk_drewN ?_ _ | refine blk_drew ?_ | refine blk_alloc ?_ _)); exact BK530.out) hb); replace BK534 := A_ (blk_below (g := gb534) (o := .cells #[.int .i64 t531, .int .i64 t532] 25 (0, 0)) (by (with_reducible repeat (first | refine blk_drewN ?_ _ | refine blk_drew ?_ | refine blk_alloc ?_ _)); refine blk_far ?_ NB534_541.out _; (with_reducible repeat (first | refine blk_drewN ?_ _ | refine blk_drew ?_ | refine blk_alloc ?_ _)); refine blk_far ?_ NB534_541.out _; (with_reducible repeat (first | refine blk_drewN ?_ _ | refine blk_drew ?_ | refine blk_alloc ?_ _)); exact BK534.out) hb); replace BK541 := A_ (blk_below (g := gb541) (o := .cells #[.int .i64 t536, .int .i64 t537] 25 (0, 0)) (by (with_reducible repeat (first | refine blk_drewN ?_ _ | refine blk_drew ?_ | refine blk_alloc ?_ _)); refine blk_put (cs := #[.int .i64 t536, .int .i64 0]) ?_ 1 _ rfl; (with_reducible repeat (first | refine blk_drewN ?_ _ | refine blk_drew ?_ | refine blk_alloc ?_ _)); refine blk_put (cs := #[.int .i64 0, .int .i64 0]) ?_ 0 _ rfl; (with_reducible repeat (first | refine blk_drewN ?_ _ | refine blk_drew ?_ | refine blk_alloc ?_ _)); exact BK541.out) hb); replace HB := A_ (below_step q0_ hb); (try clear hb); (try clear hb2); (try clear hk); (try clear hi)) | ((with_reducible refine gate_callee (f := 21) rfl ?_); refine goesL_ (some 213) rfl rfl Try.func21 kr_ rfl #[.slice A0 l0.length c0] rfl q2_ ?_; (with_reducible refine (spec_DrawChowNumbers.calls kj172 _ _ l0 t543 t544 _ ?side1 ?side2 A201.out).mono ?_); (case side1 => exact q14_); (case side2 => exact HC0.out); rintro e w247 ⟨rfl, hb⟩; refine ⟨_, rfl, ?_⟩; replace HO540 := A_ (Kd.R_below (M.Lr HO540) hb); replace BK485 := A_ (blk_below (M.Lb BK485) hb); replace BK530 := A_ (blk_below (M.Lb BK530) hb); replace BK534 := A_ (blk_below (M.Lb BK534) hb); replace BK541 := A_ (blk_below (M.Lb BK541) hb); replace HB := A_ (below_step q0_ hb); (try clear hb); (try clear hb2); (try clear hk); (try clear hi)) | ((with_reducible refine gate_dst (N := 27) rfl ?_); (try (refine gate_guard (by rfl) ?_; dsimp only)); refine box_event ?hg (N := 27) ?hd (cs := #[.int .i64 0, .int .i64 0]) (t := 25) ?hr ?_; (case hd => rfl); (case hg => rfl); (case hr => first | (go_simp; done) | (go_simp; rfl)); intro gb545 hg w248 hbox hb; replace HO540 := A_ (Kd.R_below (M.Lr HO540) hb); have BK545 := A_ (hbox); have GW545 := A_ ((by rw [hg]; exact (below_size q0_) : w.heap.size ≤ gb545)); have GE545 := A_ ((by rw [hg]; exact (below_size q0_) : w.heap.size ≤ gb545)); replace HB := A_ (below_step q0_ hb); have NB485_545 := A_ ((by rw [hg]; exact Nat.ne_of_lt (blk_lt (M.Lb BK485)) : gb485 ≠ gb545)); have NB545_485 := A_ ((by rw [hg]; exact Nat.ne_of_gt (blk_lt (M.Lb BK485)) : gb545 ≠ gb485)); replace BK485 := A_ (blk_below (M.Lb BK485) hb); have NB530_545 := A_ ((by rw [hg]; exact Nat.ne_of_lt (blk_lt (M.Lb BK530)) : gb530 ≠ gb545)); have NB545_530 := A_ ((by rw [hg]; exact Nat.ne_of_gt (blk_lt (M.Lb BK530)) : gb545 ≠ gb530)); replace BK530 := A_ (blk_below (M.Lb BK530) hb); have NB534_545 := A_ ((by rw [hg]; exact Nat.ne_of_lt (blk_lt (M.Lb BK534)) : gb534 ≠ gb545)); have NB545_534 := A_ ((by rw [hg]; exact Nat.ne_of_gt (blk_lt (M.Lb BK534)) : gb545 ≠ gb534)); replace BK534 := A_ (blk_below (M.Lb BK534) hb); have NB541_545 := A_ ((by rw [hg]; exact Nat.ne_of_lt (blk_lt (M.Lb BK541)) : gb541 ≠ gb545)); have NB545_541 := A_ ((by rw [hg]; exact Nat.ne_of_gt (blk_lt (M.Lb BK541)) : gb545 ≠ gb541)); replace BK541 := A_ (blk_below (M.Lb BK541) hb); clear hb hbox hg; have hnb249 := NB545_485.out; have hnc249 := NB485_545.out; have hnb250 := NB545_530.out; have hnc250 := NB530_545.out; have hnb251 := NB545_534.out; have hnc251 := NB534_545.out; have hnb252 := NB545_541.out; have hnc252 := NB541_545.out; have hcz253_0 := c20_ BK545; have hcz253_1 := c21_ BK545; have hfz253_0 := blk_frozen BK545.out 0; have hfz253_1 := blk_frozen BK545.out 1) | ((with_reducible refine gate_callee (f := 22) rfl ?_); refine goesL_ (some 215) rfl rfl Try.func22 kr_ rfl #[.agg #[.int .i64 t543, .int .i64 t544]] rfl q2_ ?_; (with_reducible refine (impl_ChowNumbers.calls kj172 t543 t544 t546 _ A202.out).mono ?_); rintro e w254 ⟨v547, rfl, ho0, hb⟩; refine ⟨_, rfl, ?_⟩; have HO548 := A_ (Kd.R_lower (Kd.R_new' ho0 (Kd.R_lt (by (with_reducible repeat (first | apply Kd.R_alloc | apply Kd.R_drewN | apply Kd.R_drew)); exact (Kd.R_mono (Kd.R_far (p := ⟨gb545, 1, none⟩) (Kd.R_far (p := ⟨gb545, 0, none⟩) (Kd.R_types HO540.out BK545.out (by decide)) (fun _ hk => hk.2) (.int .i64 t543)) (fun _ hk => hk.2) (.int .i64 t544)) (fun _ h_ => h_.1))))) (below_size q0_)); replace HO540 := A_ (Kd.R_elder' (by (with_reducible repeat (first | apply Kd.R_alloc | apply Kd.R_drewN | apply Kd.R_drew)); exact (Kd.R_mono (Kd.R_far (p := ⟨gb545, 1, none⟩) (Kd.R_far (p := ⟨gb545, 0, none⟩) (Kd.R_types HO540.out BK545.out (by decide)) (fun _ hk => hk.2) (.int .i64 t543)) (fun _ hk => hk.2) (.int .i64 t544)) (fun _ h_ => h_.1))) (Kd.R_base ho0) hb); replace BK485 := A_ (blk_below (g := gb485) (o := .cells #[.int .i64 t483, .int .i64 t484] 25 (0, 0)) (by (with_reducible repeat (first | refine blk_drewN ?_ _ | refine blk_drew ?_ | refine blk_alloc ?_ _)); refine blk_far ?_ NB485_545.out _; (with_reducible repeat (first | refine blk_drewN ?_ _ | refine blk_drew ?_ | refine blk_alloc ?_ _)); refine blk_far ?_ NB485_545.out _; (with_reducible repeat (first | refine blk_drewN ?_ _ | refine blk_drew ?_ | refine blk_alloc ?_ _)); exact BK485.out) hb); replace BK530 := A_ (blk_below (g := gb530) (o := .cells #[.int .i64 t527, .int .i64 t528] 25 (0, 0)) (by (with_reducible repeat (first | refine blk_drewN ?_ _ | refine blk_drew ?_ | refine blk_alloc ?_ _)); refine blk_far ?_ NB530_545.out _; (with_reducible repeat (first | refine blk_drewN ?_ _ | refine blk_drew ?_ | refine blk_alloc ?_ _)); refine blk_far ?_ NB530_545.out _; (with_reducible repeat (first | refine blk_drewN ?_ _ | refine blk_drew ?_ | refine blk_alloc ?_ _)); exact BK530.out) hb); replace BK534 := A_ (blk_below (g := gb534) (o := .cells #[.int .i64 t531, .int .i64 t532] 25 (0, 0)) (by (with_reducible repeat (first | refine blk_drewN ?_ _ | refine blk_drew ?_ | refine blk_alloc ?_ _)); refine blk_far ?_ NB534_545.out _; (with_reducible repeat (first | refine blk_drewN ?_ _ | refine blk_drew ?_ | refine blk_alloc ?_ _)); refine blk_far ?_ NB534_545.out _; (with_reducible repeat (first | refine blk_drewN ?_ _ | refine blk_drew ?_ | refine blk_alloc ?_ _)); exact BK534.out) hb); replace BK541 := A_ (blk_below (g := gb541) (o := .cells #[.int .i64 t536, .int .i64 t537] 25 (0, 0)) (by (with_reducible repeat (first | refine blk_drewN ?_ _ | refine blk_drew ?_ | refine blk_alloc ?_ _)); refine blk_far ?_ NB541_545.out _; (with_reducible repeat (first | refine blk_drewN ?_ _ | refine blk_drew ?_ | refine blk_alloc ?_ _)); refine blk_far ?_ NB541_545.out _; (with_reducible repeat (first | refine blk_drewN ?_ _ | refine blk_drew ?_ | refine blk_alloc ?_ _)); exact BK541.out) hb); replace BK545 := A_ (blk_below (g := gb545) (o := .cells #[.int .i64 t543, .int .i64 t544] 25 (0, 0)) (by (with_reducible repeat (first | refine blk_drewN ?_ _ | refine blk_drew ?_ | refine blk_alloc ?_ _)); refine blk_put (cs := #[.int .i64 t543, .int .i64 0]) ?_ 1 _ rfl; (with_reducible repeat (first | refine blk_drewN ?_ _ | refine blk_drew ?_ | refine blk_alloc ?_ _)); refine blk_put (cs := #[.int .i64 0, .int .i64 0]) ?_ 0 _ rfl; (with_reducible repeat (first | refine blk_drewN ?_ _ | refine blk_drew ?_ | refine blk_alloc ?_ _)); exact BK545.out) hb); replace HB := A_ (below_step q0_ hb); (try clear hb); (try clear hb2); (try clear hk); (try clear hi); (try clear ho0)))
                   have n0_ := A_ (Kd.R_drew HO540.out)
                   have n1_ := A_ (Kd.R_drew HO548.out)
                   have n2_ := A_ (blk_drew BK485.out)
                   have n3_ := A_ (blk_drew BK530.out)
                   have n4_ := A_ (blk_drew BK534.out)
                   have n5_ := A_ (blk_drew BK541.out)
                   have n6_ := A_ (blk_drew BK545.out)
                   have n7_ := A_ (below_drew1 HB.out)
                   clear HO540; clear HO548; clear BK485; clear BK530; clear BK534; clear BK541; clear BK545; clear HB; have HO540 := n0_; have HO548 := n1_; have BK485 := n2_; have BK530 := n3_; have BK534 := n4_; have BK541 := n5_; have BK545 := n6_; have HB := n7_; clear n0_ n1_ n2_ n3_ n4_ n5_ n6_ n7_
                   obtain ⟨Ao256, co256, eo256⟩ := Kd.R_slice HO540.out
                   (first | subst eo256 | (injection eo256 with f1_ f2_ f3_; have f4_ := f1_.symm; have f5_ := f3_.symm; clear f1_ f2_ f3_; subst f4_; subst f5_))
                   have p557 : 0 ≤ (0 : Int) := (by omega)
                   have q557 : 0 < (t546.length : Int) := of_decide_eq_true q5_
                   obtain ⟨Ao262, co262, ez_557⟩ := Kd.R_slice HO548.out
                   (first | subst ez_557 | clear ez_557)
                   obtain ⟨ad557, e557, hx557_0⟩ := Kd.at_int (Kd.R_reads' HO548.out).2.2 0 p557 q557
                   cases e557
                   have qi557 : (0 < t546.length) = True := eq_true (by omega)
                   (try rw [show ((0 : Int)).toNat = 0 from rfl] at hx557_0)
                   (try rw [Addr.add_zero'] at hx557_0)
                   replace p557 := eq_true p557
                   replace q557 := eq_true q557
                   refine start_ (n := 42) (S := fun w' => w'.cell? ⟨gb541, 0, none⟩ = some (.int .i64 t536) ∧ w'.cell? ⟨gb541, 1, none⟩ = some (.int .i64 t537) ∧ w'.cell? ⟨gb545, 0, none⟩ = some (.int .i64 t543) ∧ w'.cell? ⟨gb545, 1, none⟩ = some (.int .i64 t544) ∧ w'.cell? ad557 = some (.int .i64 (rd t546 0))) (ds := []) #[false, false, false, false, false, false, false, false, false, false, false, false, false, false, false, false, false, false, false, false, false, false, false, false, false, false, false, false, false, false, false, false, false, false, false, false, false, false, false, false, false, false] kr_ rfl rfl ⟨(blk_cell BK541.out 0).trans rfl, (blk_cell BK541.out 1).trans rfl, (blk_cell BK545.out 0).trans rfl, (blk_cell BK545.out 1).trans rfl, hx557_0⟩ (fun hHeld => ?_); refine with_tabW laws_FnThreshold.tab31 laws_FnThreshold.bits31 (fun HT_ HW_ => ?_)
                   generalize w254.drew = w255 at HO540 HO548 BK485 BK530 BK534 BK541 BK545 HB hx557_0 hHeld ⊢
                   refine pure_ (i := 1) (N := some 217) (v := ?_) (a' := ?_) #[false, true, false, false, false, false, false, false, false, false, false, false, false, false, false, false, false, false, false, false, false, false, false, false, false, false, false, false, false, false, false, false, false, false, false, false, false, false, false, false, false, false] rfl rfl (any_of HT_.out kr_) (fun _ _ _ h => h) (Or.inl ⟨by rfl, ?_⟩) ?_ ?_; rotate_left
                   ·intro w'; go_simp; with_reducible rfl
                   rotate_left
                   ·simp only [Act.put, M.sT_, M.s0_, M.s1_, i64_w, i32_w]; rfl
                   refine pure_ (i := 4) (N := some 220) (v := ?_) (a' := ?_) #[false, true, false, false, true, false, false, false, false, false, false, false, false, false, false, false, false, false, false, false, false, false, false, false, false, false, false, false, false, false, false, false, false, false, false, false, false, false, false, false, false, false] rfl rfl (any_of HT_.out kr_) (fun _ _ _ h => h) (Or.inl ⟨by rfl, ?_⟩) ?_ ?_; rotate_left
                   ·intro w'; go_simp; with_reducible rfl
                   rotate_left
                   ·simp only [Act.put, M.sT_, M.s0_, M.s1_, i64_w, i32_w]; rfl
                   refine take_ (i := 0) (N := some 216) (v := ?_) (a' := ?_) #[true, true, false, false, true, false, false, false, false, false, false, false, false, false, false, false, false, false, false, false, false, false, false, false, false, false, false, false, false, false, false, false, false, false, false, false, false, false, false, false, false, false] rfl rfl (take_ofW HT_.out HW_.out kr_) (fun _ _ _ h => h) (Or.inl ⟨by rfl, ?_⟩) hHeld ?_ ?_
                   rotate_left
                   ·rintro w' ⟨s0, s1, s2, s3, s4⟩
                    go_simp; with_reducible rfl
                   rotate_left
                   ·simp only [Act.put, M.sT_, M.s0_, M.s1_, i64_w, i32_w]; rfl
                   refine take_ (i := 3) (N := some 219) (v := ?_) (a' := ?_) #[true, true, false, true, true, false, false, false, false, false, false, false, false, false, false, false, false, false, false, false, false, false, false, false, false, false, false, false, false, false, false, false, false, false, false, false, false, false, false, false, false, false] rfl rfl (take_ofW HT_.out HW_.out kr_) (fun _ _ _ h => h) (Or.inl ⟨by rfl, ?_⟩) hHeld ?_ ?_
                   rotate_left
                   ·rintro w' ⟨s0, s1, s2, s3, s4⟩
                    go_simp; with_reducible rfl
                   rotate_left
                   ·simp only [Act.put, M.sT_, M.s0_, M.s1_, i64_w, i32_w]; rfl
                   refine one_ (i := 2) (N := some 218) #[true, true, true, true, true, false, false, false, false, false, false, false, false, false, false, false, false, false, false, false, false, false, false, false, false, false, false, false, false, false, false, false, false, false, false, false, false, false, false, false, false, false] rfl rfl (one_of HT_.out kr_) (by decide) (fun K hK => ?_)
                   refine goes_ Try.func15 kr_ rfl #[.agg #[.int .i64 t536, .int .i64 t537], .slice Ao256 t538.length co256] (by rfl) rfl rfl q2_ ?_
                   with_reducible refine (impl_IsContradiction.calls kj172 t536 t537 _ _ t538 t549 _ ?side1 ?side2 A203.out).mono ?_
                   (case side1 => repeat (first | exact (Kd.R_reads' HO540.out).2.2 | (with_reducible refine Kd.C_alloc ?_ _) | (with_reducible refine Kd.C_drewN ?_ _) | (with_reducible refine Kd.C_drew ?_)))
                   (case side2 => exact (Kd.R_reads' HO540.out).2.1)
                   rintro e w257 ⟨rfl, hb⟩
                   have HS4_ := (hb.cell (World.block_lt_of_cell? _ _ (hHeld.2.2.2.2))).trans (hHeld.2.2.2.2)
                   refine ⟨_, rfl, ?_⟩
                   have n0_ := A_ (Kd.R_below (M.Lr HO540) hb)
                   have n1_ := A_ (Kd.R_below (M.Lr HO548) hb)
                   have n2_ := A_ (blk_below (M.Lb BK485) hb)
                   have n3_ := A_ (blk_below (M.Lb BK530) hb)
                   have n4_ := A_ (blk_below (M.Lb BK534) hb)
                   have n5_ := A_ (blk_below (M.Lb BK541) hb)
                   have n6_ := A_ (blk_below (M.Lb BK545) hb)
                   have n7_ := A_ (below_step (M.Lw HB) hb)
                   clear HO540; clear HO548; clear BK485; clear BK530; clear BK534; clear BK541; clear BK545; clear HB; have HO540 := n0_; have HO548 := n1_; have BK485 := n2_; have BK530 := n3_; have BK534 := n4_; have BK541 := n5_; have BK545 := n6_; have HB := n7_; clear n0_ n1_ n2_ n3_ n4_ n5_ n6_ n7_; (try clear hb); (try clear hb2); (try clear hk); (try clear hi)
                   refine hK.out _ _ ⟨(blk_cell BK541.out 0).trans rfl, (blk_cell BK541.out 1).trans rfl, (blk_cell BK545.out 0).trans rfl, (blk_cell BK545.out 1).trans rfl, HS4_⟩ (fun hHeld => ?_)
                   clear hK K
                   refine norm_ (a' := ?_) ?_ ?_
                   rotate_left
                   ·show Act.put _ (some 218) _ = _
                    simp only [Act.put, M.sT_, M.s0_, M.s1_, i64_w, i32_w]; rfl
                   refine one_ (i := 5) (N := some 221) #[true, true, true, true, true, true, false, false, false, false, false, false, false, false, false, false, false, false, false, false, false, false, false, false, false, false, false, false, false, false, false, false, false, false, false, false, false, false, false, false, false, false] rfl rfl (one_of HT_.out kr_) (by decide) (fun K hK => ?_)
                   refine goes_ Try.func23 kr_ rfl #[.agg #[.int .i64 t536, .int .i64 t537], .slice Ao256 t538.length co256] (by rfl) rfl rfl q2_ ?_
                   with_reducible refine (spec_IsContradiction.calls kj172 t536 t537 _ _ t538 t550 _ ?side1 ?side2 A204.out).mono ?_
                   (case side1 => repeat (first | exact (Kd.R_reads' HO540.out).2.2 | (with_reducible refine Kd.C_alloc ?_ _) | (with_reducible refine Kd.C_drewN ?_ _) | (with_reducible refine Kd.C_drew ?_)))
                   (case side2 => exact (Kd.R_reads' HO540.out).2.1)
                   rintro e w258 ⟨rfl, hb⟩
                   have HS4_ := (hb.cell (World.block_lt_of_cell? _ _ (hHeld.2.2.2.2))).trans (hHeld.2.2.2.2)
                   refine ⟨_, rfl, ?_⟩
                   have n0_ := A_ (Kd.R_below (M.Lr HO540) hb)
                   have n1_ := A_ (Kd.R_below (M.Lr HO548) hb)
                   have n2_ := A_ (blk_below (M.Lb BK485) hb)
                   have n3_ := A_ (blk_below (M.Lb BK530) hb)
                   have n4_ := A_ (blk_below (M.Lb BK534) hb)
                   have n5_ := A_ (blk_below (M.Lb BK541) hb)
                   have n6_ := A_ (blk_below (M.Lb BK545) hb)
                   have n7_ := A_ (below_step (M.Lw HB) hb)
                   clear HO540; clear HO548; clear BK485; clear BK530; clear BK534; clear BK541; clear BK545; clear HB; have HO540 := n0_; have HO548 := n1_; have BK485 := n2_; have BK530 := n3_; have BK534 := n4_; have BK541 := n5_; have BK545 := n6_; have HB := n7_; clear n0_ n1_ n2_ n3_ n4_ n5_ n6_ n7_; (try clear hb); (try clear hb2); (try clear hk); (try clear hi)
                   refine hK.out _ _ ⟨(blk_cell BK541.out 0).trans rfl, (blk_cell BK541.out 1).trans rfl, (blk_cell BK545.out 0).trans rfl, (blk_cell BK545.out 1).trans rfl, HS4_⟩ (fun hHeld => ?_)
                   clear hK K
                   refine norm_ (a' := ?_) ?_ ?_
                   rotate_left
                   ·show Act.put _ (some 221) _ = _
                    simp only [Act.put, M.sT_, M.s0_, M.s1_, i64_w, i32_w]; rfl
                   refine pure_ (i := 6) (N := some 222) (v := ?_) (a' := ?_) #[true, true, true, true, true, true, true, false, false, false, false, false, false, false, false, false, false, false, false, false, false, false, false, false, false, false, false, false, false, false, false, false, false, false, false, false, false, false, false, false, false, false] rfl rfl (any_of HT_.out kr_) (fun _ _ _ h => h) (Or.inl ⟨by rfl, ?_⟩) ?_ ?_; rotate_left
                   ·intro w'; go_simp; with_reducible rfl
                   rotate_left
                   ·simp only [Act.put, M.sT_, M.s0_, M.s1_, i64_w, i32_w]; rfl
                   refine pure_ (i := 7) (N := some 223) (v := ?_) (a' := ?_) #[true, true, true, true, true, true, true, true, false, false, false, false, false, false, false, false, false, false, false, false, false, false, false, false, false, false, false, false, false, false, false, false, false, false, false, false, false, false, false, false, false, false] rfl rfl (any_of HT_.out kr_) (fun _ _ _ h => h) (Or.inl ⟨by rfl, ?_⟩) ?_ ?_; rotate_left
                   ·intro w'; go_simp; with_reducible rfl
                   rotate_left
                   ·simp only [Act.put, M.sT_, M.s0_, M.s1_, i64_w, i32_w]; rfl
                   refine pure_ (i := 8) (N := some 224) (v := ?_) (a' := ?_) #[true, true, true, true, true, true, true, true, true, false, false, false, false, false, false, false, false, false, false, false, false, false, false, false, false, false, false, false, false, false, false, false, false, false, false, false, false, false, false, false, false, false] rfl rfl (any_of HT_.out kr_) (fun _ _ _ h => h) (Or.inl ⟨by rfl, ?_⟩) ?_ ?_; rotate_left
                   ·intro w'; go_simp; with_reducible rfl
                   rotate_left
                   ·simp only [Act.put, M.sT_, M.s0_, M.s1_, i64_w, i32_w]; rfl
                   refine pure_ (i := 10) (N := some 226) (v := ?_) (a' := ?_) #[true, true, true, true, true, true, true, true, true, false, true, false, false, false, false, false, false, false, false, false, false, false, false, false, false, false, false, false, false, false, false, false, false, false, false, false, false, false, false, false, false, false] rfl rfl (any_of HT_.out kr_) (fun _ _ _ h => h) (Or.inl ⟨by rfl, ?_⟩) ?_ ?_; rotate_left
                   ·intro w'; go_simp; with_reducible rfl
                   rotate_left
                   ·simp only [Act.put, M.sT_, M.s0_, M.s1_, i64_w, i32_w]; rfl
                   refine one_ (i := 9) (N := some 225) #[true, true, true, true, true, true, true, true, true, true, true, false, false, false, false, false, false, false, false, false, false, false, false, false, false, false, false, false, false, false, false, false, false, false, false, false, false, false, false, false, false, false] rfl rfl (one_of HT_.out kr_) (by decide) (fun K hK => ?_)
                   refine goes_ Try.func24 kr_ rfl #[.int .i64 t542] (by rfl) rfl rfl q2_ ?_
                   with_reducible refine (impl_CountThreshold.calls kj172 t542 t551 _ A206.out).mono ?_
                   rintro e w259 ⟨rfl, hb⟩
                   have HS4_ := (hb.cell (World.block_lt_of_cell? _ _ (hHeld.2.2.2.2))).trans (hHeld.2.2.2.2)
                   refine ⟨_, rfl, ?_⟩
                   have n0_ := A_ (Kd.R_below (M.Lr HO540) hb)
                   have n1_ := A_ (Kd.R_below (M.Lr HO548) hb)
                   have n2_ := A_ (blk_below (M.Lb BK485) hb)
                   have n3_ := A_ (blk_below (M.Lb BK530) hb)
                   have n4_ := A_ (blk_below (M.Lb BK534) hb)
                   have n5_ := A_ (blk_below (M.Lb BK541) hb)
                   have n6_ := A_ (blk_below (M.Lb BK545) hb)
                   have n7_ := A_ (below_step (M.Lw HB) hb)
                   clear HO540; clear HO548; clear BK485; clear BK530; clear BK534; clear BK541; clear BK545; clear HB; have HO540 := n0_; have HO548 := n1_; have BK485 := n2_; have BK530 := n3_; have BK534 := n4_; have BK541 := n5_; have BK545 := n6_; have HB := n7_; clear n0_ n1_ n2_ n3_ n4_ n5_ n6_ n7_; (try clear hb); (try clear hb2); (try clear hk); (try clear hi)
                   refine hK.out _ _ ⟨(blk_cell BK541.out 0).trans rfl, (blk_cell BK541.out 1).trans rfl, (blk_cell BK545.out 0).trans rfl, (blk_cell BK545.out 1).trans rfl, HS4_⟩ (fun hHeld => ?_)
                   clear hK K
                   refine norm_ (a' := ?_) ?_ ?_
                   rotate_left
                   ·show Act.put _ (some 225) _ = _
                    simp only [Act.put, M.sT_, M.s0_, M.s1_, i64_w, i32_w]; rfl
                   refine one_ (i := 11) (N := some 227) #[true, true, true, true, true, true, true, true, true, true, true, true, false, false, false, false, false, false, false, false, false, false, false, false, false, false, false, false, false, false, false, false, false, false, false, false, false, false, false, false, false, false] rfl rfl (one_of HT_.out kr_) (by decide) (fun K hK => ?_)
                   refine goes_ Try.func25 kr_ rfl #[.int .i64 t542] (by rfl) rfl rfl q2_ ?_
                   with_reducible refine (spec_CountThreshold.calls kj172 t542 t552 _ A207.out).mono ?_
                   rintro e w260 ⟨rfl, hb⟩
                   have HS4_ := (hb.cell (World.block_lt_of_cell? _ _ (hHeld.2.2.2.2))).trans (hHeld.2.2.2.2)
                   refine ⟨_, rfl, ?_⟩
                   have n0_ := A_ (Kd.R_below (M.Lr HO540) hb)
                   have n1_ := A_ (Kd.R_below (M.Lr HO548) hb)
                   have n2_ := A_ (blk_below (M.Lb BK485) hb)
                   have n3_ := A_ (blk_below (M.Lb BK530) hb)
                   have n4_ := A_ (blk_below (M.Lb BK534) hb)
                   have n5_ := A_ (blk_below (M.Lb BK541) hb)
                   have n6_ := A_ (blk_below (M.Lb BK545) hb)
                   have n7_ := A_ (below_step (M.Lw HB) hb)
                   clear HO540; clear HO548; clear BK485; clear BK530; clear BK534; clear BK541; clear BK545; clear HB; have HO540 := n0_; have HO548 := n1_; have BK485 := n2_; have BK530 := n3_; have BK534 := n4_; have BK541 := n5_; have BK545 := n6_; have HB := n7_; clear n0_ n1_ n2_ n3_ n4_ n5_ n6_ n7_; (try clear hb); (try clear hb2); (try clear hk); (try clear hi)
                   refine hK.out _ _ ⟨(blk_cell BK541.out 0).trans rfl, (blk_cell BK541.out 1).trans rfl, (blk_cell BK545.out 0).trans rfl, (blk_cell BK545.out 1).trans rfl, HS4_⟩ (fun hHeld => ?_)
                   clear hK K
                   refine norm_ (a' := ?_) ?_ ?_
                   rotate_left
                   ·show Act.put _ (some 227) _ = _
                    simp only [Act.put, M.sT_, M.s0_, M.s1_, i64_w, i32_w]; rfl
                   refine pure_ (i := 12) (N := some 228) (v := ?_) (a' := ?_) #[true, true, true, true, true, true, true, true, true, true, true, true, true, false, false, false, false, false, false, false, false, false, false, false, false, false, false, false, false, false, false, false, false, false, false, false, false, false, false, false, false, false] rfl rfl (any_of HT_.out kr_) (fun _ _ _ h => h) (Or.inl ⟨by rfl, ?_⟩) ?_ ?_; rotate_left
                   ·intro w'; go_simp; with_reducible rfl
                   rotate_left
                   ·simp only [Act.put, M.sT_, M.s0_, M.s1_, i64_w, i32_w]; rfl
                   refine pure_ (i := 13) (N := some 229) (v := ?_) (a' := ?_) #[true, true, true, true, true, true, true, true, true, true, true, true, true, true, false, false, false, false, false, false, false, false, false, false, false, false, false, false, false, false, false, false, false, false, false, false, false, false, false, false, false, false] rfl rfl (any_of HT_.out kr_) (fun _ _ _ h => h) (Or.inl ⟨by rfl, ?_⟩) ?_ ?_; rotate_left
                   ·intro w'; go_simp; with_reducible rfl
                   rotate_left
                   ·simp only [Act.put, M.sT_, M.s0_, M.s1_, i64_w, i32_w]; rfl
                   refine pure_ (i := 14) (N := some 230) (v := ?_) (a' := ?_) #[true, true, true, true, true, true, true, true, true, true, true, true, true, true, true, false, false, false, false, false, false, false, false, false, false, false, false, false, false, false, false, false, false, false, false, false, false, false, false, false, false, false] rfl rfl (any_of HT_.out kr_) (fun _ _ _ h => h) (Or.inl ⟨by rfl, ?_⟩) ?_ ?_; rotate_left
                   ·intro w'; go_simp; with_reducible rfl
                   rotate_left
                   ·simp only [Act.put, M.sT_, M.s0_, M.s1_, i64_w, i32_w]; rfl
                   refine pure_ (i := 15) (N := some 231) (v := ?_) (a' := ?_) #[true, true, true, true, true, true, true, true, true, true, true, true, true, true, true, true, false, false, false, false, false, false, false, false, false, false, false, false, false, false, false, false, false, false, false, false, false, false, false, false, false, false] rfl rfl (any_of HT_.out kr_) (fun _ _ _ h => h) (Or.inl ⟨by rfl, ?_⟩) ?_ ?_; rotate_left
                   ·intro w'; go_simp; with_reducible rfl
                   rotate_left
                   ·simp only [Act.put, M.sT_, M.s0_, M.s1_, i64_w, i32_w]; rfl
                   refine take_ (i := 16) (N := some 232) (v := ?_) (a' := ?_) #[true, true, true, true, true, true, true, true, true, true, true, true, true, true, true, true, true, false, false, false, false, false, false, false, false, false, false, false, false, false, false, false, false, false, false, false, false, false, false, false, false, false] rfl rfl (take_ofW HT_.out HW_.out kr_) (fun _ _ _ h => h) (Or.inl ⟨by rfl, ?_⟩) hHeld ?_ ?_
                   rotate_left
                   ·rintro w' ⟨s0, s1, s2, s3, s4⟩
                    go_simp; with_reducible rfl
                   rotate_left
                   ·simp only [Act.put, M.sT_, M.s0_, M.s1_, i64_w, i32_w]; rfl
                   refine one_ (i := 17) (N := some 233) #[true, true, true, true, true, true, true, true, true, true, true, true, true, true, true, true, true, true, false, false, false, false, false, false, false, false, false, false, false, false, false, false, false, false, false, false, false, false, false, false, false, false] rfl rfl (one_of HT_.out kr_) (by decide) (fun K hK => ?_)
                   refine goes_ Try.func26 kr_ rfl #[.agg #[.int .i64 t543, .int .i64 t544]] (by rfl) rfl rfl q2_ ?_
                   with_reducible refine (spec_ChowNumbers.calls kj172 t543 t544 t553 _ A209.out).mono ?_
                   rintro e w261 ⟨v554, rfl, ho0, hb⟩
                   have HS4_ := (hb.cell (World.block_lt_of_cell? _ _ (hHeld.2.2.2.2))).trans (hHeld.2.2.2.2)
                   refine ⟨_, rfl, ?_⟩
                   have n0_ := A_ (Kd.R_elder' (M.Lr HO540) (Kd.R_base ho0) hb)
                   have n1_ := A_ (Kd.R_elder' (M.Lr HO548) (Kd.R_base ho0) hb)
                   have n2_ := A_ (Kd.R_lower (Kd.R_new' (Kd.R_new' ho0 (Kd.R_lt (M.Lr HO540))) (Kd.R_lt (M.Lr HO548))) (below_size (M.Lw HB)))
                   have n3_ := A_ (blk_below (M.Lb BK485) hb)
                   have n4_ := A_ (blk_below (M.Lb BK530) hb)
                   have n5_ := A_ (blk_below (M.Lb BK534) hb)
                   have n6_ := A_ (blk_below (M.Lb BK541) hb)
                   have n7_ := A_ (blk_below (M.Lb BK545) hb)
                   have n8_ := A_ (below_step (M.Lw HB) hb)
                   clear HO540; clear HO548; clear BK485; clear BK530; clear BK534; clear BK541; clear BK545; clear HB; have HO540 := n0_; have HO548 := n1_; have HO555 := n2_; have BK485 := n3_; have BK530 := n4_; have BK534 := n5_; have BK541 := n6_; have BK545 := n7_; have HB := n8_; clear n0_ n1_ n2_ n3_ n4_ n5_ n6_ n7_ n8_; (try clear hb); (try clear hb2); (try clear hk); (try clear hi); (try clear ho0)
                   obtain ⟨Ao262, co262, eo262⟩ := Kd.R_slice HO548.out
                   (first | subst eo262 | (injection eo262 with f1_ f2_ f3_; have f4_ := f1_.symm; have f5_ := f3_.symm; clear f1_ f2_ f3_; subst f4_; subst f5_))
                   obtain ⟨Ao263, co263, eo263⟩ := Kd.R_slice HO555.out
                   (first | subst eo263 | (injection eo263 with f1_ f2_ f3_; have f4_ := f1_.symm; have f5_ := f3_.symm; clear f1_ f2_ f3_; subst f4_; subst f5_))
                   refine hK.out _ _ ⟨(blk_cell BK541.out 0).trans rfl, (blk_cell BK541.out 1).trans rfl, (blk_cell BK545.out 0).trans rfl, (blk_cell BK545.out 1).trans rfl, HS4_⟩ (fun hHeld => ?_)
                   clear hK K
                   refine norm_ (a' := ?_) ?_ ?_
                   rotate_left
                   ·show Act.put _ (some 233) _ = _
                    simp only [Act.put, M.sT_, M.s0_, M.s1_, i64_w, i32_w]; rfl
                   refine one_ (i := 18) (N := some 234) #[true, true, true, true, true, true, true, true, true, true, true, true, true, true, true, true, true, true, true, false, false, false, false, false, false, false, false, false, false, false, false, false, false, false, false, false, false, false, false, false, false, false] rfl rfl (one_of HT_.out kr_) (by decide) (fun K hK => ?_)
                   refine goes_ Try.func10 kr_ rfl #[.slice (some ad557) t546.length co262, .slice Ao263 t553.length co263] (by rfl) rfl rfl q2_ ?_
                   with_reducible refine (laws_sameInts.calls kj172 _ _ t546 _ _ t553 true _ ?side1 ?side2 ?side3 ?side4 A210.out).mono ?_
                   (case side1 => repeat (first | exact (Kd.R_reads' HO548.out).2.2 | (with_reducible refine Kd.C_alloc ?_ _) | (with_reducible refine Kd.C_drewN ?_ _) | (with_reducible refine Kd.C_drew ?_)))
                   (case side2 => exact (Kd.R_reads' HO548.out).2.1)
                   (case side3 => repeat (first | exact (Kd.R_reads' HO555.out).2.2 | (with_reducible refine Kd.C_alloc ?_ _) | (with_reducible refine Kd.C_drewN ?_ _) | (with_reducible refine Kd.C_drew ?_)))
                   (case side4 => exact (Kd.R_reads' HO555.out).2.1)
                   rintro e w' ⟨rfl, ⟨nd, rfl⟩⟩
                   refine ⟨_, rfl, ?_⟩
                   refine hK.out _ _ ⟨(blk_cell BK541.out 0).trans rfl, (blk_cell BK541.out 1).trans rfl, (blk_cell BK545.out 0).trans rfl, (blk_cell BK545.out 1).trans rfl, hHeld.2.2.2.2⟩ (fun hHeld => ?_)
                   clear hK K
                   refine norm_ (a' := ?_) ?_ ?_
                   rotate_left
                   ·show Act.put _ (some 234) _ = _
                    simp only [Act.put, M.sT_, M.s0_, M.s1_, i64_w, i32_w]; rfl
                   refine pure_ (i := 19) (N := some 235) (v := ?_) (a' := ?_) #[true, true, true, true, true, true, true, true, true, true, true, true, true, true, true, true, true, true, true, true, false, false, false, false, false, false, false, false, false, false, false, false, false, false, false, false, false, false, false, false, false, false] rfl rfl (any_of HT_.out kr_) (fun _ _ _ h => h) (Or.inl ⟨by rfl, ?_⟩) ?_ ?_; rotate_left
                   ·intro w'; go_simp; with_reducible rfl
                   rotate_left
                   ·simp only [Act.put, M.sT_, M.s0_, M.s1_, i64_w, i32_w]; rfl
                   refine pure_ (i := 20) (N := some 236) (v := ?_) (a' := ?_) #[true, true, true, true, true, true, true, true, true, true, true, true, true, true, true, true, true, true, true, true, true, false, false, false, false, false, false, false, false, false, false, false, false, false, false, false, false, false, false, false, false, false] rfl rfl (any_of HT_.out kr_) (fun _ _ _ h => h) (Or.inl ⟨by rfl, ?_⟩) ?_ ?_; rotate_left
                   ·intro w'; go_simp; with_reducible rfl
                   rotate_left
                   ·simp only [Act.put, M.sT_, M.s0_, M.s1_, i64_w, i32_w]; rfl
                   refine pure_ (i := 21) (N := some 237) (v := ?_) (a' := ?_) #[true, true, true, true, true, true, true, true, true, true, true, true, true, true, true, true, true, true, true, true, true, true, false, false, false, false, false, false, false, false, false, false, false, false, false, false, false, false, false, false, false, false] rfl rfl (any_of HT_.out kr_) (fun _ _ _ h => h) (Or.inl ⟨by rfl, ?_⟩) ?_ ?_; rotate_left
                   ·intro w'; go_simp; with_reducible rfl
                   rotate_left
                   ·simp only [Act.put, M.sT_, M.s0_, M.s1_, i64_w, i32_w]; rfl
                   refine pure_ (i := 22) (N := some 238) (v := ?_) (a' := ?_) #[true, true, true, true, true, true, true, true, true, true, true, true, true, true, true, true, true, true, true, true, true, true, true, false, false, false, false, false, false, false, false, false, false, false, false, false, false, false, false, false, false, false] rfl rfl (any_of HT_.out kr_) (fun _ _ _ h => h) (Or.inl ⟨by rfl, ?_⟩) ?_ ?_; rotate_left
                   ·intro w'; go_simp; with_reducible rfl
                   rotate_left
                   ·simp only [Act.put, M.sT_, M.s0_, M.s1_, i64_w, i32_w]; rfl
                   refine pure_ (i := 23) (N := some 239) (v := ?_) (a' := ?_) #[true, true, true, true, true, true, true, true, true, true, true, true, true, true, true, true, true, true, true, true, true, true, true, true, false, false, false, false, false, false, false, false, false, false, false, false, false, false, false, false, false, false] rfl rfl (any_of HT_.out kr_) (fun _ _ _ h => h) (Or.inl ⟨by rfl, ?_⟩) ?_ ?_; rotate_left
                   ·intro w'; go_simp; with_reducible rfl
                   rotate_left
                   ·simp only [Act.put, M.sT_, M.s0_, M.s1_, i64_w, i32_w]; rfl
                   refine pure_ (i := 24) (N := some 240) (v := ?_) (a' := ?_) #[true, true, true, true, true, true, true, true, true, true, true, true, true, true, true, true, true, true, true, true, true, true, true, true, true, false, false, false, false, false, false, false, false, false, false, false, false, false, false, false, false, false] rfl rfl (any_of HT_.out kr_) (fun _ _ _ h => h) (Or.inl ⟨by rfl, ?_⟩) ?_ ?_; rotate_left
                   ·intro w'; go_simp; with_reducible rfl
                   rotate_left
                   ·simp only [Act.put, M.sT_, M.s0_, M.s1_, i64_w, i32_w]; rfl
                   refine pure_ (i := 25) (N := some 241) (v := ?_) (a' := ?_) #[true, true, true, true, true, true, true, true, true, true, true, true, true, true, true, true, true, true, true, true, true, true, true, true, true, true, false, false, false, false, false, false, false, false, false, false, false, false, false, false, false, false] rfl rfl (any_of HT_.out kr_) (fun _ _ _ h => h) (Or.inl ⟨by rfl, ?_⟩) ?_ ?_; rotate_left
                   ·intro w'; go_simp; with_reducible rfl
                   rotate_left
                   ·simp only [Act.put, M.sT_, M.s0_, M.s1_, i64_w, i32_w]; rfl
                   refine pure_ (i := 26) (N := some 242) (v := ?_) (a' := ?_) #[true, true, true, true, true, true, true, true, true, true, true, true, true, true, true, true, true, true, true, true, true, true, true, true, true, true, true, false, false, false, false, false, false, false, false, false, false, false, false, false, false, false] rfl rfl (any_of HT_.out kr_) (fun _ _ _ h => h) (Or.inl ⟨by rfl, ?_⟩) ?_ ?_; rotate_left
                   ·intro w'; go_simp; with_reducible rfl
                   rotate_left
                   ·simp only [Act.put, M.sT_, M.s0_, M.s1_, i64_w, i32_w]; rfl
                   refine take_ (i := 27) (N := some 243) (v := ?_) (a' := ?_) #[true, true, true, true, true, true, true, true, true, true, true, true, true, true, true, true, true, true, true, true, true, true, true, true, true, true, true, true, false, false, false, false, false, false, false, false, false, false, false, false, false, false] rfl rfl (take_ofW HT_.out HW_.out kr_) (fun _ _ _ h => h) (Or.inl ⟨by rfl, ?_⟩) hHeld ?_ ?_
                   rotate_left
                   ·rintro w' ⟨s0, s1, s2, s3, s4⟩
                    go_simp; with_reducible rfl
                   rotate_left
                   ·simp only [Act.put, M.sT_, M.s0_, M.s1_, i64_w, i32_w]; rfl
                   refine take_ (i := 28) (N := some 244) (v := ?_) (a' := ?_) #[true, true, true, true, true, true, true, true, true, true, true, true, true, true, true, true, true, true, true, true, true, true, true, true, true, true, true, true, true, false, false, false, false, false, false, false, false, false, false, false, false, false] rfl rfl (take_ofW HT_.out HW_.out kr_) (fun _ _ _ h => h) (Or.inl ⟨by rfl, ?_⟩) hHeld ?_ ?_
                   rotate_left
                   ·rintro w' ⟨s0, s1, s2, s3, s4⟩
                    go_simp; with_reducible rfl
                   rotate_left
                   ·simp only [Act.put, M.sT_, M.s0_, M.s1_, i64_w, i32_w]; rfl
                   refine one_ (i := 29) (N := some 245) #[true, true, true, true, true, true, true, true, true, true, true, true, true, true, true, true, true, true, true, true, true, true, true, true, true, true, true, true, true, true, false, false, false, false, false, false, false, false, false, false, false, false] rfl rfl (one_of HT_.out kr_) (by decide) (fun K hK => ?_)
                   refine goes_ Try.func27 kr_ rfl #[.agg #[.int .i64 t543, .int .i64 t544]] (by rfl) rfl rfl q2_ ?_
                   with_reducible refine (impl_CountOnes.calls t543 t544 t558 _ A238.out).mono ?_
                   rintro e w264 ⟨rfl, hb⟩
                   have HS4_ := (hb.cell (World.block_lt_of_cell? _ _ (hHeld.2.2.2.2))).trans (hHeld.2.2.2.2)
                   refine ⟨_, rfl, ?_⟩
                   have n0_ := A_ (Kd.R_below (M.Lr HO540) hb)
                   have n1_ := A_ (Kd.R_below (M.Lr HO548) hb)
                   have n2_ := A_ (Kd.R_below (M.Lr HO555) hb)
                   have n3_ := A_ (blk_below (M.Lb BK485) hb)
                   have n4_ := A_ (blk_below (M.Lb BK530) hb)
                   have n5_ := A_ (blk_below (M.Lb BK534) hb)
                   have n6_ := A_ (blk_below (M.Lb BK541) hb)
                   have n7_ := A_ (blk_below (M.Lb BK545) hb)
                   have n8_ := A_ (below_step (M.Lw HB) hb)
                   clear HO540; clear HO548; clear HO555; clear BK485; clear BK530; clear BK534; clear BK541; clear BK545; clear HB; have HO540 := n0_; have HO548 := n1_; have HO555 := n2_; have BK485 := n3_; have BK530 := n4_; have BK534 := n5_; have BK541 := n6_; have BK545 := n7_; have HB := n8_; clear n0_ n1_ n2_ n3_ n4_ n5_ n6_ n7_ n8_; (try clear hb); (try clear hb2); (try clear hk); (try clear hi)
                   refine hK.out _ _ ⟨(blk_cell BK541.out 0).trans rfl, (blk_cell BK541.out 1).trans rfl, (blk_cell BK545.out 0).trans rfl, (blk_cell BK545.out 1).trans rfl, HS4_⟩ (fun hHeld => ?_)
                   clear hK K
                   refine norm_ (a' := ?_) ?_ ?_
                   rotate_left
                   ·show Act.put _ (some 245) _ = _
                    simp only [Act.put, M.sT_, M.s0_, M.s1_, i64_w, i32_w]; rfl
                   refine pure_ (i := 30) (N := some 246) (v := ?_) (a' := ?_) #[true, true, true, true, true, true, true, true, true, true, true, true, true, true, true, true, true, true, true, true, true, true, true, true, true, true, true, true, true, true, true, false, false, false, false, false, false, false, false, false, false, false] rfl rfl (any_of HT_.out kr_) (fun _ _ _ h => h) (Or.inl ⟨by rfl, ?_⟩) ?_ ?_; rotate_left
                   ·intro w'; go_simp; with_reducible rfl
                   rotate_left
                   ·simp only [Act.put, M.sT_, M.s0_, M.s1_, i64_w, i32_w]; rfl
                   refine pure_ (i := 31) (N := some 247) (v := ?_) (a' := ?_) #[true, true, true, true, true, true, true, true, true, true, true, true, true, true, true, true, true, true, true, true, true, true, true, true, true, true, true, true, true, true, true, true, false, false, false, false, false, false, false, false, false, false] rfl rfl (any_of HT_.out kr_) (fun _ _ _ h => h) (Or.inl ⟨by rfl, ?_⟩) ?_ ?_; rotate_left
                   ·intro w'; go_simp; with_reducible rfl
                   rotate_left
                   ·simp only [Act.put, M.sT_, M.s0_, M.s1_, i64_w, i32_w]; rfl
                   refine pure_ (i := 32) (N := some 248) (v := ?_) (a' := ?_) #[true, true, true, true, true, true, true, true, true, true, true, true, true, true, true, true, true, true, true, true, true, true, true, true, true, true, true, true, true, true, true, true, true, false, false, false, false, false, false, false, false, false] rfl rfl (any_of HT_.out kr_) (fun _ _ _ h => h) (Or.inl ⟨by rfl, ?_⟩) ?_ ?_; rotate_left
                   ·intro w'; go_simp; with_reducible rfl
                   rotate_left
                   ·simp only [Act.put, M.sT_, M.s0_, M.s1_, i64_w, i32_w]; rfl
                   refine pure_ (i := 33) (N := some 249) (v := ?_) (a' := ?_) #[true, true, true, true, true, true, true, true, true, true, true, true, true, true, true, true, true, true, true, true, true, true, true, true, true, true, true, true, true, true, true, true, true, true, false, false, false, false, false, false, false, false] rfl rfl (any_of HT_.out kr_) (fun _ _ _ h => h) (Or.inl ⟨by rfl, ?_⟩) ?_ ?_; rotate_left
                   ·intro w'; go_simp; with_reducible rfl
                   rotate_left
                   ·simp only [Act.put, M.sT_, M.s0_, M.s1_, i64_w, i32_w]; rfl
                   refine pure_ (i := 34) (N := some 250) (v := ?_) (a' := ?_) #[true, true, true, true, true, true, true, true, true, true, true, true, true, true, true, true, true, true, true, true, true, true, true, true, true, true, true, true, true, true, true, true, true, true, true, false, false, false, false, false, false, false] rfl rfl (any_of HT_.out kr_) (fun _ _ _ h => h) (Or.inl ⟨by rfl, ?_⟩) ?_ ?_; rotate_left
                   ·intro w'; go_simp; with_reducible rfl
                   rotate_left
                   ·simp only [Act.put, M.sT_, M.s0_, M.s1_, i64_w, i32_w]; rfl
                   refine take_ (i := 35) (N := some 251) (v := ?_) (a' := ?_) #[true, true, true, true, true, true, true, true, true, true, true, true, true, true, true, true, true, true, true, true, true, true, true, true, true, true, true, true, true, true, true, true, true, true, true, true, false, false, false, false, false, false] rfl rfl (take_ofW HT_.out HW_.out kr_) (fun _ _ _ h => h) (Or.inl ⟨by rfl, ?_⟩) hHeld ?_ ?_
                   rotate_left
                   ·rintro w' ⟨s0, s1, s2, s3, s4⟩
                    go_simp; with_reducible rfl
                   rotate_left
                   ·simp only [Act.put, M.sT_, M.s0_, M.s1_, i64_w, i32_w]; rfl
                   refine pure_ (i := 36) (N := some 252) (v := ?_) (a' := ?_) #[true, true, true, true, true, true, true, true, true, true, true, true, true, true, true, true, true, true, true, true, true, true, true, true, true, true, true, true, true, true, true, true, true, true, true, true, true, false, false, false, false, false] rfl rfl (any_of HT_.out kr_) (fun _ _ _ h => h) (Or.inl ⟨by rfl, ?_⟩) ?_ ?_; rotate_left
                   ·intro w'; go_simp; with_reducible rfl
                   rotate_left
                   ·simp only [Act.put, M.sT_, M.s0_, M.s1_, i64_w, i32_w]; rfl
                   refine pure_ (i := 37) (N := some 253) (v := ?_) (a' := ?_) #[true, true, true, true, true, true, true, true, true, true, true, true, true, true, true, true, true, true, true, true, true, true, true, true, true, true, true, true, true, true, true, true, true, true, true, true, true, true, false, false, false, false] rfl rfl (any_of HT_.out kr_) (fun _ _ _ h => h) (Or.inl ⟨by rfl, ?_⟩) ?_ ?_; rotate_left
                   ·intro w'; go_simp; with_reducible rfl
                   rotate_left
                   ·simp only [Act.put, M.sT_, M.s0_, M.s1_, i64_w, i32_w]; rfl
                   refine pure_ (i := 38) (N := some 254) (v := ?_) (a' := ?_) #[true, true, true, true, true, true, true, true, true, true, true, true, true, true, true, true, true, true, true, true, true, true, true, true, true, true, true, true, true, true, true, true, true, true, true, true, true, true, true, false, false, false] rfl rfl (any_of HT_.out kr_) (fun _ _ _ h => h) (Or.inl ⟨by rfl, ?_⟩) ?_ ?_; rotate_left
                   ·intro w'; go_simp; with_reducible rfl
                   rotate_left
                   ·simp only [Act.put, M.sT_, M.s0_, M.s1_, i64_w, i32_w]; rfl
                   refine pure_ (i := 39) (N := some 255) (v := ?_) (a' := ?_) #[true, true, true, true, true, true, true, true, true, true, true, true, true, true, true, true, true, true, true, true, true, true, true, true, true, true, true, true, true, true, true, true, true, true, true, true, true, true, true, true, false, false] rfl rfl (any_of HT_.out kr_) (fun _ _ _ h => h) (Or.inl ⟨by rfl, ?_⟩) ?_ ?_; rotate_left
                   ·intro w'; go_simp; with_reducible rfl
                   rotate_left
                   ·simp only [Act.put, M.sT_, M.s0_, M.s1_, i64_w, i32_w]; rfl
                   refine pure_ (i := 40) (N := some 256) (v := ?_) (a' := ?_) #[true, true, true, true, true, true, true, true, true, true, true, true, true, true, true, true, true, true, true, true, true, true, true, true, true, true, true, true, true, true, true, true, true, true, true, true, true, true, true, true, true, false] rfl rfl (any_of HT_.out kr_) (fun _ _ _ h => h) (Or.inl ⟨by rfl, ?_⟩) ?_ ?_; rotate_left
                   ·intro w'; go_simp; with_reducible rfl
                   rotate_left
                   ·simp only [Act.put, M.sT_, M.s0_, M.s1_, i64_w, i32_w]; rfl
                   refine pure_ (i := 41) (N := some 2) (v := ?_) (a' := ?_) #[true, true, true, true, true, true, true, true, true, true, true, true, true, true, true, true, true, true, true, true, true, true, true, true, true, true, true, true, true, true, true, true, true, true, true, true, true, true, true, true, true, true] rfl rfl (any_of HT_.out kr_) (fun _ _ _ h => h) (Or.inl ⟨by rfl, ?_⟩) ?_ ?_; rotate_left
                   ·intro w'; go_simp; with_reducible rfl
                   rotate_left
                   ·simp only [Act.put, M.sT_, M.s0_, M.s1_, i64_w, i32_w]; rfl
                   refine done_ (done_of HT_.out kr_) ?_
                   try go_wp2
                   go_ret
                   exact ⟨q7_, M.Lw HB⟩
                  ·rw [if_neg c239] at H
                   have c239b0 : ((rd t546 0) == t558) = false := beq_eq_false_iff_ne.mpr c239
                   have c239b1 : ((rd t546 0) != t558) = true := bne_iff_ne.mpr c239
                   exact absurd (Option.some.inj H) (by rw [HRT.out]; decide)
                 ·rw [if_neg c237] at H
                  exact absurd H (by simp)
               ·replace c211 := Bool.eq_false_iff.mpr c211
                subst c211
                rw [if_neg (show ¬ (false = true) by decide)] at H
                (try dsimp only at H)
                exact absurd (Option.some.inj H) (by rw [HRT.out]; decide)
              ·rw [if_neg c208] at H
               have c208b0 : (t551 == t552) = false := beq_eq_false_iff_ne.mpr c208
               have c208b1 : (t551 != t552) = true := bne_iff_ne.mpr c208
               exact absurd (Option.some.inj H) (by rw [HRT.out]; decide)
             ·rw [if_neg c205] at H
              have c205b0 : (t549 == t550) = false := by simpa using c205
              (try (have c205b1 : decide (t549 = t550) = false := by simpa using c205))
              (try (have c205b2 : (t549 == t550) = false := by simpa using c205))
              (try (have c205b3 : ¬ (t549 = t550) := by simpa using c205))
              clear c205
              exact absurd (Option.some.inj H) (by rw [HRT.out]; decide)
def laws_FnThreshold.Pure : Prop := ∀ (l0 : List Int), l0.length ≤ maxLen → l0.length * 1 ≤ 140737488351232 → (∀ x ∈ l0, (Lit.int .u8 x).wf = true) → ∃ k, laws_FnThreshold.f k l0 = some true
theorem laws_FnThreshold.walk (P : laws_FnThreshold.Pure) (a0 : Option Addr) (len0 cap0 : Nat) (z0 : List Int) (w : World) (w0 : (a0 = none ∧ len0 = 0 ∧ cap0 = 0 ∧ z0 = []) ∨ ∃ x, a0 = some x ∧ len0 ≤ cap0 ∧ cap0 ≤ maxLen ∧ z0.length = cap0 ∧ (∀ i, i < z0.length → w.cell? (x.add i) = some (.int .u8 (z0.getD i 0))) ∧ ∀ n ∈ z0, (Lit.int .u8 n).wf = true) (y0 : len0 * 1 ≤ 140737488351232) :
  Calls Try.prog 3 #[.slice a0 len0 cap0] w fun e w' => e = .returned (.bool true) ∧ Below w.heap.size w w' := by
 obtain ⟨l0, rfl, hr0, hm0, hw0, hc0⟩ := ReadsInt.ofRowC w0
 obtain ⟨k, h⟩ := P l0 hm0 y0 hw0
 refine (laws_FnThreshold.calls k _ _ l0 true w (Kd.C_of_reads (d := (0 : Int)) (h1 := fun _ => rfl) hr0) hc0 h rfl).mono ?_
 rintro e w' ⟨rfl, hd⟩
 exact ⟨rfl, hd⟩
end Go.Proofs.Ytloekoepknfodaa.Print
