/- Several texts of this repo's programs in one: plain lemmas, or functions of the given program as plain Lean functions with proofs that their calls compute them. -/
import Derived.Test.YtodfifkgohjpfaaKAffine2
import Derived.Test.YtodfifkgohjpfaaKAffine11
import Derived.Test.YtodfifkgohjpfaaKAffine18
import Derived.Test.YtodfifkgohjpfaaKAffine19
import Derived.Test.YtodfifkgohjpfaaKAffine20
import Derived.Test.YtodfifkgohjpfaaM29
namespace Go.Proofs.Ytodfifkgohjpfaa.Print
open Go.RowKit Go.Proofs.YtodfifkgohjpfaaW.PrintWords Go.Proofs.YtodfifkgohjpfaaW.PrintLast Go.Proofs.YtodfifkgohjpfaaW.PrintMore
attribute [local go_sem] max2_int min2_int max_two min_two max_three min_three max_four min_four   -- for this text's walks alone
set_option linter.unusedVariables false
set_option linter.unusedSimpArgs false
attribute [local go_sem high] eqA25
mutual
def laws_FnAffine.j0 : Nat → List Int → List Int → Int → Bool → Bool → Int → Int → Int → Int → Option (Bool)
 | 0, _, _, _, _, _, _, _, _, _ => none
 | k + 1, x0, x4, x5, x7, x70, x478000, x478001, x486000, x486001 => if x70 = true then (some false) else (if x7 = true then ((impl_InverseMap.f k x478000 x4).bind fun bt486 => ((impl_AffineImage.f x486000 x486001 bt486.1 0).bind fun bt490 => ((impl_AffineImage.f x478000 x478001 x4 0).bind fun bt494 => ((impl_AffineImage.f bt494.1 bt494.2.1 bt486.1 0).bind fun bt498 => (if bt486.2 = true then (if bt490.2.2 = true then (if bt494.2.2 = true then (if bt498.2.2 = true then (if (!(bt498.1 == x478000) || (!(bt498.2.1 == x478001))) = true then (laws_FnAffine.j1 k x0 x4 x5 true x478000 x478001 x486000 x486001) else ((impl_CountOnes.f bt490.1 bt490.2.1).bind fun t502 => ((impl_CountOnes.f x478000 x478001).bind fun t503 => (if t502 = t503 then ((impl_DegreeMod2.f x486000 x486001).bind fun t504 => ((impl_DegreeMod2.f x478000 x478001).bind fun t505 => (if t504 = t505 then ((impl_SpectrumProfile.f k x486000 x486001).bind fun t506 => ((impl_SpectrumProfile.f k x478000 x478001).bind fun t509 => ((laws_sameInts.f k t506 t509).bind fun t512 => (if t512 = true then ((impl_IsBent.f k x486000 x486001).bind fun t513 => ((impl_IsBent.f k x478000 x478001).bind fun t514 => (if (t513 != t514) = true then (laws_FnAffine.j1 k x0 x4 x5 true x478000 x478001 x486000 x486001) else ((impl_Nonlinearity.f k x486000 x486001).bind fun t515 => ((impl_Nonlinearity.f k x478000 x478001).bind fun t516 => (if t515 = t516 then ((impl_TestRejects.f k bt494.1 bt494.2.1).bind fun t517 => ((impl_TestRejects.f k x478000 x478001).bind fun t518 => (laws_FnAffine.j1 k x0 x4 x5 (t517 != t518) x478000 x478001 x486000 x486001))) else (laws_FnAffine.j1 k x0 x4 x5 true x478000 x478001 x486000 x486001))))))) else (laws_FnAffine.j1 k x0 x4 x5 true x478000 x478001 x486000 x486001))))) else (laws_FnAffine.j1 k x0 x4 x5 true x478000 x478001 x486000 x486001)))) else (laws_FnAffine.j1 k x0 x4 x5 true x478000 x478001 x486000 x486001))))) else (laws_FnAffine.j1 k x0 x4 x5 true x478000 x478001 x486000 x486001)) else (laws_FnAffine.j1 k x0 x4 x5 true x478000 x478001 x486000 x486001)) else (laws_FnAffine.j1 k x0 x4 x5 true x478000 x478001 x486000 x486001)) else (laws_FnAffine.j1 k x0 x4 x5 true x478000 x478001 x486000 x486001)))))) else (laws_FnAffine.j2 k x0))
def laws_FnAffine.j2 : Nat → List Int → Option (Bool)
 | 0, _ => none
 | k + 1, x0 => (spec_DrawComposeMaps.f k x0).bind fun bt523 => ((impl_ComposeMaps.f k bt523.1 bt523.2.1 bt523.2.2).bind fun bt530 => ((spec_ComposeMaps.f k bt523.1 bt523.2.1 bt523.2.2).bind fun bt534 => (if (bt530.2 != bt534.2) = true then (laws_FnAffine.j3 k x0 bt523.1 bt523.2.1 bt523.2.2 bt530.2 bt534.1 true) else ((laws_sameInts.f k bt530.1 bt534.1).bind fun t538 => (laws_FnAffine.j3 k x0 bt523.1 bt523.2.1 bt523.2.2 bt530.2 bt534.1 (!t538))))))
def laws_FnAffine.j3 : Nat → List Int → Int → List Int → List Int → Bool → List Int → Bool → Option (Bool)
 | 0, _, _, _, _, _, _, _ => none
 | k + 1, x0, x19, x20, x21, x23, x24, x205 => if x205 = true then (some false) else (if x23 = true then ((laws_at.f x0 4).bind fun t539 => (if 0 ≤ x19 then (if (shl .i64 1 x19) = 0 then (none) else ((impl_IsInvertible.f x19 x24).bind fun t540 => (if t540 = true then ((impl_MapInput.f k x19 x24 0 (Int.tmod t539 (shl .i64 1 x19))).bind fun t541 => ((impl_MapInput.f k x19 x21 0 (Int.tmod t539 (shl .i64 1 x19))).bind fun t542 => ((impl_MapInput.f k x19 x20 0 t542).bind fun t543 => (if t541 = t543 then (laws_FnAffine.j4 k x0) else (some false))))) else (some false)))) else (none))) else (laws_FnAffine.j4 k x0))
def laws_FnAffine.j4 : Nat → List Int → Option (Bool)
 | 0, _ => none
 | k + 1, x0 => (spec_DrawInverseMap.f k x0).bind fun bt544 => ((impl_InverseMap.f k bt544.1 bt544.2).bind fun bt548 => ((spec_InverseMap.f k bt544.1 bt544.2).bind fun bt552 => ((spec_DrawMapInput.f k x0).bind fun bt556 => ((spec_DrawIsInvertible.f k x0).bind fun bt562 => ((spec_DrawCountInvertible.f k x0).bind fun t566 => ((spec_DrawSpectrumProfile.f k x0).bind fun bt567 => ((laws_sameInts.f k bt548.1 bt552.1).bind fun t570 => (if t570 = true then (if (bt548.2 == bt552.2) = true then ((impl_MapInput.f k bt556.1 bt556.2.1 bt556.2.2.1 bt556.2.2.2).bind fun t571 => ((spec_MapInput.f k bt556.1 bt556.2.1 bt556.2.2.1 bt556.2.2.2).bind fun t572 => (if t571 = t572 then ((impl_IsInvertible.f bt562.1 bt562.2).bind fun t573 => ((spec_IsInvertible.f k bt562.1 bt562.2).bind fun t574 => (if (t573 == t574) = true then ((impl_CountInvertible.f k t566).bind fun t575 => ((spec_CountInvertible.f k t566).bind fun t576 => (if t575 = t576 then ((impl_SpectrumProfile.f k bt567.1 bt567.2).bind fun t577 => ((spec_SpectrumProfile.f k bt567.1 bt567.2).bind fun t580 => ((laws_sameInts.f k t577 t580).bind fun t583 => (some t583)))) else (some false)))) else (some false)))) else (some false)))) else (some false)) else (some false)))))))))
def laws_FnAffine.j1 : Nat → List Int → List Int → Int → Bool → Int → Int → Int → Int → Option (Bool)
 | 0, _, _, _, _, _, _, _, _ => none
 | k + 1, x0, x4, x5, x158, x478000, x478001, x486000, x486001 => if x158 = true then (some false) else ((laws_at.f x0 3).bind fun t519 => (if 0 ≤ x478000 then (if (shl .i64 1 x478000) = 0 then (none) else ((impl_ValueAt.f x486000 x486001 (Int.tmod t519 (shl .i64 1 x478000))).bind fun t520 => ((impl_MapInput.f k x478000 x4 x5 (Int.tmod t519 (shl .i64 1 x478000))).bind fun t521 => ((impl_ValueAt.f x478000 x478001 t521).bind fun t522 => (if t520 = t522 then (laws_FnAffine.j2 k x0) else (some false)))))) else (none)))
end
def laws_FnAffine.f (k : Nat) (l0 : List Int) : Option (Bool) := (laws_big.f l0).bind fun t470 => (if t470 = true then (some true) else ((spec_DrawAffineImage.f k l0).bind fun bt471 => ((impl_AffineImage.f bt471.1 bt471.2.1 bt471.2.2.1 bt471.2.2.2).bind fun bt478 => ((spec_AffineImage.f k bt471.1 bt471.2.1 bt471.2.2.1 bt471.2.2.2).bind fun bt482 => (if (!(bt478.1 == bt482.1) || (!(bt478.2.1 == bt482.2.1))) = true then (laws_FnAffine.j0 k l0 bt471.2.2.1 bt471.2.2.2 bt478.2.2 true bt471.1 bt471.2.1 bt482.1 bt482.2.1) else (laws_FnAffine.j0 k l0 bt471.2.2.1 bt471.2.2.2 bt478.2.2 (bt478.2.2 != bt482.2.2) bt471.1 bt471.2.1 bt482.1 bt482.2.1))))))
theorem laws_FnAffine.j0_dead {k : Nat} {y0 : List Int} {y1 : List Int} {y2 : Int} {y3 : Bool} {y5 : Int} {y6 : Int} {y7 : Int} {y8 : Int} {r : Bool} (h : laws_FnAffine.j0 k y0 y1 y2 y3 true y5 y6 y7 y8 = some r) (hr : r = true) : False := by
 cases k with
 | zero => rw [laws_FnAffine.j0] at h; cases h
 | succ k => rw [laws_FnAffine.j0, if_pos rfl] at h; cases (Option.some.inj h).trans hr
theorem laws_FnAffine.j3_dead {k : Nat} {y0 : List Int} {y1 : Int} {y2 : List Int} {y3 : List Int} {y4 : Bool} {y5 : List Int} {r : Bool} (h : laws_FnAffine.j3 k y0 y1 y2 y3 y4 y5 true = some r) (hr : r = true) : False := by
 cases k with
 | zero => rw [laws_FnAffine.j3] at h; cases h
 | succ k => rw [laws_FnAffine.j3, if_pos rfl] at h; cases (Option.some.inj h).trans hr
theorem laws_FnAffine.j1_dead {k : Nat} {y0 : List Int} {y1 : List Int} {y2 : Int} {y4 : Int} {y5 : Int} {y6 : Int} {y7 : Int} {r : Bool} (h : laws_FnAffine.j1 k y0 y1 y2 true y4 y5 y6 y7 = some r) (hr : r = true) : False := by
 cases k with
 | zero => rw [laws_FnAffine.j1] at h; cases h
 | succ k => rw [laws_FnAffine.j1, if_pos rfl] at h; cases (Option.some.inj h).trans hr
def laws_FnAffine.T13 : Bool × List (List Nat × List Nat) := (true, [([], []), ([0], [0]), ([1], [1]), ([2], [2]), ([3, 2], [2, 3]), ([2, 4], [2, 4]), ([5, 2], [5]), ([6], [6]), ([7, 6], [6, 7]), ([6, 8], [6, 8]), ([9, 6], [9]), ([10], [10]), ([11, 10], [10, 11]), ([10, 12], [10, 12]), ([13, 10], [13]), ([14], [14]), ([14], [14]), ([15, 16, 14], [14, 15, 16]), ([14, 17], [14, 17]), ([18, 14], [18]), ([19], [19]), ([20, 19, 19], [19, 20]), ([19], [19]), ([22, 21, 19], [19, 22]), ([21, 23, 19], [19, 21, 23]), ([19, 24], [19, 24]), ([25, 23], [25]), ([26], [26]), ([27, 26, 26], [26, 27]), ([26], [26]), ([29, 28, 26], [26, 29]), ([28, 30, 26], [26, 28, 30]), ([26, 31], [26, 31]), ([32, 30], [32]), ([33], [33]), ([34, 33, 33], [33, 34]), ([33], [33]), ([36, 35, 33], [33, 36]), ([35, 37, 37, 33], [33, 35, 37]), ([38, 33], [33, 38]), ([33, 39], [33, 39]), ([40, 38], [40]), ([41], [41]), ([42, 41, 41], [41, 42]), ([41], [41]), ([44, 43, 41], [41, 44]), ([43, 45, 41], [41, 43, 45]), ([41, 46], [41, 46]), ([47, 45], [47]), ([48], [48]), ([49, 48, 48], [48, 49]), ([48], [48]), ([51, 50, 48], [48, 51]), ([50, 52, 48], [48, 50, 52]), ([48, 53], [48, 53]), ([54, 52], [54]), ([55], [55]), ([56, 55, 55], [55, 56]), ([55], [55]), ([58, 57, 55], [55, 58]), ([57, 59, 55], [55, 57, 59]), ([55, 60], [55, 60])])
def laws_FnAffine.B13 : List Nat := [0, 1, 3, 7, 15, 31, 63, 127, 255, 511, 1023, 2047, 4095, 8191, 16383, 32767, 32767, 131071, 262143, 524287, 1048575, 2097151, 1048575, 8388607, 16777215, 33554431, 67108863, 134217727, 268435455, 134217727, 1073741823, 2147483647, 4294967295, 8589934591, 17179869183, 34359738367, 17179869183, 137438953471, 274877906943, 549755813887, 1099511627775, 2199023255551, 4398046511103, 8796093022207, 4398046511103, 35184372088831, 70368744177663, 140737488355327, 281474976710655, 562949953421311, 1125899906842623, 562949953421311, 4503599627370495, 9007199254740991, 18014398509481983, 36028797018963967, 72057594037927935, 144115188075855871, 72057594037927935, 576460752303423487, 1152921504606846975, 2305843009213693951]
theorem laws_FnAffine.tab13 : rtab .any (opsOf Try.f3 13) = laws_FnAffine.T13 := by kernel_rfl
theorem laws_FnAffine.bits13 : waitsOk laws_FnAffine.T13.2 laws_FnAffine.B13 = true := by kernel_rfl
def laws_FnAffine.T16 : Bool × List (List Nat × List Nat) := (true, [([], []), ([], []), ([0, 1], [0, 1]), ([], []), ([], []), ([4], [4]), ([], []), ([], []), ([], []), ([5, 6, 7, 8, 2], [5, 6, 7, 8]), ([3, 9, 9], [3, 9]), ([2, 10], [2, 10])])
def laws_FnAffine.B16 : List Nat := [0, 0, 3, 0, 0, 16, 0, 0, 0, 503, 1023, 2047]
theorem laws_FnAffine.tab16 : rtab .any (opsOf Try.f3 16) = laws_FnAffine.T16 := by kernel_rfl
theorem laws_FnAffine.bits16 : waitsOk laws_FnAffine.T16.2 laws_FnAffine.B16 = true := by kernel_rfl
def laws_FnAffine.T34 : Bool × List (List Nat × List Nat) := (true, [([], []), ([], []), ([0, 1], [0, 1]), ([2, 2], [2]), ([3], [3]), ([3], [3]), ([4, 5, 3], [3, 4, 5]), ([3, 6], [3, 6]), ([7, 3], [7]), ([8], [8]), ([8], [8]), ([8], [8]), ([8], [8]), ([9, 10, 11, 12, 8, 8], [8, 9, 10, 11, 12]), ([8], [8]), ([8], [8]), ([8], [8]), ([8], [8]), ([14, 15, 16, 17, 13, 8], [8, 14, 15, 16, 17]), ([13, 18, 8], [8, 13, 18]), ([8, 19], [8, 19]), ([20, 18], [20]), ([21], [21]), ([21], [21]), ([22, 23, 21, 21], [21, 22, 23]), ([21], [21]), ([21], [21]), ([25, 26, 24, 21], [21, 25, 26]), ([24, 27, 21], [21, 24, 27]), ([21, 28], [21, 28]), ([29, 27], [29]), ([30], [30]), ([31, 30, 30], [30, 31]), ([30], [30]), ([33, 32, 30], [30, 33]), ([32, 34, 30], [30, 32, 34]), ([30, 35], [30, 35]), ([36, 34], [36]), ([37], [37]), ([38, 37, 37], [37, 38]), ([37], [37]), ([40, 39, 37], [37, 40]), ([39, 41, 41, 37], [37, 39, 41]), ([37, 42], [37, 42]), ([43, 42, 0, 1, 2, 3, 4, 5, 6, 7, 8, 9, 10, 11, 12, 13, 14, 15, 16, 17, 18, 19, 20, 21, 22, 23, 24, 25, 26, 27, 28, 29, 30, 31, 32, 33, 34, 35, 36, 37, 38, 39, 40, 41, 42, 43], [43])])
def laws_FnAffine.B34 : List Nat := [0, 0, 3, 7, 15, 15, 63, 127, 255, 511, 511, 511, 511, 8191, 511, 511, 511, 511, 262143, 524287, 1048575, 2097151, 4194303, 4194303, 16777215, 4194303, 4194303, 134217727, 268435455, 536870911, 1073741823, 2147483647, 4294967295, 2147483647, 17179869183, 34359738367, 68719476735, 137438953471, 274877906943, 549755813887, 274877906943, 2199023255551, 4398046511103, 8796093022207, 17592186044415]
theorem laws_FnAffine.tab34 : rtab .any (opsOf Try.f3 34) = laws_FnAffine.T34 := by kernel_rfl
theorem laws_FnAffine.bits34 : waitsOk laws_FnAffine.T34.2 laws_FnAffine.B34 = true := by kernel_rfl
set_option maxHeartbeats 8000000 in
set_option maxRecDepth 100000 in
theorem laws_FnAffine.calls (k : Nat) (A0 : Option Addr) (c0 : Nat) (l0 : List Int) (r : Bool) (w : World) (hr0 : Kd.C (Kd.int .u8) w A0 l0.length l0) (hc0 : l0.length ≤ c0) (h : laws_FnAffine.f k l0 = some r) (hr_ : r = true) :
  Calls Try.prog 3 #[.slice A0 l0.length c0] w fun e w' => e = .returned (.bool r) ∧ Below w.heap.size w w' := by
 have HRT := M.A_ hr_; clear hr_
 have hu25 := Try.underlying25
 have HR0 := M.A_ hr0; have HC0 := M.A_ hc0; clear hr0 hc0
 have HB := M.A_ (Below.refl w.heap.size w)
 unfold laws_FnAffine.f at h; have H := h
 clear h; obtain ⟨t470, A2, H⟩ := M.ob_ H; (try dsimp only at H)
 by_cases c3 : t470 = true
 ·subst c3
  rw [if_pos rfl] at H
  (try dsimp only at H)
  obtain rfl := Option.some.inj H
  go_enter Try.func3, Try.ntmps3
  go_wp2_with (first | ((with_reducible refine gate_callee (f := 4) rfl ?_); refine goesL_ (some 42) rfl rfl Try.func4 (by kernel_rfl) rfl #[.slice A0 l0.length c0] rfl (by first | rfl | (simp only [M.mt, M.mc, M.mn, M.ld, M.lt]; rfl)) ?_; (with_reducible refine (laws_big.calls _ _ l0 true _ ?side1 ?side2 A2.out).mono ?_); (case side1 => exact M.Lc HR0.out); (case side2 => exact HC0.out); rintro e w' ⟨rfl, ⟨nd, rfl⟩⟩; refine ⟨_, rfl, ?_⟩))
  go_ret
  exact ⟨by first | rfl | (simp [*, errW_none, errW_some] <;> rfl), M.Lw HB⟩
 ·replace c3 := Bool.eq_false_iff.mpr c3
  subst c3
  rw [if_neg (show ¬ (false = true) by decide)] at H
  (try dsimp only at H); obtain ⟨⟨t471, t472, t473, t476⟩, A4, H⟩ := M.ob_ H; (try dsimp only at H); obtain ⟨⟨t478, t479, t480⟩, A5, H⟩ := M.ob_ H; (try dsimp only at H); obtain ⟨⟨t482, t483, t484⟩, A6, H⟩ := M.ob_ H; (try dsimp only at H); have HC7 := M.A_ H; clear H
  go_enter Try.func3, Try.ntmps3
  go_upto_region 6 with (first | ((with_reducible refine gate_callee (f := 4) rfl ?_); refine goesL_ (some 42) rfl rfl Try.func4 (by kernel_rfl) rfl #[.slice A0 l0.length c0] rfl (by first | rfl | (simp only [M.mt, M.mc, M.mn, M.ld, M.lt]; rfl)) ?_; (with_reducible refine (laws_big.calls _ _ l0 false _ ?side1 ?side2 A2.out).mono ?_); (case side1 => exact M.Lc HR0.out); (case side2 => exact HC0.out); rintro e w' ⟨rfl, ⟨nd, rfl⟩⟩; refine ⟨_, rfl, ?_⟩) | ((with_reducible refine gate_callee (f := 5) rfl ?_); refine goesL_ (some 45) rfl rfl Try.func5 (by kernel_rfl) rfl #[.slice A0 l0.length c0] rfl (by first | rfl | (simp only [M.mt, M.mc, M.mn, M.ld, M.lt]; rfl)) ?_; (with_reducible refine (spec_DrawAffineImage.calls k _ _ l0 t471 t472 t473 t476 _ ?side1 ?side2 A4.out).mono ?_); (case side1 => exact M.Lc HR0.out); (case side2 => exact HC0.out); rintro e w8 ⟨v474, rfl, ho0, hb⟩; refine ⟨_, rfl, ?_⟩; have n0_ := M.A_ (Kd.R_lower ho0 (below_size (by repeat (first | (with_reducible first | exact HB.out | apply M.ba | apply M.pd | apply below_drew1) | exact HB.out)))); have n1_ := M.A_ (below_step (by repeat (first | (with_reducible first | exact HB.out | apply M.ba | apply M.pd | apply below_drew1) | exact HB.out)) hb); clear HB; have HO475 := n0_; have HB := n1_; clear n0_ n1_; (try clear hb); (try clear hb2); (try clear hk); (try clear hi); (try clear ho0)) | ((with_reducible refine gate_dst (N := 3) rfl ?_); refine box_event ?hg (N := 3) ?hd (cs := #[.int .i64 0, .int .i64 0]) (t := 25) ?hr ?_; (case hd => rfl); (case hg => rfl); (case hr => first | (go_simp; done) | (go_simp; rfl)); intro gb477 hg w9 hbox hb; have n0_ := M.A_ (Kd.R_below (M.Lr HO475) hb); have n1_ := M.A_ (below_step (by repeat (first | (with_reducible first | exact HB.out | apply M.ba | apply M.pd | apply below_drew1) | exact HB.out)) hb); have n2_ := M.A_ (hbox); have n3_ := M.A_ ((by rw [hg]; exact (below_size (by repeat (first | (with_reducible first | exact HB.out | apply M.ba | apply M.pd | apply below_drew1) | exact HB.out))) : w.heap.size ≤ gb477)); have n4_ := M.A_ ((by rw [hg]; exact (below_size (by repeat (first | (with_reducible first | exact HB.out | apply M.ba | apply M.pd | apply below_drew1) | exact HB.out))) : w.heap.size ≤ gb477)); clear HO475; clear HB; have HO475 := n0_; have HB := n1_; have BK477 := n2_; have GW477 := n3_; have GE477 := n4_; clear n0_ n1_ n2_ n3_ n4_; clear hb hbox hg; have hcz10_0 : w9.cell? ⟨gb477, 0, none⟩ = some (.int .i64 0) := (blk_cell BK477.out 0).trans rfl; have hcz10_1 : w9.cell? ⟨gb477, 1, none⟩ = some (.int .i64 0) := (blk_cell BK477.out 1).trans rfl; have hfz10_0 := blk_frozen BK477.out 0; have hfz10_1 := blk_frozen BK477.out 1; obtain ⟨Ao11, co11, eo11⟩ := Kd.R_slice HO475.out; subst eo11) | ((with_reducible refine gate_callee (f := 6) rfl ?_); refine goesL_ (some 53) rfl rfl Try.func6 (by kernel_rfl) rfl #[.agg #[.int .i64 t471, .int .i64 t472], .slice Ao11 t473.length co11, .int .i64 t476] rfl (by first | rfl | (simp only [M.mt, M.mc, M.mn, M.ld, M.lt]; rfl)) ?_; (with_reducible refine (impl_AffineImage.calls t471 t472 _ _ t473 t476 t478 t479 t480 _ ?side1 ?side2 A5.out).mono ?_); (case side1 => refine (Kd.R_reads' (e := 3) (base := w.heap.size) (ok := fun k_ => True) (n := t473.length) (c := co11) ?_).2.2; exact (by (with_reducible repeat (first | apply Kd.R_alloc | apply Kd.R_drewN | apply Kd.R_drew)); exact (Kd.R_mono (Kd.R_far (p := ⟨gb477, 1, none⟩) (Kd.R_far (p := ⟨gb477, 0, none⟩) (Kd.R_types HO475.out BK477.out (by decide)) (fun _ hk => hk.2) (.int .i64 t471)) (fun _ hk => hk.2) (.int .i64 t472)) (fun _ h_ => h_.1)))); (case side2 => exact (Kd.R_reads' HO475.out).2.1); rintro e w12 ⟨rfl, hb⟩; refine ⟨_, rfl, ?_⟩; have n0_ := M.A_ (Kd.R_below (by (with_reducible repeat (first | apply Kd.R_alloc | apply Kd.R_drewN | apply Kd.R_drew)); exact (Kd.R_mono (Kd.R_far (p := ⟨gb477, 1, none⟩) (Kd.R_far (p := ⟨gb477, 0, none⟩) (Kd.R_types HO475.out BK477.out (by decide)) (fun _ hk => hk.2) (.int .i64 t471)) (fun _ hk => hk.2) (.int .i64 t472)) (fun _ h_ => h_.1))) hb); have n1_ := M.A_ (blk_below (g := gb477) (o := .cells #[.int .i64 t471, .int .i64 t472] 25 (0, 0)) (by (with_reducible repeat (first | refine blk_drewN ?_ _ | refine blk_drew ?_ | refine blk_alloc ?_ _)); refine blk_put (cs := #[.int .i64 t471, .int .i64 0]) ?_ 1 _ rfl; (with_reducible repeat (first | refine blk_drewN ?_ _ | refine blk_drew ?_ | refine blk_alloc ?_ _)); refine blk_put (cs := #[.int .i64 0, .int .i64 0]) ?_ 0 _ rfl; (with_reducible repeat (first | refine blk_drewN ?_ _ | refine blk_drew ?_ | refine blk_alloc ?_ _)); exact BK477.out) hb); have n2_ := M.A_ (below_step (by repeat (first | (with_reducible first | exact HB.out | apply M.ba | apply M.pd | apply below_drew1 | refine below_set ?_ GE477.out) | exact HB.out)) hb); clear HO475; clear BK477; clear HB; have HO475 := n0_; have BK477 := n1_; have HB := n2_; clear n0_ n1_ n2_; (try clear hb); (try clear hb2); (try clear hk); (try clear hi)) | ((with_reducible refine gate_dst (N := 6) rfl ?_); refine box_event ?hg (N := 6) ?hd (cs := #[.int .i64 0, .int .i64 0]) (t := 25) ?hr ?_; (case hd => rfl); (case hg => rfl); (case hr => first | (go_simp; done) | (go_simp; rfl)); intro gb481 hg w13 hbox hb; have n0_ := M.A_ (Kd.R_below (M.Lr HO475) hb); have n1_ := M.A_ (blk_below (M.Lb BK477) hb); have n2_ := M.A_ (below_step (by repeat (first | (with_reducible first | exact HB.out | apply M.ba | apply M.pd | apply below_drew1 | refine below_set ?_ GE477.out) | exact HB.out)) hb); have n3_ := M.A_ (hbox); have n4_ := M.A_ ((by rw [hg]; exact (below_size (by repeat (first | (with_reducible first | exact HB.out | apply M.ba | apply M.pd | apply below_drew1 | refine below_set ?_ GE477.out) | exact HB.out))) : w.heap.size ≤ gb481)); have n5_ := M.A_ ((by rw [hg]; exact (below_size (by repeat (first | (with_reducible first | exact HB.out | apply M.ba | apply M.pd | apply below_drew1 | refine below_set ?_ GE477.out) | exact HB.out))) : w.heap.size ≤ gb481)); have n6_ := M.A_ ((by rw [hg]; exact Nat.ne_of_lt (blk_lt (M.Lb BK477)) : gb477 ≠ gb481)); have n7_ := M.A_ ((by rw [hg]; exact Nat.ne_of_gt (blk_lt (M.Lb BK477)) : gb481 ≠ gb477)); clear HO475; clear BK477; clear HB; have HO475 := n0_; have BK477 := n1_; have HB := n2_; have BK481 := n3_; have GW481 := n4_; have GE481 := n5_; have NB477_481 := n6_; have NB481_477 := n7_; clear n0_ n1_ n2_ n3_ n4_ n5_ n6_ n7_; clear hb hbox hg; have hnb14 := NB481_477.out; have hnc14 := NB477_481.out; have hcz15_0 : w13.cell? ⟨gb481, 0, none⟩ = some (.int .i64 0) := (blk_cell BK481.out 0).trans rfl; have hcz15_1 : w13.cell? ⟨gb481, 1, none⟩ = some (.int .i64 0) := (blk_cell BK481.out 1).trans rfl; have hfz15_0 := blk_frozen BK481.out 0; have hfz15_1 := blk_frozen BK481.out 1; have hcz16_0 : w13.cell? ⟨gb477, 0, none⟩ = some (.int .i64 t471) := (blk_cell BK477.out 0).trans rfl; have hcz16_1 : w13.cell? ⟨gb477, 1, none⟩ = some (.int .i64 t472) := (blk_cell BK477.out 1).trans rfl; have hfz16_0 := blk_frozen BK477.out 0; have hfz16_1 := blk_frozen BK477.out 1) | ((with_reducible refine gate_callee (f := 7) rfl ?_); refine goesL_ (some 60) rfl rfl Try.func7 (by kernel_rfl) rfl #[.agg #[.int .i64 t471, .int .i64 t472], .slice Ao11 t473.length co11, .int .i64 t476] rfl (by first | rfl | (simp only [M.mt, M.mc, M.mn, M.ld, M.lt]; rfl)) ?_; (with_reducible refine (spec_AffineImage.calls k t471 t472 _ _ t473 t476 t482 t483 t484 _ ?side1 ?side2 A6.out).mono ?_); (case side1 => refine (Kd.R_reads' (e := 3) (base := w.heap.size) (ok := fun k_ => True) (n := t473.length) (c := co11) ?_).2.2; exact (by (with_reducible repeat (first | apply Kd.R_alloc | apply Kd.R_drewN | apply Kd.R_drew)); exact (Kd.R_mono (Kd.R_far (p := ⟨gb481, 1, none⟩) (Kd.R_far (p := ⟨gb481, 0, none⟩) (Kd.R_types HO475.out BK481.out (by decide)) (fun _ hk => hk.2) (.int .i64 t478)) (fun _ hk => hk.2) (.int .i64 t479)) (fun _ h_ => h_.1)))); (case side2 => exact (Kd.R_reads' HO475.out).2.1); rintro e w17 ⟨rfl, hb⟩; refine ⟨_, rfl, ?_⟩; have n0_ := M.A_ (Kd.R_below (by (with_reducible repeat (first | apply Kd.R_alloc | apply Kd.R_drewN | apply Kd.R_drew)); exact (Kd.R_mono (Kd.R_far (p := ⟨gb481, 1, none⟩) (Kd.R_far (p := ⟨gb481, 0, none⟩) (Kd.R_types HO475.out BK481.out (by decide)) (fun _ hk => hk.2) (.int .i64 t478)) (fun _ hk => hk.2) (.int .i64 t479)) (fun _ h_ => h_.1))) hb); have n1_ := M.A_ (blk_below (g := gb477) (o := .cells #[.int .i64 t471, .int .i64 t472] 25 (0, 0)) (by (with_reducible repeat (first | refine blk_drewN ?_ _ | refine blk_drew ?_ | refine blk_alloc ?_ _)); refine blk_far ?_ NB477_481.out _; (with_reducible repeat (first | refine blk_drewN ?_ _ | refine blk_drew ?_ | refine blk_alloc ?_ _)); refine blk_far ?_ NB477_481.out _; (with_reducible repeat (first | refine blk_drewN ?_ _ | refine blk_drew ?_ | refine blk_alloc ?_ _)); exact BK477.out) hb); have n2_ := M.A_ (blk_below (g := gb481) (o := .cells #[.int .i64 t478, .int .i64 t479] 25 (0, 0)) (by (with_reducible repeat (first | refine blk_drewN ?_ _ | refine blk_drew ?_ | refine blk_alloc ?_ _)); refine blk_put (cs := #[.int .i64 t478, .int .i64 0]) ?_ 1 _ rfl; (with_reducible repeat (first | refine blk_drewN ?_ _ | refine blk_drew ?_ | refine blk_alloc ?_ _)); refine blk_put (cs := #[.int .i64 0, .int .i64 0]) ?_ 0 _ rfl; (with_reducible repeat (first | refine blk_drewN ?_ _ | refine blk_drew ?_ | refine blk_alloc ?_ _)); exact BK481.out) hb); have n3_ := M.A_ (below_step (by repeat (first | (with_reducible first | exact HB.out | apply M.ba | apply M.pd | apply below_drew1 | refine below_set ?_ GE477.out | refine below_set ?_ GE481.out) | exact HB.out)) hb); clear HO475; clear BK477; clear BK481; clear HB; have HO475 := n0_; have BK477 := n1_; have BK481 := n2_; have HB := n3_; clear n0_ n1_ n2_ n3_; (try clear hb); (try clear hb2); (try clear hk); (try clear hi)) | ((with_reducible refine gate_dst (N := 8) rfl ?_); refine box_event ?hg (N := 8) ?hd (cs := #[.int .i64 0, .int .i64 0]) (t := 25) ?hr ?_; (case hd => rfl); (case hg => rfl); (case hr => first | (go_simp; done) | (go_simp; rfl)); intro gb485 hg w18 hbox hb; have n0_ := M.A_ (Kd.R_below (M.Lr HO475) hb); have n1_ := M.A_ (blk_below (M.Lb BK477) hb); have n2_ := M.A_ (blk_below (M.Lb BK481) hb); have n3_ := M.A_ (below_step (by repeat (first | (with_reducible first | exact HB.out | apply M.ba | apply M.pd | apply below_drew1 | refine below_set ?_ GE477.out | refine below_set ?_ GE481.out) | exact HB.out)) hb); have n4_ := M.A_ (hbox); have n5_ := M.A_ ((by rw [hg]; exact (below_size (by repeat (first | (with_reducible first | exact HB.out | apply M.ba | apply M.pd | apply below_drew1 | refine below_set ?_ GE477.out | refine below_set ?_ GE481.out) | exact HB.out))) : w.heap.size ≤ gb485)); have n6_ := M.A_ ((by rw [hg]; exact (below_size (by repeat (first | (with_reducible first | exact HB.out | apply M.ba | apply M.pd | apply below_drew1 | refine below_set ?_ GE477.out | refine below_set ?_ GE481.out) | exact HB.out))) : w.heap.size ≤ gb485)); have n7_ := M.A_ ((by rw [hg]; exact Nat.ne_of_lt (blk_lt (M.Lb BK477)) : gb477 ≠ gb485)); have n8_ := M.A_ ((by rw [hg]; exact Nat.ne_of_gt (blk_lt (M.Lb BK477)) : gb485 ≠ gb477)); have n9_ := M.A_ ((by rw [hg]; exact Nat.ne_of_lt (blk_lt (M.Lb BK481)) : gb481 ≠ gb485)); have n10_ := M.A_ ((by rw [hg]; exact Nat.ne_of_gt (blk_lt (M.Lb BK481)) : gb485 ≠ gb481)); clear HO475; clear BK477; clear BK481; clear HB; have HO475 := n0_; have BK477 := n1_; have BK481 := n2_; have HB := n3_; have BK485 := n4_; have GW485 := n5_; have GE485 := n6_; have NB477_485 := n7_; have NB485_477 := n8_; have NB481_485 := n9_; have NB485_481 := n10_; clear n0_ n1_ n2_ n3_ n4_ n5_ n6_ n7_ n8_ n9_ n10_; clear hb hbox hg; have hnb19 := NB485_477.out; have hnc19 := NB477_485.out; have hnb20 := NB485_481.out; have hnc20 := NB481_485.out; have hcz21_0 : w18.cell? ⟨gb485, 0, none⟩ = some (.int .i64 0) := (blk_cell BK485.out 0).trans rfl; have hcz21_1 : w18.cell? ⟨gb485, 1, none⟩ = some (.int .i64 0) := (blk_cell BK485.out 1).trans rfl; have hfz21_0 := blk_frozen BK485.out 0; have hfz21_1 := blk_frozen BK485.out 1))
  (try simp only [Act.put, M.sT_, M.s0_, M.s1_])
  go_cut [70] (fun v70 wc => ∃ (kq : Nat) (x70_6 : Bool), v70 = .bool x70_6 ∧ Aside0 (laws_FnAffine.j0 kq l0 t473 t476 t480 x70_6 t471 t472 t482 t483 = some r) ∧ Aside0 (kq ≤ k) ∧ Aside0 (Kd.R (Kd.int .i64) 3 wc w.heap.size (fun _ => True) (.slice Ao11 t473.length co11) t473) ∧ Aside0 (wc.heap[gb477]? = some (.cells #[.int .i64 t471, .int .i64 t472] 25 (0, 0))) ∧ Aside0 (wc.heap[gb481]? = some (.cells #[.int .i64 t478, .int .i64 t479] 25 (0, 0))) ∧ Aside0 (wc.heap[gb485]? = some (.cells #[.int .i64 t482, .int .i64 t483] 25 (0, 0))) ∧ Aside0 (Below w.heap.size w wc))
  case first =>
   as_aux_lemma =>
   have H := HC7.out
   clear HC7
   by_cases c22 : (!(t478 == t482) || (!(t479 == t483))) = true
   ·rw [if_pos c22] at H
    have c22b0 : (!(t478 == t482) || (!(t479 == t483))) = true := c22
    clear c22
    (first | rw [c22b0] | (simp only [i64_w, i32_w]; rw [c22b0]) | skip)
    first | exact (laws_FnAffine.j0_dead H HRT.out).elim | exact (laws_FnAffine.j3_dead H HRT.out).elim | exact (laws_FnAffine.j1_dead H HRT.out).elim
   ·rw [if_neg c22] at H
    have c22b0 : (!(t478 == t482) || (!(t479 == t483))) = false := by simpa using c22
    clear c22
    (first | rw [c22b0] | (simp only [i64_w, i32_w]; rw [c22b0]) | skip)
    have H' := M.A_ H
    clear H
    have hnb28 := NB481_477.out
    have hnc28 := NB477_481.out
    have hnb29 := NB481_485.out
    have hnc29 := NB485_481.out
    have hcz30_0 : w18.cell? ⟨gb481, 0, none⟩ = some (.int .i64 t478) := (blk_cell BK481.out 0).trans rfl
    have hcz30_1 : w18.cell? ⟨gb481, 1, none⟩ = some (.int .i64 t479) := (blk_cell BK481.out 1).trans rfl
    have hfz30_0 := blk_frozen BK481.out 0
    have hfz30_1 := blk_frozen BK481.out 1
    have hnb31 := NB485_477.out
    have hnc31 := NB477_485.out
    have hcz32_0 : w18.cell? ⟨gb485, 0, none⟩ = some (.int .i64 0) := (blk_cell BK485.out 0).trans rfl
    have hcz32_1 : w18.cell? ⟨gb485, 1, none⟩ = some (.int .i64 0) := (blk_cell BK485.out 1).trans rfl
    have hfz32_0 := blk_frozen BK485.out 0
    have hfz32_1 := blk_frozen BK485.out 1
    go_wp2
    go_meet
    case rel => exact ⟨_, ((t480 != t484)), (by first | rfl | (simp; done) | (simp [*]; done)), H', ⟨by first | omega | exact Nat.le_refl _⟩, ⟨by (with_reducible repeat (first | apply Kd.R_alloc | apply Kd.R_drewN | apply Kd.R_drew)); exact Kd.R_mono (Kd.R_far (p := ⟨gb485, 1, none⟩) (Kd.R_far (p := ⟨gb485, 0, none⟩) (Kd.R_types HO475.out BK485.out (by decide)) (fun _ hk => hk.2) (.int .i64 t482)) (fun _ hk => hk.2) (.int .i64 t483)) (fun _ hk => trivial)⟩, ⟨by (with_reducible repeat (first | refine blk_drewN ?_ _ | refine blk_drew ?_ | refine blk_alloc ?_ _)); refine blk_far ?_ NB477_485.out _; (with_reducible repeat (first | refine blk_drewN ?_ _ | refine blk_drew ?_ | refine blk_alloc ?_ _)); refine blk_far ?_ NB477_485.out _; (with_reducible repeat (first | refine blk_drewN ?_ _ | refine blk_drew ?_ | refine blk_alloc ?_ _)); exact BK477.out⟩, ⟨by (with_reducible repeat (first | refine blk_drewN ?_ _ | refine blk_drew ?_ | refine blk_alloc ?_ _)); refine blk_far ?_ NB481_485.out _; (with_reducible repeat (first | refine blk_drewN ?_ _ | refine blk_drew ?_ | refine blk_alloc ?_ _)); refine blk_far ?_ NB481_485.out _; (with_reducible repeat (first | refine blk_drewN ?_ _ | refine blk_drew ?_ | refine blk_alloc ?_ _)); exact BK481.out⟩, ⟨by (with_reducible repeat (first | refine blk_drewN ?_ _ | refine blk_drew ?_ | refine blk_alloc ?_ _)); refine blk_put (cs := #[.int .i64 t482, .int .i64 0]) ?_ 1 _ rfl; (with_reducible repeat (first | refine blk_drewN ?_ _ | refine blk_drew ?_ | refine blk_alloc ?_ _)); refine blk_put (cs := #[.int .i64 0, .int .i64 0]) ?_ 0 _ rfl; (with_reducible repeat (first | refine blk_drewN ?_ _ | refine blk_drew ?_ | refine blk_alloc ?_ _)); exact BK485.out⟩, ⟨by repeat (first | (with_reducible first | exact HB.out | apply M.ba | apply M.pd | apply below_drew1 | refine below_set ?_ GE477.out | refine below_set ?_ GE481.out | refine below_set ?_ GE485.out) | exact HB.out)⟩⟩
  case rest =>
   as_aux_lemma =>
   clear HC7; (try clear c1); (try clear c2); (try clear p2); (try clear c3); (try clear c4); (try clear c5); (try clear c6); (try clear c7); (try clear c14); (try clear c19); (try clear c20); (try clear c22); (try clear c22b0); (try clear c23); (try clear c24); (try clear c26); (try clear c28); (try clear c29); (try clear c31); (try clear hcz10_0); (try clear hcz10_1); (try clear hcz15_0); (try clear hcz15_1); (try clear hcz16_0); (try clear hcz16_1); (try clear hcz21_0); (try clear hcz21_1); (try clear hcz25_0); (try clear hcz25_1); (try clear hcz27_0); (try clear hcz27_1); (try clear hcz30_0)
   (try clear hcz30_1); (try clear hcz32_0); (try clear hcz32_1); (try clear hfz10_0); (try clear hfz10_1); (try clear hfz15_0); (try clear hfz15_1); (try clear hfz16_0); (try clear hfz16_1); (try clear hfz21_0); (try clear hfz21_1); (try clear hfz25_0); (try clear hfz25_1); (try clear hfz27_0); (try clear hfz27_1); (try clear hfz30_0); (try clear hfz30_1); (try clear hfz32_0); (try clear hfz32_1); obtain ⟨kq, x70_6, rfl, HA, HJ6, HO_4, BK477, BK481, BK485, HB⟩ := hcut
   cases kq with
   | zero => exact absurd HA.out (by simp [laws_FnAffine.j0])
   | succ kj6 =>
    have H := HA.out
    clear HA
    simp only [laws_FnAffine.j0] at H
    by_cases c33 : x70_6 = true
    ·subst c33
     rw [if_pos rfl] at H
     (try dsimp only at H)
     exact absurd (Option.some.inj H) (by rw [HRT.out]; decide)
    ·replace c33 := Bool.eq_false_iff.mpr c33
     subst c33
     rw [if_neg (show ¬ (false = true) by decide)] at H
     (try dsimp only at H); have HC34 := M.A_ H; clear H
     go_upto_if 71 with (fail)
     go_cut [] (fun wc => ∃ (kq : Nat), Aside0 (laws_FnAffine.j2 kq l0 = some r) ∧ Aside0 (kq ≤ kj6) ∧ Aside0 (wc.heap[gb477]? = some (.cells #[.int .i64 t471, .int .i64 t472] 25 (0, 0))) ∧ Aside0 (wc.heap[gb481]? = some (.cells #[.int .i64 t478, .int .i64 t479] 25 (0, 0))) ∧ Aside0 (wc.heap[gb485]? = some (.cells #[.int .i64 t482, .int .i64 t483] 25 (0, 0))) ∧ Aside0 (Below w.heap.size w wc))
     case first =>
      as_aux_lemma =>
      have H := HC34.out
      clear HC34
      by_cases c35 : t480 = true
      ·subst c35
       rw [if_pos rfl] at H
       (try dsimp only at H); obtain ⟨⟨t486, t487⟩, A36, H⟩ := M.ob_ H; (try dsimp only at H); obtain ⟨⟨t490, t491, t492⟩, A37, H⟩ := M.ob_ H; (try dsimp only at H); obtain ⟨⟨t494, t495, t496⟩, A38, H⟩ := M.ob_ H; (try dsimp only at H); replace H := Option.bind_eq_some_iff.mp H; obtain ⟨⟨t498, t499, t500⟩, A390, H⟩ := H; (try dsimp only at H); have A39 := M.A_ A390
       clear A390; have HC40 := M.A_ H; clear H
       have hnb41 := NB477_481.out
       have hnc41 := NB481_477.out
       have hnb42 := NB477_485.out
       have hnc42 := NB485_477.out
       have hcz43_0 : wc.cell? ⟨gb477, 0, none⟩ = some (.int .i64 t471) := (blk_cell BK477.out 0).trans rfl
       have hcz43_1 : wc.cell? ⟨gb477, 1, none⟩ = some (.int .i64 t472) := (blk_cell BK477.out 1).trans rfl
       have hfz43_0 := blk_frozen BK477.out 0
       have hfz43_1 := blk_frozen BK477.out 1
       go_upto_region 13 with (first | ((with_reducible refine gate_callee (f := 8) rfl ?_); refine goesL_ (some 76) rfl rfl Try.func8 (by kernel_rfl) rfl #[.int .i64 t471, .slice Ao11 t473.length co11] rfl (by first | rfl | (simp only [M.mt, M.mc, M.mn, M.ld, M.lt]; rfl)) ?_; (with_reducible refine (impl_InverseMap.calls kj6 t471 _ _ t473 t486 t487 _ ?side1 ?side2 A36.out).mono ?_); (case side1 => exact M.Lc (Kd.R_reads' HO_4.out).2.2); (case side2 => exact (Kd.R_reads' HO_4.out).2.1); rintro e w44 ⟨v488, rfl, ho0, hb⟩; refine ⟨_, rfl, ?_⟩; have n0_ := M.A_ (Kd.R_elder' (M.Lr HO_4) (Kd.R_base ho0) hb); have n1_ := M.A_ (Kd.R_lower (Kd.R_new' ho0 (Kd.R_lt (M.Lr HO_4))) (below_size (by repeat (first | (with_reducible first | exact HB.out | apply M.ba | apply M.pd | apply below_drew1 | refine below_set ?_ GE477.out | refine below_set ?_ GE481.out | refine below_set ?_ GE485.out) | exact HB.out)))); have n2_ := M.A_ (blk_below (M.Lb BK477) hb); have n3_ := M.A_ (blk_below (M.Lb BK481) hb); have n4_ := M.A_ (blk_below (M.Lb BK485) hb); have n5_ := M.A_ (below_step (by repeat (first | (with_reducible first | exact HB.out | apply M.ba | apply M.pd | apply below_drew1 | refine below_set ?_ GE477.out | refine below_set ?_ GE481.out | refine below_set ?_ GE485.out) | exact HB.out)) hb); clear HO_4; clear BK477; clear BK481; clear BK485; clear HB; have HO_4 := n0_; have HO489 := n1_; have BK477 := n2_; have BK481 := n3_; have BK485 := n4_; have HB := n5_; clear n0_ n1_ n2_ n3_ n4_ n5_; (try clear hb); (try clear hb2); (try clear hk); (try clear hi); (try clear ho0); have hnb45 := NB485_481.out; have hnc45 := NB481_485.out; have hcz46_0 : w44.cell? ⟨gb485, 0, none⟩ = some (.int .i64 t482) := (blk_cell BK485.out 0).trans rfl; have hcz46_1 : w44.cell? ⟨gb485, 1, none⟩ = some (.int .i64 t483) := (blk_cell BK485.out 1).trans rfl; have hfz46_0 := blk_frozen BK485.out 0; have hfz46_1 := blk_frozen BK485.out 1; obtain ⟨Ao47, co47, eo47⟩ := Kd.R_slice HO489.out; subst eo47) | ((with_reducible refine gate_callee (f := 6) rfl ?_); refine goesL_ (some 82) rfl rfl Try.func6 (by kernel_rfl) rfl #[.agg #[.int .i64 t482, .int .i64 t483], .slice Ao47 t486.length co47, .int .i64 0] rfl (by first | rfl | (simp only [M.mt, M.mc, M.mn, M.ld, M.lt]; rfl)) ?_; (with_reducible refine (impl_AffineImage.calls t482 t483 _ _ t486 0 t490 t491 t492 _ ?side1 ?side2 A37.out).mono ?_); (case side1 => exact M.Lc (Kd.R_reads' HO489.out).2.2); (case side2 => exact (Kd.R_reads' HO489.out).2.1); rintro e w48 ⟨rfl, hb⟩; refine ⟨_, rfl, ?_⟩; have n0_ := M.A_ (Kd.R_below (M.Lr HO_4) hb); have n1_ := M.A_ (Kd.R_below (M.Lr HO489) hb); have n2_ := M.A_ (blk_below (M.Lb BK477) hb); have n3_ := M.A_ (blk_below (M.Lb BK481) hb); have n4_ := M.A_ (blk_below (M.Lb BK485) hb); have n5_ := M.A_ (below_step (by repeat (first | (with_reducible first | exact HB.out | apply M.ba | apply M.pd | apply below_drew1 | refine below_set ?_ GE477.out | refine below_set ?_ GE481.out | refine below_set ?_ GE485.out) | exact HB.out)) hb); clear HO_4; clear HO489; clear BK477; clear BK481; clear BK485; clear HB; have HO_4 := n0_; have HO489 := n1_; have BK477 := n2_; have BK481 := n3_; have BK485 := n4_; have HB := n5_; clear n0_ n1_ n2_ n3_ n4_ n5_; (try clear hb); (try clear hb2); (try clear hk); (try clear hi)) | ((with_reducible refine gate_dst (N := 12) rfl ?_); refine box_event ?hg (N := 12) ?hd (cs := #[.int .i64 0, .int .i64 0]) (t := 25) ?hr ?_; (case hd => rfl); (case hg => rfl); (case hr => first | (go_simp; done) | (go_simp; rfl)); intro gb493 hg w49 hbox hb; have n0_ := M.A_ (Kd.R_below (M.Lr HO_4) hb); have n1_ := M.A_ (Kd.R_below (M.Lr HO489) hb); have n2_ := M.A_ (blk_below (M.Lb BK477) hb); have n3_ := M.A_ (blk_below (M.Lb BK481) hb); have n4_ := M.A_ (blk_below (M.Lb BK485) hb); have n5_ := M.A_ (below_step (by repeat (first | (with_reducible first | exact HB.out | apply M.ba | apply M.pd | apply below_drew1 | refine below_set ?_ GE477.out | refine below_set ?_ GE481.out | refine below_set ?_ GE485.out) | exact HB.out)) hb); have n6_ := M.A_ (hbox); have n7_ := M.A_ ((by rw [hg]; exact (below_size (by repeat (first | (with_reducible first | exact HB.out | apply M.ba | apply M.pd | apply below_drew1 | refine below_set ?_ GE477.out | refine below_set ?_ GE481.out | refine below_set ?_ GE485.out) | exact HB.out))) : w.heap.size ≤ gb493)); have n8_ := M.A_ ((by rw [hg]; exact (below_size (by repeat (first | (with_reducible first | exact HB.out | apply M.ba | apply M.pd | apply below_drew1 | refine below_set ?_ GE477.out | refine below_set ?_ GE481.out | refine below_set ?_ GE485.out) | exact HB.out))) : w.heap.size ≤ gb493)); have n9_ := M.A_ ((by rw [hg]; exact Nat.ne_of_lt (blk_lt (M.Lb BK477)) : gb477 ≠ gb493)); have n10_ := M.A_ ((by rw [hg]; exact Nat.ne_of_gt (blk_lt (M.Lb BK477)) : gb493 ≠ gb477)); have n11_ := M.A_ ((by rw [hg]; exact Nat.ne_of_lt (blk_lt (M.Lb BK481)) : gb481 ≠ gb493)); have n12_ := M.A_ ((by rw [hg]; exact Nat.ne_of_gt (blk_lt (M.Lb BK481)) : gb493 ≠ gb481)); have n13_ := M.A_ ((by rw [hg]; exact Nat.ne_of_lt (blk_lt (M.Lb BK485)) : gb485 ≠ gb493)); have n14_ := M.A_ ((by rw [hg]; exact Nat.ne_of_gt (blk_lt (M.Lb BK485)) : gb493 ≠ gb485)); clear HO_4; clear HO489; clear BK477; clear BK481; clear BK485; clear HB; have HO_4 := n0_; have HO489 := n1_; have BK477 := n2_; have BK481 := n3_; have BK485 := n4_; have HB := n5_; have BK493 := n6_; have GW493 := n7_; have GE493 := n8_; have NB477_493 := n9_; have NB493_477 := n10_; have NB481_493 := n11_; have NB493_481 := n12_; have NB485_493 := n13_; have NB493_485 := n14_; clear n0_ n1_ n2_ n3_ n4_ n5_ n6_ n7_ n8_ n9_ n10_ n11_ n12_ n13_ n14_; clear hb hbox hg; have hnb50 := NB493_477.out; have hnc50 := NB477_493.out; have hnb51 := NB493_481.out; have hnc51 := NB481_493.out; have hnb52 := NB493_485.out; have hnc52 := NB485_493.out; have hcz53_0 : w49.cell? ⟨gb493, 0, none⟩ = some (.int .i64 0) := (blk_cell BK493.out 0).trans rfl; have hcz53_1 : w49.cell? ⟨gb493, 1, none⟩ = some (.int .i64 0) := (blk_cell BK493.out 1).trans rfl; have hfz53_0 := blk_frozen BK493.out 0; have hfz53_1 := blk_frozen BK493.out 1; have hcz54_0 : w49.cell? ⟨gb477, 0, none⟩ = some (.int .i64 t471) := (blk_cell BK477.out 0).trans rfl; have hcz54_1 : w49.cell? ⟨gb477, 1, none⟩ = some (.int .i64 t472) := (blk_cell BK477.out 1).trans rfl; have hfz54_0 := blk_frozen BK477.out 0; have hfz54_1 := blk_frozen BK477.out 1) | ((with_reducible refine gate_callee (f := 6) rfl ?_); refine goesL_ (some 88) rfl rfl Try.func6 (by kernel_rfl) rfl #[.agg #[.int .i64 t471, .int .i64 t472], .slice Ao11 t473.length co11, .int .i64 0] rfl (by first | rfl | (simp only [M.mt, M.mc, M.mn, M.ld, M.lt]; rfl)) ?_; (with_reducible refine (impl_AffineImage.calls t471 t472 _ _ t473 0 t494 t495 t496 _ ?side1 ?side2 A38.out).mono ?_); (case side1 => refine (Kd.R_reads' (e := 3) (base := w.heap.size) (ok := fun k_ => (True ∧ some k_ ≠ (.slice Ao47 t486.length co47 : Value).ownBlock)) (n := t473.length) (c := co11) ?_).2.2; exact (by (with_reducible repeat (first | apply Kd.R_alloc | apply Kd.R_drewN | apply Kd.R_drew)); exact (Kd.R_mono (Kd.R_far (p := ⟨gb493, 1, none⟩) (Kd.R_far (p := ⟨gb493, 0, none⟩) (Kd.R_types HO_4.out BK493.out (by decide)) (fun _ hk => hk.2) (.int .i64 t490)) (fun _ hk => hk.2) (.int .i64 t491)) (fun _ h_ => h_.1)))); (case side2 => exact (Kd.R_reads' HO_4.out).2.1); rintro e w55 ⟨rfl, hb⟩; refine ⟨_, rfl, ?_⟩; have n0_ := M.A_ (Kd.R_below (by (with_reducible repeat (first | apply Kd.R_alloc | apply Kd.R_drewN | apply Kd.R_drew)); exact (Kd.R_mono (Kd.R_far (p := ⟨gb493, 1, none⟩) (Kd.R_far (p := ⟨gb493, 0, none⟩) (Kd.R_types HO_4.out BK493.out (by decide)) (fun _ hk => hk.2) (.int .i64 t490)) (fun _ hk => hk.2) (.int .i64 t491)) (fun _ h_ => h_.1))) hb); have n1_ := M.A_ (Kd.R_below (by (with_reducible repeat (first | apply Kd.R_alloc | apply Kd.R_drewN | apply Kd.R_drew)); exact (Kd.R_mono (Kd.R_far (p := ⟨gb493, 1, none⟩) (Kd.R_far (p := ⟨gb493, 0, none⟩) (Kd.R_types HO489.out BK493.out (by decide)) (fun _ hk => hk.2) (.int .i64 t490)) (fun _ hk => hk.2) (.int .i64 t491)) (fun _ h_ => h_.1))) hb); have n2_ := M.A_ (blk_below (g := gb477) (o := .cells #[.int .i64 t471, .int .i64 t472] 25 (0, 0)) (by (with_reducible repeat (first | refine blk_drewN ?_ _ | refine blk_drew ?_ | refine blk_alloc ?_ _)); refine blk_far ?_ NB477_493.out _; (with_reducible repeat (first | refine blk_drewN ?_ _ | refine blk_drew ?_ | refine blk_alloc ?_ _)); refine blk_far ?_ NB477_493.out _; (with_reducible repeat (first | refine blk_drewN ?_ _ | refine blk_drew ?_ | refine blk_alloc ?_ _)); exact BK477.out) hb); have n3_ := M.A_ (blk_below (g := gb481) (o := .cells #[.int .i64 t478, .int .i64 t479] 25 (0, 0)) (by (with_reducible repeat (first | refine blk_drewN ?_ _ | refine blk_drew ?_ | refine blk_alloc ?_ _)); refine blk_far ?_ NB481_493.out _; (with_reducible repeat (first | refine blk_drewN ?_ _ | refine blk_drew ?_ | refine blk_alloc ?_ _)); refine blk_far ?_ NB481_493.out _; (with_reducible repeat (first | refine blk_drewN ?_ _ | refine blk_drew ?_ | refine blk_alloc ?_ _)); exact BK481.out) hb); have n4_ := M.A_ (blk_below (g := gb485) (o := .cells #[.int .i64 t482, .int .i64 t483] 25 (0, 0)) (by (with_reducible repeat (first | refine blk_drewN ?_ _ | refine blk_drew ?_ | refine blk_alloc ?_ _)); refine blk_far ?_ NB485_493.out _; (with_reducible repeat (first | refine blk_drewN ?_ _ | refine blk_drew ?_ | refine blk_alloc ?_ _)); refine blk_far ?_ NB485_493.out _; (with_reducible repeat (first | refine blk_drewN ?_ _ | refine blk_drew ?_ | refine blk_alloc ?_ _)); exact BK485.out) hb); have n5_ := M.A_ (blk_below (g := gb493) (o := .cells #[.int .i64 t490, .int .i64 t491] 25 (0, 0)) (by (with_reducible repeat (first | refine blk_drewN ?_ _ | refine blk_drew ?_ | refine blk_alloc ?_ _)); refine blk_put (cs := #[.int .i64 t490, .int .i64 0]) ?_ 1 _ rfl; (with_reducible repeat (first | refine blk_drewN ?_ _ | refine blk_drew ?_ | refine blk_alloc ?_ _)); refine blk_put (cs := #[.int .i64 0, .int .i64 0]) ?_ 0 _ rfl; (with_reducible repeat (first | refine blk_drewN ?_ _ | refine blk_drew ?_ | refine blk_alloc ?_ _)); exact BK493.out) hb); have n6_ := M.A_ (below_step (by repeat (first | (with_reducible first | exact HB.out | apply M.ba | apply M.pd | apply below_drew1 | refine below_set ?_ GE477.out | refine below_set ?_ GE481.out | refine below_set ?_ GE485.out | refine below_set ?_ GE493.out) | exact HB.out)) hb); clear HO_4; clear HO489; clear BK477; clear BK481; clear BK485; clear BK493; clear HB; have HO_4 := n0_; have HO489 := n1_; have BK477 := n2_; have BK481 := n3_; have BK485 := n4_; have BK493 := n5_; have HB := n6_; clear n0_ n1_ n2_ n3_ n4_ n5_ n6_; (try clear hb); (try clear hb2); (try clear hk); (try clear hi)) | ((with_reducible refine gate_dst (N := 14) rfl ?_); refine box_event ?hg (N := 14) ?hd (cs := #[.int .i64 0, .int .i64 0]) (t := 25) ?hr ?_; (case hd => rfl); (case hg => rfl); (case hr => first | (go_simp; done) | (go_simp; rfl)); intro gb497 hg w56 hbox hb; have n0_ := M.A_ (Kd.R_below (M.Lr HO_4) hb); have n1_ := M.A_ (Kd.R_below (M.Lr HO489) hb); have n2_ := M.A_ (blk_below (M.Lb BK477) hb); have n3_ := M.A_ (blk_below (M.Lb BK481) hb); have n4_ := M.A_ (blk_below (M.Lb BK485) hb); have n5_ := M.A_ (blk_below (M.Lb BK493) hb); have n6_ := M.A_ (below_step (by repeat (first | (with_reducible first | exact HB.out | apply M.ba | apply M.pd | apply below_drew1 | refine below_set ?_ GE477.out | refine below_set ?_ GE481.out | refine below_set ?_ GE485.out | refine below_set ?_ GE493.out) | exact HB.out)) hb); have n7_ := M.A_ (hbox); have n8_ := M.A_ ((by rw [hg]; exact (below_size (by repeat (first | (with_reducible first | exact HB.out | apply M.ba | apply M.pd | apply below_drew1 | refine below_set ?_ GE477.out | refine below_set ?_ GE481.out | refine below_set ?_ GE485.out | refine below_set ?_ GE493.out) | exact HB.out))) : w.heap.size ≤ gb497)); have n9_ := M.A_ ((by rw [hg]; exact (below_size (by repeat (first | (with_reducible first | exact HB.out | apply M.ba | apply M.pd | apply below_drew1 | refine below_set ?_ GE477.out | refine below_set ?_ GE481.out | refine below_set ?_ GE485.out | refine below_set ?_ GE493.out) | exact HB.out))) : w.heap.size ≤ gb497)); have n10_ := M.A_ ((by rw [hg]; exact Nat.ne_of_lt (blk_lt (M.Lb BK477)) : gb477 ≠ gb497)); have n11_ := M.A_ ((by rw [hg]; exact Nat.ne_of_gt (blk_lt (M.Lb BK477)) : gb497 ≠ gb477)); have n12_ := M.A_ ((by rw [hg]; exact Nat.ne_of_lt (blk_lt (M.Lb BK481)) : gb481 ≠ gb497)); have n13_ := M.A_ ((by rw [hg]; exact Nat.ne_of_gt (blk_lt (M.Lb BK481)) : gb497 ≠ gb481)); have n14_ := M.A_ ((by rw [hg]; exact Nat.ne_of_lt (blk_lt (M.Lb BK485)) : gb485 ≠ gb497)); have n15_ := M.A_ ((by rw [hg]; exact Nat.ne_of_gt (blk_lt (M.Lb BK485)) : gb497 ≠ gb485)); have n16_ := M.A_ ((by rw [hg]; exact Nat.ne_of_lt (blk_lt (M.Lb BK493)) : gb493 ≠ gb497)); have n17_ := M.A_ ((by rw [hg]; exact Nat.ne_of_gt (blk_lt (M.Lb BK493)) : gb497 ≠ gb493)); clear HO_4; clear HO489; clear BK477; clear BK481; clear BK485; clear BK493; clear HB; have HO_4 := n0_; have HO489 := n1_; have BK477 := n2_; have BK481 := n3_; have BK485 := n4_; have BK493 := n5_; have HB := n6_; have BK497 := n7_; have GW497 := n8_; have GE497 := n9_; have NB477_497 := n10_; have NB497_477 := n11_; have NB481_497 := n12_; have NB497_481 := n13_; have NB485_497 := n14_; have NB497_485 := n15_; have NB493_497 := n16_; have NB497_493 := n17_; clear n0_ n1_ n2_ n3_ n4_ n5_ n6_ n7_ n8_ n9_ n10_ n11_ n12_ n13_ n14_ n15_ n16_ n17_; clear hb hbox hg; have hnb57 := NB497_477.out; have hnc57 := NB477_497.out; have hnb58 := NB497_481.out; have hnc58 := NB481_497.out; have hnb59 := NB497_485.out; have hnc59 := NB485_497.out; have hnb60 := NB497_493.out; have hnc60 := NB493_497.out; have hcz61_0 : w56.cell? ⟨gb497, 0, none⟩ = some (.int .i64 0) := (blk_cell BK497.out 0).trans rfl; have hcz61_1 : w56.cell? ⟨gb497, 1, none⟩ = some (.int .i64 0) := (blk_cell BK497.out 1).trans rfl; have hfz61_0 := blk_frozen BK497.out 0; have hfz61_1 := blk_frozen BK497.out 1) | ((with_reducible refine gate_callee (f := 6) rfl ?_); refine goesL_ (some 94) rfl rfl Try.func6 (by kernel_rfl) rfl #[.agg #[.int .i64 t494, .int .i64 t495], .slice Ao47 t486.length co47, .int .i64 0] rfl (by first | rfl | (simp only [M.mt, M.mc, M.mn, M.ld, M.lt]; rfl)) ?_; (with_reducible refine (impl_AffineImage.calls t494 t495 _ _ t486 0 t498 t499 t500 _ ?side1 ?side2 A39.out).mono ?_); (case side1 => refine (Kd.R_reads' (e := 3) (base := w.heap.size) (ok := fun k_ => (True ∧ some k_ ≠ (.slice Ao11 t473.length co11 : Value).ownBlock)) (n := t486.length) (c := co47) ?_).2.2; exact (by (with_reducible repeat (first | apply Kd.R_alloc | apply Kd.R_drewN | apply Kd.R_drew)); exact (Kd.R_mono (Kd.R_far (p := ⟨gb497, 1, none⟩) (Kd.R_far (p := ⟨gb497, 0, none⟩) (Kd.R_types HO489.out BK497.out (by decide)) (fun _ hk => hk.2) (.int .i64 t494)) (fun _ hk => hk.2) (.int .i64 t495)) (fun _ h_ => h_.1)))); (case side2 => exact (Kd.R_reads' HO489.out).2.1); rintro e w62 ⟨rfl, hb⟩; refine ⟨_, rfl, ?_⟩; have n0_ := M.A_ (Kd.R_below (by (with_reducible repeat (first | apply Kd.R_alloc | apply Kd.R_drewN | apply Kd.R_drew)); exact (Kd.R_mono (Kd.R_far (p := ⟨gb497, 1, none⟩) (Kd.R_far (p := ⟨gb497, 0, none⟩) (Kd.R_types HO_4.out BK497.out (by decide)) (fun _ hk => hk.2) (.int .i64 t494)) (fun _ hk => hk.2) (.int .i64 t495)) (fun _ h_ => h_.1))) hb); have n1_ := M.A_ (Kd.R_below (by (with_reducible repeat (first | apply Kd.R_alloc | apply Kd.R_drewN | apply Kd.R_drew)); exact (Kd.R_mono (Kd.R_far (p := ⟨gb497, 1, none⟩) (Kd.R_far (p := ⟨gb497, 0, none⟩) (Kd.R_types HO489.out BK497.out (by decide)) (fun _ hk => hk.2) (.int .i64 t494)) (fun _ hk => hk.2) (.int .i64 t495)) (fun _ h_ => h_.1))) hb); have n2_ := M.A_ (blk_below (g := gb477) (o := .cells #[.int .i64 t471, .int .i64 t472] 25 (0, 0)) (by (with_reducible repeat (first | refine blk_drewN ?_ _ | refine blk_drew ?_ | refine blk_alloc ?_ _)); refine blk_far ?_ NB477_497.out _; (with_reducible repeat (first | refine blk_drewN ?_ _ | refine blk_drew ?_ | refine blk_alloc ?_ _)); refine blk_far ?_ NB477_497.out _; (with_reducible repeat (first | refine blk_drewN ?_ _ | refine blk_drew ?_ | refine blk_alloc ?_ _)); exact BK477.out) hb); have n3_ := M.A_ (blk_below (g := gb481) (o := .cells #[.int .i64 t478, .int .i64 t479] 25 (0, 0)) (by (with_reducible repeat (first | refine blk_drewN ?_ _ | refine blk_drew ?_ | refine blk_alloc ?_ _)); refine blk_far ?_ NB481_497.out _; (with_reducible repeat (first | refine blk_drewN ?_ _ | refine blk_drew ?_ | refine blk_alloc ?_ _)); refine blk_far ?_ NB481_497.out _; (with_reducible repeat (first | refine blk_drewN ?_ _ | refine blk_drew ?_ | refine blk_alloc ?_ _)); exact BK481.out) hb); have n4_ := M.A_ (blk_below (g := gb485) (o := .cells #[.int .i64 t482, .int .i64 t483] 25 (0, 0)) (by (with_reducible repeat (first | refine blk_drewN ?_ _ | refine blk_drew ?_ | refine blk_alloc ?_ _)); refine blk_far ?_ NB485_497.out _; (with_reducible repeat (first | refine blk_drewN ?_ _ | refine blk_drew ?_ | refine blk_alloc ?_ _)); refine blk_far ?_ NB485_497.out _; (with_reducible repeat (first | refine blk_drewN ?_ _ | refine blk_drew ?_ | refine blk_alloc ?_ _)); exact BK485.out) hb); have n5_ := M.A_ (blk_below (g := gb493) (o := .cells #[.int .i64 t490, .int .i64 t491] 25 (0, 0)) (by (with_reducible repeat (first | refine blk_drewN ?_ _ | refine blk_drew ?_ | refine blk_alloc ?_ _)); refine blk_far ?_ NB493_497.out _; (with_reducible repeat (first | refine blk_drewN ?_ _ | refine blk_drew ?_ | refine blk_alloc ?_ _)); refine blk_far ?_ NB493_497.out _; (with_reducible repeat (first | refine blk_drewN ?_ _ | refine blk_drew ?_ | refine blk_alloc ?_ _)); exact BK493.out) hb); have n6_ := M.A_ (blk_below (g := gb497) (o := .cells #[.int .i64 t494, .int .i64 t495] 25 (0, 0)) (by (with_reducible repeat (first | refine blk_drewN ?_ _ | refine blk_drew ?_ | refine blk_alloc ?_ _)); refine blk_put (cs := #[.int .i64 t494, .int .i64 0]) ?_ 1 _ rfl; (with_reducible repeat (first | refine blk_drewN ?_ _ | refine blk_drew ?_ | refine blk_alloc ?_ _)); refine blk_put (cs := #[.int .i64 0, .int .i64 0]) ?_ 0 _ rfl; (with_reducible repeat (first | refine blk_drewN ?_ _ | refine blk_drew ?_ | refine blk_alloc ?_ _)); exact BK497.out) hb); have n7_ := M.A_ (below_step (by repeat (first | (with_reducible first | exact HB.out | apply M.ba | apply M.pd | apply below_drew1 | refine below_set ?_ GE477.out | refine below_set ?_ GE481.out | refine below_set ?_ GE485.out | refine below_set ?_ GE493.out | refine below_set ?_ GE497.out) | exact HB.out)) hb); clear HO_4; clear HO489; clear BK477; clear BK481; clear BK485; clear BK493; clear BK497; clear HB; have HO_4 := n0_; have HO489 := n1_; have BK477 := n2_; have BK481 := n3_; have BK485 := n4_; have BK493 := n5_; have BK497 := n6_; have HB := n7_; clear n0_ n1_ n2_ n3_ n4_ n5_ n6_ n7_; (try clear hb); (try clear hb2); (try clear hk); (try clear hi)) | ((with_reducible refine gate_dst (N := 16) rfl ?_); refine box_event ?hg (N := 16) ?hd (cs := #[.int .i64 0, .int .i64 0]) (t := 25) ?hr ?_; (case hd => rfl); (case hg => rfl); (case hr => first | (go_simp; done) | (go_simp; rfl)); intro gb501 hg w63 hbox hb; have n0_ := M.A_ (Kd.R_below (M.Lr HO_4) hb); have n1_ := M.A_ (Kd.R_below (M.Lr HO489) hb); have n2_ := M.A_ (blk_below (M.Lb BK477) hb); have n3_ := M.A_ (blk_below (M.Lb BK481) hb); have n4_ := M.A_ (blk_below (M.Lb BK485) hb); have n5_ := M.A_ (blk_below (M.Lb BK493) hb); have n6_ := M.A_ (blk_below (M.Lb BK497) hb); have n7_ := M.A_ (below_step (by repeat (first | (with_reducible first | exact HB.out | apply M.ba | apply M.pd | apply below_drew1 | refine below_set ?_ GE477.out | refine below_set ?_ GE481.out | refine below_set ?_ GE485.out | refine below_set ?_ GE493.out | refine below_set ?_ GE497.out) | exact HB.out)) hb); have n8_ := M.A_ (hbox); have n9_ := M.A_ ((by rw [hg]; exact (below_size (by repeat (first | (with_reducible first | exact HB.out | apply M.ba | apply M.pd | apply below_drew1 | refine below_set ?_ GE477.out | refine below_set ?_ GE481.out | refine below_set ?_ GE485.out | refine below_set ?_ GE493.out | refine below_set ?_ GE497.out) | exact HB.out))) : w.heap.size ≤ gb501)); have n10_ := M.A_ ((by rw [hg]; exact (below_size (by repeat (first | (with_reducible first | exact HB.out | apply M.ba | apply M.pd | apply below_drew1 | refine below_set ?_ GE477.out | refine below_set ?_ GE481.out | refine below_set ?_ GE485.out | refine below_set ?_ GE493.out | refine below_set ?_ GE497.out) | exact HB.out))) : w.heap.size ≤ gb501)); have n11_ := M.A_ ((by rw [hg]; exact Nat.ne_of_lt (blk_lt (M.Lb BK477)) : gb477 ≠ gb501)); have n12_ := M.A_ ((by rw [hg]; exact Nat.ne_of_gt (blk_lt (M.Lb BK477)) : gb501 ≠ gb477)); have n13_ := M.A_ ((by rw [hg]; exact Nat.ne_of_lt (blk_lt (M.Lb BK481)) : gb481 ≠ gb501)); have n14_ := M.A_ ((by rw [hg]; exact Nat.ne_of_gt (blk_lt (M.Lb BK481)) : gb501 ≠ gb481)); have n15_ := M.A_ ((by rw [hg]; exact Nat.ne_of_lt (blk_lt (M.Lb BK485)) : gb485 ≠ gb501)); have n16_ := M.A_ ((by rw [hg]; exact Nat.ne_of_gt (blk_lt (M.Lb BK485)) : gb501 ≠ gb485)); have n17_ := M.A_ ((by rw [hg]; exact Nat.ne_of_lt (blk_lt (M.Lb BK493)) : gb493 ≠ gb501)); have n18_ := M.A_ ((by rw [hg]; exact Nat.ne_of_gt (blk_lt (M.Lb BK493)) : gb501 ≠ gb493)); have n19_ := M.A_ ((by rw [hg]; exact Nat.ne_of_lt (blk_lt (M.Lb BK497)) : gb497 ≠ gb501)); have n20_ := M.A_ ((by rw [hg]; exact Nat.ne_of_gt (blk_lt (M.Lb BK497)) : gb501 ≠ gb497)); clear HO_4; clear HO489; clear BK477; clear BK481; clear BK485; clear BK493; clear BK497; clear HB; have HO_4 := n0_; have HO489 := n1_; have BK477 := n2_; have BK481 := n3_; have BK485 := n4_; have BK493 := n5_; have BK497 := n6_; have HB := n7_; have BK501 := n8_; have GW501 := n9_; have GE501 := n10_; have NB477_501 := n11_; have NB501_477 := n12_; have NB481_501 := n13_; have NB501_481 := n14_; have NB485_501 := n15_; have NB501_485 := n16_; have NB493_501 := n17_; have NB501_493 := n18_; have NB497_501 := n19_; have NB501_497 := n20_; clear n0_ n1_ n2_ n3_ n4_ n5_ n6_ n7_ n8_ n9_ n10_ n11_ n12_ n13_ n14_ n15_ n16_ n17_ n18_ n19_ n20_; clear hb hbox hg; have hnb64 := NB501_477.out; have hnc64 := NB477_501.out; have hnb65 := NB501_481.out; have hnc65 := NB481_501.out; have hnb66 := NB501_485.out; have hnc66 := NB485_501.out; have hnb67 := NB501_493.out; have hnc67 := NB493_501.out; have hnb68 := NB501_497.out; have hnc68 := NB497_501.out; have hcz69_0 : w63.cell? ⟨gb501, 0, none⟩ = some (.int .i64 0) := (blk_cell BK501.out 0).trans rfl; have hcz69_1 : w63.cell? ⟨gb501, 1, none⟩ = some (.int .i64 0) := (blk_cell BK501.out 1).trans rfl; have hfz69_0 := blk_frozen BK501.out 0; have hfz69_1 := blk_frozen BK501.out 1))
       (try simp only [Act.put, M.sT_, M.s0_, M.s1_])
       go_cut [158] (fun v158 wc => ∃ (kq : Nat) (x158_39 : Bool), v158 = .bool x158_39 ∧ Aside0 (laws_FnAffine.j1 kq l0 t473 t476 x158_39 t471 t472 t482 t483 = some r) ∧ Aside0 (kq ≤ kj6) ∧ Aside0 (Kd.R (Kd.int .i64) 3 wc w.heap.size (fun _ => True) (.slice Ao11 t473.length co11) t473) ∧ Aside0 (wc.heap[gb477]? = some (.cells #[.int .i64 t471, .int .i64 t472] 25 (0, 0))) ∧ Aside0 (wc.heap[gb481]? = some (.cells #[.int .i64 t478, .int .i64 t479] 25 (0, 0))) ∧ Aside0 (wc.heap[gb485]? = some (.cells #[.int .i64 t482, .int .i64 t483] 25 (0, 0))) ∧ Aside0 (wc.heap[gb493]? = some (.cells #[.int .i64 t490, .int .i64 t491] 25 (0, 0))) ∧ Aside0 (wc.heap[gb497]? = some (.cells #[.int .i64 t494, .int .i64 t495] 25 (0, 0))) ∧ Aside0 (wc.heap[gb501]? = some (.cells #[.int .i64 t498, .int .i64 t499] 25 (0, 0))) ∧ Aside0 (Below w.heap.size w wc))
       case first =>
        as_aux_lemma =>
        have H := HC40.out
        clear HC40
        by_cases c70 : t487 = true
        ·subst c70
         rw [if_pos rfl] at H
         (try dsimp only at H)
         by_cases c71 : t492 = true
         ·subst c71
          rw [if_pos rfl] at H
          (try dsimp only at H)
          by_cases c72 : t496 = true
          ·subst c72
           rw [if_pos rfl] at H
           (try dsimp only at H)
           by_cases c73 : t500 = true
           ·subst c73
            rw [if_pos rfl] at H
            (try dsimp only at H)
            by_cases c74 : (!(t498 == t471) || (!(t499 == t472))) = true
            ·rw [if_pos c74] at H
             have c74b0 : (!(t498 == t471) || (!(t499 == t472))) = true := c74
             clear c74
             (first | rw [c74b0] | (simp only [i64_w, i32_w]; rw [c74b0]) | skip)
             first | exact (laws_FnAffine.j0_dead H HRT.out).elim | exact (laws_FnAffine.j3_dead H HRT.out).elim | exact (laws_FnAffine.j1_dead H HRT.out).elim
            ·rw [if_neg c74] at H
             have c74b0 : (!(t498 == t471) || (!(t499 == t472))) = false := by simpa using c74
             clear c74
             (first | rw [c74b0] | (simp only [i64_w, i32_w]; rw [c74b0]) | skip)
             obtain ⟨t502, A77, H⟩ := M.ob_ H; (try dsimp only at H); obtain ⟨t503, A78, H⟩ := M.ob_ H; (try dsimp only at H)
             by_cases c79 : t502 = t503
             ·rw [if_pos c79] at H
              have c79b0 : (t502 == t503) = true := beq_iff_eq.mpr c79
              have c79b1 : (t502 != t503) = false := bne_eq_false_iff_eq.mpr c79
              clear c79; obtain ⟨t504, A80, H⟩ := M.ob_ H; (try dsimp only at H); obtain ⟨t505, A81, H⟩ := M.ob_ H; (try dsimp only at H)
              by_cases c82 : t504 = t505
              ·rw [if_pos c82] at H
               have c82b0 : (t504 == t505) = true := beq_iff_eq.mpr c82
               have c82b1 : (t504 != t505) = false := bne_eq_false_iff_eq.mpr c82
               clear c82; obtain ⟨t506, A83, H⟩ := M.ob_ H; (try dsimp only at H); obtain ⟨t509, A84, H⟩ := M.ob_ H; (try dsimp only at H); obtain ⟨t512, A85, H⟩ := M.ob_ H; (try dsimp only at H)
               by_cases c86 : t512 = true
               ·subst c86
                rw [if_pos rfl] at H
                (try dsimp only at H); obtain ⟨t513, A87, H⟩ := M.ob_ H; (try dsimp only at H); obtain ⟨t514, A88, H⟩ := M.ob_ H; (try dsimp only at H)
                by_cases c89 : (t513 != t514) = true
                ·rw [if_pos c89] at H
                 have c89b0 : (t513 != t514) = true := c89
                 (try (have c89b1 : decide (t513 = t514) = false := by simpa using c89))
                 (try (have c89b2 : (t513 == t514) = false := by simpa using c89))
                 (try (have c89b3 : ¬ (t513 = t514) := by simpa using c89))
                 clear c89
                 first | exact (laws_FnAffine.j0_dead H HRT.out).elim | exact (laws_FnAffine.j3_dead H HRT.out).elim | exact (laws_FnAffine.j1_dead H HRT.out).elim
                ·rw [if_neg c89] at H
                 have c89b0 : (t513 != t514) = false := by simpa using c89
                 (try (have c89b1 : decide (t513 = t514) = true := by simpa using c89))
                 (try (have c89b2 : (t513 == t514) = true := by simpa using c89))
                 clear c89; obtain ⟨t515, A102, H⟩ := M.ob_ H; (try dsimp only at H); obtain ⟨t516, A103, H⟩ := M.ob_ H; (try dsimp only at H)
                 by_cases c104 : t515 = t516
                 ·rw [if_pos c104] at H
                  have c104b0 : (t515 == t516) = true := beq_iff_eq.mpr c104
                  have c104b1 : (t515 != t516) = false := bne_eq_false_iff_eq.mpr c104
                  clear c104; obtain ⟨t517, A105, H⟩ := M.ob_ H; (try dsimp only at H); replace H := Option.bind_eq_some_iff.mp H; obtain ⟨t518, A1060, H⟩ := H
                  replace H : (laws_FnAffine.j1 kj6 l0 t473 t476 (t517 != t518) t471 t472 t482 t483) = some r := H
                  have A106 := M.A_ A1060; clear A1060
                  have H' := M.A_ H
                  clear H
                  try go_wp2
                  have n0_ : Aside0 (Kd.R (Kd.int .i64) 3 ((w63.setCell ⟨gb501, 0, none⟩ (.int .i64 t498)).setCell ⟨gb501, 1, none⟩ (.int .i64 t499)) w.heap.size (fun k_ => some k_ ≠ (.slice Ao47 t486.length co47 : Value).ownBlock) (.slice Ao11 t473.length co11) t473) := ⟨by (with_reducible repeat (first | apply Kd.R_alloc | apply Kd.R_drewN | apply Kd.R_drew)); exact Kd.R_mono (Kd.R_far (p := ⟨gb501, 1, none⟩) (Kd.R_far (p := ⟨gb501, 0, none⟩) (Kd.R_types HO_4.out BK501.out (by decide)) (fun _ hk => hk.2) (.int .i64 t498)) (fun _ hk => hk.2) (.int .i64 t499)) (fun _ hk => hk.1.2)⟩
                  have n1_ : Aside0 (Kd.R (Kd.int .i64) 3 ((w63.setCell ⟨gb501, 0, none⟩ (.int .i64 t498)).setCell ⟨gb501, 1, none⟩ (.int .i64 t499)) w.heap.size (fun k_ => some k_ ≠ (.slice Ao11 t473.length co11 : Value).ownBlock) (.slice Ao47 t486.length co47) t486) := ⟨by (with_reducible repeat (first | apply Kd.R_alloc | apply Kd.R_drewN | apply Kd.R_drew)); exact Kd.R_mono (Kd.R_far (p := ⟨gb501, 1, none⟩) (Kd.R_far (p := ⟨gb501, 0, none⟩) (Kd.R_types HO489.out BK501.out (by decide)) (fun _ hk => hk.2) (.int .i64 t498)) (fun _ hk => hk.2) (.int .i64 t499)) (fun _ hk => hk.1.2)⟩
                  have n2_ : Aside0 (((w63.setCell ⟨gb501, 0, none⟩ (.int .i64 t498)).setCell ⟨gb501, 1, none⟩ (.int .i64 t499)).heap[gb477]? = some (.cells #[.int .i64 t471, .int .i64 t472] 25 (0, 0))) := ⟨by (with_reducible repeat (first | refine blk_drewN ?_ _ | refine blk_drew ?_ | refine blk_alloc ?_ _)); refine blk_far ?_ NB477_501.out _; (with_reducible repeat (first | refine blk_drewN ?_ _ | refine blk_drew ?_ | refine blk_alloc ?_ _)); refine blk_far ?_ NB477_501.out _; (with_reducible repeat (first | refine blk_drewN ?_ _ | refine blk_drew ?_ | refine blk_alloc ?_ _)); exact BK477.out⟩
                  have n3_ : Aside0 (((w63.setCell ⟨gb501, 0, none⟩ (.int .i64 t498)).setCell ⟨gb501, 1, none⟩ (.int .i64 t499)).heap[gb481]? = some (.cells #[.int .i64 t478, .int .i64 t479] 25 (0, 0))) := ⟨by (with_reducible repeat (first | refine blk_drewN ?_ _ | refine blk_drew ?_ | refine blk_alloc ?_ _)); refine blk_far ?_ NB481_501.out _; (with_reducible repeat (first | refine blk_drewN ?_ _ | refine blk_drew ?_ | refine blk_alloc ?_ _)); refine blk_far ?_ NB481_501.out _; (with_reducible repeat (first | refine blk_drewN ?_ _ | refine blk_drew ?_ | refine blk_alloc ?_ _)); exact BK481.out⟩
                  have n4_ : Aside0 (((w63.setCell ⟨gb501, 0, none⟩ (.int .i64 t498)).setCell ⟨gb501, 1, none⟩ (.int .i64 t499)).heap[gb485]? = some (.cells #[.int .i64 t482, .int .i64 t483] 25 (0, 0))) := ⟨by (with_reducible repeat (first | refine blk_drewN ?_ _ | refine blk_drew ?_ | refine blk_alloc ?_ _)); refine blk_far ?_ NB485_501.out _; (with_reducible repeat (first | refine blk_drewN ?_ _ | refine blk_drew ?_ | refine blk_alloc ?_ _)); refine blk_far ?_ NB485_501.out _; (with_reducible repeat (first | refine blk_drewN ?_ _ | refine blk_drew ?_ | refine blk_alloc ?_ _)); exact BK485.out⟩
                  have n5_ : Aside0 (((w63.setCell ⟨gb501, 0, none⟩ (.int .i64 t498)).setCell ⟨gb501, 1, none⟩ (.int .i64 t499)).heap[gb493]? = some (.cells #[.int .i64 t490, .int .i64 t491] 25 (0, 0))) := ⟨by (with_reducible repeat (first | refine blk_drewN ?_ _ | refine blk_drew ?_ | refine blk_alloc ?_ _)); refine blk_far ?_ NB493_501.out _; (with_reducible repeat (first | refine blk_drewN ?_ _ | refine blk_drew ?_ | refine blk_alloc ?_ _)); refine blk_far ?_ NB493_501.out _; (with_reducible repeat (first | refine blk_drewN ?_ _ | refine blk_drew ?_ | refine blk_alloc ?_ _)); exact BK493.out⟩
                  have n6_ : Aside0 (((w63.setCell ⟨gb501, 0, none⟩ (.int .i64 t498)).setCell ⟨gb501, 1, none⟩ (.int .i64 t499)).heap[gb497]? = some (.cells #[.int .i64 t494, .int .i64 t495] 25 (0, 0))) := ⟨by (with_reducible repeat (first | refine blk_drewN ?_ _ | refine blk_drew ?_ | refine blk_alloc ?_ _)); refine blk_far ?_ NB497_501.out _; (with_reducible repeat (first | refine blk_drewN ?_ _ | refine blk_drew ?_ | refine blk_alloc ?_ _)); refine blk_far ?_ NB497_501.out _; (with_reducible repeat (first | refine blk_drewN ?_ _ | refine blk_drew ?_ | refine blk_alloc ?_ _)); exact BK497.out⟩
                  have n7_ : Aside0 (((w63.setCell ⟨gb501, 0, none⟩ (.int .i64 t498)).setCell ⟨gb501, 1, none⟩ (.int .i64 t499)).heap[gb501]? = some (.cells #[.int .i64 t498, .int .i64 t499] 25 (0, 0))) := ⟨by (with_reducible repeat (first | refine blk_drewN ?_ _ | refine blk_drew ?_ | refine blk_alloc ?_ _)); refine blk_put (cs := #[.int .i64 t498, .int .i64 0]) ?_ 1 _ rfl; (with_reducible repeat (first | refine blk_drewN ?_ _ | refine blk_drew ?_ | refine blk_alloc ?_ _)); refine blk_put (cs := #[.int .i64 0, .int .i64 0]) ?_ 0 _ rfl; (with_reducible repeat (first | refine blk_drewN ?_ _ | refine blk_drew ?_ | refine blk_alloc ?_ _)); exact BK501.out⟩
                  have n8_ : Aside0 (Below w.heap.size w ((w63.setCell ⟨gb501, 0, none⟩ (.int .i64 t498)).setCell ⟨gb501, 1, none⟩ (.int .i64 t499))) := ⟨by repeat (first | (with_reducible first | exact HB.out | apply M.ba | apply M.pd | apply below_drew1 | refine below_set ?_ GE477.out | refine below_set ?_ GE481.out | refine below_set ?_ GE485.out | refine below_set ?_ GE493.out | refine below_set ?_ GE497.out | refine below_set ?_ GE501.out) | exact HB.out)⟩
                  (try clear HO_4); (try clear HO489); (try clear BK477); (try clear BK481); (try clear BK485); (try clear BK493); (try clear BK497); (try clear BK501); (try clear HB)
                  generalize ((w63.setCell ⟨gb501, 0, none⟩ (.int .i64 t498)).setCell ⟨gb501, 1, none⟩ (.int .i64 t499)) = w107 at n0_ n1_ n2_ n3_ n4_ n5_ n6_ n7_ n8_ ⊢
                  have HO_4 := n0_; have HO489 := n1_; have BK477 := n2_; have BK481 := n3_; have BK485 := n4_; have BK493 := n5_; have BK497 := n6_; have BK501 := n7_; have HB := n8_; clear n0_ n1_ n2_ n3_ n4_ n5_ n6_ n7_ n8_
                  have n0_ := M.A_ (Kd.R_drew HO_4.out)
                  have n1_ := M.A_ (Kd.R_drew HO489.out)
                  have n2_ := M.A_ (blk_drew BK477.out)
                  have n3_ := M.A_ (blk_drew BK481.out)
                  have n4_ := M.A_ (blk_drew BK485.out)
                  have n5_ := M.A_ (blk_drew BK493.out)
                  have n6_ := M.A_ (blk_drew BK497.out)
                  have n7_ := M.A_ (blk_drew BK501.out)
                  have n8_ := M.A_ (below_drew1 HB.out)
                  clear HO_4; clear HO489; clear BK477; clear BK481; clear BK485; clear BK493; clear BK497; clear BK501; clear HB; have HO_4 := n0_; have HO489 := n1_; have BK477 := n2_; have BK481 := n3_; have BK485 := n4_; have BK493 := n5_; have BK497 := n6_; have BK501 := n7_; have HB := n8_; clear n0_ n1_ n2_ n3_ n4_ n5_ n6_ n7_ n8_
                  refine start_ (n := 62) (S := fun w' => w'.cell? ⟨gb501, 0, none⟩ = some (.int .i64 t498) ∧ w'.cell? ⟨gb501, 1, none⟩ = some (.int .i64 t499) ∧ w'.cell? ⟨gb477, 0, none⟩ = some (.int .i64 t471) ∧ w'.cell? ⟨gb477, 1, none⟩ = some (.int .i64 t472) ∧ w'.cell? ⟨gb493, 0, none⟩ = some (.int .i64 t490) ∧ w'.cell? ⟨gb493, 1, none⟩ = some (.int .i64 t491) ∧ w'.cell? ⟨gb485, 0, none⟩ = some (.int .i64 t482) ∧ w'.cell? ⟨gb485, 1, none⟩ = some (.int .i64 t483) ∧ w'.cell? ⟨gb497, 0, none⟩ = some (.int .i64 t494) ∧ w'.cell? ⟨gb497, 1, none⟩ = some (.int .i64 t495)) (ds := []) #[false, false, false, false, false, false, false, false, false, false, false, false, false, false, false, false, false, false, false, false, false, false, false, false, false, false, false, false, false, false, false, false, false, false, false, false, false, false, false, false, false, false, false, false, false, false, false, false, false, false, false, false, false, false, false, false, false, false, false, false, false, false] (by kernel_rfl) rfl rfl ⟨(blk_cell BK501.out 0).trans rfl, (blk_cell BK501.out 1).trans rfl, (blk_cell BK477.out 0).trans rfl, (blk_cell BK477.out 1).trans rfl, (blk_cell BK493.out 0).trans rfl, (blk_cell BK493.out 1).trans rfl, (blk_cell BK485.out 0).trans rfl, (blk_cell BK485.out 1).trans rfl, (blk_cell BK497.out 0).trans rfl, (blk_cell BK497.out 1).trans rfl⟩ (fun hHeld => ?_); refine with_tabW laws_FnAffine.tab13 laws_FnAffine.bits13 (fun HT_ HW_ => ?_)
                  generalize w107.drew = w108 at HO_4 HO489 BK477 BK481 BK485 BK493 BK497 BK501 HB hHeld ⊢
                  refine pure_ (i := 0) (N := some 97) (v := ?_) (a' := ?_) #[true, false, false, false, false, false, false, false, false, false, false, false, false, false, false, false, false, false, false, false, false, false, false, false, false, false, false, false, false, false, false, false, false, false, false, false, false, false, false, false, false, false, false, false, false, false, false, false, false, false, false, false, false, false, false, false, false, false, false, false, false, false] rfl rfl (any_of HT_.out (by kernel_rfl)) (fun _ _ _ h => h) (Or.inl ⟨by rfl, ?_⟩) ?_ ?_; rotate_left
                  ·intro w'; go_simp; with_reducible rfl
                  rotate_left
                  ·simp only [Act.put, M.sT_, M.s0_, M.s1_, i64_w, i32_w]; rfl
                  refine pure_ (i := 1) (N := some 98) (v := ?_) (a' := ?_) #[true, true, false, false, false, false, false, false, false, false, false, false, false, false, false, false, false, false, false, false, false, false, false, false, false, false, false, false, false, false, false, false, false, false, false, false, false, false, false, false, false, false, false, false, false, false, false, false, false, false, false, false, false, false, false, false, false, false, false, false, false, false] rfl rfl (any_of HT_.out (by kernel_rfl)) (fun _ _ _ h => h) (Or.inl ⟨by rfl, ?_⟩) ?_ ?_; rotate_left
                  ·intro w'; go_simp; with_reducible rfl
                  rotate_left
                  ·simp only [Act.put, M.sT_, M.s0_, M.s1_, i64_w, i32_w]; rfl
                  refine pure_ (i := 2) (N := some 99) (v := ?_) (a' := ?_) #[true, true, true, false, false, false, false, false, false, false, false, false, false, false, false, false, false, false, false, false, false, false, false, false, false, false, false, false, false, false, false, false, false, false, false, false, false, false, false, false, false, false, false, false, false, false, false, false, false, false, false, false, false, false, false, false, false, false, false, false, false, false] rfl rfl (any_of HT_.out (by kernel_rfl)) (fun _ _ _ h => h) (Or.inl ⟨by rfl, ?_⟩) ?_ ?_; rotate_left
                  ·intro w'; go_simp; with_reducible rfl
                  rotate_left
                  ·simp only [Act.put, M.sT_, M.s0_, M.s1_, i64_w, i32_w]; rfl
                  refine pure_ (i := 3) (N := some 100) (v := ?_) (a' := ?_) #[true, true, true, true, false, false, false, false, false, false, false, false, false, false, false, false, false, false, false, false, false, false, false, false, false, false, false, false, false, false, false, false, false, false, false, false, false, false, false, false, false, false, false, false, false, false, false, false, false, false, false, false, false, false, false, false, false, false, false, false, false, false] rfl rfl (any_of HT_.out (by kernel_rfl)) (fun _ _ _ h => h) (Or.inl ⟨by rfl, ?_⟩) ?_ ?_; rotate_left
                  ·intro w'; go_simp; with_reducible rfl
                  rotate_left
                  ·simp only [Act.put, M.sT_, M.s0_, M.s1_, i64_w, i32_w]; rfl
                  refine pure_ (i := 4) (N := some 101) (v := ?_) (a' := ?_) #[true, true, true, true, true, false, false, false, false, false, false, false, false, false, false, false, false, false, false, false, false, false, false, false, false, false, false, false, false, false, false, false, false, false, false, false, false, false, false, false, false, false, false, false, false, false, false, false, false, false, false, false, false, false, false, false, false, false, false, false, false, false] rfl rfl (any_of HT_.out (by kernel_rfl)) (fun _ _ _ h => h) (Or.inl ⟨by rfl, ?_⟩) ?_ ?_; rotate_left
                  ·intro w'; go_simp; with_reducible rfl
                  rotate_left
                  ·simp only [Act.put, M.sT_, M.s0_, M.s1_, i64_w, i32_w]; rfl
                  refine pure_ (i := 5) (N := some 102) (v := ?_) (a' := ?_) #[true, true, true, true, true, true, false, false, false, false, false, false, false, false, false, false, false, false, false, false, false, false, false, false, false, false, false, false, false, false, false, false, false, false, false, false, false, false, false, false, false, false, false, false, false, false, false, false, false, false, false, false, false, false, false, false, false, false, false, false, false, false] rfl rfl (any_of HT_.out (by kernel_rfl)) (fun _ _ _ h => h) (Or.inl ⟨by rfl, ?_⟩) ?_ ?_; rotate_left
                  ·intro w'; go_simp; with_reducible rfl
                  rotate_left
                  ·simp only [Act.put, M.sT_, M.s0_, M.s1_, i64_w, i32_w]; rfl
                  refine pure_ (i := 6) (N := some 103) (v := ?_) (a' := ?_) #[true, true, true, true, true, true, true, false, false, false, false, false, false, false, false, false, false, false, false, false, false, false, false, false, false, false, false, false, false, false, false, false, false, false, false, false, false, false, false, false, false, false, false, false, false, false, false, false, false, false, false, false, false, false, false, false, false, false, false, false, false, false] rfl rfl (any_of HT_.out (by kernel_rfl)) (fun _ _ _ h => h) (Or.inl ⟨by rfl, ?_⟩) ?_ ?_; rotate_left
                  ·intro w'; go_simp; with_reducible rfl
                  rotate_left
                  ·simp only [Act.put, M.sT_, M.s0_, M.s1_, i64_w, i32_w]; rfl
                  refine pure_ (i := 7) (N := some 104) (v := ?_) (a' := ?_) #[true, true, true, true, true, true, true, true, false, false, false, false, false, false, false, false, false, false, false, false, false, false, false, false, false, false, false, false, false, false, false, false, false, false, false, false, false, false, false, false, false, false, false, false, false, false, false, false, false, false, false, false, false, false, false, false, false, false, false, false, false, false] rfl rfl (any_of HT_.out (by kernel_rfl)) (fun _ _ _ h => h) (Or.inl ⟨by rfl, ?_⟩) ?_ ?_; rotate_left
                  ·intro w'; go_simp; with_reducible rfl
                  rotate_left
                  ·simp only [Act.put, M.sT_, M.s0_, M.s1_, i64_w, i32_w]; rfl
                  refine pure_ (i := 8) (N := some 105) (v := ?_) (a' := ?_) #[true, true, true, true, true, true, true, true, true, false, false, false, false, false, false, false, false, false, false, false, false, false, false, false, false, false, false, false, false, false, false, false, false, false, false, false, false, false, false, false, false, false, false, false, false, false, false, false, false, false, false, false, false, false, false, false, false, false, false, false, false, false] rfl rfl (any_of HT_.out (by kernel_rfl)) (fun _ _ _ h => h) (Or.inl ⟨by rfl, ?_⟩) ?_ ?_; rotate_left
                  ·intro w'; go_simp; with_reducible rfl
                  rotate_left
                  ·simp only [Act.put, M.sT_, M.s0_, M.s1_, i64_w, i32_w]; rfl
                  refine pure_ (i := 9) (N := some 106) (v := ?_) (a' := ?_) #[true, true, true, true, true, true, true, true, true, true, false, false, false, false, false, false, false, false, false, false, false, false, false, false, false, false, false, false, false, false, false, false, false, false, false, false, false, false, false, false, false, false, false, false, false, false, false, false, false, false, false, false, false, false, false, false, false, false, false, false, false, false] rfl rfl (any_of HT_.out (by kernel_rfl)) (fun _ _ _ h => h) (Or.inl ⟨by rfl, ?_⟩) ?_ ?_; rotate_left
                  ·intro w'; go_simp; with_reducible rfl
                  rotate_left
                  ·simp only [Act.put, M.sT_, M.s0_, M.s1_, i64_w, i32_w]; rfl
                  refine pure_ (i := 10) (N := some 107) (v := ?_) (a' := ?_) #[true, true, true, true, true, true, true, true, true, true, true, false, false, false, false, false, false, false, false, false, false, false, false, false, false, false, false, false, false, false, false, false, false, false, false, false, false, false, false, false, false, false, false, false, false, false, false, false, false, false, false, false, false, false, false, false, false, false, false, false, false, false] rfl rfl (any_of HT_.out (by kernel_rfl)) (fun _ _ _ h => h) (Or.inl ⟨by rfl, ?_⟩) ?_ ?_; rotate_left
                  ·intro w'; go_simp; with_reducible rfl
                  rotate_left
                  ·simp only [Act.put, M.sT_, M.s0_, M.s1_, i64_w, i32_w]; rfl
                  refine pure_ (i := 11) (N := some 108) (v := ?_) (a' := ?_) #[true, true, true, true, true, true, true, true, true, true, true, true, false, false, false, false, false, false, false, false, false, false, false, false, false, false, false, false, false, false, false, false, false, false, false, false, false, false, false, false, false, false, false, false, false, false, false, false, false, false, false, false, false, false, false, false, false, false, false, false, false, false] rfl rfl (any_of HT_.out (by kernel_rfl)) (fun _ _ _ h => h) (Or.inl ⟨by rfl, ?_⟩) ?_ ?_; rotate_left
                  ·intro w'; go_simp; with_reducible rfl
                  rotate_left
                  ·simp only [Act.put, M.sT_, M.s0_, M.s1_, i64_w, i32_w]; rfl
                  refine pure_ (i := 12) (N := some 109) (v := ?_) (a' := ?_) #[true, true, true, true, true, true, true, true, true, true, true, true, true, false, false, false, false, false, false, false, false, false, false, false, false, false, false, false, false, false, false, false, false, false, false, false, false, false, false, false, false, false, false, false, false, false, false, false, false, false, false, false, false, false, false, false, false, false, false, false, false, false] rfl rfl (any_of HT_.out (by kernel_rfl)) (fun _ _ _ h => h) (Or.inl ⟨by rfl, ?_⟩) ?_ ?_; rotate_left
                  ·intro w'; go_simp; with_reducible rfl
                  rotate_left
                  ·simp only [Act.put, M.sT_, M.s0_, M.s1_, i64_w, i32_w]; rfl
                  refine pure_ (i := 13) (N := some 110) (v := ?_) (a' := ?_) #[true, true, true, true, true, true, true, true, true, true, true, true, true, true, false, false, false, false, false, false, false, false, false, false, false, false, false, false, false, false, false, false, false, false, false, false, false, false, false, false, false, false, false, false, false, false, false, false, false, false, false, false, false, false, false, false, false, false, false, false, false, false] rfl rfl (any_of HT_.out (by kernel_rfl)) (fun _ _ _ h => h) (Or.inl ⟨by rfl, ?_⟩) ?_ ?_; rotate_left
                  ·intro w'; go_simp; with_reducible rfl
                  rotate_left
                  ·simp only [Act.put, M.sT_, M.s0_, M.s1_, i64_w, i32_w]; rfl
                  refine pure_ (i := 14) (N := some 111) (v := ?_) (a' := ?_) #[true, true, true, true, true, true, true, true, true, true, true, true, true, true, true, false, false, false, false, false, false, false, false, false, false, false, false, false, false, false, false, false, false, false, false, false, false, false, false, false, false, false, false, false, false, false, false, false, false, false, false, false, false, false, false, false, false, false, false, false, false, false] rfl rfl (any_of HT_.out (by kernel_rfl)) (fun _ _ _ h => h) (Or.inl ⟨by rfl, ?_⟩) ?_ ?_; rotate_left
                  ·intro w'; go_simp; with_reducible rfl
                  rotate_left
                  ·simp only [Act.put, M.sT_, M.s0_, M.s1_, i64_w, i32_w]; rfl
                  refine take_ (i := 15) (N := some 112) (v := ?_) (a' := ?_) #[true, true, true, true, true, true, true, true, true, true, true, true, true, true, true, true, false, false, false, false, false, false, false, false, false, false, false, false, false, false, false, false, false, false, false, false, false, false, false, false, false, false, false, false, false, false, false, false, false, false, false, false, false, false, false, false, false, false, false, false, false, false] rfl rfl (take_ofW HT_.out HW_.out (by kernel_rfl)) (fun _ _ _ h => h) (Or.inl ⟨by rfl, ?_⟩) hHeld ?_ ?_
                  rotate_left
                  ·rintro w' ⟨s0, s1, s2, s3, s4, s5, s6, s7, s8, s9⟩
                   go_simp; with_reducible rfl
                  rotate_left
                  ·simp only [Act.put, M.sT_, M.s0_, M.s1_, i64_w, i32_w]; rfl
                  refine take_ (i := 16) (N := some 113) (v := ?_) (a' := ?_) #[true, true, true, true, true, true, true, true, true, true, true, true, true, true, true, true, true, false, false, false, false, false, false, false, false, false, false, false, false, false, false, false, false, false, false, false, false, false, false, false, false, false, false, false, false, false, false, false, false, false, false, false, false, false, false, false, false, false, false, false, false, false] rfl rfl (take_ofW HT_.out HW_.out (by kernel_rfl)) (fun _ _ _ h => h) (Or.inl ⟨by rfl, ?_⟩) hHeld ?_ ?_
                  rotate_left
                  ·rintro w' ⟨s0, s1, s2, s3, s4, s5, s6, s7, s8, s9⟩
                   go_simp; with_reducible rfl
                  rotate_left
                  ·simp only [Act.put, M.sT_, M.s0_, M.s1_, i64_w, i32_w]; rfl
                  refine pure_ (i := 17) (N := some 114) (v := ?_) (a' := ?_) #[true, true, true, true, true, true, true, true, true, true, true, true, true, true, true, true, true, true, false, false, false, false, false, false, false, false, false, false, false, false, false, false, false, false, false, false, false, false, false, false, false, false, false, false, false, false, false, false, false, false, false, false, false, false, false, false, false, false, false, false, false, false] rfl rfl (any_of HT_.out (by kernel_rfl)) (fun _ _ _ h => h) (Or.inl ⟨by rfl, ?_⟩) ?_ ?_; rotate_left
                  ·intro w'; go_simp; with_reducible rfl
                  rotate_left
                  ·simp only [Act.put, M.sT_, M.s0_, M.s1_, i64_w, i32_w]; rfl
                  refine pure_ (i := 18) (N := some 115) (v := ?_) (a' := ?_) #[true, true, true, true, true, true, true, true, true, true, true, true, true, true, true, true, true, true, true, false, false, false, false, false, false, false, false, false, false, false, false, false, false, false, false, false, false, false, false, false, false, false, false, false, false, false, false, false, false, false, false, false, false, false, false, false, false, false, false, false, false, false] rfl rfl (any_of HT_.out (by kernel_rfl)) (fun _ _ _ h => h) (Or.inl ⟨by rfl, ?_⟩) ?_ ?_; rotate_left
                  ·intro w'; go_simp; with_reducible rfl
                  rotate_left
                  ·simp only [Act.put, M.sT_, M.s0_, M.s1_, i64_w, i32_w]; rfl
                  refine pure_ (i := 19) (N := some 116) (v := ?_) (a' := ?_) #[true, true, true, true, true, true, true, true, true, true, true, true, true, true, true, true, true, true, true, true, false, false, false, false, false, false, false, false, false, false, false, false, false, false, false, false, false, false, false, false, false, false, false, false, false, false, false, false, false, false, false, false, false, false, false, false, false, false, false, false, false, false] rfl rfl (any_of HT_.out (by kernel_rfl)) (fun _ _ _ h => h) (Or.inl ⟨by rfl, ?_⟩) ?_ ?_; rotate_left
                  ·intro w'; go_simp; with_reducible rfl
                  rotate_left
                  ·simp only [Act.put, M.sT_, M.s0_, M.s1_, i64_w, i32_w]; rfl
                  refine take_ (i := 20) (N := some 117) (v := ?_) (a' := ?_) #[true, true, true, true, true, true, true, true, true, true, true, true, true, true, true, true, true, true, true, true, true, false, false, false, false, false, false, false, false, false, false, false, false, false, false, false, false, false, false, false, false, false, false, false, false, false, false, false, false, false, false, false, false, false, false, false, false, false, false, false, false, false] rfl rfl (take_ofW HT_.out HW_.out (by kernel_rfl)) (fun _ _ _ h => h) (Or.inl ⟨by rfl, ?_⟩) hHeld ?_ ?_
                  rotate_left
                  ·rintro w' ⟨s0, s1, s2, s3, s4, s5, s6, s7, s8, s9⟩
                   go_simp; with_reducible rfl
                  rotate_left
                  ·simp only [Act.put, M.sT_, M.s0_, M.s1_, i64_w, i32_w]; rfl
                  refine take_ (i := 22) (N := some 119) (v := ?_) (a' := ?_) #[true, true, true, true, true, true, true, true, true, true, true, true, true, true, true, true, true, true, true, true, true, false, true, false, false, false, false, false, false, false, false, false, false, false, false, false, false, false, false, false, false, false, false, false, false, false, false, false, false, false, false, false, false, false, false, false, false, false, false, false, false, false] rfl rfl (take_ofW HT_.out HW_.out (by kernel_rfl)) (fun _ _ _ h => h) (Or.inl ⟨by rfl, ?_⟩) hHeld ?_ ?_
                  rotate_left
                  ·rintro w' ⟨s0, s1, s2, s3, s4, s5, s6, s7, s8, s9⟩
                   go_simp; with_reducible rfl
                  rotate_left
                  ·simp only [Act.put, M.sT_, M.s0_, M.s1_, i64_w, i32_w]; rfl
                  refine one_ (i := 21) (N := some 118) #[true, true, true, true, true, true, true, true, true, true, true, true, true, true, true, true, true, true, true, true, true, true, true, false, false, false, false, false, false, false, false, false, false, false, false, false, false, false, false, false, false, false, false, false, false, false, false, false, false, false, false, false, false, false, false, false, false, false, false, false, false, false] rfl rfl (one_of HT_.out (by kernel_rfl)) (by decide) (fun K hK => ?_)
                  refine goes_ Try.func9 (by kernel_rfl) rfl #[.agg #[.int .i64 t490, .int .i64 t491]] (by rfl) rfl rfl (by first | rfl | (simp only [M.mt, M.mc, M.mn, M.ld, M.lt]; rfl)) ?_
                  with_reducible refine (impl_CountOnes.calls t490 t491 t502 _ A77.out).mono ?_
                  rintro e w109 ⟨rfl, hb⟩
                  refine ⟨_, rfl, ?_⟩
                  have n0_ := M.A_ (Kd.R_below (M.Lr HO_4) hb)
                  have n1_ := M.A_ (Kd.R_below (M.Lr HO489) hb)
                  have n2_ := M.A_ (blk_below (M.Lb BK477) hb)
                  have n3_ := M.A_ (blk_below (M.Lb BK481) hb)
                  have n4_ := M.A_ (blk_below (M.Lb BK485) hb)
                  have n5_ := M.A_ (blk_below (M.Lb BK493) hb)
                  have n6_ := M.A_ (blk_below (M.Lb BK497) hb)
                  have n7_ := M.A_ (blk_below (M.Lb BK501) hb)
                  have n8_ := M.A_ (below_step (M.Lw HB) hb)
                  clear HO_4; clear HO489; clear BK477; clear BK481; clear BK485; clear BK493; clear BK497; clear BK501; clear HB; have HO_4 := n0_; have HO489 := n1_; have BK477 := n2_; have BK481 := n3_; have BK485 := n4_; have BK493 := n5_; have BK497 := n6_; have BK501 := n7_; have HB := n8_; clear n0_ n1_ n2_ n3_ n4_ n5_ n6_ n7_ n8_; (try clear hb); (try clear hb2); (try clear hk); (try clear hi)
                  refine hK.out _ _ ⟨(blk_cell BK501.out 0).trans rfl, (blk_cell BK501.out 1).trans rfl, (blk_cell BK477.out 0).trans rfl, (blk_cell BK477.out 1).trans rfl, (blk_cell BK493.out 0).trans rfl, (blk_cell BK493.out 1).trans rfl, (blk_cell BK485.out 0).trans rfl, (blk_cell BK485.out 1).trans rfl, (blk_cell BK497.out 0).trans rfl, (blk_cell BK497.out 1).trans rfl⟩ (fun hHeld => ?_)
                  clear hK K
                  refine norm_ (a' := ?_) ?_ ?_
                  rotate_left
                  ·show Act.put _ (some 118) _ = _
                   simp only [Act.put, M.sT_, M.s0_, M.s1_, i64_w, i32_w]; rfl
                  refine one_ (i := 23) (N := some 120) #[true, true, true, true, true, true, true, true, true, true, true, true, true, true, true, true, true, true, true, true, true, true, true, true, false, false, false, false, false, false, false, false, false, false, false, false, false, false, false, false, false, false, false, false, false, false, false, false, false, false, false, false, false, false, false, false, false, false, false, false, false, false] rfl rfl (one_of HT_.out (by kernel_rfl)) (by decide) (fun K hK => ?_)
                  refine goes_ Try.func9 (by kernel_rfl) rfl #[.agg #[.int .i64 t471, .int .i64 t472]] (by rfl) rfl rfl (by first | rfl | (simp only [M.mt, M.mc, M.mn, M.ld, M.lt]; rfl)) ?_
                  with_reducible refine (impl_CountOnes.calls t471 t472 t503 _ A78.out).mono ?_
                  rintro e w110 ⟨rfl, hb⟩
                  refine ⟨_, rfl, ?_⟩
                  have n0_ := M.A_ (Kd.R_below (M.Lr HO_4) hb)
                  have n1_ := M.A_ (Kd.R_below (M.Lr HO489) hb)
                  have n2_ := M.A_ (blk_below (M.Lb BK477) hb)
                  have n3_ := M.A_ (blk_below (M.Lb BK481) hb)
                  have n4_ := M.A_ (blk_below (M.Lb BK485) hb)
                  have n5_ := M.A_ (blk_below (M.Lb BK493) hb)
                  have n6_ := M.A_ (blk_below (M.Lb BK497) hb)
                  have n7_ := M.A_ (blk_below (M.Lb BK501) hb)
                  have n8_ := M.A_ (below_step (M.Lw HB) hb)
                  clear HO_4; clear HO489; clear BK477; clear BK481; clear BK485; clear BK493; clear BK497; clear BK501; clear HB; have HO_4 := n0_; have HO489 := n1_; have BK477 := n2_; have BK481 := n3_; have BK485 := n4_; have BK493 := n5_; have BK497 := n6_; have BK501 := n7_; have HB := n8_; clear n0_ n1_ n2_ n3_ n4_ n5_ n6_ n7_ n8_; (try clear hb); (try clear hb2); (try clear hk); (try clear hi)
                  refine hK.out _ _ ⟨(blk_cell BK501.out 0).trans rfl, (blk_cell BK501.out 1).trans rfl, (blk_cell BK477.out 0).trans rfl, (blk_cell BK477.out 1).trans rfl, (blk_cell BK493.out 0).trans rfl, (blk_cell BK493.out 1).trans rfl, (blk_cell BK485.out 0).trans rfl, (blk_cell BK485.out 1).trans rfl, (blk_cell BK497.out 0).trans rfl, (blk_cell BK497.out 1).trans rfl⟩ (fun hHeld => ?_)
                  clear hK K
                  refine norm_ (a' := ?_) ?_ ?_
                  rotate_left
                  ·show Act.put _ (some 120) _ = _
                   simp only [Act.put, M.sT_, M.s0_, M.s1_, i64_w, i32_w]; rfl
                  refine pure_ (i := 24) (N := some 121) (v := ?_) (a' := ?_) #[true, true, true, true, true, true, true, true, true, true, true, true, true, true, true, true, true, true, true, true, true, true, true, true, true, false, false, false, false, false, false, false, false, false, false, false, false, false, false, false, false, false, false, false, false, false, false, false, false, false, false, false, false, false, false, false, false, false, false, false, false, false] rfl rfl (any_of HT_.out (by kernel_rfl)) (fun _ _ _ h => h) (Or.inl ⟨by rfl, ?_⟩) ?_ ?_; rotate_left
                  ·intro w'; go_simp; with_reducible rfl
                  rotate_left
                  ·simp only [Act.put, M.sT_, M.s0_, M.s1_, i64_w, i32_w]; rfl
                  refine pure_ (i := 25) (N := some 122) (v := ?_) (a' := ?_) #[true, true, true, true, true, true, true, true, true, true, true, true, true, true, true, true, true, true, true, true, true, true, true, true, true, true, false, false, false, false, false, false, false, false, false, false, false, false, false, false, false, false, false, false, false, false, false, false, false, false, false, false, false, false, false, false, false, false, false, false, false, false] rfl rfl (any_of HT_.out (by kernel_rfl)) (fun _ _ _ h => h) (Or.inl ⟨by rfl, ?_⟩) ?_ ?_; rotate_left
                  ·intro w'; go_simp; with_reducible rfl
                  rotate_left
                  ·simp only [Act.put, M.sT_, M.s0_, M.s1_, i64_w, i32_w]; rfl
                  refine pure_ (i := 26) (N := some 123) (v := ?_) (a' := ?_) #[true, true, true, true, true, true, true, true, true, true, true, true, true, true, true, true, true, true, true, true, true, true, true, true, true, true, true, false, false, false, false, false, false, false, false, false, false, false, false, false, false, false, false, false, false, false, false, false, false, false, false, false, false, false, false, false, false, false, false, false, false, false] rfl rfl (any_of HT_.out (by kernel_rfl)) (fun _ _ _ h => h) (Or.inl ⟨by rfl, ?_⟩) ?_ ?_; rotate_left
                  ·intro w'; go_simp; with_reducible rfl
                  rotate_left
                  ·simp only [Act.put, M.sT_, M.s0_, M.s1_, i64_w, i32_w]; rfl
                  refine take_ (i := 27) (N := some 124) (v := ?_) (a' := ?_) #[true, true, true, true, true, true, true, true, true, true, true, true, true, true, true, true, true, true, true, true, true, true, true, true, true, true, true, true, false, false, false, false, false, false, false, false, false, false, false, false, false, false, false, false, false, false, false, false, false, false, false, false, false, false, false, false, false, false, false, false, false, false] rfl rfl (take_ofW HT_.out HW_.out (by kernel_rfl)) (fun _ _ _ h => h) (Or.inl ⟨by rfl, ?_⟩) hHeld ?_ ?_
                  rotate_left
                  ·rintro w' ⟨s0, s1, s2, s3, s4, s5, s6, s7, s8, s9⟩
                   go_simp; with_reducible rfl
                  rotate_left
                  ·simp only [Act.put, M.sT_, M.s0_, M.s1_, i64_w, i32_w]; rfl
                  refine take_ (i := 29) (N := some 126) (v := ?_) (a' := ?_) #[true, true, true, true, true, true, true, true, true, true, true, true, true, true, true, true, true, true, true, true, true, true, true, true, true, true, true, true, false, true, false, false, false, false, false, false, false, false, false, false, false, false, false, false, false, false, false, false, false, false, false, false, false, false, false, false, false, false, false, false, false, false] rfl rfl (take_ofW HT_.out HW_.out (by kernel_rfl)) (fun _ _ _ h => h) (Or.inl ⟨by rfl, ?_⟩) hHeld ?_ ?_
                  rotate_left
                  ·rintro w' ⟨s0, s1, s2, s3, s4, s5, s6, s7, s8, s9⟩
                   go_simp; with_reducible rfl
                  rotate_left
                  ·simp only [Act.put, M.sT_, M.s0_, M.s1_, i64_w, i32_w]; rfl
                  refine one_ (i := 28) (N := some 125) #[true, true, true, true, true, true, true, true, true, true, true, true, true, true, true, true, true, true, true, true, true, true, true, true, true, true, true, true, true, true, false, false, false, false, false, false, false, false, false, false, false, false, false, false, false, false, false, false, false, false, false, false, false, false, false, false, false, false, false, false, false, false] rfl rfl (one_of HT_.out (by kernel_rfl)) (by decide) (fun K hK => ?_)
                  refine goes_ Try.func10 (by kernel_rfl) rfl #[.agg #[.int .i64 t482, .int .i64 t483]] (by rfl) rfl rfl (by first | rfl | (simp only [M.mt, M.mc, M.mn, M.ld, M.lt]; rfl)) ?_
                  with_reducible refine (impl_DegreeMod2.calls t482 t483 t504 _ A80.out).mono ?_
                  rintro e w111 ⟨rfl, hb⟩
                  refine ⟨_, rfl, ?_⟩
                  have n0_ := M.A_ (Kd.R_below (M.Lr HO_4) hb)
                  have n1_ := M.A_ (Kd.R_below (M.Lr HO489) hb)
                  have n2_ := M.A_ (blk_below (M.Lb BK477) hb)
                  have n3_ := M.A_ (blk_below (M.Lb BK481) hb)
                  have n4_ := M.A_ (blk_below (M.Lb BK485) hb)
                  have n5_ := M.A_ (blk_below (M.Lb BK493) hb)
                  have n6_ := M.A_ (blk_below (M.Lb BK497) hb)
                  have n7_ := M.A_ (blk_below (M.Lb BK501) hb)
                  have n8_ := M.A_ (below_step (M.Lw HB) hb)
                  clear HO_4; clear HO489; clear BK477; clear BK481; clear BK485; clear BK493; clear BK497; clear BK501; clear HB; have HO_4 := n0_; have HO489 := n1_; have BK477 := n2_; have BK481 := n3_; have BK485 := n4_; have BK493 := n5_; have BK497 := n6_; have BK501 := n7_; have HB := n8_; clear n0_ n1_ n2_ n3_ n4_ n5_ n6_ n7_ n8_; (try clear hb); (try clear hb2); (try clear hk); (try clear hi)
                  refine hK.out _ _ ⟨(blk_cell BK501.out 0).trans rfl, (blk_cell BK501.out 1).trans rfl, (blk_cell BK477.out 0).trans rfl, (blk_cell BK477.out 1).trans rfl, (blk_cell BK493.out 0).trans rfl, (blk_cell BK493.out 1).trans rfl, (blk_cell BK485.out 0).trans rfl, (blk_cell BK485.out 1).trans rfl, (blk_cell BK497.out 0).trans rfl, (blk_cell BK497.out 1).trans rfl⟩ (fun hHeld => ?_)
                  clear hK K
                  refine norm_ (a' := ?_) ?_ ?_
                  rotate_left
                  ·show Act.put _ (some 125) _ = _
                   simp only [Act.put, M.sT_, M.s0_, M.s1_, i64_w, i32_w]; rfl
                  refine one_ (i := 30) (N := some 127) #[true, true, true, true, true, true, true, true, true, true, true, true, true, true, true, true, true, true, true, true, true, true, true, true, true, true, true, true, true, true, true, false, false, false, false, false, false, false, false, false, false, false, false, false, false, false, false, false, false, false, false, false, false, false, false, false, false, false, false, false, false, false] rfl rfl (one_of HT_.out (by kernel_rfl)) (by decide) (fun K hK => ?_)
                  refine goes_ Try.func10 (by kernel_rfl) rfl #[.agg #[.int .i64 t471, .int .i64 t472]] (by rfl) rfl rfl (by first | rfl | (simp only [M.mt, M.mc, M.mn, M.ld, M.lt]; rfl)) ?_
                  with_reducible refine (impl_DegreeMod2.calls t471 t472 t505 _ A81.out).mono ?_
                  rintro e w112 ⟨rfl, hb⟩
                  refine ⟨_, rfl, ?_⟩
                  have n0_ := M.A_ (Kd.R_below (M.Lr HO_4) hb)
                  have n1_ := M.A_ (Kd.R_below (M.Lr HO489) hb)
                  have n2_ := M.A_ (blk_below (M.Lb BK477) hb)
                  have n3_ := M.A_ (blk_below (M.Lb BK481) hb)
                  have n4_ := M.A_ (blk_below (M.Lb BK485) hb)
                  have n5_ := M.A_ (blk_below (M.Lb BK493) hb)
                  have n6_ := M.A_ (blk_below (M.Lb BK497) hb)
                  have n7_ := M.A_ (blk_below (M.Lb BK501) hb)
                  have n8_ := M.A_ (below_step (M.Lw HB) hb)
                  clear HO_4; clear HO489; clear BK477; clear BK481; clear BK485; clear BK493; clear BK497; clear BK501; clear HB; have HO_4 := n0_; have HO489 := n1_; have BK477 := n2_; have BK481 := n3_; have BK485 := n4_; have BK493 := n5_; have BK497 := n6_; have BK501 := n7_; have HB := n8_; clear n0_ n1_ n2_ n3_ n4_ n5_ n6_ n7_ n8_; (try clear hb); (try clear hb2); (try clear hk); (try clear hi)
                  refine hK.out _ _ ⟨(blk_cell BK501.out 0).trans rfl, (blk_cell BK501.out 1).trans rfl, (blk_cell BK477.out 0).trans rfl, (blk_cell BK477.out 1).trans rfl, (blk_cell BK493.out 0).trans rfl, (blk_cell BK493.out 1).trans rfl, (blk_cell BK485.out 0).trans rfl, (blk_cell BK485.out 1).trans rfl, (blk_cell BK497.out 0).trans rfl, (blk_cell BK497.out 1).trans rfl⟩ (fun hHeld => ?_)
                  clear hK K
                  refine norm_ (a' := ?_) ?_ ?_
                  rotate_left
                  ·show Act.put _ (some 127) _ = _
                   simp only [Act.put, M.sT_, M.s0_, M.s1_, i64_w, i32_w]; rfl
                  refine pure_ (i := 31) (N := some 128) (v := ?_) (a' := ?_) #[true, true, true, true, true, true, true, true, true, true, true, true, true, true, true, true, true, true, true, true, true, true, true, true, true, true, true, true, true, true, true, true, false, false, false, false, false, false, false, false, false, false, false, false, false, false, false, false, false, false, false, false, false, false, false, false, false, false, false, false, false, false] rfl rfl (any_of HT_.out (by kernel_rfl)) (fun _ _ _ h => h) (Or.inl ⟨by rfl, ?_⟩) ?_ ?_; rotate_left
                  ·intro w'; go_simp; with_reducible rfl
                  rotate_left
                  ·simp only [Act.put, M.sT_, M.s0_, M.s1_, i64_w, i32_w]; rfl
                  refine pure_ (i := 32) (N := some 129) (v := ?_) (a' := ?_) #[true, true, true, true, true, true, true, true, true, true, true, true, true, true, true, true, true, true, true, true, true, true, true, true, true, true, true, true, true, true, true, true, true, false, false, false, false, false, false, false, false, false, false, false, false, false, false, false, false, false, false, false, false, false, false, false, false, false, false, false, false, false] rfl rfl (any_of HT_.out (by kernel_rfl)) (fun _ _ _ h => h) (Or.inl ⟨by rfl, ?_⟩) ?_ ?_; rotate_left
                  ·intro w'; go_simp; with_reducible rfl
                  rotate_left
                  ·simp only [Act.put, M.sT_, M.s0_, M.s1_, i64_w, i32_w]; rfl
                  refine pure_ (i := 33) (N := some 130) (v := ?_) (a' := ?_) #[true, true, true, true, true, true, true, true, true, true, true, true, true, true, true, true, true, true, true, true, true, true, true, true, true, true, true, true, true, true, true, true, true, true, false, false, false, false, false, false, false, false, false, false, false, false, false, false, false, false, false, false, false, false, false, false, false, false, false, false, false, false] rfl rfl (any_of HT_.out (by kernel_rfl)) (fun _ _ _ h => h) (Or.inl ⟨by rfl, ?_⟩) ?_ ?_; rotate_left
                  ·intro w'; go_simp; with_reducible rfl
                  rotate_left
                  ·simp only [Act.put, M.sT_, M.s0_, M.s1_, i64_w, i32_w]; rfl
                  refine take_ (i := 34) (N := some 131) (v := ?_) (a' := ?_) #[true, true, true, true, true, true, true, true, true, true, true, true, true, true, true, true, true, true, true, true, true, true, true, true, true, true, true, true, true, true, true, true, true, true, true, false, false, false, false, false, false, false, false, false, false, false, false, false, false, false, false, false, false, false, false, false, false, false, false, false, false, false] rfl rfl (take_ofW HT_.out HW_.out (by kernel_rfl)) (fun _ _ _ h => h) (Or.inl ⟨by rfl, ?_⟩) hHeld ?_ ?_
                  rotate_left
                  ·rintro w' ⟨s0, s1, s2, s3, s4, s5, s6, s7, s8, s9⟩
                   go_simp; with_reducible rfl
                  rotate_left
                  ·simp only [Act.put, M.sT_, M.s0_, M.s1_, i64_w, i32_w]; rfl
                  refine take_ (i := 36) (N := some 133) (v := ?_) (a' := ?_) #[true, true, true, true, true, true, true, true, true, true, true, true, true, true, true, true, true, true, true, true, true, true, true, true, true, true, true, true, true, true, true, true, true, true, true, false, true, false, false, false, false, false, false, false, false, false, false, false, false, false, false, false, false, false, false, false, false, false, false, false, false, false] rfl rfl (take_ofW HT_.out HW_.out (by kernel_rfl)) (fun _ _ _ h => h) (Or.inl ⟨by rfl, ?_⟩) hHeld ?_ ?_
                  rotate_left
                  ·rintro w' ⟨s0, s1, s2, s3, s4, s5, s6, s7, s8, s9⟩
                   go_simp; with_reducible rfl
                  rotate_left
                  ·simp only [Act.put, M.sT_, M.s0_, M.s1_, i64_w, i32_w]; rfl
                  refine one_ (i := 35) (N := some 132) #[true, true, true, true, true, true, true, true, true, true, true, true, true, true, true, true, true, true, true, true, true, true, true, true, true, true, true, true, true, true, true, true, true, true, true, true, true, false, false, false, false, false, false, false, false, false, false, false, false, false, false, false, false, false, false, false, false, false, false, false, false, false] rfl rfl (one_of HT_.out (by kernel_rfl)) (by decide) (fun K hK => ?_)
                  refine goes_ Try.func12 (by kernel_rfl) rfl #[.agg #[.int .i64 t482, .int .i64 t483]] (by rfl) rfl rfl (by first | rfl | (simp only [M.mt, M.mc, M.mn, M.ld, M.lt]; rfl)) ?_
                  with_reducible refine (impl_SpectrumProfile.calls kj6 t482 t483 t506 _ A83.out).mono ?_
                  rintro e w113 ⟨v507, rfl, ho0, hb⟩
                  refine ⟨_, rfl, ?_⟩
                  have n0_ := M.A_ (Kd.R_elder' (M.Lr HO_4) (Kd.R_base ho0) hb)
                  have n1_ := M.A_ (Kd.R_elder' (M.Lr HO489) (Kd.R_base ho0) hb)
                  have n2_ := M.A_ (Kd.R_lower (Kd.R_new' (Kd.R_new' ho0 (Kd.R_lt (M.Lr HO_4))) (Kd.R_lt (M.Lr HO489))) (below_size (M.Lw HB)))
                  have n3_ := M.A_ (blk_below (M.Lb BK477) hb)
                  have n4_ := M.A_ (blk_below (M.Lb BK481) hb)
                  have n5_ := M.A_ (blk_below (M.Lb BK485) hb)
                  have n6_ := M.A_ (blk_below (M.Lb BK493) hb)
                  have n7_ := M.A_ (blk_below (M.Lb BK497) hb)
                  have n8_ := M.A_ (blk_below (M.Lb BK501) hb)
                  have n9_ := M.A_ (below_step (M.Lw HB) hb)
                  clear HO_4; clear HO489; clear BK477; clear BK481; clear BK485; clear BK493; clear BK497; clear BK501; clear HB; have HO_4 := n0_; have HO489 := n1_; have HO508 := n2_; have BK477 := n3_; have BK481 := n4_; have BK485 := n5_; have BK493 := n6_; have BK497 := n7_; have BK501 := n8_; have HB := n9_; clear n0_ n1_ n2_ n3_ n4_ n5_ n6_ n7_ n8_ n9_; (try clear hb); (try clear hb2); (try clear hk); (try clear hi); (try clear ho0)
                  refine hK.out _ _ ⟨(blk_cell BK501.out 0).trans rfl, (blk_cell BK501.out 1).trans rfl, (blk_cell BK477.out 0).trans rfl, (blk_cell BK477.out 1).trans rfl, (blk_cell BK493.out 0).trans rfl, (blk_cell BK493.out 1).trans rfl, (blk_cell BK485.out 0).trans rfl, (blk_cell BK485.out 1).trans rfl, (blk_cell BK497.out 0).trans rfl, (blk_cell BK497.out 1).trans rfl⟩ (fun hHeld => ?_)
                  clear hK K
                  refine norm_ (a' := ?_) ?_ ?_
                  rotate_left
                  ·show Act.put _ (some 132) _ = _
                   simp only [Act.put, M.sT_, M.s0_, M.s1_, i64_w, i32_w]; rfl
                  refine one_ (i := 37) (N := some 134) #[true, true, true, true, true, true, true, true, true, true, true, true, true, true, true, true, true, true, true, true, true, true, true, true, true, true, true, true, true, true, true, true, true, true, true, true, true, true, false, false, false, false, false, false, false, false, false, false, false, false, false, false, false, false, false, false, false, false, false, false, false, false] rfl rfl (one_of HT_.out (by kernel_rfl)) (by decide) (fun K hK => ?_)
                  refine goes_ Try.func12 (by kernel_rfl) rfl #[.agg #[.int .i64 t471, .int .i64 t472]] (by rfl) rfl rfl (by first | rfl | (simp only [M.mt, M.mc, M.mn, M.ld, M.lt]; rfl)) ?_
                  with_reducible refine (impl_SpectrumProfile.calls kj6 t471 t472 t509 _ A84.out).mono ?_
                  rintro e w114 ⟨v510, rfl, ho0, hb⟩
                  refine ⟨_, rfl, ?_⟩
                  have n0_ := M.A_ (Kd.R_elder' (M.Lr HO_4) (Kd.R_base ho0) hb)
                  have n1_ := M.A_ (Kd.R_elder' (M.Lr HO489) (Kd.R_base ho0) hb)
                  have n2_ := M.A_ (Kd.R_elder' (M.Lr HO508) (Kd.R_base ho0) hb)
                  have n3_ := M.A_ (Kd.R_lower (Kd.R_new' (Kd.R_new' (Kd.R_new' ho0 (Kd.R_lt (M.Lr HO_4))) (Kd.R_lt (M.Lr HO489))) (Kd.R_lt (M.Lr HO508))) (below_size (M.Lw HB)))
                  have n4_ := M.A_ (blk_below (M.Lb BK477) hb)
                  have n5_ := M.A_ (blk_below (M.Lb BK481) hb)
                  have n6_ := M.A_ (blk_below (M.Lb BK485) hb)
                  have n7_ := M.A_ (blk_below (M.Lb BK493) hb)
                  have n8_ := M.A_ (blk_below (M.Lb BK497) hb)
                  have n9_ := M.A_ (blk_below (M.Lb BK501) hb)
                  have n10_ := M.A_ (below_step (M.Lw HB) hb)
                  clear HO_4; clear HO489; clear HO508; clear BK477; clear BK481; clear BK485; clear BK493; clear BK497; clear BK501; clear HB; have HO_4 := n0_; have HO489 := n1_; have HO508 := n2_; have HO511 := n3_; have BK477 := n4_; have BK481 := n5_; have BK485 := n6_; have BK493 := n7_; have BK497 := n8_; have BK501 := n9_; have HB := n10_; clear n0_ n1_ n2_ n3_ n4_ n5_ n6_ n7_ n8_ n9_ n10_; (try clear hb); (try clear hb2); (try clear hk); (try clear hi); (try clear ho0)
                  obtain ⟨Ao115, co115, eo115⟩ := Kd.R_slice HO508.out
                  (first | subst eo115 | (injection eo115 with f1_ f2_ f3_; have f4_ := f1_.symm; have f5_ := f3_.symm; clear f1_ f2_ f3_; subst f4_; subst f5_))
                  obtain ⟨Ao116, co116, eo116⟩ := Kd.R_slice HO511.out
                  (first | subst eo116 | (injection eo116 with f1_ f2_ f3_; have f4_ := f1_.symm; have f5_ := f3_.symm; clear f1_ f2_ f3_; subst f4_; subst f5_))
                  refine hK.out _ _ ⟨(blk_cell BK501.out 0).trans rfl, (blk_cell BK501.out 1).trans rfl, (blk_cell BK477.out 0).trans rfl, (blk_cell BK477.out 1).trans rfl, (blk_cell BK493.out 0).trans rfl, (blk_cell BK493.out 1).trans rfl, (blk_cell BK485.out 0).trans rfl, (blk_cell BK485.out 1).trans rfl, (blk_cell BK497.out 0).trans rfl, (blk_cell BK497.out 1).trans rfl⟩ (fun hHeld => ?_)
                  clear hK K
                  refine norm_ (a' := ?_) ?_ ?_
                  rotate_left
                  ·show Act.put _ (some 134) _ = _
                   simp only [Act.put, M.sT_, M.s0_, M.s1_, i64_w, i32_w]; rfl
                  refine one_ (i := 38) (N := some 135) #[true, true, true, true, true, true, true, true, true, true, true, true, true, true, true, true, true, true, true, true, true, true, true, true, true, true, true, true, true, true, true, true, true, true, true, true, true, true, true, false, false, false, false, false, false, false, false, false, false, false, false, false, false, false, false, false, false, false, false, false, false, false] rfl rfl (one_of HT_.out (by kernel_rfl)) (by decide) (fun K hK => ?_)
                  refine goes_ Try.func11 (by kernel_rfl) rfl #[.slice Ao115 t506.length co115, .slice Ao116 t509.length co116] (by rfl) rfl rfl (by first | rfl | (simp only [M.mt, M.mc, M.mn, M.ld, M.lt]; rfl)) ?_
                  with_reducible refine (laws_sameInts.calls kj6 _ _ t506 _ _ t509 true _ ?side1 ?side2 ?side3 ?side4 A85.out).mono ?_
                  (case side1 => exact M.Lc (Kd.R_reads' HO508.out).2.2)
                  (case side2 => exact (Kd.R_reads' HO508.out).2.1)
                  (case side3 => exact M.Lc (Kd.R_reads' HO511.out).2.2)
                  (case side4 => exact (Kd.R_reads' HO511.out).2.1)
                  rintro e w' ⟨rfl, ⟨nd, rfl⟩⟩
                  refine ⟨_, rfl, ?_⟩
                  refine hK.out _ _ ⟨(blk_cell BK501.out 0).trans rfl, (blk_cell BK501.out 1).trans rfl, (blk_cell BK477.out 0).trans rfl, (blk_cell BK477.out 1).trans rfl, (blk_cell BK493.out 0).trans rfl, (blk_cell BK493.out 1).trans rfl, (blk_cell BK485.out 0).trans rfl, (blk_cell BK485.out 1).trans rfl, (blk_cell BK497.out 0).trans rfl, (blk_cell BK497.out 1).trans rfl⟩ (fun hHeld => ?_)
                  clear hK K
                  refine norm_ (a' := ?_) ?_ ?_
                  rotate_left
                  ·show Act.put _ (some 135) _ = _
                   simp only [Act.put, M.sT_, M.s0_, M.s1_, i64_w, i32_w]; rfl
                  refine pure_ (i := 39) (N := some 136) (v := ?_) (a' := ?_) #[true, true, true, true, true, true, true, true, true, true, true, true, true, true, true, true, true, true, true, true, true, true, true, true, true, true, true, true, true, true, true, true, true, true, true, true, true, true, true, true, false, false, false, false, false, false, false, false, false, false, false, false, false, false, false, false, false, false, false, false, false, false] rfl rfl (any_of HT_.out (by kernel_rfl)) (fun _ _ _ h => h) (Or.inl ⟨by rfl, ?_⟩) ?_ ?_; rotate_left
                  ·intro w'; go_simp; with_reducible rfl
                  rotate_left
                  ·simp only [Act.put, M.sT_, M.s0_, M.s1_, i64_w, i32_w]; rfl
                  refine pure_ (i := 40) (N := some 137) (v := ?_) (a' := ?_) #[true, true, true, true, true, true, true, true, true, true, true, true, true, true, true, true, true, true, true, true, true, true, true, true, true, true, true, true, true, true, true, true, true, true, true, true, true, true, true, true, true, false, false, false, false, false, false, false, false, false, false, false, false, false, false, false, false, false, false, false, false, false] rfl rfl (any_of HT_.out (by kernel_rfl)) (fun _ _ _ h => h) (Or.inl ⟨by rfl, ?_⟩) ?_ ?_; rotate_left
                  ·intro w'; go_simp; with_reducible rfl
                  rotate_left
                  ·simp only [Act.put, M.sT_, M.s0_, M.s1_, i64_w, i32_w]; rfl
                  refine pure_ (i := 41) (N := some 138) (v := ?_) (a' := ?_) #[true, true, true, true, true, true, true, true, true, true, true, true, true, true, true, true, true, true, true, true, true, true, true, true, true, true, true, true, true, true, true, true, true, true, true, true, true, true, true, true, true, true, false, false, false, false, false, false, false, false, false, false, false, false, false, false, false, false, false, false, false, false] rfl rfl (any_of HT_.out (by kernel_rfl)) (fun _ _ _ h => h) (Or.inl ⟨by rfl, ?_⟩) ?_ ?_; rotate_left
                  ·intro w'; go_simp; with_reducible rfl
                  rotate_left
                  ·simp only [Act.put, M.sT_, M.s0_, M.s1_, i64_w, i32_w]; rfl
                  refine take_ (i := 42) (N := some 139) (v := ?_) (a' := ?_) #[true, true, true, true, true, true, true, true, true, true, true, true, true, true, true, true, true, true, true, true, true, true, true, true, true, true, true, true, true, true, true, true, true, true, true, true, true, true, true, true, true, true, true, false, false, false, false, false, false, false, false, false, false, false, false, false, false, false, false, false, false, false] rfl rfl (take_ofW HT_.out HW_.out (by kernel_rfl)) (fun _ _ _ h => h) (Or.inl ⟨by rfl, ?_⟩) hHeld ?_ ?_
                  rotate_left
                  ·rintro w' ⟨s0, s1, s2, s3, s4, s5, s6, s7, s8, s9⟩
                   go_simp; with_reducible rfl
                  rotate_left
                  ·simp only [Act.put, M.sT_, M.s0_, M.s1_, i64_w, i32_w]; rfl
                  refine take_ (i := 44) (N := some 141) (v := ?_) (a' := ?_) #[true, true, true, true, true, true, true, true, true, true, true, true, true, true, true, true, true, true, true, true, true, true, true, true, true, true, true, true, true, true, true, true, true, true, true, true, true, true, true, true, true, true, true, false, true, false, false, false, false, false, false, false, false, false, false, false, false, false, false, false, false, false] rfl rfl (take_ofW HT_.out HW_.out (by kernel_rfl)) (fun _ _ _ h => h) (Or.inl ⟨by rfl, ?_⟩) hHeld ?_ ?_
                  rotate_left
                  ·rintro w' ⟨s0, s1, s2, s3, s4, s5, s6, s7, s8, s9⟩
                   go_simp; with_reducible rfl
                  rotate_left
                  ·simp only [Act.put, M.sT_, M.s0_, M.s1_, i64_w, i32_w]; rfl
                  refine one_ (i := 43) (N := some 140) #[true, true, true, true, true, true, true, true, true, true, true, true, true, true, true, true, true, true, true, true, true, true, true, true, true, true, true, true, true, true, true, true, true, true, true, true, true, true, true, true, true, true, true, true, true, false, false, false, false, false, false, false, false, false, false, false, false, false, false, false, false, false] rfl rfl (one_of HT_.out (by kernel_rfl)) (by decide) (fun K hK => ?_)
                  refine goes_ Try.func13 (by kernel_rfl) rfl #[.agg #[.int .i64 t482, .int .i64 t483]] (by rfl) rfl rfl (by first | rfl | (simp only [M.mt, M.mc, M.mn, M.ld, M.lt]; rfl)) ?_
                  with_reducible refine (impl_IsBent.calls kj6 t482 t483 t513 _ A87.out).mono ?_
                  rintro e w117 ⟨rfl, hb⟩
                  refine ⟨_, rfl, ?_⟩
                  have n0_ := M.A_ (Kd.R_below (M.Lr HO_4) hb)
                  have n1_ := M.A_ (Kd.R_below (M.Lr HO489) hb)
                  have n2_ := M.A_ (Kd.R_below (M.Lr HO508) hb)
                  have n3_ := M.A_ (Kd.R_below (M.Lr HO511) hb)
                  have n4_ := M.A_ (blk_below (M.Lb BK477) hb)
                  have n5_ := M.A_ (blk_below (M.Lb BK481) hb)
                  have n6_ := M.A_ (blk_below (M.Lb BK485) hb)
                  have n7_ := M.A_ (blk_below (M.Lb BK493) hb)
                  have n8_ := M.A_ (blk_below (M.Lb BK497) hb)
                  have n9_ := M.A_ (blk_below (M.Lb BK501) hb)
                  have n10_ := M.A_ (below_step (M.Lw HB) hb)
                  clear HO_4; clear HO489; clear HO508; clear HO511; clear BK477; clear BK481; clear BK485; clear BK493; clear BK497; clear BK501; clear HB; have HO_4 := n0_; have HO489 := n1_; have HO508 := n2_; have HO511 := n3_; have BK477 := n4_; have BK481 := n5_; have BK485 := n6_; have BK493 := n7_; have BK497 := n8_; have BK501 := n9_; have HB := n10_; clear n0_ n1_ n2_ n3_ n4_ n5_ n6_ n7_ n8_ n9_ n10_; (try clear hb); (try clear hb2); (try clear hk); (try clear hi)
                  refine hK.out _ _ ⟨(blk_cell BK501.out 0).trans rfl, (blk_cell BK501.out 1).trans rfl, (blk_cell BK477.out 0).trans rfl, (blk_cell BK477.out 1).trans rfl, (blk_cell BK493.out 0).trans rfl, (blk_cell BK493.out 1).trans rfl, (blk_cell BK485.out 0).trans rfl, (blk_cell BK485.out 1).trans rfl, (blk_cell BK497.out 0).trans rfl, (blk_cell BK497.out 1).trans rfl⟩ (fun hHeld => ?_)
                  clear hK K
                  refine norm_ (a' := ?_) ?_ ?_
                  rotate_left
                  ·show Act.put _ (some 140) _ = _
                   simp only [Act.put, M.sT_, M.s0_, M.s1_, i64_w, i32_w]; rfl
                  refine one_ (i := 45) (N := some 142) #[true, true, true, true, true, true, true, true, true, true, true, true, true, true, true, true, true, true, true, true, true, true, true, true, true, true, true, true, true, true, true, true, true, true, true, true, true, true, true, true, true, true, true, true, true, true, false, false, false, false, false, false, false, false, false, false, false, false, false, false, false, false] rfl rfl (one_of HT_.out (by kernel_rfl)) (by decide) (fun K hK => ?_)
                  refine goes_ Try.func13 (by kernel_rfl) rfl #[.agg #[.int .i64 t471, .int .i64 t472]] (by rfl) rfl rfl (by first | rfl | (simp only [M.mt, M.mc, M.mn, M.ld, M.lt]; rfl)) ?_
                  with_reducible refine (impl_IsBent.calls kj6 t471 t472 t514 _ A88.out).mono ?_
                  rintro e w118 ⟨rfl, hb⟩
                  refine ⟨_, rfl, ?_⟩
                  have n0_ := M.A_ (Kd.R_below (M.Lr HO_4) hb)
                  have n1_ := M.A_ (Kd.R_below (M.Lr HO489) hb)
                  have n2_ := M.A_ (Kd.R_below (M.Lr HO508) hb)
                  have n3_ := M.A_ (Kd.R_below (M.Lr HO511) hb)
                  have n4_ := M.A_ (blk_below (M.Lb BK477) hb)
                  have n5_ := M.A_ (blk_below (M.Lb BK481) hb)
                  have n6_ := M.A_ (blk_below (M.Lb BK485) hb)
                  have n7_ := M.A_ (blk_below (M.Lb BK493) hb)
                  have n8_ := M.A_ (blk_below (M.Lb BK497) hb)
                  have n9_ := M.A_ (blk_below (M.Lb BK501) hb)
                  have n10_ := M.A_ (below_step (M.Lw HB) hb)
                  clear HO_4; clear HO489; clear HO508; clear HO511; clear BK477; clear BK481; clear BK485; clear BK493; clear BK497; clear BK501; clear HB; have HO_4 := n0_; have HO489 := n1_; have HO508 := n2_; have HO511 := n3_; have BK477 := n4_; have BK481 := n5_; have BK485 := n6_; have BK493 := n7_; have BK497 := n8_; have BK501 := n9_; have HB := n10_; clear n0_ n1_ n2_ n3_ n4_ n5_ n6_ n7_ n8_ n9_ n10_; (try clear hb); (try clear hb2); (try clear hk); (try clear hi)
                  refine hK.out _ _ ⟨(blk_cell BK501.out 0).trans rfl, (blk_cell BK501.out 1).trans rfl, (blk_cell BK477.out 0).trans rfl, (blk_cell BK477.out 1).trans rfl, (blk_cell BK493.out 0).trans rfl, (blk_cell BK493.out 1).trans rfl, (blk_cell BK485.out 0).trans rfl, (blk_cell BK485.out 1).trans rfl, (blk_cell BK497.out 0).trans rfl, (blk_cell BK497.out 1).trans rfl⟩ (fun hHeld => ?_)
                  clear hK K
                  refine norm_ (a' := ?_) ?_ ?_
                  rotate_left
                  ·show Act.put _ (some 142) _ = _
                   simp only [Act.put, M.sT_, M.s0_, M.s1_, i64_w, i32_w]; rfl
                  refine pure_ (i := 46) (N := some 143) (v := ?_) (a' := ?_) #[true, true, true, true, true, true, true, true, true, true, true, true, true, true, true, true, true, true, true, true, true, true, true, true, true, true, true, true, true, true, true, true, true, true, true, true, true, true, true, true, true, true, true, true, true, true, true, false, false, false, false, false, false, false, false, false, false, false, false, false, false, false] rfl rfl (any_of HT_.out (by kernel_rfl)) (fun _ _ _ h => h) (Or.inl ⟨by rfl, ?_⟩) ?_ ?_; rotate_left
                  ·intro w'; go_simp; with_reducible rfl
                  rotate_left
                  ·simp only [Act.put, M.sT_, M.s0_, M.s1_, i64_w, i32_w]; rfl
                  refine pure_ (i := 47) (N := some 144) (v := ?_) (a' := ?_) #[true, true, true, true, true, true, true, true, true, true, true, true, true, true, true, true, true, true, true, true, true, true, true, true, true, true, true, true, true, true, true, true, true, true, true, true, true, true, true, true, true, true, true, true, true, true, true, true, false, false, false, false, false, false, false, false, false, false, false, false, false, false] rfl rfl (any_of HT_.out (by kernel_rfl)) (fun _ _ _ h => h) (Or.inl ⟨by rfl, ?_⟩) ?_ ?_; rotate_left
                  ·intro w'; go_simp; with_reducible rfl
                  rotate_left
                  ·simp only [Act.put, M.sT_, M.s0_, M.s1_, i64_w, i32_w]; rfl
                  refine pure_ (i := 48) (N := some 145) (v := ?_) (a' := ?_) #[true, true, true, true, true, true, true, true, true, true, true, true, true, true, true, true, true, true, true, true, true, true, true, true, true, true, true, true, true, true, true, true, true, true, true, true, true, true, true, true, true, true, true, true, true, true, true, true, true, false, false, false, false, false, false, false, false, false, false, false, false, false] rfl rfl (any_of HT_.out (by kernel_rfl)) (fun _ _ _ h => h) (Or.inl ⟨by rfl, ?_⟩) ?_ ?_; rotate_left
                  ·intro w'; go_simp; with_reducible rfl
                  rotate_left
                  ·simp only [Act.put, M.sT_, M.s0_, M.s1_, i64_w, i32_w]; rfl
                  refine take_ (i := 49) (N := some 146) (v := ?_) (a' := ?_) #[true, true, true, true, true, true, true, true, true, true, true, true, true, true, true, true, true, true, true, true, true, true, true, true, true, true, true, true, true, true, true, true, true, true, true, true, true, true, true, true, true, true, true, true, true, true, true, true, true, true, false, false, false, false, false, false, false, false, false, false, false, false] rfl rfl (take_ofW HT_.out HW_.out (by kernel_rfl)) (fun _ _ _ h => h) (Or.inl ⟨by rfl, ?_⟩) hHeld ?_ ?_
                  rotate_left
                  ·rintro w' ⟨s0, s1, s2, s3, s4, s5, s6, s7, s8, s9⟩
                   go_simp; with_reducible rfl
                  rotate_left
                  ·simp only [Act.put, M.sT_, M.s0_, M.s1_, i64_w, i32_w]; rfl
                  refine take_ (i := 51) (N := some 148) (v := ?_) (a' := ?_) #[true, true, true, true, true, true, true, true, true, true, true, true, true, true, true, true, true, true, true, true, true, true, true, true, true, true, true, true, true, true, true, true, true, true, true, true, true, true, true, true, true, true, true, true, true, true, true, true, true, true, false, true, false, false, false, false, false, false, false, false, false, false] rfl rfl (take_ofW HT_.out HW_.out (by kernel_rfl)) (fun _ _ _ h => h) (Or.inl ⟨by rfl, ?_⟩) hHeld ?_ ?_
                  rotate_left
                  ·rintro w' ⟨s0, s1, s2, s3, s4, s5, s6, s7, s8, s9⟩
                   go_simp; with_reducible rfl
                  rotate_left
                  ·simp only [Act.put, M.sT_, M.s0_, M.s1_, i64_w, i32_w]; rfl
                  refine one_ (i := 50) (N := some 147) #[true, true, true, true, true, true, true, true, true, true, true, true, true, true, true, true, true, true, true, true, true, true, true, true, true, true, true, true, true, true, true, true, true, true, true, true, true, true, true, true, true, true, true, true, true, true, true, true, true, true, true, true, false, false, false, false, false, false, false, false, false, false] rfl rfl (one_of HT_.out (by kernel_rfl)) (by decide) (fun K hK => ?_)
                  refine goes_ Try.func14 (by kernel_rfl) rfl #[.agg #[.int .i64 t482, .int .i64 t483]] (by rfl) rfl rfl (by first | rfl | (simp only [M.mt, M.mc, M.mn, M.ld, M.lt]; rfl)) ?_
                  with_reducible refine (impl_Nonlinearity.calls kj6 t482 t483 t515 _ A102.out).mono ?_
                  rintro e w119 ⟨rfl, hb⟩
                  refine ⟨_, rfl, ?_⟩
                  have n0_ := M.A_ (Kd.R_below (M.Lr HO_4) hb)
                  have n1_ := M.A_ (Kd.R_below (M.Lr HO489) hb)
                  have n2_ := M.A_ (Kd.R_below (M.Lr HO508) hb)
                  have n3_ := M.A_ (Kd.R_below (M.Lr HO511) hb)
                  have n4_ := M.A_ (blk_below (M.Lb BK477) hb)
                  have n5_ := M.A_ (blk_below (M.Lb BK481) hb)
                  have n6_ := M.A_ (blk_below (M.Lb BK485) hb)
                  have n7_ := M.A_ (blk_below (M.Lb BK493) hb)
                  have n8_ := M.A_ (blk_below (M.Lb BK497) hb)
                  have n9_ := M.A_ (blk_below (M.Lb BK501) hb)
                  have n10_ := M.A_ (below_step (M.Lw HB) hb)
                  clear HO_4; clear HO489; clear HO508; clear HO511; clear BK477; clear BK481; clear BK485; clear BK493; clear BK497; clear BK501; clear HB; have HO_4 := n0_; have HO489 := n1_; have HO508 := n2_; have HO511 := n3_; have BK477 := n4_; have BK481 := n5_; have BK485 := n6_; have BK493 := n7_; have BK497 := n8_; have BK501 := n9_; have HB := n10_; clear n0_ n1_ n2_ n3_ n4_ n5_ n6_ n7_ n8_ n9_ n10_; (try clear hb); (try clear hb2); (try clear hk); (try clear hi)
                  refine hK.out _ _ ⟨(blk_cell BK501.out 0).trans rfl, (blk_cell BK501.out 1).trans rfl, (blk_cell BK477.out 0).trans rfl, (blk_cell BK477.out 1).trans rfl, (blk_cell BK493.out 0).trans rfl, (blk_cell BK493.out 1).trans rfl, (blk_cell BK485.out 0).trans rfl, (blk_cell BK485.out 1).trans rfl, (blk_cell BK497.out 0).trans rfl, (blk_cell BK497.out 1).trans rfl⟩ (fun hHeld => ?_)
                  clear hK K
                  refine norm_ (a' := ?_) ?_ ?_
                  rotate_left
                  ·show Act.put _ (some 147) _ = _
                   simp only [Act.put, M.sT_, M.s0_, M.s1_, i64_w, i32_w]; rfl
                  refine one_ (i := 52) (N := some 149) #[true, true, true, true, true, true, true, true, true, true, true, true, true, true, true, true, true, true, true, true, true, true, true, true, true, true, true, true, true, true, true, true, true, true, true, true, true, true, true, true, true, true, true, true, true, true, true, true, true, true, true, true, true, false, false, false, false, false, false, false, false, false] rfl rfl (one_of HT_.out (by kernel_rfl)) (by decide) (fun K hK => ?_)
                  refine goes_ Try.func14 (by kernel_rfl) rfl #[.agg #[.int .i64 t471, .int .i64 t472]] (by rfl) rfl rfl (by first | rfl | (simp only [M.mt, M.mc, M.mn, M.ld, M.lt]; rfl)) ?_
                  with_reducible refine (impl_Nonlinearity.calls kj6 t471 t472 t516 _ A103.out).mono ?_
                  rintro e w120 ⟨rfl, hb⟩
                  refine ⟨_, rfl, ?_⟩
                  have n0_ := M.A_ (Kd.R_below (M.Lr HO_4) hb)
                  have n1_ := M.A_ (Kd.R_below (M.Lr HO489) hb)
                  have n2_ := M.A_ (Kd.R_below (M.Lr HO508) hb)
                  have n3_ := M.A_ (Kd.R_below (M.Lr HO511) hb)
                  have n4_ := M.A_ (blk_below (M.Lb BK477) hb)
                  have n5_ := M.A_ (blk_below (M.Lb BK481) hb)
                  have n6_ := M.A_ (blk_below (M.Lb BK485) hb)
                  have n7_ := M.A_ (blk_below (M.Lb BK493) hb)
                  have n8_ := M.A_ (blk_below (M.Lb BK497) hb)
                  have n9_ := M.A_ (blk_below (M.Lb BK501) hb)
                  have n10_ := M.A_ (below_step (M.Lw HB) hb)
                  clear HO_4; clear HO489; clear HO508; clear HO511; clear BK477; clear BK481; clear BK485; clear BK493; clear BK497; clear BK501; clear HB; have HO_4 := n0_; have HO489 := n1_; have HO508 := n2_; have HO511 := n3_; have BK477 := n4_; have BK481 := n5_; have BK485 := n6_; have BK493 := n7_; have BK497 := n8_; have BK501 := n9_; have HB := n10_; clear n0_ n1_ n2_ n3_ n4_ n5_ n6_ n7_ n8_ n9_ n10_; (try clear hb); (try clear hb2); (try clear hk); (try clear hi)
                  refine hK.out _ _ ⟨(blk_cell BK501.out 0).trans rfl, (blk_cell BK501.out 1).trans rfl, (blk_cell BK477.out 0).trans rfl, (blk_cell BK477.out 1).trans rfl, (blk_cell BK493.out 0).trans rfl, (blk_cell BK493.out 1).trans rfl, (blk_cell BK485.out 0).trans rfl, (blk_cell BK485.out 1).trans rfl, (blk_cell BK497.out 0).trans rfl, (blk_cell BK497.out 1).trans rfl⟩ (fun hHeld => ?_)
                  clear hK K
                  refine norm_ (a' := ?_) ?_ ?_
                  rotate_left
                  ·show Act.put _ (some 149) _ = _
                   simp only [Act.put, M.sT_, M.s0_, M.s1_, i64_w, i32_w]; rfl
                  refine pure_ (i := 53) (N := some 150) (v := ?_) (a' := ?_) #[true, true, true, true, true, true, true, true, true, true, true, true, true, true, true, true, true, true, true, true, true, true, true, true, true, true, true, true, true, true, true, true, true, true, true, true, true, true, true, true, true, true, true, true, true, true, true, true, true, true, true, true, true, true, false, false, false, false, false, false, false, false] rfl rfl (any_of HT_.out (by kernel_rfl)) (fun _ _ _ h => h) (Or.inl ⟨by rfl, ?_⟩) ?_ ?_; rotate_left
                  ·intro w'; go_simp; with_reducible rfl
                  rotate_left
                  ·simp only [Act.put, M.sT_, M.s0_, M.s1_, i64_w, i32_w]; rfl
                  refine pure_ (i := 54) (N := some 151) (v := ?_) (a' := ?_) #[true, true, true, true, true, true, true, true, true, true, true, true, true, true, true, true, true, true, true, true, true, true, true, true, true, true, true, true, true, true, true, true, true, true, true, true, true, true, true, true, true, true, true, true, true, true, true, true, true, true, true, true, true, true, true, false, false, false, false, false, false, false] rfl rfl (any_of HT_.out (by kernel_rfl)) (fun _ _ _ h => h) (Or.inl ⟨by rfl, ?_⟩) ?_ ?_; rotate_left
                  ·intro w'; go_simp; with_reducible rfl
                  rotate_left
                  ·simp only [Act.put, M.sT_, M.s0_, M.s1_, i64_w, i32_w]; rfl
                  refine pure_ (i := 55) (N := some 152) (v := ?_) (a' := ?_) #[true, true, true, true, true, true, true, true, true, true, true, true, true, true, true, true, true, true, true, true, true, true, true, true, true, true, true, true, true, true, true, true, true, true, true, true, true, true, true, true, true, true, true, true, true, true, true, true, true, true, true, true, true, true, true, true, false, false, false, false, false, false] rfl rfl (any_of HT_.out (by kernel_rfl)) (fun _ _ _ h => h) (Or.inl ⟨by rfl, ?_⟩) ?_ ?_; rotate_left
                  ·intro w'; go_simp; with_reducible rfl
                  rotate_left
                  ·simp only [Act.put, M.sT_, M.s0_, M.s1_, i64_w, i32_w]; rfl
                  refine take_ (i := 56) (N := some 153) (v := ?_) (a' := ?_) #[true, true, true, true, true, true, true, true, true, true, true, true, true, true, true, true, true, true, true, true, true, true, true, true, true, true, true, true, true, true, true, true, true, true, true, true, true, true, true, true, true, true, true, true, true, true, true, true, true, true, true, true, true, true, true, true, true, false, false, false, false, false] rfl rfl (take_ofW HT_.out HW_.out (by kernel_rfl)) (fun _ _ _ h => h) (Or.inl ⟨by rfl, ?_⟩) hHeld ?_ ?_
                  rotate_left
                  ·rintro w' ⟨s0, s1, s2, s3, s4, s5, s6, s7, s8, s9⟩
                   go_simp; with_reducible rfl
                  rotate_left
                  ·simp only [Act.put, M.sT_, M.s0_, M.s1_, i64_w, i32_w]; rfl
                  refine take_ (i := 58) (N := some 155) (v := ?_) (a' := ?_) #[true, true, true, true, true, true, true, true, true, true, true, true, true, true, true, true, true, true, true, true, true, true, true, true, true, true, true, true, true, true, true, true, true, true, true, true, true, true, true, true, true, true, true, true, true, true, true, true, true, true, true, true, true, true, true, true, true, false, true, false, false, false] rfl rfl (take_ofW HT_.out HW_.out (by kernel_rfl)) (fun _ _ _ h => h) (Or.inl ⟨by rfl, ?_⟩) hHeld ?_ ?_
                  rotate_left
                  ·rintro w' ⟨s0, s1, s2, s3, s4, s5, s6, s7, s8, s9⟩
                   go_simp; with_reducible rfl
                  rotate_left
                  ·simp only [Act.put, M.sT_, M.s0_, M.s1_, i64_w, i32_w]; rfl
                  refine one_ (i := 57) (N := some 154) #[true, true, true, true, true, true, true, true, true, true, true, true, true, true, true, true, true, true, true, true, true, true, true, true, true, true, true, true, true, true, true, true, true, true, true, true, true, true, true, true, true, true, true, true, true, true, true, true, true, true, true, true, true, true, true, true, true, true, true, false, false, false] rfl rfl (one_of HT_.out (by kernel_rfl)) (by decide) (fun K hK => ?_)
                  refine goes_ Try.func15 (by kernel_rfl) rfl #[.agg #[.int .i64 t494, .int .i64 t495]] (by rfl) rfl rfl (by first | rfl | (simp only [M.mt, M.mc, M.mn, M.ld, M.lt]; rfl)) ?_
                  with_reducible refine (impl_TestRejects.calls kj6 t494 t495 t517 _ A105.out).mono ?_
                  rintro e w121 ⟨rfl, hb⟩
                  refine ⟨_, rfl, ?_⟩
                  have n0_ := M.A_ (Kd.R_below (M.Lr HO_4) hb)
                  have n1_ := M.A_ (Kd.R_below (M.Lr HO489) hb)
                  have n2_ := M.A_ (Kd.R_below (M.Lr HO508) hb)
                  have n3_ := M.A_ (Kd.R_below (M.Lr HO511) hb)
                  have n4_ := M.A_ (blk_below (M.Lb BK477) hb)
                  have n5_ := M.A_ (blk_below (M.Lb BK481) hb)
                  have n6_ := M.A_ (blk_below (M.Lb BK485) hb)
                  have n7_ := M.A_ (blk_below (M.Lb BK493) hb)
                  have n8_ := M.A_ (blk_below (M.Lb BK497) hb)
                  have n9_ := M.A_ (blk_below (M.Lb BK501) hb)
                  have n10_ := M.A_ (below_step (M.Lw HB) hb)
                  clear HO_4; clear HO489; clear HO508; clear HO511; clear BK477; clear BK481; clear BK485; clear BK493; clear BK497; clear BK501; clear HB; have HO_4 := n0_; have HO489 := n1_; have HO508 := n2_; have HO511 := n3_; have BK477 := n4_; have BK481 := n5_; have BK485 := n6_; have BK493 := n7_; have BK497 := n8_; have BK501 := n9_; have HB := n10_; clear n0_ n1_ n2_ n3_ n4_ n5_ n6_ n7_ n8_ n9_ n10_; (try clear hb); (try clear hb2); (try clear hk); (try clear hi)
                  refine hK.out _ _ ⟨(blk_cell BK501.out 0).trans rfl, (blk_cell BK501.out 1).trans rfl, (blk_cell BK477.out 0).trans rfl, (blk_cell BK477.out 1).trans rfl, (blk_cell BK493.out 0).trans rfl, (blk_cell BK493.out 1).trans rfl, (blk_cell BK485.out 0).trans rfl, (blk_cell BK485.out 1).trans rfl, (blk_cell BK497.out 0).trans rfl, (blk_cell BK497.out 1).trans rfl⟩ (fun hHeld => ?_)
                  clear hK K
                  refine norm_ (a' := ?_) ?_ ?_
                  rotate_left
                  ·show Act.put _ (some 154) _ = _
                   simp only [Act.put, M.sT_, M.s0_, M.s1_, i64_w, i32_w]; rfl
                  refine one_ (i := 59) (N := some 156) #[true, true, true, true, true, true, true, true, true, true, true, true, true, true, true, true, true, true, true, true, true, true, true, true, true, true, true, true, true, true, true, true, true, true, true, true, true, true, true, true, true, true, true, true, true, true, true, true, true, true, true, true, true, true, true, true, true, true, true, true, false, false] rfl rfl (one_of HT_.out (by kernel_rfl)) (by decide) (fun K hK => ?_)
                  refine goes_ Try.func15 (by kernel_rfl) rfl #[.agg #[.int .i64 t471, .int .i64 t472]] (by rfl) rfl rfl (by first | rfl | (simp only [M.mt, M.mc, M.mn, M.ld, M.lt]; rfl)) ?_
                  with_reducible refine (impl_TestRejects.calls kj6 t471 t472 t518 _ A106.out).mono ?_
                  rintro e w122 ⟨rfl, hb⟩
                  refine ⟨_, rfl, ?_⟩
                  have n0_ := M.A_ (Kd.R_below (M.Lr HO_4) hb)
                  have n1_ := M.A_ (Kd.R_below (M.Lr HO489) hb)
                  have n2_ := M.A_ (Kd.R_below (M.Lr HO508) hb)
                  have n3_ := M.A_ (Kd.R_below (M.Lr HO511) hb)
                  have n4_ := M.A_ (blk_below (M.Lb BK477) hb)
                  have n5_ := M.A_ (blk_below (M.Lb BK481) hb)
                  have n6_ := M.A_ (blk_below (M.Lb BK485) hb)
                  have n7_ := M.A_ (blk_below (M.Lb BK493) hb)
                  have n8_ := M.A_ (blk_below (M.Lb BK497) hb)
                  have n9_ := M.A_ (blk_below (M.Lb BK501) hb)
                  have n10_ := M.A_ (below_step (M.Lw HB) hb)
                  clear HO_4; clear HO489; clear HO508; clear HO511; clear BK477; clear BK481; clear BK485; clear BK493; clear BK497; clear BK501; clear HB; have HO_4 := n0_; have HO489 := n1_; have HO508 := n2_; have HO511 := n3_; have BK477 := n4_; have BK481 := n5_; have BK485 := n6_; have BK493 := n7_; have BK497 := n8_; have BK501 := n9_; have HB := n10_; clear n0_ n1_ n2_ n3_ n4_ n5_ n6_ n7_ n8_ n9_ n10_; (try clear hb); (try clear hb2); (try clear hk); (try clear hi)
                  refine hK.out _ _ ⟨(blk_cell BK501.out 0).trans rfl, (blk_cell BK501.out 1).trans rfl, (blk_cell BK477.out 0).trans rfl, (blk_cell BK477.out 1).trans rfl, (blk_cell BK493.out 0).trans rfl, (blk_cell BK493.out 1).trans rfl, (blk_cell BK485.out 0).trans rfl, (blk_cell BK485.out 1).trans rfl, (blk_cell BK497.out 0).trans rfl, (blk_cell BK497.out 1).trans rfl⟩ (fun hHeld => ?_)
                  clear hK K
                  refine norm_ (a' := ?_) ?_ ?_
                  rotate_left
                  ·show Act.put _ (some 156) _ = _
                   simp only [Act.put, M.sT_, M.s0_, M.s1_, i64_w, i32_w]; rfl
                  refine pure_ (i := 60) (N := some 157) (v := ?_) (a' := ?_) #[true, true, true, true, true, true, true, true, true, true, true, true, true, true, true, true, true, true, true, true, true, true, true, true, true, true, true, true, true, true, true, true, true, true, true, true, true, true, true, true, true, true, true, true, true, true, true, true, true, true, true, true, true, true, true, true, true, true, true, true, true, false] rfl rfl (any_of HT_.out (by kernel_rfl)) (fun _ _ _ h => h) (Or.inl ⟨by rfl, ?_⟩) ?_ ?_; rotate_left
                  ·intro w'; go_simp; with_reducible rfl
                  rotate_left
                  ·simp only [Act.put, M.sT_, M.s0_, M.s1_, i64_w, i32_w]; rfl
                  refine pure_ (i := 61) (N := some 158) (v := ?_) (a' := ?_) #[true, true, true, true, true, true, true, true, true, true, true, true, true, true, true, true, true, true, true, true, true, true, true, true, true, true, true, true, true, true, true, true, true, true, true, true, true, true, true, true, true, true, true, true, true, true, true, true, true, true, true, true, true, true, true, true, true, true, true, true, true, true] rfl rfl (any_of HT_.out (by kernel_rfl)) (fun _ _ _ h => h) (Or.inl ⟨by rfl, ?_⟩) ?_ ?_; rotate_left
                  ·intro w'; go_simp; with_reducible rfl
                  rotate_left
                  ·simp only [Act.put, M.sT_, M.s0_, M.s1_, i64_w, i32_w]; rfl
                  refine done_ (done_of HT_.out (by kernel_rfl)) ?_
                  try go_wp2
                  go_meet
                  case rel => exact ⟨_, ((t517 != t518)), (by first | rfl | (simp; done) | (simp [*]; done)), H', ⟨by have := HJ6.out; first | omega | exact Nat.le_refl _⟩, ⟨by (with_reducible repeat (first | apply Kd.R_alloc | apply Kd.R_drewN | apply Kd.R_drew)); exact Kd.R_mono HO_4.out (fun _ hk => trivial)⟩, ⟨M.Lb BK477⟩, ⟨M.Lb BK481⟩, ⟨M.Lb BK485⟩, ⟨M.Lb BK493⟩, ⟨M.Lb BK497⟩, ⟨M.Lb BK501⟩, ⟨M.Lw HB⟩⟩
                 ·rw [if_neg c104] at H
                  have c104b0 : (t515 == t516) = false := beq_eq_false_iff_ne.mpr c104
                  have c104b1 : (t515 != t516) = true := bne_iff_ne.mpr c104
                  first | exact (laws_FnAffine.j0_dead H HRT.out).elim | exact (laws_FnAffine.j3_dead H HRT.out).elim | exact (laws_FnAffine.j1_dead H HRT.out).elim
               ·replace c86 := Bool.eq_false_iff.mpr c86
                subst c86
                rw [if_neg (show ¬ (false = true) by decide)] at H
                (try dsimp only at H)
                first | exact (laws_FnAffine.j0_dead H HRT.out).elim | exact (laws_FnAffine.j3_dead H HRT.out).elim | exact (laws_FnAffine.j1_dead H HRT.out).elim
              ·rw [if_neg c82] at H
               have c82b0 : (t504 == t505) = false := beq_eq_false_iff_ne.mpr c82
               have c82b1 : (t504 != t505) = true := bne_iff_ne.mpr c82
               first | exact (laws_FnAffine.j0_dead H HRT.out).elim | exact (laws_FnAffine.j3_dead H HRT.out).elim | exact (laws_FnAffine.j1_dead H HRT.out).elim
             ·rw [if_neg c79] at H
              have c79b0 : (t502 == t503) = false := beq_eq_false_iff_ne.mpr c79
              have c79b1 : (t502 != t503) = true := bne_iff_ne.mpr c79
              first | exact (laws_FnAffine.j0_dead H HRT.out).elim | exact (laws_FnAffine.j3_dead H HRT.out).elim | exact (laws_FnAffine.j1_dead H HRT.out).elim
           ·replace c73 := Bool.eq_false_iff.mpr c73
            subst c73
            rw [if_neg (show ¬ (false = true) by decide)] at H
            (try dsimp only at H)
            first | exact (laws_FnAffine.j0_dead H HRT.out).elim | exact (laws_FnAffine.j3_dead H HRT.out).elim | exact (laws_FnAffine.j1_dead H HRT.out).elim
          ·replace c72 := Bool.eq_false_iff.mpr c72
           subst c72
           rw [if_neg (show ¬ (false = true) by decide)] at H
           (try dsimp only at H)
           first | exact (laws_FnAffine.j0_dead H HRT.out).elim | exact (laws_FnAffine.j3_dead H HRT.out).elim | exact (laws_FnAffine.j1_dead H HRT.out).elim
         ·replace c71 := Bool.eq_false_iff.mpr c71
          subst c71
          rw [if_neg (show ¬ (false = true) by decide)] at H
          (try dsimp only at H)
          first | exact (laws_FnAffine.j0_dead H HRT.out).elim | exact (laws_FnAffine.j3_dead H HRT.out).elim | exact (laws_FnAffine.j1_dead H HRT.out).elim
        ·replace c70 := Bool.eq_false_iff.mpr c70
         subst c70
         rw [if_neg (show ¬ (false = true) by decide)] at H
         (try dsimp only at H)
         first | exact (laws_FnAffine.j0_dead H HRT.out).elim | exact (laws_FnAffine.j3_dead H HRT.out).elim | exact (laws_FnAffine.j1_dead H HRT.out).elim
       case rest =>
        as_aux_lemma =>
        clear HC40; (try clear p2); (try clear c7); (try clear c70); obtain ⟨kq, x158_39, rfl, HA, HJ39, HO_4, BK477, BK481, BK485, BK493, BK497, BK501, HB⟩ := hcut
        cases kq with
        | zero => exact absurd HA.out (by simp [laws_FnAffine.j1])
        | succ kj39 =>
         have H := HA.out
         clear HA
         simp only [laws_FnAffine.j1] at H
         by_cases c165 : x158_39 = true
         ·subst c165
          rw [if_pos rfl] at H
          (try dsimp only at H)
          exact absurd (Option.some.inj H) (by rw [HRT.out]; decide)
         ·replace c165 := Bool.eq_false_iff.mpr c165
          subst c165
          rw [if_neg (show ¬ (false = true) by decide)] at H
          (try dsimp only at H); obtain ⟨t519, A166, H⟩ := M.ob_ H; (try dsimp only at H)
          by_cases c167 : 0 ≤ t471
          ·rw [if_pos c167] at H
           have c167b0 := eq_true c167
           have c167b1 : decide (0 ≤ t471) = true := decide_eq_true c167
           clear c167
           obtain ⟨ji168, hji168⟩ : ∃ j_ : Int, (shl .i64 1 t471) = j_ := ⟨_, rfl⟩
           replace H : (if (ji168) = 0 then (none) else ((impl_ValueAt.f t482 t483 (Int.tmod t519 (ji168))).bind fun t520 => ((impl_MapInput.f kj39 t471 t473 t476 (Int.tmod t519 (ji168))).bind fun t521 => ((impl_ValueAt.f t471 t472 t521).bind fun t522 => (if t520 = t522 then (laws_FnAffine.j2 kj39 l0) else (some false)))))) = some r := by first | (rw [hji168] at H; exact H) | (simp only [hji168] at H ⊢; exact H)
           (try rw [hji168] at A166)
           have hji168_ : (IntKind.i64.wrap (1 * 2 ^ min t471.toNat 64)) = ji168 := hji168
           have hji168z : t471 ≤ 64 → (IntKind.i64.wrap (1 * 2 ^ t471.toNat)) = ji168 := shl_small hji168
           have hji168u : (IntKind.i64.wrap (2 ^ min t471.toNat 64)) = ji168 := by have h_ := hji168_; rw [Int.one_mul] at h_; exact h_
           have hji168v : t471 ≤ 64 → (IntKind.i64.wrap (2 ^ t471.toNat)) = ji168 := fun hle_ => by have h_ := hji168z hle_; rw [Int.one_mul] at h_; exact h_
           have hji168y : (wrap64 (1 * 2 ^ min t471.toNat 64)) = ji168 := (i64_w _).symm.trans hji168_
           have hji168x : t471 ≤ 64 → (wrap64 (1 * 2 ^ t471.toNat)) = ji168 := fun h_ => (i64_w _).symm.trans (hji168z h_)
           by_cases c169 : (ji168) = 0
           ·rw [if_pos c169] at H
            exact absurd H (by simp)
           ·rw [if_neg c169] at H
            have c169b0 : ((ji168) == 0) = false := beq_eq_false_iff_ne.mpr c169
            have c169b1 : ((ji168) != 0) = true := bne_iff_ne.mpr c169
            obtain ⟨t520, A170, H⟩ := M.ob_ H; (try dsimp only at H); obtain ⟨t521, A171, H⟩ := M.ob_ H; (try dsimp only at H); replace H := Option.bind_eq_some_iff.mp H; obtain ⟨t522, A1720, H⟩ := H
            replace H : (if t520 = t522 then (laws_FnAffine.j2 kj39 l0) else (some false)) = some r := H
            have A172 := M.A_ A1720; clear A1720
            by_cases c173 : t520 = t522
            ·rw [if_pos c173] at H
             have c173b0 : (t520 == t522) = true := beq_iff_eq.mpr c173
             have c173b1 : (t520 != t522) = false := bne_eq_false_iff_eq.mpr c173
             clear c173
             have H' := M.A_ H
             clear H
             try go_wp2
             have n0_ := M.A_ (Kd.R_drew HO_4.out)
             have n1_ := M.A_ (blk_drew BK477.out)
             have n2_ := M.A_ (blk_drew BK481.out)
             have n3_ := M.A_ (blk_drew BK485.out)
             have n4_ := M.A_ (blk_drew BK493.out)
             have n5_ := M.A_ (blk_drew BK497.out)
             have n6_ := M.A_ (blk_drew BK501.out)
             have n7_ := M.A_ (below_drew1 HB.out)
             clear HO_4; clear BK477; clear BK481; clear BK485; clear BK493; clear BK497; clear BK501; clear HB; have HO_4 := n0_; have BK477 := n1_; have BK481 := n2_; have BK485 := n3_; have BK493 := n4_; have BK497 := n5_; have BK501 := n6_; have HB := n7_; clear n0_ n1_ n2_ n3_ n4_ n5_ n6_ n7_
             refine start_ (n := 7) (S := fun w' => w'.cell? ⟨gb477, 0, none⟩ = some (.int .i64 t471) ∧ w'.cell? ⟨gb477, 1, none⟩ = some (.int .i64 t472)) (ds := []) #[false, false, false, false, false, false, false] (by kernel_rfl) rfl rfl ⟨(blk_cell BK477.out 0).trans rfl, (blk_cell BK477.out 1).trans rfl⟩ (fun hHeld => ?_)
             generalize wc.drew = w174 at HO_4 BK477 BK481 BK485 BK493 BK497 BK501 HB hHeld ⊢
             refine pure_ (i := 0) (N := some 159) (v := ?_) (a' := ?_) #[true, false, false, false, false, false, false] rfl rfl (by kernel_rfl) (fun _ _ _ h => h) (Or.inl ⟨by rfl, ?_⟩) ?_ ?_; rotate_left
             ·intro w'; go_simp; with_reducible rfl
             rotate_left
             ·simp only [Act.put, M.sT_, M.s0_, M.s1_, i64_w, i32_w]; rfl
             refine pure_ (i := 2) (N := some 161) (v := ?_) (a' := ?_) #[true, false, true, false, false, false, false] rfl rfl (by kernel_rfl) (fun _ _ _ h => h) (Or.inl ⟨by rfl, ?_⟩) ?_ ?_; rotate_left
             ·intro w'; go_simp; with_reducible rfl
             rotate_left
             ·simp only [Act.put, M.sT_, M.s0_, M.s1_, i64_w, i32_w]; rfl
             refine take_ (i := 3) (N := some 162) (v := ?_) (a' := ?_) #[true, false, true, true, false, false, false] rfl rfl (by kernel_rfl) (fun _ _ _ h => h) (Or.inl ⟨by rfl, ?_⟩) hHeld ?_ ?_
             rotate_left
             ·rintro w' ⟨s0, s1⟩
              go_simp; with_reducible rfl
             rotate_left
             ·simp only [Act.put, M.sT_, M.s0_, M.s1_, i64_w, i32_w]; rfl
             refine pure_ (i := 4) (N := some 163) (v := ?_) (a' := ?_) #[true, false, true, true, true, false, false] rfl rfl (by kernel_rfl) (fun _ _ _ h => h) (Or.inl ⟨by rfl, ?_⟩) ?_ ?_; rotate_left
             ·intro w'; go_simp; with_reducible rfl
             rotate_left
             ·simp only [Act.put, M.sT_, M.s0_, M.s1_, i64_w, i32_w]; rfl
             refine one_ (i := 1) (N := some 160) #[true, true, true, true, true, false, false] rfl rfl (by kernel_rfl) (by decide) (fun K hK => ?_)
             refine goes_ Try.func16 (by kernel_rfl) rfl #[.slice A0 l0.length c0, .int .i64 3] (by rfl) rfl rfl (by first | rfl | (simp only [M.mt, M.mc, M.mn, M.ld, M.lt]; rfl)) ?_
             with_reducible refine (laws_at.calls _ _ l0 3 t519 _ ?side1 ?side2 A166.out).mono ?_
             (case side1 => exact M.Lc (Kd.C_below HR0.out HB.out))
             (case side2 => exact HC0.out)
             rintro e w' ⟨rfl, ⟨nd, rfl⟩⟩
             refine ⟨_, rfl, ?_⟩
             refine hK.out _ _ ⟨(blk_cell BK477.out 0).trans rfl, (blk_cell BK477.out 1).trans rfl⟩ (fun hHeld => ?_)
             clear hK K
             refine norm_ (a' := ?_) ?_ ?_
             rotate_left
             ·show Act.put _ (some 160) _ = _
              simp only [Act.put, M.sT_, M.s0_, M.s1_, i64_w, i32_w]; rfl
             refine pure_ (i := 5) (N := some 164) (v := ?_) (a' := ?_) #[true, true, true, true, true, true, false] rfl rfl (by kernel_rfl) (fun _ _ _ h => h) (Or.inl ⟨by rfl, ?_⟩) ?_ ?_; rotate_left
             ·intro w'; go_simp; with_reducible rfl
             rotate_left
             ·simp only [Act.put, M.sT_, M.s0_, M.s1_, i64_w, i32_w]; rfl
             refine pure_ (i := 6) (N := some 18) (v := ?_) (a' := ?_) #[true, true, true, true, true, true, true] rfl rfl (by kernel_rfl) (fun _ _ _ h => h) (Or.inl ⟨by rfl, ?_⟩) ?_ ?_; rotate_left
             ·intro w'; go_simp; with_reducible rfl
             rotate_left
             ·simp only [Act.put, M.sT_, M.s0_, M.s1_, i64_w, i32_w]; rfl
             refine done_ (by kernel_rfl) ?_
             try go_wp2
             (try (rw [drewN_self w174]; generalize hq_ : World.drewN w174 _ = w174; have n0_ : Aside0 (Kd.R (Kd.int .i64) 3 w174 w.heap.size (fun _ => True) (.slice Ao11 t473.length co11) t473) := ⟨by rw [← hq_]; exact (M.Lr HO_4)⟩; have n1_ : Aside0 (w174.heap[gb477]? = some (.cells #[.int .i64 t471, .int .i64 t472] 25 (0, 0))) := ⟨by rw [← hq_]; exact (M.Lb BK477)⟩; have n2_ : Aside0 (w174.heap[gb481]? = some (.cells #[.int .i64 t478, .int .i64 t479] 25 (0, 0))) := ⟨by rw [← hq_]; exact (M.Lb BK481)⟩; have n3_ : Aside0 (w174.heap[gb485]? = some (.cells #[.int .i64 t482, .int .i64 t483] 25 (0, 0))) := ⟨by rw [← hq_]; exact (M.Lb BK485)⟩; have n4_ : Aside0 (w174.heap[gb493]? = some (.cells #[.int .i64 t490, .int .i64 t491] 25 (0, 0))) := ⟨by rw [← hq_]; exact (M.Lb BK493)⟩; have n5_ : Aside0 (w174.heap[gb497]? = some (.cells #[.int .i64 t494, .int .i64 t495] 25 (0, 0))) := ⟨by rw [← hq_]; exact (M.Lb BK497)⟩; have n6_ : Aside0 (w174.heap[gb501]? = some (.cells #[.int .i64 t498, .int .i64 t499] 25 (0, 0))) := ⟨by rw [← hq_]; exact (M.Lb BK501)⟩; have n7_ : Aside0 (Below w.heap.size w w174) := ⟨by rw [← hq_]; exact (M.Lw HB)⟩; clear HO_4 BK477 BK481 BK485 BK493 BK497 BK501 HB hq_; have HO_4 := n0_; have BK477 := n1_; have BK481 := n2_; have BK485 := n3_; have BK493 := n4_; have BK497 := n5_; have BK501 := n6_; have HB := n7_; clear n0_ n1_ n2_ n3_ n4_ n5_ n6_ n7_))
             have n0_ := M.A_ (Kd.R_drew HO_4.out)
             have n1_ := M.A_ (blk_drew BK477.out)
             have n2_ := M.A_ (blk_drew BK481.out)
             have n3_ := M.A_ (blk_drew BK485.out)
             have n4_ := M.A_ (blk_drew BK493.out)
             have n5_ := M.A_ (blk_drew BK497.out)
             have n6_ := M.A_ (blk_drew BK501.out)
             have n7_ := M.A_ (below_drew1 HB.out)
             clear HO_4; clear BK477; clear BK481; clear BK485; clear BK493; clear BK497; clear BK501; clear HB; have HO_4 := n0_; have BK477 := n1_; have BK481 := n2_; have BK485 := n3_; have BK493 := n4_; have BK497 := n5_; have BK501 := n6_; have HB := n7_; clear n0_ n1_ n2_ n3_ n4_ n5_ n6_ n7_
             refine start_ (n := 12) (S := fun w' => w'.cell? ⟨gb485, 0, none⟩ = some (.int .i64 t482) ∧ w'.cell? ⟨gb485, 1, none⟩ = some (.int .i64 t483) ∧ w'.cell? ⟨gb477, 0, none⟩ = some (.int .i64 t471) ∧ w'.cell? ⟨gb477, 1, none⟩ = some (.int .i64 t472)) (ds := []) #[false, false, false, false, false, false, false, false, false, false, false, false] (by kernel_rfl) rfl rfl ⟨(blk_cell BK485.out 0).trans rfl, (blk_cell BK485.out 1).trans rfl, (blk_cell BK477.out 0).trans rfl, (blk_cell BK477.out 1).trans rfl⟩ (fun hHeld => ?_); refine with_tabW laws_FnAffine.tab16 laws_FnAffine.bits16 (fun HT_ HW_ => ?_)
             generalize w174.drew = w175 at HO_4 BK477 BK481 BK485 BK493 BK497 BK501 HB hHeld ⊢
             refine pure_ (i := 1) (N := some 166) (v := ?_) (a' := ?_) #[false, true, false, false, false, false, false, false, false, false, false, false] rfl rfl (any_of HT_.out (by kernel_rfl)) (fun _ _ _ h => h) (Or.inl ⟨by rfl, ?_⟩) ?_ ?_; rotate_left
             ·intro w'; go_simp; with_reducible rfl
             rotate_left
             ·simp only [Act.put, M.sT_, M.s0_, M.s1_, i64_w, i32_w]; rfl
             refine pure_ (i := 4) (N := some 169) (v := ?_) (a' := ?_) #[false, true, false, false, true, false, false, false, false, false, false, false] rfl rfl (any_of HT_.out (by kernel_rfl)) (fun _ _ _ h => h) (Or.inl ⟨by rfl, ?_⟩) ?_ ?_; rotate_left
             ·intro w'; go_simp; with_reducible rfl
             rotate_left
             ·simp only [Act.put, M.sT_, M.s0_, M.s1_, i64_w, i32_w]; rfl
             refine pure_ (i := 6) (N := some 171) (v := ?_) (a' := ?_) #[false, true, false, false, true, false, true, false, false, false, false, false] rfl rfl (any_of HT_.out (by kernel_rfl)) (fun _ _ _ h => h) (Or.inl ⟨by rfl, ?_⟩) ?_ ?_; rotate_left
             ·intro w'; go_simp; with_reducible rfl
             rotate_left
             ·simp only [Act.put, M.sT_, M.s0_, M.s1_, i64_w, i32_w]; rfl
             refine pure_ (i := 7) (N := some 172) (v := ?_) (a' := ?_) #[false, true, false, false, true, false, true, true, false, false, false, false] rfl rfl (any_of HT_.out (by kernel_rfl)) (fun _ _ _ h => h) (Or.inl ⟨by rfl, ?_⟩) ?_ ?_; rotate_left
             ·intro w'; go_simp; with_reducible rfl
             rotate_left
             ·simp only [Act.put, M.sT_, M.s0_, M.s1_, i64_w, i32_w]; rfl
             refine pure_ (i := 8) (N := some 173) (v := ?_) (a' := ?_) #[false, true, false, false, true, false, true, true, true, false, false, false] rfl rfl (any_of HT_.out (by kernel_rfl)) (fun _ _ _ h => h) (Or.inl ⟨by rfl, ?_⟩) ?_ ?_; rotate_left
             ·intro w'; go_simp; with_reducible rfl
             rotate_left
             ·simp only [Act.put, M.sT_, M.s0_, M.s1_, i64_w, i32_w]; rfl
             refine take_ (i := 0) (N := some 165) (v := ?_) (a' := ?_) #[true, true, false, false, true, false, true, true, true, false, false, false] rfl rfl (take_ofW HT_.out HW_.out (by kernel_rfl)) (fun _ _ _ h => h) (Or.inl ⟨by rfl, ?_⟩) hHeld ?_ ?_
             rotate_left
             ·rintro w' ⟨s0, s1, s2, s3⟩
              go_simp; with_reducible rfl
             rotate_left
             ·simp only [Act.put, M.sT_, M.s0_, M.s1_, i64_w, i32_w]; rfl
             refine take_ (i := 3) (N := some 168) (v := ?_) (a' := ?_) #[true, true, false, true, true, false, true, true, true, false, false, false] rfl rfl (take_ofW HT_.out HW_.out (by kernel_rfl)) (fun _ _ _ h => h) (Or.inl ⟨by rfl, ?_⟩) hHeld ?_ ?_
             rotate_left
             ·rintro w' ⟨s0, s1, s2, s3⟩
              go_simp; with_reducible rfl
             rotate_left
             ·simp only [Act.put, M.sT_, M.s0_, M.s1_, i64_w, i32_w]; rfl
             refine take_ (i := 5) (N := some 170) (v := ?_) (a' := ?_) #[true, true, false, true, true, true, true, true, true, false, false, false] rfl rfl (take_ofW HT_.out HW_.out (by kernel_rfl)) (fun _ _ _ h => h) (Or.inl ⟨by rfl, ?_⟩) hHeld ?_ ?_
             rotate_left
             ·rintro w' ⟨s0, s1, s2, s3⟩
              go_simp; with_reducible rfl
             rotate_left
             ·simp only [Act.put, M.sT_, M.s0_, M.s1_, i64_w, i32_w]; rfl
             refine one_ (i := 2) (N := some 167) #[true, true, true, true, true, true, true, true, true, false, false, false] rfl rfl (one_of HT_.out (by kernel_rfl)) (by decide) (fun K hK => ?_)
             refine goes_ Try.func17 (by kernel_rfl) rfl #[.agg #[.int .i64 t482, .int .i64 t483], .int .i64 (Int.tmod t519 (ji168))] (by rfl) rfl rfl (by (try simp only [List.map_toArray, List.map_cons, List.map_nil]); first | done | (simp only [hji168]; rfl) | rfl | (simp only [List.length_drop, List.length_take]; rfl)) ?_
             with_reducible refine (impl_ValueAt.calls t482 t483 (Int.tmod t519 (ji168)) t520 _ A170.out).mono ?_
             rintro e w176 ⟨rfl, hb⟩
             refine ⟨_, rfl, ?_⟩
             have n0_ := M.A_ (Kd.R_below (M.Lr HO_4) hb)
             have n1_ := M.A_ (blk_below (M.Lb BK477) hb)
             have n2_ := M.A_ (blk_below (M.Lb BK481) hb)
             have n3_ := M.A_ (blk_below (M.Lb BK485) hb)
             have n4_ := M.A_ (blk_below (M.Lb BK493) hb)
             have n5_ := M.A_ (blk_below (M.Lb BK497) hb)
             have n6_ := M.A_ (blk_below (M.Lb BK501) hb)
             have n7_ := M.A_ (below_step (M.Lw HB) hb)
             clear HO_4; clear BK477; clear BK481; clear BK485; clear BK493; clear BK497; clear BK501; clear HB; have HO_4 := n0_; have BK477 := n1_; have BK481 := n2_; have BK485 := n3_; have BK493 := n4_; have BK497 := n5_; have BK501 := n6_; have HB := n7_; clear n0_ n1_ n2_ n3_ n4_ n5_ n6_ n7_; (try clear hb); (try clear hb2); (try clear hk); (try clear hi)
             refine hK.out _ _ ⟨(blk_cell BK485.out 0).trans rfl, (blk_cell BK485.out 1).trans rfl, (blk_cell BK477.out 0).trans rfl, (blk_cell BK477.out 1).trans rfl⟩ (fun hHeld => ?_)
             clear hK K
             refine norm_ (a' := ?_) ?_ ?_
             rotate_left
             ·show Act.put _ (some 167) _ = _
              simp only [Act.put, M.sT_, M.s0_, M.s1_, i64_w, i32_w]; rfl
             refine one_ (i := 9) (N := some 174) #[true, true, true, true, true, true, true, true, true, true, false, false] rfl rfl (one_of HT_.out (by kernel_rfl)) (by decide) (fun K hK => ?_)
             refine goes_ Try.func18 (by kernel_rfl) rfl #[.int .i64 t471, .slice Ao11 t473.length co11, .int .i64 t476, .int .i64 (Int.tmod t519 (ji168))] (by rfl) rfl rfl (by (try simp only [List.map_toArray, List.map_cons, List.map_nil]); first | done | (simp only [hji168]; rfl) | rfl | (simp only [List.length_drop, List.length_take]; rfl)) ?_
             with_reducible refine (impl_MapInput.calls kj39 t471 _ _ t473 t476 (Int.tmod t519 (ji168)) t521 _ ?side1 ?side2 A171.out).mono ?_
             (case side1 => exact M.Lc (Kd.R_reads' HO_4.out).2.2)
             (case side2 => exact (Kd.R_reads' HO_4.out).2.1)
             rintro e w177 ⟨rfl, hb⟩
             refine ⟨_, rfl, ?_⟩
             have n0_ := M.A_ (Kd.R_below (M.Lr HO_4) hb)
             have n1_ := M.A_ (blk_below (M.Lb BK477) hb)
             have n2_ := M.A_ (blk_below (M.Lb BK481) hb)
             have n3_ := M.A_ (blk_below (M.Lb BK485) hb)
             have n4_ := M.A_ (blk_below (M.Lb BK493) hb)
             have n5_ := M.A_ (blk_below (M.Lb BK497) hb)
             have n6_ := M.A_ (blk_below (M.Lb BK501) hb)
             have n7_ := M.A_ (below_step (M.Lw HB) hb)
             clear HO_4; clear BK477; clear BK481; clear BK485; clear BK493; clear BK497; clear BK501; clear HB; have HO_4 := n0_; have BK477 := n1_; have BK481 := n2_; have BK485 := n3_; have BK493 := n4_; have BK497 := n5_; have BK501 := n6_; have HB := n7_; clear n0_ n1_ n2_ n3_ n4_ n5_ n6_ n7_; (try clear hb); (try clear hb2); (try clear hk); (try clear hi)
             refine hK.out _ _ ⟨(blk_cell BK485.out 0).trans rfl, (blk_cell BK485.out 1).trans rfl, (blk_cell BK477.out 0).trans rfl, (blk_cell BK477.out 1).trans rfl⟩ (fun hHeld => ?_)
             clear hK K
             refine norm_ (a' := ?_) ?_ ?_
             rotate_left
             ·show Act.put _ (some 174) _ = _
              simp only [Act.put, M.sT_, M.s0_, M.s1_, i64_w, i32_w]; rfl
             refine one_ (i := 10) (N := some 175) #[true, true, true, true, true, true, true, true, true, true, true, false] rfl rfl (one_of HT_.out (by kernel_rfl)) (by decide) (fun K hK => ?_)
             refine goes_ Try.func17 (by kernel_rfl) rfl #[.agg #[.int .i64 t471, .int .i64 t472], .int .i64 t521] (by rfl) rfl rfl (by first | rfl | (simp only [M.mt, M.mc, M.mn, M.ld, M.lt]; rfl)) ?_
             with_reducible refine (impl_ValueAt.calls t471 t472 t521 t522 _ A172.out).mono ?_
             rintro e w178 ⟨rfl, hb⟩
             refine ⟨_, rfl, ?_⟩
             have n0_ := M.A_ (Kd.R_below (M.Lr HO_4) hb)
             have n1_ := M.A_ (blk_below (M.Lb BK477) hb)
             have n2_ := M.A_ (blk_below (M.Lb BK481) hb)
             have n3_ := M.A_ (blk_below (M.Lb BK485) hb)
             have n4_ := M.A_ (blk_below (M.Lb BK493) hb)
             have n5_ := M.A_ (blk_below (M.Lb BK497) hb)
             have n6_ := M.A_ (blk_below (M.Lb BK501) hb)
             have n7_ := M.A_ (below_step (M.Lw HB) hb)
             clear HO_4; clear BK477; clear BK481; clear BK485; clear BK493; clear BK497; clear BK501; clear HB; have HO_4 := n0_; have BK477 := n1_; have BK481 := n2_; have BK485 := n3_; have BK493 := n4_; have BK497 := n5_; have BK501 := n6_; have HB := n7_; clear n0_ n1_ n2_ n3_ n4_ n5_ n6_ n7_; (try clear hb); (try clear hb2); (try clear hk); (try clear hi)
             refine hK.out _ _ ⟨(blk_cell BK485.out 0).trans rfl, (blk_cell BK485.out 1).trans rfl, (blk_cell BK477.out 0).trans rfl, (blk_cell BK477.out 1).trans rfl⟩ (fun hHeld => ?_)
             clear hK K
             refine norm_ (a' := ?_) ?_ ?_
             rotate_left
             ·show Act.put _ (some 175) _ = _
              simp only [Act.put, M.sT_, M.s0_, M.s1_, i64_w, i32_w]; rfl
             refine pure_ (i := 11) (N := some 176) (v := ?_) (a' := ?_) #[true, true, true, true, true, true, true, true, true, true, true, true] rfl rfl (any_of HT_.out (by kernel_rfl)) (fun _ _ _ h => h) (Or.inl ⟨by rfl, ?_⟩) ?_ ?_; rotate_left
             ·intro w'; go_simp; with_reducible rfl
             rotate_left
             ·simp only [Act.put, M.sT_, M.s0_, M.s1_, i64_w, i32_w]; rfl
             refine done_ (done_of HT_.out (by kernel_rfl)) ?_
             try go_wp2
             go_meet
             case rel => exact ⟨_, H', ⟨by have := HJ6.out; have := HJ39.out; first | omega | exact Nat.le_refl _⟩, ⟨M.Lb BK477⟩, ⟨M.Lb BK481⟩, ⟨M.Lb BK485⟩, ⟨M.Lw HB⟩⟩
            ·rw [if_neg c173] at H
             have c173b0 : (t520 == t522) = false := beq_eq_false_iff_ne.mpr c173
             have c173b1 : (t520 != t522) = true := bne_iff_ne.mpr c173
             exact absurd (Option.some.inj H) (by rw [HRT.out]; decide)
          ·rw [if_neg c167] at H
           exact absurd H (by simp)
      ·replace c35 := Bool.eq_false_iff.mpr c35
       subst c35
       rw [if_neg (show ¬ (false = true) by decide)] at H
       (try dsimp only at H)
       have H' := M.A_ H
       clear H
       go_wp2
       go_meet
       case rel => exact ⟨_, H', ⟨by have := HJ6.out; first | omega | exact Nat.le_refl _⟩, ⟨M.Lb BK477⟩, ⟨M.Lb BK481⟩, ⟨M.Lb BK485⟩, ⟨M.Lw HB⟩⟩
     case rest =>
      as_aux_lemma =>
      clear HC34; (try clear c1); (try clear p2); (try clear c3); (try clear c16); (try clear c17); (try clear c18); (try clear c35); (try clear c167); (try clear c173); (try clear c173b0); (try clear c173b1); obtain ⟨kq, HA, HJ33, BK477, BK481, BK485, HB⟩ := hcut
      cases kq with
      | zero => exact absurd HA.out (by simp [laws_FnAffine.j2])
      | succ kj33 =>
       have H := HA.out
       clear HA
       simp only [laws_FnAffine.j2] at H
       obtain ⟨⟨t523, t524, t525⟩, A184, H⟩ := M.ob_ H; (try dsimp only at H); obtain ⟨⟨t530, t531⟩, A185, H⟩ := M.ob_ H; (try dsimp only at H); obtain ⟨⟨t534, t535⟩, A186, H⟩ := M.ob_ H; (try dsimp only at H); have HC187 := M.A_ H; clear H
       go_upto_region 21 with (first | ((with_reducible refine gate_callee (f := 19) rfl ?_); refine goesL_ (some 179) rfl rfl Try.func19 (by kernel_rfl) rfl #[.slice A0 l0.length c0] rfl (by first | rfl | (simp only [M.mt, M.mc, M.mn, M.ld, M.lt]; rfl)) ?_; (with_reducible refine (spec_DrawComposeMaps.calls kj33 _ _ l0 t523 t524 t525 _ ?side1 ?side2 A184.out).mono ?_); (case side1 => exact M.Lc (Kd.C_below HR0.out HB.out)); (case side2 => exact HC0.out); rintro e w188 ⟨v526, v528, rfl, ho0, ho1, hb⟩; refine ⟨_, rfl, ?_⟩; have n0_ := M.A_ (Kd.R_lower ho0 (below_size (M.Lw HB))); have n1_ := M.A_ (Kd.R_lower ho1 (below_size (M.Lw HB))); have n2_ := M.A_ (blk_below (M.Lb BK477) hb); have n3_ := M.A_ (blk_below (M.Lb BK481) hb); have n4_ := M.A_ (blk_below (M.Lb BK485) hb); have n5_ := M.A_ (below_step (M.Lw HB) hb); clear BK477; clear BK481; clear BK485; clear HB; have HO527 := n0_; have HO529 := n1_; have BK477 := n2_; have BK481 := n3_; have BK485 := n4_; have HB := n5_; clear n0_ n1_ n2_ n3_ n4_ n5_; (try clear hb); (try clear hb2); (try clear hk); (try clear hi); (try clear ho0); (try clear ho1); obtain ⟨Ao189, co189, eo189⟩ := Kd.R_slice HO527.out; subst eo189; obtain ⟨Ao190, co190, eo190⟩ := Kd.R_slice HO529.out; subst eo190) | ((with_reducible refine gate_callee (f := 20) rfl ?_); refine goesL_ (some 187) rfl rfl Try.func20 (by kernel_rfl) rfl #[.int .i64 t523, .slice Ao189 t524.length co189, .slice Ao190 t525.length co190] rfl (by first | rfl | (simp only [M.mt, M.mc, M.mn, M.ld, M.lt]; rfl)) ?_; (with_reducible refine (impl_ComposeMaps.calls kj33 t523 _ _ t524 _ _ t525 t530 t531 _ ?side1 ?side2 ?side3 ?side4 A185.out).mono ?_); (case side1 => exact M.Lc (Kd.R_reads' HO527.out).2.2); (case side2 => exact (Kd.R_reads' HO527.out).2.1); (case side3 => exact M.Lc (Kd.R_reads' HO529.out).2.2); (case side4 => exact (Kd.R_reads' HO529.out).2.1); rintro e w191 ⟨v532, rfl, ho0, hb⟩; refine ⟨_, rfl, ?_⟩; have n0_ := M.A_ (Kd.R_elder' (M.Lr HO527) (Kd.R_base ho0) hb); have n1_ := M.A_ (Kd.R_elder' (M.Lr HO529) (Kd.R_base ho0) hb); have n2_ := M.A_ (Kd.R_lower (Kd.R_new' (Kd.R_new' ho0 (Kd.R_lt (M.Lr HO527))) (Kd.R_lt (M.Lr HO529))) (below_size (M.Lw HB))); have n3_ := M.A_ (blk_below (M.Lb BK477) hb); have n4_ := M.A_ (blk_below (M.Lb BK481) hb); have n5_ := M.A_ (blk_below (M.Lb BK485) hb); have n6_ := M.A_ (below_step (M.Lw HB) hb); clear HO527; clear HO529; clear BK477; clear BK481; clear BK485; clear HB; have HO527 := n0_; have HO529 := n1_; have HO533 := n2_; have BK477 := n3_; have BK481 := n4_; have BK485 := n5_; have HB := n6_; clear n0_ n1_ n2_ n3_ n4_ n5_ n6_; (try clear hb); (try clear hb2); (try clear hk); (try clear hi); (try clear ho0)) | ((with_reducible refine gate_callee (f := 21) rfl ?_); refine goesL_ (some 194) rfl rfl Try.func21 (by kernel_rfl) rfl #[.int .i64 t523, .slice Ao189 t524.length co189, .slice Ao190 t525.length co190] rfl (by first | rfl | (simp only [M.mt, M.mc, M.mn, M.ld, M.lt]; rfl)) ?_; (with_reducible refine (spec_ComposeMaps.calls kj33 t523 _ _ t524 _ _ t525 t534 t535 _ ?side1 ?side2 ?side3 ?side4 A186.out).mono ?_); (case side1 => exact M.Lc (Kd.R_reads' HO527.out).2.2); (case side2 => exact (Kd.R_reads' HO527.out).2.1); (case side3 => exact M.Lc (Kd.R_reads' HO529.out).2.2); (case side4 => exact (Kd.R_reads' HO529.out).2.1); rintro e w192 ⟨v536, rfl, ho0, hb⟩; refine ⟨_, rfl, ?_⟩; have n0_ := M.A_ (Kd.R_elder' (M.Lr HO527) (Kd.R_base ho0) hb); have n1_ := M.A_ (Kd.R_elder' (M.Lr HO529) (Kd.R_base ho0) hb); have n2_ := M.A_ (Kd.R_elder' (M.Lr HO533) (Kd.R_base ho0) hb); have n3_ := M.A_ (Kd.R_lower (Kd.R_new' (Kd.R_new' (Kd.R_new' ho0 (Kd.R_lt (M.Lr HO527))) (Kd.R_lt (M.Lr HO529))) (Kd.R_lt (M.Lr HO533))) (below_size (M.Lw HB))); have n4_ := M.A_ (blk_below (M.Lb BK477) hb); have n5_ := M.A_ (blk_below (M.Lb BK481) hb); have n6_ := M.A_ (blk_below (M.Lb BK485) hb); have n7_ := M.A_ (below_step (M.Lw HB) hb); clear HO527; clear HO529; clear HO533; clear BK477; clear BK481; clear BK485; clear HB; have HO527 := n0_; have HO529 := n1_; have HO533 := n2_; have HO537 := n3_; have BK477 := n4_; have BK481 := n5_; have BK485 := n6_; have HB := n7_; clear n0_ n1_ n2_ n3_ n4_ n5_ n6_ n7_; (try clear hb); (try clear hb2); (try clear hk); (try clear hi); (try clear ho0)))
       (try simp only [Act.put, M.sT_, M.s0_, M.s1_])
       go_cut [205] (fun v205 wc => ∃ (kq : Nat) (x205_186 : Bool), v205 = .bool x205_186 ∧ Aside0 (laws_FnAffine.j3 kq l0 t523 t524 t525 t531 t534 x205_186 = some r) ∧ Aside0 (kq ≤ kj33) ∧ Aside0 (Kd.R (Kd.int .i64) 3 wc w.heap.size (fun k_ => some k_ ≠ ((.slice Ao190 t525.length co190) : Value).ownBlock ∧ some k_ ≠ (v536 : Value).ownBlock) (.slice Ao189 t524.length co189) t524) ∧ Aside0 (Kd.R (Kd.int .i64) 3 wc w.heap.size (fun k_ => some k_ ≠ ((.slice Ao189 t524.length co189) : Value).ownBlock ∧ some k_ ≠ (v536 : Value).ownBlock) (.slice Ao190 t525.length co190) t525) ∧ Aside0 (Kd.R (Kd.int .i64) 3 wc w.heap.size (fun k_ => some k_ ≠ ((.slice Ao189 t524.length co189) : Value).ownBlock ∧ some k_ ≠ ((.slice Ao190 t525.length co190) : Value).ownBlock) v536 t534) ∧ Aside0 (wc.heap[gb477]? = some (.cells #[.int .i64 t471, .int .i64 t472] 25 (0, 0))) ∧ Aside0 (wc.heap[gb481]? = some (.cells #[.int .i64 t478, .int .i64 t479] 25 (0, 0))) ∧ Aside0 (wc.heap[gb485]? = some (.cells #[.int .i64 t482, .int .i64 t483] 25 (0, 0))) ∧ Aside0 (Below w.heap.size w wc))
       case first =>
        as_aux_lemma =>
        have H := HC187.out
        clear HC187
        by_cases c193 : (t531 != t535) = true
        ·rw [if_pos c193] at H
         have c193b0 : (t531 != t535) = true := c193
         (try (have c193b1 : decide (t531 = t535) = false := by simpa using c193))
         (try (have c193b2 : (t531 == t535) = false := by simpa using c193))
         (try (have c193b3 : ¬ (t531 = t535) := by simpa using c193))
         clear c193
         (first | rw [c193b0] | rw [c193b1] | (simp only [i64_w, i32_w]; rw [c193b0]) | skip)
         first | exact (laws_FnAffine.j0_dead H HRT.out).elim | exact (laws_FnAffine.j3_dead H HRT.out).elim | exact (laws_FnAffine.j1_dead H HRT.out).elim
        ·rw [if_neg c193] at H
         have c193b0 : (t531 != t535) = false := by simpa using c193
         (try (have c193b1 : decide (t531 = t535) = true := by simpa using c193))
         (try (have c193b2 : (t531 == t535) = true := by simpa using c193))
         clear c193
         (first | rw [c193b0] | rw [c193b1] | (simp only [i64_w, i32_w]; rw [c193b0]) | skip)
         replace H := Option.bind_eq_some_iff.mp H; obtain ⟨t538, A1940, H⟩ := H
         replace H : (laws_FnAffine.j3 kj33 l0 t523 t524 t525 t531 t534 (!t538)) = some r := H
         have A194 := M.A_ A1940; clear A1940
         have H' := M.A_ H
         clear H
         obtain ⟨Ao195, co195, eo195⟩ := Kd.R_slice HO533.out
         subst eo195
         obtain ⟨Ao196, co196, eo196⟩ := Kd.R_slice HO537.out
         subst eo196
         go_wp2_with (first | (go_at_call 11; (with_reducible refine (laws_sameInts.calls kj33 _ _ t530 _ _ t534 t538 _ ?side1 ?side2 ?side3 ?side4 A194.out).mono ?_); (case side1 => exact M.Lc (Kd.R_reads' HO533.out).2.2); (case side2 => exact (Kd.R_reads' HO533.out).2.1); (case side3 => exact M.Lc (Kd.R_reads' HO537.out).2.2); (case side4 => exact (Kd.R_reads' HO537.out).2.1); rintro e w' ⟨rfl, ⟨nd, rfl⟩⟩))
         go_meet
         case rel => exact ⟨_, (!t538), (by first | rfl | (simp; done) | (simp [*]; done)), H', ⟨by have := HJ6.out; have := HJ33.out; first | omega | exact Nat.le_refl _⟩, ⟨by (with_reducible repeat (first | apply Kd.R_alloc | apply Kd.R_drewN | apply Kd.R_drew)); exact Kd.R_mono HO527.out (fun _ hk => ⟨hk.1.1, hk.2⟩)⟩, ⟨by (with_reducible repeat (first | apply Kd.R_alloc | apply Kd.R_drewN | apply Kd.R_drew)); exact Kd.R_mono HO529.out (fun _ hk => ⟨hk.1.1, hk.2⟩)⟩, ⟨by (with_reducible repeat (first | apply Kd.R_alloc | apply Kd.R_drewN | apply Kd.R_drew)); exact Kd.R_mono HO537.out (fun _ hk => ⟨hk.1.1.2, hk.1.2⟩)⟩, ⟨M.Lb BK477⟩, ⟨M.Lb BK481⟩, ⟨M.Lb BK485⟩, ⟨M.Lw HB⟩⟩
       case rest =>
        as_aux_lemma =>
        clear HC187; (try clear c1); (try clear c2); (try clear p2); (try clear c3); (try clear c16); (try clear c17); (try clear c18); (try clear c19); (try clear c20); (try clear c21); (try clear c35); (try clear c167); (try clear c173); (try clear c173b0); (try clear c173b1); (try clear c193); (try clear c193b0); (try clear c193b1); (try clear c193b2); (try clear p2); obtain ⟨kq, x205_186, rfl, HA, HJ186, HO_20, HO_21, HO_24, BK477, BK481, BK485, HB⟩ := hcut
        cases kq with
        | zero => exact absurd HA.out (by simp [laws_FnAffine.j3])
        | succ kj186 =>
         have H := HA.out
         clear HA
         simp only [laws_FnAffine.j3] at H
         by_cases c197 : x205_186 = true
         ·subst c197
          rw [if_pos rfl] at H
          (try dsimp only at H)
          exact absurd (Option.some.inj H) (by rw [HRT.out]; decide)
         ·replace c197 := Bool.eq_false_iff.mpr c197
          subst c197
          rw [if_neg (show ¬ (false = true) by decide)] at H
          (try dsimp only at H); have HC198 := M.A_ H; clear H
          go_upto_if 206 with (fail)
          go_cut [] (fun wc => ∃ (kq : Nat), Aside0 (laws_FnAffine.j4 kq l0 = some r) ∧ Aside0 (kq ≤ kj186) ∧ Aside0 (wc.heap[gb477]? = some (.cells #[.int .i64 t471, .int .i64 t472] 25 (0, 0))) ∧ Aside0 (wc.heap[gb481]? = some (.cells #[.int .i64 t478, .int .i64 t479] 25 (0, 0))) ∧ Aside0 (wc.heap[gb485]? = some (.cells #[.int .i64 t482, .int .i64 t483] 25 (0, 0))) ∧ Aside0 (Below w.heap.size w wc))
          case first =>
           as_aux_lemma =>
           have H := HC198.out
           clear HC198
           by_cases c199 : t531 = true
           ·subst c199
            rw [if_pos rfl] at H
            (try dsimp only at H); obtain ⟨t539, A200, H⟩ := M.ob_ H; (try dsimp only at H)
            by_cases c201 : 0 ≤ t523
            ·rw [if_pos c201] at H
             have c201b0 := eq_true c201
             have c201b1 : decide (0 ≤ t523) = true := decide_eq_true c201
             clear c201
             obtain ⟨ji202, hji202⟩ : ∃ j_ : Int, (shl .i64 1 t523) = j_ := ⟨_, rfl⟩
             replace H : (if (ji202) = 0 then (none) else ((impl_IsInvertible.f t523 t534).bind fun t540 => (if t540 = true then ((impl_MapInput.f kj186 t523 t534 0 (Int.tmod t539 (ji202))).bind fun t541 => ((impl_MapInput.f kj186 t523 t525 0 (Int.tmod t539 (ji202))).bind fun t542 => ((impl_MapInput.f kj186 t523 t524 0 t542).bind fun t543 => (if t541 = t543 then (laws_FnAffine.j4 kj186 l0) else (some false))))) else (some false)))) = some r := by first | (rw [hji202] at H; exact H) | (simp only [hji202] at H ⊢; exact H)
             (try rw [hji202] at A200)
             have hji202_ : (IntKind.i64.wrap (1 * 2 ^ min t523.toNat 64)) = ji202 := hji202
             have hji202z : t523 ≤ 64 → (IntKind.i64.wrap (1 * 2 ^ t523.toNat)) = ji202 := shl_small hji202
             have hji202u : (IntKind.i64.wrap (2 ^ min t523.toNat 64)) = ji202 := by have h_ := hji202_; rw [Int.one_mul] at h_; exact h_
             have hji202v : t523 ≤ 64 → (IntKind.i64.wrap (2 ^ t523.toNat)) = ji202 := fun hle_ => by have h_ := hji202z hle_; rw [Int.one_mul] at h_; exact h_
             have hji202y : (wrap64 (1 * 2 ^ min t523.toNat 64)) = ji202 := (i64_w _).symm.trans hji202_
             have hji202x : t523 ≤ 64 → (wrap64 (1 * 2 ^ t523.toNat)) = ji202 := fun h_ => (i64_w _).symm.trans (hji202z h_)
             by_cases c203 : (ji202) = 0
             ·rw [if_pos c203] at H
              exact absurd H (by simp)
             ·rw [if_neg c203] at H
              have c203b0 : ((ji202) == 0) = false := beq_eq_false_iff_ne.mpr c203
              have c203b1 : ((ji202) != 0) = true := bne_iff_ne.mpr c203
              (first | rw [c203b0] | (simp only [i64_w, i32_w]; rw [c203b0]) | skip)
              obtain ⟨t540, A204, H⟩ := M.ob_ H; (try dsimp only at H)
              by_cases c205 : t540 = true
              ·subst c205
               rw [if_pos rfl] at H
               (try dsimp only at H); obtain ⟨t541, A206, H⟩ := M.ob_ H; (try dsimp only at H); obtain ⟨t542, A207, H⟩ := M.ob_ H; (try dsimp only at H); replace H := Option.bind_eq_some_iff.mp H; obtain ⟨t543, A2080, H⟩ := H
               replace H : (if t541 = t543 then (laws_FnAffine.j4 kj186 l0) else (some false)) = some r := H
               have A208 := M.A_ A2080; clear A2080
               by_cases c209 : t541 = t543
               ·rw [if_pos c209] at H
                have c209b0 : (t541 == t543) = true := beq_iff_eq.mpr c209
                have c209b1 : (t541 != t543) = false := bne_eq_false_iff_eq.mpr c209
                clear c209
                have H' := M.A_ H
                clear H
                try go_wp2
                have n0_ := M.A_ (Kd.R_drew HO_20.out)
                have n1_ := M.A_ (Kd.R_drew HO_21.out)
                have n2_ := M.A_ (Kd.R_drew HO_24.out)
                have n3_ := M.A_ (blk_drew BK477.out)
                have n4_ := M.A_ (blk_drew BK481.out)
                have n5_ := M.A_ (blk_drew BK485.out)
                have n6_ := M.A_ (below_drew1 HB.out)
                clear HO_20; clear HO_21; clear HO_24; clear BK477; clear BK481; clear BK485; clear HB; have HO_20 := n0_; have HO_21 := n1_; have HO_24 := n2_; have BK477 := n3_; have BK481 := n4_; have BK485 := n5_; have HB := n6_; clear n0_ n1_ n2_ n3_ n4_ n5_ n6_
                refine start_ (n := 6) (S := fun w' => True) (ds := []) #[false, false, false, false, false, false] (by kernel_rfl) rfl rfl trivial (fun hHeld => ?_)
                generalize wc.drew = w210 at HO_20 HO_21 HO_24 BK477 BK481 BK485 HB hHeld ⊢
                refine pure_ (i := 0) (N := some 207) (v := ?_) (a' := ?_) #[true, false, false, false, false, false] rfl rfl (by kernel_rfl) (fun _ _ _ h => h) (Or.inl ⟨by rfl, ?_⟩) ?_ ?_; rotate_left
                ·intro w'; go_simp; with_reducible rfl
                rotate_left
                ·simp only [Act.put, M.sT_, M.s0_, M.s1_, i64_w, i32_w]; rfl
                refine pure_ (i := 2) (N := some 209) (v := ?_) (a' := ?_) #[true, false, true, false, false, false] rfl rfl (by kernel_rfl) (fun _ _ _ h => h) (Or.inl ⟨by rfl, ?_⟩) ?_ ?_; rotate_left
                ·intro w'; go_simp; with_reducible rfl
                rotate_left
                ·simp only [Act.put, M.sT_, M.s0_, M.s1_, i64_w, i32_w]; rfl
                refine pure_ (i := 3) (N := some 210) (v := ?_) (a' := ?_) #[true, false, true, true, false, false] rfl rfl (by kernel_rfl) (fun _ _ _ h => h) (Or.inl ⟨by rfl, ?_⟩) ?_ ?_; rotate_left
                ·intro w'; go_simp; with_reducible rfl
                rotate_left
                ·simp only [Act.put, M.sT_, M.s0_, M.s1_, i64_w, i32_w]; rfl
                refine one_ (i := 1) (N := some 208) #[true, true, true, true, false, false] rfl rfl (by kernel_rfl) (by decide) (fun K hK => ?_)
                refine goes_ Try.func16 (by kernel_rfl) rfl #[.slice A0 l0.length c0, .int .i64 4] (by rfl) rfl rfl (by first | rfl | (simp only [M.mt, M.mc, M.mn, M.ld, M.lt]; rfl)) ?_
                with_reducible refine (laws_at.calls _ _ l0 4 t539 _ ?side1 ?side2 A200.out).mono ?_
                (case side1 => exact M.Lc (Kd.C_below HR0.out HB.out))
                (case side2 => exact HC0.out)
                rintro e w' ⟨rfl, ⟨nd, rfl⟩⟩
                refine ⟨_, rfl, ?_⟩
                refine hK.out _ _ trivial (fun hHeld => ?_)
                clear hK K
                refine norm_ (a' := ?_) ?_ ?_
                rotate_left
                ·show Act.put _ (some 208) _ = _
                 simp only [Act.put, M.sT_, M.s0_, M.s1_, i64_w, i32_w]; rfl
                refine pure_ (i := 4) (N := some 211) (v := ?_) (a' := ?_) #[true, true, true, true, true, false] rfl rfl (by kernel_rfl) (fun _ _ _ h => h) (Or.inl ⟨by rfl, ?_⟩) ?_ ?_; rotate_left
                ·intro w'; go_simp; with_reducible rfl
                rotate_left
                ·simp only [Act.put, M.sT_, M.s0_, M.s1_, i64_w, i32_w]; rfl
                refine pure_ (i := 5) (N := some 26) (v := ?_) (a' := ?_) #[true, true, true, true, true, true] rfl rfl (by kernel_rfl) (fun _ _ _ h => h) (Or.inl ⟨by rfl, ?_⟩) ?_ ?_; rotate_left
                ·intro w'; go_simp; with_reducible rfl
                rotate_left
                ·simp only [Act.put, M.sT_, M.s0_, M.s1_, i64_w, i32_w]; rfl
                refine done_ (by kernel_rfl) ?_
                obtain ⟨Ao211, co211, eo211⟩ := Kd.R_slice HO_24.out
                subst eo211
                try go_wp2_with (first | ((with_reducible refine gate_callee (f := 22) rfl ?_); refine goesL_ (some 214) rfl rfl Try.func22 (by kernel_rfl) rfl #[.int .i64 t523, .slice Ao211 t534.length co211] rfl (by first | rfl | (simp only [M.mt, M.mc, M.mn, M.ld, M.lt]; rfl)) ?_; (with_reducible refine (impl_IsInvertible.calls t523 _ _ t534 true _ ?side1 ?side2 A204.out).mono ?_); (case side1 => exact M.Lc (Kd.R_reads' HO_24.out).2.2); (case side2 => exact (Kd.R_reads' HO_24.out).2.1); rintro e w212 ⟨rfl, hb⟩; refine ⟨_, rfl, ?_⟩; have n0_ := M.A_ (Kd.R_below (M.Lr HO_20) hb); have n1_ := M.A_ (Kd.R_below (M.Lr HO_21) hb); have n2_ := M.A_ (Kd.R_below (M.Lr HO_24) hb); have n3_ := M.A_ (blk_below (M.Lb BK477) hb); have n4_ := M.A_ (blk_below (M.Lb BK481) hb); have n5_ := M.A_ (blk_below (M.Lb BK485) hb); have n6_ := M.A_ (below_step (M.Lw HB) hb); clear HO_20; clear HO_21; clear HO_24; clear BK477; clear BK481; clear BK485; clear HB; have HO_20 := n0_; have HO_21 := n1_; have HO_24 := n2_; have BK477 := n3_; have BK481 := n4_; have BK485 := n5_; have HB := n6_; clear n0_ n1_ n2_ n3_ n4_ n5_ n6_; (try clear hb); (try clear hb2); (try clear hk); (try clear hi)) | (go_at_call 18; (with_reducible refine (impl_MapInput.calls kj186 t523 _ _ t534 0 (Int.tmod t539 (ji202)) t541 _ ?side1 ?side2 A206.out).mono ?_); (case side1 => exact M.Lc (Kd.R_reads' HO_24.out).2.2); (case side2 => exact (Kd.R_reads' HO_24.out).2.1); rintro e w213 ⟨rfl, hb⟩; have n0_ := M.A_ (Kd.R_below (M.Lr HO_20) hb); have n1_ := M.A_ (Kd.R_below (M.Lr HO_21) hb); have n2_ := M.A_ (Kd.R_below (M.Lr HO_24) hb); have n3_ := M.A_ (blk_below (M.Lb BK477) hb); have n4_ := M.A_ (blk_below (M.Lb BK481) hb); have n5_ := M.A_ (blk_below (M.Lb BK485) hb); have n6_ := M.A_ (below_step (M.Lw HB) hb); clear HO_20; clear HO_21; clear HO_24; clear BK477; clear BK481; clear BK485; clear HB; have HO_20 := n0_; have HO_21 := n1_; have HO_24 := n2_; have BK477 := n3_; have BK481 := n4_; have BK485 := n5_; have HB := n6_; clear n0_ n1_ n2_ n3_ n4_ n5_ n6_; (try clear hb); (try clear hb2); (try clear hk); (try clear hi)) | (go_at_call 18; (with_reducible refine (impl_MapInput.calls kj186 t523 _ _ t525 0 (Int.tmod t539 (ji202)) t542 _ ?side1 ?side2 A207.out).mono ?_); (case side1 => exact M.Lc (Kd.R_reads' HO_21.out).2.2); (case side2 => exact (Kd.R_reads' HO_21.out).2.1); rintro e w214 ⟨rfl, hb⟩; have n0_ := M.A_ (Kd.R_below (M.Lr HO_20) hb); have n1_ := M.A_ (Kd.R_below (M.Lr HO_21) hb); have n2_ := M.A_ (Kd.R_below (M.Lr HO_24) hb); have n3_ := M.A_ (blk_below (M.Lb BK477) hb); have n4_ := M.A_ (blk_below (M.Lb BK481) hb); have n5_ := M.A_ (blk_below (M.Lb BK485) hb); have n6_ := M.A_ (below_step (M.Lw HB) hb); clear HO_20; clear HO_21; clear HO_24; clear BK477; clear BK481; clear BK485; clear HB; have HO_20 := n0_; have HO_21 := n1_; have HO_24 := n2_; have BK477 := n3_; have BK481 := n4_; have BK485 := n5_; have HB := n6_; clear n0_ n1_ n2_ n3_ n4_ n5_ n6_; (try clear hb); (try clear hb2); (try clear hk); (try clear hi)) | (go_at_call 18; (with_reducible refine (impl_MapInput.calls kj186 t523 _ _ t524 0 t542 t543 _ ?side1 ?side2 A208.out).mono ?_); (case side1 => exact M.Lc (Kd.R_reads' HO_20.out).2.2); (case side2 => exact (Kd.R_reads' HO_20.out).2.1); rintro e w215 ⟨rfl, hb⟩; have n0_ := M.A_ (Kd.R_below (M.Lr HO_20) hb); have n1_ := M.A_ (Kd.R_below (M.Lr HO_21) hb); have n2_ := M.A_ (Kd.R_below (M.Lr HO_24) hb); have n3_ := M.A_ (blk_below (M.Lb BK477) hb); have n4_ := M.A_ (blk_below (M.Lb BK481) hb); have n5_ := M.A_ (blk_below (M.Lb BK485) hb); have n6_ := M.A_ (below_step (M.Lw HB) hb); clear HO_20; clear HO_21; clear HO_24; clear BK477; clear BK481; clear BK485; clear HB; have HO_20 := n0_; have HO_21 := n1_; have HO_24 := n2_; have BK477 := n3_; have BK481 := n4_; have BK485 := n5_; have HB := n6_; clear n0_ n1_ n2_ n3_ n4_ n5_ n6_; (try clear hb); (try clear hb2); (try clear hk); (try clear hi)))
                go_meet
                case rel => exact ⟨_, H', ⟨by have := HJ6.out; have := HJ33.out; have := HJ186.out; first | omega | exact Nat.le_refl _⟩, ⟨M.Lb BK477⟩, ⟨M.Lb BK481⟩, ⟨M.Lb BK485⟩, ⟨M.Lw HB⟩⟩
               ·rw [if_neg c209] at H
                have c209b0 : (t541 == t543) = false := beq_eq_false_iff_ne.mpr c209
                have c209b1 : (t541 != t543) = true := bne_iff_ne.mpr c209
                exact absurd (Option.some.inj H) (by rw [HRT.out]; decide)
              ·replace c205 := Bool.eq_false_iff.mpr c205
               subst c205
               rw [if_neg (show ¬ (false = true) by decide)] at H
               (try dsimp only at H)
               exact absurd (Option.some.inj H) (by rw [HRT.out]; decide)
            ·rw [if_neg c201] at H
             exact absurd H (by simp)
           ·replace c199 := Bool.eq_false_iff.mpr c199
            subst c199
            rw [if_neg (show ¬ (false = true) by decide)] at H
            (try dsimp only at H)
            have H' := M.A_ H
            clear H
            go_wp2
            go_meet
            case rel => exact ⟨_, H', ⟨by have := HJ6.out; have := HJ33.out; have := HJ186.out; first | omega | exact Nat.le_refl _⟩, ⟨M.Lb BK477⟩, ⟨M.Lb BK481⟩, ⟨M.Lb BK485⟩, ⟨M.Lw HB⟩⟩
          case rest =>
           as_aux_lemma =>
           clear HC198; (try clear c1); (try clear c2); (try clear p2); (try clear c3); (try clear p6); (try clear c16); (try clear c17); (try clear c18); (try clear c19); (try clear c20); (try clear c21); (try clear c22); (try clear c35); (try clear p64); (try clear c167); (try clear c173); (try clear c173b0); (try clear c173b1); (try clear c193); (try clear c193b0); (try clear c193b1); (try clear c193b2); (try clear c197); (try clear c199); (try clear c201); (try clear c201b0); (try clear c201b1); (try clear c203); (try clear c203b0); (try clear c203b1); (try clear c205); (try clear c209)
           (try clear c209b0); (try clear c209b1); (try clear p2); obtain ⟨kq, HA, HJ197, BK477, BK481, BK485, HB⟩ := hcut
           cases kq with
           | zero => exact absurd HA.out (by simp [laws_FnAffine.j4])
           | succ kj197 =>
            have H := HA.out
            clear HA
            simp only [laws_FnAffine.j4] at H
            obtain ⟨⟨t544, t545⟩, A225, H⟩ := M.ob_ H; (try dsimp only at H); obtain ⟨⟨t548, t549⟩, A226, H⟩ := M.ob_ H; (try dsimp only at H); obtain ⟨⟨t552, t553⟩, A227, H⟩ := M.ob_ H; (try dsimp only at H); replace H := Option.bind_eq_some_iff.mp H; obtain ⟨⟨t556, t557, t558, t559⟩, A2280, H⟩ := H; (try dsimp only at H); have A228 := M.A_ A2280
            clear A2280; obtain ⟨⟨t562, t563⟩, A229, H⟩ := M.ob_ H; (try dsimp only at H); obtain ⟨t566, A230, H⟩ := M.ob_ H; (try dsimp only at H); obtain ⟨⟨t567, t568⟩, A231, H⟩ := M.ob_ H; (try dsimp only at H); obtain ⟨t570, A232, H⟩ := M.ob_ H; (try dsimp only at H)
            by_cases c233 : t570 = true
            ·subst c233
             rw [if_pos rfl] at H
             (try dsimp only at H)
             by_cases c234 : (t549 == t553) = true
             ·rw [if_pos c234] at H
              have c234b0 : (t549 == t553) = true := c234
              (try (have c234b1 : decide (t549 = t553) = true := by simpa using c234))
              (try (have c234b2 : (t549 == t553) = true := by simpa using c234))
              clear c234; obtain ⟨t571, A235, H⟩ := M.ob_ H; (try dsimp only at H); obtain ⟨t572, A236, H⟩ := M.ob_ H; (try dsimp only at H)
              by_cases c237 : t571 = t572
              ·rw [if_pos c237] at H
               have c237b0 : (t571 == t572) = true := beq_iff_eq.mpr c237
               have c237b1 : (t571 != t572) = false := bne_eq_false_iff_eq.mpr c237
               clear c237; obtain ⟨t573, A238, H⟩ := M.ob_ H; (try dsimp only at H); obtain ⟨t574, A239, H⟩ := M.ob_ H; (try dsimp only at H)
               by_cases c240 : (t573 == t574) = true
               ·rw [if_pos c240] at H
                have c240b0 : (t573 == t574) = true := c240
                (try (have c240b1 : decide (t573 = t574) = true := by simpa using c240))
                (try (have c240b2 : (t573 == t574) = true := by simpa using c240))
                clear c240; obtain ⟨t575, A241, H⟩ := M.ob_ H; (try dsimp only at H); obtain ⟨t576, A242, H⟩ := M.ob_ H; (try dsimp only at H)
                by_cases c243 : t575 = t576
                ·rw [if_pos c243] at H
                 have c243b0 : (t575 == t576) = true := beq_iff_eq.mpr c243
                 have c243b1 : (t575 != t576) = false := bne_eq_false_iff_eq.mpr c243
                 clear c243; obtain ⟨t577, A244, H⟩ := M.ob_ H; (try dsimp only at H); replace H := Option.bind_eq_some_iff.mp H; obtain ⟨t580, A2450, H⟩ := H
                 replace H : ((laws_sameInts.f kj197 t577 t580).bind fun t583 => (some t583)) = some r := H
                 have A245 := M.A_ A2450; clear A2450; replace H := Option.bind_eq_some_iff.mp H; obtain ⟨t583, A2460, H⟩ := H
                 replace H : (some t583) = some r := H
                 have A246 := M.A_ A2460; clear A2460
                 obtain rfl := Option.some.inj H
                 try go_wp2_with (first | ((with_reducible refine gate_callee (f := 23) rfl ?_); refine goesL_ (some 232) rfl rfl Try.func23 (by kernel_rfl) rfl #[.slice A0 l0.length c0] rfl (by first | rfl | (simp only [M.mt, M.mc, M.mn, M.ld, M.lt]; rfl)) ?_; (with_reducible refine (spec_DrawInverseMap.calls kj197 _ _ l0 t544 t545 _ ?side1 ?side2 A225.out).mono ?_); (case side1 => exact M.Lc (Kd.C_below HR0.out HB.out)); (case side2 => exact HC0.out); rintro e w247 ⟨v546, rfl, ho0, hb⟩; refine ⟨_, rfl, ?_⟩; have n0_ := M.A_ (Kd.R_lower ho0 (below_size (M.Lw HB))); have n1_ := M.A_ (blk_below (M.Lb BK477) hb); have n2_ := M.A_ (blk_below (M.Lb BK481) hb); have n3_ := M.A_ (blk_below (M.Lb BK485) hb); have n4_ := M.A_ (below_step (M.Lw HB) hb); clear BK477; clear BK481; clear BK485; clear HB; have HO547 := n0_; have BK477 := n1_; have BK481 := n2_; have BK485 := n3_; have HB := n4_; clear n0_ n1_ n2_ n3_ n4_; (try clear hb); (try clear hb2); (try clear hk); (try clear hi); (try clear ho0); obtain ⟨Ao248, co248, eo248⟩ := Kd.R_slice HO547.out; subst eo248) | ((with_reducible refine gate_callee (f := 8) rfl ?_); refine goesL_ (some 238) rfl rfl Try.func8 (by kernel_rfl) rfl #[.int .i64 t544, .slice Ao248 t545.length co248] rfl (by first | rfl | (simp only [M.mt, M.mc, M.mn, M.ld, M.lt]; rfl)) ?_; (with_reducible refine (impl_InverseMap.calls kj197 t544 _ _ t545 t548 t549 _ ?side1 ?side2 A226.out).mono ?_); (case side1 => exact M.Lc (Kd.R_reads' HO547.out).2.2); (case side2 => exact (Kd.R_reads' HO547.out).2.1); rintro e w249 ⟨v550, rfl, ho0, hb⟩; refine ⟨_, rfl, ?_⟩; have n0_ := M.A_ (Kd.R_elder' (M.Lr HO547) (Kd.R_base ho0) hb); have n1_ := M.A_ (Kd.R_lower (Kd.R_new' ho0 (Kd.R_lt (M.Lr HO547))) (below_size (M.Lw HB))); have n2_ := M.A_ (blk_below (M.Lb BK477) hb); have n3_ := M.A_ (blk_below (M.Lb BK481) hb); have n4_ := M.A_ (blk_below (M.Lb BK485) hb); have n5_ := M.A_ (below_step (M.Lw HB) hb); clear HO547; clear BK477; clear BK481; clear BK485; clear HB; have HO547 := n0_; have HO551 := n1_; have BK477 := n2_; have BK481 := n3_; have BK485 := n4_; have HB := n5_; clear n0_ n1_ n2_ n3_ n4_ n5_; (try clear hb); (try clear hb2); (try clear hk); (try clear hi); (try clear ho0)) | ((with_reducible refine gate_callee (f := 24) rfl ?_); refine goesL_ (some 244) rfl rfl Try.func24 (by kernel_rfl) rfl #[.int .i64 t544, .slice Ao248 t545.length co248] rfl (by first | rfl | (simp only [M.mt, M.mc, M.mn, M.ld, M.lt]; rfl)) ?_; (with_reducible refine (spec_InverseMap.calls kj197 t544 _ _ t545 t552 t553 _ ?side1 ?side2 A227.out).mono ?_); (case side1 => exact M.Lc (Kd.R_reads' HO547.out).2.2); (case side2 => exact (Kd.R_reads' HO547.out).2.1); rintro e w250 ⟨v554, rfl, ho0, hb⟩; refine ⟨_, rfl, ?_⟩; have n0_ := M.A_ (Kd.R_elder' (M.Lr HO547) (Kd.R_base ho0) hb); have n1_ := M.A_ (Kd.R_elder' (M.Lr HO551) (Kd.R_base ho0) hb); have n2_ := M.A_ (Kd.R_lower (Kd.R_new' (Kd.R_new' ho0 (Kd.R_lt (M.Lr HO547))) (Kd.R_lt (M.Lr HO551))) (below_size (M.Lw HB))); have n3_ := M.A_ (blk_below (M.Lb BK477) hb); have n4_ := M.A_ (blk_below (M.Lb BK481) hb); have n5_ := M.A_ (blk_below (M.Lb BK485) hb); have n6_ := M.A_ (below_step (M.Lw HB) hb); clear HO547; clear HO551; clear BK477; clear BK481; clear BK485; clear HB; have HO547 := n0_; have HO551 := n1_; have HO555 := n2_; have BK477 := n3_; have BK481 := n4_; have BK485 := n5_; have HB := n6_; clear n0_ n1_ n2_ n3_ n4_ n5_ n6_; (try clear hb); (try clear hb2); (try clear hk); (try clear hi); (try clear ho0)) | ((with_reducible refine gate_callee (f := 25) rfl ?_); refine goesL_ (some 249) rfl rfl Try.func25 (by kernel_rfl) rfl #[.slice A0 l0.length c0] rfl (by first | rfl | (simp only [M.mt, M.mc, M.mn, M.ld, M.lt]; rfl)) ?_; (with_reducible refine (spec_DrawMapInput.calls kj197 _ _ l0 t556 t557 t558 t559 _ ?side1 ?side2 A228.out).mono ?_); (case side1 => exact M.Lc (Kd.C_below HR0.out HB.out)); (case side2 => exact HC0.out); rintro e w251 ⟨v560, rfl, ho0, hb⟩; refine ⟨_, rfl, ?_⟩; have n0_ := M.A_ (Kd.R_elder' (M.Lr HO547) (Kd.R_base ho0) hb); have n1_ := M.A_ (Kd.R_elder' (M.Lr HO551) (Kd.R_base ho0) hb); have n2_ := M.A_ (Kd.R_elder' (M.Lr HO555) (Kd.R_base ho0) hb); have n3_ := M.A_ (Kd.R_lower (Kd.R_new' (Kd.R_new' (Kd.R_new' ho0 (Kd.R_lt (M.Lr HO547))) (Kd.R_lt (M.Lr HO551))) (Kd.R_lt (M.Lr HO555))) (below_size (M.Lw HB))); have n4_ := M.A_ (blk_below (M.Lb BK477) hb); have n5_ := M.A_ (blk_below (M.Lb BK481) hb); have n6_ := M.A_ (blk_below (M.Lb BK485) hb); have n7_ := M.A_ (below_step (M.Lw HB) hb); clear HO547; clear HO551; clear HO555; clear BK477; clear BK481; clear BK485; clear HB; have HO547 := n0_; have HO551 := n1_; have HO555 := n2_; have HO561 := n3_; have BK477 := n4_; have BK481 := n5_; have BK485 := n6_; have HB := n7_; clear n0_ n1_ n2_ n3_ n4_ n5_ n6_ n7_; (try clear hb); (try clear hb2); (try clear hk); (try clear hi); (try clear ho0)) | ((with_reducible refine gate_callee (f := 26) rfl ?_); refine goesL_ (some 256) rfl rfl Try.func26 (by kernel_rfl) rfl #[.slice A0 l0.length c0] rfl (by first | rfl | (simp only [M.mt, M.mc, M.mn, M.ld, M.lt]; rfl)) ?_; (with_reducible refine (spec_DrawIsInvertible.calls kj197 _ _ l0 t562 t563 _ ?side1 ?side2 A229.out).mono ?_); (case side1 => exact M.Lc (Kd.C_below HR0.out HB.out)); (case side2 => exact HC0.out); rintro e w252 ⟨v564, rfl, ho0, hb⟩; refine ⟨_, rfl, ?_⟩; have n0_ := M.A_ (Kd.R_elder' (M.Lr HO547) (Kd.R_base ho0) hb); have n1_ := M.A_ (Kd.R_elder' (M.Lr HO551) (Kd.R_base ho0) hb); have n2_ := M.A_ (Kd.R_elder' (M.Lr HO555) (Kd.R_base ho0) hb); have n3_ := M.A_ (Kd.R_elder' (M.Lr HO561) (Kd.R_base ho0) hb); have n4_ := M.A_ (Kd.R_lower (Kd.R_new' (Kd.R_new' (Kd.R_new' (Kd.R_new' ho0 (Kd.R_lt (M.Lr HO547))) (Kd.R_lt (M.Lr HO551))) (Kd.R_lt (M.Lr HO555))) (Kd.R_lt (M.Lr HO561))) (below_size (M.Lw HB))); have n5_ := M.A_ (blk_below (M.Lb BK477) hb); have n6_ := M.A_ (blk_below (M.Lb BK481) hb); have n7_ := M.A_ (blk_below (M.Lb BK485) hb); have n8_ := M.A_ (below_step (M.Lw HB) hb); clear HO547; clear HO551; clear HO555; clear HO561; clear BK477; clear BK481; clear BK485; clear HB; have HO547 := n0_; have HO551 := n1_; have HO555 := n2_; have HO561 := n3_; have HO565 := n4_; have BK477 := n5_; have BK481 := n6_; have BK485 := n7_; have HB := n8_; clear n0_ n1_ n2_ n3_ n4_ n5_ n6_ n7_ n8_; (try clear hb); (try clear hb2); (try clear hk); (try clear hi); (try clear ho0)) | ((with_reducible refine gate_callee (f := 27) rfl ?_); refine goesL_ (some 260) rfl rfl Try.func27 (by kernel_rfl) rfl #[.slice A0 l0.length c0] rfl (by first | rfl | (simp only [M.mt, M.mc, M.mn, M.ld, M.lt]; rfl)) ?_; (with_reducible refine (spec_DrawCountInvertible.calls kj197 _ _ l0 t566 _ ?side1 ?side2 A230.out).mono ?_); (case side1 => exact M.Lc (Kd.C_below HR0.out HB.out)); (case side2 => exact HC0.out); rintro e w253 ⟨rfl, hb⟩; refine ⟨_, rfl, ?_⟩; have n0_ := M.A_ (Kd.R_below (M.Lr HO547) hb); have n1_ := M.A_ (Kd.R_below (M.Lr HO551) hb); have n2_ := M.A_ (Kd.R_below (M.Lr HO555) hb); have n3_ := M.A_ (Kd.R_below (M.Lr HO561) hb); have n4_ := M.A_ (Kd.R_below (M.Lr HO565) hb); have n5_ := M.A_ (blk_below (M.Lb BK477) hb); have n6_ := M.A_ (blk_below (M.Lb BK481) hb); have n7_ := M.A_ (blk_below (M.Lb BK485) hb); have n8_ := M.A_ (below_step (M.Lw HB) hb); clear HO547; clear HO551; clear HO555; clear HO561; clear HO565; clear BK477; clear BK481; clear BK485; clear HB; have HO547 := n0_; have HO551 := n1_; have HO555 := n2_; have HO561 := n3_; have HO565 := n4_; have BK477 := n5_; have BK481 := n6_; have BK485 := n7_; have HB := n8_; clear n0_ n1_ n2_ n3_ n4_ n5_ n6_ n7_ n8_; (try clear hb); (try clear hb2); (try clear hk); (try clear hi)) | ((with_reducible refine gate_callee (f := 28) rfl ?_); refine goesL_ (some 262) rfl rfl Try.func28 (by kernel_rfl) rfl #[.slice A0 l0.length c0] rfl (by first | rfl | (simp only [M.mt, M.mc, M.mn, M.ld, M.lt]; rfl)) ?_; (with_reducible refine (spec_DrawSpectrumProfile.calls kj197 _ _ l0 t567 t568 _ ?side1 ?side2 A231.out).mono ?_); (case side1 => exact M.Lc (Kd.C_below HR0.out HB.out)); (case side2 => exact HC0.out); rintro e w254 ⟨rfl, hb⟩; refine ⟨_, rfl, ?_⟩; have n0_ := M.A_ (Kd.R_below (M.Lr HO547) hb); have n1_ := M.A_ (Kd.R_below (M.Lr HO551) hb); have n2_ := M.A_ (Kd.R_below (M.Lr HO555) hb); have n3_ := M.A_ (Kd.R_below (M.Lr HO561) hb); have n4_ := M.A_ (Kd.R_below (M.Lr HO565) hb); have n5_ := M.A_ (blk_below (M.Lb BK477) hb); have n6_ := M.A_ (blk_below (M.Lb BK481) hb); have n7_ := M.A_ (blk_below (M.Lb BK485) hb); have n8_ := M.A_ (below_step (M.Lw HB) hb); clear HO547; clear HO551; clear HO555; clear HO561; clear HO565; clear BK477; clear BK481; clear BK485; clear HB; have HO547 := n0_; have HO551 := n1_; have HO555 := n2_; have HO561 := n3_; have HO565 := n4_; have BK477 := n5_; have BK481 := n6_; have BK485 := n7_; have HB := n8_; clear n0_ n1_ n2_ n3_ n4_ n5_ n6_ n7_ n8_; (try clear hb); (try clear hb2); (try clear hk); (try clear hi)) | ((with_reducible refine gate_dst (N := 40) rfl ?_); refine box_event ?hg (N := 40) ?hd (cs := #[.int .i64 0, .int .i64 0]) (t := 25) ?hr ?_; (case hd => rfl); (case hg => rfl); (case hr => first | (go_simp; done) | (go_simp; rfl)); intro gb569 hg w255 hbox hb; have n0_ := M.A_ (Kd.R_below (M.Lr HO547) hb); have n1_ := M.A_ (Kd.R_below (M.Lr HO551) hb); have n2_ := M.A_ (Kd.R_below (M.Lr HO555) hb); have n3_ := M.A_ (Kd.R_below (M.Lr HO561) hb); have n4_ := M.A_ (Kd.R_below (M.Lr HO565) hb); have n5_ := M.A_ (blk_below (M.Lb BK477) hb); have n6_ := M.A_ (blk_below (M.Lb BK481) hb); have n7_ := M.A_ (blk_below (M.Lb BK485) hb); have n8_ := M.A_ (below_step (M.Lw HB) hb); have n9_ := M.A_ (hbox); have n10_ := M.A_ ((by rw [hg]; exact (below_size (M.Lw HB)) : w.heap.size ≤ gb569)); have n11_ := M.A_ ((by rw [hg]; exact (below_size (M.Lw HB)) : w.heap.size ≤ gb569)); have n12_ := M.A_ ((by rw [hg]; exact Nat.ne_of_lt (blk_lt (M.Lb BK477)) : gb477 ≠ gb569)); have n13_ := M.A_ ((by rw [hg]; exact Nat.ne_of_gt (blk_lt (M.Lb BK477)) : gb569 ≠ gb477)); have n14_ := M.A_ ((by rw [hg]; exact Nat.ne_of_lt (blk_lt (M.Lb BK481)) : gb481 ≠ gb569)); have n15_ := M.A_ ((by rw [hg]; exact Nat.ne_of_gt (blk_lt (M.Lb BK481)) : gb569 ≠ gb481)); have n16_ := M.A_ ((by rw [hg]; exact Nat.ne_of_lt (blk_lt (M.Lb BK485)) : gb485 ≠ gb569)); have n17_ := M.A_ ((by rw [hg]; exact Nat.ne_of_gt (blk_lt (M.Lb BK485)) : gb569 ≠ gb485)); clear HO547; clear HO551; clear HO555; clear HO561; clear HO565; clear BK477; clear BK481; clear BK485; clear HB; have HO547 := n0_; have HO551 := n1_; have HO555 := n2_; have HO561 := n3_; have HO565 := n4_; have BK477 := n5_; have BK481 := n6_; have BK485 := n7_; have HB := n8_; have BK569 := n9_; have GW569 := n10_; have GE569 := n11_; have NB477_569 := n12_; have NB569_477 := n13_; have NB481_569 := n14_; have NB569_481 := n15_; have NB485_569 := n16_; have NB569_485 := n17_; clear n0_ n1_ n2_ n3_ n4_ n5_ n6_ n7_ n8_ n9_ n10_ n11_ n12_ n13_ n14_ n15_ n16_ n17_; clear hb hbox hg; have hnb256 := NB569_477.out; have hnc256 := NB477_569.out; have hnb257 := NB569_481.out; have hnc257 := NB481_569.out; have hnb258 := NB569_485.out; have hnc258 := NB485_569.out; have hcz259_0 : w255.cell? ⟨gb569, 0, none⟩ = some (.int .i64 0) := (blk_cell BK569.out 0).trans rfl; have hcz259_1 : w255.cell? ⟨gb569, 1, none⟩ = some (.int .i64 0) := (blk_cell BK569.out 1).trans rfl; have hfz259_0 := blk_frozen BK569.out 0; have hfz259_1 := blk_frozen BK569.out 1))
                 have n0_ : Aside0 (Kd.R (Kd.int .i64) 3 ((w255.setCell ⟨gb569, 0, none⟩ (.int .i64 t567)).setCell ⟨gb569, 1, none⟩ (.int .i64 t568)) w.heap.size (fun k_ => some k_ ≠ (v550 : Value).ownBlock ∧ some k_ ≠ (v554 : Value).ownBlock ∧ some k_ ≠ (v560 : Value).ownBlock ∧ some k_ ≠ (v564 : Value).ownBlock) (.slice Ao248 t545.length co248) t545) := ⟨by (with_reducible repeat (first | apply Kd.R_alloc | apply Kd.R_drewN | apply Kd.R_drew)); exact Kd.R_mono (Kd.R_far (p := ⟨gb569, 1, none⟩) (Kd.R_far (p := ⟨gb569, 0, none⟩) (Kd.R_types HO547.out BK569.out (by decide)) (fun _ hk => hk.2) (.int .i64 t567)) (fun _ hk => hk.2) (.int .i64 t568)) (fun _ hk => ⟨hk.1.1.1.1.2, ⟨hk.1.1.1.2, ⟨hk.1.1.2, hk.1.2⟩⟩⟩)⟩
                 have n1_ : Aside0 (Kd.R (Kd.int .i64) 3 ((w255.setCell ⟨gb569, 0, none⟩ (.int .i64 t567)).setCell ⟨gb569, 1, none⟩ (.int .i64 t568)) w.heap.size (fun k_ => some k_ ≠ (.slice Ao248 t545.length co248 : Value).ownBlock ∧ some k_ ≠ (v554 : Value).ownBlock ∧ some k_ ≠ (v560 : Value).ownBlock ∧ some k_ ≠ (v564 : Value).ownBlock) v550 t548) := ⟨by (with_reducible repeat (first | apply Kd.R_alloc | apply Kd.R_drewN | apply Kd.R_drew)); exact Kd.R_mono (Kd.R_far (p := ⟨gb569, 1, none⟩) (Kd.R_far (p := ⟨gb569, 0, none⟩) (Kd.R_types HO551.out BK569.out (by decide)) (fun _ hk => hk.2) (.int .i64 t567)) (fun _ hk => hk.2) (.int .i64 t568)) (fun _ hk => ⟨hk.1.1.1.1.2, ⟨hk.1.1.1.2, ⟨hk.1.1.2, hk.1.2⟩⟩⟩)⟩
                 have n2_ : Aside0 (Kd.R (Kd.int .i64) 3 ((w255.setCell ⟨gb569, 0, none⟩ (.int .i64 t567)).setCell ⟨gb569, 1, none⟩ (.int .i64 t568)) w.heap.size (fun k_ => some k_ ≠ (.slice Ao248 t545.length co248 : Value).ownBlock ∧ some k_ ≠ (v550 : Value).ownBlock ∧ some k_ ≠ (v560 : Value).ownBlock ∧ some k_ ≠ (v564 : Value).ownBlock) v554 t552) := ⟨by (with_reducible repeat (first | apply Kd.R_alloc | apply Kd.R_drewN | apply Kd.R_drew)); exact Kd.R_mono (Kd.R_far (p := ⟨gb569, 1, none⟩) (Kd.R_far (p := ⟨gb569, 0, none⟩) (Kd.R_types HO555.out BK569.out (by decide)) (fun _ hk => hk.2) (.int .i64 t567)) (fun _ hk => hk.2) (.int .i64 t568)) (fun _ hk => ⟨hk.1.1.1.1.2, ⟨hk.1.1.1.2, ⟨hk.1.1.2, hk.1.2⟩⟩⟩)⟩
                 have n3_ : Aside0 (Kd.R (Kd.int .i64) 3 ((w255.setCell ⟨gb569, 0, none⟩ (.int .i64 t567)).setCell ⟨gb569, 1, none⟩ (.int .i64 t568)) w.heap.size (fun k_ => some k_ ≠ (.slice Ao248 t545.length co248 : Value).ownBlock ∧ some k_ ≠ (v550 : Value).ownBlock ∧ some k_ ≠ (v554 : Value).ownBlock ∧ some k_ ≠ (v564 : Value).ownBlock) v560 t557) := ⟨by (with_reducible repeat (first | apply Kd.R_alloc | apply Kd.R_drewN | apply Kd.R_drew)); exact Kd.R_mono (Kd.R_far (p := ⟨gb569, 1, none⟩) (Kd.R_far (p := ⟨gb569, 0, none⟩) (Kd.R_types HO561.out BK569.out (by decide)) (fun _ hk => hk.2) (.int .i64 t567)) (fun _ hk => hk.2) (.int .i64 t568)) (fun _ hk => ⟨hk.1.1.1.1.2, ⟨hk.1.1.1.2, ⟨hk.1.1.2, hk.1.2⟩⟩⟩)⟩
                 have n4_ : Aside0 (Kd.R (Kd.int .i64) 3 ((w255.setCell ⟨gb569, 0, none⟩ (.int .i64 t567)).setCell ⟨gb569, 1, none⟩ (.int .i64 t568)) w.heap.size (fun k_ => some k_ ≠ (.slice Ao248 t545.length co248 : Value).ownBlock ∧ some k_ ≠ (v550 : Value).ownBlock ∧ some k_ ≠ (v554 : Value).ownBlock ∧ some k_ ≠ (v560 : Value).ownBlock) v564 t563) := ⟨by (with_reducible repeat (first | apply Kd.R_alloc | apply Kd.R_drewN | apply Kd.R_drew)); exact Kd.R_mono (Kd.R_far (p := ⟨gb569, 1, none⟩) (Kd.R_far (p := ⟨gb569, 0, none⟩) (Kd.R_types HO565.out BK569.out (by decide)) (fun _ hk => hk.2) (.int .i64 t567)) (fun _ hk => hk.2) (.int .i64 t568)) (fun _ hk => ⟨hk.1.1.1.1.2, ⟨hk.1.1.1.2, ⟨hk.1.1.2, hk.1.2⟩⟩⟩)⟩
                 have n5_ : Aside0 (((w255.setCell ⟨gb569, 0, none⟩ (.int .i64 t567)).setCell ⟨gb569, 1, none⟩ (.int .i64 t568)).heap[gb477]? = some (.cells #[.int .i64 t471, .int .i64 t472] 25 (0, 0))) := ⟨by (with_reducible repeat (first | refine blk_drewN ?_ _ | refine blk_drew ?_ | refine blk_alloc ?_ _)); refine blk_far ?_ NB477_569.out _; (with_reducible repeat (first | refine blk_drewN ?_ _ | refine blk_drew ?_ | refine blk_alloc ?_ _)); refine blk_far ?_ NB477_569.out _; (with_reducible repeat (first | refine blk_drewN ?_ _ | refine blk_drew ?_ | refine blk_alloc ?_ _)); exact BK477.out⟩
                 have n6_ : Aside0 (((w255.setCell ⟨gb569, 0, none⟩ (.int .i64 t567)).setCell ⟨gb569, 1, none⟩ (.int .i64 t568)).heap[gb481]? = some (.cells #[.int .i64 t478, .int .i64 t479] 25 (0, 0))) := ⟨by (with_reducible repeat (first | refine blk_drewN ?_ _ | refine blk_drew ?_ | refine blk_alloc ?_ _)); refine blk_far ?_ NB481_569.out _; (with_reducible repeat (first | refine blk_drewN ?_ _ | refine blk_drew ?_ | refine blk_alloc ?_ _)); refine blk_far ?_ NB481_569.out _; (with_reducible repeat (first | refine blk_drewN ?_ _ | refine blk_drew ?_ | refine blk_alloc ?_ _)); exact BK481.out⟩
                 have n7_ : Aside0 (((w255.setCell ⟨gb569, 0, none⟩ (.int .i64 t567)).setCell ⟨gb569, 1, none⟩ (.int .i64 t568)).heap[gb485]? = some (.cells #[.int .i64 t482, .int .i64 t483] 25 (0, 0))) := ⟨by (with_reducible repeat (first | refine blk_drewN ?_ _ | refine blk_drew ?_ | refine blk_alloc ?_ _)); refine blk_far ?_ NB485_569.out _; (with_reducible repeat (first | refine blk_drewN ?_ _ | refine blk_drew ?_ | refine blk_alloc ?_ _)); refine blk_far ?_ NB485_569.out _; (with_reducible repeat (first | refine blk_drewN ?_ _ | refine blk_drew ?_ | refine blk_alloc ?_ _)); exact BK485.out⟩
                 have n8_ : Aside0 (((w255.setCell ⟨gb569, 0, none⟩ (.int .i64 t567)).setCell ⟨gb569, 1, none⟩ (.int .i64 t568)).heap[gb569]? = some (.cells #[.int .i64 t567, .int .i64 t568] 25 (0, 0))) := ⟨by (with_reducible repeat (first | refine blk_drewN ?_ _ | refine blk_drew ?_ | refine blk_alloc ?_ _)); refine blk_put (cs := #[.int .i64 t567, .int .i64 0]) ?_ 1 _ rfl; (with_reducible repeat (first | refine blk_drewN ?_ _ | refine blk_drew ?_ | refine blk_alloc ?_ _)); refine blk_put (cs := #[.int .i64 0, .int .i64 0]) ?_ 0 _ rfl; (with_reducible repeat (first | refine blk_drewN ?_ _ | refine blk_drew ?_ | refine blk_alloc ?_ _)); exact BK569.out⟩
                 have n9_ : Aside0 (Below w.heap.size w ((w255.setCell ⟨gb569, 0, none⟩ (.int .i64 t567)).setCell ⟨gb569, 1, none⟩ (.int .i64 t568))) := ⟨by repeat (first | (with_reducible first | exact HB.out | apply M.ba | apply M.pd | apply below_drew1 | refine below_set ?_ GE477.out | refine below_set ?_ GE481.out | refine below_set ?_ GE485.out | refine below_set ?_ GE569.out) | exact HB.out)⟩
                 (try clear HO547); (try clear HO551); (try clear HO555); (try clear HO561); (try clear HO565); (try clear BK477); (try clear BK481); (try clear BK485); (try clear BK569); (try clear HB)
                 generalize ((w255.setCell ⟨gb569, 0, none⟩ (.int .i64 t567)).setCell ⟨gb569, 1, none⟩ (.int .i64 t568)) = w260 at n0_ n1_ n2_ n3_ n4_ n5_ n6_ n7_ n8_ n9_ ⊢
                 have HO547 := n0_; have HO551 := n1_; have HO555 := n2_; have HO561 := n3_; have HO565 := n4_; have BK477 := n5_; have BK481 := n6_; have BK485 := n7_; have BK569 := n8_; have HB := n9_; clear n0_ n1_ n2_ n3_ n4_ n5_ n6_ n7_ n8_ n9_
                 have n0_ := M.A_ (Kd.R_drew HO547.out)
                 have n1_ := M.A_ (Kd.R_drew HO551.out)
                 have n2_ := M.A_ (Kd.R_drew HO555.out)
                 have n3_ := M.A_ (Kd.R_drew HO561.out)
                 have n4_ := M.A_ (Kd.R_drew HO565.out)
                 have n5_ := M.A_ (blk_drew BK477.out)
                 have n6_ := M.A_ (blk_drew BK481.out)
                 have n7_ := M.A_ (blk_drew BK485.out)
                 have n8_ := M.A_ (blk_drew BK569.out)
                 have n9_ := M.A_ (below_drew1 HB.out)
                 clear HO547; clear HO551; clear HO555; clear HO561; clear HO565; clear BK477; clear BK481; clear BK485; clear BK569; clear HB; have HO547 := n0_; have HO551 := n1_; have HO555 := n2_; have HO561 := n3_; have HO565 := n4_; have BK477 := n5_; have BK481 := n6_; have BK485 := n7_; have BK569 := n8_; have HB := n9_; clear n0_ n1_ n2_ n3_ n4_ n5_ n6_ n7_ n8_ n9_
                 obtain ⟨Ao262, co262, eo262⟩ := Kd.R_slice HO551.out
                 (first | subst eo262 | (injection eo262 with f1_ f2_ f3_; have f4_ := f1_.symm; have f5_ := f3_.symm; clear f1_ f2_ f3_; subst f4_; subst f5_))
                 obtain ⟨Ao263, co263, eo263⟩ := Kd.R_slice HO555.out
                 (first | subst eo263 | (injection eo263 with f1_ f2_ f3_; have f4_ := f1_.symm; have f5_ := f3_.symm; clear f1_ f2_ f3_; subst f4_; subst f5_))
                 refine start_ (n := 45) (S := fun w' => w'.cell? ⟨gb569, 0, none⟩ = some (.int .i64 t567) ∧ w'.cell? ⟨gb569, 1, none⟩ = some (.int .i64 t568)) (ds := []) #[false, false, false, false, false, false, false, false, false, false, false, false, false, false, false, false, false, false, false, false, false, false, false, false, false, false, false, false, false, false, false, false, false, false, false, false, false, false, false, false, false, false, false, false, false] (by kernel_rfl) rfl rfl ⟨(blk_cell BK569.out 0).trans rfl, (blk_cell BK569.out 1).trans rfl⟩ (fun hHeld => ?_); refine with_tabW laws_FnAffine.tab34 laws_FnAffine.bits34 (fun HT_ HW_ => ?_)
                 generalize w260.drew = w261 at HO547 HO551 HO555 HO561 HO565 BK477 BK481 BK485 BK569 HB hHeld ⊢
                 refine pure_ (i := 0) (N := some 263) (v := ?_) (a' := ?_) #[true, false, false, false, false, false, false, false, false, false, false, false, false, false, false, false, false, false, false, false, false, false, false, false, false, false, false, false, false, false, false, false, false, false, false, false, false, false, false, false, false, false, false, false, false] rfl rfl (any_of HT_.out (by kernel_rfl)) (fun _ _ _ h => h) (Or.inl ⟨by rfl, ?_⟩) ?_ ?_; rotate_left
                 ·intro w'; go_simp; with_reducible rfl
                 rotate_left
                 ·simp only [Act.put, M.sT_, M.s0_, M.s1_, i64_w, i32_w]; rfl
                 refine pure_ (i := 1) (N := some 264) (v := ?_) (a' := ?_) #[true, true, false, false, false, false, false, false, false, false, false, false, false, false, false, false, false, false, false, false, false, false, false, false, false, false, false, false, false, false, false, false, false, false, false, false, false, false, false, false, false, false, false, false, false] rfl rfl (any_of HT_.out (by kernel_rfl)) (fun _ _ _ h => h) (Or.inl ⟨by rfl, ?_⟩) ?_ ?_; rotate_left
                 ·intro w'; go_simp; with_reducible rfl
                 rotate_left
                 ·simp only [Act.put, M.sT_, M.s0_, M.s1_, i64_w, i32_w]; rfl
                 refine one_ (i := 2) (N := some 265) #[true, true, true, false, false, false, false, false, false, false, false, false, false, false, false, false, false, false, false, false, false, false, false, false, false, false, false, false, false, false, false, false, false, false, false, false, false, false, false, false, false, false, false, false, false] rfl rfl (one_of HT_.out (by kernel_rfl)) (by decide) (fun K hK => ?_)
                 refine goes_ Try.func11 (by kernel_rfl) rfl #[.slice Ao262 t548.length co262, .slice Ao263 t552.length co263] (by rfl) rfl rfl (by first | rfl | (simp only [M.mt, M.mc, M.mn, M.ld, M.lt]; rfl)) ?_
                 with_reducible refine (laws_sameInts.calls kj197 _ _ t548 _ _ t552 true _ ?side1 ?side2 ?side3 ?side4 A232.out).mono ?_
                 (case side1 => exact M.Lc (Kd.R_reads' HO551.out).2.2)
                 (case side2 => exact (Kd.R_reads' HO551.out).2.1)
                 (case side3 => exact M.Lc (Kd.R_reads' HO555.out).2.2)
                 (case side4 => exact (Kd.R_reads' HO555.out).2.1)
                 rintro e w' ⟨rfl, ⟨nd, rfl⟩⟩
                 refine ⟨_, rfl, ?_⟩
                 obtain ⟨Ao264, co264, eo264⟩ := Kd.R_slice HO561.out
                 (first | subst eo264 | (injection eo264 with f1_ f2_ f3_; have f4_ := f1_.symm; have f5_ := f3_.symm; clear f1_ f2_ f3_; subst f4_; subst f5_))
                 refine hK.out _ _ ⟨(blk_cell BK569.out 0).trans rfl, (blk_cell BK569.out 1).trans rfl⟩ (fun hHeld => ?_)
                 clear hK K
                 refine norm_ (a' := ?_) ?_ ?_
                 rotate_left
                 ·show Act.put _ (some 265) _ = _
                  simp only [Act.put, M.sT_, M.s0_, M.s1_, i64_w, i32_w]; rfl
                 refine pure_ (i := 3) (N := some 266) (v := ?_) (a' := ?_) #[true, true, true, true, false, false, false, false, false, false, false, false, false, false, false, false, false, false, false, false, false, false, false, false, false, false, false, false, false, false, false, false, false, false, false, false, false, false, false, false, false, false, false, false, false] rfl rfl (any_of HT_.out (by kernel_rfl)) (fun _ _ _ h => h) (Or.inl ⟨by rfl, ?_⟩) ?_ ?_; rotate_left
                 ·intro w'; go_simp; with_reducible rfl
                 rotate_left
                 ·simp only [Act.put, M.sT_, M.s0_, M.s1_, i64_w, i32_w]; rfl
                 refine pure_ (i := 4) (N := some 267) (v := ?_) (a' := ?_) #[true, true, true, true, true, false, false, false, false, false, false, false, false, false, false, false, false, false, false, false, false, false, false, false, false, false, false, false, false, false, false, false, false, false, false, false, false, false, false, false, false, false, false, false, false] rfl rfl (any_of HT_.out (by kernel_rfl)) (fun _ _ _ h => h) (Or.inl ⟨by rfl, ?_⟩) ?_ ?_; rotate_left
                 ·intro w'; go_simp; with_reducible rfl
                 rotate_left
                 ·simp only [Act.put, M.sT_, M.s0_, M.s1_, i64_w, i32_w]; rfl
                 refine pure_ (i := 5) (N := some 268) (v := ?_) (a' := ?_) #[true, true, true, true, true, true, false, false, false, false, false, false, false, false, false, false, false, false, false, false, false, false, false, false, false, false, false, false, false, false, false, false, false, false, false, false, false, false, false, false, false, false, false, false, false] rfl rfl (any_of HT_.out (by kernel_rfl)) (fun _ _ _ h => h) (Or.inl ⟨by rfl, ?_⟩) ?_ ?_; rotate_left
                 ·intro w'; go_simp; with_reducible rfl
                 rotate_left
                 ·simp only [Act.put, M.sT_, M.s0_, M.s1_, i64_w, i32_w]; rfl
                 refine pure_ (i := 6) (N := some 269) (v := ?_) (a' := ?_) #[true, true, true, true, true, true, true, false, false, false, false, false, false, false, false, false, false, false, false, false, false, false, false, false, false, false, false, false, false, false, false, false, false, false, false, false, false, false, false, false, false, false, false, false, false] rfl rfl (any_of HT_.out (by kernel_rfl)) (fun _ _ _ h => h) (Or.inl ⟨by rfl, ?_⟩) ?_ ?_; rotate_left
                 ·intro w'; go_simp; with_reducible rfl
                 rotate_left
                 ·simp only [Act.put, M.sT_, M.s0_, M.s1_, i64_w, i32_w]; rfl
                 refine pure_ (i := 7) (N := some 270) (v := ?_) (a' := ?_) #[true, true, true, true, true, true, true, true, false, false, false, false, false, false, false, false, false, false, false, false, false, false, false, false, false, false, false, false, false, false, false, false, false, false, false, false, false, false, false, false, false, false, false, false, false] rfl rfl (any_of HT_.out (by kernel_rfl)) (fun _ _ _ h => h) (Or.inl ⟨by rfl, ?_⟩) ?_ ?_; rotate_left
                 ·intro w'; go_simp; with_reducible rfl
                 rotate_left
                 ·simp only [Act.put, M.sT_, M.s0_, M.s1_, i64_w, i32_w]; rfl
                 refine pure_ (i := 8) (N := some 271) (v := ?_) (a' := ?_) #[true, true, true, true, true, true, true, true, true, false, false, false, false, false, false, false, false, false, false, false, false, false, false, false, false, false, false, false, false, false, false, false, false, false, false, false, false, false, false, false, false, false, false, false, false] rfl rfl (any_of HT_.out (by kernel_rfl)) (fun _ _ _ h => h) (Or.inl ⟨by rfl, ?_⟩) ?_ ?_; rotate_left
                 ·intro w'; go_simp; with_reducible rfl
                 rotate_left
                 ·simp only [Act.put, M.sT_, M.s0_, M.s1_, i64_w, i32_w]; rfl
                 refine pure_ (i := 9) (N := some 272) (v := ?_) (a' := ?_) #[true, true, true, true, true, true, true, true, true, true, false, false, false, false, false, false, false, false, false, false, false, false, false, false, false, false, false, false, false, false, false, false, false, false, false, false, false, false, false, false, false, false, false, false, false] rfl rfl (any_of HT_.out (by kernel_rfl)) (fun _ _ _ h => h) (Or.inl ⟨by rfl, ?_⟩) ?_ ?_; rotate_left
                 ·intro w'; go_simp; with_reducible rfl
                 rotate_left
                 ·simp only [Act.put, M.sT_, M.s0_, M.s1_, i64_w, i32_w]; rfl
                 refine pure_ (i := 10) (N := some 273) (v := ?_) (a' := ?_) #[true, true, true, true, true, true, true, true, true, true, true, false, false, false, false, false, false, false, false, false, false, false, false, false, false, false, false, false, false, false, false, false, false, false, false, false, false, false, false, false, false, false, false, false, false] rfl rfl (any_of HT_.out (by kernel_rfl)) (fun _ _ _ h => h) (Or.inl ⟨by rfl, ?_⟩) ?_ ?_; rotate_left
                 ·intro w'; go_simp; with_reducible rfl
                 rotate_left
                 ·simp only [Act.put, M.sT_, M.s0_, M.s1_, i64_w, i32_w]; rfl
                 refine pure_ (i := 11) (N := some 274) (v := ?_) (a' := ?_) #[true, true, true, true, true, true, true, true, true, true, true, true, false, false, false, false, false, false, false, false, false, false, false, false, false, false, false, false, false, false, false, false, false, false, false, false, false, false, false, false, false, false, false, false, false] rfl rfl (any_of HT_.out (by kernel_rfl)) (fun _ _ _ h => h) (Or.inl ⟨by rfl, ?_⟩) ?_ ?_; rotate_left
                 ·intro w'; go_simp; with_reducible rfl
                 rotate_left
                 ·simp only [Act.put, M.sT_, M.s0_, M.s1_, i64_w, i32_w]; rfl
                 refine pure_ (i := 12) (N := some 275) (v := ?_) (a' := ?_) #[true, true, true, true, true, true, true, true, true, true, true, true, true, false, false, false, false, false, false, false, false, false, false, false, false, false, false, false, false, false, false, false, false, false, false, false, false, false, false, false, false, false, false, false, false] rfl rfl (any_of HT_.out (by kernel_rfl)) (fun _ _ _ h => h) (Or.inl ⟨by rfl, ?_⟩) ?_ ?_; rotate_left
                 ·intro w'; go_simp; with_reducible rfl
                 rotate_left
                 ·simp only [Act.put, M.sT_, M.s0_, M.s1_, i64_w, i32_w]; rfl
                 refine pure_ (i := 14) (N := some 277) (v := ?_) (a' := ?_) #[true, true, true, true, true, true, true, true, true, true, true, true, true, false, true, false, false, false, false, false, false, false, false, false, false, false, false, false, false, false, false, false, false, false, false, false, false, false, false, false, false, false, false, false, false] rfl rfl (any_of HT_.out (by kernel_rfl)) (fun _ _ _ h => h) (Or.inl ⟨by rfl, ?_⟩) ?_ ?_; rotate_left
                 ·intro w'; go_simp; with_reducible rfl
                 rotate_left
                 ·simp only [Act.put, M.sT_, M.s0_, M.s1_, i64_w, i32_w]; rfl
                 refine pure_ (i := 15) (N := some 278) (v := ?_) (a' := ?_) #[true, true, true, true, true, true, true, true, true, true, true, true, true, false, true, true, false, false, false, false, false, false, false, false, false, false, false, false, false, false, false, false, false, false, false, false, false, false, false, false, false, false, false, false, false] rfl rfl (any_of HT_.out (by kernel_rfl)) (fun _ _ _ h => h) (Or.inl ⟨by rfl, ?_⟩) ?_ ?_; rotate_left
                 ·intro w'; go_simp; with_reducible rfl
                 rotate_left
                 ·simp only [Act.put, M.sT_, M.s0_, M.s1_, i64_w, i32_w]; rfl
                 refine pure_ (i := 16) (N := some 279) (v := ?_) (a' := ?_) #[true, true, true, true, true, true, true, true, true, true, true, true, true, false, true, true, true, false, false, false, false, false, false, false, false, false, false, false, false, false, false, false, false, false, false, false, false, false, false, false, false, false, false, false, false] rfl rfl (any_of HT_.out (by kernel_rfl)) (fun _ _ _ h => h) (Or.inl ⟨by rfl, ?_⟩) ?_ ?_; rotate_left
                 ·intro w'; go_simp; with_reducible rfl
                 rotate_left
                 ·simp only [Act.put, M.sT_, M.s0_, M.s1_, i64_w, i32_w]; rfl
                 refine pure_ (i := 17) (N := some 280) (v := ?_) (a' := ?_) #[true, true, true, true, true, true, true, true, true, true, true, true, true, false, true, true, true, true, false, false, false, false, false, false, false, false, false, false, false, false, false, false, false, false, false, false, false, false, false, false, false, false, false, false, false] rfl rfl (any_of HT_.out (by kernel_rfl)) (fun _ _ _ h => h) (Or.inl ⟨by rfl, ?_⟩) ?_ ?_; rotate_left
                 ·intro w'; go_simp; with_reducible rfl
                 rotate_left
                 ·simp only [Act.put, M.sT_, M.s0_, M.s1_, i64_w, i32_w]; rfl
                 refine one_ (i := 13) (N := some 276) #[true, true, true, true, true, true, true, true, true, true, true, true, true, true, true, true, true, true, false, false, false, false, false, false, false, false, false, false, false, false, false, false, false, false, false, false, false, false, false, false, false, false, false, false, false] rfl rfl (one_of HT_.out (by kernel_rfl)) (by decide) (fun K hK => ?_)
                 refine goes_ Try.func18 (by kernel_rfl) rfl #[.int .i64 t556, .slice Ao264 t557.length co264, .int .i64 t558, .int .i64 t559] (by rfl) rfl rfl (by first | rfl | (simp only [M.mt, M.mc, M.mn, M.ld, M.lt]; rfl)) ?_
                 with_reducible refine (impl_MapInput.calls kj197 t556 _ _ t557 t558 t559 t571 _ ?side1 ?side2 A235.out).mono ?_
                 (case side1 => exact M.Lc (Kd.R_reads' HO561.out).2.2)
                 (case side2 => exact (Kd.R_reads' HO561.out).2.1)
                 rintro e w265 ⟨rfl, hb⟩
                 refine ⟨_, rfl, ?_⟩
                 have n0_ := M.A_ (Kd.R_below (M.Lr HO547) hb)
                 have n1_ := M.A_ (Kd.R_below (M.Lr HO551) hb)
                 have n2_ := M.A_ (Kd.R_below (M.Lr HO555) hb)
                 have n3_ := M.A_ (Kd.R_below (M.Lr HO561) hb)
                 have n4_ := M.A_ (Kd.R_below (M.Lr HO565) hb)
                 have n5_ := M.A_ (blk_below (M.Lb BK477) hb)
                 have n6_ := M.A_ (blk_below (M.Lb BK481) hb)
                 have n7_ := M.A_ (blk_below (M.Lb BK485) hb)
                 have n8_ := M.A_ (blk_below (M.Lb BK569) hb)
                 have n9_ := M.A_ (below_step (M.Lw HB) hb)
                 clear HO547; clear HO551; clear HO555; clear HO561; clear HO565; clear BK477; clear BK481; clear BK485; clear BK569; clear HB; have HO547 := n0_; have HO551 := n1_; have HO555 := n2_; have HO561 := n3_; have HO565 := n4_; have BK477 := n5_; have BK481 := n6_; have BK485 := n7_; have BK569 := n8_; have HB := n9_; clear n0_ n1_ n2_ n3_ n4_ n5_ n6_ n7_ n8_ n9_; (try clear hb); (try clear hb2); (try clear hk); (try clear hi)
                 refine hK.out _ _ ⟨(blk_cell BK569.out 0).trans rfl, (blk_cell BK569.out 1).trans rfl⟩ (fun hHeld => ?_)
                 clear hK K
                 refine norm_ (a' := ?_) ?_ ?_
                 rotate_left
                 ·show Act.put _ (some 276) _ = _
                  simp only [Act.put, M.sT_, M.s0_, M.s1_, i64_w, i32_w]; rfl
                 refine one_ (i := 18) (N := some 281) #[true, true, true, true, true, true, true, true, true, true, true, true, true, true, true, true, true, true, true, false, false, false, false, false, false, false, false, false, false, false, false, false, false, false, false, false, false, false, false, false, false, false, false, false, false] rfl rfl (one_of HT_.out (by kernel_rfl)) (by decide) (fun K hK => ?_)
                 refine goes_ Try.func29 (by kernel_rfl) rfl #[.int .i64 t556, .slice Ao264 t557.length co264, .int .i64 t558, .int .i64 t559] (by rfl) rfl rfl (by first | rfl | (simp only [M.mt, M.mc, M.mn, M.ld, M.lt]; rfl)) ?_
                 with_reducible refine (spec_MapInput.calls kj197 t556 _ _ t557 t558 t559 t572 _ ?side1 ?side2 A236.out).mono ?_
                 (case side1 => exact M.Lc (Kd.R_reads' HO561.out).2.2)
                 (case side2 => exact (Kd.R_reads' HO561.out).2.1)
                 rintro e w266 ⟨rfl, hb⟩
                 refine ⟨_, rfl, ?_⟩
                 have n0_ := M.A_ (Kd.R_below (M.Lr HO547) hb)
                 have n1_ := M.A_ (Kd.R_below (M.Lr HO551) hb)
                 have n2_ := M.A_ (Kd.R_below (M.Lr HO555) hb)
                 have n3_ := M.A_ (Kd.R_below (M.Lr HO561) hb)
                 have n4_ := M.A_ (Kd.R_below (M.Lr HO565) hb)
                 have n5_ := M.A_ (blk_below (M.Lb BK477) hb)
                 have n6_ := M.A_ (blk_below (M.Lb BK481) hb)
                 have n7_ := M.A_ (blk_below (M.Lb BK485) hb)
                 have n8_ := M.A_ (blk_below (M.Lb BK569) hb)
                 have n9_ := M.A_ (below_step (M.Lw HB) hb)
                 clear HO547; clear HO551; clear HO555; clear HO561; clear HO565; clear BK477; clear BK481; clear BK485; clear BK569; clear HB; have HO547 := n0_; have HO551 := n1_; have HO555 := n2_; have HO561 := n3_; have HO565 := n4_; have BK477 := n5_; have BK481 := n6_; have BK485 := n7_; have BK569 := n8_; have HB := n9_; clear n0_ n1_ n2_ n3_ n4_ n5_ n6_ n7_ n8_ n9_; (try clear hb); (try clear hb2); (try clear hk); (try clear hi)
                 obtain ⟨Ao267, co267, eo267⟩ := Kd.R_slice HO565.out
                 (first | subst eo267 | (injection eo267 with f1_ f2_ f3_; have f4_ := f1_.symm; have f5_ := f3_.symm; clear f1_ f2_ f3_; subst f4_; subst f5_))
                 refine hK.out _ _ ⟨(blk_cell BK569.out 0).trans rfl, (blk_cell BK569.out 1).trans rfl⟩ (fun hHeld => ?_)
                 clear hK K
                 refine norm_ (a' := ?_) ?_ ?_
                 rotate_left
                 ·show Act.put _ (some 281) _ = _
                  simp only [Act.put, M.sT_, M.s0_, M.s1_, i64_w, i32_w]; rfl
                 refine pure_ (i := 19) (N := some 282) (v := ?_) (a' := ?_) #[true, true, true, true, true, true, true, true, true, true, true, true, true, true, true, true, true, true, true, true, false, false, false, false, false, false, false, false, false, false, false, false, false, false, false, false, false, false, false, false, false, false, false, false, false] rfl rfl (any_of HT_.out (by kernel_rfl)) (fun _ _ _ h => h) (Or.inl ⟨by rfl, ?_⟩) ?_ ?_; rotate_left
                 ·intro w'; go_simp; with_reducible rfl
                 rotate_left
                 ·simp only [Act.put, M.sT_, M.s0_, M.s1_, i64_w, i32_w]; rfl
                 refine pure_ (i := 20) (N := some 283) (v := ?_) (a' := ?_) #[true, true, true, true, true, true, true, true, true, true, true, true, true, true, true, true, true, true, true, true, true, false, false, false, false, false, false, false, false, false, false, false, false, false, false, false, false, false, false, false, false, false, false, false, false] rfl rfl (any_of HT_.out (by kernel_rfl)) (fun _ _ _ h => h) (Or.inl ⟨by rfl, ?_⟩) ?_ ?_; rotate_left
                 ·intro w'; go_simp; with_reducible rfl
                 rotate_left
                 ·simp only [Act.put, M.sT_, M.s0_, M.s1_, i64_w, i32_w]; rfl
                 refine pure_ (i := 21) (N := some 284) (v := ?_) (a' := ?_) #[true, true, true, true, true, true, true, true, true, true, true, true, true, true, true, true, true, true, true, true, true, true, false, false, false, false, false, false, false, false, false, false, false, false, false, false, false, false, false, false, false, false, false, false, false] rfl rfl (any_of HT_.out (by kernel_rfl)) (fun _ _ _ h => h) (Or.inl ⟨by rfl, ?_⟩) ?_ ?_; rotate_left
                 ·intro w'; go_simp; with_reducible rfl
                 rotate_left
                 ·simp only [Act.put, M.sT_, M.s0_, M.s1_, i64_w, i32_w]; rfl
                 refine pure_ (i := 22) (N := some 285) (v := ?_) (a' := ?_) #[true, true, true, true, true, true, true, true, true, true, true, true, true, true, true, true, true, true, true, true, true, true, true, false, false, false, false, false, false, false, false, false, false, false, false, false, false, false, false, false, false, false, false, false, false] rfl rfl (any_of HT_.out (by kernel_rfl)) (fun _ _ _ h => h) (Or.inl ⟨by rfl, ?_⟩) ?_ ?_; rotate_left
                 ·intro w'; go_simp; with_reducible rfl
                 rotate_left
                 ·simp only [Act.put, M.sT_, M.s0_, M.s1_, i64_w, i32_w]; rfl
                 refine pure_ (i := 23) (N := some 286) (v := ?_) (a' := ?_) #[true, true, true, true, true, true, true, true, true, true, true, true, true, true, true, true, true, true, true, true, true, true, true, true, false, false, false, false, false, false, false, false, false, false, false, false, false, false, false, false, false, false, false, false, false] rfl rfl (any_of HT_.out (by kernel_rfl)) (fun _ _ _ h => h) (Or.inl ⟨by rfl, ?_⟩) ?_ ?_; rotate_left
                 ·intro w'; go_simp; with_reducible rfl
                 rotate_left
                 ·simp only [Act.put, M.sT_, M.s0_, M.s1_, i64_w, i32_w]; rfl
                 refine pure_ (i := 25) (N := some 288) (v := ?_) (a' := ?_) #[true, true, true, true, true, true, true, true, true, true, true, true, true, true, true, true, true, true, true, true, true, true, true, true, false, true, false, false, false, false, false, false, false, false, false, false, false, false, false, false, false, false, false, false, false] rfl rfl (any_of HT_.out (by kernel_rfl)) (fun _ _ _ h => h) (Or.inl ⟨by rfl, ?_⟩) ?_ ?_; rotate_left
                 ·intro w'; go_simp; with_reducible rfl
                 rotate_left
                 ·simp only [Act.put, M.sT_, M.s0_, M.s1_, i64_w, i32_w]; rfl
                 refine pure_ (i := 26) (N := some 289) (v := ?_) (a' := ?_) #[true, true, true, true, true, true, true, true, true, true, true, true, true, true, true, true, true, true, true, true, true, true, true, true, false, true, true, false, false, false, false, false, false, false, false, false, false, false, false, false, false, false, false, false, false] rfl rfl (any_of HT_.out (by kernel_rfl)) (fun _ _ _ h => h) (Or.inl ⟨by rfl, ?_⟩) ?_ ?_; rotate_left
                 ·intro w'; go_simp; with_reducible rfl
                 rotate_left
                 ·simp only [Act.put, M.sT_, M.s0_, M.s1_, i64_w, i32_w]; rfl
                 refine one_ (i := 24) (N := some 287) #[true, true, true, true, true, true, true, true, true, true, true, true, true, true, true, true, true, true, true, true, true, true, true, true, true, true, true, false, false, false, false, false, false, false, false, false, false, false, false, false, false, false, false, false, false] rfl rfl (one_of HT_.out (by kernel_rfl)) (by decide) (fun K hK => ?_)
                 refine goes_ Try.func22 (by kernel_rfl) rfl #[.int .i64 t562, .slice Ao267 t563.length co267] (by rfl) rfl rfl (by first | rfl | (simp only [M.mt, M.mc, M.mn, M.ld, M.lt]; rfl)) ?_
                 with_reducible refine (impl_IsInvertible.calls t562 _ _ t563 t573 _ ?side1 ?side2 A238.out).mono ?_
                 (case side1 => exact M.Lc (Kd.R_reads' HO565.out).2.2)
                 (case side2 => exact (Kd.R_reads' HO565.out).2.1)
                 rintro e w268 ⟨rfl, hb⟩
                 refine ⟨_, rfl, ?_⟩
                 have n0_ := M.A_ (Kd.R_below (M.Lr HO547) hb)
                 have n1_ := M.A_ (Kd.R_below (M.Lr HO551) hb)
                 have n2_ := M.A_ (Kd.R_below (M.Lr HO555) hb)
                 have n3_ := M.A_ (Kd.R_below (M.Lr HO561) hb)
                 have n4_ := M.A_ (Kd.R_below (M.Lr HO565) hb)
                 have n5_ := M.A_ (blk_below (M.Lb BK477) hb)
                 have n6_ := M.A_ (blk_below (M.Lb BK481) hb)
                 have n7_ := M.A_ (blk_below (M.Lb BK485) hb)
                 have n8_ := M.A_ (blk_below (M.Lb BK569) hb)
                 have n9_ := M.A_ (below_step (M.Lw HB) hb)
                 clear HO547; clear HO551; clear HO555; clear HO561; clear HO565; clear BK477; clear BK481; clear BK485; clear BK569; clear HB; have HO547 := n0_; have HO551 := n1_; have HO555 := n2_; have HO561 := n3_; have HO565 := n4_; have BK477 := n5_; have BK481 := n6_; have BK485 := n7_; have BK569 := n8_; have HB := n9_; clear n0_ n1_ n2_ n3_ n4_ n5_ n6_ n7_ n8_ n9_; (try clear hb); (try clear hb2); (try clear hk); (try clear hi)
                 refine hK.out _ _ ⟨(blk_cell BK569.out 0).trans rfl, (blk_cell BK569.out 1).trans rfl⟩ (fun hHeld => ?_)
                 clear hK K
                 refine norm_ (a' := ?_) ?_ ?_
                 rotate_left
                 ·show Act.put _ (some 287) _ = _
                  simp only [Act.put, M.sT_, M.s0_, M.s1_, i64_w, i32_w]; rfl
                 refine one_ (i := 27) (N := some 290) #[true, true, true, true, true, true, true, true, true, true, true, true, true, true, true, true, true, true, true, true, true, true, true, true, true, true, true, true, false, false, false, false, false, false, false, false, false, false, false, false, false, false, false, false, false] rfl rfl (one_of HT_.out (by kernel_rfl)) (by decide) (fun K hK => ?_)
                 refine goes_ Try.func30 (by kernel_rfl) rfl #[.int .i64 t562, .slice Ao267 t563.length co267] (by rfl) rfl rfl (by first | rfl | (simp only [M.mt, M.mc, M.mn, M.ld, M.lt]; rfl)) ?_
                 with_reducible refine (spec_IsInvertible.calls kj197 t562 _ _ t563 t574 _ ?side1 ?side2 A239.out).mono ?_
                 (case side1 => exact M.Lc (Kd.R_reads' HO565.out).2.2)
                 (case side2 => exact (Kd.R_reads' HO565.out).2.1)
                 rintro e w269 ⟨rfl, hb⟩
                 refine ⟨_, rfl, ?_⟩
                 have n0_ := M.A_ (Kd.R_below (M.Lr HO547) hb)
                 have n1_ := M.A_ (Kd.R_below (M.Lr HO551) hb)
                 have n2_ := M.A_ (Kd.R_below (M.Lr HO555) hb)
                 have n3_ := M.A_ (Kd.R_below (M.Lr HO561) hb)
                 have n4_ := M.A_ (Kd.R_below (M.Lr HO565) hb)
                 have n5_ := M.A_ (blk_below (M.Lb BK477) hb)
                 have n6_ := M.A_ (blk_below (M.Lb BK481) hb)
                 have n7_ := M.A_ (blk_below (M.Lb BK485) hb)
                 have n8_ := M.A_ (blk_below (M.Lb BK569) hb)
                 have n9_ := M.A_ (below_step (M.Lw HB) hb)
                 clear HO547; clear HO551; clear HO555; clear HO561; clear HO565; clear BK477; clear BK481; clear BK485; clear BK569; clear HB; have HO547 := n0_; have HO551 := n1_; have HO555 := n2_; have HO561 := n3_; have HO565 := n4_; have BK477 := n5_; have BK481 := n6_; have BK485 := n7_; have BK569 := n8_; have HB := n9_; clear n0_ n1_ n2_ n3_ n4_ n5_ n6_ n7_ n8_ n9_; (try clear hb); (try clear hb2); (try clear hk); (try clear hi)
                 refine hK.out _ _ ⟨(blk_cell BK569.out 0).trans rfl, (blk_cell BK569.out 1).trans rfl⟩ (fun hHeld => ?_)
                 clear hK K
                 refine norm_ (a' := ?_) ?_ ?_
                 rotate_left
                 ·show Act.put _ (some 290) _ = _
                  simp only [Act.put, M.sT_, M.s0_, M.s1_, i64_w, i32_w]; rfl
                 refine pure_ (i := 28) (N := some 291) (v := ?_) (a' := ?_) #[true, true, true, true, true, true, true, true, true, true, true, true, true, true, true, true, true, true, true, true, true, true, true, true, true, true, true, true, true, false, false, false, false, false, false, false, false, false, false, false, false, false, false, false, false] rfl rfl (any_of HT_.out (by kernel_rfl)) (fun _ _ _ h => h) (Or.inl ⟨by rfl, ?_⟩) ?_ ?_; rotate_left
                 ·intro w'; go_simp; with_reducible rfl
                 rotate_left
                 ·simp only [Act.put, M.sT_, M.s0_, M.s1_, i64_w, i32_w]; rfl
                 refine pure_ (i := 29) (N := some 292) (v := ?_) (a' := ?_) #[true, true, true, true, true, true, true, true, true, true, true, true, true, true, true, true, true, true, true, true, true, true, true, true, true, true, true, true, true, true, false, false, false, false, false, false, false, false, false, false, false, false, false, false, false] rfl rfl (any_of HT_.out (by kernel_rfl)) (fun _ _ _ h => h) (Or.inl ⟨by rfl, ?_⟩) ?_ ?_; rotate_left
                 ·intro w'; go_simp; with_reducible rfl
                 rotate_left
                 ·simp only [Act.put, M.sT_, M.s0_, M.s1_, i64_w, i32_w]; rfl
                 refine pure_ (i := 30) (N := some 293) (v := ?_) (a' := ?_) #[true, true, true, true, true, true, true, true, true, true, true, true, true, true, true, true, true, true, true, true, true, true, true, true, true, true, true, true, true, true, true, false, false, false, false, false, false, false, false, false, false, false, false, false, false] rfl rfl (any_of HT_.out (by kernel_rfl)) (fun _ _ _ h => h) (Or.inl ⟨by rfl, ?_⟩) ?_ ?_; rotate_left
                 ·intro w'; go_simp; with_reducible rfl
                 rotate_left
                 ·simp only [Act.put, M.sT_, M.s0_, M.s1_, i64_w, i32_w]; rfl
                 refine pure_ (i := 31) (N := some 294) (v := ?_) (a' := ?_) #[true, true, true, true, true, true, true, true, true, true, true, true, true, true, true, true, true, true, true, true, true, true, true, true, true, true, true, true, true, true, true, true, false, false, false, false, false, false, false, false, false, false, false, false, false] rfl rfl (any_of HT_.out (by kernel_rfl)) (fun _ _ _ h => h) (Or.inl ⟨by rfl, ?_⟩) ?_ ?_; rotate_left
                 ·intro w'; go_simp; with_reducible rfl
                 rotate_left
                 ·simp only [Act.put, M.sT_, M.s0_, M.s1_, i64_w, i32_w]; rfl
                 refine pure_ (i := 33) (N := some 296) (v := ?_) (a' := ?_) #[true, true, true, true, true, true, true, true, true, true, true, true, true, true, true, true, true, true, true, true, true, true, true, true, true, true, true, true, true, true, true, true, false, true, false, false, false, false, false, false, false, false, false, false, false] rfl rfl (any_of HT_.out (by kernel_rfl)) (fun _ _ _ h => h) (Or.inl ⟨by rfl, ?_⟩) ?_ ?_; rotate_left
                 ·intro w'; go_simp; with_reducible rfl
                 rotate_left
                 ·simp only [Act.put, M.sT_, M.s0_, M.s1_, i64_w, i32_w]; rfl
                 refine one_ (i := 32) (N := some 295) #[true, true, true, true, true, true, true, true, true, true, true, true, true, true, true, true, true, true, true, true, true, true, true, true, true, true, true, true, true, true, true, true, true, true, false, false, false, false, false, false, false, false, false, false, false] rfl rfl (one_of HT_.out (by kernel_rfl)) (by decide) (fun K hK => ?_)
                 refine goes_ Try.func31 (by kernel_rfl) rfl #[.int .i64 t566] (by rfl) rfl rfl (by first | rfl | (simp only [M.mt, M.mc, M.mn, M.ld, M.lt]; rfl)) ?_
                 with_reducible refine (impl_CountInvertible.calls kj197 t566 t575 _ A241.out).mono ?_
                 rintro e w' ⟨rfl, ⟨nd, rfl⟩⟩
                 refine ⟨_, rfl, ?_⟩
                 refine hK.out _ _ ⟨(blk_cell BK569.out 0).trans rfl, (blk_cell BK569.out 1).trans rfl⟩ (fun hHeld => ?_)
                 clear hK K
                 refine norm_ (a' := ?_) ?_ ?_
                 rotate_left
                 ·show Act.put _ (some 295) _ = _
                  simp only [Act.put, M.sT_, M.s0_, M.s1_, i64_w, i32_w]; rfl
                 refine one_ (i := 34) (N := some 297) #[true, true, true, true, true, true, true, true, true, true, true, true, true, true, true, true, true, true, true, true, true, true, true, true, true, true, true, true, true, true, true, true, true, true, true, false, false, false, false, false, false, false, false, false, false] rfl rfl (one_of HT_.out (by kernel_rfl)) (by decide) (fun K hK => ?_)
                 refine goes_ Try.func32 (by kernel_rfl) rfl #[.int .i64 t566] (by rfl) rfl rfl (by first | rfl | (simp only [M.mt, M.mc, M.mn, M.ld, M.lt]; rfl)) ?_
                 with_reducible refine (spec_CountInvertible.calls kj197 t566 t576 _ A242.out).mono ?_
                 rintro e w' ⟨rfl, ⟨nd, rfl⟩⟩
                 refine ⟨_, rfl, ?_⟩
                 refine hK.out _ _ ⟨(blk_cell BK569.out 0).trans rfl, (blk_cell BK569.out 1).trans rfl⟩ (fun hHeld => ?_)
                 clear hK K
                 refine norm_ (a' := ?_) ?_ ?_
                 rotate_left
                 ·show Act.put _ (some 297) _ = _
                  simp only [Act.put, M.sT_, M.s0_, M.s1_, i64_w, i32_w]; rfl
                 refine pure_ (i := 35) (N := some 298) (v := ?_) (a' := ?_) #[true, true, true, true, true, true, true, true, true, true, true, true, true, true, true, true, true, true, true, true, true, true, true, true, true, true, true, true, true, true, true, true, true, true, true, true, false, false, false, false, false, false, false, false, false] rfl rfl (any_of HT_.out (by kernel_rfl)) (fun _ _ _ h => h) (Or.inl ⟨by rfl, ?_⟩) ?_ ?_; rotate_left
                 ·intro w'; go_simp; with_reducible rfl
                 rotate_left
                 ·simp only [Act.put, M.sT_, M.s0_, M.s1_, i64_w, i32_w]; rfl
                 refine pure_ (i := 36) (N := some 299) (v := ?_) (a' := ?_) #[true, true, true, true, true, true, true, true, true, true, true, true, true, true, true, true, true, true, true, true, true, true, true, true, true, true, true, true, true, true, true, true, true, true, true, true, true, false, false, false, false, false, false, false, false] rfl rfl (any_of HT_.out (by kernel_rfl)) (fun _ _ _ h => h) (Or.inl ⟨by rfl, ?_⟩) ?_ ?_; rotate_left
                 ·intro w'; go_simp; with_reducible rfl
                 rotate_left
                 ·simp only [Act.put, M.sT_, M.s0_, M.s1_, i64_w, i32_w]; rfl
                 refine pure_ (i := 37) (N := some 300) (v := ?_) (a' := ?_) #[true, true, true, true, true, true, true, true, true, true, true, true, true, true, true, true, true, true, true, true, true, true, true, true, true, true, true, true, true, true, true, true, true, true, true, true, true, true, false, false, false, false, false, false, false] rfl rfl (any_of HT_.out (by kernel_rfl)) (fun _ _ _ h => h) (Or.inl ⟨by rfl, ?_⟩) ?_ ?_; rotate_left
                 ·intro w'; go_simp; with_reducible rfl
                 rotate_left
                 ·simp only [Act.put, M.sT_, M.s0_, M.s1_, i64_w, i32_w]; rfl
                 refine take_ (i := 38) (N := some 301) (v := ?_) (a' := ?_) #[true, true, true, true, true, true, true, true, true, true, true, true, true, true, true, true, true, true, true, true, true, true, true, true, true, true, true, true, true, true, true, true, true, true, true, true, true, true, true, false, false, false, false, false, false] rfl rfl (take_ofW HT_.out HW_.out (by kernel_rfl)) (fun _ _ _ h => h) (Or.inl ⟨by rfl, ?_⟩) hHeld ?_ ?_
                 rotate_left
                 ·rintro w' ⟨s0, s1⟩
                  go_simp; with_reducible rfl
                 rotate_left
                 ·simp only [Act.put, M.sT_, M.s0_, M.s1_, i64_w, i32_w]; rfl
                 refine take_ (i := 40) (N := some 303) (v := ?_) (a' := ?_) #[true, true, true, true, true, true, true, true, true, true, true, true, true, true, true, true, true, true, true, true, true, true, true, true, true, true, true, true, true, true, true, true, true, true, true, true, true, true, true, false, true, false, false, false, false] rfl rfl (take_ofW HT_.out HW_.out (by kernel_rfl)) (fun _ _ _ h => h) (Or.inl ⟨by rfl, ?_⟩) hHeld ?_ ?_
                 rotate_left
                 ·rintro w' ⟨s0, s1⟩
                  go_simp; with_reducible rfl
                 rotate_left
                 ·simp only [Act.put, M.sT_, M.s0_, M.s1_, i64_w, i32_w]; rfl
                 refine one_ (i := 39) (N := some 302) #[true, true, true, true, true, true, true, true, true, true, true, true, true, true, true, true, true, true, true, true, true, true, true, true, true, true, true, true, true, true, true, true, true, true, true, true, true, true, true, true, true, false, false, false, false] rfl rfl (one_of HT_.out (by kernel_rfl)) (by decide) (fun K hK => ?_)
                 refine goes_ Try.func12 (by kernel_rfl) rfl #[.agg #[.int .i64 t567, .int .i64 t568]] (by rfl) rfl rfl (by first | rfl | (simp only [M.mt, M.mc, M.mn, M.ld, M.lt]; rfl)) ?_
                 with_reducible refine (impl_SpectrumProfile.calls kj197 t567 t568 t577 _ A244.out).mono ?_
                 rintro e w270 ⟨v578, rfl, ho0, hb⟩
                 refine ⟨_, rfl, ?_⟩
                 have n0_ := M.A_ (Kd.R_elder' (M.Lr HO547) (Kd.R_base ho0) hb)
                 have n1_ := M.A_ (Kd.R_elder' (M.Lr HO551) (Kd.R_base ho0) hb)
                 have n2_ := M.A_ (Kd.R_elder' (M.Lr HO555) (Kd.R_base ho0) hb)
                 have n3_ := M.A_ (Kd.R_elder' (M.Lr HO561) (Kd.R_base ho0) hb)
                 have n4_ := M.A_ (Kd.R_elder' (M.Lr HO565) (Kd.R_base ho0) hb)
                 have n5_ := M.A_ (Kd.R_lower (Kd.R_new' (Kd.R_new' (Kd.R_new' (Kd.R_new' (Kd.R_new' ho0 (Kd.R_lt (M.Lr HO547))) (Kd.R_lt (M.Lr HO551))) (Kd.R_lt (M.Lr HO555))) (Kd.R_lt (M.Lr HO561))) (Kd.R_lt (M.Lr HO565))) (below_size (M.Lw HB)))
                 have n6_ := M.A_ (blk_below (M.Lb BK477) hb)
                 have n7_ := M.A_ (blk_below (M.Lb BK481) hb)
                 have n8_ := M.A_ (blk_below (M.Lb BK485) hb)
                 have n9_ := M.A_ (blk_below (M.Lb BK569) hb)
                 have n10_ := M.A_ (below_step (M.Lw HB) hb)
                 clear HO547; clear HO551; clear HO555; clear HO561; clear HO565; clear BK477; clear BK481; clear BK485; clear BK569; clear HB; have HO547 := n0_; have HO551 := n1_; have HO555 := n2_; have HO561 := n3_; have HO565 := n4_; have HO579 := n5_; have BK477 := n6_; have BK481 := n7_; have BK485 := n8_; have BK569 := n9_; have HB := n10_; clear n0_ n1_ n2_ n3_ n4_ n5_ n6_ n7_ n8_ n9_ n10_; (try clear hb); (try clear hb2); (try clear hk); (try clear hi); (try clear ho0)
                 refine hK.out _ _ ⟨(blk_cell BK569.out 0).trans rfl, (blk_cell BK569.out 1).trans rfl⟩ (fun hHeld => ?_)
                 clear hK K
                 refine norm_ (a' := ?_) ?_ ?_
                 rotate_left
                 ·show Act.put _ (some 302) _ = _
                  simp only [Act.put, M.sT_, M.s0_, M.s1_, i64_w, i32_w]; rfl
                 refine one_ (i := 41) (N := some 304) #[true, true, true, true, true, true, true, true, true, true, true, true, true, true, true, true, true, true, true, true, true, true, true, true, true, true, true, true, true, true, true, true, true, true, true, true, true, true, true, true, true, true, false, false, false] rfl rfl (one_of HT_.out (by kernel_rfl)) (by decide) (fun K hK => ?_)
                 refine goes_ Try.func33 (by kernel_rfl) rfl #[.agg #[.int .i64 t567, .int .i64 t568]] (by rfl) rfl rfl (by first | rfl | (simp only [M.mt, M.mc, M.mn, M.ld, M.lt]; rfl)) ?_
                 with_reducible refine (spec_SpectrumProfile.calls kj197 t567 t568 t580 _ A245.out).mono ?_
                 rintro e w271 ⟨v581, rfl, ho0, hb⟩
                 refine ⟨_, rfl, ?_⟩
                 have n0_ := M.A_ (Kd.R_elder' (M.Lr HO547) (Kd.R_base ho0) hb)
                 have n1_ := M.A_ (Kd.R_elder' (M.Lr HO551) (Kd.R_base ho0) hb)
                 have n2_ := M.A_ (Kd.R_elder' (M.Lr HO555) (Kd.R_base ho0) hb)
                 have n3_ := M.A_ (Kd.R_elder' (M.Lr HO561) (Kd.R_base ho0) hb)
                 have n4_ := M.A_ (Kd.R_elder' (M.Lr HO565) (Kd.R_base ho0) hb)
                 have n5_ := M.A_ (Kd.R_elder' (M.Lr HO579) (Kd.R_base ho0) hb)
                 have n6_ := M.A_ (Kd.R_lower (Kd.R_new' (Kd.R_new' (Kd.R_new' (Kd.R_new' (Kd.R_new' (Kd.R_new' ho0 (Kd.R_lt (M.Lr HO547))) (Kd.R_lt (M.Lr HO551))) (Kd.R_lt (M.Lr HO555))) (Kd.R_lt (M.Lr HO561))) (Kd.R_lt (M.Lr HO565))) (Kd.R_lt (M.Lr HO579))) (below_size (M.Lw HB)))
                 have n7_ := M.A_ (blk_below (M.Lb BK477) hb)
                 have n8_ := M.A_ (blk_below (M.Lb BK481) hb)
                 have n9_ := M.A_ (blk_below (M.Lb BK485) hb)
                 have n10_ := M.A_ (blk_below (M.Lb BK569) hb)
                 have n11_ := M.A_ (below_step (M.Lw HB) hb)
                 clear HO547; clear HO551; clear HO555; clear HO561; clear HO565; clear HO579; clear BK477; clear BK481; clear BK485; clear BK569; clear HB; have HO547 := n0_; have HO551 := n1_; have HO555 := n2_; have HO561 := n3_; have HO565 := n4_; have HO579 := n5_; have HO582 := n6_; have BK477 := n7_; have BK481 := n8_; have BK485 := n9_; have BK569 := n10_; have HB := n11_; clear n0_ n1_ n2_ n3_ n4_ n5_ n6_ n7_ n8_ n9_ n10_ n11_; (try clear hb); (try clear hb2); (try clear hk); (try clear hi); (try clear ho0)
                 obtain ⟨Ao272, co272, eo272⟩ := Kd.R_slice HO579.out
                 (first | subst eo272 | (injection eo272 with f1_ f2_ f3_; have f4_ := f1_.symm; have f5_ := f3_.symm; clear f1_ f2_ f3_; subst f4_; subst f5_))
                 obtain ⟨Ao273, co273, eo273⟩ := Kd.R_slice HO582.out
                 (first | subst eo273 | (injection eo273 with f1_ f2_ f3_; have f4_ := f1_.symm; have f5_ := f3_.symm; clear f1_ f2_ f3_; subst f4_; subst f5_))
                 refine hK.out _ _ ⟨(blk_cell BK569.out 0).trans rfl, (blk_cell BK569.out 1).trans rfl⟩ (fun hHeld => ?_)
                 clear hK K
                 refine norm_ (a' := ?_) ?_ ?_
                 rotate_left
                 ·show Act.put _ (some 304) _ = _
                  simp only [Act.put, M.sT_, M.s0_, M.s1_, i64_w, i32_w]; rfl
                 refine one_ (i := 42) (N := some 305) #[true, true, true, true, true, true, true, true, true, true, true, true, true, true, true, true, true, true, true, true, true, true, true, true, true, true, true, true, true, true, true, true, true, true, true, true, true, true, true, true, true, true, true, false, false] rfl rfl (one_of HT_.out (by kernel_rfl)) (by decide) (fun K hK => ?_)
                 refine goes_ Try.func11 (by kernel_rfl) rfl #[.slice Ao272 t577.length co272, .slice Ao273 t580.length co273] (by rfl) rfl rfl (by first | rfl | (simp only [M.mt, M.mc, M.mn, M.ld, M.lt]; rfl)) ?_
                 with_reducible refine (laws_sameInts.calls kj197 _ _ t577 _ _ t580 t583 _ ?side1 ?side2 ?side3 ?side4 A246.out).mono ?_
                 (case side1 => exact M.Lc (Kd.R_reads' HO579.out).2.2)
                 (case side2 => exact (Kd.R_reads' HO579.out).2.1)
                 (case side3 => exact M.Lc (Kd.R_reads' HO582.out).2.2)
                 (case side4 => exact (Kd.R_reads' HO582.out).2.1)
                 rintro e w' ⟨rfl, ⟨nd, rfl⟩⟩
                 refine ⟨_, rfl, ?_⟩
                 refine hK.out _ _ ⟨(blk_cell BK569.out 0).trans rfl, (blk_cell BK569.out 1).trans rfl⟩ (fun hHeld => ?_)
                 clear hK K
                 refine norm_ (a' := ?_) ?_ ?_
                 rotate_left
                 ·show Act.put _ (some 305) _ = _
                  simp only [Act.put, M.sT_, M.s0_, M.s1_, i64_w, i32_w]; rfl
                 refine pure_ (i := 43) (N := some 306) (v := ?_) (a' := ?_) #[true, true, true, true, true, true, true, true, true, true, true, true, true, true, true, true, true, true, true, true, true, true, true, true, true, true, true, true, true, true, true, true, true, true, true, true, true, true, true, true, true, true, true, true, false] rfl rfl (any_of HT_.out (by kernel_rfl)) (fun _ _ _ h => h) (Or.inl ⟨by rfl, ?_⟩) ?_ ?_; rotate_left
                 ·intro w'; go_simp; with_reducible rfl
                 rotate_left
                 ·simp only [Act.put, M.sT_, M.s0_, M.s1_, i64_w, i32_w]; rfl
                 refine pure_ (i := 44) (N := some 2) (v := ?_) (a' := ?_) #[true, true, true, true, true, true, true, true, true, true, true, true, true, true, true, true, true, true, true, true, true, true, true, true, true, true, true, true, true, true, true, true, true, true, true, true, true, true, true, true, true, true, true, true, true] rfl rfl (any_of HT_.out (by kernel_rfl)) (fun _ _ _ h => h) (Or.inl ⟨by rfl, ?_⟩) ?_ ?_; rotate_left
                 ·intro w'; go_simp; with_reducible rfl
                 rotate_left
                 ·simp only [Act.put, M.sT_, M.s0_, M.s1_, i64_w, i32_w]; rfl
                 refine done_ (done_of HT_.out (by kernel_rfl)) ?_
                 try go_wp2
                 go_ret
                 exact ⟨by first | rfl | (simp [*, errW_none, errW_some] <;> rfl), M.Lw HB⟩
                ·rw [if_neg c243] at H
                 have c243b0 : (t575 == t576) = false := beq_eq_false_iff_ne.mpr c243
                 have c243b1 : (t575 != t576) = true := bne_iff_ne.mpr c243
                 exact absurd (Option.some.inj H) (by rw [HRT.out]; decide)
               ·rw [if_neg c240] at H
                have c240b0 : (t573 == t574) = false := by simpa using c240
                (try (have c240b1 : decide (t573 = t574) = false := by simpa using c240))
                (try (have c240b2 : (t573 == t574) = false := by simpa using c240))
                (try (have c240b3 : ¬ (t573 = t574) := by simpa using c240))
                clear c240
                exact absurd (Option.some.inj H) (by rw [HRT.out]; decide)
              ·rw [if_neg c237] at H
               have c237b0 : (t571 == t572) = false := beq_eq_false_iff_ne.mpr c237
               have c237b1 : (t571 != t572) = true := bne_iff_ne.mpr c237
               exact absurd (Option.some.inj H) (by rw [HRT.out]; decide)
             ·rw [if_neg c234] at H
              have c234b0 : (t549 == t553) = false := by simpa using c234
              (try (have c234b1 : decide (t549 = t553) = false := by simpa using c234))
              (try (have c234b2 : (t549 == t553) = false := by simpa using c234))
              (try (have c234b3 : ¬ (t549 = t553) := by simpa using c234))
              clear c234
              exact absurd (Option.some.inj H) (by rw [HRT.out]; decide)
            ·replace c233 := Bool.eq_false_iff.mpr c233
             subst c233
             rw [if_neg (show ¬ (false = true) by decide)] at H
             (try dsimp only at H)
             exact absurd (Option.some.inj H) (by rw [HRT.out]; decide)
def laws_FnAffine.Pure : Prop := ∀ (l0 : List Int), l0.length ≤ maxLen → l0.length * 1 ≤ 140737488351232 → (∀ x ∈ l0, (Lit.int .u8 x).wf = true) → ∃ k, laws_FnAffine.f k l0 = some true
theorem laws_FnAffine.walk (P : laws_FnAffine.Pure) (a0 : Option Addr) (len0 cap0 : Nat) (z0 : List Int) (w : World) (w0 : (a0 = none ∧ len0 = 0 ∧ cap0 = 0 ∧ z0 = []) ∨ ∃ x, a0 = some x ∧ len0 ≤ cap0 ∧ cap0 ≤ maxLen ∧ z0.length = cap0 ∧ (∀ i, i < z0.length → w.cell? (x.add i) = some (.int .u8 (z0.getD i 0))) ∧ ∀ n ∈ z0, (Lit.int .u8 n).wf = true) (y0 : len0 * 1 ≤ 140737488351232) :
  Calls Try.prog 3 #[.slice a0 len0 cap0] w fun e w' => e = .returned (.bool true) ∧ Below w.heap.size w w' := by
 obtain ⟨l0, rfl, hr0, hm0, hw0, hc0⟩ := ReadsInt.ofRowC w0
 obtain ⟨k, h⟩ := P l0 hm0 y0 hw0
 refine (laws_FnAffine.calls k _ _ l0 true w (Kd.C_of_reads (d := (0 : Int)) (h1 := fun _ => rfl) hr0) hc0 h rfl).mono ?_
 rintro e w' ⟨rfl, hd⟩
 exact ⟨rfl, hd⟩
end Go.Proofs.Ytodfifkgohjpfaa.Print
