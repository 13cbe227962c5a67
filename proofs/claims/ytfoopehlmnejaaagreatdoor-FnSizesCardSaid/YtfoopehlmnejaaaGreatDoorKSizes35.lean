import Derived.Test.YtfoopehlmnejaaaGreatDoorKSizes2
import Derived.Test.YtfoopehlmnejaaaGreatDoorKSizes23
import Derived.Test.YtfoopehlmnejaaaGreatDoorKSizes33
import Derived.Test.YtfoopehlmnejaaaGreatDoorKSizes34
import Derived.Test.YtfoopehlmnejaaaGreatDoorM35
namespace Go.Proofs.YtfoopehlmnejaaaGreatDoor.Print
open Go.RowKit Go.Proofs.YtfoopehlmnejaaaGreatDoorW.PrintWords Go.Proofs.YtfoopehlmnejaaaGreatDoorW.PrintLast Go.Proofs.YtfoopehlmnejaaaGreatDoorW.PrintMore
attribute [local go_sem] max2_int min2_int max_two min_two max_three min_three max_four min_four   -- for this text's walks alone
set_option linter.unusedVariables false
set_option linter.unusedSimpArgs false
attribute [local go_sem high] eqA25
mutual
def laws_FnSizes.j0 : Nat → List Int → Bool → ByteArray → Int → Bool → Int → Int → Option (Bool)
 | 0, _, _, _, _, _, _, _ => none
 | k + 1, x0, x5, x6, x8, x72, x483000, x483001 => if x72 = true then (some false) else (if x5 = true then ((impl_TableOfFormula.f x6 x483000).bind fun bt489 => ((impl_BestPair.f k x483000 x483001).bind fun bt493 => ((spec_NotTable.f x483000 x483001).bind fun bt497 => (if bt489.2.2 = true then (if (!(bt489.1 == x483000) || (!(bt489.2.1 == x483001))) = true then (some false) else ((impl_IsConstant.f x483000 x483001).bind fun t501 => (if t501 = true then ((impl_VariablesOf.f k x483000 x483001).bind fun t502 => (if x8 < (t502.length : Int) then (some false) else (if bt493.2.2.2 = true then (if bt493.2.2.1 > x8 then (some false) else ((impl_TableBound.f k x483000 x483001).bind fun t505 => (if t505 > bt493.2.2.1 then (some false) else ((impl_IsSeparated.f x483000 x483001 bt493.1 bt493.2.1).bind fun t506 => (if t506 = true then ((impl_PairBound.f k x483000 bt493.1 bt493.2.1).bind fun t507 => (if t507 = bt493.2.2.1 then ((impl_FormulaSize.f bt497.1 bt497.2.1).bind fun t508 => (if t508 = x8 then (laws_FnSizes.j1 k x0) else (some false))) else (some false))) else (some false)))))) else (some false)))) else ((impl_LeavesOf.f x6).bind fun t509 => (if t509 = x8 then ((impl_VariablesOf.f k x483000 x483001).bind fun t510 => (if x8 < (t510.length : Int) then (some false) else (if bt493.2.2.2 = true then (if bt493.2.2.1 > x8 then (some false) else ((impl_TableBound.f k x483000 x483001).bind fun t513 => (if t513 > bt493.2.2.1 then (some false) else ((impl_IsSeparated.f x483000 x483001 bt493.1 bt493.2.1).bind fun t514 => (if t514 = true then ((impl_PairBound.f k x483000 bt493.1 bt493.2.1).bind fun t515 => (if t515 = bt493.2.2.1 then ((impl_FormulaSize.f bt497.1 bt497.2.1).bind fun t516 => (if t516 = x8 then (laws_FnSizes.j1 k x0) else (some false))) else (some false))) else (some false)))))) else (some false)))) else (some false)))))) else (some false))))) else (laws_FnSizes.j1 k x0))
def laws_FnSizes.j1 : Nat → List Int → Option (Bool)
 | 0, _ => none
 | k + 1, x0 => (spec_DrawSizesOf.f k x0).bind fun t517 => ((impl_SizesOf.f t517).bind fun bt518 => ((spec_SizesOf.f t517).bind fun bt522 => (if (bt518.2 != bt522.2) = true then (laws_FnSizes.j2 k x0 true) else ((laws_sameInts.f k bt518.1 bt522.1).bind fun t526 => (if t526 = true then ((impl_LargestSize.f t517).bind fun t527 => ((spec_LargestSize.f k t517).bind fun t528 => (laws_FnSizes.j2 k x0 (t527 != t528)))) else (laws_FnSizes.j2 k x0 true))))))
def laws_FnSizes.j2 : Nat → List Int → Bool → Option (Bool)
 | 0, _, _ => none
 | k + 1, x0, x182 => if x182 = true then (some false) else ((spec_DrawCountOfSize.f k x0).bind fun bt529 => ((spec_DrawEdgesBetween.f k x0).bind fun bt531 => ((spec_DrawPairBound.f k x0).bind fun bt534 => ((spec_DrawTableBound.f k x0).bind fun bt537 => ((spec_DrawBestPair.f k x0).bind fun bt540 => ((impl_BestPair.f k bt540.1 bt540.2).bind fun bt543 => ((spec_BestPair.f k bt540.1 bt540.2).bind fun bt547 => ((spec_DrawIsSeparated.f k x0).bind fun bt551 => ((impl_CountOfSize.f k bt529.1 bt529.2).bind fun t556 => ((spec_CountOfSize.f k bt529.1 bt529.2).bind fun t557 => (if t556 = t557 then ((impl_EdgesBetween.f k bt531.1 bt531.2.1 bt531.2.2).bind fun t558 => ((spec_EdgesBetween.f k bt531.1 bt531.2.1 bt531.2.2).bind fun t559 => (if t558 = t559 then ((impl_PairBound.f k bt534.1 bt534.2.1 bt534.2.2).bind fun t560 => ((spec_PairBound.f k bt534.1 bt534.2.1 bt534.2.2).bind fun t561 => (if t560 = t561 then ((impl_TableBound.f k bt537.1 bt537.2).bind fun t562 => ((spec_TableBound.f k bt537.1 bt537.2).bind fun t563 => (if t562 = t563 then (if bt543.1 = bt547.1 then (if bt543.2.1 = bt547.2.1 then (if bt543.2.2.1 = bt547.2.2.1 then (if (bt543.2.2.2 == bt547.2.2.2) = true then ((impl_IsSeparated.f bt551.1 bt551.2.1 bt551.2.2.1 bt551.2.2.2).bind fun t564 => ((spec_IsSeparated.f bt551.1 bt551.2.1 bt551.2.2.1 bt551.2.2.2).bind fun t565 => (some (t564 == t565)))) else (some false)) else (some false)) else (some false)) else (some false)) else (some false)))) else (some false)))) else (some false)))) else (some false))))))))))))
end
def laws_FnSizes.f (k : Nat) (l0 : List Int) : Option (Bool) := (laws_big.f l0).bind fun t479 => (if t479 = true then (some true) else ((spec_DrawSmallestFormula.f k l0).bind fun bt480 => ((impl_SmallestFormula.f k bt480.1 bt480.2).bind fun bt483 => ((spec_SmallestFormula.f k bt480.1 bt480.2).bind fun bt485 => ((impl_FormulaSize.f bt480.1 bt480.2).bind fun t487 => (if bt483.1.toList = bt485.1.toList then (if (bt483.2 != bt485.2) = true then (laws_FnSizes.j0 k l0 bt483.2 bt485.1 t487 true bt480.1 bt480.2) else ((spec_FormulaSize.f bt480.1 bt480.2).bind fun t488 => (laws_FnSizes.j0 k l0 bt483.2 bt485.1 t487 (t487 != t488) bt480.1 bt480.2))) else (laws_FnSizes.j0 k l0 bt483.2 bt485.1 t487 true bt480.1 bt480.2)))))))
theorem laws_FnSizes.j0_dead {k : Nat} {y0 : List Int} {y1 : Bool} {y2 : ByteArray} {y3 : Int} {y5 : Int} {y6 : Int} {r : Bool} (h : laws_FnSizes.j0 k y0 y1 y2 y3 true y5 y6 = some r) (hr : r = true) : False := by
 cases k with
 | zero => rw [laws_FnSizes.j0] at h; cases h
 | succ k => rw [laws_FnSizes.j0, if_pos rfl] at h; cases (Option.some.inj h).trans hr
theorem laws_FnSizes.j2_dead {k : Nat} {y0 : List Int} {r : Bool} (h : laws_FnSizes.j2 k y0 true = some r) (hr : r = true) : False := by
 cases k with
 | zero => rw [laws_FnSizes.j2] at h; cases h
 | succ k => rw [laws_FnSizes.j2, if_pos rfl] at h; cases (Option.some.inj h).trans hr
def laws_FnSizes.T28 : Bool × List (List Nat × List Nat) := (true, [([], []), ([], []), ([0, 1], [0, 1]), ([], []), ([], []), ([3, 4, 2], [3, 4]), ([2, 5], [2, 5]), ([6, 5], [6]), ([7], [7]), ([7], [7]), ([7], [7]), ([8, 9, 10, 7, 7], [7, 8, 9, 10]), ([7], [7]), ([7], [7]), ([7], [7]), ([12, 13, 14, 11, 7], [7, 12, 13, 14]), ([11, 15, 7], [7, 11, 15]), ([7, 16], [7, 16]), ([17, 15], [17]), ([18], [18]), ([18], [18]), ([18], [18]), ([19, 20, 21, 18, 18], [18, 19, 20, 21]), ([18], [18]), ([18], [18]), ([18], [18]), ([23, 24, 25, 22, 18], [18, 23, 24, 25]), ([22, 26, 18], [18, 22, 26]), ([18, 27], [18, 27]), ([28, 26], [28]), ([29], [29]), ([30, 29, 29], [29, 30]), ([29], [29]), ([32, 31, 29], [29, 32]), ([31, 33, 29], [29, 31, 33]), ([29, 34], [29, 34]), ([35, 33], [35]), ([36], [36]), ([36], [36]), ([37, 38, 36], [36, 37, 38]), ([36, 39], [36, 39]), ([40, 36], [40]), ([41], [41]), ([41], [41]), ([42, 43, 41], [41, 42, 43]), ([41, 44], [41, 44]), ([45, 41], [45]), ([46], [46]), ([46], [46]), ([47, 48, 46], [46, 47, 48]), ([46, 49], [46, 49]), ([50, 46], [50]), ([51], [51]), ([51], [51]), ([52, 53, 51], [51, 52, 53]), ([51, 54], [51, 54]), ([55, 51], [55]), ([56], [56]), ([56], [56]), ([56], [56]), ([57, 58, 59, 56, 56], [56, 57, 58, 59]), ([56], [56]), ([56], [56]), ([56], [56]), ([61, 62, 63, 60, 56], [56, 61, 62, 63]), ([60, 64, 56], [56, 60, 64]), ([56, 65], [56, 65]), ([66, 64, 0, 1, 2, 3, 4, 5, 6, 7, 8, 9, 10, 11, 12, 13, 14, 15, 16, 17, 18, 19, 20, 21, 22, 23, 24, 25, 26, 27, 28, 29, 30, 31, 32, 33, 34, 35, 36, 37, 38, 39, 40, 41, 42, 43, 44, 45, 46, 47, 48, 49, 50, 51, 52, 53, 54, 55, 56, 57, 58, 59, 60, 61, 62, 63, 64, 65, 66], [66])])
def laws_FnSizes.B28 : List Nat := [0, 0, 3, 0, 0, 31, 63, 127, 255, 255, 255, 2047, 255, 255, 255, 32767, 65535, 131071, 262143, 524287, 524287, 524287, 4194303, 524287, 524287, 524287, 67108863, 134217727, 268435455, 536870911, 1073741823, 2147483647, 1073741823, 8589934591, 17179869183, 34359738367, 68719476735, 137438953471, 137438953471, 549755813887, 1099511627775, 2199023255551, 4398046511103, 4398046511103, 17592186044415, 35184372088831, 70368744177663, 140737488355327, 140737488355327, 562949953421311, 1125899906842623, 2251799813685247, 4503599627370495, 4503599627370495, 18014398509481983, 36028797018963967, 72057594037927935, 144115188075855871, 144115188075855871, 144115188075855871, 1152921504606846975, 144115188075855871, 144115188075855871, 144115188075855871, 18446744073709551615, 36893488147419103231, 73786976294838206463, 147573952589676412927]
theorem laws_FnSizes.tab28 : rtab .any (opsOf Tryz.f3 28) = laws_FnSizes.T28 := by kernel_rfl
theorem laws_FnSizes.bits28 : waitsOk laws_FnSizes.T28.2 laws_FnSizes.B28 = true := by kernel_rfl
set_option maxHeartbeats 8000000 in
set_option maxRecDepth 100000 in
theorem laws_FnSizes.calls (k : Nat) (A0 : Option Addr) (c0 : Nat) (l0 : List Int) (r : Bool) (w : World) (hr0 : Kd.C (Kd.int .u8) w A0 l0.length l0) (hc0 : l0.length ≤ c0) (h : laws_FnSizes.f k l0 = some r) (hr_ : r = true) :
  Calls Tryz.prog 3 #[.slice A0 l0.length c0] w fun e w' => e = .returned (.bool r) ∧ Below w.heap.size w w' := by
 have HRT := A_ hr_; clear hr_
 have hu25 := Tryz.underlying25
 have HR0 := A_ hr0; have HC0 := A_ hc0; clear hr0 hc0
 have HB := A_ (Below.refl w.heap.size w)
 have H : ((laws_big.f l0).bind fun t479 => (if t479 = true then (some true) else ((spec_DrawSmallestFormula.f k l0).bind fun bt480 => ((impl_SmallestFormula.f k bt480.1 bt480.2).bind fun bt483 => ((spec_SmallestFormula.f k bt480.1 bt480.2).bind fun bt485 => ((impl_FormulaSize.f bt480.1 bt480.2).bind fun t487 => (if bt483.1.toList = bt485.1.toList then (if (bt483.2 != bt485.2) = true then (laws_FnSizes.j0 k l0 bt483.2 bt485.1 t487 true bt480.1 bt480.2) else ((spec_FormulaSize.f bt480.1 bt480.2).bind fun t488 => (laws_FnSizes.j0 k l0 bt483.2 bt485.1 t487 (t487 != t488) bt480.1 bt480.2))) else (laws_FnSizes.j0 k l0 bt483.2 bt485.1 t487 true bt480.1 bt480.2)))))))) = some r := h
 clear h; replace H := Option.bind_eq_some_iff.mp H; obtain ⟨t479, A20, H⟩ := H; (try dsimp only at H); have A2 := A_ A20; clear A20
 by_cases c3 : t479 = true
 ·subst c3
  rw [if_pos rfl] at H
  (try dsimp only at H)
  obtain rfl := Option.some.inj H
  go_enter Tryz.func3, Tryz.ntmps3
  go_wp2_with (first | ((with_reducible refine gate_callee (f := 4) rfl ?_); refine goesL_ (some 44) rfl rfl Tryz.func4 kr_ rfl #[.slice A0 l0.length c0] rfl q2_ ?_; (with_reducible refine (laws_big.calls _ _ l0 true _ ?side1 ?side2 A2.out).mono ?_); (case side1 => exact q13_); (case side2 => exact HC0.out); rintro e w' ⟨rfl, ⟨nd, rfl⟩⟩; refine ⟨_, rfl, ?_⟩))
  go_ret
  exact ⟨q6_, M.Lw HB⟩
 ·replace c3 := Bool.eq_false_iff.mpr c3
  subst c3
  rw [if_neg (show ¬ (false = true) by decide)] at H
  (try dsimp only at H); replace H := Option.bind_eq_some_iff.mp H; obtain ⟨⟨t480, t481⟩, A40, H⟩ := H; (try dsimp only at H); have A4 := A_ A40; clear A40; replace H := Option.bind_eq_some_iff.mp H; obtain ⟨⟨t483, t484⟩, A50, H⟩ := H; (try dsimp only at H); have A5 := A_ A50; clear A50; replace H := Option.bind_eq_some_iff.mp H; obtain ⟨⟨t485, t486⟩, A60, H⟩ := H; (try dsimp only at H); have A6 := A_ A60; clear A60; replace H := Option.bind_eq_some_iff.mp H; obtain ⟨t487, A70, H⟩ := H; (try dsimp only at H); have A7 := A_ A70; clear A70; have HC8 := A_ H; clear H
  go_enter Tryz.func3, Tryz.ntmps3
  go_upto_region 7 with (first | ((with_reducible refine gate_callee (f := 4) rfl ?_); refine goesL_ (some 44) rfl rfl Tryz.func4 kr_ rfl #[.slice A0 l0.length c0] rfl q2_ ?_; (with_reducible refine (laws_big.calls _ _ l0 false _ ?side1 ?side2 A2.out).mono ?_); (case side1 => exact q13_); (case side2 => exact HC0.out); rintro e w' ⟨rfl, ⟨nd, rfl⟩⟩; refine ⟨_, rfl, ?_⟩) | ((with_reducible refine gate_callee (f := 5) rfl ?_); refine goesL_ (some 46) rfl rfl Tryz.func5 kr_ rfl #[.slice A0 l0.length c0] rfl q2_ ?_; (with_reducible refine (spec_DrawSmallestFormula.calls k _ _ l0 t480 t481 _ ?side1 ?side2 A4.out).mono ?_); (case side1 => exact q13_); (case side2 => exact HC0.out); rintro e w9 ⟨rfl, hb⟩; refine ⟨_, rfl, ?_⟩; replace HB := A_ (below_step q0_ hb); clear hb) | ((with_reducible refine gate_dst (N := 3) rfl ?_); (try (refine gate_guard (by rfl) ?_; dsimp only)); refine box_event ?hg (N := 3) ?hd (cs := #[.int .i64 0, .int .i64 0]) (t := 25) ?hr ?_; (case hd => rfl); (case hg => rfl); (case hr => first | (go_simp; done) | (go_simp; rfl)); intro gb482 hg w10 hbox hb; have BK482 := A_ (hbox); have GW482 := A_ ((by rw [hg]; exact (below_size q0_) : w.heap.size ≤ gb482)); have GE482 := A_ ((by rw [hg]; exact (below_size q0_) : w.heap.size ≤ gb482)); replace HB := A_ (below_step q0_ hb); clear hb hbox hg; have hcz11_0 := c20_ BK482; have hcz11_1 := c21_ BK482; have hfz11_0 := blk_frozen BK482.out 0; have hfz11_1 := blk_frozen BK482.out 1) | ((with_reducible refine gate_callee (f := 6) rfl ?_); refine goesL_ (some 49) rfl rfl Tryz.func6 kr_ rfl #[.agg #[.int .i64 t480, .int .i64 t481]] rfl q2_ ?_; (with_reducible refine (impl_SmallestFormula.calls k t480 t481 t483 t484 _ A5.out).mono ?_); rintro e w12 ⟨rfl, hb⟩; refine ⟨_, rfl, ?_⟩; replace BK482 := A_ (blk_below (g := gb482) (o := .cells #[.int .i64 t480, .int .i64 t481] 25 (0, 0)) (by (with_reducible repeat (first | refine blk_drewN ?_ _ | refine blk_drew ?_ | refine blk_alloc ?_ _)); refine blk_put (cs := #[.int .i64 t480, .int .i64 0]) ?_ 1 _ rfl; (with_reducible repeat (first | refine blk_drewN ?_ _ | refine blk_drew ?_ | refine blk_alloc ?_ _)); refine blk_put (cs := #[.int .i64 0, .int .i64 0]) ?_ 0 _ rfl; (with_reducible repeat (first | refine blk_drewN ?_ _ | refine blk_drew ?_ | refine blk_alloc ?_ _)); exact BK482.out) hb); replace HB := A_ (below_step q0_ hb); clear hb; have hcz13_0 := c20_ BK482; have hcz13_1 := c21_ BK482; have hfz13_0 := blk_frozen BK482.out 0; have hfz13_1 := blk_frozen BK482.out 1) | ((with_reducible refine gate_callee (f := 7) rfl ?_); refine goesL_ (some 54) rfl rfl Tryz.func7 kr_ rfl #[.agg #[.int .i64 t480, .int .i64 t481]] rfl q2_ ?_; (with_reducible refine (spec_SmallestFormula.calls k t480 t481 t485 t486 _ A6.out).mono ?_); rintro e w14 ⟨rfl, hb⟩; refine ⟨_, rfl, ?_⟩; replace BK482 := A_ (blk_below (M.Lb BK482) hb); replace HB := A_ (below_step q0_ hb); clear hb; have hcz15_0 := c20_ BK482; have hcz15_1 := c21_ BK482; have hfz15_0 := blk_frozen BK482.out 0; have hfz15_1 := blk_frozen BK482.out 1) | ((with_reducible refine gate_callee (f := 8) rfl ?_); refine goesL_ (some 58) rfl rfl Tryz.func8 kr_ rfl #[.agg #[.int .i64 t480, .int .i64 t481]] rfl q2_ ?_; (with_reducible refine (impl_FormulaSize.calls t480 t481 t487 _ A7.out).mono ?_); rintro e w16 ⟨rfl, hb⟩; refine ⟨_, rfl, ?_⟩; replace BK482 := A_ (blk_below (M.Lb BK482) hb); replace HB := A_ (below_step q0_ hb); clear hb))
  (try simp only [Act.put, M.sT_, M.s0_, M.s1_])
  go_cut [72] (fun v72 wc => ∃ (kq : Nat) (x72_7 : Bool), v72 = .bool x72_7 ∧ Aside0 (laws_FnSizes.j0 kq l0 t484 t485 t487 x72_7 t480 t481 = some r) ∧ Aside0 (kq ≤ k) ∧ Aside0 (wc.heap[gb482]? = some (.cells #[.int .i64 t480, .int .i64 t481] 25 (0, 0))) ∧ Aside0 (Below w.heap.size w wc))
  case first =>
   as_aux_lemma =>
   have H := HC8.out
   clear HC8
   by_cases c17 : t483.toList = t485.toList
   ·rw [if_pos c17] at H
    have c17b0 : (t483.toList == t485.toList) = true := beq_iff_eq.mpr c17
    have c17b1 : (t483.toList != t485.toList) = false := bne_eq_false_iff_eq.mpr c17
    clear c17
    (first | rw [c17b0] | (simp only [i64_w, i32_w]; rw [c17b0]) | skip)
    by_cases c18 : (t484 != t486) = true
    ·rw [if_pos c18] at H
     have c18b0 : (t484 != t486) = true := c18
     (try (have c18b1 : decide (t484 = t486) = false := by simpa using c18))
     (try (have c18b2 : (t484 == t486) = false := by simpa using c18))
     (try (have c18b3 : ¬ (t484 = t486) := by simpa using c18))
     clear c18
     first | exact (laws_FnSizes.j0_dead H HRT.out).elim | exact (laws_FnSizes.j2_dead H HRT.out).elim
    ·rw [if_neg c18] at H
     have c18b0 : (t484 != t486) = false := by simpa using c18
     (try (have c18b1 : decide (t484 = t486) = true := by simpa using c18))
     (try (have c18b2 : (t484 == t486) = true := by simpa using c18))
     clear c18; replace H := Option.bind_eq_some_iff.mp H; obtain ⟨t488, A190, H⟩ := H
     replace H : (laws_FnSizes.j0 k l0 t484 t485 t487 (t487 != t488) t480 t481) = some r := H
     have A19 := A_ A190; clear A190
     have H' := A_ H
     clear H
     have hcz20_0 := c20_ BK482
     have hcz20_1 := c21_ BK482
     have hfz20_0 := blk_frozen BK482.out 0
     have hfz20_1 := blk_frozen BK482.out 1
     go_wp2_with (first | (go_at_call 9; (with_reducible refine (spec_FormulaSize.calls t480 t481 t488 _ A19.out).mono ?_); rintro e w21 ⟨rfl, hb⟩; replace BK482 := A_ (blk_below (M.Lb BK482) hb); replace HB := A_ (below_step (M.Lw HB) hb); clear hb))
     go_meet
     case rel => exact ⟨_, ((t487 != t488)), q1_, H', ⟨q12_⟩, ⟨M.Lb BK482⟩, ⟨M.Lw HB⟩⟩
   ·rw [if_neg c17] at H
    have c17b0 : (t483.toList == t485.toList) = false := beq_eq_false_iff_ne.mpr c17
    have c17b1 : (t483.toList != t485.toList) = true := bne_iff_ne.mpr c17
    (first | rw [c17b0] | (simp only [i64_w, i32_w]; rw [c17b0]) | skip)
    first | exact (laws_FnSizes.j0_dead H HRT.out).elim | exact (laws_FnSizes.j2_dead H HRT.out).elim
  case rest =>
   as_aux_lemma =>
   clear HC8; clear hcz11_0 hcz11_1 hcz13_0 hcz13_1 hcz15_0 hcz15_1 hfz11_0 hfz11_1 hfz13_0 hfz13_1 hfz15_0 hfz15_1
   obtain ⟨kq, x72_7, rfl, HA, HJ7, BK482, HB⟩ := hcut
   cases kq with
   | zero => exact absurd HA.out (by simp [laws_FnSizes.j0])
   | succ kj7 =>
    have H := HA.out
    clear HA
    simp only [laws_FnSizes.j0] at H
    by_cases c22 : x72_7 = true
    ·subst c22
     rw [if_pos rfl] at H
     (try dsimp only at H)
     exact absurd (Option.some.inj H) (by rw [HRT.out]; decide)
    ·replace c22 := Bool.eq_false_iff.mpr c22
     subst c22
     rw [if_neg (show ¬ (false = true) by decide)] at H
     (try dsimp only at H); have HC23 := A_ H; clear H
     go_upto_if 73 with (fail)
     go_cut [] (fun wc => ∃ (kq : Nat), Aside0 (laws_FnSizes.j1 kq l0 = some r) ∧ Aside0 (kq ≤ kj7) ∧ Aside0 (wc.heap[gb482]? = some (.cells #[.int .i64 t480, .int .i64 t481] 25 (0, 0))) ∧ Aside0 (Below w.heap.size w wc))
     case first =>
      as_aux_lemma =>
      have H := HC23.out
      clear HC23
      by_cases c24 : t484 = true
      ·subst c24
       rw [if_pos rfl] at H
       (try dsimp only at H); replace H := Option.bind_eq_some_iff.mp H; obtain ⟨⟨t489, t490, t491⟩, A250, H⟩ := H; (try dsimp only at H); have A25 := A_ A250; clear A250; replace H := Option.bind_eq_some_iff.mp H; obtain ⟨⟨t493, t494, t495, t496⟩, A260, H⟩ := H; (try dsimp only at H); have A26 := A_ A260; clear A260; replace H := Option.bind_eq_some_iff.mp H; obtain ⟨⟨t497, t498, t499⟩, A270, H⟩ := H; (try dsimp only at H); have A27 := A_ A270; clear A270
       by_cases c28 : t491 = true
       ·subst c28
        rw [if_pos rfl] at H
        (try dsimp only at H)
        by_cases c29 : (!(t489 == t480) || (!(t490 == t481))) = true
        ·rw [if_pos c29] at H
         have c29b0 : (!(t489 == t480) || (!(t490 == t481))) = true := c29
         clear c29
         (first | rw [c29b0] | (simp only [i64_w, i32_w]; rw [c29b0]) | skip)
         exact absurd (Option.some.inj H) (by rw [HRT.out]; decide)
        ·rw [if_neg c29] at H
         have c29b0 : (!(t489 == t480) || (!(t490 == t481))) = false := by simpa using c29
         clear c29
         (first | rw [c29b0] | (simp only [i64_w, i32_w]; rw [c29b0]) | skip)
         replace H := Option.bind_eq_some_iff.mp H; obtain ⟨t501, A450, H⟩ := H; (try dsimp only at H); have A45 := A_ A450; clear A450
         by_cases c46 : t501 = true
         ·subst c46
          rw [if_pos rfl] at H
          (try dsimp only at H); replace H := Option.bind_eq_some_iff.mp H; obtain ⟨t502, A470, H⟩ := H; (try dsimp only at H); have A47 := A_ A470; clear A470
          by_cases c48 : t487 < (t502.length : Int)
          ·rw [if_pos c48] at H
           have c48b0 : decide (t487 < (t502.length : Int)) = true := decide_eq_true c48
           clear c48
           exact absurd (Option.some.inj H) (by rw [HRT.out]; decide)
          ·rw [if_neg c48] at H
           have c48b0 : decide (t487 < (t502.length : Int)) = false := decide_eq_false c48
           clear c48
           by_cases c68 : t496 = true
           ·subst c68
            rw [if_pos rfl] at H
            (try dsimp only at H)
            by_cases c69 : t495 > t487
            ·rw [if_pos c69] at H
             have c69b0 : decide (t487 < t495) = true := decide_eq_true c69
             clear c69
             exact absurd (Option.some.inj H) (by rw [HRT.out]; decide)
            ·rw [if_neg c69] at H
             have c69b0 : decide (t487 < t495) = false := decide_eq_false c69
             clear c69; replace H := Option.bind_eq_some_iff.mp H; obtain ⟨t505, A890, H⟩ := H; (try dsimp only at H); have A89 := A_ A890; clear A890
             by_cases c90 : t505 > t495
             ·rw [if_pos c90] at H
              have c90b0 : decide (t495 < t505) = true := decide_eq_true c90
              clear c90
              exact absurd (Option.some.inj H) (by rw [HRT.out]; decide)
             ·rw [if_neg c90] at H
              have c90b0 : decide (t495 < t505) = false := decide_eq_false c90
              clear c90; replace H := Option.bind_eq_some_iff.mp H; obtain ⟨t506, A1120, H⟩ := H; (try dsimp only at H); have A112 := A_ A1120; clear A1120
              by_cases c113 : t506 = true
              ·subst c113
               rw [if_pos rfl] at H
               (try dsimp only at H); replace H := Option.bind_eq_some_iff.mp H; obtain ⟨t507, A1140, H⟩ := H; (try dsimp only at H); have A114 := A_ A1140; clear A1140
               by_cases c115 : t507 = t495
               ·rw [if_pos c115] at H
                have c115b0 : (t507 == t495) = true := beq_iff_eq.mpr c115
                have c115b1 : (t507 != t495) = false := bne_eq_false_iff_eq.mpr c115
                clear c115; replace H := Option.bind_eq_some_iff.mp H; obtain ⟨t508, A1160, H⟩ := H
                replace H : (if t508 = t487 then (laws_FnSizes.j1 kj7 l0) else (some false)) = some r := H
                have A116 := A_ A1160; clear A1160
                by_cases c117 : t508 = t487
                ·rw [if_pos c117] at H
                 have c117b0 : (t508 == t487) = true := beq_iff_eq.mpr c117
                 have c117b1 : (t508 != t487) = false := bne_eq_false_iff_eq.mpr c117
                 clear c117
                 have H' := A_ H
                 clear H
                 have hcz118_0 := c20_ BK482
                 have hcz118_1 := c21_ BK482
                 have hfz118_0 := blk_frozen BK482.out 0
                 have hfz118_1 := blk_frozen BK482.out 1
                 go_wp2_with (first | ((with_reducible refine gate_callee (f := 10) rfl ?_); refine goesL_ (some 78) rfl rfl Tryz.func10 kr_ rfl #[.string t485, .int .i64 t480] rfl q2_ ?_; (with_reducible refine (impl_TableOfFormula.calls t485 t480 t489 t490 true _ A25.out).mono ?_); rintro e w119 ⟨rfl, hb⟩; refine ⟨_, rfl, ?_⟩; replace BK482 := A_ (blk_below (M.Lb BK482) hb); replace HB := A_ (below_step q0_ hb); clear hb) | ((with_reducible refine gate_dst (N := 9) rfl ?_); (try (refine gate_guard (by rfl) ?_; dsimp only)); refine box_event ?hg (N := 9) ?hd (cs := #[.int .i64 0, .int .i64 0]) (t := 25) ?hr ?_; (case hd => rfl); (case hg => rfl); (case hr => first | (go_simp; done) | (go_simp; rfl)); intro gb492 hg w120 hbox hb; have BK492 := A_ (hbox); have GW492 := A_ ((by rw [hg]; exact (below_size q0_) : w.heap.size ≤ gb492)); have GE492 := A_ ((by rw [hg]; exact (below_size q0_) : w.heap.size ≤ gb492)); replace HB := A_ (below_step q0_ hb); have NB482_492 := A_ ((by rw [hg]; exact Nat.ne_of_lt (blk_lt (M.Lb BK482)) : gb482 ≠ gb492)); have NB492_482 := A_ ((by rw [hg]; exact Nat.ne_of_gt (blk_lt (M.Lb BK482)) : gb492 ≠ gb482)); replace BK482 := A_ (blk_below (M.Lb BK482) hb); clear hb hbox hg; have hnb121 := NB492_482.out; have hnc121 := NB482_492.out; have hcz122_0 := c20_ BK492; have hcz122_1 := c21_ BK492; have hfz122_0 := blk_frozen BK492.out 0; have hfz122_1 := blk_frozen BK492.out 1; have hcz123_0 := c20_ BK482; have hcz123_1 := c21_ BK482; have hfz123_0 := blk_frozen BK482.out 0; have hfz123_1 := blk_frozen BK482.out 1) | ((with_reducible refine gate_callee (f := 11) rfl ?_); refine goesL_ (some 83) rfl rfl Tryz.func11 kr_ rfl #[.agg #[.int .i64 t480, .int .i64 t481]] rfl q2_ ?_; (with_reducible refine (impl_BestPair.calls kj7 t480 t481 t493 t494 t495 true _ A26.out).mono ?_); rintro e w124 ⟨rfl, hb⟩; refine ⟨_, rfl, ?_⟩; replace BK482 := A_ (blk_below (g := gb482) (o := .cells #[.int .i64 t480, .int .i64 t481] 25 (0, 0)) (by (with_reducible repeat (first | refine blk_drewN ?_ _ | refine blk_drew ?_ | refine blk_alloc ?_ _)); refine blk_far ?_ NB482_492.out _; (with_reducible repeat (first | refine blk_drewN ?_ _ | refine blk_drew ?_ | refine blk_alloc ?_ _)); refine blk_far ?_ NB482_492.out _; (with_reducible repeat (first | refine blk_drewN ?_ _ | refine blk_drew ?_ | refine blk_alloc ?_ _)); exact BK482.out) hb); replace BK492 := A_ (blk_below (g := gb492) (o := .cells #[.int .i64 t489, .int .i64 t490] 25 (0, 0)) (by (with_reducible repeat (first | refine blk_drewN ?_ _ | refine blk_drew ?_ | refine blk_alloc ?_ _)); refine blk_put (cs := #[.int .i64 t489, .int .i64 0]) ?_ 1 _ rfl; (with_reducible repeat (first | refine blk_drewN ?_ _ | refine blk_drew ?_ | refine blk_alloc ?_ _)); refine blk_put (cs := #[.int .i64 0, .int .i64 0]) ?_ 0 _ rfl; (with_reducible repeat (first | refine blk_drewN ?_ _ | refine blk_drew ?_ | refine blk_alloc ?_ _)); exact BK492.out) hb); replace HB := A_ (below_step q0_ hb); clear hb; have hcz125_0 := c20_ BK482; have hcz125_1 := c21_ BK482; have hfz125_0 := blk_frozen BK482.out 0; have hfz125_1 := blk_frozen BK482.out 1) | ((with_reducible refine gate_callee (f := 12) rfl ?_); refine goesL_ (some 90) rfl rfl Tryz.func12 kr_ rfl #[.agg #[.int .i64 t480, .int .i64 t481]] rfl q2_ ?_; (with_reducible refine (spec_NotTable.calls t480 t481 t497 t498 t499 _ A27.out).mono ?_); rintro e w126 ⟨rfl, hb⟩; refine ⟨_, rfl, ?_⟩; replace BK482 := A_ (blk_below (M.Lb BK482) hb); replace BK492 := A_ (blk_below (M.Lb BK492) hb); replace HB := A_ (below_step q0_ hb); clear hb) | ((with_reducible refine gate_dst (N := 15) rfl ?_); (try (refine gate_guard (by rfl) ?_; dsimp only)); refine box_event ?hg (N := 15) ?hd (cs := #[.int .i64 0, .int .i64 0]) (t := 25) ?hr ?_; (case hd => rfl); (case hg => rfl); (case hr => first | (go_simp; done) | (go_simp; rfl)); intro gb500 hg w127 hbox hb; have BK500 := A_ (hbox); have GW500 := A_ ((by rw [hg]; exact (below_size q0_) : w.heap.size ≤ gb500)); have GE500 := A_ ((by rw [hg]; exact (below_size q0_) : w.heap.size ≤ gb500)); replace HB := A_ (below_step q0_ hb); have NB482_500 := A_ ((by rw [hg]; exact Nat.ne_of_lt (blk_lt (M.Lb BK482)) : gb482 ≠ gb500)); have NB500_482 := A_ ((by rw [hg]; exact Nat.ne_of_gt (blk_lt (M.Lb BK482)) : gb500 ≠ gb482)); replace BK482 := A_ (blk_below (M.Lb BK482) hb); have NB492_500 := A_ ((by rw [hg]; exact Nat.ne_of_lt (blk_lt (M.Lb BK492)) : gb492 ≠ gb500)); have NB500_492 := A_ ((by rw [hg]; exact Nat.ne_of_gt (blk_lt (M.Lb BK492)) : gb500 ≠ gb492)); replace BK492 := A_ (blk_below (M.Lb BK492) hb); clear hb hbox hg; have hnb128 := NB500_482.out; have hnc128 := NB482_500.out; have hnb129 := NB500_492.out; have hnc129 := NB492_500.out; have hcz130_0 := c20_ BK500; have hcz130_1 := c21_ BK500; have hfz130_0 := blk_frozen BK500.out 0; have hfz130_1 := blk_frozen BK500.out 1; have hcz131_0 := c20_ BK492; have hcz131_1 := c21_ BK492; have hfz131_0 := blk_frozen BK492.out 0; have hfz131_1 := blk_frozen BK492.out 1; have hcz132_0 := c20_ BK482; have hcz132_1 := c21_ BK482; have hfz132_0 := blk_frozen BK482.out 0; have hfz132_1 := blk_frozen BK482.out 1) | (go_at_call 13; (with_reducible refine (impl_IsConstant.calls t480 t481 true _ A45.out).mono ?_); rintro e w133 ⟨rfl, hb⟩; replace BK482 := A_ (blk_below (g := gb482) (o := .cells #[.int .i64 t480, .int .i64 t481] 25 (0, 0)) (by (with_reducible repeat (first | refine blk_drewN ?_ _ | refine blk_drew ?_ | refine blk_alloc ?_ _)); refine blk_far ?_ NB482_500.out _; (with_reducible repeat (first | refine blk_drewN ?_ _ | refine blk_drew ?_ | refine blk_alloc ?_ _)); refine blk_far ?_ NB482_500.out _; (with_reducible repeat (first | refine blk_drewN ?_ _ | refine blk_drew ?_ | refine blk_alloc ?_ _)); exact BK482.out) hb); replace BK492 := A_ (blk_below (g := gb492) (o := .cells #[.int .i64 t489, .int .i64 t490] 25 (0, 0)) (by (with_reducible repeat (first | refine blk_drewN ?_ _ | refine blk_drew ?_ | refine blk_alloc ?_ _)); refine blk_far ?_ NB492_500.out _; (with_reducible repeat (first | refine blk_drewN ?_ _ | refine blk_drew ?_ | refine blk_alloc ?_ _)); refine blk_far ?_ NB492_500.out _; (with_reducible repeat (first | refine blk_drewN ?_ _ | refine blk_drew ?_ | refine blk_alloc ?_ _)); exact BK492.out) hb); replace BK500 := A_ (blk_below (g := gb500) (o := .cells #[.int .i64 t497, .int .i64 t498] 25 (0, 0)) (by (with_reducible repeat (first | refine blk_drewN ?_ _ | refine blk_drew ?_ | refine blk_alloc ?_ _)); refine blk_put (cs := #[.int .i64 t497, .int .i64 0]) ?_ 1 _ rfl; (with_reducible repeat (first | refine blk_drewN ?_ _ | refine blk_drew ?_ | refine blk_alloc ?_ _)); refine blk_put (cs := #[.int .i64 0, .int .i64 0]) ?_ 0 _ rfl; (with_reducible repeat (first | refine blk_drewN ?_ _ | refine blk_drew ?_ | refine blk_alloc ?_ _)); exact BK500.out) hb); replace HB := A_ (below_step q0_ hb); clear hb; have hcz134_0 := c20_ BK482; have hcz134_1 := c21_ BK482; have hfz134_0 := blk_frozen BK482.out 0; have hfz134_1 := blk_frozen BK482.out 1) | (go_at_call 15; (with_reducible refine (impl_VariablesOf.calls kj7 t480 t481 t502 _ A47.out).mono ?_); rintro e w135 ⟨v503, rfl, ho0, hb⟩; have HO504 := A_ (Kd.R_lower ho0 (below_size q0_)); replace BK482 := A_ (blk_below (M.Lb BK482) hb); replace BK492 := A_ (blk_below (M.Lb BK492) hb); replace BK500 := A_ (blk_below (M.Lb BK500) hb); replace HB := A_ (below_step q0_ hb); clear hb ho0; obtain ⟨Ao136, co136, eo136⟩ := Kd.R_slice HO504.out; subst eo136; have hcz137_0 := c20_ BK482; have hcz137_1 := c21_ BK482; have hfz137_0 := blk_frozen BK482.out 0; have hfz137_1 := blk_frozen BK482.out 1) | (go_at_call 16; (with_reducible refine (impl_TableBound.calls kj7 t480 t481 t505 _ A89.out).mono ?_); rintro e w138 ⟨rfl, hb⟩; replace HO504 := A_ (Kd.R_below (M.Lr HO504) hb); replace BK482 := A_ (blk_below (M.Lb BK482) hb); replace BK492 := A_ (blk_below (M.Lb BK492) hb); replace BK500 := A_ (blk_below (M.Lb BK500) hb); replace HB := A_ (below_step q0_ hb); clear hb; have hcz139_0 := c20_ BK482; have hcz139_1 := c21_ BK482; have hfz139_0 := blk_frozen BK482.out 0; have hfz139_1 := blk_frozen BK482.out 1) | (go_at_call 17; (with_reducible refine (impl_IsSeparated.calls t480 t481 t493 t494 true _ A112.out).mono ?_); rintro e w140 ⟨rfl, hb⟩; replace HO504 := A_ (Kd.R_below (M.Lr HO504) hb); replace BK482 := A_ (blk_below (M.Lb BK482) hb); replace BK492 := A_ (blk_below (M.Lb BK492) hb); replace BK500 := A_ (blk_below (M.Lb BK500) hb); replace HB := A_ (below_step q0_ hb); clear hb; have hcz141_0 := c20_ BK482; have hcz141_1 := c21_ BK482; have hfz141_0 := blk_frozen BK482.out 0; have hfz141_1 := blk_frozen BK482.out 1) | (go_at_call 18; (with_reducible refine (impl_PairBound.calls kj7 t480 t493 t494 t507 _ A114.out).mono ?_); rintro e w' ⟨rfl, ⟨nd, rfl⟩⟩; have hcz142_0 := c20_ BK500; have hcz142_1 := c21_ BK500; have hfz142_0 := blk_frozen BK500.out 0; have hfz142_1 := blk_frozen BK500.out 1) | (go_at_call 8; (with_reducible refine (impl_FormulaSize.calls t497 t498 t508 _ A116.out).mono ?_); rintro e w143 ⟨rfl, hb⟩; replace HO504 := A_ (Kd.R_below (M.Lr HO504) hb); replace BK482 := A_ (blk_below (M.Lb BK482) hb); replace BK492 := A_ (blk_below (M.Lb BK492) hb); replace BK500 := A_ (blk_below (M.Lb BK500) hb); replace HB := A_ (below_step q0_ hb); clear hb))
                 go_meet
                 case rel => exact ⟨_, H', ⟨by have := HJ7.out; first | omega | exact Nat.le_refl _⟩, ⟨M.Lb BK482⟩, ⟨M.Lw HB⟩⟩
                ·rw [if_neg c117] at H
                 have c117b0 : (t508 == t487) = false := beq_eq_false_iff_ne.mpr c117
                 have c117b1 : (t508 != t487) = true := bne_iff_ne.mpr c117
                 exact absurd (Option.some.inj H) (by rw [HRT.out]; decide)
               ·rw [if_neg c115] at H
                have c115b0 : (t507 == t495) = false := beq_eq_false_iff_ne.mpr c115
                have c115b1 : (t507 != t495) = true := bne_iff_ne.mpr c115
                exact absurd (Option.some.inj H) (by rw [HRT.out]; decide)
              ·replace c113 := Bool.eq_false_iff.mpr c113
               subst c113
               rw [if_neg (show ¬ (false = true) by decide)] at H
               (try dsimp only at H)
               exact absurd (Option.some.inj H) (by rw [HRT.out]; decide)
           ·replace c68 := Bool.eq_false_iff.mpr c68
            subst c68
            rw [if_neg (show ¬ (false = true) by decide)] at H
            (try dsimp only at H)
            exact absurd (Option.some.inj H) (by rw [HRT.out]; decide)
         ·replace c46 := Bool.eq_false_iff.mpr c46
          subst c46
          rw [if_neg (show ¬ (false = true) by decide)] at H
          (try dsimp only at H); replace H := Option.bind_eq_some_iff.mp H; obtain ⟨t509, A2360, H⟩ := H; (try dsimp only at H); have A236 := A_ A2360; clear A2360
          by_cases c237 : t509 = t487
          ·rw [if_pos c237] at H
           have c237b0 : (t509 == t487) = true := beq_iff_eq.mpr c237
           have c237b1 : (t509 != t487) = false := bne_eq_false_iff_eq.mpr c237
           clear c237; replace H := Option.bind_eq_some_iff.mp H; obtain ⟨t510, A2380, H⟩ := H; (try dsimp only at H); have A238 := A_ A2380; clear A2380
           by_cases c239 : t487 < (t510.length : Int)
           ·rw [if_pos c239] at H
            have c239b0 : decide (t487 < (t510.length : Int)) = true := decide_eq_true c239
            clear c239
            exact absurd (Option.some.inj H) (by rw [HRT.out]; decide)
           ·rw [if_neg c239] at H
            have c239b0 : decide (t487 < (t510.length : Int)) = false := decide_eq_false c239
            clear c239
            by_cases c260 : t496 = true
            ·subst c260
             rw [if_pos rfl] at H
             (try dsimp only at H)
             by_cases c261 : t495 > t487
             ·rw [if_pos c261] at H
              have c261b0 : decide (t487 < t495) = true := decide_eq_true c261
              clear c261
              exact absurd (Option.some.inj H) (by rw [HRT.out]; decide)
             ·rw [if_neg c261] at H
              have c261b0 : decide (t487 < t495) = false := decide_eq_false c261
              clear c261; replace H := Option.bind_eq_some_iff.mp H; obtain ⟨t513, A2820, H⟩ := H; (try dsimp only at H); have A282 := A_ A2820; clear A2820
              by_cases c283 : t513 > t495
              ·rw [if_pos c283] at H
               have c283b0 : decide (t495 < t513) = true := decide_eq_true c283
               clear c283
               exact absurd (Option.some.inj H) (by rw [HRT.out]; decide)
              ·rw [if_neg c283] at H
               have c283b0 : decide (t495 < t513) = false := decide_eq_false c283
               clear c283; replace H := Option.bind_eq_some_iff.mp H; obtain ⟨t514, A3060, H⟩ := H; (try dsimp only at H); have A306 := A_ A3060; clear A3060
               by_cases c307 : t514 = true
               ·subst c307
                rw [if_pos rfl] at H
                (try dsimp only at H); replace H := Option.bind_eq_some_iff.mp H; obtain ⟨t515, A3080, H⟩ := H; (try dsimp only at H); have A308 := A_ A3080; clear A3080
                by_cases c309 : t515 = t495
                ·rw [if_pos c309] at H
                 have c309b0 : (t515 == t495) = true := beq_iff_eq.mpr c309
                 have c309b1 : (t515 != t495) = false := bne_eq_false_iff_eq.mpr c309
                 clear c309; replace H := Option.bind_eq_some_iff.mp H; obtain ⟨t516, A3100, H⟩ := H
                 replace H : (if t516 = t487 then (laws_FnSizes.j1 kj7 l0) else (some false)) = some r := H
                 have A310 := A_ A3100; clear A3100
                 by_cases c311 : t516 = t487
                 ·rw [if_pos c311] at H
                  have c311b0 : (t516 == t487) = true := beq_iff_eq.mpr c311
                  have c311b1 : (t516 != t487) = false := bne_eq_false_iff_eq.mpr c311
                  clear c311
                  have H' := A_ H
                  clear H
                  have hcz312_0 := c20_ BK482
                  have hcz312_1 := c21_ BK482
                  have hfz312_0 := blk_frozen BK482.out 0
                  have hfz312_1 := blk_frozen BK482.out 1
                  go_wp2_with (first | ((with_reducible refine gate_callee (f := 10) rfl ?_); refine goesL_ (some 78) rfl rfl Tryz.func10 kr_ rfl #[.string t485, .int .i64 t480] rfl q2_ ?_; (with_reducible refine (impl_TableOfFormula.calls t485 t480 t489 t490 true _ A25.out).mono ?_); rintro e w313 ⟨rfl, hb⟩; refine ⟨_, rfl, ?_⟩; replace BK482 := A_ (blk_below (M.Lb BK482) hb); replace HB := A_ (below_step q0_ hb); clear hb) | ((with_reducible refine gate_dst (N := 9) rfl ?_); (try (refine gate_guard (by rfl) ?_; dsimp only)); refine box_event ?hg (N := 9) ?hd (cs := #[.int .i64 0, .int .i64 0]) (t := 25) ?hr ?_; (case hd => rfl); (case hg => rfl); (case hr => first | (go_simp; done) | (go_simp; rfl)); intro gb492 hg w314 hbox hb; have BK492 := A_ (hbox); have GW492 := A_ ((by rw [hg]; exact (below_size q0_) : w.heap.size ≤ gb492)); have GE492 := A_ ((by rw [hg]; exact (below_size q0_) : w.heap.size ≤ gb492)); replace HB := A_ (below_step q0_ hb); have NB482_492 := A_ ((by rw [hg]; exact Nat.ne_of_lt (blk_lt (M.Lb BK482)) : gb482 ≠ gb492)); have NB492_482 := A_ ((by rw [hg]; exact Nat.ne_of_gt (blk_lt (M.Lb BK482)) : gb492 ≠ gb482)); replace BK482 := A_ (blk_below (M.Lb BK482) hb); clear hb hbox hg; have hnb315 := NB492_482.out; have hnc315 := NB482_492.out; have hcz316_0 := c20_ BK492; have hcz316_1 := c21_ BK492; have hfz316_0 := blk_frozen BK492.out 0; have hfz316_1 := blk_frozen BK492.out 1; have hcz317_0 := c20_ BK482; have hcz317_1 := c21_ BK482; have hfz317_0 := blk_frozen BK482.out 0; have hfz317_1 := blk_frozen BK482.out 1) | ((with_reducible refine gate_callee (f := 11) rfl ?_); refine goesL_ (some 83) rfl rfl Tryz.func11 kr_ rfl #[.agg #[.int .i64 t480, .int .i64 t481]] rfl q2_ ?_; (with_reducible refine (impl_BestPair.calls kj7 t480 t481 t493 t494 t495 true _ A26.out).mono ?_); rintro e w318 ⟨rfl, hb⟩; refine ⟨_, rfl, ?_⟩; replace BK482 := A_ (blk_below (g := gb482) (o := .cells #[.int .i64 t480, .int .i64 t481] 25 (0, 0)) (by (with_reducible repeat (first | refine blk_drewN ?_ _ | refine blk_drew ?_ | refine blk_alloc ?_ _)); refine blk_far ?_ NB482_492.out _; (with_reducible repeat (first | refine blk_drewN ?_ _ | refine blk_drew ?_ | refine blk_alloc ?_ _)); refine blk_far ?_ NB482_492.out _; (with_reducible repeat (first | refine blk_drewN ?_ _ | refine blk_drew ?_ | refine blk_alloc ?_ _)); exact BK482.out) hb); replace BK492 := A_ (blk_below (g := gb492) (o := .cells #[.int .i64 t489, .int .i64 t490] 25 (0, 0)) (by (with_reducible repeat (first | refine blk_drewN ?_ _ | refine blk_drew ?_ | refine blk_alloc ?_ _)); refine blk_put (cs := #[.int .i64 t489, .int .i64 0]) ?_ 1 _ rfl; (with_reducible repeat (first | refine blk_drewN ?_ _ | refine blk_drew ?_ | refine blk_alloc ?_ _)); refine blk_put (cs := #[.int .i64 0, .int .i64 0]) ?_ 0 _ rfl; (with_reducible repeat (first | refine blk_drewN ?_ _ | refine blk_drew ?_ | refine blk_alloc ?_ _)); exact BK492.out) hb); replace HB := A_ (below_step q0_ hb); clear hb; have hcz319_0 := c20_ BK482; have hcz319_1 := c21_ BK482; have hfz319_0 := blk_frozen BK482.out 0; have hfz319_1 := blk_frozen BK482.out 1) | ((with_reducible refine gate_callee (f := 12) rfl ?_); refine goesL_ (some 90) rfl rfl Tryz.func12 kr_ rfl #[.agg #[.int .i64 t480, .int .i64 t481]] rfl q2_ ?_; (with_reducible refine (spec_NotTable.calls t480 t481 t497 t498 t499 _ A27.out).mono ?_); rintro e w320 ⟨rfl, hb⟩; refine ⟨_, rfl, ?_⟩; replace BK482 := A_ (blk_below (M.Lb BK482) hb); replace BK492 := A_ (blk_below (M.Lb BK492) hb); replace HB := A_ (below_step q0_ hb); clear hb) | ((with_reducible refine gate_dst (N := 15) rfl ?_); (try (refine gate_guard (by rfl) ?_; dsimp only)); refine box_event ?hg (N := 15) ?hd (cs := #[.int .i64 0, .int .i64 0]) (t := 25) ?hr ?_; (case hd => rfl); (case hg => rfl); (case hr => first | (go_simp; done) | (go_simp; rfl)); intro gb500 hg w321 hbox hb; have BK500 := A_ (hbox); have GW500 := A_ ((by rw [hg]; exact (below_size q0_) : w.heap.size ≤ gb500)); have GE500 := A_ ((by rw [hg]; exact (below_size q0_) : w.heap.size ≤ gb500)); replace HB := A_ (below_step q0_ hb); have NB482_500 := A_ ((by rw [hg]; exact Nat.ne_of_lt (blk_lt (M.Lb BK482)) : gb482 ≠ gb500)); have NB500_482 := A_ ((by rw [hg]; exact Nat.ne_of_gt (blk_lt (M.Lb BK482)) : gb500 ≠ gb482)); replace BK482 := A_ (blk_below (M.Lb BK482) hb); have NB492_500 := A_ ((by rw [hg]; exact Nat.ne_of_lt (blk_lt (M.Lb BK492)) : gb492 ≠ gb500)); have NB500_492 := A_ ((by rw [hg]; exact Nat.ne_of_gt (blk_lt (M.Lb BK492)) : gb500 ≠ gb492)); replace BK492 := A_ (blk_below (M.Lb BK492) hb); clear hb hbox hg; have hnb322 := NB500_482.out; have hnc322 := NB482_500.out; have hnb323 := NB500_492.out; have hnc323 := NB492_500.out; have hcz324_0 := c20_ BK500; have hcz324_1 := c21_ BK500; have hfz324_0 := blk_frozen BK500.out 0; have hfz324_1 := blk_frozen BK500.out 1; have hcz325_0 := c20_ BK492; have hcz325_1 := c21_ BK492; have hfz325_0 := blk_frozen BK492.out 0; have hfz325_1 := blk_frozen BK492.out 1; have hcz326_0 := c20_ BK482; have hcz326_1 := c21_ BK482; have hfz326_0 := blk_frozen BK482.out 0; have hfz326_1 := blk_frozen BK482.out 1) | (go_at_call 13; (with_reducible refine (impl_IsConstant.calls t480 t481 false _ A45.out).mono ?_); rintro e w327 ⟨rfl, hb⟩; replace BK482 := A_ (blk_below (g := gb482) (o := .cells #[.int .i64 t480, .int .i64 t481] 25 (0, 0)) (by (with_reducible repeat (first | refine blk_drewN ?_ _ | refine blk_drew ?_ | refine blk_alloc ?_ _)); refine blk_far ?_ NB482_500.out _; (with_reducible repeat (first | refine blk_drewN ?_ _ | refine blk_drew ?_ | refine blk_alloc ?_ _)); refine blk_far ?_ NB482_500.out _; (with_reducible repeat (first | refine blk_drewN ?_ _ | refine blk_drew ?_ | refine blk_alloc ?_ _)); exact BK482.out) hb); replace BK492 := A_ (blk_below (g := gb492) (o := .cells #[.int .i64 t489, .int .i64 t490] 25 (0, 0)) (by (with_reducible repeat (first | refine blk_drewN ?_ _ | refine blk_drew ?_ | refine blk_alloc ?_ _)); refine blk_far ?_ NB492_500.out _; (with_reducible repeat (first | refine blk_drewN ?_ _ | refine blk_drew ?_ | refine blk_alloc ?_ _)); refine blk_far ?_ NB492_500.out _; (with_reducible repeat (first | refine blk_drewN ?_ _ | refine blk_drew ?_ | refine blk_alloc ?_ _)); exact BK492.out) hb); replace BK500 := A_ (blk_below (g := gb500) (o := .cells #[.int .i64 t497, .int .i64 t498] 25 (0, 0)) (by (with_reducible repeat (first | refine blk_drewN ?_ _ | refine blk_drew ?_ | refine blk_alloc ?_ _)); refine blk_put (cs := #[.int .i64 t497, .int .i64 0]) ?_ 1 _ rfl; (with_reducible repeat (first | refine blk_drewN ?_ _ | refine blk_drew ?_ | refine blk_alloc ?_ _)); refine blk_put (cs := #[.int .i64 0, .int .i64 0]) ?_ 0 _ rfl; (with_reducible repeat (first | refine blk_drewN ?_ _ | refine blk_drew ?_ | refine blk_alloc ?_ _)); exact BK500.out) hb); replace HB := A_ (below_step q0_ hb); clear hb) | (go_at_call 14; (with_reducible refine (impl_LeavesOf.calls t485 t509 _ A236.out).mono ?_); rintro e w328 ⟨rfl, hb⟩; replace BK482 := A_ (blk_below (M.Lb BK482) hb); replace BK492 := A_ (blk_below (M.Lb BK492) hb); replace BK500 := A_ (blk_below (M.Lb BK500) hb); replace HB := A_ (below_step q0_ hb); clear hb; have hcz329_0 := c20_ BK482; have hcz329_1 := c21_ BK482; have hfz329_0 := blk_frozen BK482.out 0; have hfz329_1 := blk_frozen BK482.out 1) | (go_at_call 15; (with_reducible refine (impl_VariablesOf.calls kj7 t480 t481 t510 _ A238.out).mono ?_); rintro e w330 ⟨v511, rfl, ho0, hb⟩; have HO512 := A_ (Kd.R_lower ho0 (below_size q0_)); replace BK482 := A_ (blk_below (M.Lb BK482) hb); replace BK492 := A_ (blk_below (M.Lb BK492) hb); replace BK500 := A_ (blk_below (M.Lb BK500) hb); replace HB := A_ (below_step q0_ hb); clear hb ho0; obtain ⟨Ao331, co331, eo331⟩ := Kd.R_slice HO512.out; subst eo331; have hcz332_0 := c20_ BK482; have hcz332_1 := c21_ BK482; have hfz332_0 := blk_frozen BK482.out 0; have hfz332_1 := blk_frozen BK482.out 1) | (go_at_call 16; (with_reducible refine (impl_TableBound.calls kj7 t480 t481 t513 _ A282.out).mono ?_); rintro e w333 ⟨rfl, hb⟩; replace HO512 := A_ (Kd.R_below (M.Lr HO512) hb); replace BK482 := A_ (blk_below (M.Lb BK482) hb); replace BK492 := A_ (blk_below (M.Lb BK492) hb); replace BK500 := A_ (blk_below (M.Lb BK500) hb); replace HB := A_ (below_step q0_ hb); clear hb; have hcz334_0 := c20_ BK482; have hcz334_1 := c21_ BK482; have hfz334_0 := blk_frozen BK482.out 0; have hfz334_1 := blk_frozen BK482.out 1) | (go_at_call 17; (with_reducible refine (impl_IsSeparated.calls t480 t481 t493 t494 true _ A306.out).mono ?_); rintro e w335 ⟨rfl, hb⟩; replace HO512 := A_ (Kd.R_below (M.Lr HO512) hb); replace BK482 := A_ (blk_below (M.Lb BK482) hb); replace BK492 := A_ (blk_below (M.Lb BK492) hb); replace BK500 := A_ (blk_below (M.Lb BK500) hb); replace HB := A_ (below_step q0_ hb); clear hb; have hcz336_0 := c20_ BK482; have hcz336_1 := c21_ BK482; have hfz336_0 := blk_frozen BK482.out 0; have hfz336_1 := blk_frozen BK482.out 1) | (go_at_call 18; (with_reducible refine (impl_PairBound.calls kj7 t480 t493 t494 t515 _ A308.out).mono ?_); rintro e w' ⟨rfl, ⟨nd, rfl⟩⟩; have hcz337_0 := c20_ BK500; have hcz337_1 := c21_ BK500; have hfz337_0 := blk_frozen BK500.out 0; have hfz337_1 := blk_frozen BK500.out 1) | (go_at_call 8; (with_reducible refine (impl_FormulaSize.calls t497 t498 t516 _ A310.out).mono ?_); rintro e w338 ⟨rfl, hb⟩; replace HO512 := A_ (Kd.R_below (M.Lr HO512) hb); replace BK482 := A_ (blk_below (M.Lb BK482) hb); replace BK492 := A_ (blk_below (M.Lb BK492) hb); replace BK500 := A_ (blk_below (M.Lb BK500) hb); replace HB := A_ (below_step q0_ hb); clear hb))
                  go_meet
                  case rel => exact ⟨_, H', ⟨by have := HJ7.out; first | omega | exact Nat.le_refl _⟩, ⟨M.Lb BK482⟩, ⟨M.Lw HB⟩⟩
                 ·rw [if_neg c311] at H
                  have c311b0 : (t516 == t487) = false := beq_eq_false_iff_ne.mpr c311
                  have c311b1 : (t516 != t487) = true := bne_iff_ne.mpr c311
                  exact absurd (Option.some.inj H) (by rw [HRT.out]; decide)
                ·rw [if_neg c309] at H
                 have c309b0 : (t515 == t495) = false := beq_eq_false_iff_ne.mpr c309
                 have c309b1 : (t515 != t495) = true := bne_iff_ne.mpr c309
                 exact absurd (Option.some.inj H) (by rw [HRT.out]; decide)
               ·replace c307 := Bool.eq_false_iff.mpr c307
                subst c307
                rw [if_neg (show ¬ (false = true) by decide)] at H
                (try dsimp only at H)
                exact absurd (Option.some.inj H) (by rw [HRT.out]; decide)
            ·replace c260 := Bool.eq_false_iff.mpr c260
             subst c260
             rw [if_neg (show ¬ (false = true) by decide)] at H
             (try dsimp only at H)
             exact absurd (Option.some.inj H) (by rw [HRT.out]; decide)
          ·rw [if_neg c237] at H
           have c237b0 : (t509 == t487) = false := beq_eq_false_iff_ne.mpr c237
           have c237b1 : (t509 != t487) = true := bne_iff_ne.mpr c237
           exact absurd (Option.some.inj H) (by rw [HRT.out]; decide)
       ·replace c28 := Bool.eq_false_iff.mpr c28
        subst c28
        rw [if_neg (show ¬ (false = true) by decide)] at H
        (try dsimp only at H)
        exact absurd (Option.some.inj H) (by rw [HRT.out]; decide)
      ·replace c24 := Bool.eq_false_iff.mpr c24
       subst c24
       rw [if_neg (show ¬ (false = true) by decide)] at H
       (try dsimp only at H)
       have H' := A_ H
       clear H
       go_wp2
       go_meet
       case rel => exact ⟨_, H', ⟨by have := HJ7.out; first | omega | exact Nat.le_refl _⟩, ⟨M.Lb BK482⟩, ⟨M.Lw HB⟩⟩
     case rest =>
      as_aux_lemma =>
      clear HC23
      skip
      skip
      skip
      skip
      skip
      skip
      skip
      skip
      skip
      skip
      skip
      skip
      skip
      skip
      skip
      skip
      skip
      skip
      skip
      skip
      skip
      skip
      skip
      skip
      skip
      skip
      skip
      skip
      skip
      obtain ⟨kq, HA, HJ22, BK482, HB⟩ := hcut
      cases kq with
      | zero => exact absurd HA.out (by simp [laws_FnSizes.j1])
      | succ kj22 =>
       have H := HA.out
       clear HA
       simp only [laws_FnSizes.j1] at H
       replace H := Option.bind_eq_some_iff.mp H; obtain ⟨t517, A4650, H⟩ := H; (try dsimp only at H); have A465 := A_ A4650; clear A4650; replace H := Option.bind_eq_some_iff.mp H; obtain ⟨⟨t518, t519⟩, A4660, H⟩ := H; (try dsimp only at H); have A466 := A_ A4660; clear A4660; replace H := Option.bind_eq_some_iff.mp H; obtain ⟨⟨t522, t523⟩, A4670, H⟩ := H; (try dsimp only at H); have A467 := A_ A4670; clear A4670; have HC468 := A_ H; clear H
       go_upto_region 18 with (first | ((with_reducible refine gate_callee (f := 19) rfl ?_); refine goesL_ (some 156) rfl rfl Tryz.func19 kr_ rfl #[.slice A0 l0.length c0] rfl q2_ ?_; (with_reducible refine (spec_DrawSizesOf.calls kj22 _ _ l0 t517 _ ?side1 ?side2 A465.out).mono ?_); (case side1 => exact q18_); (case side2 => exact HC0.out); rintro e w469 ⟨rfl, hb⟩; refine ⟨_, rfl, ?_⟩; replace BK482 := A_ (blk_below (M.Lb BK482) hb); replace HB := A_ (below_step (M.Lw HB) hb); clear hb) | ((with_reducible refine gate_callee (f := 20) rfl ?_); refine goesL_ (some 159) rfl rfl Tryz.func20 kr_ rfl #[.int .i64 t517] rfl q2_ ?_; (with_reducible refine (impl_SizesOf.calls t517 t518 t519 _ A466.out).mono ?_); rintro e w470 ⟨v520, rfl, ho0, hb⟩; refine ⟨_, rfl, ?_⟩; have HO521 := A_ (Kd.R_lower ho0 (below_size (M.Lw HB))); replace BK482 := A_ (blk_below (M.Lb BK482) hb); replace HB := A_ (below_step (M.Lw HB) hb); clear hb ho0) | ((with_reducible refine gate_callee (f := 21) rfl ?_); refine goesL_ (some 164) rfl rfl Tryz.func21 kr_ rfl #[.int .i64 t517] rfl q2_ ?_; (with_reducible refine (spec_SizesOf.calls t517 t522 t523 _ A467.out).mono ?_); rintro e w471 ⟨v524, rfl, ho0, hb⟩; refine ⟨_, rfl, ?_⟩; have HO525 := A_ (Kd.R_lower (Kd.R_new' ho0 (Kd.R_lt (M.Lr HO521))) (below_size (M.Lw HB))); replace HO521 := A_ (Kd.R_elder' (M.Lr HO521) (Kd.R_base ho0) hb); replace BK482 := A_ (blk_below (M.Lb BK482) hb); replace HB := A_ (below_step (M.Lw HB) hb); clear hb ho0))
       (try simp only [Act.put, M.sT_, M.s0_, M.s1_])
       go_cut [182] (fun v182 wc => ∃ (kq : Nat) (x182_467 : Bool), v182 = .bool x182_467 ∧ Aside0 (laws_FnSizes.j2 kq l0 x182_467 = some r) ∧ Aside0 (kq ≤ kj22) ∧ Aside0 (wc.heap[gb482]? = some (.cells #[.int .i64 t480, .int .i64 t481] 25 (0, 0))) ∧ Aside0 (Below w.heap.size w wc))
       case first =>
        as_aux_lemma =>
        have H := HC468.out
        clear HC468
        by_cases c472 : (t519 != t523) = true
        ·rw [if_pos c472] at H
         have c472b0 : (t519 != t523) = true := c472
         (try (have c472b1 : decide (t519 = t523) = false := by simpa using c472))
         (try (have c472b2 : (t519 == t523) = false := by simpa using c472))
         (try (have c472b3 : ¬ (t519 = t523) := by simpa using c472))
         clear c472
         (first | rw [c472b0] | rw [c472b1] | (simp only [i64_w, i32_w]; rw [c472b0]) | skip)
         first | exact (laws_FnSizes.j0_dead H HRT.out).elim | exact (laws_FnSizes.j2_dead H HRT.out).elim
        ·rw [if_neg c472] at H
         have c472b0 : (t519 != t523) = false := by simpa using c472
         (try (have c472b1 : decide (t519 = t523) = true := by simpa using c472))
         (try (have c472b2 : (t519 == t523) = true := by simpa using c472))
         clear c472
         (first | rw [c472b0] | rw [c472b1] | (simp only [i64_w, i32_w]; rw [c472b0]) | skip)
         replace H := Option.bind_eq_some_iff.mp H; obtain ⟨t526, A4730, H⟩ := H; (try dsimp only at H); have A473 := A_ A4730; clear A4730
         by_cases c474 : t526 = true
         ·subst c474
          rw [if_pos rfl] at H
          (try dsimp only at H); replace H := Option.bind_eq_some_iff.mp H; obtain ⟨t527, A4750, H⟩ := H
          replace H : ((spec_LargestSize.f kj22 t517).bind fun t528 => (laws_FnSizes.j2 kj22 l0 (t527 != t528))) = some r := H
          have A475 := A_ A4750; clear A4750; replace H := Option.bind_eq_some_iff.mp H; obtain ⟨t528, A4760, H⟩ := H
          replace H : (laws_FnSizes.j2 kj22 l0 (t527 != t528)) = some r := H
          have A476 := A_ A4760; clear A4760
          have H' := A_ H
          clear H
          obtain ⟨Ao477, co477, eo477⟩ := Kd.R_slice HO521.out
          subst eo477
          obtain ⟨Ao478, co478, eo478⟩ := Kd.R_slice HO525.out
          subst eo478
          go_wp2_with (first | (go_at_call 22; (with_reducible refine (laws_sameInts.calls kj22 _ _ t518 _ _ t522 true _ ?side1 ?side2 ?side3 ?side4 A473.out).mono ?_); (case side1 => repeat (first | exact (Kd.R_reads' HO521.out).2.2 | (with_reducible refine Kd.C_alloc ?_ _) | (with_reducible refine Kd.C_drewN ?_ _) | (with_reducible refine Kd.C_drew ?_))); (case side2 => exact (Kd.R_reads' HO521.out).2.1); (case side3 => repeat (first | exact (Kd.R_reads' HO525.out).2.2 | (with_reducible refine Kd.C_alloc ?_ _) | (with_reducible refine Kd.C_drewN ?_ _) | (with_reducible refine Kd.C_drew ?_))); (case side4 => exact (Kd.R_reads' HO525.out).2.1); rintro e w' ⟨rfl, ⟨nd, rfl⟩⟩) | (go_at_call 23; (with_reducible refine (impl_LargestSize.calls t517 t527 _ A475.out).mono ?_); rintro e w479 ⟨rfl, hb⟩; replace HO521 := A_ (Kd.R_below (M.Lr HO521) hb); replace HO525 := A_ (Kd.R_below (M.Lr HO525) hb); replace BK482 := A_ (blk_below (M.Lb BK482) hb); replace HB := A_ (below_step (M.Lw HB) hb); clear hb) | (go_at_call 24; (with_reducible refine (spec_LargestSize.calls kj22 t517 t528 _ A476.out).mono ?_); rintro e w480 ⟨rfl, hb⟩; replace HO521 := A_ (Kd.R_below (M.Lr HO521) hb); replace HO525 := A_ (Kd.R_below (M.Lr HO525) hb); replace BK482 := A_ (blk_below (M.Lb BK482) hb); replace HB := A_ (below_step (M.Lw HB) hb); clear hb))
          go_meet
          case rel => exact ⟨_, ((t527 != t528)), q1_, H', ⟨by have := HJ7.out; have := HJ22.out; first | omega | exact Nat.le_refl _⟩, ⟨M.Lb BK482⟩, ⟨M.Lw HB⟩⟩
         ·replace c474 := Bool.eq_false_iff.mpr c474
          subst c474
          rw [if_neg (show ¬ (false = true) by decide)] at H
          (try dsimp only at H)
          first | exact (laws_FnSizes.j0_dead H HRT.out).elim | exact (laws_FnSizes.j2_dead H HRT.out).elim
       case rest =>
        as_aux_lemma =>
        clear HC468
        skip
        skip
        skip
        skip
        skip
        skip
        skip
        skip
        skip
        skip
        skip
        skip
        skip
        skip
        skip
        skip
        skip
        obtain ⟨kq, x182_467, rfl, HA, HJ467, BK482, HB⟩ := hcut
        cases kq with
        | zero => exact absurd HA.out (by simp [laws_FnSizes.j2])
        | succ kj467 =>
         have H := HA.out
         clear HA
         simp only [laws_FnSizes.j2] at H
         by_cases c483 : x182_467 = true
         ·subst c483
          rw [if_pos rfl] at H
          (try dsimp only at H)
          exact absurd (Option.some.inj H) (by rw [HRT.out]; decide)
         ·replace c483 := Bool.eq_false_iff.mpr c483
          subst c483
          rw [if_neg (show ¬ (false = true) by decide)] at H
          (try dsimp only at H); replace H := Option.bind_eq_some_iff.mp H; obtain ⟨⟨t529, t530⟩, A4840, H⟩ := H; (try dsimp only at H); have A484 := A_ A4840; clear A4840; replace H := Option.bind_eq_some_iff.mp H; obtain ⟨⟨t531, t532, t533⟩, A4850, H⟩ := H; (try dsimp only at H); have A485 := A_ A4850; clear A4850; replace H := Option.bind_eq_some_iff.mp H; obtain ⟨⟨t534, t535, t536⟩, A4860, H⟩ := H; (try dsimp only at H); have A486 := A_ A4860; clear A4860; replace H := Option.bind_eq_some_iff.mp H; obtain ⟨⟨t537, t538⟩, A4870, H⟩ := H; (try dsimp only at H); have A487 := A_ A4870
          clear A4870; replace H := Option.bind_eq_some_iff.mp H; obtain ⟨⟨t540, t541⟩, A4880, H⟩ := H; (try dsimp only at H); have A488 := A_ A4880; clear A4880; replace H := Option.bind_eq_some_iff.mp H; obtain ⟨⟨t543, t544, t545, t546⟩, A4890, H⟩ := H; (try dsimp only at H); have A489 := A_ A4890; clear A4890; replace H := Option.bind_eq_some_iff.mp H; obtain ⟨⟨t547, t548, t549, t550⟩, A4900, H⟩ := H; (try dsimp only at H); have A490 := A_ A4900; clear A4900; replace H := Option.bind_eq_some_iff.mp H; obtain ⟨⟨t551, t552, t553, t554⟩, A4910, H⟩ := H; (try dsimp only at H)
          have A491 := A_ A4910; clear A4910; replace H := Option.bind_eq_some_iff.mp H; obtain ⟨t556, A4920, H⟩ := H; (try dsimp only at H); have A492 := A_ A4920; clear A4920; replace H := Option.bind_eq_some_iff.mp H; obtain ⟨t557, A4930, H⟩ := H; (try dsimp only at H); have A493 := A_ A4930; clear A4930
          by_cases c494 : t556 = t557
          ·rw [if_pos c494] at H
           have c494b0 : (t556 == t557) = true := beq_iff_eq.mpr c494
           have c494b1 : (t556 != t557) = false := bne_eq_false_iff_eq.mpr c494
           clear c494; replace H := Option.bind_eq_some_iff.mp H; obtain ⟨t558, A4950, H⟩ := H; (try dsimp only at H); have A495 := A_ A4950; clear A4950; replace H := Option.bind_eq_some_iff.mp H; obtain ⟨t559, A4960, H⟩ := H; (try dsimp only at H); have A496 := A_ A4960; clear A4960
           by_cases c497 : t558 = t559
           ·rw [if_pos c497] at H
            have c497b0 : (t558 == t559) = true := beq_iff_eq.mpr c497
            have c497b1 : (t558 != t559) = false := bne_eq_false_iff_eq.mpr c497
            clear c497; replace H := Option.bind_eq_some_iff.mp H; obtain ⟨t560, A4980, H⟩ := H; (try dsimp only at H); have A498 := A_ A4980; clear A4980; replace H := Option.bind_eq_some_iff.mp H; obtain ⟨t561, A4990, H⟩ := H; (try dsimp only at H); have A499 := A_ A4990; clear A4990
            by_cases c500 : t560 = t561
            ·rw [if_pos c500] at H
             have c500b0 : (t560 == t561) = true := beq_iff_eq.mpr c500
             have c500b1 : (t560 != t561) = false := bne_eq_false_iff_eq.mpr c500
             clear c500; replace H := Option.bind_eq_some_iff.mp H; obtain ⟨t562, A5010, H⟩ := H; (try dsimp only at H); have A501 := A_ A5010; clear A5010; replace H := Option.bind_eq_some_iff.mp H; obtain ⟨t563, A5020, H⟩ := H; (try dsimp only at H); have A502 := A_ A5020; clear A5020
             by_cases c503 : t562 = t563
             ·rw [if_pos c503] at H
              have c503b0 : (t562 == t563) = true := beq_iff_eq.mpr c503
              have c503b1 : (t562 != t563) = false := bne_eq_false_iff_eq.mpr c503
              clear c503
              by_cases c504 : t543 = t547
              ·rw [if_pos c504] at H
               have c504b0 : (t543 == t547) = true := beq_iff_eq.mpr c504
               have c504b1 : (t543 != t547) = false := bne_eq_false_iff_eq.mpr c504
               clear c504
               by_cases c505 : t544 = t548
               ·rw [if_pos c505] at H
                have c505b0 : (t544 == t548) = true := beq_iff_eq.mpr c505
                have c505b1 : (t544 != t548) = false := bne_eq_false_iff_eq.mpr c505
                clear c505
                by_cases c506 : t545 = t549
                ·rw [if_pos c506] at H
                 have c506b0 : (t545 == t549) = true := beq_iff_eq.mpr c506
                 have c506b1 : (t545 != t549) = false := bne_eq_false_iff_eq.mpr c506
                 clear c506
                 by_cases c507 : (t546 == t550) = true
                 ·rw [if_pos c507] at H
                  have c507b0 : (t546 == t550) = true := c507
                  (try (have c507b1 : decide (t546 = t550) = true := by simpa using c507))
                  (try (have c507b2 : (t546 == t550) = true := by simpa using c507))
                  clear c507; replace H := Option.bind_eq_some_iff.mp H; obtain ⟨t564, A5080, H⟩ := H
                  replace H : ((spec_IsSeparated.f t551 t552 t553 t554).bind fun t565 => (some (t564 == t565))) = some r := H
                  have A508 := A_ A5080; clear A5080; replace H := Option.bind_eq_some_iff.mp H; obtain ⟨t565, A5090, H⟩ := H
                  replace H : (some (t564 == t565)) = some r := H
                  have A509 := A_ A5090; clear A5090
                  obtain rfl := Option.some.inj H
                  try go_wp2_with (first | ((with_reducible refine gate_callee (f := 25) rfl ?_); refine goesL_ (some 185) rfl rfl Tryz.func25 kr_ rfl #[.slice A0 l0.length c0] rfl q2_ ?_; (with_reducible refine (spec_DrawCountOfSize.calls kj467 _ _ l0 t529 t530 _ ?side1 ?side2 A484.out).mono ?_); (case side1 => exact q18_); (case side2 => exact HC0.out); rintro e w510 ⟨rfl, hb⟩; refine ⟨_, rfl, ?_⟩; replace BK482 := A_ (blk_below (M.Lb BK482) hb); replace HB := A_ (below_step q0_ hb); clear hb) | ((with_reducible refine gate_callee (f := 26) rfl ?_); refine goesL_ (some 190) rfl rfl Tryz.func26 kr_ rfl #[.slice A0 l0.length c0] rfl q2_ ?_; (with_reducible refine (spec_DrawEdgesBetween.calls kj467 _ _ l0 t531 t532 t533 _ ?side1 ?side2 A485.out).mono ?_); (case side1 => exact q18_); (case side2 => exact HC0.out); rintro e w511 ⟨rfl, hb⟩; refine ⟨_, rfl, ?_⟩; replace BK482 := A_ (blk_below (M.Lb BK482) hb); replace HB := A_ (below_step q0_ hb); clear hb) | ((with_reducible refine gate_callee (f := 27) rfl ?_); refine goesL_ (some 196) rfl rfl Tryz.func27 kr_ rfl #[.slice A0 l0.length c0] rfl q2_ ?_; (with_reducible refine (spec_DrawPairBound.calls kj467 _ _ l0 t534 t535 t536 _ ?side1 ?side2 A486.out).mono ?_); (case side1 => exact q18_); (case side2 => exact HC0.out); rintro e w512 ⟨rfl, hb⟩; refine ⟨_, rfl, ?_⟩; replace BK482 := A_ (blk_below (M.Lb BK482) hb); replace HB := A_ (below_step q0_ hb); clear hb) | ((with_reducible refine gate_callee (f := 28) rfl ?_); refine goesL_ (some 201) rfl rfl Tryz.func28 kr_ rfl #[.slice A0 l0.length c0] rfl q2_ ?_; (with_reducible refine (spec_DrawTableBound.calls kj467 _ _ l0 t537 t538 _ ?side1 ?side2 A487.out).mono ?_); (case side1 => exact q18_); (case side2 => exact HC0.out); rintro e w513 ⟨rfl, hb⟩; refine ⟨_, rfl, ?_⟩; replace BK482 := A_ (blk_below (M.Lb BK482) hb); replace HB := A_ (below_step q0_ hb); clear hb) | ((with_reducible refine gate_dst (N := 30) rfl ?_); (try (refine gate_guard (by rfl) ?_; dsimp only)); refine box_event ?hg (N := 30) ?hd (cs := #[.int .i64 0, .int .i64 0]) (t := 25) ?hr ?_; (case hd => rfl); (case hg => rfl); (case hr => first | (go_simp; done) | (go_simp; rfl)); intro gb539 hg w514 hbox hb; have BK539 := A_ (hbox); have GW539 := A_ ((by rw [hg]; exact (below_size q0_) : w.heap.size ≤ gb539)); have GE539 := A_ ((by rw [hg]; exact (below_size q0_) : w.heap.size ≤ gb539)); replace HB := A_ (below_step q0_ hb); have NB482_539 := A_ ((by rw [hg]; exact Nat.ne_of_lt (blk_lt (M.Lb BK482)) : gb482 ≠ gb539)); have NB539_482 := A_ ((by rw [hg]; exact Nat.ne_of_gt (blk_lt (M.Lb BK482)) : gb539 ≠ gb482)); replace BK482 := A_ (blk_below (M.Lb BK482) hb); clear hb hbox hg; have hnb515 := NB539_482.out; have hnc515 := NB482_539.out; have hcz516_0 := c20_ BK539; have hcz516_1 := c21_ BK539; have hfz516_0 := blk_frozen BK539.out 0; have hfz516_1 := blk_frozen BK539.out 1) | ((with_reducible refine gate_callee (f := 29) rfl ?_); refine goesL_ (some 203) rfl rfl Tryz.func29 kr_ rfl #[.slice A0 l0.length c0] rfl q2_ ?_; (with_reducible refine (spec_DrawBestPair.calls kj467 _ _ l0 t540 t541 _ ?side1 ?side2 A488.out).mono ?_); (case side1 => exact Kd.C_below HR0.out q0_); (case side2 => exact HC0.out); rintro e w517 ⟨rfl, hb⟩; refine ⟨_, rfl, ?_⟩; replace BK482 := A_ (blk_below (g := gb482) (o := .cells #[.int .i64 t480, .int .i64 t481] 25 (0, 0)) (by (with_reducible repeat (first | refine blk_drewN ?_ _ | refine blk_drew ?_ | refine blk_alloc ?_ _)); refine blk_far ?_ NB482_539.out _; (with_reducible repeat (first | refine blk_drewN ?_ _ | refine blk_drew ?_ | refine blk_alloc ?_ _)); refine blk_far ?_ NB482_539.out _; (with_reducible repeat (first | refine blk_drewN ?_ _ | refine blk_drew ?_ | refine blk_alloc ?_ _)); exact BK482.out) hb); replace BK539 := A_ (blk_below (g := gb539) (o := .cells #[.int .i64 t537, .int .i64 t538] 25 (0, 0)) (by (with_reducible repeat (first | refine blk_drewN ?_ _ | refine blk_drew ?_ | refine blk_alloc ?_ _)); refine blk_put (cs := #[.int .i64 t537, .int .i64 0]) ?_ 1 _ rfl; (with_reducible repeat (first | refine blk_drewN ?_ _ | refine blk_drew ?_ | refine blk_alloc ?_ _)); refine blk_put (cs := #[.int .i64 0, .int .i64 0]) ?_ 0 _ rfl; (with_reducible repeat (first | refine blk_drewN ?_ _ | refine blk_drew ?_ | refine blk_alloc ?_ _)); exact BK539.out) hb); replace HB := A_ (below_step q0_ hb); clear hb) | ((with_reducible refine gate_dst (N := 31) rfl ?_); (try (refine gate_guard (by rfl) ?_; dsimp only)); refine box_event ?hg (N := 31) ?hd (cs := #[.int .i64 0, .int .i64 0]) (t := 25) ?hr ?_; (case hd => rfl); (case hg => rfl); (case hr => first | (go_simp; done) | (go_simp; rfl)); intro gb542 hg w518 hbox hb; have BK542 := A_ (hbox); have GW542 := A_ ((by rw [hg]; exact (below_size q0_) : w.heap.size ≤ gb542)); have GE542 := A_ ((by rw [hg]; exact (below_size q0_) : w.heap.size ≤ gb542)); replace HB := A_ (below_step q0_ hb); have NB482_542 := A_ ((by rw [hg]; exact Nat.ne_of_lt (blk_lt (M.Lb BK482)) : gb482 ≠ gb542)); have NB542_482 := A_ ((by rw [hg]; exact Nat.ne_of_gt (blk_lt (M.Lb BK482)) : gb542 ≠ gb482)); replace BK482 := A_ (blk_below (M.Lb BK482) hb); have NB539_542 := A_ ((by rw [hg]; exact Nat.ne_of_lt (blk_lt (M.Lb BK539)) : gb539 ≠ gb542)); have NB542_539 := A_ ((by rw [hg]; exact Nat.ne_of_gt (blk_lt (M.Lb BK539)) : gb542 ≠ gb539)); replace BK539 := A_ (blk_below (M.Lb BK539) hb); clear hb hbox hg; have hnb519 := NB542_482.out; have hnc519 := NB482_542.out; have hnb520 := NB542_539.out; have hnc520 := NB539_542.out; have hcz521_0 := c20_ BK542; have hcz521_1 := c21_ BK542; have hfz521_0 := blk_frozen BK542.out 0; have hfz521_1 := blk_frozen BK542.out 1) | ((with_reducible refine gate_callee (f := 11) rfl ?_); refine goesL_ (some 206) rfl rfl Tryz.func11 kr_ rfl #[.agg #[.int .i64 t540, .int .i64 t541]] rfl q2_ ?_; (with_reducible refine (impl_BestPair.calls kj467 t540 t541 t543 t544 t545 t546 _ A489.out).mono ?_); rintro e w522 ⟨rfl, hb⟩; refine ⟨_, rfl, ?_⟩; replace BK482 := A_ (blk_below (g := gb482) (o := .cells #[.int .i64 t480, .int .i64 t481] 25 (0, 0)) (by (with_reducible repeat (first | refine blk_drewN ?_ _ | refine blk_drew ?_ | refine blk_alloc ?_ _)); refine blk_far ?_ NB482_542.out _; (with_reducible repeat (first | refine blk_drewN ?_ _ | refine blk_drew ?_ | refine blk_alloc ?_ _)); refine blk_far ?_ NB482_542.out _; (with_reducible repeat (first | refine blk_drewN ?_ _ | refine blk_drew ?_ | refine blk_alloc ?_ _)); exact BK482.out) hb); replace BK539 := A_ (blk_below (g := gb539) (o := .cells #[.int .i64 t537, .int .i64 t538] 25 (0, 0)) (by (with_reducible repeat (first | refine blk_drewN ?_ _ | refine blk_drew ?_ | refine blk_alloc ?_ _)); refine blk_far ?_ NB539_542.out _; (with_reducible repeat (first | refine blk_drewN ?_ _ | refine blk_drew ?_ | refine blk_alloc ?_ _)); refine blk_far ?_ NB539_542.out _; (with_reducible repeat (first | refine blk_drewN ?_ _ | refine blk_drew ?_ | refine blk_alloc ?_ _)); exact BK539.out) hb); replace BK542 := A_ (blk_below (g := gb542) (o := .cells #[.int .i64 t540, .int .i64 t541] 25 (0, 0)) (by (with_reducible repeat (first | refine blk_drewN ?_ _ | refine blk_drew ?_ | refine blk_alloc ?_ _)); refine blk_put (cs := #[.int .i64 t540, .int .i64 0]) ?_ 1 _ rfl; (with_reducible repeat (first | refine blk_drewN ?_ _ | refine blk_drew ?_ | refine blk_alloc ?_ _)); refine blk_put (cs := #[.int .i64 0, .int .i64 0]) ?_ 0 _ rfl; (with_reducible repeat (first | refine blk_drewN ?_ _ | refine blk_drew ?_ | refine blk_alloc ?_ _)); exact BK542.out) hb); replace HB := A_ (below_step q0_ hb); clear hb; have hcz523_0 := c20_ BK542; have hcz523_1 := c21_ BK542; have hfz523_0 := blk_frozen BK542.out 0; have hfz523_1 := blk_frozen BK542.out 1) | ((with_reducible refine gate_callee (f := 30) rfl ?_); refine goesL_ (some 213) rfl rfl Tryz.func30 kr_ rfl #[.agg #[.int .i64 t540, .int .i64 t541]] rfl q2_ ?_; (with_reducible refine (spec_BestPair.calls kj467 t540 t541 t547 t548 t549 t550 _ A490.out).mono ?_); rintro e w524 ⟨rfl, hb⟩; refine ⟨_, rfl, ?_⟩; replace BK482 := A_ (blk_below (M.Lb BK482) hb); replace BK539 := A_ (blk_below (M.Lb BK539) hb); replace BK542 := A_ (blk_below (M.Lb BK542) hb); replace HB := A_ (below_step q0_ hb); clear hb) | ((with_reducible refine gate_callee (f := 31) rfl ?_); refine goesL_ (some 220) rfl rfl Tryz.func31 kr_ rfl #[.slice A0 l0.length c0] rfl q2_ ?_; (with_reducible refine (spec_DrawIsSeparated.calls kj467 _ _ l0 t551 t552 t553 t554 _ ?side1 ?side2 A491.out).mono ?_); (case side1 => exact q18_); (case side2 => exact HC0.out); rintro e w525 ⟨rfl, hb⟩; refine ⟨_, rfl, ?_⟩; replace BK482 := A_ (blk_below (M.Lb BK482) hb); replace BK539 := A_ (blk_below (M.Lb BK539) hb); replace BK542 := A_ (blk_below (M.Lb BK542) hb); replace HB := A_ (below_step q0_ hb); clear hb) | ((with_reducible refine gate_dst (N := 40) rfl ?_); (try (refine gate_guard (by rfl) ?_; dsimp only)); refine box_event ?hg (N := 40) ?hd (cs := #[.int .i64 0, .int .i64 0]) (t := 25) ?hr ?_; (case hd => rfl); (case hg => rfl); (case hr => first | (go_simp; done) | (go_simp; rfl)); intro gb555 hg w526 hbox hb; have BK555 := A_ (hbox); have GW555 := A_ ((by rw [hg]; exact (below_size q0_) : w.heap.size ≤ gb555)); have GE555 := A_ ((by rw [hg]; exact (below_size q0_) : w.heap.size ≤ gb555)); replace HB := A_ (below_step q0_ hb); have NB482_555 := A_ ((by rw [hg]; exact Nat.ne_of_lt (blk_lt (M.Lb BK482)) : gb482 ≠ gb555)); have NB555_482 := A_ ((by rw [hg]; exact Nat.ne_of_gt (blk_lt (M.Lb BK482)) : gb555 ≠ gb482)); replace BK482 := A_ (blk_below (M.Lb BK482) hb); have NB539_555 := A_ ((by rw [hg]; exact Nat.ne_of_lt (blk_lt (M.Lb BK539)) : gb539 ≠ gb555)); have NB555_539 := A_ ((by rw [hg]; exact Nat.ne_of_gt (blk_lt (M.Lb BK539)) : gb555 ≠ gb539)); replace BK539 := A_ (blk_below (M.Lb BK539) hb); have NB542_555 := A_ ((by rw [hg]; exact Nat.ne_of_lt (blk_lt (M.Lb BK542)) : gb542 ≠ gb555)); have NB555_542 := A_ ((by rw [hg]; exact Nat.ne_of_gt (blk_lt (M.Lb BK542)) : gb555 ≠ gb542)); replace BK542 := A_ (blk_below (M.Lb BK542) hb); clear hb hbox hg; have hnb527 := NB555_482.out; have hnc527 := NB482_555.out; have hnb528 := NB555_539.out; have hnc528 := NB539_555.out; have hnb529 := NB555_542.out; have hnc529 := NB542_555.out; have hcz530_0 := c20_ BK555; have hcz530_1 := c21_ BK555; have hfz530_0 := blk_frozen BK555.out 0; have hfz530_1 := blk_frozen BK555.out 1))
                  have n0_ : Aside0 (((w526.setCell ⟨gb555, 0, none⟩ (.int .i64 t551)).setCell ⟨gb555, 1, none⟩ (.int .i64 t552)).heap[gb482]? = some (.cells #[.int .i64 t480, .int .i64 t481] 25 (0, 0))) := ⟨by (with_reducible repeat (first | refine blk_drewN ?_ _ | refine blk_drew ?_ | refine blk_alloc ?_ _)); refine blk_far ?_ NB482_555.out _; (with_reducible repeat (first | refine blk_drewN ?_ _ | refine blk_drew ?_ | refine blk_alloc ?_ _)); refine blk_far ?_ NB482_555.out _; (with_reducible repeat (first | refine blk_drewN ?_ _ | refine blk_drew ?_ | refine blk_alloc ?_ _)); exact BK482.out⟩
                  have n1_ : Aside0 (((w526.setCell ⟨gb555, 0, none⟩ (.int .i64 t551)).setCell ⟨gb555, 1, none⟩ (.int .i64 t552)).heap[gb539]? = some (.cells #[.int .i64 t537, .int .i64 t538] 25 (0, 0))) := ⟨by (with_reducible repeat (first | refine blk_drewN ?_ _ | refine blk_drew ?_ | refine blk_alloc ?_ _)); refine blk_far ?_ NB539_555.out _; (with_reducible repeat (first | refine blk_drewN ?_ _ | refine blk_drew ?_ | refine blk_alloc ?_ _)); refine blk_far ?_ NB539_555.out _; (with_reducible repeat (first | refine blk_drewN ?_ _ | refine blk_drew ?_ | refine blk_alloc ?_ _)); exact BK539.out⟩
                  have n2_ : Aside0 (((w526.setCell ⟨gb555, 0, none⟩ (.int .i64 t551)).setCell ⟨gb555, 1, none⟩ (.int .i64 t552)).heap[gb542]? = some (.cells #[.int .i64 t540, .int .i64 t541] 25 (0, 0))) := ⟨by (with_reducible repeat (first | refine blk_drewN ?_ _ | refine blk_drew ?_ | refine blk_alloc ?_ _)); refine blk_far ?_ NB542_555.out _; (with_reducible repeat (first | refine blk_drewN ?_ _ | refine blk_drew ?_ | refine blk_alloc ?_ _)); refine blk_far ?_ NB542_555.out _; (with_reducible repeat (first | refine blk_drewN ?_ _ | refine blk_drew ?_ | refine blk_alloc ?_ _)); exact BK542.out⟩
                  have n3_ : Aside0 (((w526.setCell ⟨gb555, 0, none⟩ (.int .i64 t551)).setCell ⟨gb555, 1, none⟩ (.int .i64 t552)).heap[gb555]? = some (.cells #[.int .i64 t551, .int .i64 t552] 25 (0, 0))) := ⟨by (with_reducible repeat (first | refine blk_drewN ?_ _ | refine blk_drew ?_ | refine blk_alloc ?_ _)); refine blk_put (cs := #[.int .i64 t551, .int .i64 0]) ?_ 1 _ rfl; (with_reducible repeat (first | refine blk_drewN ?_ _ | refine blk_drew ?_ | refine blk_alloc ?_ _)); refine blk_put (cs := #[.int .i64 0, .int .i64 0]) ?_ 0 _ rfl; (with_reducible repeat (first | refine blk_drewN ?_ _ | refine blk_drew ?_ | refine blk_alloc ?_ _)); exact BK555.out⟩
                  have n4_ : Aside0 (Below w.heap.size w ((w526.setCell ⟨gb555, 0, none⟩ (.int .i64 t551)).setCell ⟨gb555, 1, none⟩ (.int .i64 t552))) := ⟨q0_⟩
                  clear BK482 BK539 BK542 BK555 HB
                  generalize ((w526.setCell ⟨gb555, 0, none⟩ (.int .i64 t551)).setCell ⟨gb555, 1, none⟩ (.int .i64 t552)) = w531 at n0_ n1_ n2_ n3_ n4_ ⊢
                  have BK482 := n0_; have BK539 := n1_; have BK542 := n2_; have BK555 := n3_; have HB := n4_; clear n0_ n1_ n2_ n3_ n4_
                  have n0_ := A_ (blk_drew BK482.out)
                  have n1_ := A_ (blk_drew BK539.out)
                  have n2_ := A_ (blk_drew BK542.out)
                  have n3_ := A_ (blk_drew BK555.out)
                  have n4_ := A_ (below_drew1 HB.out)
                  clear BK482; clear BK539; clear BK542; clear BK555; clear HB; have BK482 := n0_; have BK539 := n1_; have BK542 := n2_; have BK555 := n3_; have HB := n4_; clear n0_ n1_ n2_ n3_ n4_
                  refine start_ (n := 68) (S := fun w' => w'.cell? ⟨gb539, 0, none⟩ = some (.int .i64 t537) ∧ w'.cell? ⟨gb539, 1, none⟩ = some (.int .i64 t538) ∧ w'.cell? ⟨gb555, 0, none⟩ = some (.int .i64 t551) ∧ w'.cell? ⟨gb555, 1, none⟩ = some (.int .i64 t552)) (ds := []) #[false, false, false, false, false, false, false, false, false, false, false, false, false, false, false, false, false, false, false, false, false, false, false, false, false, false, false, false, false, false, false, false, false, false, false, false, false, false, false, false, false, false, false, false, false, false, false, false, false, false, false, false, false, false, false, false, false, false, false, false, false, false, false, false, false, false, false, false] kr_ rfl rfl ⟨(blk_cell BK539.out 0).trans rfl, (blk_cell BK539.out 1).trans rfl, (blk_cell BK555.out 0).trans rfl, (blk_cell BK555.out 1).trans rfl⟩ (fun hHeld => ?_); refine with_tabW laws_FnSizes.tab28 laws_FnSizes.bits28 (fun HT_ HW_ => ?_)
                  generalize w531.drew = w532 at BK482 BK539 BK542 BK555 HB hHeld ⊢
                  refine pure_ (i := 0) (N := some 224) (v := ?_) (a' := ?_) #[true, false, false, false, false, false, false, false, false, false, false, false, false, false, false, false, false, false, false, false, false, false, false, false, false, false, false, false, false, false, false, false, false, false, false, false, false, false, false, false, false, false, false, false, false, false, false, false, false, false, false, false, false, false, false, false, false, false, false, false, false, false, false, false, false, false, false, false] rfl rfl (any_of HT_.out kr_) (fun _ _ _ h => h) (Or.inl ⟨by rfl, ?_⟩) ?_ ?_
                  rotate_left
                  ·intro w'; go_simp; with_reducible rfl
                  rotate_left
                  ·simp only [Act.put, M.sT_, M.s0_, M.s1_, i64_w, i32_w]; rfl
                  refine pure_ (i := 1) (N := some 225) (v := ?_) (a' := ?_) #[true, true, false, false, false, false, false, false, false, false, false, false, false, false, false, false, false, false, false, false, false, false, false, false, false, false, false, false, false, false, false, false, false, false, false, false, false, false, false, false, false, false, false, false, false, false, false, false, false, false, false, false, false, false, false, false, false, false, false, false, false, false, false, false, false, false, false, false] rfl rfl (any_of HT_.out kr_) (fun _ _ _ h => h) (Or.inl ⟨by rfl, ?_⟩) ?_ ?_
                  rotate_left
                  ·intro w'; go_simp; with_reducible rfl
                  rotate_left
                  ·simp only [Act.put, M.sT_, M.s0_, M.s1_, i64_w, i32_w]; rfl
                  refine pure_ (i := 3) (N := some 227) (v := ?_) (a' := ?_) #[true, true, false, true, false, false, false, false, false, false, false, false, false, false, false, false, false, false, false, false, false, false, false, false, false, false, false, false, false, false, false, false, false, false, false, false, false, false, false, false, false, false, false, false, false, false, false, false, false, false, false, false, false, false, false, false, false, false, false, false, false, false, false, false, false, false, false, false] rfl rfl (any_of HT_.out kr_) (fun _ _ _ h => h) (Or.inl ⟨by rfl, ?_⟩) ?_ ?_
                  rotate_left
                  ·intro w'; go_simp; with_reducible rfl
                  rotate_left
                  ·simp only [Act.put, M.sT_, M.s0_, M.s1_, i64_w, i32_w]; rfl
                  refine pure_ (i := 4) (N := some 228) (v := ?_) (a' := ?_) #[true, true, false, true, true, false, false, false, false, false, false, false, false, false, false, false, false, false, false, false, false, false, false, false, false, false, false, false, false, false, false, false, false, false, false, false, false, false, false, false, false, false, false, false, false, false, false, false, false, false, false, false, false, false, false, false, false, false, false, false, false, false, false, false, false, false, false, false] rfl rfl (any_of HT_.out kr_) (fun _ _ _ h => h) (Or.inl ⟨by rfl, ?_⟩) ?_ ?_
                  rotate_left
                  ·intro w'; go_simp; with_reducible rfl
                  rotate_left
                  ·simp only [Act.put, M.sT_, M.s0_, M.s1_, i64_w, i32_w]; rfl
                  refine one_ (i := 2) (N := some 226) #[true, true, true, true, true, false, false, false, false, false, false, false, false, false, false, false, false, false, false, false, false, false, false, false, false, false, false, false, false, false, false, false, false, false, false, false, false, false, false, false, false, false, false, false, false, false, false, false, false, false, false, false, false, false, false, false, false, false, false, false, false, false, false, false, false, false, false, false] rfl rfl (one_of HT_.out kr_) (by decide) (fun K hK => ?_)
                  refine goes_ Tryz.func32 kr_ rfl #[.int .i64 t529, .int .i64 t530] (by rfl) rfl rfl q2_ ?_
                  with_reducible refine (impl_CountOfSize.calls kj467 t529 t530 t556 _ A492.out).mono ?_
                  rintro e w533 ⟨rfl, hb⟩
                  refine ⟨_, rfl, ?_⟩
                  have n0_ := A_ (blk_below (M.Lb BK482) hb)
                  have n1_ := A_ (blk_below (M.Lb BK539) hb)
                  have n2_ := A_ (blk_below (M.Lb BK542) hb)
                  have n3_ := A_ (blk_below (M.Lb BK555) hb)
                  have n4_ := A_ (below_step (M.Lw HB) hb)
                  clear BK482; clear BK539; clear BK542; clear BK555; clear HB; have BK482 := n0_; have BK539 := n1_; have BK542 := n2_; have BK555 := n3_; have HB := n4_; clear n0_ n1_ n2_ n3_ n4_; clear hb
                  refine hK.out _ _ ⟨(blk_cell BK539.out 0).trans rfl, (blk_cell BK539.out 1).trans rfl, (blk_cell BK555.out 0).trans rfl, (blk_cell BK555.out 1).trans rfl⟩ (fun hHeld => ?_)
                  clear hK K
                  refine norm_ (a' := ?_) ?_ ?_
                  rotate_left
                  ·show Act.put _ (some 226) _ = _
                   simp only [Act.put, M.sT_, M.s0_, M.s1_, i64_w, i32_w]; rfl
                  refine one_ (i := 5) (N := some 229) #[true, true, true, true, true, true, false, false, false, false, false, false, false, false, false, false, false, false, false, false, false, false, false, false, false, false, false, false, false, false, false, false, false, false, false, false, false, false, false, false, false, false, false, false, false, false, false, false, false, false, false, false, false, false, false, false, false, false, false, false, false, false, false, false, false, false, false, false] rfl rfl (one_of HT_.out kr_) (by decide) (fun K hK => ?_)
                  refine goes_ Tryz.func33 kr_ rfl #[.int .i64 t529, .int .i64 t530] (by rfl) rfl rfl q2_ ?_
                  with_reducible refine (spec_CountOfSize.calls kj467 t529 t530 t557 _ A493.out).mono ?_
                  rintro e w534 ⟨rfl, hb⟩
                  refine ⟨_, rfl, ?_⟩
                  have n0_ := A_ (blk_below (M.Lb BK482) hb)
                  have n1_ := A_ (blk_below (M.Lb BK539) hb)
                  have n2_ := A_ (blk_below (M.Lb BK542) hb)
                  have n3_ := A_ (blk_below (M.Lb BK555) hb)
                  have n4_ := A_ (below_step (M.Lw HB) hb)
                  clear BK482; clear BK539; clear BK542; clear BK555; clear HB; have BK482 := n0_; have BK539 := n1_; have BK542 := n2_; have BK555 := n3_; have HB := n4_; clear n0_ n1_ n2_ n3_ n4_; clear hb
                  refine hK.out _ _ ⟨(blk_cell BK539.out 0).trans rfl, (blk_cell BK539.out 1).trans rfl, (blk_cell BK555.out 0).trans rfl, (blk_cell BK555.out 1).trans rfl⟩ (fun hHeld => ?_)
                  clear hK K
                  refine norm_ (a' := ?_) ?_ ?_
                  rotate_left
                  ·show Act.put _ (some 229) _ = _
                   simp only [Act.put, M.sT_, M.s0_, M.s1_, i64_w, i32_w]; rfl
                  refine pure_ (i := 6) (N := some 230) (v := ?_) (a' := ?_) #[true, true, true, true, true, true, true, false, false, false, false, false, false, false, false, false, false, false, false, false, false, false, false, false, false, false, false, false, false, false, false, false, false, false, false, false, false, false, false, false, false, false, false, false, false, false, false, false, false, false, false, false, false, false, false, false, false, false, false, false, false, false, false, false, false, false, false, false] rfl rfl (any_of HT_.out kr_) (fun _ _ _ h => h) (Or.inl ⟨by rfl, ?_⟩) ?_ ?_
                  rotate_left
                  ·intro w'; go_simp; with_reducible rfl
                  rotate_left
                  ·simp only [Act.put, M.sT_, M.s0_, M.s1_, i64_w, i32_w]; rfl
                  refine pure_ (i := 7) (N := some 231) (v := ?_) (a' := ?_) #[true, true, true, true, true, true, true, true, false, false, false, false, false, false, false, false, false, false, false, false, false, false, false, false, false, false, false, false, false, false, false, false, false, false, false, false, false, false, false, false, false, false, false, false, false, false, false, false, false, false, false, false, false, false, false, false, false, false, false, false, false, false, false, false, false, false, false, false] rfl rfl (any_of HT_.out kr_) (fun _ _ _ h => h) (Or.inl ⟨by rfl, ?_⟩) ?_ ?_
                  rotate_left
                  ·intro w'; go_simp; with_reducible rfl
                  rotate_left
                  ·simp only [Act.put, M.sT_, M.s0_, M.s1_, i64_w, i32_w]; rfl
                  refine pure_ (i := 8) (N := some 232) (v := ?_) (a' := ?_) #[true, true, true, true, true, true, true, true, true, false, false, false, false, false, false, false, false, false, false, false, false, false, false, false, false, false, false, false, false, false, false, false, false, false, false, false, false, false, false, false, false, false, false, false, false, false, false, false, false, false, false, false, false, false, false, false, false, false, false, false, false, false, false, false, false, false, false, false] rfl rfl (any_of HT_.out kr_) (fun _ _ _ h => h) (Or.inl ⟨by rfl, ?_⟩) ?_ ?_
                  rotate_left
                  ·intro w'; go_simp; with_reducible rfl
                  rotate_left
                  ·simp only [Act.put, M.sT_, M.s0_, M.s1_, i64_w, i32_w]; rfl
                  refine pure_ (i := 9) (N := some 233) (v := ?_) (a' := ?_) #[true, true, true, true, true, true, true, true, true, true, false, false, false, false, false, false, false, false, false, false, false, false, false, false, false, false, false, false, false, false, false, false, false, false, false, false, false, false, false, false, false, false, false, false, false, false, false, false, false, false, false, false, false, false, false, false, false, false, false, false, false, false, false, false, false, false, false, false] rfl rfl (any_of HT_.out kr_) (fun _ _ _ h => h) (Or.inl ⟨by rfl, ?_⟩) ?_ ?_
                  rotate_left
                  ·intro w'; go_simp; with_reducible rfl
                  rotate_left
                  ·simp only [Act.put, M.sT_, M.s0_, M.s1_, i64_w, i32_w]; rfl
                  refine pure_ (i := 10) (N := some 234) (v := ?_) (a' := ?_) #[true, true, true, true, true, true, true, true, true, true, true, false, false, false, false, false, false, false, false, false, false, false, false, false, false, false, false, false, false, false, false, false, false, false, false, false, false, false, false, false, false, false, false, false, false, false, false, false, false, false, false, false, false, false, false, false, false, false, false, false, false, false, false, false, false, false, false, false] rfl rfl (any_of HT_.out kr_) (fun _ _ _ h => h) (Or.inl ⟨by rfl, ?_⟩) ?_ ?_
                  rotate_left
                  ·intro w'; go_simp; with_reducible rfl
                  rotate_left
                  ·simp only [Act.put, M.sT_, M.s0_, M.s1_, i64_w, i32_w]; rfl
                  refine pure_ (i := 12) (N := some 236) (v := ?_) (a' := ?_) #[true, true, true, true, true, true, true, true, true, true, true, false, true, false, false, false, false, false, false, false, false, false, false, false, false, false, false, false, false, false, false, false, false, false, false, false, false, false, false, false, false, false, false, false, false, false, false, false, false, false, false, false, false, false, false, false, false, false, false, false, false, false, false, false, false, false, false, false] rfl rfl (any_of HT_.out kr_) (fun _ _ _ h => h) (Or.inl ⟨by rfl, ?_⟩) ?_ ?_
                  rotate_left
                  ·intro w'; go_simp; with_reducible rfl
                  rotate_left
                  ·simp only [Act.put, M.sT_, M.s0_, M.s1_, i64_w, i32_w]; rfl
                  refine pure_ (i := 13) (N := some 237) (v := ?_) (a' := ?_) #[true, true, true, true, true, true, true, true, true, true, true, false, true, true, false, false, false, false, false, false, false, false, false, false, false, false, false, false, false, false, false, false, false, false, false, false, false, false, false, false, false, false, false, false, false, false, false, false, false, false, false, false, false, false, false, false, false, false, false, false, false, false, false, false, false, false, false, false] rfl rfl (any_of HT_.out kr_) (fun _ _ _ h => h) (Or.inl ⟨by rfl, ?_⟩) ?_ ?_
                  rotate_left
                  ·intro w'; go_simp; with_reducible rfl
                  rotate_left
                  ·simp only [Act.put, M.sT_, M.s0_, M.s1_, i64_w, i32_w]; rfl
                  refine pure_ (i := 14) (N := some 238) (v := ?_) (a' := ?_) #[true, true, true, true, true, true, true, true, true, true, true, false, true, true, true, false, false, false, false, false, false, false, false, false, false, false, false, false, false, false, false, false, false, false, false, false, false, false, false, false, false, false, false, false, false, false, false, false, false, false, false, false, false, false, false, false, false, false, false, false, false, false, false, false, false, false, false, false] rfl rfl (any_of HT_.out kr_) (fun _ _ _ h => h) (Or.inl ⟨by rfl, ?_⟩) ?_ ?_
                  rotate_left
                  ·intro w'; go_simp; with_reducible rfl
                  rotate_left
                  ·simp only [Act.put, M.sT_, M.s0_, M.s1_, i64_w, i32_w]; rfl
                  refine one_ (i := 11) (N := some 235) #[true, true, true, true, true, true, true, true, true, true, true, true, true, true, true, false, false, false, false, false, false, false, false, false, false, false, false, false, false, false, false, false, false, false, false, false, false, false, false, false, false, false, false, false, false, false, false, false, false, false, false, false, false, false, false, false, false, false, false, false, false, false, false, false, false, false, false, false] rfl rfl (one_of HT_.out kr_) (by decide) (fun K hK => ?_)
                  refine goes_ Tryz.func34 kr_ rfl #[.int .i64 t531, .int .i64 t532, .int .i64 t533] (by rfl) rfl rfl q2_ ?_
                  with_reducible refine (impl_EdgesBetween.calls kj467 t531 t532 t533 t558 _ A495.out).mono ?_
                  rintro e w' ⟨rfl, ⟨nd, rfl⟩⟩
                  refine ⟨_, rfl, ?_⟩
                  refine hK.out _ _ ⟨(blk_cell BK539.out 0).trans rfl, (blk_cell BK539.out 1).trans rfl, (blk_cell BK555.out 0).trans rfl, (blk_cell BK555.out 1).trans rfl⟩ (fun hHeld => ?_)
                  clear hK K
                  refine norm_ (a' := ?_) ?_ ?_
                  rotate_left
                  ·show Act.put _ (some 235) _ = _
                   simp only [Act.put, M.sT_, M.s0_, M.s1_, i64_w, i32_w]; rfl
                  refine one_ (i := 15) (N := some 239) #[true, true, true, true, true, true, true, true, true, true, true, true, true, true, true, true, false, false, false, false, false, false, false, false, false, false, false, false, false, false, false, false, false, false, false, false, false, false, false, false, false, false, false, false, false, false, false, false, false, false, false, false, false, false, false, false, false, false, false, false, false, false, false, false, false, false, false, false] rfl rfl (one_of HT_.out kr_) (by decide) (fun K hK => ?_)
                  refine goes_ Tryz.func35 kr_ rfl #[.int .i64 t531, .int .i64 t532, .int .i64 t533] (by rfl) rfl rfl q2_ ?_
                  with_reducible refine (spec_EdgesBetween.calls kj467 t531 t532 t533 t559 _ A496.out).mono ?_
                  rintro e w' ⟨rfl, ⟨nd, rfl⟩⟩
                  refine ⟨_, rfl, ?_⟩
                  refine hK.out _ _ ⟨(blk_cell BK539.out 0).trans rfl, (blk_cell BK539.out 1).trans rfl, (blk_cell BK555.out 0).trans rfl, (blk_cell BK555.out 1).trans rfl⟩ (fun hHeld => ?_)
                  clear hK K
                  refine norm_ (a' := ?_) ?_ ?_
                  rotate_left
                  ·show Act.put _ (some 239) _ = _
                   simp only [Act.put, M.sT_, M.s0_, M.s1_, i64_w, i32_w]; rfl
                  refine pure_ (i := 16) (N := some 240) (v := ?_) (a' := ?_) #[true, true, true, true, true, true, true, true, true, true, true, true, true, true, true, true, true, false, false, false, false, false, false, false, false, false, false, false, false, false, false, false, false, false, false, false, false, false, false, false, false, false, false, false, false, false, false, false, false, false, false, false, false, false, false, false, false, false, false, false, false, false, false, false, false, false, false, false] rfl rfl (any_of HT_.out kr_) (fun _ _ _ h => h) (Or.inl ⟨by rfl, ?_⟩) ?_ ?_
                  rotate_left
                  ·intro w'; go_simp; with_reducible rfl
                  rotate_left
                  ·simp only [Act.put, M.sT_, M.s0_, M.s1_, i64_w, i32_w]; rfl
                  refine pure_ (i := 17) (N := some 241) (v := ?_) (a' := ?_) #[true, true, true, true, true, true, true, true, true, true, true, true, true, true, true, true, true, true, false, false, false, false, false, false, false, false, false, false, false, false, false, false, false, false, false, false, false, false, false, false, false, false, false, false, false, false, false, false, false, false, false, false, false, false, false, false, false, false, false, false, false, false, false, false, false, false, false, false] rfl rfl (any_of HT_.out kr_) (fun _ _ _ h => h) (Or.inl ⟨by rfl, ?_⟩) ?_ ?_
                  rotate_left
                  ·intro w'; go_simp; with_reducible rfl
                  rotate_left
                  ·simp only [Act.put, M.sT_, M.s0_, M.s1_, i64_w, i32_w]; rfl
                  refine pure_ (i := 18) (N := some 242) (v := ?_) (a' := ?_) #[true, true, true, true, true, true, true, true, true, true, true, true, true, true, true, true, true, true, true, false, false, false, false, false, false, false, false, false, false, false, false, false, false, false, false, false, false, false, false, false, false, false, false, false, false, false, false, false, false, false, false, false, false, false, false, false, false, false, false, false, false, false, false, false, false, false, false, false] rfl rfl (any_of HT_.out kr_) (fun _ _ _ h => h) (Or.inl ⟨by rfl, ?_⟩) ?_ ?_
                  rotate_left
                  ·intro w'; go_simp; with_reducible rfl
                  rotate_left
                  ·simp only [Act.put, M.sT_, M.s0_, M.s1_, i64_w, i32_w]; rfl
                  refine pure_ (i := 19) (N := some 243) (v := ?_) (a' := ?_) #[true, true, true, true, true, true, true, true, true, true, true, true, true, true, true, true, true, true, true, true, false, false, false, false, false, false, false, false, false, false, false, false, false, false, false, false, false, false, false, false, false, false, false, false, false, false, false, false, false, false, false, false, false, false, false, false, false, false, false, false, false, false, false, false, false, false, false, false] rfl rfl (any_of HT_.out kr_) (fun _ _ _ h => h) (Or.inl ⟨by rfl, ?_⟩) ?_ ?_
                  rotate_left
                  ·intro w'; go_simp; with_reducible rfl
                  rotate_left
                  ·simp only [Act.put, M.sT_, M.s0_, M.s1_, i64_w, i32_w]; rfl
                  refine pure_ (i := 20) (N := some 244) (v := ?_) (a' := ?_) #[true, true, true, true, true, true, true, true, true, true, true, true, true, true, true, true, true, true, true, true, true, false, false, false, false, false, false, false, false, false, false, false, false, false, false, false, false, false, false, false, false, false, false, false, false, false, false, false, false, false, false, false, false, false, false, false, false, false, false, false, false, false, false, false, false, false, false, false] rfl rfl (any_of HT_.out kr_) (fun _ _ _ h => h) (Or.inl ⟨by rfl, ?_⟩) ?_ ?_
                  rotate_left
                  ·intro w'; go_simp; with_reducible rfl
                  rotate_left
                  ·simp only [Act.put, M.sT_, M.s0_, M.s1_, i64_w, i32_w]; rfl
                  refine pure_ (i := 21) (N := some 245) (v := ?_) (a' := ?_) #[true, true, true, true, true, true, true, true, true, true, true, true, true, true, true, true, true, true, true, true, true, true, false, false, false, false, false, false, false, false, false, false, false, false, false, false, false, false, false, false, false, false, false, false, false, false, false, false, false, false, false, false, false, false, false, false, false, false, false, false, false, false, false, false, false, false, false, false] rfl rfl (any_of HT_.out kr_) (fun _ _ _ h => h) (Or.inl ⟨by rfl, ?_⟩) ?_ ?_
                  rotate_left
                  ·intro w'; go_simp; with_reducible rfl
                  rotate_left
                  ·simp only [Act.put, M.sT_, M.s0_, M.s1_, i64_w, i32_w]; rfl
                  refine pure_ (i := 23) (N := some 247) (v := ?_) (a' := ?_) #[true, true, true, true, true, true, true, true, true, true, true, true, true, true, true, true, true, true, true, true, true, true, false, true, false, false, false, false, false, false, false, false, false, false, false, false, false, false, false, false, false, false, false, false, false, false, false, false, false, false, false, false, false, false, false, false, false, false, false, false, false, false, false, false, false, false, false, false] rfl rfl (any_of HT_.out kr_) (fun _ _ _ h => h) (Or.inl ⟨by rfl, ?_⟩) ?_ ?_
                  rotate_left
                  ·intro w'; go_simp; with_reducible rfl
                  rotate_left
                  ·simp only [Act.put, M.sT_, M.s0_, M.s1_, i64_w, i32_w]; rfl
                  refine pure_ (i := 24) (N := some 248) (v := ?_) (a' := ?_) #[true, true, true, true, true, true, true, true, true, true, true, true, true, true, true, true, true, true, true, true, true, true, false, true, true, false, false, false, false, false, false, false, false, false, false, false, false, false, false, false, false, false, false, false, false, false, false, false, false, false, false, false, false, false, false, false, false, false, false, false, false, false, false, false, false, false, false, false] rfl rfl (any_of HT_.out kr_) (fun _ _ _ h => h) (Or.inl ⟨by rfl, ?_⟩) ?_ ?_
                  rotate_left
                  ·intro w'; go_simp; with_reducible rfl
                  rotate_left
                  ·simp only [Act.put, M.sT_, M.s0_, M.s1_, i64_w, i32_w]; rfl
                  refine pure_ (i := 25) (N := some 249) (v := ?_) (a' := ?_) #[true, true, true, true, true, true, true, true, true, true, true, true, true, true, true, true, true, true, true, true, true, true, false, true, true, true, false, false, false, false, false, false, false, false, false, false, false, false, false, false, false, false, false, false, false, false, false, false, false, false, false, false, false, false, false, false, false, false, false, false, false, false, false, false, false, false, false, false] rfl rfl (any_of HT_.out kr_) (fun _ _ _ h => h) (Or.inl ⟨by rfl, ?_⟩) ?_ ?_
                  rotate_left
                  ·intro w'; go_simp; with_reducible rfl
                  rotate_left
                  ·simp only [Act.put, M.sT_, M.s0_, M.s1_, i64_w, i32_w]; rfl
                  refine one_ (i := 22) (N := some 246) #[true, true, true, true, true, true, true, true, true, true, true, true, true, true, true, true, true, true, true, true, true, true, true, true, true, true, false, false, false, false, false, false, false, false, false, false, false, false, false, false, false, false, false, false, false, false, false, false, false, false, false, false, false, false, false, false, false, false, false, false, false, false, false, false, false, false, false, false] rfl rfl (one_of HT_.out kr_) (by decide) (fun K hK => ?_)
                  refine goes_ Tryz.func18 kr_ rfl #[.int .i64 t534, .int .i64 t535, .int .i64 t536] (by rfl) rfl rfl q2_ ?_
                  with_reducible refine (impl_PairBound.calls kj467 t534 t535 t536 t560 _ A498.out).mono ?_
                  rintro e w' ⟨rfl, ⟨nd, rfl⟩⟩
                  refine ⟨_, rfl, ?_⟩
                  refine hK.out _ _ ⟨(blk_cell BK539.out 0).trans rfl, (blk_cell BK539.out 1).trans rfl, (blk_cell BK555.out 0).trans rfl, (blk_cell BK555.out 1).trans rfl⟩ (fun hHeld => ?_)
                  clear hK K
                  refine norm_ (a' := ?_) ?_ ?_
                  rotate_left
                  ·show Act.put _ (some 246) _ = _
                   simp only [Act.put, M.sT_, M.s0_, M.s1_, i64_w, i32_w]; rfl
                  refine one_ (i := 26) (N := some 250) #[true, true, true, true, true, true, true, true, true, true, true, true, true, true, true, true, true, true, true, true, true, true, true, true, true, true, true, false, false, false, false, false, false, false, false, false, false, false, false, false, false, false, false, false, false, false, false, false, false, false, false, false, false, false, false, false, false, false, false, false, false, false, false, false, false, false, false, false] rfl rfl (one_of HT_.out kr_) (by decide) (fun K hK => ?_)
                  refine goes_ Tryz.func36 kr_ rfl #[.int .i64 t534, .int .i64 t535, .int .i64 t536] (by rfl) rfl rfl q2_ ?_
                  with_reducible refine (spec_PairBound.calls kj467 t534 t535 t536 t561 _ A499.out).mono ?_
                  rintro e w' ⟨rfl, ⟨nd, rfl⟩⟩
                  refine ⟨_, rfl, ?_⟩
                  refine hK.out _ _ ⟨(blk_cell BK539.out 0).trans rfl, (blk_cell BK539.out 1).trans rfl, (blk_cell BK555.out 0).trans rfl, (blk_cell BK555.out 1).trans rfl⟩ (fun hHeld => ?_)
                  clear hK K
                  refine norm_ (a' := ?_) ?_ ?_
                  rotate_left
                  ·show Act.put _ (some 250) _ = _
                   simp only [Act.put, M.sT_, M.s0_, M.s1_, i64_w, i32_w]; rfl
                  refine pure_ (i := 27) (N := some 251) (v := ?_) (a' := ?_) #[true, true, true, true, true, true, true, true, true, true, true, true, true, true, true, true, true, true, true, true, true, true, true, true, true, true, true, true, false, false, false, false, false, false, false, false, false, false, false, false, false, false, false, false, false, false, false, false, false, false, false, false, false, false, false, false, false, false, false, false, false, false, false, false, false, false, false, false] rfl rfl (any_of HT_.out kr_) (fun _ _ _ h => h) (Or.inl ⟨by rfl, ?_⟩) ?_ ?_
                  rotate_left
                  ·intro w'; go_simp; with_reducible rfl
                  rotate_left
                  ·simp only [Act.put, M.sT_, M.s0_, M.s1_, i64_w, i32_w]; rfl
                  refine pure_ (i := 28) (N := some 252) (v := ?_) (a' := ?_) #[true, true, true, true, true, true, true, true, true, true, true, true, true, true, true, true, true, true, true, true, true, true, true, true, true, true, true, true, true, false, false, false, false, false, false, false, false, false, false, false, false, false, false, false, false, false, false, false, false, false, false, false, false, false, false, false, false, false, false, false, false, false, false, false, false, false, false, false] rfl rfl (any_of HT_.out kr_) (fun _ _ _ h => h) (Or.inl ⟨by rfl, ?_⟩) ?_ ?_
                  rotate_left
                  ·intro w'; go_simp; with_reducible rfl
                  rotate_left
                  ·simp only [Act.put, M.sT_, M.s0_, M.s1_, i64_w, i32_w]; rfl
                  refine pure_ (i := 29) (N := some 253) (v := ?_) (a' := ?_) #[true, true, true, true, true, true, true, true, true, true, true, true, true, true, true, true, true, true, true, true, true, true, true, true, true, true, true, true, true, true, false, false, false, false, false, false, false, false, false, false, false, false, false, false, false, false, false, false, false, false, false, false, false, false, false, false, false, false, false, false, false, false, false, false, false, false, false, false] rfl rfl (any_of HT_.out kr_) (fun _ _ _ h => h) (Or.inl ⟨by rfl, ?_⟩) ?_ ?_
                  rotate_left
                  ·intro w'; go_simp; with_reducible rfl
                  rotate_left
                  ·simp only [Act.put, M.sT_, M.s0_, M.s1_, i64_w, i32_w]; rfl
                  refine take_ (i := 30) (N := some 254) (v := ?_) (a' := ?_) #[true, true, true, true, true, true, true, true, true, true, true, true, true, true, true, true, true, true, true, true, true, true, true, true, true, true, true, true, true, true, true, false, false, false, false, false, false, false, false, false, false, false, false, false, false, false, false, false, false, false, false, false, false, false, false, false, false, false, false, false, false, false, false, false, false, false, false, false] rfl rfl (take_ofW HT_.out HW_.out kr_) (fun _ _ _ h => h) (Or.inl ⟨by rfl, ?_⟩) hHeld ?_ ?_
                  rotate_left
                  ·rintro w' ⟨s0, s1, s2, s3⟩
                   go_simp; with_reducible rfl
                  rotate_left
                  ·simp only [Act.put, M.sT_, M.s0_, M.s1_, i64_w, i32_w]; rfl
                  refine take_ (i := 32) (N := some 256) (v := ?_) (a' := ?_) #[true, true, true, true, true, true, true, true, true, true, true, true, true, true, true, true, true, true, true, true, true, true, true, true, true, true, true, true, true, true, true, false, true, false, false, false, false, false, false, false, false, false, false, false, false, false, false, false, false, false, false, false, false, false, false, false, false, false, false, false, false, false, false, false, false, false, false, false] rfl rfl (take_ofW HT_.out HW_.out kr_) (fun _ _ _ h => h) (Or.inl ⟨by rfl, ?_⟩) hHeld ?_ ?_
                  rotate_left
                  ·rintro w' ⟨s0, s1, s2, s3⟩
                   go_simp; with_reducible rfl
                  rotate_left
                  ·simp only [Act.put, M.sT_, M.s0_, M.s1_, i64_w, i32_w]; rfl
                  refine one_ (i := 31) (N := some 255) #[true, true, true, true, true, true, true, true, true, true, true, true, true, true, true, true, true, true, true, true, true, true, true, true, true, true, true, true, true, true, true, true, true, false, false, false, false, false, false, false, false, false, false, false, false, false, false, false, false, false, false, false, false, false, false, false, false, false, false, false, false, false, false, false, false, false, false, false] rfl rfl (one_of HT_.out kr_) (by decide) (fun K hK => ?_)
                  refine goes_ Tryz.func16 kr_ rfl #[.agg #[.int .i64 t537, .int .i64 t538]] (by rfl) rfl rfl q2_ ?_
                  with_reducible refine (impl_TableBound.calls kj467 t537 t538 t562 _ A501.out).mono ?_
                  rintro e w535 ⟨rfl, hb⟩
                  refine ⟨_, rfl, ?_⟩
                  have n0_ := A_ (blk_below (M.Lb BK482) hb)
                  have n1_ := A_ (blk_below (M.Lb BK539) hb)
                  have n2_ := A_ (blk_below (M.Lb BK542) hb)
                  have n3_ := A_ (blk_below (M.Lb BK555) hb)
                  have n4_ := A_ (below_step (M.Lw HB) hb)
                  clear BK482; clear BK539; clear BK542; clear BK555; clear HB; have BK482 := n0_; have BK539 := n1_; have BK542 := n2_; have BK555 := n3_; have HB := n4_; clear n0_ n1_ n2_ n3_ n4_; clear hb
                  refine hK.out _ _ ⟨(blk_cell BK539.out 0).trans rfl, (blk_cell BK539.out 1).trans rfl, (blk_cell BK555.out 0).trans rfl, (blk_cell BK555.out 1).trans rfl⟩ (fun hHeld => ?_)
                  clear hK K
                  refine norm_ (a' := ?_) ?_ ?_
                  rotate_left
                  ·show Act.put _ (some 255) _ = _
                   simp only [Act.put, M.sT_, M.s0_, M.s1_, i64_w, i32_w]; rfl
                  refine one_ (i := 33) (N := some 257) #[true, true, true, true, true, true, true, true, true, true, true, true, true, true, true, true, true, true, true, true, true, true, true, true, true, true, true, true, true, true, true, true, true, true, false, false, false, false, false, false, false, false, false, false, false, false, false, false, false, false, false, false, false, false, false, false, false, false, false, false, false, false, false, false, false, false, false, false] rfl rfl (one_of HT_.out kr_) (by decide) (fun K hK => ?_)
                  refine goes_ Tryz.func37 kr_ rfl #[.agg #[.int .i64 t537, .int .i64 t538]] (by rfl) rfl rfl q2_ ?_
                  with_reducible refine (spec_TableBound.calls kj467 t537 t538 t563 _ A502.out).mono ?_
                  rintro e w536 ⟨rfl, hb⟩
                  refine ⟨_, rfl, ?_⟩
                  have n0_ := A_ (blk_below (M.Lb BK482) hb)
                  have n1_ := A_ (blk_below (M.Lb BK539) hb)
                  have n2_ := A_ (blk_below (M.Lb BK542) hb)
                  have n3_ := A_ (blk_below (M.Lb BK555) hb)
                  have n4_ := A_ (below_step (M.Lw HB) hb)
                  clear BK482; clear BK539; clear BK542; clear BK555; clear HB; have BK482 := n0_; have BK539 := n1_; have BK542 := n2_; have BK555 := n3_; have HB := n4_; clear n0_ n1_ n2_ n3_ n4_; clear hb
                  refine hK.out _ _ ⟨(blk_cell BK539.out 0).trans rfl, (blk_cell BK539.out 1).trans rfl, (blk_cell BK555.out 0).trans rfl, (blk_cell BK555.out 1).trans rfl⟩ (fun hHeld => ?_)
                  clear hK K
                  refine norm_ (a' := ?_) ?_ ?_
                  rotate_left
                  ·show Act.put _ (some 257) _ = _
                   simp only [Act.put, M.sT_, M.s0_, M.s1_, i64_w, i32_w]; rfl
                  refine pure_ (i := 34) (N := some 258) (v := ?_) (a' := ?_) #[true, true, true, true, true, true, true, true, true, true, true, true, true, true, true, true, true, true, true, true, true, true, true, true, true, true, true, true, true, true, true, true, true, true, true, false, false, false, false, false, false, false, false, false, false, false, false, false, false, false, false, false, false, false, false, false, false, false, false, false, false, false, false, false, false, false, false, false] rfl rfl (any_of HT_.out kr_) (fun _ _ _ h => h) (Or.inl ⟨by rfl, ?_⟩) ?_ ?_
                  rotate_left
                  ·intro w'; go_simp; with_reducible rfl
                  rotate_left
                  ·simp only [Act.put, M.sT_, M.s0_, M.s1_, i64_w, i32_w]; rfl
                  refine pure_ (i := 35) (N := some 259) (v := ?_) (a' := ?_) #[true, true, true, true, true, true, true, true, true, true, true, true, true, true, true, true, true, true, true, true, true, true, true, true, true, true, true, true, true, true, true, true, true, true, true, true, false, false, false, false, false, false, false, false, false, false, false, false, false, false, false, false, false, false, false, false, false, false, false, false, false, false, false, false, false, false, false, false] rfl rfl (any_of HT_.out kr_) (fun _ _ _ h => h) (Or.inl ⟨by rfl, ?_⟩) ?_ ?_
                  rotate_left
                  ·intro w'; go_simp; with_reducible rfl
                  rotate_left
                  ·simp only [Act.put, M.sT_, M.s0_, M.s1_, i64_w, i32_w]; rfl
                  refine pure_ (i := 36) (N := some 260) (v := ?_) (a' := ?_) #[true, true, true, true, true, true, true, true, true, true, true, true, true, true, true, true, true, true, true, true, true, true, true, true, true, true, true, true, true, true, true, true, true, true, true, true, true, false, false, false, false, false, false, false, false, false, false, false, false, false, false, false, false, false, false, false, false, false, false, false, false, false, false, false, false, false, false, false] rfl rfl (any_of HT_.out kr_) (fun _ _ _ h => h) (Or.inl ⟨by rfl, ?_⟩) ?_ ?_
                  rotate_left
                  ·intro w'; go_simp; with_reducible rfl
                  rotate_left
                  ·simp only [Act.put, M.sT_, M.s0_, M.s1_, i64_w, i32_w]; rfl
                  refine pure_ (i := 37) (N := some 261) (v := ?_) (a' := ?_) #[true, true, true, true, true, true, true, true, true, true, true, true, true, true, true, true, true, true, true, true, true, true, true, true, true, true, true, true, true, true, true, true, true, true, true, true, true, true, false, false, false, false, false, false, false, false, false, false, false, false, false, false, false, false, false, false, false, false, false, false, false, false, false, false, false, false, false, false] rfl rfl (any_of HT_.out kr_) (fun _ _ _ h => h) (Or.inl ⟨by rfl, ?_⟩) ?_ ?_
                  rotate_left
                  ·intro w'; go_simp; with_reducible rfl
                  rotate_left
                  ·simp only [Act.put, M.sT_, M.s0_, M.s1_, i64_w, i32_w]; rfl
                  refine pure_ (i := 38) (N := some 262) (v := ?_) (a' := ?_) #[true, true, true, true, true, true, true, true, true, true, true, true, true, true, true, true, true, true, true, true, true, true, true, true, true, true, true, true, true, true, true, true, true, true, true, true, true, true, true, false, false, false, false, false, false, false, false, false, false, false, false, false, false, false, false, false, false, false, false, false, false, false, false, false, false, false, false, false] rfl rfl (any_of HT_.out kr_) (fun _ _ _ h => h) (Or.inl ⟨by rfl, ?_⟩) ?_ ?_
                  rotate_left
                  ·intro w'; go_simp; with_reducible rfl
                  rotate_left
                  ·simp only [Act.put, M.sT_, M.s0_, M.s1_, i64_w, i32_w]; rfl
                  refine pure_ (i := 39) (N := some 263) (v := ?_) (a' := ?_) #[true, true, true, true, true, true, true, true, true, true, true, true, true, true, true, true, true, true, true, true, true, true, true, true, true, true, true, true, true, true, true, true, true, true, true, true, true, true, true, true, false, false, false, false, false, false, false, false, false, false, false, false, false, false, false, false, false, false, false, false, false, false, false, false, false, false, false, false] rfl rfl (any_of HT_.out kr_) (fun _ _ _ h => h) (Or.inl ⟨by rfl, ?_⟩) ?_ ?_
                  rotate_left
                  ·intro w'; go_simp; with_reducible rfl
                  rotate_left
                  ·simp only [Act.put, M.sT_, M.s0_, M.s1_, i64_w, i32_w]; rfl
                  refine pure_ (i := 40) (N := some 264) (v := ?_) (a' := ?_) #[true, true, true, true, true, true, true, true, true, true, true, true, true, true, true, true, true, true, true, true, true, true, true, true, true, true, true, true, true, true, true, true, true, true, true, true, true, true, true, true, true, false, false, false, false, false, false, false, false, false, false, false, false, false, false, false, false, false, false, false, false, false, false, false, false, false, false, false] rfl rfl (any_of HT_.out kr_) (fun _ _ _ h => h) (Or.inl ⟨by rfl, ?_⟩) ?_ ?_
                  rotate_left
                  ·intro w'; go_simp; with_reducible rfl
                  rotate_left
                  ·simp only [Act.put, M.sT_, M.s0_, M.s1_, i64_w, i32_w]; rfl
                  refine pure_ (i := 41) (N := some 265) (v := ?_) (a' := ?_) #[true, true, true, true, true, true, true, true, true, true, true, true, true, true, true, true, true, true, true, true, true, true, true, true, true, true, true, true, true, true, true, true, true, true, true, true, true, true, true, true, true, true, false, false, false, false, false, false, false, false, false, false, false, false, false, false, false, false, false, false, false, false, false, false, false, false, false, false] rfl rfl (any_of HT_.out kr_) (fun _ _ _ h => h) (Or.inl ⟨by rfl, ?_⟩) ?_ ?_
                  rotate_left
                  ·intro w'; go_simp; with_reducible rfl
                  rotate_left
                  ·simp only [Act.put, M.sT_, M.s0_, M.s1_, i64_w, i32_w]; rfl
                  refine pure_ (i := 42) (N := some 266) (v := ?_) (a' := ?_) #[true, true, true, true, true, true, true, true, true, true, true, true, true, true, true, true, true, true, true, true, true, true, true, true, true, true, true, true, true, true, true, true, true, true, true, true, true, true, true, true, true, true, true, false, false, false, false, false, false, false, false, false, false, false, false, false, false, false, false, false, false, false, false, false, false, false, false, false] rfl rfl (any_of HT_.out kr_) (fun _ _ _ h => h) (Or.inl ⟨by rfl, ?_⟩) ?_ ?_
                  rotate_left
                  ·intro w'; go_simp; with_reducible rfl
                  rotate_left
                  ·simp only [Act.put, M.sT_, M.s0_, M.s1_, i64_w, i32_w]; rfl
                  refine pure_ (i := 43) (N := some 267) (v := ?_) (a' := ?_) #[true, true, true, true, true, true, true, true, true, true, true, true, true, true, true, true, true, true, true, true, true, true, true, true, true, true, true, true, true, true, true, true, true, true, true, true, true, true, true, true, true, true, true, true, false, false, false, false, false, false, false, false, false, false, false, false, false, false, false, false, false, false, false, false, false, false, false, false] rfl rfl (any_of HT_.out kr_) (fun _ _ _ h => h) (Or.inl ⟨by rfl, ?_⟩) ?_ ?_; rotate_left
                  ·intro w'; go_simp; with_reducible rfl
                  rotate_left
                  ·simp only [Act.put, M.sT_, M.s0_, M.s1_, i64_w, i32_w]; rfl
                  refine pure_ (i := 44) (N := some 268) (v := ?_) (a' := ?_) #[true, true, true, true, true, true, true, true, true, true, true, true, true, true, true, true, true, true, true, true, true, true, true, true, true, true, true, true, true, true, true, true, true, true, true, true, true, true, true, true, true, true, true, true, true, false, false, false, false, false, false, false, false, false, false, false, false, false, false, false, false, false, false, false, false, false, false, false] rfl rfl (any_of HT_.out kr_) (fun _ _ _ h => h) (Or.inl ⟨by rfl, ?_⟩) ?_ ?_; rotate_left
                  ·intro w'; go_simp; with_reducible rfl
                  rotate_left
                  ·simp only [Act.put, M.sT_, M.s0_, M.s1_, i64_w, i32_w]; rfl
                  refine pure_ (i := 45) (N := some 269) (v := ?_) (a' := ?_) #[true, true, true, true, true, true, true, true, true, true, true, true, true, true, true, true, true, true, true, true, true, true, true, true, true, true, true, true, true, true, true, true, true, true, true, true, true, true, true, true, true, true, true, true, true, true, false, false, false, false, false, false, false, false, false, false, false, false, false, false, false, false, false, false, false, false, false, false] rfl rfl (any_of HT_.out kr_) (fun _ _ _ h => h) (Or.inl ⟨by rfl, ?_⟩) ?_ ?_; rotate_left
                  ·intro w'; go_simp; with_reducible rfl
                  rotate_left
                  ·simp only [Act.put, M.sT_, M.s0_, M.s1_, i64_w, i32_w]; rfl
                  refine pure_ (i := 46) (N := some 270) (v := ?_) (a' := ?_) #[true, true, true, true, true, true, true, true, true, true, true, true, true, true, true, true, true, true, true, true, true, true, true, true, true, true, true, true, true, true, true, true, true, true, true, true, true, true, true, true, true, true, true, true, true, true, true, false, false, false, false, false, false, false, false, false, false, false, false, false, false, false, false, false, false, false, false, false] rfl rfl (any_of HT_.out kr_) (fun _ _ _ h => h) (Or.inl ⟨by rfl, ?_⟩) ?_ ?_; rotate_left
                  ·intro w'; go_simp; with_reducible rfl
                  rotate_left
                  ·simp only [Act.put, M.sT_, M.s0_, M.s1_, i64_w, i32_w]; rfl
                  refine pure_ (i := 47) (N := some 271) (v := ?_) (a' := ?_) #[true, true, true, true, true, true, true, true, true, true, true, true, true, true, true, true, true, true, true, true, true, true, true, true, true, true, true, true, true, true, true, true, true, true, true, true, true, true, true, true, true, true, true, true, true, true, true, true, false, false, false, false, false, false, false, false, false, false, false, false, false, false, false, false, false, false, false, false] rfl rfl (any_of HT_.out kr_) (fun _ _ _ h => h) (Or.inl ⟨by rfl, ?_⟩) ?_ ?_; rotate_left
                  ·intro w'; go_simp; with_reducible rfl
                  rotate_left
                  ·simp only [Act.put, M.sT_, M.s0_, M.s1_, i64_w, i32_w]; rfl
                  refine pure_ (i := 48) (N := some 272) (v := ?_) (a' := ?_) #[true, true, true, true, true, true, true, true, true, true, true, true, true, true, true, true, true, true, true, true, true, true, true, true, true, true, true, true, true, true, true, true, true, true, true, true, true, true, true, true, true, true, true, true, true, true, true, true, true, false, false, false, false, false, false, false, false, false, false, false, false, false, false, false, false, false, false, false] rfl rfl (any_of HT_.out kr_) (fun _ _ _ h => h) (Or.inl ⟨by rfl, ?_⟩) ?_ ?_; rotate_left
                  ·intro w'; go_simp; with_reducible rfl
                  rotate_left
                  ·simp only [Act.put, M.sT_, M.s0_, M.s1_, i64_w, i32_w]; rfl
                  refine pure_ (i := 49) (N := some 273) (v := ?_) (a' := ?_) #[true, true, true, true, true, true, true, true, true, true, true, true, true, true, true, true, true, true, true, true, true, true, true, true, true, true, true, true, true, true, true, true, true, true, true, true, true, true, true, true, true, true, true, true, true, true, true, true, true, true, false, false, false, false, false, false, false, false, false, false, false, false, false, false, false, false, false, false] rfl rfl (any_of HT_.out kr_) (fun _ _ _ h => h) (Or.inl ⟨by rfl, ?_⟩) ?_ ?_; rotate_left
                  ·intro w'; go_simp; with_reducible rfl
                  rotate_left
                  ·simp only [Act.put, M.sT_, M.s0_, M.s1_, i64_w, i32_w]; rfl
                  refine pure_ (i := 50) (N := some 274) (v := ?_) (a' := ?_) #[true, true, true, true, true, true, true, true, true, true, true, true, true, true, true, true, true, true, true, true, true, true, true, true, true, true, true, true, true, true, true, true, true, true, true, true, true, true, true, true, true, true, true, true, true, true, true, true, true, true, true, false, false, false, false, false, false, false, false, false, false, false, false, false, false, false, false, false] rfl rfl (any_of HT_.out kr_) (fun _ _ _ h => h) (Or.inl ⟨by rfl, ?_⟩) ?_ ?_; rotate_left
                  ·intro w'; go_simp; with_reducible rfl
                  rotate_left
                  ·simp only [Act.put, M.sT_, M.s0_, M.s1_, i64_w, i32_w]; rfl
                  refine pure_ (i := 51) (N := some 275) (v := ?_) (a' := ?_) #[true, true, true, true, true, true, true, true, true, true, true, true, true, true, true, true, true, true, true, true, true, true, true, true, true, true, true, true, true, true, true, true, true, true, true, true, true, true, true, true, true, true, true, true, true, true, true, true, true, true, true, true, false, false, false, false, false, false, false, false, false, false, false, false, false, false, false, false] rfl rfl (any_of HT_.out kr_) (fun _ _ _ h => h) (Or.inl ⟨by rfl, ?_⟩) ?_ ?_; rotate_left
                  ·intro w'; go_simp; with_reducible rfl
                  rotate_left
                  ·simp only [Act.put, M.sT_, M.s0_, M.s1_, i64_w, i32_w]; rfl
                  refine pure_ (i := 52) (N := some 276) (v := ?_) (a' := ?_) #[true, true, true, true, true, true, true, true, true, true, true, true, true, true, true, true, true, true, true, true, true, true, true, true, true, true, true, true, true, true, true, true, true, true, true, true, true, true, true, true, true, true, true, true, true, true, true, true, true, true, true, true, true, false, false, false, false, false, false, false, false, false, false, false, false, false, false, false] rfl rfl (any_of HT_.out kr_) (fun _ _ _ h => h) (Or.inl ⟨by rfl, ?_⟩) ?_ ?_; rotate_left
                  ·intro w'; go_simp; with_reducible rfl
                  rotate_left
                  ·simp only [Act.put, M.sT_, M.s0_, M.s1_, i64_w, i32_w]; rfl
                  refine pure_ (i := 53) (N := some 277) (v := ?_) (a' := ?_) #[true, true, true, true, true, true, true, true, true, true, true, true, true, true, true, true, true, true, true, true, true, true, true, true, true, true, true, true, true, true, true, true, true, true, true, true, true, true, true, true, true, true, true, true, true, true, true, true, true, true, true, true, true, true, false, false, false, false, false, false, false, false, false, false, false, false, false, false] rfl rfl (any_of HT_.out kr_) (fun _ _ _ h => h) (Or.inl ⟨by rfl, ?_⟩) ?_ ?_; rotate_left
                  ·intro w'; go_simp; with_reducible rfl
                  rotate_left
                  ·simp only [Act.put, M.sT_, M.s0_, M.s1_, i64_w, i32_w]; rfl
                  refine pure_ (i := 54) (N := some 278) (v := ?_) (a' := ?_) #[true, true, true, true, true, true, true, true, true, true, true, true, true, true, true, true, true, true, true, true, true, true, true, true, true, true, true, true, true, true, true, true, true, true, true, true, true, true, true, true, true, true, true, true, true, true, true, true, true, true, true, true, true, true, true, false, false, false, false, false, false, false, false, false, false, false, false, false] rfl rfl (any_of HT_.out kr_) (fun _ _ _ h => h) (Or.inl ⟨by rfl, ?_⟩) ?_ ?_; rotate_left
                  ·intro w'; go_simp; with_reducible rfl
                  rotate_left
                  ·simp only [Act.put, M.sT_, M.s0_, M.s1_, i64_w, i32_w]; rfl
                  refine pure_ (i := 55) (N := some 279) (v := ?_) (a' := ?_) #[true, true, true, true, true, true, true, true, true, true, true, true, true, true, true, true, true, true, true, true, true, true, true, true, true, true, true, true, true, true, true, true, true, true, true, true, true, true, true, true, true, true, true, true, true, true, true, true, true, true, true, true, true, true, true, true, false, false, false, false, false, false, false, false, false, false, false, false] rfl rfl (any_of HT_.out kr_) (fun _ _ _ h => h) (Or.inl ⟨by rfl, ?_⟩) ?_ ?_; rotate_left
                  ·intro w'; go_simp; with_reducible rfl
                  rotate_left
                  ·simp only [Act.put, M.sT_, M.s0_, M.s1_, i64_w, i32_w]; rfl
                  refine pure_ (i := 56) (N := some 280) (v := ?_) (a' := ?_) #[true, true, true, true, true, true, true, true, true, true, true, true, true, true, true, true, true, true, true, true, true, true, true, true, true, true, true, true, true, true, true, true, true, true, true, true, true, true, true, true, true, true, true, true, true, true, true, true, true, true, true, true, true, true, true, true, true, false, false, false, false, false, false, false, false, false, false, false] rfl rfl (any_of HT_.out kr_) (fun _ _ _ h => h) (Or.inl ⟨by rfl, ?_⟩) ?_ ?_; rotate_left
                  ·intro w'; go_simp; with_reducible rfl
                  rotate_left
                  ·simp only [Act.put, M.sT_, M.s0_, M.s1_, i64_w, i32_w]; rfl
                  refine pure_ (i := 58) (N := some 282) (v := ?_) (a' := ?_) #[true, true, true, true, true, true, true, true, true, true, true, true, true, true, true, true, true, true, true, true, true, true, true, true, true, true, true, true, true, true, true, true, true, true, true, true, true, true, true, true, true, true, true, true, true, true, true, true, true, true, true, true, true, true, true, true, true, false, true, false, false, false, false, false, false, false, false, false] rfl rfl (any_of HT_.out kr_) (fun _ _ _ h => h) (Or.inl ⟨by rfl, ?_⟩) ?_ ?_; rotate_left
                  ·intro w'; go_simp; with_reducible rfl
                  rotate_left
                  ·simp only [Act.put, M.sT_, M.s0_, M.s1_, i64_w, i32_w]; rfl
                  refine pure_ (i := 59) (N := some 283) (v := ?_) (a' := ?_) #[true, true, true, true, true, true, true, true, true, true, true, true, true, true, true, true, true, true, true, true, true, true, true, true, true, true, true, true, true, true, true, true, true, true, true, true, true, true, true, true, true, true, true, true, true, true, true, true, true, true, true, true, true, true, true, true, true, false, true, true, false, false, false, false, false, false, false, false] rfl rfl (any_of HT_.out kr_) (fun _ _ _ h => h) (Or.inl ⟨by rfl, ?_⟩) ?_ ?_; rotate_left
                  ·intro w'; go_simp; with_reducible rfl
                  rotate_left
                  ·simp only [Act.put, M.sT_, M.s0_, M.s1_, i64_w, i32_w]; rfl
                  refine pure_ (i := 62) (N := some 286) (v := ?_) (a' := ?_) #[true, true, true, true, true, true, true, true, true, true, true, true, true, true, true, true, true, true, true, true, true, true, true, true, true, true, true, true, true, true, true, true, true, true, true, true, true, true, true, true, true, true, true, true, true, true, true, true, true, true, true, true, true, true, true, true, true, false, true, true, false, false, true, false, false, false, false, false] rfl rfl (any_of HT_.out kr_) (fun _ _ _ h => h) (Or.inl ⟨by rfl, ?_⟩) ?_ ?_; rotate_left
                  ·intro w'; go_simp; with_reducible rfl
                  rotate_left
                  ·simp only [Act.put, M.sT_, M.s0_, M.s1_, i64_w, i32_w]; rfl
                  refine pure_ (i := 63) (N := some 287) (v := ?_) (a' := ?_) #[true, true, true, true, true, true, true, true, true, true, true, true, true, true, true, true, true, true, true, true, true, true, true, true, true, true, true, true, true, true, true, true, true, true, true, true, true, true, true, true, true, true, true, true, true, true, true, true, true, true, true, true, true, true, true, true, true, false, true, true, false, false, true, true, false, false, false, false] rfl rfl (any_of HT_.out kr_) (fun _ _ _ h => h) (Or.inl ⟨by rfl, ?_⟩) ?_ ?_; rotate_left
                  ·intro w'; go_simp; with_reducible rfl
                  rotate_left
                  ·simp only [Act.put, M.sT_, M.s0_, M.s1_, i64_w, i32_w]; rfl
                  refine take_ (i := 57) (N := some 281) (v := ?_) (a' := ?_) #[true, true, true, true, true, true, true, true, true, true, true, true, true, true, true, true, true, true, true, true, true, true, true, true, true, true, true, true, true, true, true, true, true, true, true, true, true, true, true, true, true, true, true, true, true, true, true, true, true, true, true, true, true, true, true, true, true, true, true, true, false, false, true, true, false, false, false, false] rfl rfl (take_ofW HT_.out HW_.out kr_) (fun _ _ _ h => h) (Or.inl ⟨by rfl, ?_⟩) hHeld ?_ ?_
                  rotate_left
                  ·rintro w' ⟨s0, s1, s2, s3⟩
                   go_simp; with_reducible rfl
                  rotate_left
                  ·simp only [Act.put, M.sT_, M.s0_, M.s1_, i64_w, i32_w]; rfl
                  refine take_ (i := 61) (N := some 285) (v := ?_) (a' := ?_) #[true, true, true, true, true, true, true, true, true, true, true, true, true, true, true, true, true, true, true, true, true, true, true, true, true, true, true, true, true, true, true, true, true, true, true, true, true, true, true, true, true, true, true, true, true, true, true, true, true, true, true, true, true, true, true, true, true, true, true, true, false, true, true, true, false, false, false, false] rfl rfl (take_ofW HT_.out HW_.out kr_) (fun _ _ _ h => h) (Or.inl ⟨by rfl, ?_⟩) hHeld ?_ ?_
                  rotate_left
                  ·rintro w' ⟨s0, s1, s2, s3⟩
                   go_simp; with_reducible rfl
                  rotate_left
                  ·simp only [Act.put, M.sT_, M.s0_, M.s1_, i64_w, i32_w]; rfl
                  refine one_ (i := 60) (N := some 284) #[true, true, true, true, true, true, true, true, true, true, true, true, true, true, true, true, true, true, true, true, true, true, true, true, true, true, true, true, true, true, true, true, true, true, true, true, true, true, true, true, true, true, true, true, true, true, true, true, true, true, true, true, true, true, true, true, true, true, true, true, true, true, true, true, false, false, false, false] rfl rfl (one_of HT_.out kr_) (by decide) (fun K hK => ?_)
                  refine goes_ Tryz.func17 kr_ rfl #[.agg #[.int .i64 t551, .int .i64 t552], .int .i64 t553, .int .i64 t554] (by rfl) rfl rfl q2_ ?_
                  with_reducible refine (impl_IsSeparated.calls t551 t552 t553 t554 t564 _ A508.out).mono ?_
                  rintro e w537 ⟨rfl, hb⟩
                  refine ⟨_, rfl, ?_⟩
                  have n0_ := A_ (blk_below (M.Lb BK482) hb)
                  have n1_ := A_ (blk_below (M.Lb BK539) hb)
                  have n2_ := A_ (blk_below (M.Lb BK542) hb)
                  have n3_ := A_ (blk_below (M.Lb BK555) hb)
                  have n4_ := A_ (below_step (M.Lw HB) hb)
                  clear BK482; clear BK539; clear BK542; clear BK555; clear HB; have BK482 := n0_; have BK539 := n1_; have BK542 := n2_; have BK555 := n3_; have HB := n4_; clear n0_ n1_ n2_ n3_ n4_; clear hb
                  refine hK.out _ _ ⟨(blk_cell BK539.out 0).trans rfl, (blk_cell BK539.out 1).trans rfl, (blk_cell BK555.out 0).trans rfl, (blk_cell BK555.out 1).trans rfl⟩ (fun hHeld => ?_)
                  clear hK K
                  refine norm_ (a' := ?_) ?_ ?_
                  rotate_left
                  ·show Act.put _ (some 284) _ = _
                   simp only [Act.put, M.sT_, M.s0_, M.s1_, i64_w, i32_w]; rfl
                  refine one_ (i := 64) (N := some 288) #[true, true, true, true, true, true, true, true, true, true, true, true, true, true, true, true, true, true, true, true, true, true, true, true, true, true, true, true, true, true, true, true, true, true, true, true, true, true, true, true, true, true, true, true, true, true, true, true, true, true, true, true, true, true, true, true, true, true, true, true, true, true, true, true, true, false, false, false] rfl rfl (one_of HT_.out kr_) (by decide) (fun K hK => ?_)
                  refine goes_ Tryz.func38 kr_ rfl #[.agg #[.int .i64 t551, .int .i64 t552], .int .i64 t553, .int .i64 t554] (by rfl) rfl rfl q2_ ?_
                  with_reducible refine (spec_IsSeparated.calls t551 t552 t553 t554 t565 _ A509.out).mono ?_
                  rintro e w538 ⟨rfl, hb⟩
                  refine ⟨_, rfl, ?_⟩
                  have n0_ := A_ (blk_below (M.Lb BK482) hb)
                  have n1_ := A_ (blk_below (M.Lb BK539) hb)
                  have n2_ := A_ (blk_below (M.Lb BK542) hb)
                  have n3_ := A_ (blk_below (M.Lb BK555) hb)
                  have n4_ := A_ (below_step (M.Lw HB) hb)
                  clear BK482; clear BK539; clear BK542; clear BK555; clear HB; have BK482 := n0_; have BK539 := n1_; have BK542 := n2_; have BK555 := n3_; have HB := n4_; clear n0_ n1_ n2_ n3_ n4_; clear hb
                  refine hK.out _ _ ⟨(blk_cell BK539.out 0).trans rfl, (blk_cell BK539.out 1).trans rfl, (blk_cell BK555.out 0).trans rfl, (blk_cell BK555.out 1).trans rfl⟩ (fun hHeld => ?_)
                  clear hK K
                  refine norm_ (a' := ?_) ?_ ?_
                  rotate_left
                  ·show Act.put _ (some 288) _ = _
                   simp only [Act.put, M.sT_, M.s0_, M.s1_, i64_w, i32_w]; rfl
                  refine pure_ (i := 65) (N := some 289) (v := ?_) (a' := ?_) #[true, true, true, true, true, true, true, true, true, true, true, true, true, true, true, true, true, true, true, true, true, true, true, true, true, true, true, true, true, true, true, true, true, true, true, true, true, true, true, true, true, true, true, true, true, true, true, true, true, true, true, true, true, true, true, true, true, true, true, true, true, true, true, true, true, true, false, false] rfl rfl (any_of HT_.out kr_) (fun _ _ _ h => h) (Or.inl ⟨by rfl, ?_⟩) ?_ ?_; rotate_left
                  ·intro w'; go_simp; with_reducible rfl
                  rotate_left
                  ·simp only [Act.put, M.sT_, M.s0_, M.s1_, i64_w, i32_w]; rfl
                  refine pure_ (i := 66) (N := some 290) (v := ?_) (a' := ?_) #[true, true, true, true, true, true, true, true, true, true, true, true, true, true, true, true, true, true, true, true, true, true, true, true, true, true, true, true, true, true, true, true, true, true, true, true, true, true, true, true, true, true, true, true, true, true, true, true, true, true, true, true, true, true, true, true, true, true, true, true, true, true, true, true, true, true, true, false] rfl rfl (any_of HT_.out kr_) (fun _ _ _ h => h) (Or.inl ⟨by rfl, ?_⟩) ?_ ?_; rotate_left
                  ·intro w'; go_simp; with_reducible rfl
                  rotate_left
                  ·simp only [Act.put, M.sT_, M.s0_, M.s1_, i64_w, i32_w]; rfl
                  refine pure_ (i := 67) (N := some 2) (v := ?_) (a' := ?_) #[true, true, true, true, true, true, true, true, true, true, true, true, true, true, true, true, true, true, true, true, true, true, true, true, true, true, true, true, true, true, true, true, true, true, true, true, true, true, true, true, true, true, true, true, true, true, true, true, true, true, true, true, true, true, true, true, true, true, true, true, true, true, true, true, true, true, true, true] rfl rfl (any_of HT_.out kr_) (fun _ _ _ h => h) (Or.inl ⟨by rfl, ?_⟩) ?_ ?_; rotate_left
                  ·intro w'; go_simp; with_reducible rfl
                  rotate_left
                  ·simp only [Act.put, M.sT_, M.s0_, M.s1_, i64_w, i32_w]; rfl
                  refine done_ (done_of HT_.out kr_) ?_
                  try go_wp2
                  go_ret
                  exact ⟨q6_, M.Lw HB⟩
                 ·rw [if_neg c507] at H
                  have c507b0 : (t546 == t550) = false := by simpa using c507
                  (try (have c507b1 : decide (t546 = t550) = false := by simpa using c507))
                  (try (have c507b2 : (t546 == t550) = false := by simpa using c507))
                  (try (have c507b3 : ¬ (t546 = t550) := by simpa using c507))
                  clear c507
                  exact absurd (Option.some.inj H) (by rw [HRT.out]; decide)
                ·rw [if_neg c506] at H
                 have c506b0 : (t545 == t549) = false := beq_eq_false_iff_ne.mpr c506
                 have c506b1 : (t545 != t549) = true := bne_iff_ne.mpr c506
                 exact absurd (Option.some.inj H) (by rw [HRT.out]; decide)
               ·rw [if_neg c505] at H
                have c505b0 : (t544 == t548) = false := beq_eq_false_iff_ne.mpr c505
                have c505b1 : (t544 != t548) = true := bne_iff_ne.mpr c505
                exact absurd (Option.some.inj H) (by rw [HRT.out]; decide)
              ·rw [if_neg c504] at H
               have c504b0 : (t543 == t547) = false := beq_eq_false_iff_ne.mpr c504
               have c504b1 : (t543 != t547) = true := bne_iff_ne.mpr c504
               exact absurd (Option.some.inj H) (by rw [HRT.out]; decide)
             ·rw [if_neg c503] at H
              have c503b0 : (t562 == t563) = false := beq_eq_false_iff_ne.mpr c503
              have c503b1 : (t562 != t563) = true := bne_iff_ne.mpr c503
              exact absurd (Option.some.inj H) (by rw [HRT.out]; decide)
            ·rw [if_neg c500] at H
             have c500b0 : (t560 == t561) = false := beq_eq_false_iff_ne.mpr c500
             have c500b1 : (t560 != t561) = true := bne_iff_ne.mpr c500
             exact absurd (Option.some.inj H) (by rw [HRT.out]; decide)
           ·rw [if_neg c497] at H
            have c497b0 : (t558 == t559) = false := beq_eq_false_iff_ne.mpr c497
            have c497b1 : (t558 != t559) = true := bne_iff_ne.mpr c497
            exact absurd (Option.some.inj H) (by rw [HRT.out]; decide)
          ·rw [if_neg c494] at H
           have c494b0 : (t556 == t557) = false := beq_eq_false_iff_ne.mpr c494
           have c494b1 : (t556 != t557) = true := bne_iff_ne.mpr c494
           exact absurd (Option.some.inj H) (by rw [HRT.out]; decide)
def laws_FnSizes.Pure : Prop := ∀ (l0 : List Int), l0.length ≤ maxLen → l0.length * 1 ≤ 140737488351232 → (∀ x ∈ l0, (Lit.int .u8 x).wf = true) → ∃ k, laws_FnSizes.f k l0 = some true
theorem laws_FnSizes.walk (P : laws_FnSizes.Pure) (a0 : Option Addr) (len0 cap0 : Nat) (z0 : List Int) (w : World) (w0 : (a0 = none ∧ len0 = 0 ∧ cap0 = 0 ∧ z0 = []) ∨ ∃ x, a0 = some x ∧ len0 ≤ cap0 ∧ cap0 ≤ maxLen ∧ z0.length = cap0 ∧ (∀ i, i < z0.length → w.cell? (x.add i) = some (.int .u8 (z0.getD i 0))) ∧ ∀ n ∈ z0, (Lit.int .u8 n).wf = true) (y0 : len0 * 1 ≤ 140737488351232) :
  Calls Tryz.prog 3 #[.slice a0 len0 cap0] w fun e w' => e = .returned (.bool true) ∧ Below w.heap.size w w' := by
 obtain ⟨l0, rfl, hr0, hm0, hw0, hc0⟩ := ReadsInt.ofRowC w0
 obtain ⟨k, h⟩ := P l0 hm0 y0 hw0
 refine (laws_FnSizes.calls k _ _ l0 true w (Kd.C_of_reads (d := (0 : Int)) (h1 := fun _ => rfl) hr0) hc0 h rfl).mono ?_
 rintro e w' ⟨rfl, hd⟩
 exact ⟨rfl, hd⟩
end Go.Proofs.YtfoopehlmnejaaaGreatDoor.Print
