/- Several texts of this repo's programs in one: plain lemmas, or functions of the given program as plain Lean functions with proofs that their calls compute them. -/
import Derived.Test.YtodfifkgohjpfaaKAffine2
import Derived.Test.YtodfifkgohjpfaaKAffine11
import Derived.Test.YtodfifkgohjpfaaKAffine18
import Derived.Test.YtodfifkgohjpfaaM29
namespace Go.Proofs.Ytodfifkgohjpfaa.Print
open Go.RowKit Go.Proofs.YtodfifkgohjpfaaW.PrintWords Go.Proofs.YtodfifkgohjpfaaW.PrintLast Go.Proofs.YtodfifkgohjpfaaW.PrintMore
attribute [local go_sem] max2_int min2_int max_two min_two max_three min_three max_four min_four   -- for this text's walks alone
set_option linter.unusedVariables false
set_option linter.unusedSimpArgs false
set_option maxHeartbeats 8000000
set_option maxRecDepth 100000
private theorem sT_ {α : Type _} (l : List α) (i : Nat) (a : α) : l.toArray.setIfInBounds i a = (l.set i a).toArray := List.setIfInBounds_toArray ..
private theorem s0_ {α : Type _} {x y : α} {l : List α} : (x :: l).set 0 y = y :: l := rfl
private theorem s1_ {α : Type _} {x y : α} {l : List α} {n : Nat} : (x :: l).set (n + 1) y = x :: l.set n y := rfl
def impl_peak.l0 : Nat → Int → List Int → Int → Int → Option (Int)
 | 0, _, _, _, _ => none
 | k + 1, x3, x6, x7, x8 => if x8 < x7 then (if 0 ≤ x8 then (if x8 < (x6.length : Int) then ((impl_size1.f (rd x6 x8)).bind fun t293 => (impl_peak.l0 k (mx x3 t293) x6 x7 (wrap64 (x8 + 1)))) else (none)) else (none)) else (some x3)
def impl_peak.f (k : Nat) (l0 : List Int) : Option (Int) := impl_peak.l0 k 0 l0 (l0.length : Int) 0
theorem impl_peak.calls (k : Nat) (A0 : Option Addr) (c0 : Nat) (l0 : List Int) (r : Int) (w : World) (hr0 : Kd.C (Kd.int .i64) w A0 l0.length l0) (hc0 : l0.length ≤ c0) (h : impl_peak.f k l0 = some r) :
  Calls Try.prog 56 #[.slice A0 l0.length c0] w fun e w' => e = .returned (.int .i64 r) ∧ Below w.heap.size w w' := by
 have HR0 := M.A_ hr0; have HC0 := M.A_ hc0; clear hr0 hc0
 have HB := M.A_ (Below.refl w.heap.size w)
 have H : (impl_peak.l0 k 0 l0 (l0.length : Int) 0) = some r := h
 clear h
 have H' := M.A_ H
 clear H
 go_enter Try.func56, Try.ntmps56
 go_wp2
 go_loopg [3, 8] k (fun kq v3 v8 w' => ∃ (x3_1 : Int) (x8_1 : Int), v3 = .int .i64 x3_1 ∧ v8 = .int .i64 x8_1 ∧ Aside0 (impl_peak.l0 kq x3_1 l0 (l0.length : Int) x8_1 = some r) ∧ Aside0 (kq ≤ k) ∧ Aside0 (Below w.heap.size w w'))
 case atStart => exact ⟨(0), (0), (by first | rfl | (simp; done) | (simp [*]; done)), (by first | rfl | (simp; done) | (simp [*]; done)), H', ⟨Nat.le_refl _⟩, ⟨M.Lw HB⟩⟩
 case round =>
  clear H'; obtain ⟨x3_1, x8_1, rfl, rfl, HA, HK1, HB⟩ := hrel
  cases gk with
  | zero => exact absurd HA.out (by simp [impl_peak.l0])
  | succ k1 =>
   have H := HA.out
   clear HA
   simp only [impl_peak.l0] at H
   by_cases c2 : x8_1 < (l0.length : Int)
   ·rw [if_pos c2] at H
    have c2b0 : decide (x8_1 < (l0.length : Int)) = true := decide_eq_true c2
    clear c2
    by_cases c3 : 0 ≤ x8_1
    ·rw [if_pos c3] at H
     have c3b0 : decide (0 ≤ x8_1) = true := decide_eq_true c3
     clear c3
     by_cases c4 : x8_1 < (l0.length : Int)
     ·rw [if_pos c4] at H
      have c4b0 : decide (x8_1 < (l0.length : Int)) = true := decide_eq_true c4
      clear c4; replace H := Option.bind_eq_some_iff.mp H; obtain ⟨t293, A50, H⟩ := H
      replace H : (impl_peak.l0 k1 (mx x3_1 t293) l0 (l0.length : Int) (wrap64 (x8_1 + 1))) = some r := H
      have A5 := M.A_ A50; clear A50
      obtain ⟨ji6, hji6⟩ : ∃ j_ : Int, (mx x3_1 t293) = j_ := ⟨_, rfl⟩
      replace H : (impl_peak.l0 k1 ji6 l0 (l0.length : Int) (wrap64 (x8_1 + 1))) = some r := by first | (rw [hji6] at H; exact H) | (simp only [hji6] at H ⊢; exact H)
      (try rw [hji6] at A5)
      have hji6_ : (if x3_1 < t293 then t293 else x3_1) = ji6 := hji6
      have H' := M.A_ H
      clear H
      have p292 : 0 ≤ (x8_1 : Int) := of_decide_eq_true (by first | (with_reducible assumption) | assumption)
      have q292 : x8_1 < (l0.length : Int) := of_decide_eq_true (by first | (with_reducible assumption) | assumption)
      obtain ⟨ad292, e292, hx292_0⟩ := Kd.at_int HR0.out x8_1 p292 q292
      cases e292
      replace hx292_0 := (HB.out.cell (World.block_lt_of_cell? w _ hx292_0)).trans hx292_0
      replace p292 := eq_true p292
      replace q292 := eq_true q292
      go_wp2_with (first | ((with_reducible refine gate_callee (f := 53) rfl ?_); refine goesL_ (some 14) rfl rfl Try.func53 (by kernel_rfl) rfl #[.int .i64 (rd l0 x8_1)] rfl (by first | rfl | (simp only [M.mt, M.mc, M.mn, M.ld, M.lt]; rfl)) ?_; (with_reducible refine (impl_size1.calls (rd l0 x8_1) t293 _ A5.out).mono ?_); rintro e w7 ⟨rfl, hb⟩; refine ⟨_, rfl, ?_⟩; have n0_ := M.A_ (below_step (M.Lw HB) hb); clear HB; have HB := n0_; clear n0_; (try clear hb); (try clear hb2); (try clear hk); (try clear hi)))
      go_roundg k1
      case measure => have := HK1.out; omega
      case rel => exact ⟨(ji6), (wrap64 (x8_1 + 1)), (by first | rfl | (simp; done) | (simp only [← hji6] <;> (first | rfl | simp)) | (simp [*]; done)), (by first | rfl | (simp; done) | (simp [*]; done)), H', ⟨by have := HK1.out; omega⟩, ⟨M.Lw HB⟩⟩
     ·rw [if_neg c4] at H
      exact absurd H (by simp)
    ·rw [if_neg c3] at H
     exact absurd H (by simp)
   ·rw [if_neg c2] at H
    have c2b0 : decide (x8_1 < (l0.length : Int)) = false := decide_eq_false c2
    clear c2
    obtain rfl := Option.some.inj H
    go_wp2
    go_ret
    exact ⟨by first | rfl | (simp [*, errW_none, errW_some] <;> rfl), M.Lw HB⟩
def impl_Nonlinearity.f (k : Nat) (a0_0 : Int) (a0_1 : Int) : Option (Int) := (impl_IsTable.f a0_0 a0_1).bind fun t295 => (if t295 = true then ((impl_Table_size.f a0_0 a0_1).bind fun t296 => ((impl_Table_spectrum.f k a0_0 a0_1).bind fun t297 => ((impl_peak.f k t297).bind fun t300 => (some (wrap64 (Int.tdiv (wrap64 (t296 - t300)) 2)))))) else (some (-1)))
def impl_Nonlinearity.T3 : Bool × List (List Nat × List Nat) := (true, [([], []), ([0], [0]), ([], []), ([2, 1], [2]), ([3, 3], [3]), ([1, 4], [1, 4]), ([5], [5]), ([6, 4, 0, 1, 2, 3, 4, 5, 6], [6])])
def impl_Nonlinearity.B3 : List Nat := [0, 1, 0, 7, 15, 31, 63, 127]
theorem impl_Nonlinearity.tab3 : rtab .any (opsOf Try.f14 3) = impl_Nonlinearity.T3 := by kernel_rfl
theorem impl_Nonlinearity.bits3 : waitsOk impl_Nonlinearity.T3.2 impl_Nonlinearity.B3 = true := by kernel_rfl
theorem impl_Nonlinearity.calls (k : Nat) (a0_0 : Int) (a0_1 : Int) (r : Int) (w : World) (h : impl_Nonlinearity.f k a0_0 a0_1 = some r) :
  Calls Try.prog 14 #[.agg #[.int .i64 a0_0, .int .i64 a0_1]] w fun e w' => e = .returned (.int .i64 r) ∧ Below w.heap.size w w' := by
 have hu25 := Try.underlying25
 have HB := M.A_ (Below.refl w.heap.size w)
 unfold impl_Nonlinearity.f at h; have H := h
 clear h; obtain ⟨t295, A2, H⟩ := M.ob_ H; (try dsimp only at H)
 by_cases c3 : t295 = true
 ·subst c3
  rw [if_pos rfl] at H; (try dsimp only at H); obtain ⟨t296, A4, H⟩ := M.ob_ H; (try dsimp only at H); replace H := Option.bind_eq_some_iff.mp H; obtain ⟨t297, A50, H⟩ := H
  replace H : ((impl_peak.f k t297).bind fun t300 => (some (wrap64 (Int.tdiv (wrap64 (t296 - t300)) 2)))) = some r := H
  have A5 := M.A_ A50; clear A50; replace H := Option.bind_eq_some_iff.mp H; obtain ⟨t300, A60, H⟩ := H
  replace H : (some (wrap64 (Int.tdiv (wrap64 (t296 - t300)) 2))) = some r := H
  have A6 := M.A_ A60; clear A60
  obtain rfl := Option.some.inj H
  go_enter Try.func14, Try.ntmps14
  try go_wp2_with (first | ((with_reducible refine gate_dst (N := 1) rfl ?_); refine box_event ?hg (N := 1) ?hd (cs := #[.int .i64 a0_0, .int .i64 a0_1]) (t := 25) ?hr ?_; (case hd => rfl); (case hg => rfl); (case hr => first | (go_simp; done) | (go_simp; rfl)); intro gb294 hg w7 hbox hb; have n0_ := M.A_ (below_step (M.Lw HB) hb); have n1_ := M.A_ (hbox); have n2_ := M.A_ ((by rw [hg]; exact (below_size (M.Lw HB)) : w.heap.size ≤ gb294)); have n3_ := M.A_ ((by rw [hg]; exact (below_size (M.Lw HB)) : w.heap.size ≤ gb294)); clear HB; have HB := n0_; have BK294 := n1_; have GW294 := n2_; have GE294 := n3_; clear n0_ n1_ n2_ n3_; clear hb hbox hg; have hcz8_0 : w7.cell? ⟨gb294, 0, none⟩ = some (.int .i64 a0_0) := (blk_cell BK294.out 0).trans rfl; have hcz8_1 : w7.cell? ⟨gb294, 1, none⟩ = some (.int .i64 a0_1) := (blk_cell BK294.out 1).trans rfl; have hfz8_0 := blk_frozen BK294.out 0; have hfz8_1 := blk_frozen BK294.out 1) | ((with_reducible refine gate_callee (f := 46) rfl ?_); refine goesL_ (some 4) rfl rfl Try.func46 (by kernel_rfl) rfl #[.agg #[.int .i64 a0_0, .int .i64 a0_1]] rfl (by first | rfl | (simp only [M.mt, M.mc, M.mn, M.ld, M.lt]; rfl)) ?_; (with_reducible refine (impl_IsTable.calls a0_0 a0_1 true _ A2.out).mono ?_); rintro e w9 ⟨rfl, hb⟩; refine ⟨_, rfl, ?_⟩; have n0_ := M.A_ (blk_below (M.Lb BK294) hb); have n1_ := M.A_ (below_step (M.Lw HB) hb); clear BK294; clear HB; have BK294 := n0_; have HB := n1_; clear n0_ n1_; (try clear hb); (try clear hb2); (try clear hk); (try clear hi)))
  have n0_ := M.A_ (blk_drew BK294.out)
  have n1_ := M.A_ (below_drew1 HB.out)
  clear BK294; clear HB; have BK294 := n0_; have HB := n1_; clear n0_ n1_
  refine start_ (n := 8) (S := fun w' => w'.cell? ⟨gb294, 0, none⟩ = some (.int .i64 a0_0) ∧ w'.cell? ⟨gb294, 1, none⟩ = some (.int .i64 a0_1)) (ds := []) #[false, false, false, false, false, false, false, false] (by kernel_rfl) rfl rfl ⟨(blk_cell BK294.out 0).trans rfl, (blk_cell BK294.out 1).trans rfl⟩ (fun hHeld => ?_); refine with_tabW impl_Nonlinearity.tab3 impl_Nonlinearity.bits3 (fun HT_ HW_ => ?_)
  generalize w9.drew = w10 at BK294 HB hHeld ⊢
  refine take_ (i := 0) (N := some 6) (v := ?_) (a' := ?_) #[true, false, false, false, false, false, false, false] rfl rfl (take_ofW HT_.out HW_.out (by kernel_rfl)) (fun _ _ _ h => h) (Or.inl ⟨by rfl, ?_⟩) hHeld ?_ ?_
  rotate_left
  ·rintro w' ⟨s0, s1⟩
   go_simp; with_reducible rfl
  rotate_left
  ·simp only [Act.put, sT_, s0_, s1_, i64_w, i32_w]; rfl
  refine take_ (i := 2) (N := some 8) (v := ?_) (a' := ?_) #[true, false, true, false, false, false, false, false] rfl rfl (take_ofW HT_.out HW_.out (by kernel_rfl)) (fun _ _ _ h => h) (Or.inl ⟨by rfl, ?_⟩) hHeld ?_ ?_
  rotate_left
  ·rintro w' ⟨s0, s1⟩
   go_simp; with_reducible rfl
  rotate_left
  ·simp only [Act.put, sT_, s0_, s1_, i64_w, i32_w]; rfl
  refine one_ (i := 1) (N := some 7) #[true, true, true, false, false, false, false, false] rfl rfl (one_of HT_.out (by kernel_rfl)) (by decide) (fun K hK => ?_)
  refine goes_ Try.func51 (by kernel_rfl) rfl #[.agg #[.int .i64 a0_0, .int .i64 a0_1]] (by rfl) rfl rfl (by first | rfl | (simp only [M.mt, M.mc, M.mn, M.ld, M.lt]; rfl)) ?_
  with_reducible refine (impl_Table_size.calls a0_0 a0_1 t296 _ A4.out).mono ?_
  rintro e w11 ⟨rfl, hb⟩
  refine ⟨_, rfl, ?_⟩
  have n0_ := M.A_ (blk_below (M.Lb BK294) hb)
  have n1_ := M.A_ (below_step (M.Lw HB) hb)
  clear BK294; clear HB; have BK294 := n0_; have HB := n1_; clear n0_ n1_; (try clear hb); (try clear hb2); (try clear hk); (try clear hi)
  refine hK.out _ _ ⟨(blk_cell BK294.out 0).trans rfl, (blk_cell BK294.out 1).trans rfl⟩ (fun hHeld => ?_)
  clear hK K
  refine norm_ (a' := ?_) ?_ ?_
  rotate_left
  ·show Act.put _ (some 7) _ = _
   simp only [Act.put, sT_, s0_, s1_, i64_w, i32_w]; rfl
  refine one_ (i := 3) (N := some 9) #[true, true, true, true, false, false, false, false] rfl rfl (one_of HT_.out (by kernel_rfl)) (by decide) (fun K hK => ?_)
  refine goes_ Try.func52 (by kernel_rfl) rfl #[.agg #[.int .i64 a0_0, .int .i64 a0_1]] (by rfl) rfl rfl (by first | rfl | (simp only [M.mt, M.mc, M.mn, M.ld, M.lt]; rfl)) ?_
  with_reducible refine (impl_Table_spectrum.calls k a0_0 a0_1 t297 _ A5.out).mono ?_
  rintro e w12 ⟨v298, rfl, ho0, hb⟩
  refine ⟨_, rfl, ?_⟩
  have n0_ := M.A_ (Kd.R_lower ho0 (below_size (M.Lw HB)))
  have n1_ := M.A_ (blk_below (M.Lb BK294) hb)
  have n2_ := M.A_ (below_step (M.Lw HB) hb)
  clear BK294; clear HB; have HO299 := n0_; have BK294 := n1_; have HB := n2_; clear n0_ n1_ n2_; (try clear hb); (try clear hb2); (try clear hk); (try clear hi); (try clear ho0)
  obtain ⟨Ao13, co13, eo13⟩ := Kd.R_slice HO299.out
  (first | subst eo13 | (injection eo13 with f1_ f2_ f3_; have f4_ := f1_.symm; have f5_ := f3_.symm; clear f1_ f2_ f3_; subst f4_; subst f5_))
  refine hK.out _ _ ⟨(blk_cell BK294.out 0).trans rfl, (blk_cell BK294.out 1).trans rfl⟩ (fun hHeld => ?_)
  clear hK K
  refine norm_ (a' := ?_) ?_ ?_
  rotate_left
  ·show Act.put _ (some 9) _ = _
   simp only [Act.put, sT_, s0_, s1_, i64_w, i32_w]; rfl
  refine one_ (i := 4) (N := some 10) #[true, true, true, true, true, false, false, false] rfl rfl (one_of HT_.out (by kernel_rfl)) (by decide) (fun K hK => ?_)
  refine goes_ Try.func56 (by kernel_rfl) rfl #[.slice Ao13 t297.length co13] (by rfl) rfl rfl (by first | rfl | (simp only [M.mt, M.mc, M.mn, M.ld, M.lt]; rfl)) ?_
  with_reducible refine (impl_peak.calls k _ _ t297 t300 _ ?side1 ?side2 A6.out).mono ?_
  (case side1 => exact M.Lc (Kd.R_reads' HO299.out).2.2)
  (case side2 => exact (Kd.R_reads' HO299.out).2.1)
  rintro e w14 ⟨rfl, hb⟩
  refine ⟨_, rfl, ?_⟩
  have n0_ := M.A_ (Kd.R_below (M.Lr HO299) hb)
  have n1_ := M.A_ (blk_below (M.Lb BK294) hb)
  have n2_ := M.A_ (below_step (M.Lw HB) hb)
  clear HO299; clear BK294; clear HB; have HO299 := n0_; have BK294 := n1_; have HB := n2_; clear n0_ n1_ n2_; (try clear hb); (try clear hb2); (try clear hk); (try clear hi)
  refine hK.out _ _ ⟨(blk_cell BK294.out 0).trans rfl, (blk_cell BK294.out 1).trans rfl⟩ (fun hHeld => ?_)
  clear hK K
  refine norm_ (a' := ?_) ?_ ?_
  rotate_left
  ·show Act.put _ (some 10) _ = _
   simp only [Act.put, sT_, s0_, s1_, i64_w, i32_w]; rfl
  refine pure_ (i := 5) (N := some 11) (v := ?_) (a' := ?_) #[true, true, true, true, true, true, false, false] rfl rfl (any_of HT_.out (by kernel_rfl)) (fun _ _ _ h => h) (Or.inl ⟨by rfl, ?_⟩) ?_ ?_; rotate_left
  ·intro w'; go_simp; with_reducible rfl
  rotate_left
  ·simp only [Act.put, sT_, s0_, s1_, i64_w, i32_w]; rfl
  refine pure_ (i := 6) (N := some 12) (v := ?_) (a' := ?_) #[true, true, true, true, true, true, true, false] rfl rfl (any_of HT_.out (by kernel_rfl)) (fun _ _ _ h => h) (Or.inl ⟨by rfl, ?_⟩) ?_ ?_; rotate_left
  ·intro w'; go_simp; with_reducible rfl
  rotate_left
  ·simp only [Act.put, sT_, s0_, s1_, i64_w, i32_w]; rfl
  refine pure_ (i := 7) (N := some 2) (v := ?_) (a' := ?_) #[true, true, true, true, true, true, true, true] rfl rfl (any_of HT_.out (by kernel_rfl)) (fun _ _ _ h => h) (Or.inl ⟨by rfl, ?_⟩) ?_ ?_; rotate_left
  ·intro w'; go_simp; with_reducible rfl
  rotate_left
  ·simp only [Act.put, sT_, s0_, s1_, i64_w, i32_w]; rfl
  refine done_ (done_of HT_.out (by kernel_rfl)) ?_
  try go_wp2
  go_ret
  exact ⟨by first | rfl | (simp [*, errW_none, errW_some] <;> rfl), M.Lw HB⟩
 ·replace c3 := Bool.eq_false_iff.mpr c3
  subst c3
  rw [if_neg (show ¬ (false = true) by decide)] at H; (try dsimp only at H)
  obtain rfl := Option.some.inj H
  go_enter Try.func14, Try.ntmps14
  go_wp2_with (first | ((with_reducible refine gate_dst (N := 1) rfl ?_); refine box_event ?hg (N := 1) ?hd (cs := #[.int .i64 a0_0, .int .i64 a0_1]) (t := 25) ?hr ?_; (case hd => rfl); (case hg => rfl); (case hr => first | (go_simp; done) | (go_simp; rfl)); intro gb294 hg w15 hbox hb; have n0_ := M.A_ (below_step (M.Lw HB) hb); have n1_ := M.A_ (hbox); have n2_ := M.A_ ((by rw [hg]; exact (below_size (M.Lw HB)) : w.heap.size ≤ gb294)); have n3_ := M.A_ ((by rw [hg]; exact (below_size (M.Lw HB)) : w.heap.size ≤ gb294)); clear HB; have HB := n0_; have BK294 := n1_; have GW294 := n2_; have GE294 := n3_; clear n0_ n1_ n2_ n3_; clear hb hbox hg; have hcz16_0 : w15.cell? ⟨gb294, 0, none⟩ = some (.int .i64 a0_0) := (blk_cell BK294.out 0).trans rfl; have hcz16_1 : w15.cell? ⟨gb294, 1, none⟩ = some (.int .i64 a0_1) := (blk_cell BK294.out 1).trans rfl; have hfz16_0 := blk_frozen BK294.out 0; have hfz16_1 := blk_frozen BK294.out 1) | ((with_reducible refine gate_callee (f := 46) rfl ?_); refine goesL_ (some 4) rfl rfl Try.func46 (by kernel_rfl) rfl #[.agg #[.int .i64 a0_0, .int .i64 a0_1]] rfl (by first | rfl | (simp only [M.mt, M.mc, M.mn, M.ld, M.lt]; rfl)) ?_; (with_reducible refine (impl_IsTable.calls a0_0 a0_1 false _ A2.out).mono ?_); rintro e w17 ⟨rfl, hb⟩; refine ⟨_, rfl, ?_⟩; have n0_ := M.A_ (blk_below (M.Lb BK294) hb); have n1_ := M.A_ (below_step (M.Lw HB) hb); clear BK294; clear HB; have BK294 := n0_; have HB := n1_; clear n0_ n1_; (try clear hb); (try clear hb2); (try clear hk); (try clear hi)))
  go_ret
  exact ⟨by first | rfl | (simp [*, errW_none, errW_some] <;> rfl), M.Lw HB⟩
mutual
def impl_TestRejects.l0 : Nat → Int → Int → Int → Int → Int → Option (Int)
 | 0, _, _, _, _, _ => none
 | k + 1, x3, x10, x11, x302000, x302001 => if x11 < x10 then ((impl_Table_size.f x302000 x302001).bind fun t304 => (impl_TestRejects.l1 k x3 x11 x10 x11 t304 0 x302000 x302001)) else (some x3)
def impl_TestRejects.l1 : Nat → Int → Int → Int → Int → Int → Int → Int → Int → Option (Int)
 | 0, _, _, _, _, _, _, _, _ => none
 | k + 1, x3, x4, x10, x11, x15, x16, x302000, x302001 => if x16 < x15 then ((impl_Table_at.f x302000 x302001 x4).bind fun t305 => ((impl_Table_at.f x302000 x302001 x16).bind fun t306 => ((impl_Table_at.f x302000 x302001 (Go.bits .xor .i64 x4 x16)).bind fun t307 => (impl_TestRejects.l1 k (wrap64 (x3 + (Go.bits .xor .i64 (Go.bits .xor .i64 t305 t306) t307))) x4 x10 x11 x15 (wrap64 (x16 + 1)) x302000 x302001)))) else (impl_TestRejects.l0 k x3 x10 (wrap64 (x11 + 1)) x302000 x302001)
end
def impl_TestRejects.f (k : Nat) (a0_0 : Int) (a0_1 : Int) : Option (Int) := (impl_IsTable.f a0_0 a0_1).bind fun t302 => (if t302 = true then ((impl_Table_size.f a0_0 a0_1).bind fun t303 => (impl_TestRejects.l0 k 0 t303 0 a0_0 a0_1)) else (some (-1)))
def impl_TestRejects.T10 : Bool × List (List Nat × List Nat) := (true, [([], []), ([], []), ([], []), ([1, 2], [1, 2]), ([], []), ([], []), ([4, 5, 3], [4, 5]), ([3, 6], [3, 6]), ([], []), ([], []), ([], []), ([9, 10], [9, 10]), ([8, 11, 6], [8, 11]), ([7, 12], [7, 12]), ([0, 13], [0, 13]), ([14, 12, 0, 1, 2, 3, 4, 5, 6, 7, 8, 9, 10, 11, 12, 13, 14], [0, 14])])
def impl_TestRejects.B10 : List Nat := [0, 0, 0, 6, 0, 0, 62, 126, 0, 0, 0, 1536, 3966, 8190, 16383, 32767]
theorem impl_TestRejects.tab10 : rtab .any (opsOf Try.f15 10) = impl_TestRejects.T10 := by kernel_rfl
theorem impl_TestRejects.bits10 : waitsOk impl_TestRejects.T10.2 impl_TestRejects.B10 = true := by kernel_rfl
theorem impl_TestRejects.calls (k : Nat) (a0_0 : Int) (a0_1 : Int) (r : Int) (w : World) (h : impl_TestRejects.f k a0_0 a0_1 = some r) :
  Calls Try.prog 15 #[.agg #[.int .i64 a0_0, .int .i64 a0_1]] w fun e w' => e = .returned (.int .i64 r) ∧ Below w.heap.size w w' := by
 have hu25 := Try.underlying25
 have HB := M.A_ (Below.refl w.heap.size w)
 unfold impl_TestRejects.f at h; have H := h
 clear h; obtain ⟨t302, A2, H⟩ := M.ob_ H; (try dsimp only at H)
 by_cases c3 : t302 = true
 ·subst c3
  rw [if_pos rfl] at H; (try dsimp only at H); replace H := Option.bind_eq_some_iff.mp H; obtain ⟨t303, A40, H⟩ := H
  replace H : (impl_TestRejects.l0 k 0 t303 0 a0_0 a0_1) = some r := H
  have A4 := M.A_ A40; clear A40
  have H' := M.A_ H
  clear H
  go_enter Try.func15, Try.ntmps15
  go_wp2_with (first | ((with_reducible refine gate_dst (N := 1) rfl ?_); refine box_event ?hg (N := 1) ?hd (cs := #[.int .i64 a0_0, .int .i64 a0_1]) (t := 25) ?hr ?_; (case hd => rfl); (case hg => rfl); (case hr => first | (go_simp; done) | (go_simp; rfl)); intro gb301 hg w5 hbox hb; have n0_ := M.A_ (below_step (M.Lw HB) hb); have n1_ := M.A_ (hbox); have n2_ := M.A_ ((by rw [hg]; exact (below_size (M.Lw HB)) : w.heap.size ≤ gb301)); have n3_ := M.A_ ((by rw [hg]; exact (below_size (M.Lw HB)) : w.heap.size ≤ gb301)); clear HB; have HB := n0_; have BK301 := n1_; have GW301 := n2_; have GE301 := n3_; clear n0_ n1_ n2_ n3_; clear hb hbox hg; have hcz6_0 : w5.cell? ⟨gb301, 0, none⟩ = some (.int .i64 a0_0) := (blk_cell BK301.out 0).trans rfl; have hcz6_1 : w5.cell? ⟨gb301, 1, none⟩ = some (.int .i64 a0_1) := (blk_cell BK301.out 1).trans rfl; have hfz6_0 := blk_frozen BK301.out 0; have hfz6_1 := blk_frozen BK301.out 1) | ((with_reducible refine gate_callee (f := 46) rfl ?_); refine goesL_ (some 7) rfl rfl Try.func46 (by kernel_rfl) rfl #[.agg #[.int .i64 a0_0, .int .i64 a0_1]] rfl (by first | rfl | (simp only [M.mt, M.mc, M.mn, M.ld, M.lt]; rfl)) ?_; (with_reducible refine (impl_IsTable.calls a0_0 a0_1 true _ A2.out).mono ?_); rintro e w7 ⟨rfl, hb⟩; refine ⟨_, rfl, ?_⟩; have n0_ := M.A_ (blk_below (M.Lb BK301) hb); have n1_ := M.A_ (below_step (M.Lw HB) hb); clear BK301; clear HB; have BK301 := n0_; have HB := n1_; clear n0_ n1_; (try clear hb); (try clear hb2); (try clear hk); (try clear hi); have hcz8_0 : w7.cell? ⟨gb301, 0, none⟩ = some (.int .i64 a0_0) := (blk_cell BK301.out 0).trans rfl; have hcz8_1 : w7.cell? ⟨gb301, 1, none⟩ = some (.int .i64 a0_1) := (blk_cell BK301.out 1).trans rfl; have hfz8_0 := blk_frozen BK301.out 0; have hfz8_1 := blk_frozen BK301.out 1) | ((with_reducible refine gate_callee (f := 51) rfl ?_); refine goesL_ (some 10) rfl rfl Try.func51 (by kernel_rfl) rfl #[.agg #[.int .i64 a0_0, .int .i64 a0_1]] rfl (by first | rfl | (simp only [M.mt, M.mc, M.mn, M.ld, M.lt]; rfl)) ?_; (with_reducible refine (impl_Table_size.calls a0_0 a0_1 t303 _ A4.out).mono ?_); rintro e w9 ⟨rfl, hb⟩; refine ⟨_, rfl, ?_⟩; have n0_ := M.A_ (blk_below (M.Lb BK301) hb); have n1_ := M.A_ (below_step (M.Lw HB) hb); clear BK301; clear HB; have BK301 := n0_; have HB := n1_; clear n0_ n1_; (try clear hb); (try clear hb2); (try clear hk); (try clear hi)))
  go_loopg [3, 11] k (fun kq v3 v11 w' => ∃ (x3_1 : Int) (x11_1 : Int), v3 = .int .i64 x3_1 ∧ v11 = .int .i64 x11_1 ∧ Aside0 (impl_TestRejects.l0 kq x3_1 t303 x11_1 a0_0 a0_1 = some r) ∧ Aside0 (kq ≤ k) ∧ Aside0 (w'.heap[gb301]? = some (.cells #[.int .i64 a0_0, .int .i64 a0_1] 25 (0, 0))) ∧ Aside0 (Below w.heap.size w w'))
  case atStart => exact ⟨(0), (0), (by first | rfl | (simp; done) | (simp [*]; done)), (by first | rfl | (simp; done) | (simp [*]; done)), H', ⟨Nat.le_refl _⟩, ⟨M.Lb BK301⟩, ⟨M.Lw HB⟩⟩
  case round =>
   clear H'; (try clear c1); (try clear p2); (try clear c3); (try clear c4); (try clear c5); (try clear hcz6_0); (try clear hcz6_1); (try clear hcz8_0); (try clear hcz8_1); (try clear hfz6_0); (try clear hfz6_1); (try clear hfz8_0); (try clear hfz8_1); obtain ⟨x3_1, x11_1, rfl, rfl, HA, HK1, BK301, HB⟩ := hrel
   cases gk with
   | zero => exact absurd HA.out (by simp [impl_TestRejects.l0])
   | succ k1 =>
    have H := HA.out
    clear HA
    simp only [impl_TestRejects.l0] at H
    by_cases c10 : x11_1 < t303
    ·rw [if_pos c10] at H
     have c10b0 : decide (x11_1 < t303) = true := decide_eq_true c10
     clear c10; replace H := Option.bind_eq_some_iff.mp H; obtain ⟨t304, A110, H⟩ := H
     replace H : (impl_TestRejects.l1 k1 x3_1 x11_1 t303 x11_1 t304 0 a0_0 a0_1) = some r := H
     have A11 := M.A_ A110; clear A110
     have H' := M.A_ H
     clear H
     have hcz12_0 : wr.cell? ⟨gb301, 0, none⟩ = some (.int .i64 a0_0) := (blk_cell BK301.out 0).trans rfl
     have hcz12_1 : wr.cell? ⟨gb301, 1, none⟩ = some (.int .i64 a0_1) := (blk_cell BK301.out 1).trans rfl
     have hfz12_0 := blk_frozen BK301.out 0
     have hfz12_1 := blk_frozen BK301.out 1
     go_wp2_with (first | ((with_reducible refine gate_callee (f := 51) rfl ?_); refine goesL_ (some 15) rfl rfl Try.func51 (by kernel_rfl) rfl #[.agg #[.int .i64 a0_0, .int .i64 a0_1]] rfl (by first | rfl | (simp only [M.mt, M.mc, M.mn, M.ld, M.lt]; rfl)) ?_; (with_reducible refine (impl_Table_size.calls a0_0 a0_1 t304 _ A11.out).mono ?_); rintro e w13 ⟨rfl, hb⟩; refine ⟨_, rfl, ?_⟩; have n0_ := M.A_ (blk_below (M.Lb BK301) hb); have n1_ := M.A_ (below_step (M.Lw HB) hb); clear BK301; clear HB; have BK301 := n0_; have HB := n1_; clear n0_ n1_; (try clear hb); (try clear hb2); (try clear hk); (try clear hi)))
     go_loopg [3, 16] k1 (fun kq v3 v16 w' => ∃ (x3_2 : Int) (x16_2 : Int), v3 = .int .i64 x3_2 ∧ v16 = .int .i64 x16_2 ∧ Aside0 (impl_TestRejects.l1 kq x3_2 x11_1 t303 x11_1 t304 x16_2 a0_0 a0_1 = some r) ∧ Aside0 (kq ≤ k1) ∧ Aside0 (w'.heap[gb301]? = some (.cells #[.int .i64 a0_0, .int .i64 a0_1] 25 (0, 0))) ∧ Aside0 (Below w.heap.size w w'))
     case atStart => exact ⟨(x3_1), (0), (by first | rfl | (simp; done) | (simp [*]; done)), (by first | rfl | (simp; done) | (simp [*]; done)), H', ⟨Nat.le_refl _⟩, ⟨M.Lb BK301⟩, ⟨M.Lw HB⟩⟩
     case round =>
      clear H'; (try clear c1); (try clear p2); (try clear c3); (try clear c4); (try clear c5); (try clear c10); (try clear c10b0); (try clear hcz12_0); (try clear hcz12_1); (try clear hcz6_0); (try clear hcz6_1); (try clear hcz8_0); (try clear hcz8_1); (try clear hfz12_0); (try clear hfz12_1); (try clear hfz6_0); (try clear hfz6_1); (try clear hfz8_0); (try clear hfz8_1); (try clear p2); obtain ⟨x3_2, x16_2, rfl, rfl, HA, HK2, BK301, HB⟩ := hrel
      cases gk with
      | zero => exact absurd HA.out (by simp [impl_TestRejects.l1])
      | succ k2 =>
       have H := HA.out
       clear HA
       simp only [impl_TestRejects.l1] at H
       by_cases c14 : x16_2 < t304
       ·rw [if_pos c14] at H
        have c14b0 : decide (x16_2 < t304) = true := decide_eq_true c14
        clear c14; obtain ⟨t305, A15, H⟩ := M.ob_ H; (try dsimp only at H); obtain ⟨t306, A16, H⟩ := M.ob_ H; (try dsimp only at H); obtain ⟨t307, A17, H⟩ := M.ob_ H; (try dsimp only at H)
        have H' := M.A_ H
        clear H
        try go_wp2
        have n0_ := M.A_ (blk_drew BK301.out)
        have n1_ := M.A_ (below_drew1 HB.out)
        clear BK301; clear HB; have BK301 := n0_; have HB := n1_; clear n0_ n1_
        refine start_ (n := 16) (S := fun w' => w'.cell? ⟨gb301, 0, none⟩ = some (.int .i64 a0_0) ∧ w'.cell? ⟨gb301, 1, none⟩ = some (.int .i64 a0_1)) (ds := []) #[false, false, false, false, false, false, false, false, false, false, false, false, false, false, false, false] (by kernel_rfl) rfl rfl ⟨(blk_cell BK301.out 0).trans rfl, (blk_cell BK301.out 1).trans rfl⟩ (fun hHeld => ?_); refine with_tabW impl_TestRejects.tab10 impl_TestRejects.bits10 (fun HT_ HW_ => ?_)
        generalize wr.drew = w18 at BK301 HB hHeld ⊢
        refine pure_ (i := 0) (N := some 19) (v := ?_) (a' := ?_) #[true, false, false, false, false, false, false, false, false, false, false, false, false, false, false, false] rfl rfl (any_of HT_.out (by kernel_rfl)) (fun _ _ _ h => h) (Or.inl ⟨by rfl, ?_⟩) ?_ ?_; rotate_left
        ·intro w'; go_simp; with_reducible rfl
        rotate_left
        ·simp only [Act.put, sT_, s0_, s1_, i64_w, i32_w]; rfl
        refine pure_ (i := 2) (N := some 21) (v := ?_) (a' := ?_) #[true, false, true, false, false, false, false, false, false, false, false, false, false, false, false, false] rfl rfl (any_of HT_.out (by kernel_rfl)) (fun _ _ _ h => h) (Or.inl ⟨by rfl, ?_⟩) ?_ ?_; rotate_left
        ·intro w'; go_simp; with_reducible rfl
        rotate_left
        ·simp only [Act.put, sT_, s0_, s1_, i64_w, i32_w]; rfl
        refine pure_ (i := 5) (N := some 24) (v := ?_) (a' := ?_) #[true, false, true, false, false, true, false, false, false, false, false, false, false, false, false, false] rfl rfl (any_of HT_.out (by kernel_rfl)) (fun _ _ _ h => h) (Or.inl ⟨by rfl, ?_⟩) ?_ ?_; rotate_left
        ·intro w'; go_simp; with_reducible rfl
        rotate_left
        ·simp only [Act.put, sT_, s0_, s1_, i64_w, i32_w]; rfl
        refine pure_ (i := 9) (N := some 28) (v := ?_) (a' := ?_) #[true, false, true, false, false, true, false, false, false, true, false, false, false, false, false, false] rfl rfl (any_of HT_.out (by kernel_rfl)) (fun _ _ _ h => h) (Or.inl ⟨by rfl, ?_⟩) ?_ ?_; rotate_left
        ·intro w'; go_simp; with_reducible rfl
        rotate_left
        ·simp only [Act.put, sT_, s0_, s1_, i64_w, i32_w]; rfl
        refine pure_ (i := 10) (N := some 29) (v := ?_) (a' := ?_) #[true, false, true, false, false, true, false, false, false, true, true, false, false, false, false, false] rfl rfl (any_of HT_.out (by kernel_rfl)) (fun _ _ _ h => h) (Or.inl ⟨by rfl, ?_⟩) ?_ ?_; rotate_left
        ·intro w'; go_simp; with_reducible rfl
        rotate_left
        ·simp only [Act.put, sT_, s0_, s1_, i64_w, i32_w]; rfl
        refine pure_ (i := 11) (N := some 30) (v := ?_) (a' := ?_) #[true, false, true, false, false, true, false, false, false, true, true, true, false, false, false, false] rfl rfl (any_of HT_.out (by kernel_rfl)) (fun _ _ _ h => h) (Or.inl ⟨by rfl, ?_⟩) ?_ ?_; rotate_left
        ·intro w'; go_simp; with_reducible rfl
        rotate_left
        ·simp only [Act.put, sT_, s0_, s1_, i64_w, i32_w]; rfl
        refine take_ (i := 1) (N := some 20) (v := ?_) (a' := ?_) #[true, true, true, false, false, true, false, false, false, true, true, true, false, false, false, false] rfl rfl (take_ofW HT_.out HW_.out (by kernel_rfl)) (fun _ _ _ h => h) (Or.inl ⟨by rfl, ?_⟩) hHeld ?_ ?_
        rotate_left
        ·rintro w' ⟨s0, s1⟩
         go_simp; with_reducible rfl
        rotate_left
        ·simp only [Act.put, sT_, s0_, s1_, i64_w, i32_w]; rfl
        refine take_ (i := 4) (N := some 23) (v := ?_) (a' := ?_) #[true, true, true, false, true, true, false, false, false, true, true, true, false, false, false, false] rfl rfl (take_ofW HT_.out HW_.out (by kernel_rfl)) (fun _ _ _ h => h) (Or.inl ⟨by rfl, ?_⟩) hHeld ?_ ?_
        rotate_left
        ·rintro w' ⟨s0, s1⟩
         go_simp; with_reducible rfl
        rotate_left
        ·simp only [Act.put, sT_, s0_, s1_, i64_w, i32_w]; rfl
        refine take_ (i := 8) (N := some 27) (v := ?_) (a' := ?_) #[true, true, true, false, true, true, false, false, true, true, true, true, false, false, false, false] rfl rfl (take_ofW HT_.out HW_.out (by kernel_rfl)) (fun _ _ _ h => h) (Or.inl ⟨by rfl, ?_⟩) hHeld ?_ ?_
        rotate_left
        ·rintro w' ⟨s0, s1⟩
         go_simp; with_reducible rfl
        rotate_left
        ·simp only [Act.put, sT_, s0_, s1_, i64_w, i32_w]; rfl
        refine one_ (i := 3) (N := some 22) #[true, true, true, true, true, true, false, false, true, true, true, true, false, false, false, false] rfl rfl (one_of HT_.out (by kernel_rfl)) (by decide) (fun K hK => ?_)
        refine goes_ Try.func41 (by kernel_rfl) rfl #[.agg #[.int .i64 a0_0, .int .i64 a0_1], .int .i64 x11_1] (by rfl) rfl rfl (by first | rfl | (simp only [M.mt, M.mc, M.mn, M.ld, M.lt]; rfl)) ?_
        with_reducible refine (impl_Table_at.calls a0_0 a0_1 x11_1 t305 _ A15.out).mono ?_
        rintro e w19 ⟨rfl, hb⟩
        refine ⟨_, rfl, ?_⟩
        have n0_ := M.A_ (blk_below (M.Lb BK301) hb)
        have n1_ := M.A_ (below_step (M.Lw HB) hb)
        clear BK301; clear HB; have BK301 := n0_; have HB := n1_; clear n0_ n1_; (try clear hb); (try clear hb2); (try clear hk); (try clear hi)
        refine hK.out _ _ ⟨(blk_cell BK301.out 0).trans rfl, (blk_cell BK301.out 1).trans rfl⟩ (fun hHeld => ?_)
        clear hK K
        refine norm_ (a' := ?_) ?_ ?_
        rotate_left
        ·show Act.put _ (some 22) _ = _
         simp only [Act.put, sT_, s0_, s1_, i64_w, i32_w]; rfl
        refine one_ (i := 6) (N := some 25) #[true, true, true, true, true, true, true, false, true, true, true, true, false, false, false, false] rfl rfl (one_of HT_.out (by kernel_rfl)) (by decide) (fun K hK => ?_)
        refine goes_ Try.func41 (by kernel_rfl) rfl #[.agg #[.int .i64 a0_0, .int .i64 a0_1], .int .i64 x16_2] (by rfl) rfl rfl (by first | rfl | (simp only [M.mt, M.mc, M.mn, M.ld, M.lt]; rfl)) ?_
        with_reducible refine (impl_Table_at.calls a0_0 a0_1 x16_2 t306 _ A16.out).mono ?_
        rintro e w20 ⟨rfl, hb⟩
        refine ⟨_, rfl, ?_⟩
        have n0_ := M.A_ (blk_below (M.Lb BK301) hb)
        have n1_ := M.A_ (below_step (M.Lw HB) hb)
        clear BK301; clear HB; have BK301 := n0_; have HB := n1_; clear n0_ n1_; (try clear hb); (try clear hb2); (try clear hk); (try clear hi)
        refine hK.out _ _ ⟨(blk_cell BK301.out 0).trans rfl, (blk_cell BK301.out 1).trans rfl⟩ (fun hHeld => ?_)
        clear hK K
        refine norm_ (a' := ?_) ?_ ?_
        rotate_left
        ·show Act.put _ (some 25) _ = _
         simp only [Act.put, sT_, s0_, s1_, i64_w, i32_w]; rfl
        refine pure_ (i := 7) (N := some 26) (v := ?_) (a' := ?_) #[true, true, true, true, true, true, true, true, true, true, true, true, false, false, false, false] rfl rfl (any_of HT_.out (by kernel_rfl)) (fun _ _ _ h => h) (Or.inl ⟨by rfl, ?_⟩) ?_ ?_; rotate_left
        ·intro w'; go_simp; with_reducible rfl
        rotate_left
        ·simp only [Act.put, sT_, s0_, s1_, i64_w, i32_w]; rfl
        refine one_ (i := 12) (N := some 31) #[true, true, true, true, true, true, true, true, true, true, true, true, true, false, false, false] rfl rfl (one_of HT_.out (by kernel_rfl)) (by decide) (fun K hK => ?_)
        refine goes_ Try.func41 (by kernel_rfl) rfl #[.agg #[.int .i64 a0_0, .int .i64 a0_1], .int .i64 (Go.bits .xor .i64 x11_1 x16_2)] (by rfl) rfl rfl (by first | rfl | (simp only [M.mt, M.mc, M.mn, M.ld, M.lt]; rfl)) ?_
        with_reducible refine (impl_Table_at.calls a0_0 a0_1 (Go.bits .xor .i64 x11_1 x16_2) t307 _ A17.out).mono ?_
        rintro e w21 ⟨rfl, hb⟩
        refine ⟨_, rfl, ?_⟩
        have n0_ := M.A_ (blk_below (M.Lb BK301) hb)
        have n1_ := M.A_ (below_step (M.Lw HB) hb)
        clear BK301; clear HB; have BK301 := n0_; have HB := n1_; clear n0_ n1_; (try clear hb); (try clear hb2); (try clear hk); (try clear hi)
        refine hK.out _ _ ⟨(blk_cell BK301.out 0).trans rfl, (blk_cell BK301.out 1).trans rfl⟩ (fun hHeld => ?_)
        clear hK K
        refine norm_ (a' := ?_) ?_ ?_
        rotate_left
        ·show Act.put _ (some 31) _ = _
         simp only [Act.put, sT_, s0_, s1_, i64_w, i32_w]; rfl
        refine pure_ (i := 13) (N := some 32) (v := ?_) (a' := ?_) #[true, true, true, true, true, true, true, true, true, true, true, true, true, true, false, false] rfl rfl (any_of HT_.out (by kernel_rfl)) (fun _ _ _ h => h) (Or.inl ⟨by rfl, ?_⟩) ?_ ?_; rotate_left
        ·intro w'; go_simp; with_reducible rfl
        rotate_left
        ·simp only [Act.put, sT_, s0_, s1_, i64_w, i32_w]; rfl
        refine pure_ (i := 14) (N := some 33) (v := ?_) (a' := ?_) #[true, true, true, true, true, true, true, true, true, true, true, true, true, true, true, false] rfl rfl (any_of HT_.out (by kernel_rfl)) (fun _ _ _ h => h) (Or.inl ⟨by rfl, ?_⟩) ?_ ?_; rotate_left
        ·intro w'; go_simp; with_reducible rfl
        rotate_left
        ·simp only [Act.put, sT_, s0_, s1_, i64_w, i32_w]; rfl
        refine pure_ (i := 15) (N := some 3) (v := ?_) (a' := ?_) #[true, true, true, true, true, true, true, true, true, true, true, true, true, true, true, true] rfl rfl (any_of HT_.out (by kernel_rfl)) (fun _ _ _ h => h) (Or.inl ⟨by rfl, ?_⟩) ?_ ?_; rotate_left
        ·intro w'; go_simp; with_reducible rfl
        rotate_left
        ·simp only [Act.put, sT_, s0_, s1_, i64_w, i32_w]; rfl
        refine done_ (done_of HT_.out (by kernel_rfl)) ?_
        try go_wp2
        go_roundg k2
        case measure => have := HK1.out; have := HK2.out; omega
        case rel => exact ⟨(wrap64 (x3_2 + (Go.bits .xor .i64 (Go.bits .xor .i64 t305 t306) t307))), (wrap64 (x16_2 + 1)), (by first | rfl | (simp; done) | (simp [*]; done)), (by first | rfl | (simp; done) | (simp [*]; done)), H', ⟨by have := HK1.out; have := HK2.out; omega⟩, ⟨M.Lb BK301⟩, ⟨M.Lw HB⟩⟩
       ·rw [if_neg c14] at H
        have c14b0 : decide (x16_2 < t304) = false := decide_eq_false c14
        clear c14
        have H' := M.A_ H
        clear H
        go_wp2
        go_roundg k2
        case measure => have := HK1.out; have := HK2.out; omega
        case rel => exact ⟨(x3_2), (wrap64 (x11_1 + 1)), (by first | rfl | (simp; done) | (simp [*]; done)), (by first | rfl | (simp; done) | (simp [*]; done)), H', ⟨by have := HK1.out; have := HK2.out; omega⟩, ⟨M.Lb BK301⟩, ⟨M.Lw HB⟩⟩
    ·rw [if_neg c10] at H
     have c10b0 : decide (x11_1 < t303) = false := decide_eq_false c10
     clear c10
     obtain rfl := Option.some.inj H
     go_wp2
     go_ret
     exact ⟨by first | rfl | (simp [*, errW_none, errW_some] <;> rfl), M.Lw HB⟩
 ·replace c3 := Bool.eq_false_iff.mpr c3
  subst c3
  rw [if_neg (show ¬ (false = true) by decide)] at H; (try dsimp only at H)
  obtain rfl := Option.some.inj H
  go_enter Try.func15, Try.ntmps15
  go_wp2_with (first | ((with_reducible refine gate_dst (N := 1) rfl ?_); refine box_event ?hg (N := 1) ?hd (cs := #[.int .i64 a0_0, .int .i64 a0_1]) (t := 25) ?hr ?_; (case hd => rfl); (case hg => rfl); (case hr => first | (go_simp; done) | (go_simp; rfl)); intro gb301 hg w22 hbox hb; have n0_ := M.A_ (below_step (M.Lw HB) hb); have n1_ := M.A_ (hbox); have n2_ := M.A_ ((by rw [hg]; exact (below_size (M.Lw HB)) : w.heap.size ≤ gb301)); have n3_ := M.A_ ((by rw [hg]; exact (below_size (M.Lw HB)) : w.heap.size ≤ gb301)); clear HB; have HB := n0_; have BK301 := n1_; have GW301 := n2_; have GE301 := n3_; clear n0_ n1_ n2_ n3_; clear hb hbox hg; have hcz23_0 : w22.cell? ⟨gb301, 0, none⟩ = some (.int .i64 a0_0) := (blk_cell BK301.out 0).trans rfl; have hcz23_1 : w22.cell? ⟨gb301, 1, none⟩ = some (.int .i64 a0_1) := (blk_cell BK301.out 1).trans rfl; have hfz23_0 := blk_frozen BK301.out 0; have hfz23_1 := blk_frozen BK301.out 1) | ((with_reducible refine gate_callee (f := 46) rfl ?_); refine goesL_ (some 7) rfl rfl Try.func46 (by kernel_rfl) rfl #[.agg #[.int .i64 a0_0, .int .i64 a0_1]] rfl (by first | rfl | (simp only [M.mt, M.mc, M.mn, M.ld, M.lt]; rfl)) ?_; (with_reducible refine (impl_IsTable.calls a0_0 a0_1 false _ A2.out).mono ?_); rintro e w24 ⟨rfl, hb⟩; refine ⟨_, rfl, ?_⟩; have n0_ := M.A_ (blk_below (M.Lb BK301) hb); have n1_ := M.A_ (below_step (M.Lw HB) hb); clear BK301; clear HB; have BK301 := n0_; have HB := n1_; clear n0_ n1_; (try clear hb); (try clear hb2); (try clear hk); (try clear hi)))
  go_ret
  exact ⟨by first | rfl | (simp [*, errW_none, errW_some] <;> rfl), M.Lw HB⟩
def laws_at.f (l0 : List Int) (a1 : Int) : Option (Int) := if a1 < (l0.length : Int) then (if 0 ≤ a1 then (some (wrap64 (rd l0 a1))) else (none)) else (some (Int.tmod (wrap64 ((wrap64 (a1 * 37)) + (wrap64 ((l0.length : Int) * 11)))) 256))
theorem laws_at.calls (A0 : Option Addr) (c0 : Nat) (l0 : List Int) (a1 : Int) (r : Int) (w : World) (hr0 : Kd.C (Kd.int .u8) w A0 l0.length l0) (hc0 : l0.length ≤ c0) (h : laws_at.f l0 a1 = some r) :
  Calls Try.prog 16 #[.slice A0 l0.length c0, .int .i64 a1] w fun e w' => e = .returned (.int .i64 r) ∧ Drawn0 w w' := by
 have HR0 := M.A_ hr0; have HC0 := M.A_ hc0; clear hr0 hc0
 unfold laws_at.f at h; have H := h
 clear h
 by_cases c3 : a1 < (l0.length : Int)
 ·rw [if_pos c3] at H
  have c3b0 : decide (a1 < (l0.length : Int)) = true := decide_eq_true c3
  clear c3
  by_cases c4 : 0 ≤ a1
  ·rw [if_pos c4] at H
   have c4b0 : decide (0 ≤ a1) = true := decide_eq_true c4
   clear c4
   obtain rfl := Option.some.inj H
   have p308 : 0 ≤ (a1 : Int) := of_decide_eq_true (by first | (with_reducible assumption) | assumption)
   have q308 : a1 < (l0.length : Int) := of_decide_eq_true (by first | (with_reducible assumption) | assumption)
   obtain ⟨ad308, e308, hx308_0⟩ := Kd.at_int HR0.out a1 p308 q308
   cases e308
   replace p308 := eq_true p308
   replace q308 := eq_true q308
   go_enter Try.func16, Try.ntmps16
   go_wp2
   go_ret
   exact ⟨by first | rfl | (simp; done) | (simp [*]; done), by repeat (first | exact Drawn0.refl _ | apply Drawn0.step)⟩
  ·rw [if_neg c4] at H
   exact absurd H (by simp)
 ·rw [if_neg c3] at H
  have c3b0 : decide (a1 < (l0.length : Int)) = false := decide_eq_false c3
  clear c3
  obtain rfl := Option.some.inj H
  go_enter Try.func16, Try.ntmps16
  go_wp2
  go_ret
  exact ⟨by first | rfl | (simp; done) | (simp [*]; done), by repeat (first | exact Drawn0.refl _ | apply Drawn0.step)⟩
def impl_ValueAt.f (a0_0 : Int) (a0_1 : Int) (a1 : Int) : Option (Int) := (impl_hasInput.f a0_0 a0_1 a1).bind fun t310 => (if t310 = true then ((impl_Table_at.f a0_0 a0_1 a1).bind fun t311 => (some t311)) else (some (-1)))
theorem impl_ValueAt.calls (a0_0 : Int) (a0_1 : Int) (a1 : Int) (r : Int) (w : World) (h : impl_ValueAt.f a0_0 a0_1 a1 = some r) :
  Calls Try.prog 17 #[.agg #[.int .i64 a0_0, .int .i64 a0_1], .int .i64 a1] w fun e w' => e = .returned (.int .i64 r) ∧ Below w.heap.size w w' := by
 have hu25 := Try.underlying25
 have HB := M.A_ (Below.refl w.heap.size w)
 unfold impl_ValueAt.f at h; have H := h
 clear h; obtain ⟨t310, A3, H⟩ := M.ob_ H; (try dsimp only at H)
 by_cases c4 : t310 = true
 ·subst c4
  rw [if_pos rfl] at H; (try dsimp only at H); replace H := Option.bind_eq_some_iff.mp H; obtain ⟨t311, A50, H⟩ := H
  replace H : (some t311) = some r := H
  have A5 := M.A_ A50; clear A50
  obtain rfl := Option.some.inj H
  go_enter Try.func17, Try.ntmps17
  go_wp2_with (first | ((with_reducible refine gate_dst (N := 2) rfl ?_); refine box_event ?hg (N := 2) ?hd (cs := #[.int .i64 a0_0, .int .i64 a0_1]) (t := 25) ?hr ?_; (case hd => rfl); (case hg => rfl); (case hr => first | (go_simp; done) | (go_simp; rfl)); intro gb309 hg w6 hbox hb; have n0_ := M.A_ (below_step (M.Lw HB) hb); have n1_ := M.A_ (hbox); have n2_ := M.A_ ((by rw [hg]; exact (below_size (M.Lw HB)) : w.heap.size ≤ gb309)); have n3_ := M.A_ ((by rw [hg]; exact (below_size (M.Lw HB)) : w.heap.size ≤ gb309)); clear HB; have HB := n0_; have BK309 := n1_; have GW309 := n2_; have GE309 := n3_; clear n0_ n1_ n2_ n3_; clear hb hbox hg; have hcz7_0 : w6.cell? ⟨gb309, 0, none⟩ = some (.int .i64 a0_0) := (blk_cell BK309.out 0).trans rfl; have hcz7_1 : w6.cell? ⟨gb309, 1, none⟩ = some (.int .i64 a0_1) := (blk_cell BK309.out 1).trans rfl; have hfz7_0 := blk_frozen BK309.out 0; have hfz7_1 := blk_frozen BK309.out 1) | ((with_reducible refine gate_callee (f := 38) rfl ?_); refine goesL_ (some 7) rfl rfl Try.func38 (by kernel_rfl) rfl #[.agg #[.int .i64 a0_0, .int .i64 a0_1], .int .i64 a1] rfl (by first | rfl | (simp only [M.mt, M.mc, M.mn, M.ld, M.lt]; rfl)) ?_; (with_reducible refine (impl_hasInput.calls a0_0 a0_1 a1 true _ A3.out).mono ?_); rintro e w8 ⟨rfl, hb⟩; refine ⟨_, rfl, ?_⟩; have n0_ := M.A_ (blk_below (M.Lb BK309) hb); have n1_ := M.A_ (below_step (M.Lw HB) hb); clear BK309; clear HB; have BK309 := n0_; have HB := n1_; clear n0_ n1_; (try clear hb); (try clear hb2); (try clear hk); (try clear hi); have hcz9_0 : w8.cell? ⟨gb309, 0, none⟩ = some (.int .i64 a0_0) := (blk_cell BK309.out 0).trans rfl; have hcz9_1 : w8.cell? ⟨gb309, 1, none⟩ = some (.int .i64 a0_1) := (blk_cell BK309.out 1).trans rfl; have hfz9_0 := blk_frozen BK309.out 0; have hfz9_1 := blk_frozen BK309.out 1) | ((with_reducible refine gate_callee (f := 41) rfl ?_); refine goesL_ (some 11) rfl rfl Try.func41 (by kernel_rfl) rfl #[.agg #[.int .i64 a0_0, .int .i64 a0_1], .int .i64 a1] rfl (by first | rfl | (simp only [M.mt, M.mc, M.mn, M.ld, M.lt]; rfl)) ?_; (with_reducible refine (impl_Table_at.calls a0_0 a0_1 a1 t311 _ A5.out).mono ?_); rintro e w10 ⟨rfl, hb⟩; refine ⟨_, rfl, ?_⟩; have n0_ := M.A_ (blk_below (M.Lb BK309) hb); have n1_ := M.A_ (below_step (M.Lw HB) hb); clear BK309; clear HB; have BK309 := n0_; have HB := n1_; clear n0_ n1_; (try clear hb); (try clear hb2); (try clear hk); (try clear hi)))
  go_ret
  exact ⟨by first | rfl | (simp [*, errW_none, errW_some] <;> rfl), M.Lw HB⟩
 ·replace c4 := Bool.eq_false_iff.mpr c4
  subst c4
  rw [if_neg (show ¬ (false = true) by decide)] at H; (try dsimp only at H)
  obtain rfl := Option.some.inj H
  go_enter Try.func17, Try.ntmps17
  go_wp2_with (first | ((with_reducible refine gate_dst (N := 2) rfl ?_); refine box_event ?hg (N := 2) ?hd (cs := #[.int .i64 a0_0, .int .i64 a0_1]) (t := 25) ?hr ?_; (case hd => rfl); (case hg => rfl); (case hr => first | (go_simp; done) | (go_simp; rfl)); intro gb309 hg w11 hbox hb; have n0_ := M.A_ (below_step (M.Lw HB) hb); have n1_ := M.A_ (hbox); have n2_ := M.A_ ((by rw [hg]; exact (below_size (M.Lw HB)) : w.heap.size ≤ gb309)); have n3_ := M.A_ ((by rw [hg]; exact (below_size (M.Lw HB)) : w.heap.size ≤ gb309)); clear HB; have HB := n0_; have BK309 := n1_; have GW309 := n2_; have GE309 := n3_; clear n0_ n1_ n2_ n3_; clear hb hbox hg; have hcz12_0 : w11.cell? ⟨gb309, 0, none⟩ = some (.int .i64 a0_0) := (blk_cell BK309.out 0).trans rfl; have hcz12_1 : w11.cell? ⟨gb309, 1, none⟩ = some (.int .i64 a0_1) := (blk_cell BK309.out 1).trans rfl; have hfz12_0 := blk_frozen BK309.out 0; have hfz12_1 := blk_frozen BK309.out 1) | ((with_reducible refine gate_callee (f := 38) rfl ?_); refine goesL_ (some 7) rfl rfl Try.func38 (by kernel_rfl) rfl #[.agg #[.int .i64 a0_0, .int .i64 a0_1], .int .i64 a1] rfl (by first | rfl | (simp only [M.mt, M.mc, M.mn, M.ld, M.lt]; rfl)) ?_; (with_reducible refine (impl_hasInput.calls a0_0 a0_1 a1 false _ A3.out).mono ?_); rintro e w13 ⟨rfl, hb⟩; refine ⟨_, rfl, ?_⟩; have n0_ := M.A_ (blk_below (M.Lb BK309) hb); have n1_ := M.A_ (below_step (M.Lw HB) hb); clear BK309; clear HB; have BK309 := n0_; have HB := n1_; clear n0_ n1_; (try clear hb); (try clear hb2); (try clear hk); (try clear hi)))
  go_ret
  exact ⟨by first | rfl | (simp [*, errW_none, errW_some] <;> rfl), M.Lw HB⟩
def impl_MapInput.f (k : Nat) (a0 : Int) (l1 : List Int) (a2 : Int) (a3 : Int) : Option (Int) := (impl_IsInvertible.f a0 l1).bind fun t312 => (if t312 = true then ((impl_isInput.f a0 a2).bind fun t313 => (if t313 = true then ((impl_isInput.f a0 a3).bind fun t314 => (if t314 = true then ((impl_image.f k l1 a3).bind fun t315 => (some (Go.bits .xor .i64 t315 a2))) else (some (-1)))) else (some (-1)))) else (some (-1)))
theorem impl_MapInput.calls (k : Nat) (a0 : Int) (A1 : Option Addr) (c1 : Nat) (l1 : List Int) (a2 : Int) (a3 : Int) (r : Int) (w : World) (hr1 : Kd.C (Kd.int .i64) w A1 l1.length l1) (hc1 : l1.length ≤ c1) (h : impl_MapInput.f k a0 l1 a2 a3 = some r) :
  Calls Try.prog 18 #[.int .i64 a0, .slice A1 l1.length c1, .int .i64 a2, .int .i64 a3] w fun e w' => e = .returned (.int .i64 r) ∧ Below w.heap.size w w' := by
 have HR1 := M.A_ hr1; have HC1 := M.A_ hc1; clear hr1 hc1
 have HB := M.A_ (Below.refl w.heap.size w)
 unfold impl_MapInput.f at h; have H := h
 clear h; obtain ⟨t312, A5, H⟩ := M.ob_ H; (try dsimp only at H)
 by_cases c6 : t312 = true
 ·subst c6
  rw [if_pos rfl] at H; (try dsimp only at H); obtain ⟨t313, A7, H⟩ := M.ob_ H; (try dsimp only at H)
  by_cases c8 : t313 = true
  ·subst c8
   rw [if_pos rfl] at H; (try dsimp only at H); obtain ⟨t314, A9, H⟩ := M.ob_ H; (try dsimp only at H)
   by_cases c10 : t314 = true
   ·subst c10
    rw [if_pos rfl] at H; (try dsimp only at H); replace H := Option.bind_eq_some_iff.mp H; obtain ⟨t315, A110, H⟩ := H
    replace H : (some (Go.bits .xor .i64 t315 a2)) = some r := H
    have A11 := M.A_ A110; clear A110
    obtain rfl := Option.some.inj H
    go_enter Try.func18, Try.ntmps18
    go_wp2_with (first | ((with_reducible refine gate_callee (f := 22) rfl ?_); refine goesL_ (some 11) rfl rfl Try.func22 (by kernel_rfl) rfl #[.int .i64 a0, .slice A1 l1.length c1] rfl (by first | rfl | (simp only [M.mt, M.mc, M.mn, M.ld, M.lt]; rfl)) ?_; (with_reducible refine (impl_IsInvertible.calls a0 _ _ l1 true _ ?side1 ?side2 A5.out).mono ?_); (case side1 => exact M.Lc HR1.out); (case side2 => exact HC1.out); rintro e w12 ⟨rfl, hb⟩; refine ⟨_, rfl, ?_⟩; have n0_ := M.A_ (below_step (M.Lw HB) hb); clear HB; have HB := n0_; clear n0_; (try clear hb); (try clear hb2); (try clear hk); (try clear hi)) | (go_at_call 57; (with_reducible refine (impl_isInput.calls a0 a2 true _ A7.out).mono ?_); rintro e w' ⟨rfl, ⟨nd, rfl⟩⟩) | (go_at_call 57; (with_reducible refine (impl_isInput.calls a0 a3 true _ A9.out).mono ?_); rintro e w' ⟨rfl, ⟨nd, rfl⟩⟩) | ((with_reducible refine gate_callee (f := 42) rfl ?_); refine goesL_ (some 27) rfl rfl Try.func42 (by kernel_rfl) rfl #[.slice A1 l1.length c1, .int .i64 a3] rfl (by first | rfl | (simp only [M.mt, M.mc, M.mn, M.ld, M.lt]; rfl)) ?_; (with_reducible refine (impl_image.calls k _ _ l1 a3 t315 _ ?side1 ?side2 A11.out).mono ?_); (case side1 => repeat (first | exact (Kd.C_below HR1.out (M.Lw HB)) | (with_reducible refine Kd.C_alloc ?_ _) | (with_reducible refine Kd.C_drewN ?_ _) | (with_reducible refine Kd.C_drew ?_))); (case side2 => exact HC1.out); rintro e w' ⟨rfl, ⟨nd, rfl⟩⟩; refine ⟨_, rfl, ?_⟩))
    go_ret
    exact ⟨by first | rfl | (simp [*, errW_none, errW_some] <;> rfl), M.Lw HB⟩
   ·replace c10 := Bool.eq_false_iff.mpr c10
    subst c10
    rw [if_neg (show ¬ (false = true) by decide)] at H; (try dsimp only at H)
    obtain rfl := Option.some.inj H
    go_enter Try.func18, Try.ntmps18
    go_wp2_with (first | ((with_reducible refine gate_callee (f := 22) rfl ?_); refine goesL_ (some 11) rfl rfl Try.func22 (by kernel_rfl) rfl #[.int .i64 a0, .slice A1 l1.length c1] rfl (by first | rfl | (simp only [M.mt, M.mc, M.mn, M.ld, M.lt]; rfl)) ?_; (with_reducible refine (impl_IsInvertible.calls a0 _ _ l1 true _ ?side1 ?side2 A5.out).mono ?_); (case side1 => exact M.Lc HR1.out); (case side2 => exact HC1.out); rintro e w13 ⟨rfl, hb⟩; refine ⟨_, rfl, ?_⟩; have n0_ := M.A_ (below_step (M.Lw HB) hb); clear HB; have HB := n0_; clear n0_; (try clear hb); (try clear hb2); (try clear hk); (try clear hi)) | (go_at_call 57; (with_reducible refine (impl_isInput.calls a0 a2 true _ A7.out).mono ?_); rintro e w' ⟨rfl, ⟨nd, rfl⟩⟩) | (go_at_call 57; (with_reducible refine (impl_isInput.calls a0 a3 false _ A9.out).mono ?_); rintro e w' ⟨rfl, ⟨nd, rfl⟩⟩))
    go_ret
    exact ⟨by first | rfl | (simp [*, errW_none, errW_some] <;> rfl), M.Lw HB⟩
  ·replace c8 := Bool.eq_false_iff.mpr c8
   subst c8
   rw [if_neg (show ¬ (false = true) by decide)] at H; (try dsimp only at H)
   obtain rfl := Option.some.inj H
   go_enter Try.func18, Try.ntmps18
   go_wp2_with (first | ((with_reducible refine gate_callee (f := 22) rfl ?_); refine goesL_ (some 11) rfl rfl Try.func22 (by kernel_rfl) rfl #[.int .i64 a0, .slice A1 l1.length c1] rfl (by first | rfl | (simp only [M.mt, M.mc, M.mn, M.ld, M.lt]; rfl)) ?_; (with_reducible refine (impl_IsInvertible.calls a0 _ _ l1 true _ ?side1 ?side2 A5.out).mono ?_); (case side1 => exact M.Lc HR1.out); (case side2 => exact HC1.out); rintro e w14 ⟨rfl, hb⟩; refine ⟨_, rfl, ?_⟩; have n0_ := M.A_ (below_step (M.Lw HB) hb); clear HB; have HB := n0_; clear n0_; (try clear hb); (try clear hb2); (try clear hk); (try clear hi)) | (go_at_call 57; (with_reducible refine (impl_isInput.calls a0 a2 false _ A7.out).mono ?_); rintro e w' ⟨rfl, ⟨nd, rfl⟩⟩))
   go_ret
   exact ⟨by first | rfl | (simp [*, errW_none, errW_some] <;> rfl), M.Lw HB⟩
 ·replace c6 := Bool.eq_false_iff.mpr c6
  subst c6
  rw [if_neg (show ¬ (false = true) by decide)] at H; (try dsimp only at H)
  obtain rfl := Option.some.inj H
  go_enter Try.func18, Try.ntmps18
  go_wp2_with (first | ((with_reducible refine gate_callee (f := 22) rfl ?_); refine goesL_ (some 11) rfl rfl Try.func22 (by kernel_rfl) rfl #[.int .i64 a0, .slice A1 l1.length c1] rfl (by first | rfl | (simp only [M.mt, M.mc, M.mn, M.ld, M.lt]; rfl)) ?_; (with_reducible refine (impl_IsInvertible.calls a0 _ _ l1 false _ ?side1 ?side2 A5.out).mono ?_); (case side1 => exact M.Lc HR1.out); (case side2 => exact HC1.out); rintro e w15 ⟨rfl, hb⟩; refine ⟨_, rfl, ?_⟩; have n0_ := M.A_ (below_step (M.Lw HB) hb); clear HB; have HB := n0_; clear n0_; (try clear hb); (try clear hb2); (try clear hk); (try clear hi)))
  go_ret
  exact ⟨by first | rfl | (simp [*, errW_none, errW_some] <;> rfl), M.Lw HB⟩
def spec_DrawComposeMaps.f (k : Nat) (l0 : List Int) : Option (Int × List Int × List Int) := (spec_l1New.f k l0).bind fun bt316 => ((spec_l1Below.f bt316.1 bt316.2.1 bt316.2.2 6).bind fun bt320 => ((spec_l27Draw.f k bt316.1 bt320.2.1 bt320.2.2 bt320.1).bind fun bt323 => ((spec_l27Draw.f k bt316.1 bt323.2.1 bt323.2.2 bt320.1).bind fun bt328 => (some (bt320.1, bt323.1, bt328.1)))))
theorem spec_DrawComposeMaps.calls (k : Nat) (A0 : Option Addr) (c0 : Nat) (l0 : List Int) (r1 : Int) (r2 : List Int) (r3 : List Int) (w : World) (hr0 : Kd.C (Kd.int .u8) w A0 l0.length l0) (hc0 : l0.length ≤ c0) (h : spec_DrawComposeMaps.f k l0 = some (r1, r2, r3)) :
  Calls Try.prog 19 #[.slice A0 l0.length c0] w fun e w' => ∃ v1_ v2_ : Value, e = .returned (.tuple #[.int .i64 r1, v1_, v2_]) ∧ Kd.R (Kd.int .i64) 3 w' w.heap.size (fun k_ => some k_ ≠ (v2_ : Value).ownBlock) v1_ r2 ∧ Kd.R (Kd.int .i64) 3 w' w.heap.size (fun k_ => some k_ ≠ (v1_ : Value).ownBlock) v2_ r3 ∧ Below w.heap.size w w' := by
 have HR0 := M.A_ hr0; have HC0 := M.A_ hc0; clear hr0 hc0
 have HB := M.A_ (Below.refl w.heap.size w)
 unfold spec_DrawComposeMaps.f at h; have H := h
 clear h; obtain ⟨⟨t316, t317, t318⟩, A2, H⟩ := M.ob_ H; (try dsimp only at H); obtain ⟨⟨t320, t321, t322⟩, A3, H⟩ := M.ob_ H; (try dsimp only at H); obtain ⟨⟨t323, t326, t327⟩, A4, H⟩ := M.ob_ H; (try dsimp only at H); replace H := Option.bind_eq_some_iff.mp H; obtain ⟨⟨t328, t331, t332⟩, A50, H⟩ := H
 replace H : (some (t320, t323, t328)) = some (r1, r2, r3) := H
 have A5 := M.A_ A50; clear A50
 simp only [Option.some.injEq, Prod.mk.injEq] at H
 obtain ⟨rfl, rfl, rfl⟩ := H
 go_enter Try.func19, Try.ntmps19
 go_wp2_with (first | ((with_reducible refine gate_callee (f := 34) rfl ?_); refine goesL_ (some 9) rfl rfl Try.func34 (by kernel_rfl) rfl #[.slice A0 l0.length c0] rfl (by first | rfl | (simp only [M.mt, M.mc, M.mn, M.ld, M.lt]; rfl)) ?_; (with_reducible refine (spec_l1New.calls k _ _ l0 t316 t317 t318 w _ ?side1 ?side2 ?side3 A2.out).mono ?_); (case side1 => repeat (first | (with_reducible first | exact HB.out | apply M.ba | apply M.pd | apply below_drew1) | exact HB.out)); (case side2 => exact HR0.out); (case side3 => exact HC0.out); rintro e w6 ⟨g319, rfl, hi, hb, hb2⟩; refine ⟨_, rfl, ?_⟩; have n0_ := M.A_ (hb); have n1_ := M.A_ (hi); clear HB; have HB := n0_; have HI319 := n1_; clear n0_ n1_; (try clear hb); (try clear hb2); (try clear hk); (try clear hi)) | ((with_reducible refine gate_callee (f := 37) rfl ?_); refine goesL_ (some 11) rfl rfl Try.func37 (by kernel_rfl) rfl #[.pointer (some ⟨g319, 0, none⟩), .int .i64 6] rfl (by first | rfl | (simp only [M.mt, M.mc, M.mn, M.ld, M.lt]; rfl)) ?_; (with_reducible refine (spec_l1Below.calls g319 t316 t317 t318 6 t320 t321 t322 w _ ?side1 ?side2 A3.out).mono ?_); (case side1 => repeat (first | (with_reducible first | exact HI319.out | apply IsS69.alloc | apply IsS69.drewN | apply IsS69.drew | apply IsS69.set_1 | apply IsS69.set_2) | exact HI319.out)); (case side2 => repeat (first | (with_reducible first | exact HB.out | apply M.ba | apply M.pd | apply below_drew1 | refine below_set ?_ (IsS69.ge HI319.out)) | exact HB.out)); rintro e w7 ⟨rfl, hi, hb, hk⟩; refine ⟨_, rfl, ?_⟩; have n0_ := M.A_ (hb); have n1_ := M.A_ (hi); clear HB; clear HI319; have HB := n0_; have HI319 := n1_; clear n0_ n1_; (try clear hb); (try clear hb2); (try clear hk); (try clear hi)) | ((with_reducible refine gate_callee (f := 36) rfl ?_); refine goesL_ (some 14) rfl rfl Try.func36 (by kernel_rfl) rfl #[.pointer (some ⟨g319, 0, none⟩), .int .i64 t320] rfl (by first | rfl | (simp only [M.mt, M.mc, M.mn, M.ld, M.lt]; rfl)) ?_; (with_reducible refine (spec_l27Draw.calls k g319 t316 t321 t322 t320 t323 t326 t327 w _ ?side1 ?side2 A4.out).mono ?_); (case side1 => repeat (first | (with_reducible first | exact HI319.out | apply IsS69.alloc | apply IsS69.drewN | apply IsS69.drew | apply IsS69.set_1 | apply IsS69.set_2) | exact HI319.out)); (case side2 => repeat (first | (with_reducible first | exact HB.out | apply M.ba | apply M.pd | apply below_drew1 | refine below_set ?_ (IsS69.ge HI319.out)) | exact HB.out)); rintro e w8 ⟨v324, rfl, ho0, hi, hb, hk⟩; refine ⟨_, rfl, ?_⟩; have n0_ := M.A_ (Kd.R_lower ho0 (below_size (by repeat (first | (with_reducible first | exact HB.out | apply M.ba | apply M.pd | apply below_drew1 | refine below_set ?_ (IsS69.ge HI319.out)) | exact HB.out)))); have n1_ := M.A_ (hb); have n2_ := M.A_ (hi); clear HB; clear HI319; have HO325 := n0_; have HB := n1_; have HI319 := n2_; clear n0_ n1_ n2_; (try clear hb); (try clear hb2); (try clear hk); (try clear hi); (try clear ho0)) | ((with_reducible refine gate_callee (f := 36) rfl ?_); refine goesL_ (some 19) rfl rfl Try.func36 (by kernel_rfl) rfl #[.pointer (some ⟨g319, 0, none⟩), .int .i64 t320] rfl (by first | rfl | (simp only [M.mt, M.mc, M.mn, M.ld, M.lt]; rfl)) ?_; (with_reducible refine (spec_l27Draw.calls k g319 t316 t326 t327 t320 t328 t331 t332 w _ ?side1 ?side2 A5.out).mono ?_); (case side1 => repeat (first | (with_reducible first | exact HI319.out | apply IsS69.alloc | apply IsS69.drewN | apply IsS69.drew | apply IsS69.set_1 | apply IsS69.set_2) | exact HI319.out)); (case side2 => repeat (first | (with_reducible first | exact HB.out | apply M.ba | apply M.pd | apply below_drew1 | refine below_set ?_ (IsS69.ge HI319.out)) | exact HB.out)); rintro e w9 ⟨v329, rfl, ho0, hi, hb, hk⟩; refine ⟨_, rfl, ?_⟩; have n0_ := M.A_ (Kd.R_mono (Kd.R_told (Kd.R_oldK (IsS69.apart (show IsS69 w _ g319 t316 t326 t327 from by repeat (first | (with_reducible first | exact HI319.out | apply IsS69.alloc | apply IsS69.drewN | apply IsS69.drew | apply IsS69.set_1 | apply IsS69.set_2) | exact HI319.out)) (M.Lr HO325) (by decide)) hk) (Kd.R_base ho0)) (fun _ h_ => h_.1)); have n1_ := M.A_ (Kd.R_lower (Kd.R_new' ho0 (Kd.R_lt (M.Lr HO325))) (below_size (by repeat (first | (with_reducible first | exact HB.out | apply M.ba | apply M.pd | apply below_drew1 | refine below_set ?_ (IsS69.ge HI319.out)) | exact HB.out)))); have n2_ := M.A_ (hb); have n3_ := M.A_ (hi); clear HO325; clear HB; clear HI319; have HO325 := n0_; have HO330 := n1_; have HB := n2_; have HI319 := n3_; clear n0_ n1_ n2_ n3_; (try clear hb); (try clear hb2); (try clear hk); (try clear hi); (try clear ho0)))
 go_ret3
 exact ⟨_, _, by first | rfl | (simp [*, errW_none, errW_some] <;> rfl), by (with_reducible repeat (first | apply Kd.R_alloc | apply Kd.R_drewN | apply Kd.R_drew)); exact Kd.R_mono HO325.out (fun _ hk => hk.2), by (with_reducible repeat (first | apply Kd.R_alloc | apply Kd.R_drewN | apply Kd.R_drew)); exact Kd.R_mono HO330.out (fun _ hk => hk.2), by repeat (first | (with_reducible first | exact HB.out | apply M.ba | apply M.pd | apply below_drew1 | refine below_set ?_ (IsS69.ge HI319.out)) | exact HB.out)⟩
mutual
def impl_ComposeMaps.j0 : Nat → Int → List Int → List Int → Bool → Option (List Int × Bool)
 | 0, _, _, _, _ => none
 | k + 1, x0, x1, x2, x20 => if x20 = true then (some (([] : List Int), false)) else (if 0 ≤ x0 then (if (x0 : Int).toNat ≤ 35184372088832 then (impl_ComposeMaps.l0 k x1 (List.replicate (x0 : Int).toNat 0) x2 (x2.length : Int) 0) else (none)) else (none))
def impl_ComposeMaps.l0 : Nat → List Int → List Int → List Int → Int → Int → Option (List Int × Bool)
 | 0, _, _, _, _, _ => none
 | k + 1, x1, x8, x23, x24, x25 => if x25 < x24 then (if 0 ≤ x25 then (if x25 < (x23.length : Int) then ((impl_image.f k x1 (rd x23 x25)).bind fun t339 => (if x25 < (x8.length : Int) then (impl_ComposeMaps.l0 k x1 (x8.set (x25 : Int).toNat t339) x23 x24 (wrap64 (x25 + 1))) else (none))) else (none)) else (none)) else (some (x8, true))
end
def impl_ComposeMaps.f (k : Nat) (a0 : Int) (l1 : List Int) (l2 : List Int) : Option (List Int × Bool) := (impl_IsInvertible.f a0 l1).bind fun t333 => (if t333 = true then ((impl_IsInvertible.f a0 l2).bind fun t334 => (impl_ComposeMaps.j0 k a0 l1 l2 (!t334))) else (impl_ComposeMaps.j0 k a0 l1 l2 true))
theorem impl_ComposeMaps.calls (k : Nat) (a0 : Int) (A1 : Option Addr) (c1 : Nat) (l1 : List Int) (A2 : Option Addr) (c2 : Nat) (l2 : List Int) (r1 : List Int) (r2 : Bool) (w : World) (hr1 : Kd.C (Kd.int .i64) w A1 l1.length l1) (hc1 : l1.length ≤ c1) (hr2 : Kd.C (Kd.int .i64) w A2 l2.length l2) (hc2 : l2.length ≤ c2) (h : impl_ComposeMaps.f k a0 l1 l2 = some (r1, r2)) :
  Calls Try.prog 20 #[.int .i64 a0, .slice A1 l1.length c1, .slice A2 l2.length c2] w fun e w' => ∃ v0_ : Value, e = .returned (.tuple #[v0_, .bool r2]) ∧ Kd.R (Kd.int .i64) 3 w' w.heap.size (fun _ => True) v0_ r1 ∧ Below w.heap.size w w' := by
 have HR1 := M.A_ hr1; have HC1 := M.A_ hc1; clear hr1 hc1; have HR2 := M.A_ hr2; have HC2 := M.A_ hc2; clear hr2 hc2
 have HB := M.A_ (Below.refl w.heap.size w)
 unfold impl_ComposeMaps.f at h; have H := h
 clear h; have HC4 := M.A_ H; clear H
 go_enter Try.func20, Try.ntmps20
 go_upto_region 1 with (fail)
 go_cut [20] (fun v20 wc => ∃ (kq : Nat) (x20_3 : Bool), v20 = .bool x20_3 ∧ Aside0 (impl_ComposeMaps.j0 kq a0 l1 l2 x20_3 = some (r1, r2)) ∧ Aside0 (kq ≤ k) ∧ Aside0 (Below w.heap.size w wc))
 case first =>
  have H := HC4.out
  clear HC4; obtain ⟨t333, A5, H⟩ := M.ob_ H; (try dsimp only at H)
  by_cases c6 : t333 = true
  ·subst c6
   rw [if_pos rfl] at H; (try dsimp only at H); replace H := Option.bind_eq_some_iff.mp H; obtain ⟨t334, A70, H⟩ := H
   replace H : (impl_ComposeMaps.j0 k a0 l1 l2 (!t334)) = some (r1, r2) := H
   have A7 := M.A_ A70; clear A70
   have H' := M.A_ H
   clear H
   go_wp2_with (first | ((with_reducible refine gate_callee (f := 22) rfl ?_); refine goesL_ (some 13) rfl rfl Try.func22 (by kernel_rfl) rfl #[.int .i64 a0, .slice A1 l1.length c1] rfl (by first | rfl | (simp only [M.mt, M.mc, M.mn, M.ld, M.lt]; rfl)) ?_; (with_reducible refine (impl_IsInvertible.calls a0 _ _ l1 true _ ?side1 ?side2 A5.out).mono ?_); (case side1 => exact M.Lc (Kd.C_below HR1.out HB.out)); (case side2 => exact HC1.out); rintro e w8 ⟨rfl, hb⟩; refine ⟨_, rfl, ?_⟩; have n0_ := M.A_ (below_step (M.Lw HB) hb); clear HB; have HB := n0_; clear n0_; (try clear hb); (try clear hb2); (try clear hk); (try clear hi)) | (go_at_call 22; (with_reducible refine (impl_IsInvertible.calls a0 _ _ l2 t334 _ ?side1 ?side2 A7.out).mono ?_); (case side1 => exact M.Lc (Kd.C_below HR2.out HB.out)); (case side2 => exact HC2.out); rintro e w9 ⟨rfl, hb⟩; have n0_ := M.A_ (below_step (M.Lw HB) hb); clear HB; have HB := n0_; clear n0_; (try clear hb); (try clear hb2); (try clear hk); (try clear hi)))
   go_meet
   case rel => exact ⟨_, (!t334), (by first | rfl | (simp; done) | (simp [*]; done)), H', ⟨by first | omega | exact Nat.le_refl _⟩, ⟨by repeat (first | (with_reducible first | exact HB.out | apply below_alloc | apply pw_below_drewN | apply below_drew1 | refine below_set ?_ GB21.out) | exact HB.out)⟩⟩
  ·replace c6 := Bool.eq_false_iff.mpr c6
   subst c6
   rw [if_neg (show ¬ (false = true) by decide)] at H; (try dsimp only at H)
   have H' := M.A_ H
   clear H
   go_wp2_with (first | ((with_reducible refine gate_callee (f := 22) rfl ?_); refine goesL_ (some 13) rfl rfl Try.func22 (by kernel_rfl) rfl #[.int .i64 a0, .slice A1 l1.length c1] rfl (by first | rfl | (simp only [M.mt, M.mc, M.mn, M.ld, M.lt]; rfl)) ?_; (with_reducible refine (impl_IsInvertible.calls a0 _ _ l1 false _ ?side1 ?side2 A5.out).mono ?_); (case side1 => exact M.Lc (Kd.C_below HR1.out HB.out)); (case side2 => exact HC1.out); rintro e w10 ⟨rfl, hb⟩; refine ⟨_, rfl, ?_⟩; have n0_ := M.A_ (below_step (M.Lw HB) hb); clear HB; have HB := n0_; clear n0_; (try clear hb); (try clear hb2); (try clear hk); (try clear hi)))
   go_meet
   case rel => exact ⟨_, (true), (by first | rfl | (simp; done) | (simp [*]; done)), H', ⟨by first | omega | exact Nat.le_refl _⟩, ⟨by repeat (first | (with_reducible first | exact HB.out | apply below_alloc | apply pw_below_drewN | apply below_drew1 | refine below_set ?_ GB21.out) | exact HB.out)⟩⟩
 case rest =>
  clear HC4; (try clear c1); (try clear c2); (try clear p2); (try clear c6); obtain ⟨kq, x20_3, rfl, HA, HJ3, HB⟩ := hcut
  cases kq with
  | zero => exact absurd HA.out (by simp [impl_ComposeMaps.j0])
  | succ kj3 =>
   have H := HA.out
   clear HA
   simp only [impl_ComposeMaps.j0] at H
   by_cases c11 : x20_3 = true
   ·subst c11
    rw [if_pos rfl] at H; (try dsimp only at H)
    simp only [Option.some.injEq, Prod.mk.injEq] at H
    obtain ⟨rfl, rfl⟩ := H
    go_wp2
    go_ret2
    exact ⟨_, by first | rfl | (simp [*, errW_none, errW_some] <;> rfl), by first | exact Kd.R_nil _ _ _ _ _ | exact Kd.N_nil _ _ _ _ _ | exact Kd.V_nil _ _ _ _ _ | exact Kd.Q_nil _ _ _ _ _ | exact Kd.S_nil _ _ _ _ _, by repeat (first | (with_reducible first | exact HB.out | apply below_alloc | apply pw_below_drewN | apply below_drew1 | refine below_set ?_ GB21.out) | exact HB.out)⟩
   ·replace c11 := Bool.eq_false_iff.mpr c11
    subst c11
    rw [if_neg (show ¬ (false = true) by decide)] at H; (try dsimp only at H)
    by_cases c12 : 0 ≤ a0
    ·rw [if_pos c12] at H
     have c12b0 := eq_true c12
     have c12b1 : decide (0 ≤ a0) = true := decide_eq_true c12
     clear c12
     by_cases c13 : (a0 : Int).toNat ≤ 35184372088832
     ·rw [if_pos c13] at H
      have c13b0 := eq_true c13
      have c13b1 : decide ((a0 : Int).toNat ≤ 35184372088832) = true := decide_eq_true c13
      clear c13
      obtain ⟨y335, hy335⟩ : ∃ y_ : List Int, y_ = (List.replicate (a0 : Int).toNat 0) := ⟨_, rfl⟩
      replace H : (impl_ComposeMaps.l0 kj3 l1 y335 l2 (l2.length : Int) 0) = some (r1, r2) := by first | (rw [hy335]; with_reducible exact H) | (have H2_ := (Option.bind_some _ _).symm.trans H; rw [hy335]; with_reducible exact H2_) | (have H2_ := (Option.bind_some _ _).symm.trans H; with_reducible exact H2_) | with_reducible exact H | (rw [hy335]; exact H) | exact H
      have Ny335 := M.A_ hy335; clear hy335
      have H' := M.A_ H
      clear H
      go_wp2_with (first | ((with_reducible refine gate_dst (N := 22) rfl ?_); refine Kd.R_make (Kd.int .i64) _ 3 rfl (N := 22) rfl 26 _ _ rfl a0 rfl rfl Try.underlying26 (.int .i64 0) 8 info3 rfl (by decide) (by omega) 0 (ok := fun _ => True) (okp := fun _ => True) rfl (fun _ hk => hk) trivial (of_decide_eq_true (by first | (with_reducible assumption) | assumption)) (Nat.le_trans (Nat.mul_le_mul_right _ (of_decide_eq_true (by first | (with_reducible assumption) | assumption) : a0.toNat ≤ 35184372088832)) (by omega)) (Below.refl _ _) (Nat.le_refl _) ?_; intro v336 w14 ho15 hb hg_ hnew_; clear hg_ hnew_; (first | rw [← Ny335.out] at ho15 | (simp only [Int.reduceToNat] at ho15; rw [← Ny335.out] at ho15)); have n0_ := M.A_ (Kd.R_lower ho15 (below_size (M.Lw HB))); have n1_ := M.A_ (below_step (M.Lw HB) hb); clear HB; have HO337 := n0_; have HB := n1_; clear n0_ n1_; clear hb ho15))
      go_loopg [25] kj3 (fun kq v25 w' => ∃ (x8_2 : List Int) (x25_2 : Int), v25 = .int .i64 x25_2 ∧ Aside0 (impl_ComposeMaps.l0 kq l1 x8_2 l2 (l2.length : Int) x25_2 = some (r1, r2)) ∧ Aside0 (kq ≤ kj3) ∧ Aside0 (Kd.R (Kd.int .i64) 3 w' w.heap.size (fun _ => True) v336 x8_2) ∧ Aside0 (Below w.heap.size w w'))
      case atStart => exact ⟨(y335), (0), (by first | rfl | (simp; done) | (simp [*]; done)), H', ⟨Nat.le_refl _⟩, ⟨M.Lr HO337⟩, ⟨by repeat (first | (with_reducible first | exact HB.out | apply below_alloc | apply pw_below_drewN | apply below_drew1 | refine below_set ?_ GB21.out) | exact HB.out)⟩⟩
      case round =>
       clear H'; (try clear c1); (try clear c2); (try clear p2); (try clear c6); (try clear c11); (try clear c12); (try clear c12b0); (try clear c12b1); (try clear c13); (try clear c13b0); (try clear c13b1); (try clear p2); obtain ⟨x8_2, x25_2, rfl, HA, HK2, HO_8, HB⟩ := hrel
       cases gk with
       | zero => exact absurd HA.out (by simp [impl_ComposeMaps.l0])
       | succ k2 =>
        have H := HA.out
        clear HA
        simp only [impl_ComposeMaps.l0] at H
        by_cases c16 : x25_2 < (l2.length : Int)
        ·rw [if_pos c16] at H
         have c16b0 : decide (x25_2 < (l2.length : Int)) = true := decide_eq_true c16
         clear c16
         by_cases c17 : 0 ≤ x25_2
         ·rw [if_pos c17] at H
          have c17b0 : decide (0 ≤ x25_2) = true := decide_eq_true c17
          clear c17
          by_cases c18 : x25_2 < (l2.length : Int)
          ·rw [if_pos c18] at H
           have c18b0 : decide (x25_2 < (l2.length : Int)) = true := decide_eq_true c18
           clear c18; obtain ⟨t339, A19, H⟩ := M.ob_ H; (try dsimp only at H)
           by_cases c20 : x25_2 < (x8_2.length : Int)
           ·rw [if_pos c20] at H
            have c20b0 : decide (x25_2 < (x8_2.length : Int)) = true := decide_eq_true c20
            clear c20
            obtain ⟨y340, hy340⟩ : ∃ y_ : List Int, y_ = (x8_2.set (x25_2 : Int).toNat t339) := ⟨_, rfl⟩
            replace H : (impl_ComposeMaps.l0 k2 l1 y340 l2 (l2.length : Int) (wrap64 (x25_2 + 1))) = some (r1, r2) := by first | (rw [hy340]; with_reducible exact H) | (have H2_ := (Option.bind_some _ _).symm.trans H; rw [hy340]; with_reducible exact H2_) | (have H2_ := (Option.bind_some _ _).symm.trans H; with_reducible exact H2_) | with_reducible exact H | (rw [hy340]; exact H) | exact H
            have Ny340 := M.A_ hy340; clear hy340
            have H' := M.A_ H
            clear H
            have p338 : 0 ≤ (x25_2 : Int) := of_decide_eq_true (by first | (with_reducible assumption) | assumption)
            have q338 : x25_2 < (l2.length : Int) := of_decide_eq_true (by first | (with_reducible assumption) | assumption)
            obtain ⟨ad338, e338, hx338_0⟩ := Kd.at_int HR2.out x25_2 p338 q338
            cases e338
            replace hx338_0 := (HB.out.cell (World.block_lt_of_cell? w _ hx338_0)).trans hx338_0
            replace p338 := eq_true p338
            replace q338 := eq_true q338
            go_wp2_with (first | ((with_reducible refine gate_callee (f := 42) rfl ?_); refine goesL_ (some 34) rfl rfl Try.func42 (by kernel_rfl) rfl #[.slice A1 l1.length c1, .int .i64 (rd l2 x25_2)] rfl (by first | rfl | (simp only [M.mt, M.mc, M.mn, M.ld, M.lt]; rfl)) ?_; (with_reducible refine (impl_image.calls k2 _ _ l1 (rd l2 x25_2) t339 _ ?side1 ?side2 A19.out).mono ?_); (case side1 => exact M.Lc (Kd.C_below HR1.out HB.out)); (case side2 => exact HC1.out); rintro e w' ⟨rfl, ⟨nd, rfl⟩⟩; refine ⟨_, rfl, ?_⟩; (try (rw [drewN_self wr]; generalize hq_ : World.drewN wr _ = wr; have n0_ : Aside0 (Kd.R (Kd.int .i64) 3 wr w.heap.size (fun _ => True) v336 x8_2) := ⟨by rw [← hq_]; exact (M.Lr HO_8)⟩; have n1_ : Aside0 (Below w.heap.size w wr) := ⟨by rw [← hq_]; exact (by repeat (first | (with_reducible first | exact HB.out | apply M.ba | apply M.pd | apply below_drew1) | exact HB.out))⟩; clear HO_8 HB hq_; have HO_8 := n0_; have HB := n1_; clear n0_ n1_)); have p21 : 0 ≤ (x25_2 : Int) := of_decide_eq_true (by first | (with_reducible assumption) | assumption); have q21 : (x25_2 : Int) < ((x8_2.length : Int) : Int) := of_decide_eq_true (by first | (with_reducible assumption) | assumption); obtain ⟨go21, co21, eo21, gb21, gl21, cl21, HG21⟩ := Kd.R_form HO_8.out (by omega); (first | cases eo21 | (injection eo21 with ea_ en_ ec_; (first | subst ea_ | (injection ea_ with ea_; subst ea_)); subst ec_; clear en_)); have GB21 := M.A_ gb21; have GG21 := M.A_ HG21; clear gb21 gl21 HG21; obtain ⟨hx21_0, hf21_0⟩ := Kd.R_celln 0 HO_8.out (x25_2 : Int) p21 q21; replace p21 := eq_true p21; replace q21 := eq_true q21; obtain ⟨hy22_, hz22_⟩ := Kd.R_celln 0 HO_8.out (x25_2 : Int) (of_decide_eq_true (by first | (with_reducible assumption) | assumption)) (of_decide_eq_true (by first | (with_reducible assumption) | assumption)); have HP22 := Kd.R_putg HO_8.out (x25_2 : Int) t339) | ((with_reducible refine gate_store (t := 3) (p := 35) rfl ?_); refine store_event (t := 3) (p := 35) (v := ?vo_w23) (w1 := (wr.setCell ⟨go21, (x25_2 : Int).toNat, none⟩ (.int .i64 t339))) ?hg ?ho ?hn ?hr ?_; (case ho => rfl); (case hg => rfl); (case hn => rfl); (case hr => first | (go_simp; done) | (go_simp; rfl)); intro w23 hw; have hg : wr.grownBy w23 (some go21) := (by rw [hw]; exact HP22.2); have hp_ : Kd.R (Kd.int .i64) 3 w23 w.heap.size (fun _ => True) (.slice (some ⟨go21, 0, none⟩) x8_2.length co21) y340 := (by rw [hw, Ny340.out]; exact HP22.1); clear HP22; have n0_ := M.A_ (hp_); have n1_ := M.A_ ((by rw [hw]; exact below_set (HB.out) GB21.out : Below w.heap.size w w23)); clear HO_8; clear HB; have HO_8 := n0_; have HB := n1_; clear n0_ n1_; clear hg hw hp_))
            go_roundg k2
            case measure => have := HJ3.out; have := HK2.out; omega
            case rel => exact ⟨(y340), (wrap64 (x25_2 + 1)), (by first | rfl | (simp; done) | (simp [*]; done)), H', ⟨by have := HJ3.out; have := HK2.out; omega⟩, ⟨M.Lr HO_8⟩, ⟨by repeat (first | (with_reducible first | exact HB.out | apply below_alloc | apply pw_below_drewN | apply below_drew1 | refine below_set ?_ GB21.out) | exact HB.out)⟩⟩
           ·rw [if_neg c20] at H
            exact absurd H (by simp)
          ·rw [if_neg c18] at H
           exact absurd H (by simp)
         ·rw [if_neg c17] at H
          exact absurd H (by simp)
        ·rw [if_neg c16] at H
         have c16b0 : decide (x25_2 < (l2.length : Int)) = false := decide_eq_false c16
         clear c16
         simp only [Option.some.injEq, Prod.mk.injEq] at H
         obtain ⟨rfl, rfl⟩ := H
         go_wp2
         go_ret2
         exact ⟨_, by first | rfl | (simp [*, errW_none, errW_some] <;> rfl), by (with_reducible repeat (first | apply Kd.R_alloc | apply Kd.R_drewN | apply Kd.R_drew)); exact HO_8.out, by repeat (first | (with_reducible first | exact HB.out | apply below_alloc | apply pw_below_drewN | apply below_drew1 | refine below_set ?_ GB21.out) | exact HB.out)⟩
     ·rw [if_neg c13] at H
      exact absurd H (by simp)
    ·rw [if_neg c12] at H
     exact absurd H (by simp)
mutual
def spec_ComposeMaps.j0 : Nat → Int → List Int → List Int → List Int → Bool → Option (List Int × Bool)
 | 0, _, _, _, _, _ => none
 | k + 1, x0, x1, x2, x8, x20 => if x20 = true then (some (x8, false)) else (spec_ComposeMaps.l0 k x0 x1 x2 x8 0)
def spec_ComposeMaps.l0 : Nat → Int → List Int → List Int → List Int → Int → Option (List Int × Bool)
 | 0, _, _, _, _, _ => none
 | k + 1, x0, x1, x2, x8, x9 => if x9 < x0 then (if 0 ≤ x9 then (if x9 < (x2.length : Int) then ((spec_l27Apply.f k x1 (rd x2 x9)).bind fun t347 => (if x8.length < 17592186044416 then (spec_ComposeMaps.l0 k x0 x1 x2 (x8 ++ [t347]) (wrap64 (x9 + 1))) else (none))) else (none)) else (none)) else (some (x8, true))
end
def spec_ComposeMaps.f (k : Nat) (a0 : Int) (l1 : List Int) (l2 : List Int) : Option (List Int × Bool) := (some (([] : List Int) : List Int)).bind fun y341 => ((spec_IsInvertible.f k a0 l1).bind fun t344 => (if t344 = true then ((spec_IsInvertible.f k a0 l2).bind fun t345 => (spec_ComposeMaps.j0 k a0 l1 l2 y341 (!t345))) else (spec_ComposeMaps.j0 k a0 l1 l2 y341 true)))
theorem spec_ComposeMaps.calls (k : Nat) (a0 : Int) (A1 : Option Addr) (c1 : Nat) (l1 : List Int) (A2 : Option Addr) (c2 : Nat) (l2 : List Int) (r1 : List Int) (r2 : Bool) (w : World) (hr1 : Kd.C (Kd.int .i64) w A1 l1.length l1) (hc1 : l1.length ≤ c1) (hr2 : Kd.C (Kd.int .i64) w A2 l2.length l2) (hc2 : l2.length ≤ c2) (h : spec_ComposeMaps.f k a0 l1 l2 = some (r1, r2)) :
  Calls Try.prog 21 #[.int .i64 a0, .slice A1 l1.length c1, .slice A2 l2.length c2] w fun e w' => ∃ v0_ : Value, e = .returned (.tuple #[v0_, .bool r2]) ∧ Kd.R (Kd.int .i64) 3 w' w.heap.size (fun _ => True) v0_ r1 ∧ Below w.heap.size w w' := by
 have HR1 := M.A_ hr1; have HC1 := M.A_ hc1; clear hr1 hc1; have HR2 := M.A_ hr2; have HC2 := M.A_ hc2; clear hr2 hc2
 have HB := M.A_ (Below.refl w.heap.size w)
 unfold spec_ComposeMaps.f at h; have H := h
 clear h
 obtain ⟨y341, hy341⟩ : ∃ y_ : List Int, y_ = (([] : List Int)) := ⟨_, rfl⟩
 replace H : ((spec_IsInvertible.f k a0 l1).bind fun t344 => (if t344 = true then ((spec_IsInvertible.f k a0 l2).bind fun t345 => (spec_ComposeMaps.j0 k a0 l1 l2 y341 (!t345))) else (spec_ComposeMaps.j0 k a0 l1 l2 y341 true))) = some (r1, r2) := by first | (rw [hy341]; with_reducible exact H) | (have H2_ := (Option.bind_some _ _).symm.trans H; rw [hy341]; with_reducible exact H2_) | (have H2_ := (Option.bind_some _ _).symm.trans H; with_reducible exact H2_) | with_reducible exact H | (rw [hy341]; exact H) | exact H
 have Ny341 := M.A_ hy341; clear hy341; have HC4 := M.A_ H; clear H
 go_enter Try.func21, Try.ntmps21
 go_upto_region 2 with (first | ((with_reducible refine gate_dst (N := 10) rfl ?_); refine Kd.R_lit (Kd.int .i64) _ 3 ?hg (N := 10) ?hd (xs := ([] : List Int)) (inner := []) (ok := fun _ => True) (okp := fun _ => True) ?hr ?hp (fun _ hk => hk) trivial (Below.refl _ _) (Nat.le_refl _) (by simp) ?_; (case hd => rfl); (case hg => rfl); (case hr => first | (go_simp; done) | (go_simp; rfl)); (case hp => exact (Reps.none _ _)); intro v342 w5 ho6 hb hg_ hnew_; clear hg_ hnew_; (first | rw [← Ny341.out] at ho6 | (simp only [Int.reduceToNat] at ho6; rw [← Ny341.out] at ho6)); have n0_ := M.A_ (Kd.R_lower ho6 (below_size (M.Lw HB))); have n1_ := M.A_ (below_step (M.Lw HB) hb); clear HB; have HO343 := n0_; have HB := n1_; clear n0_ n1_; clear hb ho6))
 (try simp only [Act.put, List.setIfInBounds_toArray, List.set_cons_zero, List.set_cons_succ])
 go_cut [20] (fun v20 wc => ∃ (kq : Nat) (x20_3 : Bool), v20 = .bool x20_3 ∧ Aside0 (spec_ComposeMaps.j0 kq a0 l1 l2 y341 x20_3 = some (r1, r2)) ∧ Aside0 (kq ≤ k) ∧ Aside0 (Kd.R (Kd.int .i64) 3 wc w.heap.size (fun _ => True) v342 y341) ∧ Aside0 (Below w.heap.size w wc))
 case first =>
  have H := HC4.out
  clear HC4; obtain ⟨t344, A7, H⟩ := M.ob_ H; (try dsimp only at H)
  by_cases c8 : t344 = true
  ·subst c8
   rw [if_pos rfl] at H; (try dsimp only at H); replace H := Option.bind_eq_some_iff.mp H; obtain ⟨t345, A90, H⟩ := H
   replace H : (spec_ComposeMaps.j0 k a0 l1 l2 y341 (!t345)) = some (r1, r2) := H
   have A9 := M.A_ A90; clear A90
   have H' := M.A_ H
   clear H
   go_wp2_with (first | ((with_reducible refine gate_callee (f := 30) rfl ?_); refine goesL_ (some 13) rfl rfl Try.func30 (by kernel_rfl) rfl #[.int .i64 a0, .slice A1 l1.length c1] rfl (by first | rfl | (simp only [M.mt, M.mc, M.mn, M.ld, M.lt]; rfl)) ?_; (with_reducible refine (spec_IsInvertible.calls k a0 _ _ l1 true _ ?side1 ?side2 A7.out).mono ?_); (case side1 => exact M.Lc (Kd.C_below HR1.out HB.out)); (case side2 => exact HC1.out); rintro e w10 ⟨rfl, hb⟩; refine ⟨_, rfl, ?_⟩; have n0_ := M.A_ (Kd.R_below (M.Lr HO343) hb); have n1_ := M.A_ (below_step (M.Lw HB) hb); clear HO343; clear HB; have HO343 := n0_; have HB := n1_; clear n0_ n1_; (try clear hb); (try clear hb2); (try clear hk); (try clear hi)) | (go_at_call 30; (with_reducible refine (spec_IsInvertible.calls k a0 _ _ l2 t345 _ ?side1 ?side2 A9.out).mono ?_); (case side1 => exact M.Lc (Kd.C_below HR2.out HB.out)); (case side2 => exact HC2.out); rintro e w11 ⟨rfl, hb⟩; have n0_ := M.A_ (Kd.R_below (M.Lr HO343) hb); have n1_ := M.A_ (below_step (M.Lw HB) hb); clear HO343; clear HB; have HO343 := n0_; have HB := n1_; clear n0_ n1_; (try clear hb); (try clear hb2); (try clear hk); (try clear hi)))
   go_meet
   case rel => exact ⟨_, (!t345), (by first | rfl | (simp; done) | (simp [*]; done)), H', ⟨by first | omega | exact Nat.le_refl _⟩, ⟨M.Lr HO343⟩, ⟨M.Lw HB⟩⟩
  ·replace c8 := Bool.eq_false_iff.mpr c8
   subst c8
   rw [if_neg (show ¬ (false = true) by decide)] at H; (try dsimp only at H)
   have H' := M.A_ H
   clear H
   go_wp2_with (first | ((with_reducible refine gate_callee (f := 30) rfl ?_); refine goesL_ (some 13) rfl rfl Try.func30 (by kernel_rfl) rfl #[.int .i64 a0, .slice A1 l1.length c1] rfl (by first | rfl | (simp only [M.mt, M.mc, M.mn, M.ld, M.lt]; rfl)) ?_; (with_reducible refine (spec_IsInvertible.calls k a0 _ _ l1 false _ ?side1 ?side2 A7.out).mono ?_); (case side1 => exact M.Lc (Kd.C_below HR1.out HB.out)); (case side2 => exact HC1.out); rintro e w12 ⟨rfl, hb⟩; refine ⟨_, rfl, ?_⟩; have n0_ := M.A_ (Kd.R_below (M.Lr HO343) hb); have n1_ := M.A_ (below_step (M.Lw HB) hb); clear HO343; clear HB; have HO343 := n0_; have HB := n1_; clear n0_ n1_; (try clear hb); (try clear hb2); (try clear hk); (try clear hi)))
   go_meet
   case rel => exact ⟨_, (true), (by first | rfl | (simp; done) | (simp [*]; done)), H', ⟨by first | omega | exact Nat.le_refl _⟩, ⟨M.Lr HO343⟩, ⟨M.Lw HB⟩⟩
 case rest =>
  clear HC4; (try clear c1); (try clear c2); (try clear p2); (try clear c3); (try clear c8); obtain ⟨kq, x20_3, rfl, HA, HJ3, HO_8, HB⟩ := hcut
  cases kq with
  | zero => exact absurd HA.out (by simp [spec_ComposeMaps.j0])
  | succ kj3 =>
   have H := HA.out
   clear HA
   simp only [spec_ComposeMaps.j0] at H
   by_cases c13 : x20_3 = true
   ·subst c13
    rw [if_pos rfl] at H; (try dsimp only at H)
    simp only [Option.some.injEq, Prod.mk.injEq] at H
    obtain ⟨rfl, rfl⟩ := H
    go_wp2
    go_ret2
    exact ⟨_, by first | rfl | (simp [*, errW_none, errW_some] <;> rfl), by (with_reducible repeat (first | apply Kd.R_alloc | apply Kd.R_drewN | apply Kd.R_drew)); exact HO_8.out, M.Lw HB⟩
   ·replace c13 := Bool.eq_false_iff.mpr c13
    subst c13
    rw [if_neg (show ¬ (false = true) by decide)] at H; (try dsimp only at H)
    have H' := M.A_ H
    clear H
    go_wp2
    go_loopg [8, 9] kj3 (fun kq v8 v9 w' => ∃ (x8_2 : List Int) (x9_2 : Int), v9 = .int .i64 x9_2 ∧ Aside0 (spec_ComposeMaps.l0 kq a0 l1 l2 x8_2 x9_2 = some (r1, r2)) ∧ Aside0 (kq ≤ kj3) ∧ Aside0 (Kd.R (Kd.int .i64) 3 w' w.heap.size (fun _ => True) v8 x8_2) ∧ Aside0 (Below w.heap.size w w'))
    case atStart => exact ⟨(y341), (0), (by first | rfl | (simp; done) | (simp [*]; done)), H', ⟨Nat.le_refl _⟩, ⟨M.Lr HO_8⟩, ⟨M.Lw HB⟩⟩
    case round =>
     clear H'; (try clear c1); (try clear c2); (try clear p2); (try clear c3); (try clear c8); (try clear c13); (try clear p2); obtain ⟨x8_2, x9_2, rfl, HA, HK2, HO_8, HB⟩ := hrel
     cases gk with
     | zero => exact absurd HA.out (by simp [spec_ComposeMaps.l0])
     | succ k2 =>
      have H := HA.out
      clear HA
      simp only [spec_ComposeMaps.l0] at H
      by_cases c14 : x9_2 < a0
      ·rw [if_pos c14] at H
       have c14b0 : decide (x9_2 < a0) = true := decide_eq_true c14
       clear c14
       by_cases c15 : 0 ≤ x9_2
       ·rw [if_pos c15] at H
        have c15b0 : decide (0 ≤ x9_2) = true := decide_eq_true c15
        clear c15
        by_cases c16 : x9_2 < (l2.length : Int)
        ·rw [if_pos c16] at H
         have c16b0 : decide (x9_2 < (l2.length : Int)) = true := decide_eq_true c16
         clear c16; obtain ⟨t347, A17, H⟩ := M.ob_ H; (try dsimp only at H)
         by_cases c18 : x8_2.length < 17592186044416
         ·rw [if_pos c18] at H; have LMc18 := M.A_ c18; clear c18
          obtain ⟨y348, hy348⟩ : ∃ y_ : List Int, y_ = (x8_2 ++ [t347]) := ⟨_, rfl⟩
          replace H : (spec_ComposeMaps.l0 k2 a0 l1 l2 y348 (wrap64 (x9_2 + 1))) = some (r1, r2) := by first | (rw [hy348]; with_reducible exact H) | (have H2_ := (Option.bind_some _ _).symm.trans H; rw [hy348]; with_reducible exact H2_) | (have H2_ := (Option.bind_some _ _).symm.trans H; with_reducible exact H2_) | with_reducible exact H | (rw [hy348]; exact H) | exact H
          have Ny348 := M.A_ hy348; clear hy348
          have H' := M.A_ H
          clear H
          have p346 : 0 ≤ (x9_2 : Int) := of_decide_eq_true (by first | (with_reducible assumption) | assumption)
          have q346 : x9_2 < (l2.length : Int) := of_decide_eq_true (by first | (with_reducible assumption) | assumption)
          obtain ⟨ad346, e346, hx346_0⟩ := Kd.at_int HR2.out x9_2 p346 q346
          cases e346
          replace hx346_0 := (HB.out.cell (World.block_lt_of_cell? w _ hx346_0)).trans hx346_0
          replace p346 := eq_true p346
          replace q346 := eq_true q346
          go_wp2_with (first | ((with_reducible refine gate_callee (f := 45) rfl ?_); refine goesL_ (some 33) rfl rfl Try.func45 (by kernel_rfl) rfl #[.slice A1 l1.length c1, .int .i64 (rd l2 x9_2)] rfl (by first | rfl | (simp only [M.mt, M.mc, M.mn, M.ld, M.lt]; rfl)) ?_; (with_reducible refine (spec_l27Apply.calls k2 _ _ l1 (rd l2 x9_2) t347 _ ?side1 ?side2 A17.out).mono ?_); (case side1 => exact M.Lc (Kd.C_below HR1.out HB.out)); (case side2 => exact HC1.out); rintro e w' ⟨rfl, ⟨nd, rfl⟩⟩; refine ⟨_, rfl, ?_⟩) | ((with_reducible refine gate_builtin (b := .append) (xs := #[.tmp 27, .tmp 34]) rfl ?_); at_builtin; refine Kd.R_append (Kd.int .i64) (w0 := w) w.heap.size rfl (.tmp 27) (.tmp 34) 26 3 (.int .i64 0) 8 rfl Try.underlying26 info3 rfl (by decide) (by omega) u8 x8_2 t347 [.int .i64 t347] (fun _ => True) (fun _ => False) rfl rfl ?aP (fun _ hk => hk.elim) ?aF ?aO ?aB ?aS ?aL ?_; (case aP => exact rfl); (case aB => exact (M.Lw HB)); (case aF => exact (fun _ _ => trivial)); (case aO => exact (M.Lr HO_8)); (case aS => exact (below_size (M.Lw HB))); (case aL => have := LMc18.out; omega); intro v349 w19 ho hb hg hat; rw [← Ny348.out] at ho; have n0_ := M.A_ (hb); have n1_ := M.A_ (ho); clear HB; clear HO_8; have HB := n0_; have HO350 := n1_; clear n0_ n1_; clear ho hb hg hat))
          go_roundg k2
          case measure => have := HJ3.out; have := HK2.out; omega
          case rel => exact ⟨(y348), (wrap64 (x9_2 + 1)), (by first | rfl | (simp; done) | (simp [*]; done)), H', ⟨by have := HJ3.out; have := HK2.out; omega⟩, ⟨M.Lr HO350⟩, ⟨M.Lw HB⟩⟩
         ·rw [if_neg c18] at H
          exact absurd H (by simp)
        ·rw [if_neg c16] at H
         exact absurd H (by simp)
       ·rw [if_neg c15] at H
        exact absurd H (by simp)
      ·rw [if_neg c14] at H
       have c14b0 : decide (x9_2 < a0) = false := decide_eq_false c14
       clear c14
       simp only [Option.some.injEq, Prod.mk.injEq] at H
       obtain ⟨rfl, rfl⟩ := H
       go_wp2
       go_ret2
       exact ⟨_, by first | rfl | (simp [*, errW_none, errW_some] <;> rfl), by (with_reducible repeat (first | apply Kd.R_alloc | apply Kd.R_drewN | apply Kd.R_drew)); exact HO_8.out, M.Lw HB⟩
def spec_l27Both.f (k : Nat) (l0 : List Int) : Option (Int × List Int) := (spec_l1New.f k l0).bind fun bt351 => ((spec_l1Below.f bt351.1 bt351.2.1 bt351.2.2 6).bind fun bt355 => ((spec_l27Draw.f k bt351.1 bt355.2.1 bt355.2.2 bt355.1).bind fun bt358 => ((spec_l1Once.f bt351.1 bt358.2.1 bt358.2.2 12).bind fun bt363 => (if bt363.1 = true then ((spec_l1PickInt.f bt351.1 bt363.2.1 bt363.2.2 (([(-1), 6, 2] : List Int))).bind fun bt369 => (some (bt369.1, bt358.1))) else (some (bt355.1, bt358.1))))))
theorem spec_l27Both.calls (k : Nat) (A0 : Option Addr) (c0 : Nat) (l0 : List Int) (r1 : Int) (r2 : List Int) (w : World) (hr0 : Kd.C (Kd.int .u8) w A0 l0.length l0) (hc0 : l0.length ≤ c0) (h : spec_l27Both.f k l0 = some (r1, r2)) :
  Calls Try.prog 60 #[.slice A0 l0.length c0] w fun e w' => ∃ v1_ : Value, e = .returned (.tuple #[.int .i64 r1, v1_]) ∧ Kd.R (Kd.int .i64) 3 w' w.heap.size (fun _ => True) v1_ r2 ∧ Below w.heap.size w w' := by
 have HR0 := M.A_ hr0; have HC0 := M.A_ hc0; clear hr0 hc0
 have HB := M.A_ (Below.refl w.heap.size w)
 unfold spec_l27Both.f at h; have H := h
 clear h; obtain ⟨⟨t351, t352, t353⟩, A2, H⟩ := M.ob_ H; (try dsimp only at H); obtain ⟨⟨t355, t356, t357⟩, A3, H⟩ := M.ob_ H; (try dsimp only at H); obtain ⟨⟨t358, t361, t362⟩, A4, H⟩ := M.ob_ H; (try dsimp only at H); obtain ⟨⟨t363, t364, t365⟩, A5, H⟩ := M.ob_ H; (try dsimp only at H)
 by_cases c6 : t363 = true
 ·subst c6
  rw [if_pos rfl] at H; (try dsimp only at H)
  obtain ⟨y366, hy366⟩ : ∃ y_ : List Int, y_ = (([(-1), 6, 2] : List Int)) := ⟨_, rfl⟩
  replace H : ((spec_l1PickInt.f t351 t364 t365 y366).bind fun bt369 => (some (bt369.1, t358))) = some (r1, r2) := by first | (rw [hy366]; with_reducible exact H) | (have H2_ := (Option.bind_some _ _).symm.trans H; rw [hy366]; with_reducible exact H2_) | (have H2_ := (Option.bind_some _ _).symm.trans H; with_reducible exact H2_) | with_reducible exact H | (rw [hy366]; exact H) | exact H
  have Ny366 := M.A_ hy366; clear hy366; replace H := Option.bind_eq_some_iff.mp H; obtain ⟨⟨t369, t370, t371⟩, A70, H⟩ := H
  replace H : (some (t369, t358)) = some (r1, r2) := H
  have A7 := M.A_ A70; clear A70
  simp only [Option.some.injEq, Prod.mk.injEq] at H
  obtain ⟨rfl, rfl⟩ := H
  go_enter Try.func60, Try.ntmps60
  go_wp2_with (first | ((with_reducible refine gate_callee (f := 34) rfl ?_); refine goesL_ (some 8) rfl rfl Try.func34 (by kernel_rfl) rfl #[.slice A0 l0.length c0] rfl (by first | rfl | (simp only [M.mt, M.mc, M.mn, M.ld, M.lt]; rfl)) ?_; (with_reducible refine (spec_l1New.calls k _ _ l0 t351 t352 t353 w _ ?side1 ?side2 ?side3 A2.out).mono ?_); (case side1 => repeat (first | (with_reducible first | exact HB.out | apply M.ba | apply M.pd | apply below_drew1) | exact HB.out)); (case side2 => exact HR0.out); (case side3 => exact HC0.out); rintro e w8 ⟨g354, rfl, hi, hb, hb2⟩; refine ⟨_, rfl, ?_⟩; have n0_ := M.A_ (hb); have n1_ := M.A_ (hi); clear HB; have HB := n0_; have HI354 := n1_; clear n0_ n1_; (try clear hb); (try clear hb2); (try clear hk); (try clear hi)) | ((with_reducible refine gate_callee (f := 37) rfl ?_); refine goesL_ (some 10) rfl rfl Try.func37 (by kernel_rfl) rfl #[.pointer (some ⟨g354, 0, none⟩), .int .i64 6] rfl (by first | rfl | (simp only [M.mt, M.mc, M.mn, M.ld, M.lt]; rfl)) ?_; (with_reducible refine (spec_l1Below.calls g354 t351 t352 t353 6 t355 t356 t357 w _ ?side1 ?side2 A3.out).mono ?_); (case side1 => repeat (first | (with_reducible first | exact HI354.out | apply IsS69.alloc | apply IsS69.drewN | apply IsS69.drew | apply IsS69.set_1 | apply IsS69.set_2) | exact HI354.out)); (case side2 => repeat (first | (with_reducible first | exact HB.out | apply M.ba | apply M.pd | apply below_drew1 | refine below_set ?_ (IsS69.ge HI354.out)) | exact HB.out)); rintro e w9 ⟨rfl, hi, hb, hk⟩; refine ⟨_, rfl, ?_⟩; have n0_ := M.A_ (hb); have n1_ := M.A_ (hi); clear HB; clear HI354; have HB := n0_; have HI354 := n1_; clear n0_ n1_; (try clear hb); (try clear hb2); (try clear hk); (try clear hi)) | ((with_reducible refine gate_callee (f := 36) rfl ?_); refine goesL_ (some 13) rfl rfl Try.func36 (by kernel_rfl) rfl #[.pointer (some ⟨g354, 0, none⟩), .int .i64 t355] rfl (by first | rfl | (simp only [M.mt, M.mc, M.mn, M.ld, M.lt]; rfl)) ?_; (with_reducible refine (spec_l27Draw.calls k g354 t351 t356 t357 t355 t358 t361 t362 w _ ?side1 ?side2 A4.out).mono ?_); (case side1 => repeat (first | (with_reducible first | exact HI354.out | apply IsS69.alloc | apply IsS69.drewN | apply IsS69.drew | apply IsS69.set_1 | apply IsS69.set_2) | exact HI354.out)); (case side2 => repeat (first | (with_reducible first | exact HB.out | apply M.ba | apply M.pd | apply below_drew1 | refine below_set ?_ (IsS69.ge HI354.out)) | exact HB.out)); rintro e w10 ⟨v359, rfl, ho0, hi, hb, hk⟩; refine ⟨_, rfl, ?_⟩; have n0_ := M.A_ (Kd.R_lower ho0 (below_size (by repeat (first | (with_reducible first | exact HB.out | apply M.ba | apply M.pd | apply below_drew1 | refine below_set ?_ (IsS69.ge HI354.out)) | exact HB.out)))); have n1_ := M.A_ (hb); have n2_ := M.A_ (hi); clear HB; clear HI354; have HO360 := n0_; have HB := n1_; have HI354 := n2_; clear n0_ n1_ n2_; (try clear hb); (try clear hb2); (try clear hk); (try clear hi); (try clear ho0)) | ((with_reducible refine gate_callee (f := 66) rfl ?_); refine goesL_ (some 15) rfl rfl Try.func66 (by kernel_rfl) rfl #[.pointer (some ⟨g354, 0, none⟩), .int .i64 12] rfl (by first | rfl | (simp only [M.mt, M.mc, M.mn, M.ld, M.lt]; rfl)) ?_; (with_reducible refine (spec_l1Once.calls g354 t351 t361 t362 12 true t364 t365 w _ ?side1 ?side2 A5.out).mono ?_); (case side1 => repeat (first | (with_reducible first | exact HI354.out | apply IsS69.alloc | apply IsS69.drewN | apply IsS69.drew | apply IsS69.set_1 | apply IsS69.set_2) | exact HI354.out)); (case side2 => repeat (first | (with_reducible first | exact HB.out | apply M.ba | apply M.pd | apply below_drew1 | refine below_set ?_ (IsS69.ge HI354.out)) | exact HB.out)); rintro e w11 ⟨rfl, hi, hb, hk⟩; refine ⟨_, rfl, ?_⟩; have n0_ := M.A_ (Kd.R_mono (Kd.R_keep (IsS69.apart (show IsS69 w _ g354 t351 t361 t362 from by repeat (first | (with_reducible first | exact HI354.out | apply IsS69.alloc | apply IsS69.drewN | apply IsS69.drew | apply IsS69.set_1 | apply IsS69.set_2) | exact HI354.out)) (M.Lr HO360) (by decide)) hk (fun _ h => h.2)) (fun _ h => h.1)); have n1_ := M.A_ (hb); have n2_ := M.A_ (hi); clear HO360; clear HB; clear HI354; have HO360 := n0_; have HB := n1_; have HI354 := n2_; clear n0_ n1_ n2_; (try clear hb); (try clear hb2); (try clear hk); (try clear hi)) | ((with_reducible refine gate_dst (N := 17) rfl ?_); refine Kd.R_lit (Kd.int .i64) _ 3 ?hg (N := 17) ?hd (xs := ([(-1), 6, 2] : List Int)) (inner := [.int .i64 (-1), .int .i64 6, .int .i64 2]) (ok := fun _ => True) (okp := fun _ => True) ?hr ?hp (fun _ hk => hk) trivial (Below.refl _ _) (Nat.le_refl _) (by simp) ?_; (case hd => rfl); (case hg => rfl); (case hr => first | (go_simp; done) | (go_simp; rfl)); (case hp => exact (Reps.one (show Kd.M (Kd.int .i64) _ _ _ (-1) [.int .i64 (-1)] from rfl) (Reps.one (show Kd.M (Kd.int .i64) _ _ _ 6 [.int .i64 6] from rfl) (Reps.one (show Kd.M (Kd.int .i64) _ _ _ 2 [.int .i64 2] from rfl) (Reps.none _ _))))); intro v367 w12 ho13 hb hg_ hnew_; clear hg_ hnew_; (first | rw [← Ny366.out] at ho13 | (simp only [Int.reduceToNat] at ho13; rw [← Ny366.out] at ho13)); have n0_ := M.A_ (Kd.R_elder' (M.Lr HO360) (Kd.R_base ho13) hb); have n1_ := M.A_ (Kd.R_lower (Kd.R_new' ho13 (Kd.R_lt (M.Lr HO360))) (below_size (by repeat (first | (with_reducible first | exact HB.out | apply M.ba | apply M.pd | apply below_drew1 | refine below_set ?_ (IsS69.ge HI354.out)) | exact HB.out)))); have n2_ := M.A_ (IsS69.below (by repeat (first | (with_reducible first | exact HI354.out | apply IsS69.alloc | apply IsS69.drewN | apply IsS69.drew | apply IsS69.set_1 | apply IsS69.set_2) | exact HI354.out)) hb); have n3_ := M.A_ (below_step (by repeat (first | (with_reducible first | exact HB.out | apply M.ba | apply M.pd | apply below_drew1 | refine below_set ?_ (IsS69.ge HI354.out)) | exact HB.out)) hb); clear HO360; clear HI354; clear HB; have HO360 := n0_; have HO368 := n1_; have HI354 := n2_; have HB := n3_; clear n0_ n1_ n2_ n3_; clear hb ho13; obtain ⟨Ao14, co14, eo14⟩ := Kd.R_slice HO368.out; subst eo14) | ((with_reducible refine gate_callee (f := 65) rfl ?_); refine goesL_ (some 18) rfl rfl Try.func65 (by kernel_rfl) rfl #[.pointer (some ⟨g354, 0, none⟩), .slice Ao14 y366.length co14] rfl (by first | rfl | (simp only [M.mt, M.mc, M.mn, M.ld, M.lt]; rfl)) ?_; (with_reducible refine (spec_l1PickInt.calls g354 t351 t364 t365 _ _ y366 t369 t370 t371 w _ ?side1 ?side2 ?side3 ?side4 ?side5 A7.out).mono ?_); (case side1 => repeat (first | (with_reducible first | exact HI354.out | apply IsS69.alloc | apply IsS69.drewN | apply IsS69.drew | apply IsS69.set_1 | apply IsS69.set_2) | exact HI354.out)); (case side2 => repeat (first | (with_reducible first | exact HB.out | apply M.ba | apply M.pd | apply below_drew1 | refine below_set ?_ (IsS69.ge HI354.out)) | exact HB.out)); (case side3 => exact M.Lc (Kd.R_reads' HO368.out).2.2); (case side4 => exact (Kd.R_reads' HO368.out).2.1); (case side5 => exact far_slice (IsS69.own_ne HI354.out HO368.out (by decide))); rintro e w15 ⟨rfl, hi, hb, hk⟩; refine ⟨_, rfl, ?_⟩; have n0_ := M.A_ (Kd.R_mono (Kd.R_keep (IsS69.apart (show IsS69 w _ g354 t351 t364 t365 from by repeat (first | (with_reducible first | exact HI354.out | apply IsS69.alloc | apply IsS69.drewN | apply IsS69.drew | apply IsS69.set_1 | apply IsS69.set_2) | exact HI354.out)) (M.Lr HO360) (by decide)) hk (fun _ h => h.2)) (fun _ h => h.1)); have n1_ := M.A_ (Kd.R_mono (Kd.R_keep (IsS69.apart (show IsS69 w _ g354 t351 t364 t365 from by repeat (first | (with_reducible first | exact HI354.out | apply IsS69.alloc | apply IsS69.drewN | apply IsS69.drew | apply IsS69.set_1 | apply IsS69.set_2) | exact HI354.out)) (M.Lr HO368) (by decide)) hk (fun _ h => h.2)) (fun _ h => h.1)); have n2_ := M.A_ (hb); have n3_ := M.A_ (hi); clear HO360; clear HO368; clear HB; clear HI354; have HO360 := n0_; have HO368 := n1_; have HB := n2_; have HI354 := n3_; clear n0_ n1_ n2_ n3_; (try clear hb); (try clear hb2); (try clear hk); (try clear hi)))
  go_ret2
  exact ⟨_, by first | rfl | (simp [*, errW_none, errW_some] <;> rfl), by (with_reducible repeat (first | apply Kd.R_alloc | apply Kd.R_drewN | apply Kd.R_drew)); exact Kd.R_mono HO360.out (fun _ hk => trivial), by repeat (first | (with_reducible first | exact HB.out | apply M.ba | apply M.pd | apply below_drew1 | refine below_set ?_ (IsS69.ge HI354.out)) | exact HB.out)⟩
 ·replace c6 := Bool.eq_false_iff.mpr c6
  subst c6
  rw [if_neg (show ¬ (false = true) by decide)] at H; (try dsimp only at H)
  simp only [Option.some.injEq, Prod.mk.injEq] at H
  obtain ⟨rfl, rfl⟩ := H
  go_enter Try.func60, Try.ntmps60
  go_wp2_with (first | ((with_reducible refine gate_callee (f := 34) rfl ?_); refine goesL_ (some 8) rfl rfl Try.func34 (by kernel_rfl) rfl #[.slice A0 l0.length c0] rfl (by first | rfl | (simp only [M.mt, M.mc, M.mn, M.ld, M.lt]; rfl)) ?_; (with_reducible refine (spec_l1New.calls k _ _ l0 t351 t352 t353 w _ ?side1 ?side2 ?side3 A2.out).mono ?_); (case side1 => repeat (first | (with_reducible first | exact HB.out | apply M.ba | apply M.pd | apply below_drew1) | exact HB.out)); (case side2 => exact HR0.out); (case side3 => exact HC0.out); rintro e w16 ⟨g354, rfl, hi, hb, hb2⟩; refine ⟨_, rfl, ?_⟩; have n0_ := M.A_ (hb); have n1_ := M.A_ (hi); clear HB; have HB := n0_; have HI354 := n1_; clear n0_ n1_; (try clear hb); (try clear hb2); (try clear hk); (try clear hi)) | ((with_reducible refine gate_callee (f := 37) rfl ?_); refine goesL_ (some 10) rfl rfl Try.func37 (by kernel_rfl) rfl #[.pointer (some ⟨g354, 0, none⟩), .int .i64 6] rfl (by first | rfl | (simp only [M.mt, M.mc, M.mn, M.ld, M.lt]; rfl)) ?_; (with_reducible refine (spec_l1Below.calls g354 t351 t352 t353 6 t355 t356 t357 w _ ?side1 ?side2 A3.out).mono ?_); (case side1 => repeat (first | (with_reducible first | exact HI354.out | apply IsS69.alloc | apply IsS69.drewN | apply IsS69.drew | apply IsS69.set_1 | apply IsS69.set_2) | exact HI354.out)); (case side2 => repeat (first | (with_reducible first | exact HB.out | apply M.ba | apply M.pd | apply below_drew1 | refine below_set ?_ (IsS69.ge HI354.out)) | exact HB.out)); rintro e w17 ⟨rfl, hi, hb, hk⟩; refine ⟨_, rfl, ?_⟩; have n0_ := M.A_ (hb); have n1_ := M.A_ (hi); clear HB; clear HI354; have HB := n0_; have HI354 := n1_; clear n0_ n1_; (try clear hb); (try clear hb2); (try clear hk); (try clear hi)) | ((with_reducible refine gate_callee (f := 36) rfl ?_); refine goesL_ (some 13) rfl rfl Try.func36 (by kernel_rfl) rfl #[.pointer (some ⟨g354, 0, none⟩), .int .i64 t355] rfl (by first | rfl | (simp only [M.mt, M.mc, M.mn, M.ld, M.lt]; rfl)) ?_; (with_reducible refine (spec_l27Draw.calls k g354 t351 t356 t357 t355 t358 t361 t362 w _ ?side1 ?side2 A4.out).mono ?_); (case side1 => repeat (first | (with_reducible first | exact HI354.out | apply IsS69.alloc | apply IsS69.drewN | apply IsS69.drew | apply IsS69.set_1 | apply IsS69.set_2) | exact HI354.out)); (case side2 => repeat (first | (with_reducible first | exact HB.out | apply M.ba | apply M.pd | apply below_drew1 | refine below_set ?_ (IsS69.ge HI354.out)) | exact HB.out)); rintro e w18 ⟨v359, rfl, ho0, hi, hb, hk⟩; refine ⟨_, rfl, ?_⟩; have n0_ := M.A_ (Kd.R_lower ho0 (below_size (by repeat (first | (with_reducible first | exact HB.out | apply M.ba | apply M.pd | apply below_drew1 | refine below_set ?_ (IsS69.ge HI354.out)) | exact HB.out)))); have n1_ := M.A_ (hb); have n2_ := M.A_ (hi); clear HB; clear HI354; have HO360 := n0_; have HB := n1_; have HI354 := n2_; clear n0_ n1_ n2_; (try clear hb); (try clear hb2); (try clear hk); (try clear hi); (try clear ho0)) | ((with_reducible refine gate_callee (f := 66) rfl ?_); refine goesL_ (some 15) rfl rfl Try.func66 (by kernel_rfl) rfl #[.pointer (some ⟨g354, 0, none⟩), .int .i64 12] rfl (by first | rfl | (simp only [M.mt, M.mc, M.mn, M.ld, M.lt]; rfl)) ?_; (with_reducible refine (spec_l1Once.calls g354 t351 t361 t362 12 false t364 t365 w _ ?side1 ?side2 A5.out).mono ?_); (case side1 => repeat (first | (with_reducible first | exact HI354.out | apply IsS69.alloc | apply IsS69.drewN | apply IsS69.drew | apply IsS69.set_1 | apply IsS69.set_2) | exact HI354.out)); (case side2 => repeat (first | (with_reducible first | exact HB.out | apply M.ba | apply M.pd | apply below_drew1 | refine below_set ?_ (IsS69.ge HI354.out)) | exact HB.out)); rintro e w19 ⟨rfl, hi, hb, hk⟩; refine ⟨_, rfl, ?_⟩; have n0_ := M.A_ (Kd.R_mono (Kd.R_keep (IsS69.apart (show IsS69 w _ g354 t351 t361 t362 from by repeat (first | (with_reducible first | exact HI354.out | apply IsS69.alloc | apply IsS69.drewN | apply IsS69.drew | apply IsS69.set_1 | apply IsS69.set_2) | exact HI354.out)) (M.Lr HO360) (by decide)) hk (fun _ h => h.2)) (fun _ h => h.1)); have n1_ := M.A_ (hb); have n2_ := M.A_ (hi); clear HO360; clear HB; clear HI354; have HO360 := n0_; have HB := n1_; have HI354 := n2_; clear n0_ n1_ n2_; (try clear hb); (try clear hb2); (try clear hk); (try clear hi)))
  go_ret2
  exact ⟨_, by first | rfl | (simp [*, errW_none, errW_some] <;> rfl), by (with_reducible repeat (first | apply Kd.R_alloc | apply Kd.R_drewN | apply Kd.R_drew)); exact HO360.out, by repeat (first | (with_reducible first | exact HB.out | apply M.ba | apply M.pd | apply below_drew1 | refine below_set ?_ (IsS69.ge HI354.out)) | exact HB.out)⟩
def spec_DrawInverseMap.f (k : Nat) (l0 : List Int) : Option (Int × List Int) := (spec_l27Both.f k l0).bind fun bt372 => (some (bt372.1, bt372.2))
theorem spec_DrawInverseMap.calls (k : Nat) (A0 : Option Addr) (c0 : Nat) (l0 : List Int) (r1 : Int) (r2 : List Int) (w : World) (hr0 : Kd.C (Kd.int .u8) w A0 l0.length l0) (hc0 : l0.length ≤ c0) (h : spec_DrawInverseMap.f k l0 = some (r1, r2)) :
  Calls Try.prog 23 #[.slice A0 l0.length c0] w fun e w' => ∃ v1_ : Value, e = .returned (.tuple #[.int .i64 r1, v1_]) ∧ Kd.R (Kd.int .i64) 3 w' w.heap.size (fun _ => True) v1_ r2 ∧ Below w.heap.size w w' := by
 have HR0 := M.A_ hr0; have HC0 := M.A_ hc0; clear hr0 hc0
 have HB := M.A_ (Below.refl w.heap.size w)
 have H : ((spec_l27Both.f k l0).bind fun bt372 => (some (bt372.1, bt372.2))) = some (r1, r2) := h
 clear h; replace H := Option.bind_eq_some_iff.mp H; obtain ⟨⟨t372, t373⟩, A20, H⟩ := H
 replace H : (some (t372, t373)) = some (r1, r2) := H
 have A2 := M.A_ A20; clear A20
 simp only [Option.some.injEq, Prod.mk.injEq] at H
 obtain ⟨rfl, rfl⟩ := H
 go_enter Try.func23, Try.ntmps23
 go_wp2_with (first | ((with_reducible refine gate_callee (f := 60) rfl ?_); refine goesL_ (some 8) rfl rfl Try.func60 (by kernel_rfl) rfl #[.slice A0 l0.length c0] rfl (by first | rfl | (simp only [M.mt, M.mc, M.mn, M.ld, M.lt]; rfl)) ?_; (with_reducible refine (spec_l27Both.calls k _ _ l0 t372 t373 _ ?side1 ?side2 A2.out).mono ?_); (case side1 => exact M.Lc HR0.out); (case side2 => exact HC0.out); rintro e w3 ⟨v374, rfl, ho0, hb⟩; refine ⟨_, rfl, ?_⟩; have n0_ := M.A_ (Kd.R_lower ho0 (below_size (M.Lw HB))); have n1_ := M.A_ (below_step (M.Lw HB) hb); clear HB; have HO375 := n0_; have HB := n1_; clear n0_ n1_; (try clear hb); (try clear hb2); (try clear hk); (try clear hi); (try clear ho0)))
 go_ret2
 exact ⟨_, by first | rfl | (simp [*, errW_none, errW_some] <;> rfl), by (with_reducible repeat (first | apply Kd.R_alloc | apply Kd.R_drewN | apply Kd.R_drew)); exact HO375.out, M.Lw HB⟩
mutual
def spec_InverseMap.l0 : Nat → Int → List Int → List Int → Int → Option (List Int × Bool)
 | 0, _, _, _, _ => none
 | k + 1, x0, x1, x6, x7 => if x7 < x0 then (spec_InverseMap.l1 k x0 x1 x6 x7 0) else (some (x6, true))
def spec_InverseMap.l1 : Nat → Int → List Int → List Int → Int → Int → Option (List Int × Bool)
 | 0, _, _, _, _, _ => none
 | k + 1, x0, x1, x6, x7, x8 => if 0 ≤ x0 then (if x8 < (shl .i64 1 x0) then ((spec_l27Apply.f k x1 x8).bind fun t380 => (if 0 ≤ x7 then (if t380 = (shl .i64 1 x7) then (if x6.length < 17592186044416 then (spec_InverseMap.l1 k x0 x1 (x6 ++ [x8]) x7 (wrap64 (x8 + 1))) else (none)) else (spec_InverseMap.l1 k x0 x1 x6 x7 (wrap64 (x8 + 1)))) else (none))) else (spec_InverseMap.l0 k x0 x1 x6 (wrap64 (x7 + 1)))) else (none)
end
def spec_InverseMap.f (k : Nat) (a0 : Int) (l1 : List Int) : Option (List Int × Bool) := (some (([] : List Int) : List Int)).bind fun y376 => ((spec_IsInvertible.f k a0 l1).bind fun t379 => (if t379 = true then (spec_InverseMap.l0 k a0 l1 y376 0) else (some (y376, false))))
theorem spec_InverseMap.calls (k : Nat) (a0 : Int) (A1 : Option Addr) (c1 : Nat) (l1 : List Int) (r1 : List Int) (r2 : Bool) (w : World) (hr1 : Kd.C (Kd.int .i64) w A1 l1.length l1) (hc1 : l1.length ≤ c1) (h : spec_InverseMap.f k a0 l1 = some (r1, r2)) :
  Calls Try.prog 24 #[.int .i64 a0, .slice A1 l1.length c1] w fun e w' => ∃ v0_ : Value, e = .returned (.tuple #[v0_, .bool r2]) ∧ Kd.R (Kd.int .i64) 3 w' w.heap.size (fun _ => True) v0_ r1 ∧ Below w.heap.size w w' := by
 have HR1 := M.A_ hr1; have HC1 := M.A_ hc1; clear hr1 hc1
 have HB := M.A_ (Below.refl w.heap.size w)
 unfold spec_InverseMap.f at h; have H := h
 clear h
 obtain ⟨y376, hy376⟩ : ∃ y_ : List Int, y_ = (([] : List Int)) := ⟨_, rfl⟩
 replace H : ((spec_IsInvertible.f k a0 l1).bind fun t379 => (if t379 = true then (spec_InverseMap.l0 k a0 l1 y376 0) else (some (y376, false)))) = some (r1, r2) := by first | (rw [hy376]; with_reducible exact H) | (have H2_ := (Option.bind_some _ _).symm.trans H; rw [hy376]; with_reducible exact H2_) | (have H2_ := (Option.bind_some _ _).symm.trans H; with_reducible exact H2_) | with_reducible exact H | (rw [hy376]; exact H) | exact H
 have Ny376 := M.A_ hy376; clear hy376; replace H := Option.bind_eq_some_iff.mp H; obtain ⟨t379, A30, H⟩ := H
 replace H : (if t379 = true then (spec_InverseMap.l0 k a0 l1 y376 0) else (some (y376, false))) = some (r1, r2) := H
 have A3 := M.A_ A30; clear A30
 by_cases c4 : t379 = true
 ·subst c4
  rw [if_pos rfl] at H; (try dsimp only at H)
  have H' := M.A_ H
  clear H
  go_enter Try.func24, Try.ntmps24
  go_wp2_with (first | ((with_reducible refine gate_dst (N := 9) rfl ?_); refine Kd.R_lit (Kd.int .i64) _ 3 ?hg (N := 9) ?hd (xs := ([] : List Int)) (inner := []) (ok := fun _ => True) (okp := fun _ => True) ?hr ?hp (fun _ hk => hk) trivial (Below.refl _ _) (Nat.le_refl _) (by simp) ?_; (case hd => rfl); (case hg => rfl); (case hr => first | (go_simp; done) | (go_simp; rfl)); (case hp => exact (Reps.none _ _)); intro v377 w5 ho6 hb hg_ hnew_; clear hg_ hnew_; (first | rw [← Ny376.out] at ho6 | (simp only [Int.reduceToNat] at ho6; rw [← Ny376.out] at ho6)); have n0_ := M.A_ (Kd.R_lower ho6 (below_size (M.Lw HB))); have n1_ := M.A_ (below_step (M.Lw HB) hb); clear HB; have HO378 := n0_; have HB := n1_; clear n0_ n1_; clear hb ho6) | (go_at_call 30; (with_reducible refine (spec_IsInvertible.calls k a0 _ _ l1 true _ ?side1 ?side2 A3.out).mono ?_); (case side1 => exact M.Lc (Kd.C_below HR1.out HB.out)); (case side2 => exact HC1.out); rintro e w7 ⟨rfl, hb⟩; have n0_ := M.A_ (Kd.R_below (M.Lr HO378) hb); have n1_ := M.A_ (below_step (M.Lw HB) hb); clear HO378; clear HB; have HO378 := n0_; have HB := n1_; clear n0_ n1_; (try clear hb); (try clear hb2); (try clear hk); (try clear hi)))
  repeat (go_quiet (first | ((with_reducible refine gate_dst (N := 9) rfl ?_); refine Kd.R_lit (Kd.int .i64) _ 3 ?hg (N := 9) ?hd (xs := ([] : List Int)) (inner := []) (ok := fun _ => True) (okp := fun _ => True) ?hr ?hp (fun _ hk => hk) trivial (Below.refl _ _) (Nat.le_refl _) (by simp) ?_; (case hd => rfl); (case hg => rfl); (case hr => first | (go_simp; done) | (go_simp; rfl)); (case hp => exact (Reps.none _ _)); intro v377 w5 ho6 hb hg_ hnew_; clear hg_ hnew_; (first | rw [← Ny376.out] at ho6 | (simp only [Int.reduceToNat] at ho6; rw [← Ny376.out] at ho6)); have n0_ := M.A_ (Kd.R_lower ho6 (below_size (M.Lw HB))); have n1_ := M.A_ (below_step (M.Lw HB) hb); clear HB; have HO378 := n0_; have HB := n1_; clear n0_ n1_; clear hb ho6) | (go_at_call 30; (with_reducible refine (spec_IsInvertible.calls k a0 _ _ l1 true _ ?side1 ?side2 A3.out).mono ?_); (case side1 => exact M.Lc (Kd.C_below HR1.out HB.out)); (case side2 => exact HC1.out); rintro e w7 ⟨rfl, hb⟩; have n0_ := M.A_ (Kd.R_below (M.Lr HO378) hb); have n1_ := M.A_ (below_step (M.Lw HB) hb); clear HO378; clear HB; have HO378 := n0_; have HB := n1_; clear n0_ n1_; (try clear hb); (try clear hb2); (try clear hk); (try clear hi))); try go_wp2_with (first | ((with_reducible refine gate_dst (N := 9) rfl ?_); refine Kd.R_lit (Kd.int .i64) _ 3 ?hg (N := 9) ?hd (xs := ([] : List Int)) (inner := []) (ok := fun _ => True) (okp := fun _ => True) ?hr ?hp (fun _ hk => hk) trivial (Below.refl _ _) (Nat.le_refl _) (by simp) ?_; (case hd => rfl); (case hg => rfl); (case hr => first | (go_simp; done) | (go_simp; rfl)); (case hp => exact (Reps.none _ _)); intro v377 w5 ho6 hb hg_ hnew_; clear hg_ hnew_; (first | rw [← Ny376.out] at ho6 | (simp only [Int.reduceToNat] at ho6; rw [← Ny376.out] at ho6)); have n0_ := M.A_ (Kd.R_lower ho6 (below_size (M.Lw HB))); have n1_ := M.A_ (below_step (M.Lw HB) hb); clear HB; have HO378 := n0_; have HB := n1_; clear n0_ n1_; clear hb ho6) | (go_at_call 30; (with_reducible refine (spec_IsInvertible.calls k a0 _ _ l1 true _ ?side1 ?side2 A3.out).mono ?_); (case side1 => exact M.Lc (Kd.C_below HR1.out HB.out)); (case side2 => exact HC1.out); rintro e w7 ⟨rfl, hb⟩; have n0_ := M.A_ (Kd.R_below (M.Lr HO378) hb); have n1_ := M.A_ (below_step (M.Lw HB) hb); clear HO378; clear HB; have HO378 := n0_; have HB := n1_; clear n0_ n1_; (try clear hb); (try clear hb2); (try clear hk); (try clear hi))))
  go_loopg [6, 7] k (fun kq v6 v7 w' => ∃ (x6_1 : List Int) (x7_1 : Int), v7 = .int .i64 x7_1 ∧ Aside0 (spec_InverseMap.l0 kq a0 l1 x6_1 x7_1 = some (r1, r2)) ∧ Aside0 (kq ≤ k) ∧ Aside0 (Kd.R (Kd.int .i64) 3 w' w.heap.size (fun _ => True) v6 x6_1) ∧ Aside0 (Below w.heap.size w w'))
  case atStart => exact ⟨(y376), (0), (by first | rfl | (simp; done) | (simp [*]; done)), H', ⟨Nat.le_refl _⟩, ⟨M.Lr HO378⟩, ⟨M.Lw HB⟩⟩
  case round =>
   clear H'; (try clear c1); (try clear c2); (try clear p2); (try clear c4); obtain ⟨x6_1, x7_1, rfl, HA, HK1, HO_6, HB⟩ := hrel
   cases gk with
   | zero => exact absurd HA.out (by simp [spec_InverseMap.l0])
   | succ k1 =>
    have H := HA.out
    clear HA
    simp only [spec_InverseMap.l0] at H
    by_cases c8 : x7_1 < a0
    ·rw [if_pos c8] at H
     have c8b0 : decide (x7_1 < a0) = true := decide_eq_true c8
     clear c8
     have H' := M.A_ H
     clear H
     go_wp2
     repeat (go_quiet (fail); try go_wp2)
     go_loopg [6, 8] k1 (fun kq v6 v8 w' => ∃ (x6_2 : List Int) (x8_2 : Int), v8 = .int .i64 x8_2 ∧ Aside0 (spec_InverseMap.l1 kq a0 l1 x6_2 x7_1 x8_2 = some (r1, r2)) ∧ Aside0 (kq ≤ k1) ∧ Aside0 (Kd.R (Kd.int .i64) 3 w' w.heap.size (fun _ => True) v6 x6_2) ∧ Aside0 (Below w.heap.size w w'))
     case atStart => exact ⟨(x6_1), (0), (by first | rfl | (simp; done) | (simp [*]; done)), H', ⟨Nat.le_refl _⟩, ⟨M.Lr HO_6⟩, ⟨M.Lw HB⟩⟩
     case round =>
      clear H'; (try clear c1); (try clear c2); (try clear p2); (try clear c4); (try clear c8); (try clear c8b0); (try clear p2); obtain ⟨x6_2, x8_2, rfl, HA, HK2, HO_6, HB⟩ := hrel
      cases gk with
      | zero => exact absurd HA.out (by simp [spec_InverseMap.l1])
      | succ k2 =>
       have H := HA.out
       clear HA
       simp only [spec_InverseMap.l1] at H
       by_cases c9 : 0 ≤ a0
       ·rw [if_pos c9] at H
        have c9b0 := eq_true c9
        have c9b1 : decide (0 ≤ a0) = true := decide_eq_true c9
        clear c9
        obtain ⟨ji10, hji10⟩ : ∃ j_ : Int, (shl .i64 1 a0) = j_ := ⟨_, rfl⟩
        replace H : (if x8_2 < (ji10) then ((spec_l27Apply.f k2 l1 x8_2).bind fun t380 => (if 0 ≤ x7_1 then (if t380 = (shl .i64 1 x7_1) then (if x6_2.length < 17592186044416 then (spec_InverseMap.l1 k2 a0 l1 (x6_2 ++ [x8_2]) x7_1 (wrap64 (x8_2 + 1))) else (none)) else (spec_InverseMap.l1 k2 a0 l1 x6_2 x7_1 (wrap64 (x8_2 + 1)))) else (none))) else (spec_InverseMap.l0 k2 a0 l1 x6_2 (wrap64 (x7_1 + 1)))) = some (r1, r2) := by first | (rw [hji10] at H; exact H) | (simp only [hji10] at H ⊢; exact H)
        have hji10_ : (IntKind.i64.wrap (1 * 2 ^ min a0.toNat 64)) = ji10 := hji10
        have hji10z : a0 ≤ 64 → (IntKind.i64.wrap (1 * 2 ^ a0.toNat)) = ji10 := shl_small hji10
        have hji10u : (IntKind.i64.wrap (2 ^ min a0.toNat 64)) = ji10 := by have h_ := hji10_; rw [Int.one_mul] at h_; exact h_
        have hji10v : a0 ≤ 64 → (IntKind.i64.wrap (2 ^ a0.toNat)) = ji10 := fun hle_ => by have h_ := hji10z hle_; rw [Int.one_mul] at h_; exact h_
        have hji10y : (wrap64 (1 * 2 ^ min a0.toNat 64)) = ji10 := (i64_w _).symm.trans hji10_
        have hji10x : a0 ≤ 64 → (wrap64 (1 * 2 ^ a0.toNat)) = ji10 := fun h_ => (i64_w _).symm.trans (hji10z h_)
        by_cases c11 : x8_2 < (ji10)
        ·rw [if_pos c11] at H
         have c11b0 : decide (x8_2 < (ji10)) = true := decide_eq_true c11
         clear c11; obtain ⟨t380, A12, H⟩ := M.ob_ H; (try dsimp only at H)
         by_cases c13 : 0 ≤ x7_1
         ·rw [if_pos c13] at H
          have c13b0 := eq_true c13
          have c13b1 : decide (0 ≤ x7_1) = true := decide_eq_true c13
          clear c13
          obtain ⟨ji14, hji14⟩ : ∃ j_ : Int, (shl .i64 1 x7_1) = j_ := ⟨_, rfl⟩
          replace H : (if t380 = (ji14) then (if x6_2.length < 17592186044416 then (spec_InverseMap.l1 k2 a0 l1 (x6_2 ++ [x8_2]) x7_1 (wrap64 (x8_2 + 1))) else (none)) else (spec_InverseMap.l1 k2 a0 l1 x6_2 x7_1 (wrap64 (x8_2 + 1)))) = some (r1, r2) := by first | (rw [hji14] at H; exact H) | (simp only [hji14] at H ⊢; exact H)
          (try rw [hji14] at A12)
          have hji14_ : (IntKind.i64.wrap (1 * 2 ^ min x7_1.toNat 64)) = ji14 := hji14
          have hji14z : x7_1 ≤ 64 → (IntKind.i64.wrap (1 * 2 ^ x7_1.toNat)) = ji14 := shl_small hji14
          have hji14u : (IntKind.i64.wrap (2 ^ min x7_1.toNat 64)) = ji14 := by have h_ := hji14_; rw [Int.one_mul] at h_; exact h_
          have hji14v : x7_1 ≤ 64 → (IntKind.i64.wrap (2 ^ x7_1.toNat)) = ji14 := fun hle_ => by have h_ := hji14z hle_; rw [Int.one_mul] at h_; exact h_
          have hji14y : (wrap64 (1 * 2 ^ min x7_1.toNat 64)) = ji14 := (i64_w _).symm.trans hji14_
          have hji14x : x7_1 ≤ 64 → (wrap64 (1 * 2 ^ x7_1.toNat)) = ji14 := fun h_ => (i64_w _).symm.trans (hji14z h_)
          by_cases c15 : t380 = (ji14)
          ·rw [if_pos c15] at H
           have c15b0 : (t380 == (ji14)) = true := beq_iff_eq.mpr c15
           have c15b1 : (t380 != (ji14)) = false := bne_eq_false_iff_eq.mpr c15
           clear c15
           by_cases c16 : x6_2.length < 17592186044416
           ·rw [if_pos c16] at H; have LMc16 := M.A_ c16; clear c16
            obtain ⟨y381, hy381⟩ : ∃ y_ : List Int, y_ = (x6_2 ++ [x8_2]) := ⟨_, rfl⟩
            replace H : (spec_InverseMap.l1 k2 a0 l1 y381 x7_1 (wrap64 (x8_2 + 1))) = some (r1, r2) := by first | (rw [hy381]; with_reducible exact H) | (have H2_ := (Option.bind_some _ _).symm.trans H; rw [hy381]; with_reducible exact H2_) | (have H2_ := (Option.bind_some _ _).symm.trans H; with_reducible exact H2_) | with_reducible exact H | (rw [hy381]; exact H) | exact H
            have Ny381 := M.A_ hy381; clear hy381
            have H' := M.A_ H
            clear H
            go_wp2_with (first | (go_at_call 45; (with_reducible refine (spec_l27Apply.calls k2 _ _ l1 x8_2 t380 _ ?side1 ?side2 A12.out).mono ?_); (case side1 => exact M.Lc (Kd.C_below HR1.out HB.out)); (case side2 => exact HC1.out); rintro e w' ⟨rfl, ⟨nd, rfl⟩⟩; (try first | exact ⟨rfl, _, World.drewN_drewN _ _ _⟩ | exact ⟨rfl, _, Eq.trans (World.drewN_drewN _ _ _) (congrArg (World.drewN _) (Nat.add_assoc _ _ _))⟩)) | ((with_reducible refine gate_builtin (b := .append) (xs := #[.tmp 32, .tmp 34]) rfl ?_); at_builtin; refine Kd.R_append (Kd.int .i64) (w0 := w) w.heap.size rfl (.tmp 32) (.tmp 34) 26 3 (.int .i64 0) 8 rfl Try.underlying26 info3 rfl (by decide) (by omega) u6 x6_2 x8_2 [.int .i64 x8_2] (fun _ => True) (fun _ => False) rfl rfl ?aP (fun _ hk => hk.elim) ?aF ?aO ?aB ?aS ?aL ?_; (case aP => exact rfl); (case aB => exact (M.Lw HB)); (case aF => exact (fun _ _ => trivial)); (case aO => exact (M.Lr HO_6)); (case aS => exact (below_size (M.Lw HB))); (case aL => have := LMc16.out; omega); intro v382 w17 ho hb hg hat; rw [← Ny381.out] at ho; have n0_ := M.A_ (hb); have n1_ := M.A_ (ho); clear HB; clear HO_6; have HB := n0_; have HO383 := n1_; clear n0_ n1_; clear ho hb hg hat))
            repeat (go_quiet (first | (go_at_call 45; (with_reducible refine (spec_l27Apply.calls k2 _ _ l1 x8_2 t380 _ ?side1 ?side2 A12.out).mono ?_); (case side1 => exact M.Lc (Kd.C_below HR1.out HB.out)); (case side2 => exact HC1.out); rintro e w' ⟨rfl, ⟨nd, rfl⟩⟩; (try first | exact ⟨rfl, _, World.drewN_drewN _ _ _⟩ | exact ⟨rfl, _, Eq.trans (World.drewN_drewN _ _ _) (congrArg (World.drewN _) (Nat.add_assoc _ _ _))⟩)) | ((with_reducible refine gate_builtin (b := .append) (xs := #[.tmp 32, .tmp 34]) rfl ?_); at_builtin; refine Kd.R_append (Kd.int .i64) (w0 := w) w.heap.size rfl (.tmp 32) (.tmp 34) 26 3 (.int .i64 0) 8 rfl Try.underlying26 info3 rfl (by decide) (by omega) u6 x6_2 x8_2 [.int .i64 x8_2] (fun _ => True) (fun _ => False) rfl rfl ?aP (fun _ hk => hk.elim) ?aF ?aO ?aB ?aS ?aL ?_; (case aP => exact rfl); (case aB => exact (M.Lw HB)); (case aF => exact (fun _ _ => trivial)); (case aO => exact (M.Lr HO_6)); (case aS => exact (below_size (M.Lw HB))); (case aL => have := LMc16.out; omega); intro v382 w17 ho hb hg hat; rw [← Ny381.out] at ho; have n0_ := M.A_ (hb); have n1_ := M.A_ (ho); clear HB; clear HO_6; have HB := n0_; have HO383 := n1_; clear n0_ n1_; clear ho hb hg hat)); try go_wp2_with (first | (go_at_call 45; (with_reducible refine (spec_l27Apply.calls k2 _ _ l1 x8_2 t380 _ ?side1 ?side2 A12.out).mono ?_); (case side1 => exact M.Lc (Kd.C_below HR1.out HB.out)); (case side2 => exact HC1.out); rintro e w' ⟨rfl, ⟨nd, rfl⟩⟩; (try first | exact ⟨rfl, _, World.drewN_drewN _ _ _⟩ | exact ⟨rfl, _, Eq.trans (World.drewN_drewN _ _ _) (congrArg (World.drewN _) (Nat.add_assoc _ _ _))⟩)) | ((with_reducible refine gate_builtin (b := .append) (xs := #[.tmp 32, .tmp 34]) rfl ?_); at_builtin; refine Kd.R_append (Kd.int .i64) (w0 := w) w.heap.size rfl (.tmp 32) (.tmp 34) 26 3 (.int .i64 0) 8 rfl Try.underlying26 info3 rfl (by decide) (by omega) u6 x6_2 x8_2 [.int .i64 x8_2] (fun _ => True) (fun _ => False) rfl rfl ?aP (fun _ hk => hk.elim) ?aF ?aO ?aB ?aS ?aL ?_; (case aP => exact rfl); (case aB => exact (M.Lw HB)); (case aF => exact (fun _ _ => trivial)); (case aO => exact (M.Lr HO_6)); (case aS => exact (below_size (M.Lw HB))); (case aL => have := LMc16.out; omega); intro v382 w17 ho hb hg hat; rw [← Ny381.out] at ho; have n0_ := M.A_ (hb); have n1_ := M.A_ (ho); clear HB; clear HO_6; have HB := n0_; have HO383 := n1_; clear n0_ n1_; clear ho hb hg hat)))
            go_roundg k2
            case measure => have := HK1.out; have := HK2.out; omega
            case rel => exact ⟨(y381), (wrap64 (x8_2 + 1)), (by first | rfl | (simp; done) | (simp [*]; done)), H', ⟨by have := HK1.out; have := HK2.out; omega⟩, ⟨M.Lr HO383⟩, ⟨M.Lw HB⟩⟩
           ·rw [if_neg c16] at H
            exact absurd H (by simp)
          ·rw [if_neg c15] at H
           have c15b0 : (t380 == (ji14)) = false := beq_eq_false_iff_ne.mpr c15
           have c15b1 : (t380 != (ji14)) = true := bne_iff_ne.mpr c15
           have H' := M.A_ H
           clear H
           go_wp2_with (first | (go_at_call 45; (with_reducible refine (spec_l27Apply.calls k2 _ _ l1 x8_2 t380 _ ?side1 ?side2 A12.out).mono ?_); (case side1 => exact M.Lc (Kd.C_below HR1.out HB.out)); (case side2 => exact HC1.out); rintro e w' ⟨rfl, ⟨nd, rfl⟩⟩; (try first | exact ⟨rfl, _, World.drewN_drewN _ _ _⟩ | exact ⟨rfl, _, Eq.trans (World.drewN_drewN _ _ _) (congrArg (World.drewN _) (Nat.add_assoc _ _ _))⟩)))
           repeat (go_quiet (first | (go_at_call 45; (with_reducible refine (spec_l27Apply.calls k2 _ _ l1 x8_2 t380 _ ?side1 ?side2 A12.out).mono ?_); (case side1 => exact M.Lc (Kd.C_below HR1.out HB.out)); (case side2 => exact HC1.out); rintro e w' ⟨rfl, ⟨nd, rfl⟩⟩; (try first | exact ⟨rfl, _, World.drewN_drewN _ _ _⟩ | exact ⟨rfl, _, Eq.trans (World.drewN_drewN _ _ _) (congrArg (World.drewN _) (Nat.add_assoc _ _ _))⟩))); try go_wp2_with (first | (go_at_call 45; (with_reducible refine (spec_l27Apply.calls k2 _ _ l1 x8_2 t380 _ ?side1 ?side2 A12.out).mono ?_); (case side1 => exact M.Lc (Kd.C_below HR1.out HB.out)); (case side2 => exact HC1.out); rintro e w' ⟨rfl, ⟨nd, rfl⟩⟩; (try first | exact ⟨rfl, _, World.drewN_drewN _ _ _⟩ | exact ⟨rfl, _, Eq.trans (World.drewN_drewN _ _ _) (congrArg (World.drewN _) (Nat.add_assoc _ _ _))⟩))))
           go_roundg k2
           case measure => have := HK1.out; have := HK2.out; omega
           case rel => exact ⟨(x6_2), (wrap64 (x8_2 + 1)), (by first | rfl | (simp; done) | (simp [*]; done)), H', ⟨by have := HK1.out; have := HK2.out; omega⟩, ⟨M.Lr HO_6⟩, ⟨M.Lw HB⟩⟩
         ·rw [if_neg c13] at H
          exact absurd H (by simp)
        ·rw [if_neg c11] at H
         have c11b0 : decide (x8_2 < (ji10)) = false := decide_eq_false c11
         clear c11
         have H' := M.A_ H
         clear H
         go_wp2
         repeat (go_quiet (fail); try go_wp2)
         go_roundg k2
         case measure => have := HK1.out; have := HK2.out; omega
         case rel => exact ⟨(x6_2), (wrap64 (x7_1 + 1)), (by first | rfl | (simp; done) | (simp [*]; done)), H', ⟨by have := HK1.out; have := HK2.out; omega⟩, ⟨M.Lr HO_6⟩, ⟨M.Lw HB⟩⟩
       ·rw [if_neg c9] at H
        exact absurd H (by simp)
    ·rw [if_neg c8] at H
     have c8b0 : decide (x7_1 < a0) = false := decide_eq_false c8
     clear c8
     simp only [Option.some.injEq, Prod.mk.injEq] at H
     obtain ⟨rfl, rfl⟩ := H
     go_wp2
     repeat (go_quiet (fail); try go_wp2)
     go_ret2
     exact ⟨_, by first | rfl | (simp [*, errW_none, errW_some] <;> rfl), by (with_reducible repeat (first | apply Kd.R_alloc | apply Kd.R_drewN | apply Kd.R_drew)); exact HO_6.out, M.Lw HB⟩
 ·replace c4 := Bool.eq_false_iff.mpr c4
  subst c4
  rw [if_neg (show ¬ (false = true) by decide)] at H; (try dsimp only at H)
  simp only [Option.some.injEq, Prod.mk.injEq] at H
  obtain ⟨rfl, rfl⟩ := H
  go_enter Try.func24, Try.ntmps24
  go_wp2_with (first | ((with_reducible refine gate_dst (N := 9) rfl ?_); refine Kd.R_lit (Kd.int .i64) _ 3 ?hg (N := 9) ?hd (xs := ([] : List Int)) (inner := []) (ok := fun _ => True) (okp := fun _ => True) ?hr ?hp (fun _ hk => hk) trivial (Below.refl _ _) (Nat.le_refl _) (by simp) ?_; (case hd => rfl); (case hg => rfl); (case hr => first | (go_simp; done) | (go_simp; rfl)); (case hp => exact (Reps.none _ _)); intro v377 w18 ho19 hb hg_ hnew_; clear hg_ hnew_; (first | rw [← Ny376.out] at ho19 | (simp only [Int.reduceToNat] at ho19; rw [← Ny376.out] at ho19)); have n0_ := M.A_ (Kd.R_lower ho19 (below_size (M.Lw HB))); have n1_ := M.A_ (below_step (M.Lw HB) hb); clear HB; have HO378 := n0_; have HB := n1_; clear n0_ n1_; clear hb ho19) | (go_at_call 30; (with_reducible refine (spec_IsInvertible.calls k a0 _ _ l1 false _ ?side1 ?side2 A3.out).mono ?_); (case side1 => exact M.Lc (Kd.C_below HR1.out HB.out)); (case side2 => exact HC1.out); rintro e w20 ⟨rfl, hb⟩; have n0_ := M.A_ (Kd.R_below (M.Lr HO378) hb); have n1_ := M.A_ (below_step (M.Lw HB) hb); clear HO378; clear HB; have HO378 := n0_; have HB := n1_; clear n0_ n1_; (try clear hb); (try clear hb2); (try clear hk); (try clear hi)))
  repeat (go_quiet (first | ((with_reducible refine gate_dst (N := 9) rfl ?_); refine Kd.R_lit (Kd.int .i64) _ 3 ?hg (N := 9) ?hd (xs := ([] : List Int)) (inner := []) (ok := fun _ => True) (okp := fun _ => True) ?hr ?hp (fun _ hk => hk) trivial (Below.refl _ _) (Nat.le_refl _) (by simp) ?_; (case hd => rfl); (case hg => rfl); (case hr => first | (go_simp; done) | (go_simp; rfl)); (case hp => exact (Reps.none _ _)); intro v377 w18 ho19 hb hg_ hnew_; clear hg_ hnew_; (first | rw [← Ny376.out] at ho19 | (simp only [Int.reduceToNat] at ho19; rw [← Ny376.out] at ho19)); have n0_ := M.A_ (Kd.R_lower ho19 (below_size (M.Lw HB))); have n1_ := M.A_ (below_step (M.Lw HB) hb); clear HB; have HO378 := n0_; have HB := n1_; clear n0_ n1_; clear hb ho19) | (go_at_call 30; (with_reducible refine (spec_IsInvertible.calls k a0 _ _ l1 false _ ?side1 ?side2 A3.out).mono ?_); (case side1 => exact M.Lc (Kd.C_below HR1.out HB.out)); (case side2 => exact HC1.out); rintro e w20 ⟨rfl, hb⟩; have n0_ := M.A_ (Kd.R_below (M.Lr HO378) hb); have n1_ := M.A_ (below_step (M.Lw HB) hb); clear HO378; clear HB; have HO378 := n0_; have HB := n1_; clear n0_ n1_; (try clear hb); (try clear hb2); (try clear hk); (try clear hi))); try go_wp2_with (first | ((with_reducible refine gate_dst (N := 9) rfl ?_); refine Kd.R_lit (Kd.int .i64) _ 3 ?hg (N := 9) ?hd (xs := ([] : List Int)) (inner := []) (ok := fun _ => True) (okp := fun _ => True) ?hr ?hp (fun _ hk => hk) trivial (Below.refl _ _) (Nat.le_refl _) (by simp) ?_; (case hd => rfl); (case hg => rfl); (case hr => first | (go_simp; done) | (go_simp; rfl)); (case hp => exact (Reps.none _ _)); intro v377 w18 ho19 hb hg_ hnew_; clear hg_ hnew_; (first | rw [← Ny376.out] at ho19 | (simp only [Int.reduceToNat] at ho19; rw [← Ny376.out] at ho19)); have n0_ := M.A_ (Kd.R_lower ho19 (below_size (M.Lw HB))); have n1_ := M.A_ (below_step (M.Lw HB) hb); clear HB; have HO378 := n0_; have HB := n1_; clear n0_ n1_; clear hb ho19) | (go_at_call 30; (with_reducible refine (spec_IsInvertible.calls k a0 _ _ l1 false _ ?side1 ?side2 A3.out).mono ?_); (case side1 => exact M.Lc (Kd.C_below HR1.out HB.out)); (case side2 => exact HC1.out); rintro e w20 ⟨rfl, hb⟩; have n0_ := M.A_ (Kd.R_below (M.Lr HO378) hb); have n1_ := M.A_ (below_step (M.Lw HB) hb); clear HO378; clear HB; have HO378 := n0_; have HB := n1_; clear n0_ n1_; (try clear hb); (try clear hb2); (try clear hk); (try clear hi))))
  go_ret2
  exact ⟨_, by first | rfl | (simp [*, errW_none, errW_some] <;> rfl), by (with_reducible repeat (first | apply Kd.R_alloc | apply Kd.R_drewN | apply Kd.R_drew)); exact HO378.out, M.Lw HB⟩
def spec_DrawMapInput.f (k : Nat) (l0 : List Int) : Option (Int × List Int × Int × Int) := (spec_l27Both.f k l0).bind fun bt384 => ((spec_l1New.f k l0).bind fun bt388 => ((spec_l1Below.f bt388.1 bt388.2.1 bt388.2.2 9).bind fun bt392 => ((spec_l1Below.f bt388.1 bt392.2.1 bt392.2.2 9).bind fun bt395 => (some (bt384.1, bt384.2, wrap64 (bt392.1 - 1), bt395.1)))))
theorem spec_DrawMapInput.calls (k : Nat) (A0 : Option Addr) (c0 : Nat) (l0 : List Int) (r1 : Int) (r2 : List Int) (r3 : Int) (r4 : Int) (w : World) (hr0 : Kd.C (Kd.int .u8) w A0 l0.length l0) (hc0 : l0.length ≤ c0) (h : spec_DrawMapInput.f k l0 = some (r1, r2, r3, r4)) :
  Calls Try.prog 25 #[.slice A0 l0.length c0] w fun e w' => ∃ v1_ : Value, e = .returned (.tuple #[.int .i64 r1, v1_, .int .i64 r3, .int .i64 r4]) ∧ Kd.R (Kd.int .i64) 3 w' w.heap.size (fun _ => True) v1_ r2 ∧ Below w.heap.size w w' := by
 have HR0 := M.A_ hr0; have HC0 := M.A_ hc0; clear hr0 hc0
 have HB := M.A_ (Below.refl w.heap.size w)
 unfold spec_DrawMapInput.f at h; have H := h
 clear h; obtain ⟨⟨t384, t385⟩, A2, H⟩ := M.ob_ H; (try dsimp only at H); obtain ⟨⟨t388, t389, t390⟩, A3, H⟩ := M.ob_ H; (try dsimp only at H); obtain ⟨⟨t392, t393, t394⟩, A4, H⟩ := M.ob_ H; (try dsimp only at H); replace H := Option.bind_eq_some_iff.mp H; obtain ⟨⟨t395, t396, t397⟩, A50, H⟩ := H
 replace H : (some (t384, t385, wrap64 (t392 - 1), t395)) = some (r1, r2, r3, r4) := H
 have A5 := M.A_ A50; clear A50
 simp only [Option.some.injEq, Prod.mk.injEq] at H
 obtain ⟨rfl, rfl, rfl, rfl⟩ := H
 go_enter Try.func25, Try.ntmps25
 go_wp2_with (first | ((with_reducible refine gate_callee (f := 60) rfl ?_); refine goesL_ (some 12) rfl rfl Try.func60 (by kernel_rfl) rfl #[.slice A0 l0.length c0] rfl (by first | rfl | (simp only [M.mt, M.mc, M.mn, M.ld, M.lt]; rfl)) ?_; (with_reducible refine (spec_l27Both.calls k _ _ l0 t384 t385 _ ?side1 ?side2 A2.out).mono ?_); (case side1 => exact M.Lc HR0.out); (case side2 => exact HC0.out); rintro e w6 ⟨v386, rfl, ho0, hb⟩; refine ⟨_, rfl, ?_⟩; have n0_ := M.A_ (Kd.R_lower ho0 (below_size (M.Lw HB))); have n1_ := M.A_ (below_step (M.Lw HB) hb); clear HB; have HO387 := n0_; have HB := n1_; clear n0_ n1_; (try clear hb); (try clear hb2); (try clear hk); (try clear hi); (try clear ho0)) | ((with_reducible refine gate_callee (f := 34) rfl ?_); refine goesL_ (some 16) rfl rfl Try.func34 (by kernel_rfl) rfl #[.slice A0 l0.length c0] rfl (by first | rfl | (simp only [M.mt, M.mc, M.mn, M.ld, M.lt]; rfl)) ?_; (with_reducible refine (spec_l1New.calls k _ _ l0 t388 t389 t390 w _ ?side1 ?side2 ?side3 A3.out).mono ?_); (case side1 => repeat (first | (with_reducible first | exact HB.out | apply M.ba | apply M.pd | apply below_drew1) | exact HB.out)); (case side2 => exact HR0.out); (case side3 => exact HC0.out); rintro e w7 ⟨g391, rfl, hi, hb, hb2⟩; refine ⟨_, rfl, ?_⟩; have n0_ := M.A_ (Kd.R_below (M.Lr HO387) hb2); have n1_ := M.A_ (hb); have n2_ := M.A_ (hi); clear HO387; clear HB; have HO387 := n0_; have HB := n1_; have HI391 := n2_; clear n0_ n1_ n2_; (try clear hb); (try clear hb2); (try clear hk); (try clear hi)) | ((with_reducible refine gate_callee (f := 37) rfl ?_); refine goesL_ (some 18) rfl rfl Try.func37 (by kernel_rfl) rfl #[.pointer (some ⟨g391, 0, none⟩), .int .i64 9] rfl (by first | rfl | (simp only [M.mt, M.mc, M.mn, M.ld, M.lt]; rfl)) ?_; (with_reducible refine (spec_l1Below.calls g391 t388 t389 t390 9 t392 t393 t394 w _ ?side1 ?side2 A4.out).mono ?_); (case side1 => repeat (first | (with_reducible first | exact HI391.out | apply IsS69.alloc | apply IsS69.drewN | apply IsS69.drew | apply IsS69.set_1 | apply IsS69.set_2) | exact HI391.out)); (case side2 => repeat (first | (with_reducible first | exact HB.out | apply M.ba | apply M.pd | apply below_drew1 | refine below_set ?_ (IsS69.ge HI391.out)) | exact HB.out)); rintro e w8 ⟨rfl, hi, hb, hk⟩; refine ⟨_, rfl, ?_⟩; have n0_ := M.A_ (Kd.R_mono (Kd.R_keep (IsS69.apart (show IsS69 w _ g391 t388 t389 t390 from by repeat (first | (with_reducible first | exact HI391.out | apply IsS69.alloc | apply IsS69.drewN | apply IsS69.drew | apply IsS69.set_1 | apply IsS69.set_2) | exact HI391.out)) (M.Lr HO387) (by decide)) hk (fun _ h => h.2)) (fun _ h => h.1)); have n1_ := M.A_ (hb); have n2_ := M.A_ (hi); clear HO387; clear HB; clear HI391; have HO387 := n0_; have HB := n1_; have HI391 := n2_; clear n0_ n1_ n2_; (try clear hb); (try clear hb2); (try clear hk); (try clear hi)) | ((with_reducible refine gate_callee (f := 37) rfl ?_); refine goesL_ (some 24) rfl rfl Try.func37 (by kernel_rfl) rfl #[.pointer (some ⟨g391, 0, none⟩), .int .i64 9] rfl (by first | rfl | (simp only [M.mt, M.mc, M.mn, M.ld, M.lt]; rfl)) ?_; (with_reducible refine (spec_l1Below.calls g391 t388 t393 t394 9 t395 t396 t397 w _ ?side1 ?side2 A5.out).mono ?_); (case side1 => repeat (first | (with_reducible first | exact HI391.out | apply IsS69.alloc | apply IsS69.drewN | apply IsS69.drew | apply IsS69.set_1 | apply IsS69.set_2) | exact HI391.out)); (case side2 => repeat (first | (with_reducible first | exact HB.out | apply M.ba | apply M.pd | apply below_drew1 | refine below_set ?_ (IsS69.ge HI391.out)) | exact HB.out)); rintro e w9 ⟨rfl, hi, hb, hk⟩; refine ⟨_, rfl, ?_⟩; have n0_ := M.A_ (Kd.R_mono (Kd.R_keep (IsS69.apart (show IsS69 w _ g391 t388 t393 t394 from by repeat (first | (with_reducible first | exact HI391.out | apply IsS69.alloc | apply IsS69.drewN | apply IsS69.drew | apply IsS69.set_1 | apply IsS69.set_2) | exact HI391.out)) (M.Lr HO387) (by decide)) hk (fun _ h => h.2)) (fun _ h => h.1)); have n1_ := M.A_ (hb); have n2_ := M.A_ (hi); clear HO387; clear HB; clear HI391; have HO387 := n0_; have HB := n1_; have HI391 := n2_; clear n0_ n1_ n2_; (try clear hb); (try clear hb2); (try clear hk); (try clear hi)))
 refine bodyPost_ret (results_list (rs := [.tmp 2, .tmp 3, .tmp 4, .tmp 5]) rfl (by simp) (.tmp (.tmp (.tmp (.tmp .nil))))) rfl ?_
 exact ⟨_, by first | rfl | (simp [*, errW_none, errW_some] <;> rfl), by (with_reducible repeat (first | apply Kd.R_alloc | apply Kd.R_drewN | apply Kd.R_drew)); exact HO387.out, by repeat (first | (with_reducible first | exact HB.out | apply M.ba | apply M.pd | apply below_drew1 | refine below_set ?_ (IsS69.ge HI391.out)) | exact HB.out)⟩
def spec_DrawIsInvertible.f (k : Nat) (l0 : List Int) : Option (Int × List Int) := (spec_l27Both.f k l0).bind fun bt398 => (some (bt398.1, bt398.2))
theorem spec_DrawIsInvertible.calls (k : Nat) (A0 : Option Addr) (c0 : Nat) (l0 : List Int) (r1 : Int) (r2 : List Int) (w : World) (hr0 : Kd.C (Kd.int .u8) w A0 l0.length l0) (hc0 : l0.length ≤ c0) (h : spec_DrawIsInvertible.f k l0 = some (r1, r2)) :
  Calls Try.prog 26 #[.slice A0 l0.length c0] w fun e w' => ∃ v1_ : Value, e = .returned (.tuple #[.int .i64 r1, v1_]) ∧ Kd.R (Kd.int .i64) 3 w' w.heap.size (fun _ => True) v1_ r2 ∧ Below w.heap.size w w' := by
 have HR0 := M.A_ hr0; have HC0 := M.A_ hc0; clear hr0 hc0
 have HB := M.A_ (Below.refl w.heap.size w)
 have H : ((spec_l27Both.f k l0).bind fun bt398 => (some (bt398.1, bt398.2))) = some (r1, r2) := h
 clear h; replace H := Option.bind_eq_some_iff.mp H; obtain ⟨⟨t398, t399⟩, A20, H⟩ := H
 replace H : (some (t398, t399)) = some (r1, r2) := H
 have A2 := M.A_ A20; clear A20
 simp only [Option.some.injEq, Prod.mk.injEq] at H
 obtain ⟨rfl, rfl⟩ := H
 go_enter Try.func26, Try.ntmps26
 go_wp2_with (first | ((with_reducible refine gate_callee (f := 60) rfl ?_); refine goesL_ (some 8) rfl rfl Try.func60 (by kernel_rfl) rfl #[.slice A0 l0.length c0] rfl (by first | rfl | (simp only [M.mt, M.mc, M.mn, M.ld, M.lt]; rfl)) ?_; (with_reducible refine (spec_l27Both.calls k _ _ l0 t398 t399 _ ?side1 ?side2 A2.out).mono ?_); (case side1 => exact M.Lc HR0.out); (case side2 => exact HC0.out); rintro e w3 ⟨v400, rfl, ho0, hb⟩; refine ⟨_, rfl, ?_⟩; have n0_ := M.A_ (Kd.R_lower ho0 (below_size (M.Lw HB))); have n1_ := M.A_ (below_step (M.Lw HB) hb); clear HB; have HO401 := n0_; have HB := n1_; clear n0_ n1_; (try clear hb); (try clear hb2); (try clear hk); (try clear hi); (try clear ho0)))
 go_ret2
 exact ⟨_, by first | rfl | (simp [*, errW_none, errW_some] <;> rfl), by (with_reducible repeat (first | apply Kd.R_alloc | apply Kd.R_drewN | apply Kd.R_drew)); exact HO401.out, M.Lw HB⟩
def spec_DrawCountInvertible.f (k : Nat) (l0 : List Int) : Option (Int) := (spec_l1New.f k l0).bind fun bt402 => ((spec_l1Below.f bt402.1 bt402.2.1 bt402.2.2 8).bind fun bt406 => (some (wrap64 (bt406.1 - 1))))
theorem spec_DrawCountInvertible.calls (k : Nat) (A0 : Option Addr) (c0 : Nat) (l0 : List Int) (r : Int) (w : World) (hr0 : Kd.C (Kd.int .u8) w A0 l0.length l0) (hc0 : l0.length ≤ c0) (h : spec_DrawCountInvertible.f k l0 = some r) :
  Calls Try.prog 27 #[.slice A0 l0.length c0] w fun e w' => e = .returned (.int .i64 r) ∧ Below w.heap.size w w' := by
 have HR0 := M.A_ hr0; have HC0 := M.A_ hc0; clear hr0 hc0
 have HB := M.A_ (Below.refl w.heap.size w)
 unfold spec_DrawCountInvertible.f at h; have H := h
 clear h; replace H := Option.bind_eq_some_iff.mp H; obtain ⟨⟨t402, t403, t404⟩, A20, H⟩ := H
 replace H : ((spec_l1Below.f t402 t403 t404 8).bind fun bt406 => (some (wrap64 (bt406.1 - 1)))) = some r := H
 have A2 := M.A_ A20; clear A20; replace H := Option.bind_eq_some_iff.mp H; obtain ⟨⟨t406, t407, t408⟩, A30, H⟩ := H
 replace H : (some (wrap64 (t406 - 1))) = some r := H
 have A3 := M.A_ A30; clear A30
 obtain rfl := Option.some.inj H
 go_enter Try.func27, Try.ntmps27
 go_wp2_with (first | ((with_reducible refine gate_callee (f := 34) rfl ?_); refine goesL_ (some 4) rfl rfl Try.func34 (by kernel_rfl) rfl #[.slice A0 l0.length c0] rfl (by first | rfl | (simp only [M.mt, M.mc, M.mn, M.ld, M.lt]; rfl)) ?_; (with_reducible refine (spec_l1New.calls k _ _ l0 t402 t403 t404 w _ ?side1 ?side2 ?side3 A2.out).mono ?_); (case side1 => repeat (first | (with_reducible first | exact HB.out | apply M.ba | apply M.pd | apply below_drew1) | exact HB.out)); (case side2 => exact HR0.out); (case side3 => exact HC0.out); rintro e w4 ⟨g405, rfl, hi, hb, hb2⟩; refine ⟨_, rfl, ?_⟩; have n0_ := M.A_ (hb); have n1_ := M.A_ (hi); clear HB; have HB := n0_; have HI405 := n1_; clear n0_ n1_; (try clear hb); (try clear hb2); (try clear hk); (try clear hi)) | ((with_reducible refine gate_callee (f := 37) rfl ?_); refine goesL_ (some 5) rfl rfl Try.func37 (by kernel_rfl) rfl #[.pointer (some ⟨g405, 0, none⟩), .int .i64 8] rfl (by first | rfl | (simp only [M.mt, M.mc, M.mn, M.ld, M.lt]; rfl)) ?_; (with_reducible refine (spec_l1Below.calls g405 t402 t403 t404 8 t406 t407 t408 w _ ?side1 ?side2 A3.out).mono ?_); (case side1 => repeat (first | (with_reducible first | exact HI405.out | apply IsS69.alloc | apply IsS69.drewN | apply IsS69.drew | apply IsS69.set_1 | apply IsS69.set_2) | exact HI405.out)); (case side2 => repeat (first | (with_reducible first | exact HB.out | apply M.ba | apply M.pd | apply below_drew1 | refine below_set ?_ (IsS69.ge HI405.out)) | exact HB.out)); rintro e w5 ⟨rfl, hi, hb, hk⟩; refine ⟨_, rfl, ?_⟩; have n0_ := M.A_ (hb); have n1_ := M.A_ (hi); clear HB; clear HI405; have HB := n0_; have HI405 := n1_; clear n0_ n1_; (try clear hb); (try clear hb2); (try clear hk); (try clear hi)))
 go_ret
 exact ⟨by first | rfl | (simp [*, errW_none, errW_some] <;> rfl), by repeat (first | (with_reducible first | exact HB.out | apply M.ba | apply M.pd | apply below_drew1 | refine below_set ?_ (IsS69.ge HI405.out)) | exact HB.out)⟩
def spec_l3Shift.l0 : Nat → Int → Int → Int → Int → Int → Option (Int × Int)
 | 0, _, _, _, _, _ => none
 | k + 1, x1, x5, x6, x410000, x410001 => if 0 ≤ x410000 then (if x6 < (shl .i64 1 x410000) then (if 0 ≤ x6 then (if 0 ≤ (Go.bits .xor .i64 x6 x1) then (spec_l3Shift.l0 k x1 (Go.bits .or .i64 x5 (shl .i64 (Go.bits .and .i64 (shr .i64 x410001 x6) 1) (Go.bits .xor .i64 x6 x1))) (wrap64 (x6 + 1)) x410000 x410001) else (none)) else (none)) else (some (x410000, x5))) else (none)
def spec_l3Shift.f (k : Nat) (a0_0 : Int) (a0_1 : Int) (a1 : Int) : Option (Int × Int) := spec_l3Shift.l0 k a1 0 0 a0_0 a0_1
theorem spec_l3Shift.calls (k : Nat) (a0_0 : Int) (a0_1 : Int) (a1 : Int) (r1 : Int) (r2 : Int) (w : World) (h : spec_l3Shift.f k a0_0 a0_1 a1 = some (r1, r2)) :
  Calls Try.prog 72 #[.agg #[.int .i64 a0_0, .int .i64 a0_1], .int .i64 a1] w fun e w' => e = .returned (.agg #[.int .i64 r1, .int .i64 r2]) ∧ Below w.heap.size w w' := by
 have hu25 := Try.underlying25
 have HB := M.A_ (Below.refl w.heap.size w)
 have H : (spec_l3Shift.l0 k a1 0 0 a0_0 a0_1) = some (r1, r2) := h
 clear h
 have H' := M.A_ H
 clear H
 go_enter Try.func72, Try.ntmps72
 go_wp2_with (first | ((with_reducible refine gate_dst (N := 2) rfl ?_); refine box_event ?hg (N := 2) ?hd (cs := #[.int .i64 a0_0, .int .i64 a0_1]) (t := 25) ?hr ?_; (case hd => rfl); (case hg => rfl); (case hr => first | (go_simp; done) | (go_simp; rfl)); intro gb409 hg w3 hbox hb; have n0_ := M.A_ (below_step (M.Lw HB) hb); have n1_ := M.A_ (hbox); have n2_ := M.A_ ((by rw [hg]; exact (below_size (M.Lw HB)) : w.heap.size ≤ gb409)); have n3_ := M.A_ ((by rw [hg]; exact (below_size (M.Lw HB)) : w.heap.size ≤ gb409)); clear HB; have HB := n0_; have BK409 := n1_; have GW409 := n2_; have GE409 := n3_; clear n0_ n1_ n2_ n3_; clear hb hbox hg) | ((with_reducible refine gate_dst (N := 4) rfl ?_); refine box_event ?hg (N := 4) ?hd (cs := #[.int .i64 0, .int .i64 0]) (t := 25) ?hr ?_; (case hd => rfl); (case hg => rfl); (case hr => first | (go_simp; done) | (go_simp; rfl)); intro gb410 hg w4 hbox hb; have n0_ := M.A_ (blk_below (M.Lb BK409) hb); have n1_ := M.A_ (below_step (M.Lw HB) hb); have n2_ := M.A_ (hbox); have n3_ := M.A_ ((by rw [hg]; exact (below_size (M.Lw HB)) : w.heap.size ≤ gb410)); have n4_ := M.A_ ((by rw [hg]; exact (below_size (M.Lw HB)) : w.heap.size ≤ gb410)); have n5_ := M.A_ ((by rw [hg]; exact Nat.ne_of_lt (blk_lt (M.Lb BK409)) : gb409 ≠ gb410)); have n6_ := M.A_ ((by rw [hg]; exact Nat.ne_of_gt (blk_lt (M.Lb BK409)) : gb410 ≠ gb409)); clear BK409; clear HB; have BK409 := n0_; have HB := n1_; have BK410 := n2_; have GW410 := n3_; have GE410 := n4_; have NB409_410 := n5_; have NB410_409 := n6_; clear n0_ n1_ n2_ n3_ n4_ n5_ n6_; clear hb hbox hg))
 go_loopg [5, 6] k (fun kq v5 v6 w' => ∃ (x5_1 : Int) (x6_1 : Int), v5 = .int .i64 x5_1 ∧ v6 = .int .i64 x6_1 ∧ Aside0 (spec_l3Shift.l0 kq a1 x5_1 x6_1 a0_0 a0_1 = some (r1, r2)) ∧ Aside0 (kq ≤ k) ∧ Aside0 (w'.heap[gb409]? = some (.cells #[.int .i64 a0_0, .int .i64 a0_1] 25 (0, 0))) ∧ Aside0 (w'.heap[gb410]? = some (.cells #[.int .i64 0, .int .i64 0] 25 (0, 0))) ∧ Aside0 (Below w.heap.size w w'))
 case atStart => exact ⟨(0), (0), (by first | rfl | (simp; done) | (simp [*]; done)), (by first | rfl | (simp; done) | (simp [*]; done)), H', ⟨Nat.le_refl _⟩, ⟨M.Lb BK409⟩, ⟨M.Lb BK410⟩, ⟨by repeat (first | (with_reducible first | exact HB.out | apply below_alloc | apply pw_below_drewN | apply below_drew1 | refine below_set ?_ GE409.out | refine below_set ?_ GE410.out) | exact HB.out)⟩⟩
 case round =>
  clear H'; (try clear p2); obtain ⟨x5_1, x6_1, rfl, rfl, HA, HK1, BK409, BK410, HB⟩ := hrel
  cases gk with
  | zero => exact absurd HA.out (by simp [spec_l3Shift.l0])
  | succ k1 =>
   have H := HA.out
   clear HA
   simp only [spec_l3Shift.l0] at H
   by_cases c5 : 0 ≤ a0_0
   ·rw [if_pos c5] at H
    have c5b0 := eq_true c5
    have c5b1 : decide (0 ≤ a0_0) = true := decide_eq_true c5
    clear c5
    obtain ⟨ji6, hji6⟩ : ∃ j_ : Int, (shl .i64 1 a0_0) = j_ := ⟨_, rfl⟩
    replace H : (if x6_1 < (ji6) then (if 0 ≤ x6_1 then (if 0 ≤ (Go.bits .xor .i64 x6_1 a1) then (spec_l3Shift.l0 k1 a1 (Go.bits .or .i64 x5_1 (shl .i64 (Go.bits .and .i64 (shr .i64 a0_1 x6_1) 1) (Go.bits .xor .i64 x6_1 a1))) (wrap64 (x6_1 + 1)) a0_0 a0_1) else (none)) else (none)) else (some (a0_0, x5_1))) = some (r1, r2) := by first | (rw [hji6] at H; exact H) | (simp only [hji6] at H ⊢; exact H)
    have hji6_ : (IntKind.i64.wrap (1 * 2 ^ min a0_0.toNat 64)) = ji6 := hji6
    have hji6z : a0_0 ≤ 64 → (IntKind.i64.wrap (1 * 2 ^ a0_0.toNat)) = ji6 := shl_small hji6
    have hji6u : (IntKind.i64.wrap (2 ^ min a0_0.toNat 64)) = ji6 := by have h_ := hji6_; rw [Int.one_mul] at h_; exact h_
    have hji6v : a0_0 ≤ 64 → (IntKind.i64.wrap (2 ^ a0_0.toNat)) = ji6 := fun hle_ => by have h_ := hji6z hle_; rw [Int.one_mul] at h_; exact h_
    have hji6y : (wrap64 (1 * 2 ^ min a0_0.toNat 64)) = ji6 := (i64_w _).symm.trans hji6_
    have hji6x : a0_0 ≤ 64 → (wrap64 (1 * 2 ^ a0_0.toNat)) = ji6 := fun h_ => (i64_w _).symm.trans (hji6z h_)
    by_cases c7 : x6_1 < (ji6)
    ·rw [if_pos c7] at H
     have c7b0 : decide (x6_1 < (ji6)) = true := decide_eq_true c7
     clear c7
     by_cases c8 : 0 ≤ x6_1
     ·rw [if_pos c8] at H
      have c8b0 := eq_true c8
      have c8b1 : decide (0 ≤ x6_1) = true := decide_eq_true c8
      clear c8
      obtain ⟨ji9, hji9⟩ : ∃ j_ : Int, (shr .i64 a0_1 x6_1) = j_ := ⟨_, rfl⟩
      replace H : (if 0 ≤ (Go.bits .xor .i64 x6_1 a1) then (spec_l3Shift.l0 k1 a1 (Go.bits .or .i64 x5_1 (shl .i64 (Go.bits .and .i64 (ji9) 1) (Go.bits .xor .i64 x6_1 a1))) (wrap64 (x6_1 + 1)) a0_0 a0_1) else (none)) = some (r1, r2) := by first | (rw [hji9] at H; exact H) | (simp only [hji9] at H ⊢; exact H)
      have hji9_ : (a0_1 / 2 ^ min x6_1.toNat 64) = ji9 := hji9
      have hji9z : x6_1 ≤ 64 → (a0_1 / 2 ^ x6_1.toNat) = ji9 := shr_small hji9
      by_cases c10 : 0 ≤ (Go.bits .xor .i64 x6_1 a1)
      ·rw [if_pos c10] at H
       have c10b0 := eq_true c10
       have c10b1 : decide (0 ≤ (Go.bits .xor .i64 x6_1 a1)) = true := decide_eq_true c10
       clear c10
       obtain ⟨ji11, hji11⟩ : ∃ j_ : Int, (shl .i64 (Go.bits .and .i64 (ji9) 1) (Go.bits .xor .i64 x6_1 a1)) = j_ := ⟨_, rfl⟩
       replace H : (spec_l3Shift.l0 k1 a1 (Go.bits .or .i64 x5_1 (ji11)) (wrap64 (x6_1 + 1)) a0_0 a0_1) = some (r1, r2) := by first | (rw [hji11] at H; exact H) | (simp only [hji11] at H ⊢; exact H)
       have hji11_ : (IntKind.i64.wrap ((Go.bits .and .i64 (ji9) 1) * 2 ^ min (Go.bits .xor .i64 x6_1 a1).toNat 64)) = ji11 := hji11
       have hji11z : (Go.bits .xor .i64 x6_1 a1) ≤ 64 → (IntKind.i64.wrap ((Go.bits .and .i64 (ji9) 1) * 2 ^ (Go.bits .xor .i64 x6_1 a1).toNat)) = ji11 := shl_small hji11
       have hji11y : (wrap64 ((Go.bits .and .i64 (ji9) 1) * 2 ^ min (Go.bits .xor .i64 x6_1 a1).toNat 64)) = ji11 := (i64_w _).symm.trans hji11_
       have hji11x : (Go.bits .xor .i64 x6_1 a1) ≤ 64 → (wrap64 ((Go.bits .and .i64 (ji9) 1) * 2 ^ (Go.bits .xor .i64 x6_1 a1).toNat)) = ji11 := fun h_ => (i64_w _).symm.trans (hji11z h_)
       have H' := M.A_ H
       clear H
       have hnb12 := NB409_410.out
       have hnc12 := NB410_409.out
       have hcz13_0 : wr.cell? ⟨gb409, 0, none⟩ = some (.int .i64 a0_0) := (blk_cell BK409.out 0).trans rfl
       have hcz13_1 : wr.cell? ⟨gb409, 1, none⟩ = some (.int .i64 a0_1) := (blk_cell BK409.out 1).trans rfl
       have hfz13_0 := blk_frozen BK409.out 0
       have hfz13_1 := blk_frozen BK409.out 1
       go_wp2
       go_roundg k1
       case measure => have := HK1.out; omega
       case rel => exact ⟨(Go.bits .or .i64 x5_1 (ji11)), (wrap64 (x6_1 + 1)), (by first | rfl | (simp; done) | (simp only [← hji11] <;> (first | rfl | simp)) | (simp [*]; done)), (by first | rfl | (simp; done) | (simp [*]; done)), H', ⟨by have := HK1.out; omega⟩, ⟨M.Lb BK409⟩, ⟨M.Lb BK410⟩, ⟨by repeat (first | (with_reducible first | exact HB.out | apply below_alloc | apply pw_below_drewN | apply below_drew1 | refine below_set ?_ GE409.out | refine below_set ?_ GE410.out) | exact HB.out)⟩⟩
      ·rw [if_neg c10] at H
       exact absurd H (by simp)
     ·rw [if_neg c8] at H
      exact absurd H (by simp)
    ·rw [if_neg c7] at H
     have c7b0 : decide (x6_1 < (ji6)) = false := decide_eq_false c7
     clear c7
     simp only [Option.some.injEq, Prod.mk.injEq] at H
     obtain ⟨rfl, rfl⟩ := H
     have hnb14 := NB409_410.out
     have hnc14 := NB410_409.out
     have hcz15_0 : wr.cell? ⟨gb409, 0, none⟩ = some (.int .i64 a0_0) := (blk_cell BK409.out 0).trans rfl
     have hcz15_1 : wr.cell? ⟨gb409, 1, none⟩ = some (.int .i64 a0_1) := (blk_cell BK409.out 1).trans rfl
     have hfz15_0 := blk_frozen BK409.out 0
     have hfz15_1 := blk_frozen BK409.out 1
     have hcz16_0 : wr.cell? ⟨gb410, 0, none⟩ = some (.int .i64 0) := (blk_cell BK410.out 0).trans rfl
     have hcz16_1 : wr.cell? ⟨gb410, 1, none⟩ = some (.int .i64 0) := (blk_cell BK410.out 1).trans rfl
     have hfz16_0 := blk_frozen BK410.out 0
     have hfz16_1 := blk_frozen BK410.out 1
     go_wp2
     refine bodyPost_ret (results_cell_row rfl _ _ gb410 25 #[.int .i64 a0_0, .int .i64 x5_1] (0, 0) _ rfl (by (with_reducible repeat (first | refine blk_drewN ?_ _ | refine blk_drew ?_ | refine blk_alloc ?_ _)); refine blk_put (cs := #[.int .i64 a0_0, .int .i64 0]) ?_ 1 _ rfl; (with_reducible repeat (first | refine blk_drewN ?_ _ | refine blk_drew ?_ | refine blk_alloc ?_ _)); refine blk_put (cs := #[.int .i64 0, .int .i64 0]) ?_ 0 _ rfl; (with_reducible repeat (first | refine blk_drewN ?_ _ | refine blk_drew ?_ | refine blk_alloc ?_ _)); exact BK410.out) Try.underlying25 rfl (by kernel_rfl)) rfl ?_
     exact ⟨by first | rfl | (simp [errW_none, errW_some] <;> rfl) | (simp only [← hji6]; first | rfl | (simp [errW_none, errW_some] <;> rfl)) | (simp [*, errW_none, errW_some] <;> rfl), by repeat (first | (with_reducible first | exact HB.out | apply below_alloc | apply pw_below_drewN | apply below_drew1 | refine below_set ?_ GE409.out | refine below_set ?_ GE410.out) | exact HB.out)⟩
   ·rw [if_neg c5] at H
    exact absurd H (by simp)
def spec_l12Bent.l0 : Nat → Int → Int → List Int → Int → Int → Option (Int × Int × Int × Int)
 | 0, _, _, _, _, _ => none
 | k + 1, x3, x4, x1000, x1001, x1002 => if x4 < 16 then (if 0 ≤ x4 then (spec_l12Bent.l0 k (Go.bits .or .i64 x3 (shl .i64 (Go.bits .xor .i64 (Go.bits .and .i64 (Go.bits .and .i64 x4 1) (x4 / 2)) (Go.bits .and .i64 (Go.bits .and .i64 (x4 / 4) 1) (x4 / 8))) x4)) (wrap64 (x4 + 1)) x1000 x1001 x1002) else (none)) else ((spec_l1Below.f x1000 x1001 x1002 16).bind fun bt425 => ((spec_l3Shift.f k 4 x3 bt425.1).bind fun bt428 => (some (bt428.1, bt428.2, bt425.2.1, bt425.2.2))))
def spec_l12Bent.f (k : Nat) (s0_0 : List Int) (s0_1 : Int) (s0_2 : Int) : Option (Int × Int × Int × Int) := (spec_l1Below.f s0_0 s0_1 s0_2 4).bind fun bt412 => (if bt412.1 = 0 then ((spec_l2Any.f k s0_0 bt412.2.1 bt412.2.2).bind fun bt415 => (some (bt415.1, bt415.2.1, bt415.2.2.1, bt415.2.2.2))) else (if bt412.1 = 1 then ((spec_l1PickInt.f s0_0 bt412.2.1 bt412.2.2 (([8, 1, 7, 14, 6] : List Int))).bind fun bt422 => (some (2, bt422.1, bt422.2.1, bt422.2.2))) else (spec_l12Bent.l0 k 0 0 s0_0 bt412.2.1 bt412.2.2)))
theorem spec_l12Bent.calls (k : Nat) (g : Nat) (s0_0 : List Int) (s0_1 : Int) (s0_2 : Int) (r1 : Int) (r2 : Int) (r3 : Int) (r4 : Int) (w0 w : World) (hI : IsS69 w0 w g s0_0 s0_1 s0_2) (hB : Below w0.heap.size w0 w) (h : spec_l12Bent.f k s0_0 s0_1 s0_2 = some (r1, r2, r3, r4)) :
  Calls Try.prog 61 #[.pointer (some ⟨g, 0, none⟩)] w fun e w' => e = .returned (.agg #[.int .i64 r1, .int .i64 r2]) ∧ IsS69 w0 w' g s0_0 r3 r4 ∧ Below w0.heap.size w0 w' ∧ KeepBut w w' g none := by
 have hu25 := Try.underlying25
 have HI0 := M.A_ hI
 have HK := M.A_ (KeepBut.refl w g none)
 have HL := M.A_ hB.size
 clear hI
 have HW0 := M.A_ hB.size
 have HB := M.A_ hB; clear hB
 unfold spec_l12Bent.f at h; have H := h
 clear h; obtain ⟨⟨t412, t413, t414⟩, A2, H⟩ := M.ob_ H; (try dsimp only at H)
 by_cases c3 : t412 = 0
 ·rw [if_pos c3] at H
  have c3b0 : (t412 == 0) = true := beq_iff_eq.mpr c3
  have c3b1 : (t412 != 0) = false := bne_eq_false_iff_eq.mpr c3
  clear c3; replace H := Option.bind_eq_some_iff.mp H; obtain ⟨⟨t415, t416, t417, t418⟩, A40, H⟩ := H
  replace H : (some (t415, t416, t417, t418)) = some (r1, r2, r3, r4) := H
  have A4 := M.A_ A40; clear A40
  simp only [Option.some.injEq, Prod.mk.injEq] at H
  obtain ⟨rfl, rfl, rfl, rfl⟩ := H
  go_enter Try.func61, Try.ntmps61
  go_wp2_with (first | ((with_reducible refine gate_dst (N := 2) rfl ?_); refine box_event ?hg (N := 2) ?hd (cs := #[.int .i64 0, .int .i64 0]) (t := 25) ?hr ?_; (case hd => rfl); (case hg => rfl); (case hr => first | (go_simp; done) | (go_simp; rfl)); intro gb411 hg w5 hbox hb; have n0_ := M.A_ (IsS69.below (by repeat (first | (with_reducible first | exact HI0.out | apply IsS69.alloc | apply IsS69.drewN | apply IsS69.drew | apply IsS69.set_1 | apply IsS69.set_2) | exact HI0.out)) hb); have n1_ := M.A_ (KeepBut.trans (by repeat (first | (with_reducible first | exact HK.out | apply KeepBut.set_ | apply keep_drewN | apply keep_drew | apply keep_alloc) | exact HK.out)) (KeepBut.of_below hb g none) (.inl rfl)); have n2_ := M.A_ (below_step (by repeat (first | (with_reducible first | exact HB.out | apply M.ba | apply M.pd | apply below_drew1 | refine below_set ?_ (IsS69.ge HI0.out)) | exact HB.out)) hb); have n3_ := M.A_ (hbox); have n4_ := M.A_ ((by rw [hg]; exact (keep_size (w := w) (g := g) (row := none) (by repeat (first | (with_reducible first | exact HK.out | apply KeepBut.set_ | apply keep_drewN | apply keep_drew | apply keep_alloc) | exact HK.out))) : w.heap.size ≤ gb411)); have n5_ := M.A_ ((Nat.le_trans HW0.out (by rw [hg]; exact (keep_size (w := w) (g := g) (row := none) (by repeat (first | (with_reducible first | exact HK.out | apply KeepBut.set_ | apply keep_drewN | apply keep_drew | apply keep_alloc) | exact HK.out))) : w.heap.size ≤ gb411) : w0.heap.size ≤ gb411)); have n6_ := M.A_ ((by rw [hg]; exact Nat.ne_of_lt (IsS69.lt (show IsS69 w0 _ g s0_0 s0_1 s0_2 from by repeat (first | (with_reducible first | exact HI0.out | apply IsS69.alloc | apply IsS69.drewN | apply IsS69.drew | apply IsS69.set_1 | apply IsS69.set_2) | exact HI0.out))) : g ≠ gb411)); have n7_ := M.A_ ((by rw [hg]; exact Nat.ne_of_gt (IsS69.lt (show IsS69 w0 _ g s0_0 s0_1 s0_2 from by repeat (first | (with_reducible first | exact HI0.out | apply IsS69.alloc | apply IsS69.drewN | apply IsS69.drew | apply IsS69.set_1 | apply IsS69.set_2) | exact HI0.out))) : gb411 ≠ g)); clear HI0; clear HK; clear HB; have HI0 := n0_; have HK := n1_; have HB := n2_; have BK411 := n3_; have GW411 := n4_; have GE411 := n5_; have NB0_411 := n6_; have NB411_0 := n7_; clear n0_ n1_ n2_ n3_ n4_ n5_ n6_ n7_; clear hb hbox hg) | ((with_reducible refine gate_callee (f := 37) rfl ?_); refine goesL_ (some 8) rfl rfl Try.func37 (by kernel_rfl) rfl #[.pointer (some ⟨g, 0, none⟩), .int .i64 4] rfl (by first | rfl | (simp only [M.mt, M.mc, M.mn, M.ld, M.lt]; rfl)) ?_; (with_reducible refine (spec_l1Below.calls g s0_0 s0_1 s0_2 4 t412 t413 t414 w0 _ ?side1 ?side2 A2.out).mono ?_); (case side1 => repeat (first | (with_reducible first | exact HI0.out | apply IsS69.alloc | apply IsS69.drewN | apply IsS69.drew | apply IsS69.set_1 | apply IsS69.set_2 | refine IsS69.far ?_ NB0_411.out _) | exact HI0.out)); (case side2 => repeat (first | (with_reducible first | exact HB.out | apply M.ba | apply M.pd | apply below_drew1 | refine below_set ?_ (IsS69.ge HI0.out) | refine below_set ?_ GE411.out) | exact HB.out)); rintro e w6 ⟨rfl, hi, hb, hk⟩; refine ⟨_, rfl, ?_⟩; have n0_ := M.A_ (KeepBut.blk hk (g' := gb411) (o := .cells #[.int .i64 0, .int .i64 0] 25 (0, 0)) (M.Lb BK411) NB411_0.out (by simp)); have n1_ := M.A_ (KeepBut.trans (by repeat (first | (with_reducible first | exact HK.out | apply KeepBut.set_ | apply keep_drewN | apply keep_drew | apply keep_alloc | refine keep_far ?_ GW411.out _) | exact HK.out)) hk (.inl rfl)); have n2_ := M.A_ (hb); have n3_ := M.A_ (hi); clear BK411; clear HK; clear HB; clear HI0; have BK411 := n0_; have HK := n1_; have HB := n2_; have HI0 := n3_; clear n0_ n1_ n2_ n3_; (try clear hb); (try clear hb2); (try clear hk); (try clear hi)) | ((with_reducible refine gate_callee (f := 35) rfl ?_); refine goesL_ (some 12) rfl rfl Try.func35 (by kernel_rfl) rfl #[.pointer (some ⟨g, 0, none⟩)] rfl (by first | rfl | (simp only [M.mt, M.mc, M.mn, M.ld, M.lt]; rfl)) ?_; (with_reducible refine (spec_l2Any.calls k g s0_0 t413 t414 t415 t416 t417 t418 w0 _ ?side1 ?side2 A4.out).mono ?_); (case side1 => repeat (first | (with_reducible first | exact HI0.out | apply IsS69.alloc | apply IsS69.drewN | apply IsS69.drew | apply IsS69.set_1 | apply IsS69.set_2 | refine IsS69.far ?_ NB0_411.out _) | exact HI0.out)); (case side2 => repeat (first | (with_reducible first | exact HB.out | apply M.ba | apply M.pd | apply below_drew1 | refine below_set ?_ (IsS69.ge HI0.out) | refine below_set ?_ GE411.out) | exact HB.out)); rintro e w7 ⟨rfl, hi, hb, hk⟩; refine ⟨_, rfl, ?_⟩; have n0_ := M.A_ (KeepBut.blk hk (g' := gb411) (o := .cells #[.int .i64 0, .int .i64 0] 25 (0, 0)) (M.Lb BK411) NB411_0.out (by simp)); have n1_ := M.A_ (KeepBut.trans (by repeat (first | (with_reducible first | exact HK.out | apply KeepBut.set_ | apply keep_drewN | apply keep_drew | apply keep_alloc | refine keep_far ?_ GW411.out _) | exact HK.out)) hk (.inl rfl)); have n2_ := M.A_ (hb); have n3_ := M.A_ (hi); clear BK411; clear HK; clear HB; clear HI0; have BK411 := n0_; have HK := n1_; have HB := n2_; have HI0 := n3_; clear n0_ n1_ n2_ n3_; (try clear hb); (try clear hb2); (try clear hk); (try clear hi); have hnb8 := NB411_0.out; have hnc8 := NB0_411.out; have hcz9_0 : w7.cell? ⟨gb411, 0, none⟩ = some (.int .i64 0) := (blk_cell BK411.out 0).trans rfl; have hcz9_1 : w7.cell? ⟨gb411, 1, none⟩ = some (.int .i64 0) := (blk_cell BK411.out 1).trans rfl; have hfz9_0 := blk_frozen BK411.out 0; have hfz9_1 := blk_frozen BK411.out 1))
  refine bodyPost_ret (results_cell_row rfl _ _ gb411 25 #[.int .i64 t415, .int .i64 t416] (0, 0) _ rfl (by (with_reducible repeat (first | refine blk_drewN ?_ _ | refine blk_drew ?_ | refine blk_alloc ?_ _)); refine blk_put (cs := #[.int .i64 t415, .int .i64 0]) ?_ 1 _ rfl; (with_reducible repeat (first | refine blk_drewN ?_ _ | refine blk_drew ?_ | refine blk_alloc ?_ _)); refine blk_put (cs := #[.int .i64 0, .int .i64 0]) ?_ 0 _ rfl; (with_reducible repeat (first | refine blk_drewN ?_ _ | refine blk_drew ?_ | refine blk_alloc ?_ _)); exact BK411.out) Try.underlying25 rfl (by kernel_rfl)) rfl ?_
  exact ⟨by first | rfl | (simp [*, errW_none, errW_some] <;> rfl), by repeat (first | (with_reducible first | exact HI0.out | apply IsS69.alloc | apply IsS69.drewN | apply IsS69.drew | apply IsS69.set_1 | apply IsS69.set_2 | refine IsS69.far ?_ NB0_411.out _) | exact HI0.out), by repeat (first | (with_reducible first | exact HB.out | apply M.ba | apply M.pd | apply below_drew1 | refine below_set ?_ (IsS69.ge HI0.out) | refine below_set ?_ GE411.out) | exact HB.out), by repeat (first | (with_reducible first | exact HK.out | apply KeepBut.set_ | apply keep_drewN | apply keep_drew | apply keep_alloc | refine keep_far ?_ GW411.out _) | exact HK.out)⟩
 ·rw [if_neg c3] at H
  have c3b0 : (t412 == 0) = false := beq_eq_false_iff_ne.mpr c3
  have c3b1 : (t412 != 0) = true := bne_iff_ne.mpr c3
  by_cases c10 : t412 = 1
  ·rw [if_pos c10] at H
   have c10b0 : (t412 == 1) = true := beq_iff_eq.mpr c10
   have c10b1 : (t412 != 1) = false := bne_eq_false_iff_eq.mpr c10
   clear c10
   obtain ⟨y419, hy419⟩ : ∃ y_ : List Int, y_ = (([8, 1, 7, 14, 6] : List Int)) := ⟨_, rfl⟩
   replace H : ((spec_l1PickInt.f s0_0 t413 t414 y419).bind fun bt422 => (some (2, bt422.1, bt422.2.1, bt422.2.2))) = some (r1, r2, r3, r4) := by first | (rw [hy419]; with_reducible exact H) | (have H2_ := (Option.bind_some _ _).symm.trans H; rw [hy419]; with_reducible exact H2_) | (have H2_ := (Option.bind_some _ _).symm.trans H; with_reducible exact H2_) | with_reducible exact H | (rw [hy419]; exact H) | exact H
   have Ny419 := M.A_ hy419; clear hy419; replace H := Option.bind_eq_some_iff.mp H; obtain ⟨⟨t422, t423, t424⟩, A110, H⟩ := H
   replace H : (some (2, t422, t423, t424)) = some (r1, r2, r3, r4) := H
   have A11 := M.A_ A110; clear A110
   simp only [Option.some.injEq, Prod.mk.injEq] at H
   obtain ⟨rfl, rfl, rfl, rfl⟩ := H
   go_enter Try.func61, Try.ntmps61
   go_wp2_with (first | ((with_reducible refine gate_dst (N := 2) rfl ?_); refine box_event ?hg (N := 2) ?hd (cs := #[.int .i64 0, .int .i64 0]) (t := 25) ?hr ?_; (case hd => rfl); (case hg => rfl); (case hr => first | (go_simp; done) | (go_simp; rfl)); intro gb411 hg w12 hbox hb; have n0_ := M.A_ (IsS69.below (by repeat (first | (with_reducible first | exact HI0.out | apply IsS69.alloc | apply IsS69.drewN | apply IsS69.drew | apply IsS69.set_1 | apply IsS69.set_2) | exact HI0.out)) hb); have n1_ := M.A_ (KeepBut.trans (by repeat (first | (with_reducible first | exact HK.out | apply KeepBut.set_ | apply keep_drewN | apply keep_drew | apply keep_alloc) | exact HK.out)) (KeepBut.of_below hb g none) (.inl rfl)); have n2_ := M.A_ (below_step (by repeat (first | (with_reducible first | exact HB.out | apply M.ba | apply M.pd | apply below_drew1 | refine below_set ?_ (IsS69.ge HI0.out)) | exact HB.out)) hb); have n3_ := M.A_ (hbox); have n4_ := M.A_ ((by rw [hg]; exact (keep_size (w := w) (g := g) (row := none) (by repeat (first | (with_reducible first | exact HK.out | apply KeepBut.set_ | apply keep_drewN | apply keep_drew | apply keep_alloc) | exact HK.out))) : w.heap.size ≤ gb411)); have n5_ := M.A_ ((Nat.le_trans HW0.out (by rw [hg]; exact (keep_size (w := w) (g := g) (row := none) (by repeat (first | (with_reducible first | exact HK.out | apply KeepBut.set_ | apply keep_drewN | apply keep_drew | apply keep_alloc) | exact HK.out))) : w.heap.size ≤ gb411) : w0.heap.size ≤ gb411)); have n6_ := M.A_ ((by rw [hg]; exact Nat.ne_of_lt (IsS69.lt (show IsS69 w0 _ g s0_0 s0_1 s0_2 from by repeat (first | (with_reducible first | exact HI0.out | apply IsS69.alloc | apply IsS69.drewN | apply IsS69.drew | apply IsS69.set_1 | apply IsS69.set_2) | exact HI0.out))) : g ≠ gb411)); have n7_ := M.A_ ((by rw [hg]; exact Nat.ne_of_gt (IsS69.lt (show IsS69 w0 _ g s0_0 s0_1 s0_2 from by repeat (first | (with_reducible first | exact HI0.out | apply IsS69.alloc | apply IsS69.drewN | apply IsS69.drew | apply IsS69.set_1 | apply IsS69.set_2) | exact HI0.out))) : gb411 ≠ g)); clear HI0; clear HK; clear HB; have HI0 := n0_; have HK := n1_; have HB := n2_; have BK411 := n3_; have GW411 := n4_; have GE411 := n5_; have NB0_411 := n6_; have NB411_0 := n7_; clear n0_ n1_ n2_ n3_ n4_ n5_ n6_ n7_; clear hb hbox hg) | ((with_reducible refine gate_callee (f := 37) rfl ?_); refine goesL_ (some 8) rfl rfl Try.func37 (by kernel_rfl) rfl #[.pointer (some ⟨g, 0, none⟩), .int .i64 4] rfl (by first | rfl | (simp only [M.mt, M.mc, M.mn, M.ld, M.lt]; rfl)) ?_; (with_reducible refine (spec_l1Below.calls g s0_0 s0_1 s0_2 4 t412 t413 t414 w0 _ ?side1 ?side2 A2.out).mono ?_); (case side1 => repeat (first | (with_reducible first | exact HI0.out | apply IsS69.alloc | apply IsS69.drewN | apply IsS69.drew | apply IsS69.set_1 | apply IsS69.set_2 | refine IsS69.far ?_ NB0_411.out _) | exact HI0.out)); (case side2 => repeat (first | (with_reducible first | exact HB.out | apply M.ba | apply M.pd | apply below_drew1 | refine below_set ?_ (IsS69.ge HI0.out) | refine below_set ?_ GE411.out) | exact HB.out)); rintro e w13 ⟨rfl, hi, hb, hk⟩; refine ⟨_, rfl, ?_⟩; have n0_ := M.A_ (KeepBut.blk hk (g' := gb411) (o := .cells #[.int .i64 0, .int .i64 0] 25 (0, 0)) (M.Lb BK411) NB411_0.out (by simp)); have n1_ := M.A_ (KeepBut.trans (by repeat (first | (with_reducible first | exact HK.out | apply KeepBut.set_ | apply keep_drewN | apply keep_drew | apply keep_alloc | refine keep_far ?_ GW411.out _) | exact HK.out)) hk (.inl rfl)); have n2_ := M.A_ (hb); have n3_ := M.A_ (hi); clear BK411; clear HK; clear HB; clear HI0; have BK411 := n0_; have HK := n1_; have HB := n2_; have HI0 := n3_; clear n0_ n1_ n2_ n3_; (try clear hb); (try clear hb2); (try clear hk); (try clear hi)) | ((with_reducible refine gate_dst (N := 16) rfl ?_); refine Kd.R_lit (Kd.int .i64) _ 3 ?hg (N := 16) ?hd (xs := ([8, 1, 7, 14, 6] : List Int)) (inner := [.int .i64 8, .int .i64 1, .int .i64 7, .int .i64 14, .int .i64 6]) (ok := fun _ => True) (okp := fun _ => True) ?hr ?hp (fun _ hk => hk) trivial (Below.refl _ _) (Nat.le_refl _) (by simp) ?_; (case hd => rfl); (case hg => rfl); (case hr => first | (go_simp; done) | (go_simp; rfl)); (case hp => exact (Reps.one (show Kd.M (Kd.int .i64) _ _ _ 8 [.int .i64 8] from rfl) (Reps.one (show Kd.M (Kd.int .i64) _ _ _ 1 [.int .i64 1] from rfl) (Reps.one (show Kd.M (Kd.int .i64) _ _ _ 7 [.int .i64 7] from rfl) (Reps.one (show Kd.M (Kd.int .i64) _ _ _ 14 [.int .i64 14] from rfl) (Reps.one (show Kd.M (Kd.int .i64) _ _ _ 6 [.int .i64 6] from rfl) (Reps.none _ _))))))); intro v420 w14 ho15 hb hg_ hnew_; clear hg_ hnew_; (first | rw [← Ny419.out] at ho15 | (simp only [Int.reduceToNat] at ho15; rw [← Ny419.out] at ho15)); have n0_ := M.A_ (Kd.R_lower ho15 (keep_size (w := w) (g := g) (row := none) (by repeat (first | (with_reducible first | exact HK.out | apply KeepBut.set_ | apply keep_drewN | apply keep_drew | apply keep_alloc | refine keep_far ?_ GW411.out _) | exact HK.out)))); have n1_ := M.A_ (IsS69.below (by repeat (first | (with_reducible first | exact HI0.out | apply IsS69.alloc | apply IsS69.drewN | apply IsS69.drew | apply IsS69.set_1 | apply IsS69.set_2 | refine IsS69.far ?_ NB0_411.out _) | exact HI0.out)) hb); have n2_ := M.A_ (blk_below (M.Lb BK411) hb); have n3_ := M.A_ (KeepBut.trans (by repeat (first | (with_reducible first | exact HK.out | apply KeepBut.set_ | apply keep_drewN | apply keep_drew | apply keep_alloc | refine keep_far ?_ GW411.out _) | exact HK.out)) (KeepBut.of_below hb g none) (.inl rfl)); have n4_ := M.A_ (below_step (by repeat (first | (with_reducible first | exact HB.out | apply M.ba | apply M.pd | apply below_drew1 | refine below_set ?_ (IsS69.ge HI0.out) | refine below_set ?_ GE411.out) | exact HB.out)) hb); clear HI0; clear BK411; clear HK; clear HB; have HO421 := n0_; have HI0 := n1_; have BK411 := n2_; have HK := n3_; have HB := n4_; clear n0_ n1_ n2_ n3_ n4_; clear hb ho15; obtain ⟨Ao16, co16, eo16⟩ := Kd.R_slice HO421.out; subst eo16) | ((with_reducible refine gate_callee (f := 65) rfl ?_); refine goesL_ (some 17) rfl rfl Try.func65 (by kernel_rfl) rfl #[.pointer (some ⟨g, 0, none⟩), .slice Ao16 y419.length co16] rfl (by first | rfl | (simp only [M.mt, M.mc, M.mn, M.ld, M.lt]; rfl)) ?_; (with_reducible refine (spec_l1PickInt.calls g s0_0 t413 t414 _ _ y419 t422 t423 t424 w0 _ ?side1 ?side2 ?side3 ?side4 ?side5 A11.out).mono ?_); (case side1 => repeat (first | (with_reducible first | exact HI0.out | apply IsS69.alloc | apply IsS69.drewN | apply IsS69.drew | apply IsS69.set_1 | apply IsS69.set_2 | refine IsS69.far ?_ NB0_411.out _) | exact HI0.out)); (case side2 => repeat (first | (with_reducible first | exact HB.out | apply M.ba | apply M.pd | apply below_drew1 | refine below_set ?_ (IsS69.ge HI0.out) | refine below_set ?_ GE411.out) | exact HB.out)); (case side3 => exact M.Lc (Kd.R_reads' HO421.out).2.2); (case side4 => exact (Kd.R_reads' HO421.out).2.1); (case side5 => exact far_slice (IsS69.own_ne HI0.out HO421.out (by decide))); rintro e w17 ⟨rfl, hi, hb, hk⟩; refine ⟨_, rfl, ?_⟩; have n0_ := M.A_ (KeepBut.blk hk (g' := gb411) (o := .cells #[.int .i64 0, .int .i64 0] 25 (0, 0)) (M.Lb BK411) NB411_0.out (by simp)); have n1_ := M.A_ (Kd.R_mono (Kd.R_keep (IsS69.apart (show IsS69 w0 _ g s0_0 t413 t414 from by repeat (first | (with_reducible first | exact HI0.out | apply IsS69.alloc | apply IsS69.drewN | apply IsS69.drew | apply IsS69.set_1 | apply IsS69.set_2 | refine IsS69.far ?_ NB0_411.out _) | exact HI0.out)) (M.Lr HO421) (by decide)) hk (fun _ h => h.2)) (fun _ h => h.1)); have n2_ := M.A_ (KeepBut.trans (by repeat (first | (with_reducible first | exact HK.out | apply KeepBut.set_ | apply keep_drewN | apply keep_drew | apply keep_alloc | refine keep_far ?_ GW411.out _) | exact HK.out)) hk (.inl rfl)); have n3_ := M.A_ (hb); have n4_ := M.A_ (hi); clear BK411; clear HO421; clear HK; clear HB; clear HI0; have BK411 := n0_; have HO421 := n1_; have HK := n2_; have HB := n3_; have HI0 := n4_; clear n0_ n1_ n2_ n3_ n4_; (try clear hb); (try clear hb2); (try clear hk); (try clear hi); have hnb18 := NB411_0.out; have hnc18 := NB0_411.out; have hcz19_0 : w17.cell? ⟨gb411, 0, none⟩ = some (.int .i64 0) := (blk_cell BK411.out 0).trans rfl; have hcz19_1 : w17.cell? ⟨gb411, 1, none⟩ = some (.int .i64 0) := (blk_cell BK411.out 1).trans rfl; have hfz19_0 := blk_frozen BK411.out 0; have hfz19_1 := blk_frozen BK411.out 1))
   refine bodyPost_ret (results_cell_row rfl _ _ gb411 25 #[.int .i64 2, .int .i64 t422] (0, 0) _ rfl (by (with_reducible repeat (first | refine blk_drewN ?_ _ | refine blk_drew ?_ | refine blk_alloc ?_ _)); refine blk_put (cs := #[.int .i64 2, .int .i64 0]) ?_ 1 _ rfl; (with_reducible repeat (first | refine blk_drewN ?_ _ | refine blk_drew ?_ | refine blk_alloc ?_ _)); refine blk_put (cs := #[.int .i64 0, .int .i64 0]) ?_ 0 _ rfl; (with_reducible repeat (first | refine blk_drewN ?_ _ | refine blk_drew ?_ | refine blk_alloc ?_ _)); exact BK411.out) Try.underlying25 rfl (by kernel_rfl)) rfl ?_
   exact ⟨by first | rfl | (simp [*, errW_none, errW_some] <;> rfl), by repeat (first | (with_reducible first | exact HI0.out | apply IsS69.alloc | apply IsS69.drewN | apply IsS69.drew | apply IsS69.set_1 | apply IsS69.set_2 | refine IsS69.far ?_ NB0_411.out _) | exact HI0.out), by repeat (first | (with_reducible first | exact HB.out | apply M.ba | apply M.pd | apply below_drew1 | refine below_set ?_ (IsS69.ge HI0.out) | refine below_set ?_ GE411.out) | exact HB.out), by repeat (first | (with_reducible first | exact HK.out | apply KeepBut.set_ | apply keep_drewN | apply keep_drew | apply keep_alloc | refine keep_far ?_ GW411.out _) | exact HK.out)⟩
  ·rw [if_neg c10] at H
   have c10b0 : (t412 == 1) = false := beq_eq_false_iff_ne.mpr c10
   have c10b1 : (t412 != 1) = true := bne_iff_ne.mpr c10
   have H' := M.A_ H
   clear H
   go_enter Try.func61, Try.ntmps61
   go_wp2_with (first | ((with_reducible refine gate_dst (N := 2) rfl ?_); refine box_event ?hg (N := 2) ?hd (cs := #[.int .i64 0, .int .i64 0]) (t := 25) ?hr ?_; (case hd => rfl); (case hg => rfl); (case hr => first | (go_simp; done) | (go_simp; rfl)); intro gb411 hg w20 hbox hb; have n0_ := M.A_ (IsS69.below (by repeat (first | (with_reducible first | exact HI0.out | apply IsS69.alloc | apply IsS69.drewN | apply IsS69.drew | apply IsS69.set_1 | apply IsS69.set_2) | exact HI0.out)) hb); have n1_ := M.A_ (KeepBut.trans (by repeat (first | (with_reducible first | exact HK.out | apply KeepBut.set_ | apply keep_drewN | apply keep_drew | apply keep_alloc) | exact HK.out)) (KeepBut.of_below hb g none) (.inl rfl)); have n2_ := M.A_ (below_step (by repeat (first | (with_reducible first | exact HB.out | apply M.ba | apply M.pd | apply below_drew1 | refine below_set ?_ (IsS69.ge HI0.out)) | exact HB.out)) hb); have n3_ := M.A_ (hbox); have n4_ := M.A_ ((by rw [hg]; exact (keep_size (w := w) (g := g) (row := none) (by repeat (first | (with_reducible first | exact HK.out | apply KeepBut.set_ | apply keep_drewN | apply keep_drew | apply keep_alloc) | exact HK.out))) : w.heap.size ≤ gb411)); have n5_ := M.A_ ((Nat.le_trans HW0.out (by rw [hg]; exact (keep_size (w := w) (g := g) (row := none) (by repeat (first | (with_reducible first | exact HK.out | apply KeepBut.set_ | apply keep_drewN | apply keep_drew | apply keep_alloc) | exact HK.out))) : w.heap.size ≤ gb411) : w0.heap.size ≤ gb411)); have n6_ := M.A_ ((by rw [hg]; exact Nat.ne_of_lt (IsS69.lt (show IsS69 w0 _ g s0_0 s0_1 s0_2 from by repeat (first | (with_reducible first | exact HI0.out | apply IsS69.alloc | apply IsS69.drewN | apply IsS69.drew | apply IsS69.set_1 | apply IsS69.set_2) | exact HI0.out))) : g ≠ gb411)); have n7_ := M.A_ ((by rw [hg]; exact Nat.ne_of_gt (IsS69.lt (show IsS69 w0 _ g s0_0 s0_1 s0_2 from by repeat (first | (with_reducible first | exact HI0.out | apply IsS69.alloc | apply IsS69.drewN | apply IsS69.drew | apply IsS69.set_1 | apply IsS69.set_2) | exact HI0.out))) : gb411 ≠ g)); clear HI0; clear HK; clear HB; have HI0 := n0_; have HK := n1_; have HB := n2_; have BK411 := n3_; have GW411 := n4_; have GE411 := n5_; have NB0_411 := n6_; have NB411_0 := n7_; clear n0_ n1_ n2_ n3_ n4_ n5_ n6_ n7_; clear hb hbox hg) | ((with_reducible refine gate_callee (f := 37) rfl ?_); refine goesL_ (some 8) rfl rfl Try.func37 (by kernel_rfl) rfl #[.pointer (some ⟨g, 0, none⟩), .int .i64 4] rfl (by first | rfl | (simp only [M.mt, M.mc, M.mn, M.ld, M.lt]; rfl)) ?_; (with_reducible refine (spec_l1Below.calls g s0_0 s0_1 s0_2 4 t412 t413 t414 w0 _ ?side1 ?side2 A2.out).mono ?_); (case side1 => repeat (first | (with_reducible first | exact HI0.out | apply IsS69.alloc | apply IsS69.drewN | apply IsS69.drew | apply IsS69.set_1 | apply IsS69.set_2 | refine IsS69.far ?_ NB0_411.out _) | exact HI0.out)); (case side2 => repeat (first | (with_reducible first | exact HB.out | apply M.ba | apply M.pd | apply below_drew1 | refine below_set ?_ (IsS69.ge HI0.out) | refine below_set ?_ GE411.out) | exact HB.out)); rintro e w21 ⟨rfl, hi, hb, hk⟩; refine ⟨_, rfl, ?_⟩; have n0_ := M.A_ (KeepBut.blk hk (g' := gb411) (o := .cells #[.int .i64 0, .int .i64 0] 25 (0, 0)) (M.Lb BK411) NB411_0.out (by simp)); have n1_ := M.A_ (KeepBut.trans (by repeat (first | (with_reducible first | exact HK.out | apply KeepBut.set_ | apply keep_drewN | apply keep_drew | apply keep_alloc | refine keep_far ?_ GW411.out _) | exact HK.out)) hk (.inl rfl)); have n2_ := M.A_ (hb); have n3_ := M.A_ (hi); clear BK411; clear HK; clear HB; clear HI0; have BK411 := n0_; have HK := n1_; have HB := n2_; have HI0 := n3_; clear n0_ n1_ n2_ n3_; (try clear hb); (try clear hb2); (try clear hk); (try clear hi)))
   go_loopg [3, 4] k (fun kq v3 v4 w' => ∃ (x3_1 : Int) (x4_1 : Int), v3 = .int .i64 x3_1 ∧ v4 = .int .i64 x4_1 ∧ Aside0 (spec_l12Bent.l0 kq x3_1 x4_1 s0_0 t413 t414 = some (r1, r2, r3, r4)) ∧ Aside0 (kq ≤ k) ∧ Aside0 (w'.heap[gb411]? = some (.cells #[.int .i64 0, .int .i64 0] 25 (0, 0))) ∧ Aside0 (IsS69 w0 w' g s0_0 t413 t414) ∧ Aside0 (KeepBut w w' g none) ∧ Aside0 (Below w0.heap.size w0 w'))
   case atStart => exact ⟨(0), (0), (by first | rfl | (simp; done) | (simp [*]; done)), (by first | rfl | (simp; done) | (simp [*]; done)), H', ⟨Nat.le_refl _⟩, ⟨M.Lb BK411⟩, ⟨by repeat (first | (with_reducible first | exact HI0.out | apply IsS69.alloc | apply IsS69.drewN | apply IsS69.drew | apply IsS69.set_1 | apply IsS69.set_2 | refine IsS69.far ?_ NB0_411.out _) | exact HI0.out)⟩, ⟨by repeat (first | (with_reducible first | exact HK.out | apply KeepBut.set_ | apply keep_drewN | apply keep_drew | apply keep_alloc | refine keep_far ?_ GW411.out _) | exact HK.out)⟩, ⟨by repeat (first | (with_reducible first | exact HB.out | apply M.ba | apply M.pd | apply below_drew1 | refine below_set ?_ (IsS69.ge HI0.out) | refine below_set ?_ GE411.out) | exact HB.out)⟩⟩
   case round =>
    clear H'; (try clear c1); (try clear p2); (try clear c3); (try clear c3b0); (try clear c3b1); (try clear c6); (try clear c8); (try clear c10); (try clear c10b0); (try clear c10b1); (try clear c18); (try clear hcz19_0); (try clear hcz19_1); (try clear hcz9_0); (try clear hcz9_1); (try clear hfz19_0); (try clear hfz19_1); (try clear hfz9_0); (try clear hfz9_1); obtain ⟨x3_1, x4_1, rfl, rfl, HA, HK1, BK411, HI0, HK, HB⟩ := hrel
    cases gk with
    | zero => exact absurd HA.out (by simp [spec_l12Bent.l0])
    | succ k1 =>
     have H := HA.out
     clear HA
     simp only [spec_l12Bent.l0] at H
     by_cases c22 : x4_1 < 16
     ·rw [if_pos c22] at H
      have c22b0 : decide (x4_1 < 16) = true := decide_eq_true c22
      clear c22
      by_cases c23 : 0 ≤ x4_1
      ·rw [if_pos c23] at H
       have c23b0 := eq_true c23
       have c23b1 : decide (0 ≤ x4_1) = true := decide_eq_true c23
       clear c23
       obtain ⟨ji24, hji24⟩ : ∃ j_ : Int, (shl .i64 (Go.bits .xor .i64 (Go.bits .and .i64 (Go.bits .and .i64 x4_1 1) (x4_1 / 2)) (Go.bits .and .i64 (Go.bits .and .i64 (x4_1 / 4) 1) (x4_1 / 8))) x4_1) = j_ := ⟨_, rfl⟩
       replace H : (spec_l12Bent.l0 k1 (Go.bits .or .i64 x3_1 (ji24)) (wrap64 (x4_1 + 1)) s0_0 t413 t414) = some (r1, r2, r3, r4) := by first | (rw [hji24] at H; exact H) | (simp only [hji24] at H ⊢; exact H)
       have hji24_ : (IntKind.i64.wrap ((Go.bits .xor .i64 (Go.bits .and .i64 (Go.bits .and .i64 x4_1 1) (x4_1 / 2)) (Go.bits .and .i64 (Go.bits .and .i64 (x4_1 / 4) 1) (x4_1 / 8))) * 2 ^ min x4_1.toNat 64)) = ji24 := hji24
       have hji24z : x4_1 ≤ 64 → (IntKind.i64.wrap ((Go.bits .xor .i64 (Go.bits .and .i64 (Go.bits .and .i64 x4_1 1) (x4_1 / 2)) (Go.bits .and .i64 (Go.bits .and .i64 (x4_1 / 4) 1) (x4_1 / 8))) * 2 ^ x4_1.toNat)) = ji24 := shl_small hji24
       have hji24y : (wrap64 ((Go.bits .xor .i64 (Go.bits .and .i64 (Go.bits .and .i64 x4_1 1) (x4_1 / 2)) (Go.bits .and .i64 (Go.bits .and .i64 (x4_1 / 4) 1) (x4_1 / 8))) * 2 ^ min x4_1.toNat 64)) = ji24 := (i64_w _).symm.trans hji24_
       have hji24x : x4_1 ≤ 64 → (wrap64 ((Go.bits .xor .i64 (Go.bits .and .i64 (Go.bits .and .i64 x4_1 1) (x4_1 / 2)) (Go.bits .and .i64 (Go.bits .and .i64 (x4_1 / 4) 1) (x4_1 / 8))) * 2 ^ x4_1.toNat)) = ji24 := fun h_ => (i64_w _).symm.trans (hji24z h_)
       have H' := M.A_ H
       clear H
       go_wp2
       go_roundg k1
       case measure => have := HK1.out; omega
       case rel => exact ⟨(Go.bits .or .i64 x3_1 (ji24)), (wrap64 (x4_1 + 1)), (by first | rfl | (simp; done) | (simp only [← hji24] <;> (first | rfl | simp)) | (simp [*]; done)), (by first | rfl | (simp; done) | (simp [*]; done)), H', ⟨by have := HK1.out; omega⟩, ⟨M.Lb BK411⟩, ⟨by repeat (first | (with_reducible first | exact HI0.out | apply IsS69.alloc | apply IsS69.drewN | apply IsS69.drew | apply IsS69.set_1 | apply IsS69.set_2 | refine IsS69.far ?_ NB0_411.out _) | exact HI0.out)⟩, ⟨by repeat (first | (with_reducible first | exact HK.out | apply KeepBut.set_ | apply keep_drewN | apply keep_drew | apply keep_alloc | refine keep_far ?_ GW411.out _) | exact HK.out)⟩, ⟨by repeat (first | (with_reducible first | exact HB.out | apply M.ba | apply M.pd | apply below_drew1 | refine below_set ?_ (IsS69.ge HI0.out) | refine below_set ?_ GE411.out) | exact HB.out)⟩⟩
      ·rw [if_neg c23] at H
       exact absurd H (by simp)
     ·rw [if_neg c22] at H
      have c22b0 : decide (x4_1 < 16) = false := decide_eq_false c22
      clear c22; obtain ⟨⟨t425, t426, t427⟩, A25, H⟩ := M.ob_ H; (try dsimp only at H); replace H := Option.bind_eq_some_iff.mp H; obtain ⟨⟨t428, t429⟩, A260, H⟩ := H
      replace H : (some (t428, t429, t426, t427)) = some (r1, r2, r3, r4) := H
      have A26 := M.A_ A260; clear A260
      simp only [Option.some.injEq, Prod.mk.injEq] at H
      obtain ⟨rfl, rfl, rfl, rfl⟩ := H
      go_wp2_with (first | ((with_reducible refine gate_callee (f := 37) rfl ?_); refine goesL_ (some 44) rfl rfl Try.func37 (by kernel_rfl) rfl #[.pointer (some ⟨g, 0, none⟩), .int .i64 16] rfl (by first | rfl | (simp only [M.mt, M.mc, M.mn, M.ld, M.lt]; rfl)) ?_; (with_reducible refine (spec_l1Below.calls g s0_0 t413 t414 16 t425 t426 t427 w0 _ ?side1 ?side2 A25.out).mono ?_); (case side1 => repeat (first | (with_reducible first | exact HI0.out | apply IsS69.alloc | apply IsS69.drewN | apply IsS69.drew | apply IsS69.set_1 | apply IsS69.set_2 | refine IsS69.far ?_ NB0_411.out _) | exact HI0.out)); (case side2 => repeat (first | (with_reducible first | exact HB.out | apply M.ba | apply M.pd | apply below_drew1 | refine below_set ?_ (IsS69.ge HI0.out) | refine below_set ?_ GE411.out) | exact HB.out)); rintro e w27 ⟨rfl, hi, hb, hk⟩; refine ⟨_, rfl, ?_⟩; have n0_ := M.A_ (KeepBut.blk hk (g' := gb411) (o := .cells #[.int .i64 0, .int .i64 0] 25 (0, 0)) (M.Lb BK411) NB411_0.out (by simp)); have n1_ := M.A_ (KeepBut.trans (by repeat (first | (with_reducible first | exact HK.out | apply KeepBut.set_ | apply keep_drewN | apply keep_drew | apply keep_alloc | refine keep_far ?_ GW411.out _) | exact HK.out)) hk (.inl rfl)); have n2_ := M.A_ (hb); have n3_ := M.A_ (hi); clear BK411; clear HK; clear HB; clear HI0; have BK411 := n0_; have HK := n1_; have HB := n2_; have HI0 := n3_; clear n0_ n1_ n2_ n3_; (try clear hb); (try clear hb2); (try clear hk); (try clear hi)) | ((with_reducible refine gate_callee (f := 72) rfl ?_); refine goesL_ (some 45) rfl rfl Try.func72 (by kernel_rfl) rfl #[.agg #[.int .i64 4, .int .i64 x3_1], .int .i64 t425] rfl (by first | rfl | (simp only [M.mt, M.mc, M.mn, M.ld, M.lt]; rfl)) ?_; (with_reducible refine (spec_l3Shift.calls k1 4 x3_1 t425 t428 t429 _ A26.out).mono ?_); rintro e w28 ⟨rfl, hb⟩; refine ⟨_, rfl, ?_⟩; have n0_ := M.A_ (blk_below (M.Lb BK411) hb); have n1_ := M.A_ (IsS69.below (by repeat (first | (with_reducible first | exact HI0.out | apply IsS69.alloc | apply IsS69.drewN | apply IsS69.drew | apply IsS69.set_1 | apply IsS69.set_2 | refine IsS69.far ?_ NB0_411.out _) | exact HI0.out)) hb); have n2_ := M.A_ (KeepBut.trans (by repeat (first | (with_reducible first | exact HK.out | apply KeepBut.set_ | apply keep_drewN | apply keep_drew | apply keep_alloc | refine keep_far ?_ GW411.out _) | exact HK.out)) (KeepBut.of_below hb g none) (.inl rfl)); have n3_ := M.A_ (below_step (by repeat (first | (with_reducible first | exact HB.out | apply M.ba | apply M.pd | apply below_drew1 | refine below_set ?_ (IsS69.ge HI0.out) | refine below_set ?_ GE411.out) | exact HB.out)) hb); clear BK411; clear HI0; clear HK; clear HB; have BK411 := n0_; have HI0 := n1_; have HK := n2_; have HB := n3_; clear n0_ n1_ n2_ n3_; (try clear hb); (try clear hb2); (try clear hk); (try clear hi); have hnb29 := NB411_0.out; have hnc29 := NB0_411.out; have hcz30_0 : w28.cell? ⟨gb411, 0, none⟩ = some (.int .i64 0) := (blk_cell BK411.out 0).trans rfl; have hcz30_1 : w28.cell? ⟨gb411, 1, none⟩ = some (.int .i64 0) := (blk_cell BK411.out 1).trans rfl; have hfz30_0 := blk_frozen BK411.out 0; have hfz30_1 := blk_frozen BK411.out 1))
      refine bodyPost_ret (results_cell_row rfl _ _ gb411 25 #[.int .i64 t428, .int .i64 t429] (0, 0) _ rfl (by (with_reducible repeat (first | refine blk_drewN ?_ _ | refine blk_drew ?_ | refine blk_alloc ?_ _)); refine blk_put (cs := #[.int .i64 t428, .int .i64 0]) ?_ 1 _ rfl; (with_reducible repeat (first | refine blk_drewN ?_ _ | refine blk_drew ?_ | refine blk_alloc ?_ _)); refine blk_put (cs := #[.int .i64 0, .int .i64 0]) ?_ 0 _ rfl; (with_reducible repeat (first | refine blk_drewN ?_ _ | refine blk_drew ?_ | refine blk_alloc ?_ _)); exact BK411.out) Try.underlying25 rfl (by kernel_rfl)) rfl ?_
      exact ⟨by first | rfl | (simp [*, errW_none, errW_some] <;> rfl), by repeat (first | (with_reducible first | exact HI0.out | apply IsS69.alloc | apply IsS69.drewN | apply IsS69.drew | apply IsS69.set_1 | apply IsS69.set_2 | refine IsS69.far ?_ NB0_411.out _) | exact HI0.out), by repeat (first | (with_reducible first | exact HB.out | apply M.ba | apply M.pd | apply below_drew1 | refine below_set ?_ (IsS69.ge HI0.out) | refine below_set ?_ GE411.out) | exact HB.out), by repeat (first | (with_reducible first | exact HK.out | apply KeepBut.set_ | apply keep_drewN | apply keep_drew | apply keep_alloc | refine keep_far ?_ GW411.out _) | exact HK.out)⟩
def spec_DrawSpectrumProfile.f (k : Nat) (l0 : List Int) : Option (Int × Int) := (spec_l1New.f k l0).bind fun bt431 => ((spec_l12Bent.f k bt431.1 bt431.2.1 bt431.2.2).bind fun bt435 => (some (bt435.1, bt435.2.1)))
theorem spec_DrawSpectrumProfile.calls (k : Nat) (A0 : Option Addr) (c0 : Nat) (l0 : List Int) (r1 : Int) (r2 : Int) (w : World) (hr0 : Kd.C (Kd.int .u8) w A0 l0.length l0) (hc0 : l0.length ≤ c0) (h : spec_DrawSpectrumProfile.f k l0 = some (r1, r2)) :
  Calls Try.prog 28 #[.slice A0 l0.length c0] w fun e w' => e = .returned (.agg #[.int .i64 r1, .int .i64 r2]) ∧ Below w.heap.size w w' := by
 have hu25 := Try.underlying25
 have HR0 := M.A_ hr0; have HC0 := M.A_ hc0; clear hr0 hc0
 have HB := M.A_ (Below.refl w.heap.size w)
 unfold spec_DrawSpectrumProfile.f at h; have H := h
 clear h; replace H := Option.bind_eq_some_iff.mp H; obtain ⟨⟨t431, t432, t433⟩, A20, H⟩ := H
 replace H : ((spec_l12Bent.f k t431 t432 t433).bind fun bt435 => (some (bt435.1, bt435.2.1))) = some (r1, r2) := H
 have A2 := M.A_ A20; clear A20; replace H := Option.bind_eq_some_iff.mp H; obtain ⟨⟨t435, t436, t437, t438⟩, A30, H⟩ := H
 replace H : (some (t435, t436)) = some (r1, r2) := H
 have A3 := M.A_ A30; clear A30
 simp only [Option.some.injEq, Prod.mk.injEq] at H
 obtain ⟨rfl, rfl⟩ := H
 go_enter Try.func28, Try.ntmps28
 go_wp2_with (first | ((with_reducible refine gate_dst (N := 2) rfl ?_); refine box_event ?hg (N := 2) ?hd (cs := #[.int .i64 0, .int .i64 0]) (t := 25) ?hr ?_; (case hd => rfl); (case hg => rfl); (case hr => first | (go_simp; done) | (go_simp; rfl)); intro gb430 hg w4 hbox hb; have n0_ := M.A_ (below_step (M.Lw HB) hb); have n1_ := M.A_ (hbox); have n2_ := M.A_ ((by rw [hg]; exact (below_size (M.Lw HB)) : w.heap.size ≤ gb430)); have n3_ := M.A_ ((by rw [hg]; exact (below_size (M.Lw HB)) : w.heap.size ≤ gb430)); clear HB; have HB := n0_; have BK430 := n1_; have GW430 := n2_; have GE430 := n3_; clear n0_ n1_ n2_ n3_; clear hb hbox hg) | ((with_reducible refine gate_callee (f := 34) rfl ?_); refine goesL_ (some 4) rfl rfl Try.func34 (by kernel_rfl) rfl #[.slice A0 l0.length c0] rfl (by first | rfl | (simp only [M.mt, M.mc, M.mn, M.ld, M.lt]; rfl)) ?_; (with_reducible refine (spec_l1New.calls k _ _ l0 t431 t432 t433 w _ ?side1 ?side2 ?side3 A2.out).mono ?_); (case side1 => repeat (first | (with_reducible first | exact HB.out | apply M.ba | apply M.pd | apply below_drew1 | refine below_set ?_ GE430.out) | exact HB.out)); (case side2 => exact HR0.out); (case side3 => exact HC0.out); rintro e w5 ⟨g434, rfl, hi, hb, hb2⟩; refine ⟨_, rfl, ?_⟩; have n0_ := M.A_ (blk_below (M.Lb BK430) hb2); have n1_ := M.A_ (hb); have n2_ := M.A_ (hi); have n3_ := M.A_ (IsS69.ne_blk hi (blk_below (M.Lb BK430) hb2) (by decide)); have n4_ := M.A_ (Ne.symm (IsS69.ne_blk hi (blk_below (M.Lb BK430) hb2) (by decide))); clear BK430; clear HB; have BK430 := n0_; have HB := n1_; have HI434 := n2_; have NB434_430 := n3_; have NB430_434 := n4_; clear n0_ n1_ n2_ n3_ n4_; (try clear hb); (try clear hb2); (try clear hk); (try clear hi)) | ((with_reducible refine gate_callee (f := 61) rfl ?_); refine goesL_ (some 5) rfl rfl Try.func61 (by kernel_rfl) rfl #[.pointer (some ⟨g434, 0, none⟩)] rfl (by first | rfl | (simp only [M.mt, M.mc, M.mn, M.ld, M.lt]; rfl)) ?_; (with_reducible refine (spec_l12Bent.calls k g434 t431 t432 t433 t435 t436 t437 t438 w _ ?side1 ?side2 A3.out).mono ?_); (case side1 => repeat (first | (with_reducible first | exact HI434.out | apply IsS69.alloc | apply IsS69.drewN | apply IsS69.drew | apply IsS69.set_1 | apply IsS69.set_2 | refine IsS69.far ?_ NB434_430.out _) | exact HI434.out)); (case side2 => repeat (first | (with_reducible first | exact HB.out | apply M.ba | apply M.pd | apply below_drew1 | refine below_set ?_ (IsS69.ge HI434.out) | refine below_set ?_ GE430.out) | exact HB.out)); rintro e w6 ⟨rfl, hi, hb, hk⟩; refine ⟨_, rfl, ?_⟩; have n0_ := M.A_ (KeepBut.blk hk (g' := gb430) (o := .cells #[.int .i64 0, .int .i64 0] 25 (0, 0)) (M.Lb BK430) NB430_434.out (by simp)); have n1_ := M.A_ (hb); have n2_ := M.A_ (hi); clear BK430; clear HB; clear HI434; have BK430 := n0_; have HB := n1_; have HI434 := n2_; clear n0_ n1_ n2_; (try clear hb); (try clear hb2); (try clear hk); (try clear hi); have hnb7 := NB430_434.out; have hnc7 := NB434_430.out; have hcz8_0 : w6.cell? ⟨gb430, 0, none⟩ = some (.int .i64 0) := (blk_cell BK430.out 0).trans rfl; have hcz8_1 : w6.cell? ⟨gb430, 1, none⟩ = some (.int .i64 0) := (blk_cell BK430.out 1).trans rfl; have hfz8_0 := blk_frozen BK430.out 0; have hfz8_1 := blk_frozen BK430.out 1))
 refine bodyPost_ret (results_cell_row rfl _ _ gb430 25 #[.int .i64 t435, .int .i64 t436] (0, 0) _ rfl (by (with_reducible repeat (first | refine blk_drewN ?_ _ | refine blk_drew ?_ | refine blk_alloc ?_ _)); refine blk_put (cs := #[.int .i64 t435, .int .i64 0]) ?_ 1 _ rfl; (with_reducible repeat (first | refine blk_drewN ?_ _ | refine blk_drew ?_ | refine blk_alloc ?_ _)); refine blk_put (cs := #[.int .i64 0, .int .i64 0]) ?_ 0 _ rfl; (with_reducible repeat (first | refine blk_drewN ?_ _ | refine blk_drew ?_ | refine blk_alloc ?_ _)); exact BK430.out) Try.underlying25 rfl (by kernel_rfl)) rfl ?_
 exact ⟨by first | rfl | (simp [*, errW_none, errW_some] <;> rfl), by repeat (first | (with_reducible first | exact HB.out | apply M.ba | apply M.pd | apply below_drew1 | refine below_set ?_ (IsS69.ge HI434.out) | refine below_set ?_ GE430.out) | exact HB.out)⟩
def spec_MapInput.f (k : Nat) (a0 : Int) (l1 : List Int) (a2 : Int) (a3 : Int) : Option (Int) := (spec_IsInvertible.f k a0 l1).bind fun t439 => (if t439 = true then (if 0 ≤ a0 then ((spec_l1In.f a2 0 (wrap64 ((shl .i64 1 a0) - 1))).bind fun t440 => (if t440 = true then ((spec_l1In.f a3 0 (wrap64 ((shl .i64 1 a0) - 1))).bind fun t441 => (if t441 = true then ((spec_l27Apply.f k l1 a3).bind fun t442 => (some (Go.bits .xor .i64 t442 a2))) else (some (-1)))) else (some (-1)))) else (none)) else (some (-1)))
theorem spec_MapInput.calls (k : Nat) (a0 : Int) (A1 : Option Addr) (c1 : Nat) (l1 : List Int) (a2 : Int) (a3 : Int) (r : Int) (w : World) (hr1 : Kd.C (Kd.int .i64) w A1 l1.length l1) (hc1 : l1.length ≤ c1) (h : spec_MapInput.f k a0 l1 a2 a3 = some r) :
  Calls Try.prog 29 #[.int .i64 a0, .slice A1 l1.length c1, .int .i64 a2, .int .i64 a3] w fun e w' => e = .returned (.int .i64 r) ∧ Below w.heap.size w w' := by
 have HR1 := M.A_ hr1; have HC1 := M.A_ hc1; clear hr1 hc1
 have HB := M.A_ (Below.refl w.heap.size w)
 unfold spec_MapInput.f at h; have H := h
 clear h; obtain ⟨t439, A5, H⟩ := M.ob_ H; (try dsimp only at H)
 by_cases c6 : t439 = true
 ·subst c6
  rw [if_pos rfl] at H; (try dsimp only at H)
  by_cases c7 : 0 ≤ a0
  ·rw [if_pos c7] at H
   have c7b0 := eq_true c7
   have c7b1 : decide (0 ≤ a0) = true := decide_eq_true c7
   clear c7
   obtain ⟨ji8, hji8⟩ : ∃ j_ : Int, (shl .i64 1 a0) = j_ := ⟨_, rfl⟩
   replace H : ((spec_l1In.f a2 0 (wrap64 ((ji8) - 1))).bind fun t440 => (if t440 = true then ((spec_l1In.f a3 0 (wrap64 ((ji8) - 1))).bind fun t441 => (if t441 = true then ((spec_l27Apply.f k l1 a3).bind fun t442 => (some (Go.bits .xor .i64 t442 a2))) else (some (-1)))) else (some (-1)))) = some r := by first | (rw [hji8] at H; exact H) | (simp only [hji8] at H ⊢; exact H)
   (try rw [hji8] at A5)
   have hji8_ : (IntKind.i64.wrap (1 * 2 ^ min a0.toNat 64)) = ji8 := hji8
   have hji8z : a0 ≤ 64 → (IntKind.i64.wrap (1 * 2 ^ a0.toNat)) = ji8 := shl_small hji8
   have hji8u : (IntKind.i64.wrap (2 ^ min a0.toNat 64)) = ji8 := by have h_ := hji8_; rw [Int.one_mul] at h_; exact h_
   have hji8v : a0 ≤ 64 → (IntKind.i64.wrap (2 ^ a0.toNat)) = ji8 := fun hle_ => by have h_ := hji8z hle_; rw [Int.one_mul] at h_; exact h_
   have hji8y : (wrap64 (1 * 2 ^ min a0.toNat 64)) = ji8 := (i64_w _).symm.trans hji8_
   have hji8x : a0 ≤ 64 → (wrap64 (1 * 2 ^ a0.toNat)) = ji8 := fun h_ => (i64_w _).symm.trans (hji8z h_)
   obtain ⟨t440, A9, H⟩ := M.ob_ H; (try dsimp only at H)
   by_cases c10 : t440 = true
   ·subst c10
    rw [if_pos rfl] at H; (try dsimp only at H)
    have c11b0 := eq_true (of_decide_eq_true (by first | (with_reducible assumption) | assumption) : 0 ≤ a0)
    obtain ⟨t441, A12, H⟩ := M.ob_ H; (try dsimp only at H)
    by_cases c13 : t441 = true
    ·subst c13
     rw [if_pos rfl] at H; (try dsimp only at H); replace H := Option.bind_eq_some_iff.mp H; obtain ⟨t442, A140, H⟩ := H
     replace H : (some (Go.bits .xor .i64 t442 a2)) = some r := H
     have A14 := M.A_ A140; clear A140
     obtain rfl := Option.some.inj H
     go_enter Try.func29, Try.ntmps29
     go_wp2_with (first | ((with_reducible refine gate_callee (f := 30) rfl ?_); refine goesL_ (some 11) rfl rfl Try.func30 (by kernel_rfl) rfl #[.int .i64 a0, .slice A1 l1.length c1] rfl (by first | rfl | (simp only [M.mt, M.mc, M.mn, M.ld, M.lt]; rfl)) ?_; (with_reducible refine (spec_IsInvertible.calls k a0 _ _ l1 true _ ?side1 ?side2 A5.out).mono ?_); (case side1 => exact M.Lc HR1.out); (case side2 => exact HC1.out); rintro e w15 ⟨rfl, hb⟩; refine ⟨_, rfl, ?_⟩; have n0_ := M.A_ (below_step (M.Lw HB) hb); clear HB; have HB := n0_; clear n0_; (try clear hb); (try clear hb2); (try clear hk); (try clear hi)) | (go_at_call 44; (with_reducible refine (spec_l1In.calls a2 0 (wrap64 ((ji8) - 1)) true _ A9.out).mono ?_); rintro e w' ⟨rfl, ⟨nd, rfl⟩⟩) | (go_at_call 44; (with_reducible refine (spec_l1In.calls a3 0 (wrap64 ((ji8) - 1)) true _ A12.out).mono ?_); rintro e w' ⟨rfl, ⟨nd, rfl⟩⟩) | ((with_reducible refine gate_callee (f := 45) rfl ?_); refine goesL_ (some 31) rfl rfl Try.func45 (by kernel_rfl) rfl #[.slice A1 l1.length c1, .int .i64 a3] rfl (by first | rfl | (simp only [M.mt, M.mc, M.mn, M.ld, M.lt]; rfl)) ?_; (with_reducible refine (spec_l27Apply.calls k _ _ l1 a3 t442 _ ?side1 ?side2 A14.out).mono ?_); (case side1 => repeat (first | exact (Kd.C_below HR1.out (M.Lw HB)) | (with_reducible refine Kd.C_alloc ?_ _) | (with_reducible refine Kd.C_drewN ?_ _) | (with_reducible refine Kd.C_drew ?_))); (case side2 => exact HC1.out); rintro e w' ⟨rfl, ⟨nd, rfl⟩⟩; refine ⟨_, rfl, ?_⟩))
     go_ret
     exact ⟨by first | rfl | (simp [errW_none, errW_some] <;> rfl) | (simp only [← hji8]; first | rfl | (simp [errW_none, errW_some] <;> rfl)) | (simp [*, errW_none, errW_some] <;> rfl), M.Lw HB⟩
    ·replace c13 := Bool.eq_false_iff.mpr c13
     subst c13
     rw [if_neg (show ¬ (false = true) by decide)] at H; (try dsimp only at H)
     obtain rfl := Option.some.inj H
     go_enter Try.func29, Try.ntmps29
     go_wp2_with (first | ((with_reducible refine gate_callee (f := 30) rfl ?_); refine goesL_ (some 11) rfl rfl Try.func30 (by kernel_rfl) rfl #[.int .i64 a0, .slice A1 l1.length c1] rfl (by first | rfl | (simp only [M.mt, M.mc, M.mn, M.ld, M.lt]; rfl)) ?_; (with_reducible refine (spec_IsInvertible.calls k a0 _ _ l1 true _ ?side1 ?side2 A5.out).mono ?_); (case side1 => exact M.Lc HR1.out); (case side2 => exact HC1.out); rintro e w16 ⟨rfl, hb⟩; refine ⟨_, rfl, ?_⟩; have n0_ := M.A_ (below_step (M.Lw HB) hb); clear HB; have HB := n0_; clear n0_; (try clear hb); (try clear hb2); (try clear hk); (try clear hi)) | (go_at_call 44; (with_reducible refine (spec_l1In.calls a2 0 (wrap64 ((ji8) - 1)) true _ A9.out).mono ?_); rintro e w' ⟨rfl, ⟨nd, rfl⟩⟩) | (go_at_call 44; (with_reducible refine (spec_l1In.calls a3 0 (wrap64 ((ji8) - 1)) false _ A12.out).mono ?_); rintro e w' ⟨rfl, ⟨nd, rfl⟩⟩))
     go_ret
     exact ⟨by first | rfl | (simp [errW_none, errW_some] <;> rfl) | (simp only [← hji8]; first | rfl | (simp [errW_none, errW_some] <;> rfl)) | (simp [*, errW_none, errW_some] <;> rfl), M.Lw HB⟩
   ·replace c10 := Bool.eq_false_iff.mpr c10
    subst c10
    rw [if_neg (show ¬ (false = true) by decide)] at H; (try dsimp only at H)
    obtain rfl := Option.some.inj H
    go_enter Try.func29, Try.ntmps29
    go_wp2_with (first | ((with_reducible refine gate_callee (f := 30) rfl ?_); refine goesL_ (some 11) rfl rfl Try.func30 (by kernel_rfl) rfl #[.int .i64 a0, .slice A1 l1.length c1] rfl (by first | rfl | (simp only [M.mt, M.mc, M.mn, M.ld, M.lt]; rfl)) ?_; (with_reducible refine (spec_IsInvertible.calls k a0 _ _ l1 true _ ?side1 ?side2 A5.out).mono ?_); (case side1 => exact M.Lc HR1.out); (case side2 => exact HC1.out); rintro e w17 ⟨rfl, hb⟩; refine ⟨_, rfl, ?_⟩; have n0_ := M.A_ (below_step (M.Lw HB) hb); clear HB; have HB := n0_; clear n0_; (try clear hb); (try clear hb2); (try clear hk); (try clear hi)) | (go_at_call 44; (with_reducible refine (spec_l1In.calls a2 0 (wrap64 ((ji8) - 1)) false _ A9.out).mono ?_); rintro e w' ⟨rfl, ⟨nd, rfl⟩⟩))
    go_ret
    exact ⟨by first | rfl | (simp [errW_none, errW_some] <;> rfl) | (simp only [← hji8]; first | rfl | (simp [errW_none, errW_some] <;> rfl)) | (simp [*, errW_none, errW_some] <;> rfl), M.Lw HB⟩
  ·rw [if_neg c7] at H
   exact absurd H (by simp)
 ·replace c6 := Bool.eq_false_iff.mpr c6
  subst c6
  rw [if_neg (show ¬ (false = true) by decide)] at H; (try dsimp only at H)
  obtain rfl := Option.some.inj H
  go_enter Try.func29, Try.ntmps29
  go_wp2_with (first | ((with_reducible refine gate_callee (f := 30) rfl ?_); refine goesL_ (some 11) rfl rfl Try.func30 (by kernel_rfl) rfl #[.int .i64 a0, .slice A1 l1.length c1] rfl (by first | rfl | (simp only [M.mt, M.mc, M.mn, M.ld, M.lt]; rfl)) ?_; (with_reducible refine (spec_IsInvertible.calls k a0 _ _ l1 false _ ?side1 ?side2 A5.out).mono ?_); (case side1 => exact M.Lc HR1.out); (case side2 => exact HC1.out); rintro e w18 ⟨rfl, hb⟩; refine ⟨_, rfl, ?_⟩; have n0_ := M.A_ (below_step (M.Lw HB) hb); clear HB; have HB := n0_; clear n0_; (try clear hb); (try clear hb2); (try clear hk); (try clear hi)))
  go_ret
  exact ⟨by first | rfl | (simp [*, errW_none, errW_some] <;> rfl), M.Lw HB⟩
def impl_CountInvertible.l0 : Nat → Int → Int → Int → Int → Option (Int)
 | 0, _, _, _, _ => none
 | k + 1, x0, x3, x8, x9 => if x9 < x8 then (if 0 ≤ x0 then (if 0 ≤ x9 then (impl_CountInvertible.l0 k x0 (wrap64 (x3 * (wrap64 ((shl .i64 1 x0) - (shl .i64 1 x9))))) x8 (wrap64 (x9 + 1))) else (none)) else (none)) else (some x3)
def impl_CountInvertible.f (k : Nat) (a0 : Int) : Option (Int) := (impl_isBits.f a0).bind fun t443 => (if t443 = true then (impl_CountInvertible.l0 k a0 1 a0 0) else (some (-1)))
theorem impl_CountInvertible.mono_l : ∀ k, (∀ y0 y1 y2 y3, LeO (impl_CountInvertible.l0 k y0 y1 y2 y3) (impl_CountInvertible.l0 (k + 1) y0 y1 y2 y3))
 | 0 => fun _ _ _ _ r h => by simp [impl_CountInvertible.l0] at h
 | k + 1 => by
  have ih0 := impl_CountInvertible.mono_l k
  ·intro y0 y1 y2 y3
   unfold impl_CountInvertible.l0
   repeat' first
   | (with_reducible exact ih0 _ _ _ _)
   | (with_reducible exact LeO.refl _)
   | (with_reducible exact LeO.none _)
   | (with_reducible refine LeO.ite ?_ ?_)
   | (with_reducible refine LeO.bind ?_ (fun _ => ?_))
   | exact ih0 _ _ _ _
   | exact LeO.none _
   | refine LeO.ite ?_ ?_
   | refine LeO.bind ?_ (fun _ => ?_)
theorem impl_CountInvertible.mono : ∀ a0 k, LeO (impl_CountInvertible.f k a0) (impl_CountInvertible.f (k + 1) a0) := by
 intro a0 k
 have ih0 := impl_CountInvertible.mono_l k
 unfold impl_CountInvertible.f
 repeat' first
   | (with_reducible exact ih0 _ _ _ _)
   | (with_reducible exact LeO.refl _)
   | (with_reducible exact LeO.none _)
   | (with_reducible refine LeO.ite ?_ ?_)
   | (with_reducible refine LeO.bind ?_ (fun _ => ?_))
   | exact ih0 _ _ _ _
   | exact LeO.none _
   | refine LeO.ite ?_ ?_
   | refine LeO.bind ?_ (fun _ => ?_)
theorem impl_CountInvertible.calls (k : Nat) (a0 : Int) (r : Int) (w : World) (h : impl_CountInvertible.f k a0 = some r) :
  Calls Try.prog 31 #[.int .i64 a0] w fun e w' => e = .returned (.int .i64 r) ∧ Drawn0 w w' := by
 unfold impl_CountInvertible.f at h; have H := h
 clear h; replace H := Option.bind_eq_some_iff.mp H; obtain ⟨t443, A20, H⟩ := H
 replace H : (if t443 = true then (impl_CountInvertible.l0 k a0 1 a0 0) else (some (-1))) = some r := H
 have A2 := M.A_ A20; clear A20
 by_cases c3 : t443 = true
 ·subst c3
  rw [if_pos rfl] at H; (try dsimp only at H)
  have H' := M.A_ H
  clear H
  go_enter Try.func31, Try.ntmps31
  go_wp2_with (first | (go_at_call 58; (with_reducible refine (impl_isBits.calls a0 true _ A2.out).mono ?_); rintro e w' ⟨rfl, ⟨nd, rfl⟩⟩; (try first | exact ⟨rfl, _, World.drewN_drewN _ _ _⟩ | exact ⟨rfl, _, Eq.trans (World.drewN_drewN _ _ _) (congrArg (World.drewN _) (Nat.add_assoc _ _ _))⟩)))
  repeat (go_quiet (first | (go_at_call 58; (with_reducible refine (impl_isBits.calls a0 true _ A2.out).mono ?_); rintro e w' ⟨rfl, ⟨nd, rfl⟩⟩; (try first | exact ⟨rfl, _, World.drewN_drewN _ _ _⟩ | exact ⟨rfl, _, Eq.trans (World.drewN_drewN _ _ _) (congrArg (World.drewN _) (Nat.add_assoc _ _ _))⟩))); try go_wp2_with (first | (go_at_call 58; (with_reducible refine (impl_isBits.calls a0 true _ A2.out).mono ?_); rintro e w' ⟨rfl, ⟨nd, rfl⟩⟩; (try first | exact ⟨rfl, _, World.drewN_drewN _ _ _⟩ | exact ⟨rfl, _, Eq.trans (World.drewN_drewN _ _ _) (congrArg (World.drewN _) (Nat.add_assoc _ _ _))⟩))))
  go_loopg [3, 9] k (fun kq v3 v9 w' => ∃ (x3_1 : Int) (x9_1 : Int), v3 = .int .i64 x3_1 ∧ v9 = .int .i64 x9_1 ∧ Aside0 (impl_CountInvertible.l0 kq a0 x3_1 a0 x9_1 = some r) ∧ Aside0 (kq ≤ k) ∧ Drawn0 w w')
  case atStart => exact ⟨(1), (0), (by first | rfl | (simp; done) | (simp [*]; done)), (by first | rfl | (simp; done) | (simp [*]; done)), H', ⟨Nat.le_refl _⟩, by repeat (first | exact Drawn0.refl _ | apply Drawn0.step)⟩
  case round =>
   clear H'; (try clear p2); (try clear c3)
   obtain ⟨x3_1, x9_1, rfl, rfl, HA, HK1, ⟨m1, rfl⟩⟩ := hrel
   cases gk with
   | zero => exact absurd HA.out (by simp [impl_CountInvertible.l0])
   | succ k1 =>
    have H := HA.out
    clear HA
    simp only [impl_CountInvertible.l0] at H
    by_cases c4 : x9_1 < a0
    ·rw [if_pos c4] at H
     have c4b0 : decide (x9_1 < a0) = true := decide_eq_true c4
     clear c4
     by_cases c5 : 0 ≤ a0
     ·rw [if_pos c5] at H
      have c5b0 := eq_true c5
      have c5b1 : decide (0 ≤ a0) = true := decide_eq_true c5
      clear c5
      obtain ⟨ji6, hji6⟩ : ∃ j_ : Int, (shl .i64 1 a0) = j_ := ⟨_, rfl⟩
      replace H : (if 0 ≤ x9_1 then (impl_CountInvertible.l0 k1 a0 (wrap64 (x3_1 * (wrap64 ((ji6) - (shl .i64 1 x9_1))))) a0 (wrap64 (x9_1 + 1))) else (none)) = some r := by first | (rw [hji6] at H; exact H) | (simp only [hji6] at H ⊢; exact H)
      have hji6_ : (IntKind.i64.wrap (1 * 2 ^ min a0.toNat 64)) = ji6 := hji6
      have hji6z : a0 ≤ 64 → (IntKind.i64.wrap (1 * 2 ^ a0.toNat)) = ji6 := shl_small hji6
      have hji6u : (IntKind.i64.wrap (2 ^ min a0.toNat 64)) = ji6 := by have h_ := hji6_; rw [Int.one_mul] at h_; exact h_
      have hji6v : a0 ≤ 64 → (IntKind.i64.wrap (2 ^ a0.toNat)) = ji6 := fun hle_ => by have h_ := hji6z hle_; rw [Int.one_mul] at h_; exact h_
      have hji6y : (wrap64 (1 * 2 ^ min a0.toNat 64)) = ji6 := (i64_w _).symm.trans hji6_
      have hji6x : a0 ≤ 64 → (wrap64 (1 * 2 ^ a0.toNat)) = ji6 := fun h_ => (i64_w _).symm.trans (hji6z h_)
      by_cases c7 : 0 ≤ x9_1
      ·rw [if_pos c7] at H
       have c7b0 := eq_true c7
       have c7b1 : decide (0 ≤ x9_1) = true := decide_eq_true c7
       clear c7
       obtain ⟨ji8, hji8⟩ : ∃ j_ : Int, (shl .i64 1 x9_1) = j_ := ⟨_, rfl⟩
       replace H : (impl_CountInvertible.l0 k1 a0 (wrap64 (x3_1 * (wrap64 ((ji6) - (ji8))))) a0 (wrap64 (x9_1 + 1))) = some r := by first | (rw [hji8] at H; exact H) | (simp only [hji8] at H ⊢; exact H)
       have hji8_ : (IntKind.i64.wrap (1 * 2 ^ min x9_1.toNat 64)) = ji8 := hji8
       have hji8z : x9_1 ≤ 64 → (IntKind.i64.wrap (1 * 2 ^ x9_1.toNat)) = ji8 := shl_small hji8
       have hji8u : (IntKind.i64.wrap (2 ^ min x9_1.toNat 64)) = ji8 := by have h_ := hji8_; rw [Int.one_mul] at h_; exact h_
       have hji8v : x9_1 ≤ 64 → (IntKind.i64.wrap (2 ^ x9_1.toNat)) = ji8 := fun hle_ => by have h_ := hji8z hle_; rw [Int.one_mul] at h_; exact h_
       have hji8y : (wrap64 (1 * 2 ^ min x9_1.toNat 64)) = ji8 := (i64_w _).symm.trans hji8_
       have hji8x : x9_1 ≤ 64 → (wrap64 (1 * 2 ^ x9_1.toNat)) = ji8 := fun h_ => (i64_w _).symm.trans (hji8z h_)
       have H' := M.A_ H
       clear H
       go_wp2
       repeat (go_quiet (fail); try go_wp2)
       go_roundg k1
       case measure => have := HK1.out; omega
       case rel => exact ⟨(wrap64 (x3_1 * (wrap64 ((ji6) - (ji8))))), (wrap64 (x9_1 + 1)), (by first | rfl | (simp; done) | (simp only [← hji6, ← hji8] <;> (first | rfl | simp)) | (simp [*]; done)), (by first | rfl | (simp; done) | (simp [*]; done)), H', ⟨by have := HK1.out; omega⟩, by repeat (first | exact Drawn0.refl _ | apply Drawn0.step)⟩
      ·rw [if_neg c7] at H
       exact absurd H (by simp)
     ·rw [if_neg c5] at H
      exact absurd H (by simp)
    ·rw [if_neg c4] at H
     have c4b0 : decide (x9_1 < a0) = false := decide_eq_false c4
     clear c4
     obtain rfl := Option.some.inj H
     go_wp2
     repeat (go_quiet (fail); try go_wp2)
     go_ret
     exact ⟨by first | rfl | (simp; done) | (simp [*]; done), by repeat (first | exact Drawn0.refl _ | apply Drawn0.step)⟩
 ·replace c3 := Bool.eq_false_iff.mpr c3
  subst c3
  rw [if_neg (show ¬ (false = true) by decide)] at H; (try dsimp only at H)
  obtain rfl := Option.some.inj H
  go_enter Try.func31, Try.ntmps31
  go_wp2_with (first | (go_at_call 58; (with_reducible refine (impl_isBits.calls a0 false _ A2.out).mono ?_); rintro e w' ⟨rfl, ⟨nd, rfl⟩⟩; (try first | exact ⟨rfl, _, World.drewN_drewN _ _ _⟩ | exact ⟨rfl, _, Eq.trans (World.drewN_drewN _ _ _) (congrArg (World.drewN _) (Nat.add_assoc _ _ _))⟩)))
  repeat (go_quiet (first | (go_at_call 58; (with_reducible refine (impl_isBits.calls a0 false _ A2.out).mono ?_); rintro e w' ⟨rfl, ⟨nd, rfl⟩⟩; (try first | exact ⟨rfl, _, World.drewN_drewN _ _ _⟩ | exact ⟨rfl, _, Eq.trans (World.drewN_drewN _ _ _) (congrArg (World.drewN _) (Nat.add_assoc _ _ _))⟩))); try go_wp2_with (first | (go_at_call 58; (with_reducible refine (impl_isBits.calls a0 false _ A2.out).mono ?_); rintro e w' ⟨rfl, ⟨nd, rfl⟩⟩; (try first | exact ⟨rfl, _, World.drewN_drewN _ _ _⟩ | exact ⟨rfl, _, Eq.trans (World.drewN_drewN _ _ _) (congrArg (World.drewN _) (Nat.add_assoc _ _ _))⟩))))
  go_ret
  exact ⟨by first | rfl | (simp; done) | (simp [*]; done), by repeat (first | exact Drawn0.refl _ | apply Drawn0.step)⟩
end Go.Proofs.Ytodfifkgohjpfaa.Print
