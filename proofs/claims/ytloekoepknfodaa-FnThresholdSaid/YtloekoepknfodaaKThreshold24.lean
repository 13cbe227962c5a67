import Derived.Test.YtloekoepknfodaaKThreshold2
import Derived.Test.YtloekoepknfodaaKThreshold6
import Derived.Test.YtloekoepknfodaaKThreshold8
import Derived.Test.YtloekoepknfodaaKThreshold18
import Derived.Test.YtloekoepknfodaaM40
import Derived.Shelf.GgClosure.Gives
namespace Go.Proofs.Ytloekoepknfodaa.Print
open Go.RowKit Go.Proofs.YtloekoepknfodaaW.PrintWords Go.Proofs.YtloekoepknfodaaW.PrintLast Go.Proofs.YtloekoepknfodaaW.PrintMore
attribute [local go_sem] max2_int min2_int max_two min_two max_three min_three max_four min_four   -- for this text's walks alone
set_option linter.unusedVariables false
set_option linter.unusedSimpArgs false
def impl_ChowNumbers.l0 : Nat → List Int → Int → Int → Int → Int → Option (List Int)
 | 0, _, _, _, _, _ => none
 | k + 1, x3, x13, x14, x432000, x432001 => if x14 < x13 then ((impl_variable.f x432000 x14).bind fun bt437 => ((impl_ones.f (Go.bits .and .i64 x432001 bt437.2)).bind fun t439 => (if x3.length < 17592186044416 then (impl_ChowNumbers.l0 k (x3 ++ [t439]) x13 (wrap64 (x14 + 1)) x432000 x432001) else (none)))) else (some x3)
def impl_ChowNumbers.f (k : Nat) (a0_0 : Int) (a0_1 : Int) : Option (List Int) := (impl_IsTable.f a0_0 a0_1).bind fun t432 => (if t432 = true then ((impl_ones.f a0_1).bind fun t433 => (impl_ChowNumbers.l0 k (([t433] : List Int)) a0_0 0 a0_0 a0_1)) else (some ([] : List Int)))
def impl_ChowNumbers.T7 : Bool × List (List Nat × List Nat) := (true, [([], []), ([], []), ([1], [1]), ([], []), ([3], [3]), ([], []), ([4, 5], [4, 5]), ([6], [6]), ([2, 7], [2, 7]), ([8, 6], [8]), ([9], [9]), ([0, 10, 9], [0, 10]), ([11, 11, 0, 1, 2, 3, 4, 5, 6, 7, 8, 9, 10, 11], [0, 11])])
def impl_ChowNumbers.B7 : List Nat := [0, 0, 2, 0, 8, 0, 56, 120, 254, 510, 1022, 2047, 4095]
theorem impl_ChowNumbers.tab7 : rtab .any (opsOf Try.f22 7) = impl_ChowNumbers.T7 := by kernel_rfl
theorem impl_ChowNumbers.bits7 : waitsOk impl_ChowNumbers.T7.2 impl_ChowNumbers.B7 = true := by kernel_rfl
set_option maxHeartbeats 8000000 in
set_option maxRecDepth 100000 in
theorem impl_ChowNumbers.calls (k : Nat) (a0_0 : Int) (a0_1 : Int) (r : List Int) (w : World) (h : impl_ChowNumbers.f k a0_0 a0_1 = some r) :
  Calls Try.prog 22 #[.agg #[.int .i64 a0_0, .int .i64 a0_1]] w fun e w' => ∃ v0_ : Value, e = .returned (v0_) ∧ Kd.R (Kd.int .i64) 3 w' w.heap.size (fun _ => True) v0_ r ∧ Below w.heap.size w w' := by
 have hu25 := Try.underlying25
 have hfld25_1 : ∀ (x0 : Int) (x1 : Int) (W : World), (Instr.field 25 (.agg #[.int .i64 x0, .int .i64 x1]) 1).run Try.prog W = .ok (.int .i64 x1) W := fun _ _ _ => by kernel_rfl
 have HB := A_ (Below.refl w.heap.size w)
 have H : ((impl_IsTable.f a0_0 a0_1).bind fun t432 => (if t432 = true then ((impl_ones.f a0_1).bind fun t433 => (impl_ChowNumbers.l0 k (([t433] : List Int)) a0_0 0 a0_0 a0_1)) else (some ([] : List Int)))) = some r := h
 clear h; replace H := Option.bind_eq_some_iff.mp H; obtain ⟨t432, A20, H⟩ := H; (try dsimp only at H); have A2 := A_ A20; clear A20
 by_cases c3 : t432 = true
 ·subst c3
  have H1 : ((impl_ones.f a0_1).bind fun t433 => (impl_ChowNumbers.l0 k (([t433] : List Int)) a0_0 0 a0_0 a0_1)) = some r := by rw [if_pos rfl] at H; exact H
  clear H; have H := H1; clear H1; replace H := Option.bind_eq_some_iff.mp H; obtain ⟨t433, A40, H⟩ := H
  replace H : (impl_ChowNumbers.l0 k (([t433] : List Int)) a0_0 0 a0_0 a0_1) = some r := H
  have A4 := A_ A40; clear A40
  obtain ⟨y434, hy434⟩ : ∃ y_ : List Int, y_ = (([t433] : List Int)) := ⟨_, rfl⟩
  replace H : (impl_ChowNumbers.l0 k y434 a0_0 0 a0_0 a0_1) = some r := by first | (rw [hy434]; with_reducible exact H) | (have H2_ := (Option.bind_some _ _).symm.trans H; rw [hy434]; with_reducible exact H2_) | (have H2_ := (Option.bind_some _ _).symm.trans H; with_reducible exact H2_) | with_reducible exact H | (rw [hy434]; exact H) | exact H
  have Ny434 := A_ hy434; clear hy434
  have H' := A_ H
  clear H
  go_enter Try.func22, Try.ntmps22
  go_wp2_with (first | ((with_reducible refine gate_dst (N := 1) rfl ?_); refine box_event ?hg (N := 1) ?hd (cs := #[.int .i64 a0_0, .int .i64 a0_1]) (t := 25) ?hr ?_; (case hd => rfl); (case hg => rfl); (case hr => first | (go_simp; done) | (go_simp; rfl)); intro gb431 hg w5 hbox hb; have BK431 := A_ (hbox); have GW431 := A_ ((by rw [hg]; exact (below_size q0_) : w.heap.size ≤ gb431)); have GE431 := A_ ((by rw [hg]; exact (below_size q0_) : w.heap.size ≤ gb431)); replace HB := A_ (below_step q0_ hb); clear hb hbox hg; have hcz6_0 := c20_ BK431; have hcz6_1 := c21_ BK431; have hfz6_0 := blk_frozen BK431.out 0; have hfz6_1 := blk_frozen BK431.out 1) | ((with_reducible refine gate_callee (f := 36) rfl ?_); refine goesL_ (some 6) rfl rfl Try.func36 kr_ rfl #[.agg #[.int .i64 a0_0, .int .i64 a0_1]] rfl q2_ ?_; (with_reducible refine (impl_IsTable.calls a0_0 a0_1 true _ A2.out).mono ?_); rintro e w7 ⟨rfl, hb⟩; refine ⟨_, rfl, ?_⟩; replace BK431 := A_ (blk_below (M.Lb BK431) hb); replace HB := A_ (below_step q0_ hb); (try clear hb); (try clear hb2); (try clear hk); (try clear hi); have hcz8_0 := c20_ BK431; have hcz8_1 := c21_ BK431; have hfz8_0 := blk_frozen BK431.out 0; have hfz8_1 := blk_frozen BK431.out 1) | ((with_reducible refine gate_callee (f := 55) rfl ?_); refine goesL_ (some 10) rfl rfl Try.func55 kr_ rfl #[.int .i64 a0_1] rfl q2_ ?_; (with_reducible refine (impl_ones.calls a0_1 t433 _ A4.out).mono ?_); rintro e w' ⟨rfl, ⟨nd, rfl⟩⟩; refine ⟨_, rfl, ?_⟩) | ((with_reducible refine gate_dst (N := 11) rfl ?_); refine Kd.R_lit (Kd.int .i64) _ 3 ?hg (N := 11) ?hd (xs := ([t433] : List Int)) (inner := [.int .i64 t433]) (ok := fun _ => True) (okp := fun _ => True) ?hr ?hp (fun _ hk => hk) trivial (Below.refl _ _) (Nat.le_refl _) (by simp) ?_; (case hd => rfl); (case hg => rfl); (case hr => first | (go_simp; done) | (go_simp; rfl)); (case hp => exact (Reps.one (show Kd.M (Kd.int .i64) _ _ _ t433 [.int .i64 t433] from rfl) (Reps.none _ _))); intro v435 w9 ho10 hb hg_ hnew_; clear hg_ hnew_; (first | rw [← Ny434.out] at ho10 | (simp only [Int.reduceToNat] at ho10; rw [← Ny434.out] at ho10)); have HO436 := A_ (Kd.R_lower ho10 (below_size q0_)); replace BK431 := A_ (blk_below (M.Lb BK431) hb); replace HB := A_ (below_step q0_ hb); clear hb ho10; have hcz11_0 := c20_ BK431; have hcz11_1 := c21_ BK431; have hfz11_0 := blk_frozen BK431.out 0; have hfz11_1 := blk_frozen BK431.out 1))
  go_loopg [3, 14] k (fun kq v3 v14 w' => ∃ (x3_1 : List Int) (x14_1 : Int), v14 = .int .i64 x14_1 ∧ Aside0 (impl_ChowNumbers.l0 kq x3_1 a0_0 x14_1 a0_0 a0_1 = some r) ∧ Aside0 (kq ≤ k) ∧ Aside0 (Kd.R (Kd.int .i64) 3 w' w.heap.size (fun _ => True) v3 x3_1) ∧ Aside0 (w'.heap[gb431]? = some (.cells #[.int .i64 a0_0, .int .i64 a0_1] 25 (0, 0))) ∧ Aside0 (Below w.heap.size w w'))
  case atStart => exact ⟨(y434), (0), q1_, H', ⟨Nat.le_refl _⟩, ⟨M.Lr HO436⟩, ⟨M.Lb BK431⟩, ⟨q0_⟩⟩
  case round =>
   clear H'; (try clear c2); (try clear p2); (try clear c3); (try clear c5); (try clear hcz11_0); (try clear hcz11_1); (try clear hcz6_0); (try clear hcz6_1); (try clear hcz8_0); (try clear hcz8_1); (try clear hfz11_0); (try clear hfz11_1); (try clear hfz6_0); (try clear hfz6_1); (try clear hfz8_0); (try clear hfz8_1); obtain ⟨x3_1, x14_1, rfl, HA, HK1, HO_3, BK431, HB⟩ := hrel
   cases gk with
   | zero => exact absurd HA.out (by simp [impl_ChowNumbers.l0])
   | succ k1 =>
    have H := HA.out
    clear HA
    simp only [impl_ChowNumbers.l0] at H
    by_cases c12 : x14_1 < a0_0
    ·rw [if_pos c12] at H
     have c12b0 : decide (x14_1 < a0_0) = true := decide_eq_true c12
     clear c12; replace H := Option.bind_eq_some_iff.mp H; obtain ⟨⟨t437, t438⟩, A130, H⟩ := H; (try dsimp only at H); have A13 := A_ A130; clear A130; replace H := Option.bind_eq_some_iff.mp H; obtain ⟨t439, A140, H⟩ := H; (try dsimp only at H); have A14 := A_ A140; clear A140
     by_cases c15 : x3_1.length < 17592186044416
     ·rw [if_pos c15] at H; have LMc15 := A_ c15; clear c15
      obtain ⟨y440, hy440⟩ : ∃ y_ : List Int, y_ = (x3_1 ++ [t439]) := ⟨_, rfl⟩
      replace H : (impl_ChowNumbers.l0 k1 y440 a0_0 (wrap64 (x14_1 + 1)) a0_0 a0_1) = some r := by first | (rw [hy440]; with_reducible exact H) | (have H2_ := (Option.bind_some _ _).symm.trans H; rw [hy440]; with_reducible exact H2_) | (have H2_ := (Option.bind_some _ _).symm.trans H; with_reducible exact H2_) | with_reducible exact H | (rw [hy440]; exact H) | exact H
      have Ny440 := A_ hy440; clear hy440
      have H' := A_ H
      clear H
      try go_wp2
      have n0_ := A_ (Kd.R_drew HO_3.out)
      have n1_ := A_ (blk_drew BK431.out)
      have n2_ := A_ (below_drew1 HB.out)
      clear HO_3; clear BK431; clear HB; have HO_3 := n0_; have BK431 := n1_; have HB := n2_; clear n0_ n1_ n2_
      refine start_ (n := 13) (S := fun w' => w'.cell? ⟨gb431, 0, none⟩ = some (.int .i64 a0_0) ∧ w'.cell? ⟨gb431, 1, none⟩ = some (.int .i64 a0_1)) (ds := []) #[false, false, false, false, false, false, false, false, false, false, false, false, false] kr_ rfl rfl ⟨(blk_cell BK431.out 0).trans rfl, (blk_cell BK431.out 1).trans rfl⟩ (fun hHeld => ?_); refine with_tabW impl_ChowNumbers.tab7 impl_ChowNumbers.bits7 (fun HT_ HW_ => ?_)
      generalize wr.drew = w16 at HO_3 BK431 HB hHeld ⊢
      refine pure_ (i := 0) (N := some 17) (v := ?_) (a' := ?_) #[true, false, false, false, false, false, false, false, false, false, false, false, false] rfl rfl (any_of HT_.out kr_) (fun _ _ _ h => h) (Or.inl ⟨by rfl, ?_⟩) ?_ ?_; rotate_left
      ·intro w'; go_simp; with_reducible rfl
      rotate_left
      ·simp only [Act.put, List.setIfInBounds_toArray, List.set_cons_zero, List.set_cons_succ, i64_w, i32_w]; rfl
      refine pure_ (i := 1) (N := some 18) (v := ?_) (a' := ?_) #[true, true, false, false, false, false, false, false, false, false, false, false, false] rfl rfl (any_of HT_.out kr_) (fun _ _ _ h => h) (Or.inl ⟨by rfl, ?_⟩) ?_ ?_; rotate_left
      ·intro w'; go_simp; with_reducible rfl
      rotate_left
      ·simp only [Act.put, List.setIfInBounds_toArray, List.set_cons_zero, List.set_cons_succ, i64_w, i32_w]; rfl
      refine pure_ (i := 3) (N := some 20) (v := ?_) (a' := ?_) #[true, true, false, true, false, false, false, false, false, false, false, false, false] rfl rfl (any_of HT_.out kr_) (fun _ _ _ h => h) (Or.inl ⟨by rfl, ?_⟩) ?_ ?_; rotate_left
      ·intro w'; go_simp; with_reducible rfl
      rotate_left
      ·simp only [Act.put, List.setIfInBounds_toArray, List.set_cons_zero, List.set_cons_succ, i64_w, i32_w]; rfl
      refine pure_ (i := 5) (N := some 22) (v := ?_) (a' := ?_) #[true, true, false, true, false, true, false, false, false, false, false, false, false] rfl rfl (any_of HT_.out kr_) (fun _ _ _ h => h) (Or.inl ⟨by rfl, ?_⟩) ?_ ?_; rotate_left
      ·intro w'; go_simp; with_reducible rfl
      rotate_left
      ·simp only [Act.put, List.setIfInBounds_toArray, List.set_cons_zero, List.set_cons_succ, i64_w, i32_w]; rfl
      refine take_ (i := 2) (N := some 19) (v := ?_) (a' := ?_) #[true, true, true, true, false, true, false, false, false, false, false, false, false] rfl rfl (take_ofW HT_.out HW_.out kr_) (fun _ _ _ h => h) (Or.inl ⟨by rfl, ?_⟩) hHeld ?_ ?_
      rotate_left
      ·rintro w' ⟨s0, s1⟩
       go_simp; with_reducible rfl
      rotate_left
      ·simp only [Act.put, List.setIfInBounds_toArray, List.set_cons_zero, List.set_cons_succ, i64_w, i32_w]; rfl
      refine take_ (i := 4) (N := some 21) (v := ?_) (a' := ?_) #[true, true, true, true, true, true, false, false, false, false, false, false, false] rfl rfl (take_ofW HT_.out HW_.out kr_) (fun _ _ _ h => h) (Or.inl ⟨by rfl, ?_⟩) hHeld ?_ ?_
      rotate_left
      ·rintro w' ⟨s0, s1⟩
       go_simp; with_reducible rfl
      rotate_left
      ·simp only [Act.put, List.setIfInBounds_toArray, List.set_cons_zero, List.set_cons_succ, i64_w, i32_w]; rfl
      refine one_ (i := 6) (N := some 23) #[true, true, true, true, true, true, true, false, false, false, false, false, false] rfl rfl (one_of HT_.out kr_) (by decide) (fun K hK => ?_)
      refine goes_ Try.func56 kr_ rfl #[.int .i64 a0_0, .int .i64 x14_1] (by rfl) rfl rfl q2_ ?_
      with_reducible refine (impl_variable.calls a0_0 x14_1 t437 t438 _ A13.out).mono ?_
      rintro e w17 ⟨rfl, hb⟩
      refine ⟨_, rfl, ?_⟩
      have n0_ := A_ (Kd.R_below (M.Lr HO_3) hb)
      have n1_ := A_ (blk_below (M.Lb BK431) hb)
      have n2_ := A_ (below_step q0_ hb)
      clear HO_3; clear BK431; clear HB; have HO_3 := n0_; have BK431 := n1_; have HB := n2_; clear n0_ n1_ n2_; (try clear hb); (try clear hb2); (try clear hk); (try clear hi)
      refine hK.out _ _ ⟨(blk_cell BK431.out 0).trans rfl, (blk_cell BK431.out 1).trans rfl⟩ (fun hHeld => ?_)
      clear hK K
      refine norm_ (a' := ?_) ?_ ?_
      rotate_left
      ·show Act.put _ (some 23) _ = _
       simp only [Act.put, List.setIfInBounds_toArray, List.set_cons_zero, List.set_cons_succ, i64_w, i32_w]; rfl
      refine pure_ (i := 7) (N := some 24) (v := ?_) (a' := ?_) #[true, true, true, true, true, true, true, true, false, false, false, false, false] rfl rfl (any_of HT_.out kr_) (fun _ _ _ h => h) (Or.inl ⟨by rfl, ?_⟩) ?_ ?_; rotate_left
      ·intro w'; go_simp; with_reducible rfl
      rotate_left
      ·simp only [Act.put, List.setIfInBounds_toArray, List.set_cons_zero, List.set_cons_succ, i64_w, i32_w]; rfl
      refine pure_ (i := 8) (N := some 25) (v := ?_) (a' := ?_) #[true, true, true, true, true, true, true, true, true, false, false, false, false] rfl rfl (any_of HT_.out kr_) (fun _ _ _ h => h) (Or.inl ⟨by rfl, ?_⟩) ?_ ?_; rotate_left
      ·intro w'; go_simp; with_reducible rfl
      rotate_left
      ·simp only [Act.put, List.setIfInBounds_toArray, List.set_cons_zero, List.set_cons_succ, i64_w, i32_w]; rfl
      refine one_ (i := 9) (N := some 26) #[true, true, true, true, true, true, true, true, true, true, false, false, false] rfl rfl (one_of HT_.out kr_) (by decide) (fun K hK => ?_)
      refine goes_ Try.func55 kr_ rfl #[.int .i64 (Go.bits .and .i64 a0_1 t438)] (by rfl) rfl rfl q2_ ?_
      with_reducible refine (impl_ones.calls (Go.bits .and .i64 a0_1 t438) t439 _ A14.out).mono ?_
      rintro e w' ⟨rfl, ⟨nd, rfl⟩⟩
      refine ⟨_, rfl, ?_⟩
      refine hK.out _ _ ⟨(blk_cell BK431.out 0).trans rfl, (blk_cell BK431.out 1).trans rfl⟩ (fun hHeld => ?_)
      clear hK K
      refine norm_ (a' := ?_) ?_ ?_
      rotate_left
      ·show Act.put _ (some 26) _ = _
       simp only [Act.put, List.setIfInBounds_toArray, List.set_cons_zero, List.set_cons_succ, i64_w, i32_w]; rfl
      refine one_ (i := 10) (N := some 27) #[true, true, true, true, true, true, true, true, true, true, true, false, false] rfl rfl (one_of HT_.out kr_) (by decide) (fun K hK => ?_)
      refine value_ (w1 := ?_) (v := ?_) (by rfl) rfl ?_ ?_
      rotate_left 2
      ·go_simp
       constructor
       ·rfl
       ·rfl
      refine hK.out _ _ ⟨(blk_cell (blk_alloc BK431.out _) 0).trans rfl, (blk_cell (blk_alloc BK431.out _) 1).trans rfl⟩ (fun hHeld => ?_)
      clear hK K
      refine norm_ (a' := ?_) ?_ ?_
      rotate_left
      ·show Act.put _ (some 27) _ = _
       simp only [Act.put, List.setIfInBounds_toArray, List.set_cons_zero, List.set_cons_succ, i64_w, i32_w]; rfl
      refine one_ (i := 11) (N := some 28) #[true, true, true, true, true, true, true, true, true, true, true, true, false] rfl rfl (one_of HT_.out kr_) (by decide) (fun K hK => ?_)
      refine Kd.R_append_step (Kd.int .i64) (w0 := w) w.heap.size (by rfl) (.tmp 17) (.tmp 27) 27 3 (.int .i64 0) 8 rfl Try.underlying27 info3 rfl (by decide) (by omega) u3 x3_1 t439 [.int .i64 t439] (fun _ => True) (fun _ => False) rfl rfl ?aP (fun _ hk => hk.elim) ?aF ?aO ?aB ?aS ?aL ?_
      (case aP => exact rfl)
      (case aB => exact q0_)
      (case aF => exact (fun _ _ => trivial))
      (case aO => exact (M.Lr HO_3))
      (case aS => exact (below_size q0_))
      (case aL => have := LMc15.out; omega)
      intro v441 w18 ho hb hg hat
      rw [← Ny440.out] at ho
      have n0_ := A_ (blk_grown (g := gb431) (o := .cells #[.int .i64 a0_0, .int .i64 a0_1] 25 (0, 0)) (M.Lb BK431) hg (Kd.R_ne HO_3.out BK431.out (by decide)))
      have n1_ := A_ (hb); have n2_ := A_ (ho); clear BK431; clear HB; clear HO_3; have BK431 := n0_; have HB := n1_; have HO442 := n2_; clear n0_ n1_ n2_; clear ho hb hg hat
      refine hK.out _ _ ⟨(blk_cell BK431.out 0).trans rfl, (blk_cell BK431.out 1).trans rfl⟩ (fun hHeld => ?_)
      clear hK K
      refine norm_ (a' := ?_) ?_ ?_
      rotate_left
      ·show Act.put _ (some 28) _ = _
       simp only [Act.put, List.setIfInBounds_toArray, List.set_cons_zero, List.set_cons_succ, i64_w, i32_w]; rfl
      refine pure_ (i := 12) (N := some 3) (v := ?_) (a' := ?_) #[true, true, true, true, true, true, true, true, true, true, true, true, true] rfl rfl (any_of HT_.out kr_) (fun _ _ _ h => h) (Or.inl ⟨by rfl, ?_⟩) ?_ ?_; rotate_left
      ·intro w'; go_simp; with_reducible rfl
      rotate_left
      ·simp only [Act.put, List.setIfInBounds_toArray, List.set_cons_zero, List.set_cons_succ, i64_w, i32_w]; rfl
      refine done_ (done_of HT_.out kr_) ?_
      try go_wp2
      go_roundg k1
      case measure => have := HK1.out; omega
      case rel => exact ⟨(y440), (wrap64 (x14_1 + 1)), q1_, H', ⟨by have := HK1.out; omega⟩, ⟨M.Lr HO442⟩, ⟨M.Lb BK431⟩, ⟨q0_⟩⟩
     ·rw [if_neg c15] at H
      exact absurd H (by simp)
    ·rw [if_neg c12] at H
     have c12b0 : decide (x14_1 < a0_0) = false := decide_eq_false c12
     clear c12
     obtain rfl := Option.some.inj H
     go_wp2
     go_ret
     exact ⟨_, q7_, by (with_reducible repeat (first | apply Kd.R_alloc | apply Kd.R_drewN | apply Kd.R_drew)); exact HO_3.out, q0_⟩
 ·replace c3 := Bool.eq_false_iff.mpr c3
  subst c3
  have H1 : (some ([] : List Int)) = some r := by rw [if_neg (show ¬ (false = true) by decide)] at H; exact H
  clear H; have H := H1; clear H1
  obtain rfl := Option.some.inj H
  go_enter Try.func22, Try.ntmps22
  go_wp2_with (first | ((with_reducible refine gate_dst (N := 1) rfl ?_); refine box_event ?hg (N := 1) ?hd (cs := #[.int .i64 a0_0, .int .i64 a0_1]) (t := 25) ?hr ?_; (case hd => rfl); (case hg => rfl); (case hr => first | (go_simp; done) | (go_simp; rfl)); intro gb431 hg w19 hbox hb; have BK431 := A_ (hbox); have GW431 := A_ ((by rw [hg]; exact (below_size q0_) : w.heap.size ≤ gb431)); have GE431 := A_ ((by rw [hg]; exact (below_size q0_) : w.heap.size ≤ gb431)); replace HB := A_ (below_step q0_ hb); clear hb hbox hg; have hcz20_0 := c20_ BK431; have hcz20_1 := c21_ BK431; have hfz20_0 := blk_frozen BK431.out 0; have hfz20_1 := blk_frozen BK431.out 1) | ((with_reducible refine gate_callee (f := 36) rfl ?_); refine goesL_ (some 6) rfl rfl Try.func36 kr_ rfl #[.agg #[.int .i64 a0_0, .int .i64 a0_1]] rfl q2_ ?_; (with_reducible refine (impl_IsTable.calls a0_0 a0_1 false _ A2.out).mono ?_); rintro e w21 ⟨rfl, hb⟩; refine ⟨_, rfl, ?_⟩; replace BK431 := A_ (blk_below (M.Lb BK431) hb); replace HB := A_ (below_step q0_ hb); (try clear hb); (try clear hb2); (try clear hk); (try clear hi)))
  go_ret
  exact ⟨_, q7_, q17_, q0_⟩
mutual
def spec_IsContradiction.j0 : Nat → List Int → Bool → Int → Int → Option (Bool)
 | 0, _, _, _, _ => none
 | k + 1, x1, x13, x444000, x444001 => if x13 = true then (some false) else (spec_IsContradiction.l0 k x1 0 x444000 x444001)
def spec_IsContradiction.l0 : Nat → List Int → Int → Int → Int → Option (Bool)
 | 0, _, _, _, _ => none
 | k + 1, x1, x5, x444000, x444001 => if x5 < 4 then (if 0 ≤ x5 then (if x5 < (x1.length : Int) then (if 0 ≤ x444000 then ((spec_l1In.f (rd x1 x5) 0 (wrap64 ((shl .i64 1 x444000) - 1))).bind fun t446 => (if t446 = true then (if 0 ≤ (rd x1 x5) then (if (Go.bits .and .i64 (shr .i64 x444001 (rd x1 x5)) 1) = (wrap64 (1 - (wrap64 (Int.tdiv x5 2)))) then (spec_IsContradiction.l0 k x1 (wrap64 (x5 + 1)) x444000 x444001) else (some false)) else (none)) else (some false))) else (none)) else (none)) else (none)) else (if 0 < (x1.length : Int) then (if 1 < (x1.length : Int) then (if 2 < (x1.length : Int) then (if 3 < (x1.length : Int) then (if (Go.bits .and .i64 (rd x1 0) (rd x1 1)) = (Go.bits .and .i64 (rd x1 2) (rd x1 3)) then (some ((Go.bits .xor .i64 (rd x1 0) (rd x1 1)) == (Go.bits .xor .i64 (rd x1 2) (rd x1 3)))) else (some false)) else (none)) else (none)) else (none)) else (none))
end
def spec_IsContradiction.f (k : Nat) (a0_0 : Int) (a0_1 : Int) (l1 : List Int) : Option (Bool) := (spec_IsTable.f a0_0 a0_1).bind fun t444 => (if t444 = true then (spec_IsContradiction.j0 k l1 ((l1.length : Int) != 4) a0_0 a0_1) else (spec_IsContradiction.j0 k l1 true a0_0 a0_1))
set_option maxHeartbeats 8000000 in
set_option maxRecDepth 100000 in
theorem spec_IsContradiction.calls (k : Nat) (a0_0 : Int) (a0_1 : Int) (A1 : Option Addr) (c1 : Nat) (l1 : List Int) (r : Bool) (w : World) (hr1 : Kd.C (Kd.int .i64) w A1 l1.length l1) (hc1 : l1.length ≤ c1) (h : spec_IsContradiction.f k a0_0 a0_1 l1 = some r) :
  Calls Try.prog 23 #[.agg #[.int .i64 a0_0, .int .i64 a0_1], .slice A1 l1.length c1] w fun e w' => e = .returned (.bool r) ∧ Below w.heap.size w w' := by
 have hu25 := Try.underlying25
 have HR1 := A_ hr1; have HC1 := A_ hc1; clear hr1 hc1
 have HB := A_ (Below.refl w.heap.size w)
 have H : ((spec_IsTable.f a0_0 a0_1).bind fun t444 => (if t444 = true then (spec_IsContradiction.j0 k l1 ((l1.length : Int) != 4) a0_0 a0_1) else (spec_IsContradiction.j0 k l1 true a0_0 a0_1))) = some r := h
 clear h; have HC3 := A_ H; clear H
 go_enter Try.func23, Try.ntmps23
 go_upto_region 1 with (first | ((with_reducible refine gate_dst (N := 2) rfl ?_); (try (refine gate_guard (by rfl) ?_; dsimp only)); refine box_event ?hg (N := 2) ?hd (cs := #[.int .i64 a0_0, .int .i64 a0_1]) (t := 25) ?hr ?_; (case hd => rfl); (case hg => rfl); (case hr => first | (go_simp; done) | (go_simp; rfl)); intro gb443 hg w4 hbox hb; have BK443 := A_ (hbox); have GW443 := A_ ((by rw [hg]; exact (below_size q0_) : w.heap.size ≤ gb443)); have GE443 := A_ ((by rw [hg]; exact (below_size q0_) : w.heap.size ≤ gb443)); replace HB := A_ (below_step q0_ hb); clear hb hbox hg))
 repeat (go_quiet (first | ((with_reducible refine gate_dst (N := 2) rfl ?_); (try (refine gate_guard (by rfl) ?_; dsimp only)); refine box_event ?hg (N := 2) ?hd (cs := #[.int .i64 a0_0, .int .i64 a0_1]) (t := 25) ?hr ?_; (case hd => rfl); (case hg => rfl); (case hr => first | (go_simp; done) | (go_simp; rfl)); intro gb443 hg w4 hbox hb; have BK443 := A_ (hbox); have GW443 := A_ ((by rw [hg]; exact (below_size q0_) : w.heap.size ≤ gb443)); have GE443 := A_ ((by rw [hg]; exact (below_size q0_) : w.heap.size ≤ gb443)); replace HB := A_ (below_step q0_ hb); clear hb hbox hg)); go_upto_region 1 with (first | ((with_reducible refine gate_dst (N := 2) rfl ?_); (try (refine gate_guard (by rfl) ?_; dsimp only)); refine box_event ?hg (N := 2) ?hd (cs := #[.int .i64 a0_0, .int .i64 a0_1]) (t := 25) ?hr ?_; (case hd => rfl); (case hg => rfl); (case hr => first | (go_simp; done) | (go_simp; rfl)); intro gb443 hg w4 hbox hb; have BK443 := A_ (hbox); have GW443 := A_ ((by rw [hg]; exact (below_size q0_) : w.heap.size ≤ gb443)); have GE443 := A_ ((by rw [hg]; exact (below_size q0_) : w.heap.size ≤ gb443)); replace HB := A_ (below_step q0_ hb); clear hb hbox hg)))
 (try simp only [Act.put, List.setIfInBounds_toArray, List.set_cons_zero, List.set_cons_succ])
 go_cut [13] (fun v13 wc => ∃ (kq : Nat) (x13_2 : Bool), v13 = .bool x13_2 ∧ Aside0 (spec_IsContradiction.j0 kq l1 x13_2 a0_0 a0_1 = some r) ∧ Aside0 (kq ≤ k) ∧ Aside0 (wc.heap[gb443]? = some (.cells #[.int .i64 a0_0, .int .i64 a0_1] 25 (0, 0))) ∧ Aside0 (Below w.heap.size w wc))
 case first =>
  have H := HC3.out
  clear HC3; replace H := Option.bind_eq_some_iff.mp H; obtain ⟨t444, A50, H⟩ := H; (try dsimp only at H); have A5 := A_ A50; clear A50
  by_cases c6 : t444 = true
  ·subst c6
   have H1 : (spec_IsContradiction.j0 k l1 ((l1.length : Int) != 4) a0_0 a0_1) = some r := by rw [if_pos rfl] at H; exact H
   clear H; have H := H1; clear H1
   have H' := A_ H
   clear H
   have hcz7_0 := c20_ BK443
   have hcz7_1 := c21_ BK443
   have hfz7_0 := blk_frozen BK443.out 0
   have hfz7_1 := blk_frozen BK443.out 1
   go_wp2_with (first | (go_at_call 16; (with_reducible refine (spec_IsTable.calls a0_0 a0_1 true _ A5.out).mono ?_); rintro e w8 ⟨rfl, hb⟩; replace BK443 := A_ (blk_below (M.Lb BK443) hb); replace HB := A_ (below_step q0_ hb); (try clear hb); (try clear hb2); (try clear hk); (try clear hi)))
   repeat (go_quiet (first | (go_at_call 16; (with_reducible refine (spec_IsTable.calls a0_0 a0_1 true _ A5.out).mono ?_); rintro e w8 ⟨rfl, hb⟩; replace BK443 := A_ (blk_below (M.Lb BK443) hb); replace HB := A_ (below_step q0_ hb); (try clear hb); (try clear hb2); (try clear hk); (try clear hi))); try go_wp2_with (first | (go_at_call 16; (with_reducible refine (spec_IsTable.calls a0_0 a0_1 true _ A5.out).mono ?_); rintro e w8 ⟨rfl, hb⟩; replace BK443 := A_ (blk_below (M.Lb BK443) hb); replace HB := A_ (below_step q0_ hb); (try clear hb); (try clear hb2); (try clear hk); (try clear hi))))
   go_meet
   case rel => exact ⟨_, (((l1.length : Int) != 4)), q1_, H', ⟨by first | omega | exact Nat.le_refl _⟩, ⟨M.Lb BK443⟩, ⟨q0_⟩⟩
  ·replace c6 := Bool.eq_false_iff.mpr c6
   subst c6
   have H1 : (spec_IsContradiction.j0 k l1 true a0_0 a0_1) = some r := by rw [if_neg (show ¬ (false = true) by decide)] at H; exact H
   clear H; have H := H1; clear H1
   have H' := A_ H
   clear H
   have hcz9_0 := c20_ BK443
   have hcz9_1 := c21_ BK443
   have hfz9_0 := blk_frozen BK443.out 0
   have hfz9_1 := blk_frozen BK443.out 1
   go_wp2_with (first | (go_at_call 16; (with_reducible refine (spec_IsTable.calls a0_0 a0_1 false _ A5.out).mono ?_); rintro e w10 ⟨rfl, hb⟩; replace BK443 := A_ (blk_below (M.Lb BK443) hb); replace HB := A_ (below_step q0_ hb); (try clear hb); (try clear hb2); (try clear hk); (try clear hi)))
   repeat (go_quiet (first | (go_at_call 16; (with_reducible refine (spec_IsTable.calls a0_0 a0_1 false _ A5.out).mono ?_); rintro e w10 ⟨rfl, hb⟩; replace BK443 := A_ (blk_below (M.Lb BK443) hb); replace HB := A_ (below_step q0_ hb); (try clear hb); (try clear hb2); (try clear hk); (try clear hi))); try go_wp2_with (first | (go_at_call 16; (with_reducible refine (spec_IsTable.calls a0_0 a0_1 false _ A5.out).mono ?_); rintro e w10 ⟨rfl, hb⟩; replace BK443 := A_ (blk_below (M.Lb BK443) hb); replace HB := A_ (below_step q0_ hb); (try clear hb); (try clear hb2); (try clear hk); (try clear hi))))
   go_meet
   case rel => exact ⟨_, (true), q1_, H', ⟨by first | omega | exact Nat.le_refl _⟩, ⟨M.Lb BK443⟩, ⟨q0_⟩⟩
 case rest =>
  clear HC3; (try clear c1); (try clear c2); (try clear p2); (try clear c6); (try clear hcz7_0); (try clear hcz7_1); (try clear hcz9_0); (try clear hcz9_1); (try clear hfz7_0); (try clear hfz7_1); (try clear hfz9_0); (try clear hfz9_1); obtain ⟨kq, x13_2, rfl, HA, HJ2, BK443, HB⟩ := hcut
  cases kq with
  | zero => exact absurd HA.out (by simp [spec_IsContradiction.j0])
  | succ kj2 =>
   have H := HA.out
   clear HA
   simp only [spec_IsContradiction.j0] at H
   by_cases c11 : x13_2 = true
   ·subst c11
    have H1 : (some false) = some r := by rw [if_pos rfl] at H; exact H
    clear H; have H := H1; clear H1
    obtain rfl := Option.some.inj H
    go_wp2
    repeat (go_quiet (fail); try go_wp2)
    go_ret
    exact ⟨q7_, q0_⟩
   ·replace c11 := Bool.eq_false_iff.mpr c11
    subst c11
    have H1 : (spec_IsContradiction.l0 kj2 l1 0 a0_0 a0_1) = some r := by rw [if_neg (show ¬ (false = true) by decide)] at H; exact H
    clear H; have H := H1; clear H1
    have H' := A_ H
    clear H
    go_wp2
    repeat (go_quiet (fail); try go_wp2)
    go_loopg [5] kj2 (fun kq v5 w' => ∃ (x5_2 : Int), v5 = .int .i64 x5_2 ∧ Aside0 (spec_IsContradiction.l0 kq l1 x5_2 a0_0 a0_1 = some r) ∧ Aside0 (kq ≤ kj2) ∧ Aside0 (w'.heap[gb443]? = some (.cells #[.int .i64 a0_0, .int .i64 a0_1] 25 (0, 0))) ∧ Aside0 (Below w.heap.size w w'))
    case atStart => exact ⟨(0), q1_, H', ⟨Nat.le_refl _⟩, ⟨M.Lb BK443⟩, ⟨q0_⟩⟩
    case round =>
     clear H'; (try clear c1); (try clear c2); (try clear p2); (try clear c6); (try clear c11); (try clear hcz7_0); (try clear hcz7_1); (try clear hcz9_0); (try clear hcz9_1); (try clear hfz7_0); (try clear hfz7_1); (try clear hfz9_0); (try clear hfz9_1); (try clear p2); obtain ⟨x5_2, rfl, HA, HK2, BK443, HB⟩ := hrel
     cases gk with
     | zero => exact absurd HA.out (by simp [spec_IsContradiction.l0])
     | succ k2 =>
      have H := HA.out
      clear HA
      simp only [spec_IsContradiction.l0] at H
      by_cases c12 : x5_2 < 4
      ·rw [if_pos c12] at H
       have c12b0 : decide (x5_2 < 4) = true := decide_eq_true c12
       clear c12
       by_cases c13 : 0 ≤ x5_2
       ·rw [if_pos c13] at H
        have c13b0 : decide (0 ≤ x5_2) = true := decide_eq_true c13
        clear c13
        by_cases c14 : x5_2 < (l1.length : Int)
        ·rw [if_pos c14] at H
         have c14b0 : decide (x5_2 < (l1.length : Int)) = true := decide_eq_true c14
         clear c14
         by_cases c15 : 0 ≤ a0_0
         ·rw [if_pos c15] at H
          have c15b0 := eq_true c15
          have c15b1 : decide (0 ≤ a0_0) = true := decide_eq_true c15
          clear c15
          obtain ⟨ji16, hji16⟩ : ∃ j_ : Int, (shl .i64 1 a0_0) = j_ := ⟨_, rfl⟩
          replace H : ((spec_l1In.f (rd l1 x5_2) 0 (wrap64 ((ji16) - 1))).bind fun t446 => (if t446 = true then (if 0 ≤ (rd l1 x5_2) then (if (Go.bits .and .i64 (shr .i64 a0_1 (rd l1 x5_2)) 1) = (wrap64 (1 - (wrap64 (Int.tdiv x5_2 2)))) then (spec_IsContradiction.l0 k2 l1 (wrap64 (x5_2 + 1)) a0_0 a0_1) else (some false)) else (none)) else (some false))) = some r := by first | (rw [hji16] at H; exact H) | (simp only [hji16] at H ⊢; exact H)
          have hji16_ : (IntKind.i64.wrap (1 * 2 ^ min a0_0.toNat 64)) = ji16 := hji16
          have hji16z : a0_0 ≤ 64 → (IntKind.i64.wrap (1 * 2 ^ a0_0.toNat)) = ji16 := shl_small hji16
          have hji16u : (IntKind.i64.wrap (2 ^ min a0_0.toNat 64)) = ji16 := by have h_ := hji16_; rw [Int.one_mul] at h_; exact h_
          have hji16v : a0_0 ≤ 64 → (IntKind.i64.wrap (2 ^ a0_0.toNat)) = ji16 := fun hle_ => by have h_ := hji16z hle_; rw [Int.one_mul] at h_; exact h_
          have hji16y : (wrap64 (1 * 2 ^ min a0_0.toNat 64)) = ji16 := (i64_w _).symm.trans hji16_
          have hji16x : a0_0 ≤ 64 → (wrap64 (1 * 2 ^ a0_0.toNat)) = ji16 := fun h_ => (i64_w _).symm.trans (hji16z h_)
          replace H := Option.bind_eq_some_iff.mp H; obtain ⟨t446, A170, H⟩ := H; (try dsimp only at H); have A17 := A_ A170; clear A170
          by_cases c18 : t446 = true
          ·subst c18
           have H1 : (if 0 ≤ (rd l1 x5_2) then (if (Go.bits .and .i64 (shr .i64 a0_1 (rd l1 x5_2)) 1) = (wrap64 (1 - (wrap64 (Int.tdiv x5_2 2)))) then (spec_IsContradiction.l0 k2 l1 (wrap64 (x5_2 + 1)) a0_0 a0_1) else (some false)) else (none)) = some r := by rw [if_pos rfl] at H; exact H
           clear H; have H := H1; clear H1
           by_cases c19 : 0 ≤ (rd l1 x5_2)
           ·rw [if_pos c19] at H
            have c19b0 := eq_true c19
            have c19b1 : decide (0 ≤ (rd l1 x5_2)) = true := decide_eq_true c19
            clear c19
            obtain ⟨ji20, hji20⟩ : ∃ j_ : Int, (shr .i64 a0_1 (rd l1 x5_2)) = j_ := ⟨_, rfl⟩
            replace H : (if (Go.bits .and .i64 (ji20) 1) = (wrap64 (1 - (wrap64 (Int.tdiv x5_2 2)))) then (spec_IsContradiction.l0 k2 l1 (wrap64 (x5_2 + 1)) a0_0 a0_1) else (some false)) = some r := by first | (rw [hji20] at H; exact H) | (simp only [hji20] at H ⊢; exact H)
            (try rw [hji20] at A17)
            have hji20_ : (a0_1 / 2 ^ min (rd l1 x5_2).toNat 64) = ji20 := hji20
            have hji20z : (rd l1 x5_2) ≤ 64 → (a0_1 / 2 ^ (rd l1 x5_2).toNat) = ji20 := shr_small hji20
            by_cases c21 : (Go.bits .and .i64 (ji20) 1) = (wrap64 (1 - (wrap64 (Int.tdiv x5_2 2))))
            ·rw [if_pos c21] at H
             have c21b0 : ((Go.bits .and .i64 (ji20) 1) == (wrap64 (1 - (wrap64 (Int.tdiv x5_2 2))))) = true := beq_iff_eq.mpr c21
             have c21b1 : ((Go.bits .and .i64 (ji20) 1) != (wrap64 (1 - (wrap64 (Int.tdiv x5_2 2))))) = false := bne_eq_false_iff_eq.mpr c21
             clear c21
             have H' := A_ H
             clear H
             have p445 : 0 ≤ (x5_2 : Int) := of_decide_eq_true q5_
             have q445 : x5_2 < (l1.length : Int) := of_decide_eq_true q5_
             obtain ⟨ad445, e445, hx445_0⟩ := Kd.at_int HR1.out x5_2 p445 q445
             cases e445
             replace hx445_0 := (HB.out.cell (World.block_lt_of_cell? w _ hx445_0)).trans hx445_0
             replace p445 := eq_true p445
             replace q445 := eq_true q445
             have hcz22_0 := c20_ BK443
             have hcz22_1 := c21_ BK443
             have hfz22_0 := blk_frozen BK443.out 0
             have hfz22_1 := blk_frozen BK443.out 1
             go_wp2_with (first | (go_at_call 49; (with_reducible refine (spec_l1In.calls (rd l1 x5_2) 0 (wrap64 ((ji16) - 1)) true _ A17.out).mono ?_); rintro e w' ⟨rfl, ⟨nd, rfl⟩⟩; (try exact q12_); (try (have p447 : 0 ≤ (x5_2 : Int) := of_decide_eq_true q5_; have q447 : x5_2 < (l1.length : Int) := of_decide_eq_true q5_; obtain ⟨ad447, e447, hx447_0⟩ := Kd.at_int HR1.out x5_2 p447 q447; obtain rfl : ad445 = ad447 := (by injection e447); replace hx447_0 := (HB.out.cell (World.block_lt_of_cell? w _ hx447_0)).trans hx447_0; replace p447 := eq_true p447; replace q447 := eq_true q447))))
             repeat (go_quiet (first | (go_at_call 49; (with_reducible refine (spec_l1In.calls (rd l1 x5_2) 0 (wrap64 ((ji16) - 1)) true _ A17.out).mono ?_); rintro e w' ⟨rfl, ⟨nd, rfl⟩⟩; (try exact q12_); (try (have p447 : 0 ≤ (x5_2 : Int) := of_decide_eq_true q5_; have q447 : x5_2 < (l1.length : Int) := of_decide_eq_true q5_; obtain ⟨ad447, e447, hx447_0⟩ := Kd.at_int HR1.out x5_2 p447 q447; obtain rfl : ad445 = ad447 := (by injection e447); replace hx447_0 := (HB.out.cell (World.block_lt_of_cell? w _ hx447_0)).trans hx447_0; replace p447 := eq_true p447; replace q447 := eq_true q447)))); try go_wp2_with (first | (go_at_call 49; (with_reducible refine (spec_l1In.calls (rd l1 x5_2) 0 (wrap64 ((ji16) - 1)) true _ A17.out).mono ?_); rintro e w' ⟨rfl, ⟨nd, rfl⟩⟩; (try exact q12_); (try (have p447 : 0 ≤ (x5_2 : Int) := of_decide_eq_true q5_; have q447 : x5_2 < (l1.length : Int) := of_decide_eq_true q5_; obtain ⟨ad447, e447, hx447_0⟩ := Kd.at_int HR1.out x5_2 p447 q447; obtain rfl : ad445 = ad447 := (by injection e447); replace hx447_0 := (HB.out.cell (World.block_lt_of_cell? w _ hx447_0)).trans hx447_0; replace p447 := eq_true p447; replace q447 := eq_true q447)))))
             go_roundg k2
             case measure => have := HJ2.out; have := HK2.out; omega
             case rel => exact ⟨(wrap64 (x5_2 + 1)), q1_, H', ⟨by have := HJ2.out; have := HK2.out; omega⟩, ⟨M.Lb BK443⟩, ⟨q0_⟩⟩
            ·rw [if_neg c21] at H
             have c21b0 : ((Go.bits .and .i64 (ji20) 1) == (wrap64 (1 - (wrap64 (Int.tdiv x5_2 2))))) = false := beq_eq_false_iff_ne.mpr c21
             have c21b1 : ((Go.bits .and .i64 (ji20) 1) != (wrap64 (1 - (wrap64 (Int.tdiv x5_2 2))))) = true := bne_iff_ne.mpr c21
             obtain rfl := Option.some.inj H
             have p445 : 0 ≤ (x5_2 : Int) := of_decide_eq_true q5_
             have q445 : x5_2 < (l1.length : Int) := of_decide_eq_true q5_
             obtain ⟨ad445, e445, hx445_0⟩ := Kd.at_int HR1.out x5_2 p445 q445
             cases e445
             replace hx445_0 := (HB.out.cell (World.block_lt_of_cell? w _ hx445_0)).trans hx445_0
             replace p445 := eq_true p445
             replace q445 := eq_true q445
             have hcz23_0 := c20_ BK443
             have hcz23_1 := c21_ BK443
             have hfz23_0 := blk_frozen BK443.out 0
             have hfz23_1 := blk_frozen BK443.out 1
             go_wp2_with (first | (go_at_call 49; (with_reducible refine (spec_l1In.calls (rd l1 x5_2) 0 (wrap64 ((ji16) - 1)) true _ A17.out).mono ?_); rintro e w' ⟨rfl, ⟨nd, rfl⟩⟩; (try exact q12_); (try (have p447 : 0 ≤ (x5_2 : Int) := of_decide_eq_true q5_; have q447 : x5_2 < (l1.length : Int) := of_decide_eq_true q5_; obtain ⟨ad447, e447, hx447_0⟩ := Kd.at_int HR1.out x5_2 p447 q447; obtain rfl : ad445 = ad447 := (by injection e447); replace hx447_0 := (HB.out.cell (World.block_lt_of_cell? w _ hx447_0)).trans hx447_0; replace p447 := eq_true p447; replace q447 := eq_true q447))))
             repeat (go_quiet (first | (go_at_call 49; (with_reducible refine (spec_l1In.calls (rd l1 x5_2) 0 (wrap64 ((ji16) - 1)) true _ A17.out).mono ?_); rintro e w' ⟨rfl, ⟨nd, rfl⟩⟩; (try exact q12_); (try (have p447 : 0 ≤ (x5_2 : Int) := of_decide_eq_true q5_; have q447 : x5_2 < (l1.length : Int) := of_decide_eq_true q5_; obtain ⟨ad447, e447, hx447_0⟩ := Kd.at_int HR1.out x5_2 p447 q447; obtain rfl : ad445 = ad447 := (by injection e447); replace hx447_0 := (HB.out.cell (World.block_lt_of_cell? w _ hx447_0)).trans hx447_0; replace p447 := eq_true p447; replace q447 := eq_true q447)))); try go_wp2_with (first | (go_at_call 49; (with_reducible refine (spec_l1In.calls (rd l1 x5_2) 0 (wrap64 ((ji16) - 1)) true _ A17.out).mono ?_); rintro e w' ⟨rfl, ⟨nd, rfl⟩⟩; (try exact q12_); (try (have p447 : 0 ≤ (x5_2 : Int) := of_decide_eq_true q5_; have q447 : x5_2 < (l1.length : Int) := of_decide_eq_true q5_; obtain ⟨ad447, e447, hx447_0⟩ := Kd.at_int HR1.out x5_2 p447 q447; obtain rfl : ad445 = ad447 := (by injection e447); replace hx447_0 := (HB.out.cell (World.block_lt_of_cell? w _ hx447_0)).trans hx447_0; replace p447 := eq_true p447; replace q447 := eq_true q447)))))
             go_ret
             exact ⟨by first | rfl | (simp [errW_none, errW_some] <;> rfl) | (simp only [← hji16, ← hji20]; first | rfl | (simp [errW_none, errW_some] <;> rfl)) | (simp [*, errW_none, errW_some] <;> rfl), q0_⟩
           ·rw [if_neg c19] at H
            exact absurd H (by simp)
          ·replace c18 := Bool.eq_false_iff.mpr c18
           subst c18
           have H1 : (some false) = some r := by rw [if_neg (show ¬ (false = true) by decide)] at H; exact H
           clear H; have H := H1; clear H1
           obtain rfl := Option.some.inj H
           have p445 : 0 ≤ (x5_2 : Int) := of_decide_eq_true q5_
           have q445 : x5_2 < (l1.length : Int) := of_decide_eq_true q5_
           obtain ⟨ad445, e445, hx445_0⟩ := Kd.at_int HR1.out x5_2 p445 q445
           cases e445
           replace hx445_0 := (HB.out.cell (World.block_lt_of_cell? w _ hx445_0)).trans hx445_0
           replace p445 := eq_true p445
           replace q445 := eq_true q445
           have hcz24_0 := c20_ BK443
           have hcz24_1 := c21_ BK443
           have hfz24_0 := blk_frozen BK443.out 0
           have hfz24_1 := blk_frozen BK443.out 1
           go_wp2_with (first | (go_at_call 49; (with_reducible refine (spec_l1In.calls (rd l1 x5_2) 0 (wrap64 ((ji16) - 1)) false _ A17.out).mono ?_); rintro e w' ⟨rfl, ⟨nd, rfl⟩⟩; (try exact q12_)))
           repeat (go_quiet (first | (go_at_call 49; (with_reducible refine (spec_l1In.calls (rd l1 x5_2) 0 (wrap64 ((ji16) - 1)) false _ A17.out).mono ?_); rintro e w' ⟨rfl, ⟨nd, rfl⟩⟩; (try exact q12_))); try go_wp2_with (first | (go_at_call 49; (with_reducible refine (spec_l1In.calls (rd l1 x5_2) 0 (wrap64 ((ji16) - 1)) false _ A17.out).mono ?_); rintro e w' ⟨rfl, ⟨nd, rfl⟩⟩; (try exact q12_))))
           go_ret
           exact ⟨by first | rfl | (simp [errW_none, errW_some] <;> rfl) | (simp only [← hji16]; first | rfl | (simp [errW_none, errW_some] <;> rfl)) | (simp [*, errW_none, errW_some] <;> rfl), q0_⟩
         ·rw [if_neg c15] at H
          exact absurd H (by simp)
        ·rw [if_neg c14] at H
         exact absurd H (by simp)
       ·rw [if_neg c13] at H
        exact absurd H (by simp)
      ·rw [if_neg c12] at H
       have c12b0 : decide (x5_2 < 4) = false := decide_eq_false c12
       clear c12
       by_cases c25 : 0 < (l1.length : Int)
       ·rw [if_pos c25] at H
        have c25b0 : decide (0 < (l1.length : Int)) = true := decide_eq_true c25
        have c25b1 : decide (0 < l1.length) = true := decide_eq_true (by omega)
        clear c25
        by_cases c26 : 1 < (l1.length : Int)
        ·rw [if_pos c26] at H
         have c26b0 : decide (1 < (l1.length : Int)) = true := decide_eq_true c26
         have c26b1 : decide (1 < l1.length) = true := decide_eq_true (by omega)
         clear c26
         by_cases c27 : 2 < (l1.length : Int)
         ·rw [if_pos c27] at H
          have c27b0 : decide (2 < (l1.length : Int)) = true := decide_eq_true c27
          have c27b1 : decide (2 < l1.length) = true := decide_eq_true (by omega)
          clear c27
          by_cases c28 : 3 < (l1.length : Int)
          ·rw [if_pos c28] at H
           have c28b0 : decide (3 < (l1.length : Int)) = true := decide_eq_true c28
           have c28b1 : decide (3 < l1.length) = true := decide_eq_true (by omega)
           clear c28
           by_cases c29 : (Go.bits .and .i64 (rd l1 0) (rd l1 1)) = (Go.bits .and .i64 (rd l1 2) (rd l1 3))
           ·rw [if_pos c29] at H
            have c29b0 : ((Go.bits .and .i64 (rd l1 0) (rd l1 1)) == (Go.bits .and .i64 (rd l1 2) (rd l1 3))) = true := beq_iff_eq.mpr c29
            have c29b1 : ((Go.bits .and .i64 (rd l1 0) (rd l1 1)) != (Go.bits .and .i64 (rd l1 2) (rd l1 3))) = false := bne_eq_false_iff_eq.mpr c29
            clear c29
            obtain rfl := Option.some.inj H
            have p448 : 0 ≤ (0 : Int) := (by omega)
            have q448 : 0 < (l1.length : Int) := of_decide_eq_true q5_
            obtain ⟨ad448, e448, hx448_0⟩ := Kd.at_int HR1.out 0 p448 q448
            cases e448
            have qi448 : (0 < l1.length) = True := eq_true (by omega)
            (try rw [show ((0 : Int)).toNat = 0 from rfl] at hx448_0)
            (try rw [Addr.add_zero'] at hx448_0)
            replace hx448_0 := (HB.out.cell (World.block_lt_of_cell? w _ hx448_0)).trans hx448_0
            replace p448 := eq_true p448
            replace q448 := eq_true q448
            have p449 : 0 ≤ (1 : Int) := (by omega)
            have q449 : 1 < (l1.length : Int) := of_decide_eq_true q5_
            obtain ⟨ad449, e449, hx449_0⟩ := Kd.at_int HR1.out 1 p449 q449
            obtain rfl : ad448 = ad449 := (by injection e449)
            (try simp only [show (1 : Int).toNat = 1 from rfl, Nat.reduceMul, Nat.reduceEqDiff, Go.Addr.add, ↓reduceIte] at hx449_0)
            have qi449 : (1 < l1.length) = True := eq_true (by omega)
            (try rw [show ((1 : Int)).toNat = 1 from rfl] at hx449_0)
            replace hx449_0 := (HB.out.cell (World.block_lt_of_cell? w _ hx449_0)).trans hx449_0
            replace p449 := eq_true p449
            replace q449 := eq_true q449
            have p450 : 0 ≤ (2 : Int) := (by omega)
            have q450 : 2 < (l1.length : Int) := of_decide_eq_true q5_
            obtain ⟨ad450, e450, hx450_0⟩ := Kd.at_int HR1.out 2 p450 q450
            obtain rfl : ad448 = ad450 := (by injection e450)
            (try simp only [show (2 : Int).toNat = 2 from rfl, Nat.reduceMul, Nat.reduceEqDiff, Go.Addr.add, ↓reduceIte] at hx450_0)
            have qi450 : (2 < l1.length) = True := eq_true (by omega)
            (try rw [show ((2 : Int)).toNat = 2 from rfl] at hx450_0)
            replace hx450_0 := (HB.out.cell (World.block_lt_of_cell? w _ hx450_0)).trans hx450_0
            replace p450 := eq_true p450
            replace q450 := eq_true q450
            have p451 : 0 ≤ (3 : Int) := (by omega)
            have q451 : 3 < (l1.length : Int) := of_decide_eq_true q5_
            obtain ⟨ad451, e451, hx451_0⟩ := Kd.at_int HR1.out 3 p451 q451
            obtain rfl : ad448 = ad451 := (by injection e451)
            (try simp only [show (3 : Int).toNat = 3 from rfl, Nat.reduceMul, Nat.reduceEqDiff, Go.Addr.add, ↓reduceIte] at hx451_0)
            have qi451 : (3 < l1.length) = True := eq_true (by omega)
            (try rw [show ((3 : Int)).toNat = 3 from rfl] at hx451_0)
            replace hx451_0 := (HB.out.cell (World.block_lt_of_cell? w _ hx451_0)).trans hx451_0
            replace p451 := eq_true p451
            replace q451 := eq_true q451
            have p452 : 0 ≤ (0 : Int) := (by omega)
            have q452 : 0 < (l1.length : Int) := of_decide_eq_true q5_
            obtain ⟨ad452, e452, hx452_0⟩ := Kd.at_int HR1.out 0 p452 q452
            obtain rfl : ad448 = ad452 := (by injection e452)
            have qi452 : (0 < l1.length) = True := eq_true (by omega)
            (try rw [show ((0 : Int)).toNat = 0 from rfl] at hx452_0)
            (try rw [Addr.add_zero'] at hx452_0)
            replace hx452_0 := (HB.out.cell (World.block_lt_of_cell? w _ hx452_0)).trans hx452_0
            replace p452 := eq_true p452
            replace q452 := eq_true q452
            have p453 : 0 ≤ (1 : Int) := (by omega)
            have q453 : 1 < (l1.length : Int) := of_decide_eq_true q5_
            obtain ⟨ad453, e453, hx453_0⟩ := Kd.at_int HR1.out 1 p453 q453
            obtain rfl : ad448 = ad453 := (by injection e453)
            (try simp only [show (1 : Int).toNat = 1 from rfl, Nat.reduceMul, Nat.reduceEqDiff, Go.Addr.add, ↓reduceIte] at hx453_0)
            have qi453 : (1 < l1.length) = True := eq_true (by omega)
            (try rw [show ((1 : Int)).toNat = 1 from rfl] at hx453_0)
            replace hx453_0 := (HB.out.cell (World.block_lt_of_cell? w _ hx453_0)).trans hx453_0
            replace p453 := eq_true p453
            replace q453 := eq_true q453
            have p454 : 0 ≤ (2 : Int) := (by omega)
            have q454 : 2 < (l1.length : Int) := of_decide_eq_true q5_
            obtain ⟨ad454, e454, hx454_0⟩ := Kd.at_int HR1.out 2 p454 q454
            obtain rfl : ad448 = ad454 := (by injection e454)
            (try simp only [show (2 : Int).toNat = 2 from rfl, Nat.reduceMul, Nat.reduceEqDiff, Go.Addr.add, ↓reduceIte] at hx454_0)
            have qi454 : (2 < l1.length) = True := eq_true (by omega)
            (try rw [show ((2 : Int)).toNat = 2 from rfl] at hx454_0)
            replace hx454_0 := (HB.out.cell (World.block_lt_of_cell? w _ hx454_0)).trans hx454_0
            replace p454 := eq_true p454
            replace q454 := eq_true q454
            have p455 : 0 ≤ (3 : Int) := (by omega)
            have q455 : 3 < (l1.length : Int) := of_decide_eq_true q5_
            obtain ⟨ad455, e455, hx455_0⟩ := Kd.at_int HR1.out 3 p455 q455
            obtain rfl : ad448 = ad455 := (by injection e455)
            (try simp only [show (3 : Int).toNat = 3 from rfl, Nat.reduceMul, Nat.reduceEqDiff, Go.Addr.add, ↓reduceIte] at hx455_0)
            have qi455 : (3 < l1.length) = True := eq_true (by omega)
            (try rw [show ((3 : Int)).toNat = 3 from rfl] at hx455_0)
            replace hx455_0 := (HB.out.cell (World.block_lt_of_cell? w _ hx455_0)).trans hx455_0
            replace p455 := eq_true p455
            replace q455 := eq_true q455
            go_wp2
            repeat (go_quiet (fail); try go_wp2)
            go_ret
            exact ⟨q7_, q0_⟩
           ·rw [if_neg c29] at H
            have c29b0 : ((Go.bits .and .i64 (rd l1 0) (rd l1 1)) == (Go.bits .and .i64 (rd l1 2) (rd l1 3))) = false := beq_eq_false_iff_ne.mpr c29
            have c29b1 : ((Go.bits .and .i64 (rd l1 0) (rd l1 1)) != (Go.bits .and .i64 (rd l1 2) (rd l1 3))) = true := bne_iff_ne.mpr c29
            obtain rfl := Option.some.inj H
            have p448 : 0 ≤ (0 : Int) := (by omega)
            have q448 : 0 < (l1.length : Int) := of_decide_eq_true q5_
            obtain ⟨ad448, e448, hx448_0⟩ := Kd.at_int HR1.out 0 p448 q448
            cases e448
            have qi448 : (0 < l1.length) = True := eq_true (by omega)
            (try rw [show ((0 : Int)).toNat = 0 from rfl] at hx448_0)
            (try rw [Addr.add_zero'] at hx448_0)
            replace hx448_0 := (HB.out.cell (World.block_lt_of_cell? w _ hx448_0)).trans hx448_0
            replace p448 := eq_true p448
            replace q448 := eq_true q448
            have p449 : 0 ≤ (1 : Int) := (by omega)
            have q449 : 1 < (l1.length : Int) := of_decide_eq_true q5_
            obtain ⟨ad449, e449, hx449_0⟩ := Kd.at_int HR1.out 1 p449 q449
            obtain rfl : ad448 = ad449 := (by injection e449)
            (try simp only [show (1 : Int).toNat = 1 from rfl, Nat.reduceMul, Nat.reduceEqDiff, Go.Addr.add, ↓reduceIte] at hx449_0)
            have qi449 : (1 < l1.length) = True := eq_true (by omega)
            (try rw [show ((1 : Int)).toNat = 1 from rfl] at hx449_0)
            replace hx449_0 := (HB.out.cell (World.block_lt_of_cell? w _ hx449_0)).trans hx449_0
            replace p449 := eq_true p449
            replace q449 := eq_true q449
            have p450 : 0 ≤ (2 : Int) := (by omega)
            have q450 : 2 < (l1.length : Int) := of_decide_eq_true q5_
            obtain ⟨ad450, e450, hx450_0⟩ := Kd.at_int HR1.out 2 p450 q450
            obtain rfl : ad448 = ad450 := (by injection e450)
            (try simp only [show (2 : Int).toNat = 2 from rfl, Nat.reduceMul, Nat.reduceEqDiff, Go.Addr.add, ↓reduceIte] at hx450_0)
            have qi450 : (2 < l1.length) = True := eq_true (by omega)
            (try rw [show ((2 : Int)).toNat = 2 from rfl] at hx450_0)
            replace hx450_0 := (HB.out.cell (World.block_lt_of_cell? w _ hx450_0)).trans hx450_0
            replace p450 := eq_true p450
            replace q450 := eq_true q450
            have p451 : 0 ≤ (3 : Int) := (by omega)
            have q451 : 3 < (l1.length : Int) := of_decide_eq_true q5_
            obtain ⟨ad451, e451, hx451_0⟩ := Kd.at_int HR1.out 3 p451 q451
            obtain rfl : ad448 = ad451 := (by injection e451)
            (try simp only [show (3 : Int).toNat = 3 from rfl, Nat.reduceMul, Nat.reduceEqDiff, Go.Addr.add, ↓reduceIte] at hx451_0)
            have qi451 : (3 < l1.length) = True := eq_true (by omega)
            (try rw [show ((3 : Int)).toNat = 3 from rfl] at hx451_0)
            replace hx451_0 := (HB.out.cell (World.block_lt_of_cell? w _ hx451_0)).trans hx451_0
            replace p451 := eq_true p451
            replace q451 := eq_true q451
            go_wp2
            repeat (go_quiet (fail); try go_wp2)
            go_ret
            exact ⟨q7_, q0_⟩
          ·rw [if_neg c28] at H
           exact absurd H (by simp)
         ·rw [if_neg c27] at H
          exact absurd H (by simp)
        ·rw [if_neg c26] at H
         exact absurd H (by simp)
       ·rw [if_neg c25] at H
        exact absurd H (by simp)
end Go.Proofs.Ytloekoepknfodaa.Print
namespace Go.Proofs.Ytloekoepknfodaa.Print
open Go.RowKit Go.Proofs.YtloekoepknfodaaW.PrintWords Go.Proofs.YtloekoepknfodaaW.PrintLast Go.Proofs.YtloekoepknfodaaW.PrintMore
attribute [local go_sem] max2_int min2_int max_two min_two max_three min_three max_four min_four   -- for this text's walks alone
set_option linter.unusedVariables false
set_option linter.unusedSimpArgs false
open Go.Proofs.Ytloekoepknfodaa.M
set_option maxHeartbeats 1600000 in
set_option maxRecDepth 100000 in
theorem impl_allTables.call (n M : Nat) (hn : n ≤ 4) (hM : M = 2 ^ 2 ^ n) (g : Nat) (lb : Array Value) (eg : ∀ args w, (callFunc g args).run Try.prog w = .ok (.enter g args) w) (I : Nat → World → Prop) (w : World) (h0 : I 0 w)
  (hc : ∀ (i : Nat) (W : World), i < M → I i W → Calls Try.prog g (#[.agg #[.int .i64 (n : Int), .int .i64 (i : Int)]] ++ lb) W fun e W' => e = .returned (.tuple #[]) ∧ I (i + 1) W') :
  Calls Try.prog 73 #[.int .i64 (n : Int), .func (.func g) #[] lb] w fun e w' => e = .returned (.tuple #[]) ∧ I M w' := by
 have huT := Try.underlying25
 have H0 := A_ h0; have HC := A_ hc
 obtain ⟨K, hK⟩ : ∃ K, K = 2 ^ n := ⟨_, rfl⟩
 have hK16 : K ≤ 16 := by rw [hK]; exact Nat.pow_le_pow_right (n := 2) (by decide) hn
 have e1 : Go.IntKind.u64.wrap (2 ^ n) = (K : Int) := by
  have := shlu_one (n := n) (by omega)
  rw [hK, ← this]; unfold shl; rw [min_bitsu (by omega), Int.one_mul]
 rw [← hK] at hM
 have hM2 : M ≤ 65536 := by rw [hM]; exact Nat.pow_le_pow_right (n := 2) (by decide) hK16
 have e2 : wrap64 (2 ^ K) = (M : Int) := by
  have := shl_one (n := K) (by omega)
  rw [hM, ← this]; unfold shl; rw [min_bits (by omega), Int.one_mul, i64_w]
 have hm1 : min n 64 = n := by omega
 have hm2 : min K 64 = K := by omega
 clear h0 hc hM hK hn
 go_enter Try.func73, Try.ntmps73
 go_wp2
 rw [e2]
 clear e2 e1
 go_loopw [8] (fun v8 wr => ∃ i : Nat, i ≤ M ∧ v8 = .int .i64 (i : Int) ∧ Aside0 (I i wr)) (fun v8 _ => M - (intOf v8).toNat)
 case atStart => exact ⟨0, Nat.zero_le _, rfl, H0⟩
 case round =>
  obtain ⟨i, hi, rfl, HI⟩ := hrel
  by_cases hlt : i < M
  ·have H1 := A_ (HC.out i wr hlt HI.out)
   have hltz : (i : Int) < (M : Int) := by omega
   go_wp2_with (go_at_fn g; refine H1.out.mono ?_; rintro e w' ⟨rfl, hi'⟩)
   go_roundw
   case rel => exact ⟨i + 1, by omega, by go_num, ⟨hi'⟩⟩
   case measure => simp [intOf]; omega
  ·obtain rfl : i = M := by omega
   go_wp2
   exact bodyPost_end (v := .tuple #[]) (by simp [results, Try.results73]) rfl ⟨rfl, HI.out⟩
end Go.Proofs.Ytloekoepknfodaa.Print
namespace Go.Proofs.Ytloekoepknfodaa.Print
open Go.RowKit Go.Proofs.YtloekoepknfodaaW.PrintWords Go.Proofs.YtloekoepknfodaaW.PrintLast Go.Proofs.YtloekoepknfodaaW.PrintMore
attribute [local go_sem] max2_int min2_int max_two min_two max_three min_three max_four min_four   -- for this text's walks alone
set_option linter.unusedVariables false
set_option linter.unusedSimpArgs false
open Go.Proofs.Ytloekoepknfodaa.M
def impl_countTables.I (w : World) (fv : Value) (c : Nat) (W : World) : Prop :=
 W.heap[w.heap.size]? = some (.cells #[fv] 33 (0, 0)) ∧ W.heap[w.heap.size + 1]? = some (.cells #[.int .i64 (c : Int)] 3 (0, 0)) ∧ Below w.heap.size w W
set_option maxHeartbeats 1600000 in
theorem impl_countTables.clo (w : World) (g : Nat) (lb : Array Value) (eg : ∀ args w, (callFunc g args).run Try.prog w = .ok (.enter g args) w) (n i : Int) (p : Bool) (c : Nat) (hc : c ≤ 1000000) (W : World) (hI : impl_countTables.I w (.func (.func g) #[] lb) c W)
  (hp : ∀ W', Below w.heap.size w W' → Calls Try.prog g (#[.agg #[.int .i64 n, .int .i64 i]] ++ lb) W' fun e W'' => e = .returned (.bool p) ∧ Below W'.heap.size W' W'') :
  Calls Try.prog 74 #[.agg #[.int .i64 n, .int .i64 i], .pointer (some ⟨w.heap.size, 0, none⟩), .pointer (some ⟨w.heap.size + 1, 0, none⟩)] W fun e W' => e = .returned (.tuple #[]) ∧ impl_countTables.I w (.func (.func g) #[] lb) (c + p.toNat) W' := by
 have huT := Try.underlying25
 obtain ⟨h1, h2, h3⟩ := hI
 have F1 : W.cell? ⟨w.heap.size, 0, none⟩ = some (.func (.func g) #[] lb) := blk_cell h1 0
 have L1 := blk_lt h1
 have L2 := blk_lt h2
 have BA : Below W.heap.size W (W.alloc (.cells #[.int .i64 n, .int .i64 i] 25)) := (Below.refl _ _).alloc (Nat.le_refl _) _
 have HP := A_ (fun nd => hp ((W.alloc (.cells #[.int .i64 n, .int .i64 i] 25)).drewN nd) (pw_below_drewN (h3.trans (BA.mono h3.size)) nd))
 have HP0 := A_ (hp (W.alloc (.cells #[.int .i64 n, .int .i64 i] 25)) (h3.trans (BA.mono h3.size)))
 have F1' : (W.alloc (.cells #[.int .i64 n, .int .i64 i] 25)).cell? ⟨w.heap.size, 0, none⟩ = some (.func (.func g) #[] lb) := (BA.cell (p := ⟨w.heap.size, 0, none⟩) L1).trans F1
 have D1 := A_ (blk_below h1 BA)
 have D2 := A_ (blk_below h2 BA)
 have D3 := A_ (h3.trans (BA.mono h3.size))
 clear hp h1 h2 h3 BA L1 L2
 cases p with
 | false =>
  go_enter Try.func74, Try.ntmps74
  go_wp2_with (go_at_fn g; refine HP0.out.mono ?_; rintro e w' ⟨rfl, hb'⟩)
  exact bodyPost_end (v := .tuple #[]) (by simp [results, Try.results74]) rfl ⟨rfl, blk_below D1.out hb', blk_below D2.out hb', D3.out.trans (hb'.mono D3.out.size)⟩
 | true =>
  have e1 : wrap64 ((c : Int) + 1) = ((c + 1 : Nat) : Int) := up1 (by omega)
  go_enter Try.func74, Try.ntmps74
  go_wp2_with (go_at_fn g; refine HP0.out.mono ?_; rintro e w' ⟨rfl, hb'⟩; have G2 := A_ (blk_below D2.out hb'); have g2 : w'.cell? ⟨w.heap.size + 1, 0, none⟩ = some (.int .i64 (c : Int)) := blk_cell G2.out 0; have z2 : w'.frozen? ⟨w.heap.size + 1, 0, none⟩ = false := blk_frozen G2.out 0)
  refine bodyPost_end (v := .tuple #[]) (by simp [results, Try.results74]) rfl ⟨rfl, ?_, ?_, ?_⟩
  ·exact blk_far (blk_below D1.out hb') (by show w.heap.size ≠ w.heap.size + 1; omega) _
  ·have := blk_set G2.out 0 (.int .i64 ((c + 1 : Nat) : Int))
   first | simpa using this | (rw [← e1] at this; simpa using this)
  ·exact (D3.out.trans (hb'.mono D3.out.size)).setCell (p := ⟨w.heap.size + 1, 0, none⟩) (by show w.heap.size ≤ w.heap.size + 1; omega) _
set_option maxHeartbeats 1600000 in
theorem impl_countTables.goodq (q : Int) (n M : Nat) (hn : n ≤ 4) (hq : (n : Int) ≤ q) (hM : M = 2 ^ 2 ^ n) (g : Nat) (lb : Array Value) (eg : ∀ args w, (callFunc g args).run Try.prog w = .ok (.enter g args) w) (p : Nat → Bool) (w : World)
  (hp : ∀ (i : Nat) (W : World), i < M → Below w.heap.size w W → Calls Try.prog g (#[.agg #[.int .i64 (n : Int), .int .i64 (i : Int)]] ++ lb) W fun e W' => e = .returned (.bool (p i)) ∧ Below W.heap.size W W') :
  Calls Try.prog 57 #[.int .i64 (n : Int), .int .i64 q, .func (.func g) #[] lb] w fun e w' => e = .returned (.int .i64 ((cnt p M : Nat) : Int)) ∧ Below w.heap.size w w' := by
 have h16 : 2 ^ n ≤ 16 := Nat.pow_le_pow_right (n := 2) (by decide) hn
 have hM2 : M ≤ 65536 := by rw [hM]; exact Nat.pow_le_pow_right (n := 2) (by decide) h16
 have HA : ∀ W, impl_countTables.I w (.func (.func g) #[] lb) 0 W → Calls Try.prog 73 #[.int .i64 (n : Int), .func (.func 74) #[] #[.pointer (some ⟨w.heap.size, 0, none⟩), .pointer (some ⟨w.heap.size + 1, 0, none⟩)]] W fun e w' => e = .returned (.tuple #[]) ∧ impl_countTables.I w (.func (.func g) #[] lb) (cnt p M) w' := fun W hI =>
  impl_allTables.call n M hn hM 74 #[.pointer (some ⟨w.heap.size, 0, none⟩), .pointer (some ⟨w.heap.size + 1, 0, none⟩)] (enters_of Try.func74 kr_ rfl) (fun i W => impl_countTables.I w (.func (.func g) #[] lb) (cnt p i) W) W hI
   (fun i W hi hI => impl_countTables.clo w g lb eg (n : Int) (i : Int) (p i) (cnt p i) (by have := cnt_le p i; omega) W hI (fun W' hb => hp i W' hi hb))
 have HC := A_ HA
 have B0 : Aside0 (∀ W, W = (w.alloc (.cells #[.func (.func g) #[] lb] 33)).alloc (.cells #[.int .i64 0] 3) → impl_countTables.I w (.func (.func g) #[] lb) 0 W) := ⟨fun W e => by
  subst e
  refine ⟨blk_alloc (blk_new w _) _, ?_, ((Below.refl _ _).alloc (Nat.le_refl _) _).alloc (by simp) _⟩
  have := blk_new (w.alloc (.cells #[.func (.func g) #[] lb] 33)) (.cells #[.int .i64 0] 3)
  simpa using this⟩
 generalize cnt p M = c at *
 have n4 : decide ((n : Int) > q) = false := decide_eq_false (by omega)
 have n5 : decide (q < (n : Int)) = false := decide_eq_false (by omega)
 clear HA hp hM hM2 h16
 go_enter Try.func57, Try.ntmps57
 go_wp2_with (first | (go_at_call 73; (with_reducible refine (HC.out _ (B0.out _ rfl)).mono ?_); rintro e w1 ⟨rfl, hI⟩; have HI := A_ hI; clear hI; have g2 : w1.cell? ⟨w.heap.size + 1, 0, none⟩ = some (.int .i64 (c : Int)) := blk_cell HI.out.2.1 0))
 go_ret
 exact ⟨rfl, HI.out.2.2⟩
theorem impl_countTables.badq (q a : Int) (g : Nat) (lb : Array Value) (w : World) (h : ¬ (0 ≤ a ∧ a ≤ q)) :
  Calls Try.prog 57 #[.int .i64 a, .int .i64 q, .func (.func g) #[] lb] w fun e w' => e = .returned (.int .i64 (-1)) ∧ Below w.heap.size w w' := by
 by_cases h0 : a < 0
 ·have n0 : decide (a < 0) = true := decide_eq_true h0
  clear h
  go_enter Try.func57, Try.ntmps57
  go_wp2_with (fail)
  go_ret
  exact ⟨rfl, by repeat (first | exact Below.refl _ _ | (refine Below.alloc ?_ (by simp) _) | apply pw_below_drewN)⟩
 ·have n0 : decide (a < 0) = false := decide_eq_false h0
  have n4 : decide (a > q) = true := decide_eq_true (by omega)
  have n5 : decide (q < a) = true := decide_eq_true (by omega)
  clear h h0
  go_enter Try.func57, Try.ntmps57
  go_wp2_with (fail)
  go_ret
  exact ⟨rfl, by repeat (first | exact Below.refl _ _ | (refine Below.alloc ?_ (by simp) _) | apply pw_below_drewN)⟩
theorem impl_countTables.bad (a : Int) (g : Nat) (lb : Array Value) (w : World) (h : ¬ (0 ≤ a ∧ a ≤ 4)) :
  Calls Try.prog 57 #[.int .i64 a, .int .i64 4, .func (.func g) #[] lb] w fun e w' => e = .returned (.int .i64 (-1)) ∧ Below w.heap.size w w' :=
 impl_countTables.badq 4 a g lb w h
end Go.Proofs.Ytloekoepknfodaa.Print
namespace Go.Proofs.Ytloekoepknfodaa.Print
open Go.RowKit Go.Proofs.YtloekoepknfodaaW.PrintWords Go.Proofs.YtloekoepknfodaaW.PrintLast Go.Proofs.YtloekoepknfodaaW.PrintMore
attribute [local go_sem] max2_int min2_int max_two min_two max_three min_three max_four min_four   -- for this text's walks alone
set_option linter.unusedVariables false
set_option linter.unusedSimpArgs false
open Go.Proofs.Ytloekoepknfodaa.M
def impl_CountThreshold.f (k : Nat) (a0 : Int) : Option (Int) := if 0 ≤ a0 ∧ a0 ≤ 3 then (cntO (fun i => impl_IsThreshold.f k a0 (i : Int)) (2 ^ 2 ^ a0.toNat)).bind fun c => some (c : Int) else some (-1)
theorem impl_CountThreshold.calls (k : Nat) (a0 : Int) (r : Int) (w : World) (h : impl_CountThreshold.f k a0 = some r) : Calls Try.prog 24 #[.int .i64 a0] w fun e w' => e = .returned (.int .i64 r) ∧ Below w.heap.size w w' := by
 unfold impl_CountThreshold.f at h
 by_cases hb : 0 ≤ a0 ∧ a0 ≤ 3
 ·rw [if_pos hb] at h
  obtain ⟨c, hc, hr⟩ := Option.bind_eq_some_iff.mp h
  clear h
  injection hr with h
  obtain ⟨n, rfl⟩ := nat_of hb.1
  rw [Int.toNat_natCast] at hc
  obtain ⟨h1, h2⟩ := cntO_some hc
  have HC := impl_countTables.goodq 3 n (2 ^ 2 ^ n) (by omega) (by omega) rfl 11 #[] (enters_of Try.func11 kr_ rfl) (fun i => (impl_IsThreshold.f k (n : Int) (i : Int)).getD false) w (fun i W hi _ => impl_IsThreshold.calls k (n : Int) (i : Int) _ W (h1 i hi))
  rw [← h2, h] at HC
  have HCA := A_ HC; clear HC h1 h2 hc h hb
  go_enter Try.func24, Try.ntmps24
  go_wp2_with (first | (go_at_call 57; (with_reducible refine HCA.out.mono ?_); rintro e w1 ⟨rfl, hb1⟩))
  go_ret
  exact ⟨rfl, hb1⟩
 ·rw [if_neg hb] at h
  injection h with h
  subst h
  have HCA := A_ (impl_countTables.badq 3 a0 11 #[] w hb)
  clear hb
  go_enter Try.func24, Try.ntmps24
  go_wp2_with (first | (go_at_call 57; (with_reducible refine HCA.out.mono ?_); rintro e w1 ⟨rfl, hb1⟩))
  go_ret
  exact ⟨rfl, hb1⟩
end Go.Proofs.Ytloekoepknfodaa.Print
namespace Go.Proofs.Ytloekoepknfodaa.Print
open Go.RowKit Go.Proofs.YtloekoepknfodaaW.PrintWords Go.Proofs.YtloekoepknfodaaW.PrintLast Go.Proofs.YtloekoepknfodaaW.PrintMore
attribute [local go_sem] max2_int min2_int max_two min_two max_three min_three max_four min_four   -- for this text's walks alone
set_option linter.unusedVariables false
set_option linter.unusedSimpArgs false
set_option maxHeartbeats 8000000
set_option maxRecDepth 100000
def spec_IsThreshold.f (k : Nat) (a0_0 : Int) (a0_1 : Int) : Option (Bool) := (spec_WeightsFor.f k a0_0 a0_1).bind fun bt457 => (some bt457.2.2)
theorem spec_IsThreshold.calls (k : Nat) (a0_0 : Int) (a0_1 : Int) (r : Bool) (w : World) (h : spec_IsThreshold.f k a0_0 a0_1 = some r) :
  Calls Try.prog 59 #[.agg #[.int .i64 a0_0, .int .i64 a0_1]] w fun e w' => e = .returned (.bool r) ∧ Below w.heap.size w w' := by
 have hu25 := Try.underlying25
 have HB := A_ (Below.refl w.heap.size w)
 have H : ((spec_WeightsFor.f k a0_0 a0_1).bind fun bt457 => (some bt457.2.2)) = some r := h
 clear h; replace H := Option.bind_eq_some_iff.mp H; obtain ⟨⟨t457, t460, t461⟩, A20, H⟩ := H
 replace H : (some t461) = some r := H
 have A2 := A_ A20; clear A20
 obtain rfl := Option.some.inj H
 go_enter Try.func59, Try.ntmps59
 go_wp2_with (first | ((with_reducible refine gate_dst (N := 1) rfl ?_); refine box_event ?hg (N := 1) ?hd (cs := #[.int .i64 a0_0, .int .i64 a0_1]) (t := 25) ?hr ?_; (case hd => rfl); (case hg => rfl); (case hr => first | (go_simp; done) | (go_simp; rfl)); intro gb456 hg w3 hbox hb; have BK456 := A_ (hbox); have GW456 := A_ ((by rw [hg]; exact (below_size q0_) : w.heap.size ≤ gb456)); have GE456 := A_ ((by rw [hg]; exact (below_size q0_) : w.heap.size ≤ gb456)); replace HB := A_ (below_step q0_ hb); clear hb hbox hg; have hcz4_0 := c20_ BK456; have hcz4_1 := c21_ BK456; have hfz4_0 := blk_frozen BK456.out 0; have hfz4_1 := blk_frozen BK456.out 1) | ((with_reducible refine gate_callee (f := 7) rfl ?_); refine goesL_ (some 8) rfl rfl Try.func7 kr_ rfl #[.agg #[.int .i64 a0_0, .int .i64 a0_1]] rfl q2_ ?_; (with_reducible refine (spec_WeightsFor.calls k a0_0 a0_1 t457 t460 t461 _ A2.out).mono ?_); rintro e w5 ⟨v458, rfl, ho0, hb⟩; refine ⟨_, rfl, ?_⟩; have HO459 := A_ (Kd.R_lower ho0 (below_size q0_)); replace BK456 := A_ (blk_below (M.Lb BK456) hb); replace HB := A_ (below_step q0_ hb); (try clear hb); (try clear hb2); (try clear hk); (try clear hi); (try clear ho0)))
 go_ret
 exact ⟨q7_, q0_⟩
def spec_CountThreshold.l0 : Nat → Int → Int → Int → Option (Int)
 | 0, _, _, _ => none
 | k + 1, x0, x3, x4 => (spec_l2Full.f x0).bind fun t463 => (if x4 ≤ t463 then ((spec_IsThreshold.f k x0 x4).bind fun t464 => (if t464 = true then (spec_CountThreshold.l0 k x0 (wrap64 (x3 + 1)) (wrap64 (x4 + 1))) else (spec_CountThreshold.l0 k x0 x3 (wrap64 (x4 + 1))))) else (some x3))
def spec_CountThreshold.f (k : Nat) (a0 : Int) : Option (Int) := (spec_l1In.f a0 0 3).bind fun t462 => (if t462 = true then (spec_CountThreshold.l0 k a0 0 0) else (some (-1)))
theorem spec_CountThreshold.calls (k : Nat) (a0 : Int) (r : Int) (w : World) (h : spec_CountThreshold.f k a0 = some r) :
  Calls Try.prog 25 #[.int .i64 a0] w fun e w' => e = .returned (.int .i64 r) ∧ Below w.heap.size w w' := by
 have hu25 := Try.underlying25
 have HB := A_ (Below.refl w.heap.size w)
 have H : ((spec_l1In.f a0 0 3).bind fun t462 => (if t462 = true then (spec_CountThreshold.l0 k a0 0 0) else (some (-1)))) = some r := h
 clear h; replace H := Option.bind_eq_some_iff.mp H; obtain ⟨t462, A20, H⟩ := H
 replace H : (if t462 = true then (spec_CountThreshold.l0 k a0 0 0) else (some (-1))) = some r := H
 have A2 := A_ A20; clear A20
 by_cases c3 : t462 = true
 ·subst c3
  have H1 : (spec_CountThreshold.l0 k a0 0 0) = some r := by rw [if_pos rfl] at H; exact H
  clear H; have H := H1; clear H1
  have H' := A_ H
  clear H
  go_enter Try.func25, Try.ntmps25
  go_wp2_with (first | ((with_reducible refine gate_callee (f := 49) rfl ?_); refine goesL_ (some 6) rfl rfl Try.func49 kr_ rfl #[.int .i64 a0, .int .i64 0, .int .i64 3] rfl q2_ ?_; (with_reducible refine (spec_l1In.calls a0 0 3 true _ A2.out).mono ?_); rintro e w' ⟨rfl, ⟨nd, rfl⟩⟩; refine ⟨_, rfl, ?_⟩))
  go_loopg [3, 4] k (fun kq v3 v4 w' => ∃ (x3_1 : Int) (x4_1 : Int), v3 = .int .i64 x3_1 ∧ v4 = .int .i64 x4_1 ∧ Aside0 (spec_CountThreshold.l0 kq a0 x3_1 x4_1 = some r) ∧ Aside0 (kq ≤ k) ∧ Aside0 (Below w.heap.size w w'))
  case atStart => exact ⟨(0), (0), q1_, q1_, H', ⟨Nat.le_refl _⟩, ⟨q0_⟩⟩
  case round =>
   clear H'; (try clear c2); (try clear p2); (try clear c3); obtain ⟨x3_1, x4_1, rfl, rfl, HA, HK1, HB⟩ := hrel
   cases gk with
   | zero => exact absurd HA.out (by simp [spec_CountThreshold.l0])
   | succ k1 =>
    have H := HA.out
    clear HA
    simp only [spec_CountThreshold.l0] at H
    replace H := Option.bind_eq_some_iff.mp H; obtain ⟨t463, A40, H⟩ := H; (try dsimp only at H); have A4 := A_ A40; clear A40
    by_cases c5 : x4_1 ≤ t463
    ·rw [if_pos c5] at H
     have c5b0 : decide (x4_1 ≤ t463) = true := decide_eq_true c5
     clear c5; replace H := Option.bind_eq_some_iff.mp H; obtain ⟨t464, A60, H⟩ := H; (try dsimp only at H); have A6 := A_ A60; clear A60
     by_cases c7 : t464 = true
     ·subst c7
      have H1 : (spec_CountThreshold.l0 k1 a0 (wrap64 (x3_1 + 1)) (wrap64 (x4_1 + 1))) = some r := by rw [if_pos rfl] at H; exact H
      clear H; have H := H1; clear H1
      have H' := A_ H
      clear H
      go_wp2_with (first | ((with_reducible refine gate_callee (f := 58) rfl ?_); refine goesL_ (some 10) rfl rfl Try.func58 kr_ rfl #[.int .i64 a0] rfl q2_ ?_; (with_reducible refine (spec_l2Full.calls a0 t463 _ A4.out).mono ?_); rintro e w' ⟨rfl, ⟨nd, rfl⟩⟩; refine ⟨_, rfl, ?_⟩) | ((with_reducible refine gate_callee (f := 59) rfl ?_); refine goesL_ (some 17) rfl rfl Try.func59 kr_ rfl #[.agg #[.int .i64 a0, .int .i64 x4_1]] rfl q2_ ?_; (with_reducible refine (spec_IsThreshold.calls k1 a0 x4_1 true _ A6.out).mono ?_); rintro e w8 ⟨rfl, hb⟩; refine ⟨_, rfl, ?_⟩; replace HB := A_ (below_step q0_ hb); (try clear hb); (try clear hb2); (try clear hk); (try clear hi)))
      go_roundg k1
      case measure => have := HK1.out; omega
      case rel => exact ⟨(wrap64 (x3_1 + 1)), (wrap64 (x4_1 + 1)), q1_, q1_, H', ⟨by have := HK1.out; omega⟩, ⟨q0_⟩⟩
     ·replace c7 := Bool.eq_false_iff.mpr c7
      subst c7
      have H1 : (spec_CountThreshold.l0 k1 a0 x3_1 (wrap64 (x4_1 + 1))) = some r := by rw [if_neg (show ¬ (false = true) by decide)] at H; exact H
      clear H; have H := H1; clear H1
      have H' := A_ H
      clear H
      go_wp2_with (first | ((with_reducible refine gate_callee (f := 58) rfl ?_); refine goesL_ (some 10) rfl rfl Try.func58 kr_ rfl #[.int .i64 a0] rfl q2_ ?_; (with_reducible refine (spec_l2Full.calls a0 t463 _ A4.out).mono ?_); rintro e w' ⟨rfl, ⟨nd, rfl⟩⟩; refine ⟨_, rfl, ?_⟩) | ((with_reducible refine gate_callee (f := 59) rfl ?_); refine goesL_ (some 17) rfl rfl Try.func59 kr_ rfl #[.agg #[.int .i64 a0, .int .i64 x4_1]] rfl q2_ ?_; (with_reducible refine (spec_IsThreshold.calls k1 a0 x4_1 false _ A6.out).mono ?_); rintro e w9 ⟨rfl, hb⟩; refine ⟨_, rfl, ?_⟩; replace HB := A_ (below_step q0_ hb); (try clear hb); (try clear hb2); (try clear hk); (try clear hi)))
      go_roundg k1
      case measure => have := HK1.out; omega
      case rel => exact ⟨(x3_1), (wrap64 (x4_1 + 1)), q1_, q1_, H', ⟨by have := HK1.out; omega⟩, ⟨q0_⟩⟩
    ·rw [if_neg c5] at H
     have c5b0 : decide (x4_1 ≤ t463) = false := decide_eq_false c5
     clear c5
     obtain rfl := Option.some.inj H
     go_wp2_with (first | ((with_reducible refine gate_callee (f := 58) rfl ?_); refine goesL_ (some 10) rfl rfl Try.func58 kr_ rfl #[.int .i64 a0] rfl q2_ ?_; (with_reducible refine (spec_l2Full.calls a0 t463 _ A4.out).mono ?_); rintro e w' ⟨rfl, ⟨nd, rfl⟩⟩; refine ⟨_, rfl, ?_⟩))
     go_ret
     exact ⟨q7_, q0_⟩
 ·replace c3 := Bool.eq_false_iff.mpr c3
  subst c3
  have H1 : (some (-1)) = some r := by rw [if_neg (show ¬ (false = true) by decide)] at H; exact H
  clear H; have H := H1; clear H1
  obtain rfl := Option.some.inj H
  go_enter Try.func25, Try.ntmps25
  go_wp2_with (first | ((with_reducible refine gate_callee (f := 49) rfl ?_); refine goesL_ (some 6) rfl rfl Try.func49 kr_ rfl #[.int .i64 a0, .int .i64 0, .int .i64 3] rfl q2_ ?_; (with_reducible refine (spec_l1In.calls a0 0 3 false _ A2.out).mono ?_); rintro e w' ⟨rfl, ⟨nd, rfl⟩⟩; refine ⟨_, rfl, ?_⟩))
  go_ret
  exact ⟨q7_, q0_⟩
def spec_ChowNumbers.l0 : Nat → List Int → Int → Int → Int → Option (List Int)
 | 0, _, _, _, _ => none
 | k + 1, x3, x4, x466000, x466001 => if x4 < x466000 then ((spec_l2Variable.f k x466000 x4).bind fun t474 => ((spec_l2Count.f k (Go.bits .and .i64 x466001 t474)).bind fun t475 => (if x3.length < 17592186044416 then (spec_ChowNumbers.l0 k (x3 ++ [t475]) (wrap64 (x4 + 1)) x466000 x466001) else (none)))) else (some x3)
def spec_ChowNumbers.f (k : Nat) (a0_0 : Int) (a0_1 : Int) : Option (List Int) := (some (([] : List Int) : List Int)).bind fun y466 => ((spec_IsTable.f a0_0 a0_1).bind fun t469 => (if t469 = true then ((spec_l2Count.f k a0_1).bind fun t470 => (if y466.length < 17592186044416 then (spec_ChowNumbers.l0 k (y466 ++ [t470]) 0 a0_0 a0_1) else (none))) else (some y466)))
def spec_ChowNumbers.T8 : Bool × List (List Nat × List Nat) := (true, [([], []), ([], []), ([1], [1]), ([], []), ([3], [3]), ([], []), ([4, 5], [4, 5]), ([2, 6], [2, 6]), ([7, 6], [7]), ([8], [8]), ([0, 9, 8], [0, 9]), ([10, 10, 0, 1, 2, 3, 4, 5, 6, 7, 8, 9, 10], [0, 10])])
def spec_ChowNumbers.B8 : List Nat := [0, 0, 2, 0, 8, 0, 56, 126, 254, 510, 1023, 2047]
theorem spec_ChowNumbers.tab8 : rtab .any (opsOf Try.f26 8) = spec_ChowNumbers.T8 := by kernel_rfl
theorem spec_ChowNumbers.bits8 : waitsOk spec_ChowNumbers.T8.2 spec_ChowNumbers.B8 = true := by kernel_rfl
theorem spec_ChowNumbers.calls (k : Nat) (a0_0 : Int) (a0_1 : Int) (r : List Int) (w : World) (h : spec_ChowNumbers.f k a0_0 a0_1 = some r) :
  Calls Try.prog 26 #[.agg #[.int .i64 a0_0, .int .i64 a0_1]] w fun e w' => ∃ v0_ : Value, e = .returned (v0_) ∧ Kd.R (Kd.int .i64) 3 w' w.heap.size (fun _ => True) v0_ r ∧ Below w.heap.size w w' := by
 have hu25 := Try.underlying25
 have HB := A_ (Below.refl w.heap.size w)
 have H : ((some (([] : List Int) : List Int)).bind fun y466 => ((spec_IsTable.f a0_0 a0_1).bind fun t469 => (if t469 = true then ((spec_l2Count.f k a0_1).bind fun t470 => (if y466.length < 17592186044416 then (spec_ChowNumbers.l0 k (y466 ++ [t470]) 0 a0_0 a0_1) else (none))) else (some y466)))) = some r := h
 clear h
 obtain ⟨y466, hy466⟩ : ∃ y_ : List Int, y_ = (([] : List Int)) := ⟨_, rfl⟩
 replace H : ((spec_IsTable.f a0_0 a0_1).bind fun t469 => (if t469 = true then ((spec_l2Count.f k a0_1).bind fun t470 => (if y466.length < 17592186044416 then (spec_ChowNumbers.l0 k (y466 ++ [t470]) 0 a0_0 a0_1) else (none))) else (some y466))) = some r := by first | (rw [hy466]; with_reducible exact H) | (have H2_ := (Option.bind_some _ _).symm.trans H; rw [hy466]; with_reducible exact H2_) | (have H2_ := (Option.bind_some _ _).symm.trans H; with_reducible exact H2_) | with_reducible exact H | (rw [hy466]; exact H) | exact H
 have Ny466 := A_ hy466; clear hy466; replace H := Option.bind_eq_some_iff.mp H; obtain ⟨t469, A20, H⟩ := H; (try dsimp only at H); have A2 := A_ A20; clear A20
 by_cases c3 : t469 = true
 ·subst c3
  have H1 : ((spec_l2Count.f k a0_1).bind fun t470 => (if y466.length < 17592186044416 then (spec_ChowNumbers.l0 k (y466 ++ [t470]) 0 a0_0 a0_1) else (none))) = some r := by rw [if_pos rfl] at H; exact H
  clear H; have H := H1; clear H1; replace H := Option.bind_eq_some_iff.mp H; obtain ⟨t470, A40, H⟩ := H; (try dsimp only at H); have A4 := A_ A40; clear A40
  by_cases c5 : y466.length < 17592186044416
  ·rw [if_pos c5] at H; have LMc5 := A_ c5; clear c5
   obtain ⟨y471, hy471⟩ : ∃ y_ : List Int, y_ = (y466 ++ [t470]) := ⟨_, rfl⟩
   replace H : (spec_ChowNumbers.l0 k y471 0 a0_0 a0_1) = some r := by first | (rw [hy471]; with_reducible exact H) | (have H2_ := (Option.bind_some _ _).symm.trans H; rw [hy471]; with_reducible exact H2_) | (have H2_ := (Option.bind_some _ _).symm.trans H; with_reducible exact H2_) | with_reducible exact H | (rw [hy471]; exact H) | exact H
   have Ny471 := A_ hy471; clear hy471
   have H' := A_ H
   clear H
   go_enter Try.func26, Try.ntmps26
   go_wp2_with (first | ((with_reducible refine gate_dst (N := 1) rfl ?_); refine box_event ?hg (N := 1) ?hd (cs := #[.int .i64 a0_0, .int .i64 a0_1]) (t := 25) ?hr ?_; (case hd => rfl); (case hg => rfl); (case hr => first | (go_simp; done) | (go_simp; rfl)); intro gb465 hg w6 hbox hb; have BK465 := A_ (hbox); have GW465 := A_ ((by rw [hg]; exact (below_size q0_) : w.heap.size ≤ gb465)); have GE465 := A_ ((by rw [hg]; exact (below_size q0_) : w.heap.size ≤ gb465)); replace HB := A_ (below_step q0_ hb); clear hb hbox hg) | ((with_reducible refine gate_dst (N := 5) rfl ?_); refine Kd.R_lit (Kd.int .i64) _ 3 ?hg (N := 5) ?hd (xs := ([] : List Int)) (inner := []) (ok := fun _ => True) (okp := fun _ => True) ?hr ?hp (fun _ hk => hk) trivial (Below.refl _ _) (Nat.le_refl _) (by simp) ?_; (case hd => rfl); (case hg => rfl); (case hr => first | (go_simp; done) | (go_simp; rfl)); (case hp => exact (Reps.none _ _)); intro v467 w7 ho8 hb hg_ hnew_; clear hg_ hnew_; (first | rw [← Ny466.out] at ho8 | (simp only [Int.reduceToNat] at ho8; rw [← Ny466.out] at ho8)); have HO468 := A_ (Kd.R_lower ho8 (below_size q0_)); replace BK465 := A_ (blk_below (M.Lb BK465) hb); replace HB := A_ (below_step q0_ hb); clear hb ho8; have hcz9_0 := c20_ BK465; have hcz9_1 := c21_ BK465; have hfz9_0 := blk_frozen BK465.out 0; have hfz9_1 := blk_frozen BK465.out 1) | ((with_reducible refine gate_callee (f := 16) rfl ?_); refine goesL_ (some 7) rfl rfl Try.func16 kr_ rfl #[.agg #[.int .i64 a0_0, .int .i64 a0_1]] rfl q2_ ?_; (with_reducible refine (spec_IsTable.calls a0_0 a0_1 true _ A2.out).mono ?_); rintro e w10 ⟨rfl, hb⟩; refine ⟨_, rfl, ?_⟩; replace HO468 := A_ (Kd.R_below (M.Lr HO468) hb); replace BK465 := A_ (blk_below (M.Lb BK465) hb); replace HB := A_ (below_step q0_ hb); (try clear hb); (try clear hb2); (try clear hk); (try clear hi); have hcz11_0 := c20_ BK465; have hcz11_1 := c21_ BK465; have hfz11_0 := blk_frozen BK465.out 0; have hfz11_1 := blk_frozen BK465.out 1) | ((with_reducible refine gate_callee (f := 60) rfl ?_); refine goesL_ (some 13) rfl rfl Try.func60 kr_ rfl #[.int .i64 a0_1] rfl q2_ ?_; (with_reducible refine (spec_l2Count.calls k a0_1 t470 _ A4.out).mono ?_); rintro e w' ⟨rfl, ⟨nd, rfl⟩⟩; refine ⟨_, rfl, ?_⟩) | ((with_reducible refine gate_builtin (b := .append) (xs := #[.tmp 10, .tmp 14]) rfl ?_); at_builtin; refine Kd.R_append (Kd.int .i64) (w0 := w) w.heap.size rfl (.tmp 10) (.tmp 14) 27 3 (.int .i64 0) 8 rfl Try.underlying27 info3 rfl (by decide) (by omega) v467 y466 t470 [.int .i64 t470] (fun _ => True) (fun _ => False) rfl rfl ?aP (fun _ hk => hk.elim) ?aF ?aO ?aB ?aS ?aL ?_; (case aP => exact rfl); (case aB => exact q0_); (case aF => exact (fun _ _ => trivial)); (case aO => exact (M.Lr HO468)); (case aS => exact (below_size q0_)); (case aL => have := LMc5.out; omega); intro v472 w12 ho hb hg hat; rw [← Ny471.out] at ho; replace BK465 := A_ (blk_grown (g := gb465) (o := .cells #[.int .i64 a0_0, .int .i64 a0_1] 25 (0, 0)) (M.Lb BK465) hg (Kd.R_ne HO468.out BK465.out (by decide))); replace HB := A_ (hb); have HO473 := A_ (ho); clear HO468; clear ho hb hg hat))
   go_loopg [3, 4] k (fun kq v3 v4 w' => ∃ (x3_1 : List Int) (x4_1 : Int), v4 = .int .i64 x4_1 ∧ Aside0 (spec_ChowNumbers.l0 kq x3_1 x4_1 a0_0 a0_1 = some r) ∧ Aside0 (kq ≤ k) ∧ Aside0 (Kd.R (Kd.int .i64) 3 w' w.heap.size (fun _ => True) v3 x3_1) ∧ Aside0 (w'.heap[gb465]? = some (.cells #[.int .i64 a0_0, .int .i64 a0_1] 25 (0, 0))) ∧ Aside0 (Below w.heap.size w w'))
   case atStart => exact ⟨(y471), (0), q1_, H', ⟨Nat.le_refl _⟩, ⟨M.Lr HO473⟩, ⟨M.Lb BK465⟩, ⟨q0_⟩⟩
   case round =>
    clear H'; (try clear c1); (try clear c2); (try clear p2); (try clear c3); (try clear c5); (try clear c6); (try clear hcz11_0); (try clear hcz11_1); (try clear hcz9_0); (try clear hcz9_1); (try clear hfz11_0); (try clear hfz11_1); (try clear hfz9_0); (try clear hfz9_1); obtain ⟨x3_1, x4_1, rfl, HA, HK1, HO_3, BK465, HB⟩ := hrel
    cases gk with
    | zero => exact absurd HA.out (by simp [spec_ChowNumbers.l0])
    | succ k1 =>
     have H := HA.out
     clear HA
     simp only [spec_ChowNumbers.l0] at H
     by_cases c13 : x4_1 < a0_0
     ·rw [if_pos c13] at H
      have c13b0 : decide (x4_1 < a0_0) = true := decide_eq_true c13
      clear c13; replace H := Option.bind_eq_some_iff.mp H; obtain ⟨t474, A140, H⟩ := H; (try dsimp only at H); have A14 := A_ A140; clear A140; replace H := Option.bind_eq_some_iff.mp H; obtain ⟨t475, A150, H⟩ := H; (try dsimp only at H); have A15 := A_ A150; clear A150
      by_cases c16 : x3_1.length < 17592186044416
      ·rw [if_pos c16] at H; have LMc16 := A_ c16; clear c16
       obtain ⟨y476, hy476⟩ : ∃ y_ : List Int, y_ = (x3_1 ++ [t475]) := ⟨_, rfl⟩
       replace H : (spec_ChowNumbers.l0 k1 y476 (wrap64 (x4_1 + 1)) a0_0 a0_1) = some r := by first | (rw [hy476]; with_reducible exact H) | (have H2_ := (Option.bind_some _ _).symm.trans H; rw [hy476]; with_reducible exact H2_) | (have H2_ := (Option.bind_some _ _).symm.trans H; with_reducible exact H2_) | with_reducible exact H | (rw [hy476]; exact H) | exact H
       have Ny476 := A_ hy476; clear hy476
       have H' := A_ H
       clear H
       have hcz17_0 := c20_ BK465
       have hcz17_1 := c21_ BK465
       have hfz17_0 := blk_frozen BK465.out 0
       have hfz17_1 := blk_frozen BK465.out 1
       try go_wp2
       have n0_ := A_ (Kd.R_drew HO_3.out)
       have n1_ := A_ (blk_drew BK465.out)
       have n2_ := A_ (below_drew1 HB.out)
       clear HO_3; clear BK465; clear HB; have HO_3 := n0_; have BK465 := n1_; have HB := n2_; clear n0_ n1_ n2_
       refine start_ (n := 12) (S := fun w' => w'.cell? ⟨gb465, 0, none⟩ = some (.int .i64 a0_0) ∧ w'.cell? ⟨gb465, 1, none⟩ = some (.int .i64 a0_1)) (ds := []) #[false, false, false, false, false, false, false, false, false, false, false, false] kr_ rfl rfl ⟨(blk_cell BK465.out 0).trans rfl, (blk_cell BK465.out 1).trans rfl⟩ (fun hHeld => ?_); refine with_tabW spec_ChowNumbers.tab8 spec_ChowNumbers.bits8 (fun HT_ HW_ => ?_)
       generalize wr.drew = w18 at HO_3 BK465 HB hHeld ⊢
       refine pure_ (i := 0) (N := some 22) (v := ?_) (a' := ?_) #[true, false, false, false, false, false, false, false, false, false, false, false] rfl rfl (any_of HT_.out kr_) (fun _ _ _ h => h) (Or.inl ⟨by rfl, ?_⟩) ?_ ?_; rotate_left
       ·intro w'; go_simp; with_reducible rfl
       rotate_left
       ·simp only [Act.put, List.setIfInBounds_toArray, List.set_cons_zero, List.set_cons_succ, i64_w, i32_w]; rfl
       refine pure_ (i := 1) (N := some 23) (v := ?_) (a' := ?_) #[true, true, false, false, false, false, false, false, false, false, false, false] rfl rfl (any_of HT_.out kr_) (fun _ _ _ h => h) (Or.inl ⟨by rfl, ?_⟩) ?_ ?_; rotate_left
       ·intro w'; go_simp; with_reducible rfl
       rotate_left
       ·simp only [Act.put, List.setIfInBounds_toArray, List.set_cons_zero, List.set_cons_succ, i64_w, i32_w]; rfl
       refine pure_ (i := 3) (N := some 25) (v := ?_) (a' := ?_) #[true, true, false, true, false, false, false, false, false, false, false, false] rfl rfl (any_of HT_.out kr_) (fun _ _ _ h => h) (Or.inl ⟨by rfl, ?_⟩) ?_ ?_; rotate_left
       ·intro w'; go_simp; with_reducible rfl
       rotate_left
       ·simp only [Act.put, List.setIfInBounds_toArray, List.set_cons_zero, List.set_cons_succ, i64_w, i32_w]; rfl
       refine pure_ (i := 5) (N := some 27) (v := ?_) (a' := ?_) #[true, true, false, true, false, true, false, false, false, false, false, false] rfl rfl (any_of HT_.out kr_) (fun _ _ _ h => h) (Or.inl ⟨by rfl, ?_⟩) ?_ ?_; rotate_left
       ·intro w'; go_simp; with_reducible rfl
       rotate_left
       ·simp only [Act.put, List.setIfInBounds_toArray, List.set_cons_zero, List.set_cons_succ, i64_w, i32_w]; rfl
       refine take_ (i := 2) (N := some 24) (v := ?_) (a' := ?_) #[true, true, true, true, false, true, false, false, false, false, false, false] rfl rfl (take_ofW HT_.out HW_.out kr_) (fun _ _ _ h => h) (Or.inl ⟨by rfl, ?_⟩) hHeld ?_ ?_
       rotate_left
       ·rintro w' ⟨s0, s1⟩
        go_simp; with_reducible rfl
       rotate_left
       ·simp only [Act.put, List.setIfInBounds_toArray, List.set_cons_zero, List.set_cons_succ, i64_w, i32_w]; rfl
       refine take_ (i := 4) (N := some 26) (v := ?_) (a' := ?_) #[true, true, true, true, true, true, false, false, false, false, false, false] rfl rfl (take_ofW HT_.out HW_.out kr_) (fun _ _ _ h => h) (Or.inl ⟨by rfl, ?_⟩) hHeld ?_ ?_
       rotate_left
       ·rintro w' ⟨s0, s1⟩
        go_simp; with_reducible rfl
       rotate_left
       ·simp only [Act.put, List.setIfInBounds_toArray, List.set_cons_zero, List.set_cons_succ, i64_w, i32_w]; rfl
       refine one_ (i := 6) (N := some 28) #[true, true, true, true, true, true, true, false, false, false, false, false] rfl rfl (one_of HT_.out kr_) (by decide) (fun K hK => ?_)
       refine goes_ Try.func61 kr_ rfl #[.int .i64 a0_0, .int .i64 x4_1] (by rfl) rfl rfl q2_ ?_
       with_reducible refine (spec_l2Variable.calls k1 a0_0 x4_1 t474 _ A14.out).mono ?_
       rintro e w' ⟨rfl, ⟨nd, rfl⟩⟩
       refine ⟨_, rfl, ?_⟩
       refine hK.out _ _ ⟨(blk_cell BK465.out 0).trans rfl, (blk_cell BK465.out 1).trans rfl⟩ (fun hHeld => ?_)
       clear hK K
       refine norm_ (a' := ?_) ?_ ?_
       rotate_left
       ·show Act.put _ (some 28) _ = _
        simp only [Act.put, List.setIfInBounds_toArray, List.set_cons_zero, List.set_cons_succ, i64_w, i32_w]; rfl
       refine pure_ (i := 7) (N := some 29) (v := ?_) (a' := ?_) #[true, true, true, true, true, true, true, true, false, false, false, false] rfl rfl (any_of HT_.out kr_) (fun _ _ _ h => h) (Or.inl ⟨by rfl, ?_⟩) ?_ ?_; rotate_left
       ·intro w'; go_simp; with_reducible rfl
       rotate_left
       ·simp only [Act.put, List.setIfInBounds_toArray, List.set_cons_zero, List.set_cons_succ, i64_w, i32_w]; rfl
       refine one_ (i := 8) (N := some 30) #[true, true, true, true, true, true, true, true, true, false, false, false] rfl rfl (one_of HT_.out kr_) (by decide) (fun K hK => ?_)
       refine goes_ Try.func60 kr_ rfl #[.int .i64 (Go.bits .and .i64 a0_1 t474)] (by rfl) rfl rfl q2_ ?_
       with_reducible refine (spec_l2Count.calls k1 (Go.bits .and .i64 a0_1 t474) t475 _ A15.out).mono ?_
       rintro e w' ⟨rfl, ⟨nd, rfl⟩⟩
       refine ⟨_, rfl, ?_⟩
       refine hK.out _ _ ⟨(blk_cell BK465.out 0).trans rfl, (blk_cell BK465.out 1).trans rfl⟩ (fun hHeld => ?_)
       clear hK K
       refine norm_ (a' := ?_) ?_ ?_
       rotate_left
       ·show Act.put _ (some 30) _ = _
        simp only [Act.put, List.setIfInBounds_toArray, List.set_cons_zero, List.set_cons_succ, i64_w, i32_w]; rfl
       refine one_ (i := 9) (N := some 31) #[true, true, true, true, true, true, true, true, true, true, false, false] rfl rfl (one_of HT_.out kr_) (by decide) (fun K hK => ?_)
       refine value_ (w1 := ?_) (v := ?_) (by rfl) rfl ?_ ?_
       rotate_left 2
       ·go_simp
        constructor
        ·rfl
        ·rfl
       refine hK.out _ _ ⟨(blk_cell (blk_alloc BK465.out _) 0).trans rfl, (blk_cell (blk_alloc BK465.out _) 1).trans rfl⟩ (fun hHeld => ?_)
       clear hK K
       refine norm_ (a' := ?_) ?_ ?_
       rotate_left
       ·show Act.put _ (some 31) _ = _
        simp only [Act.put, List.setIfInBounds_toArray, List.set_cons_zero, List.set_cons_succ, i64_w, i32_w]; rfl
       refine one_ (i := 10) (N := some 32) #[true, true, true, true, true, true, true, true, true, true, true, false] rfl rfl (one_of HT_.out kr_) (by decide) (fun K hK => ?_)
       refine Kd.R_append_step (Kd.int .i64) (w0 := w) w.heap.size (by rfl) (.tmp 22) (.tmp 31) 27 3 (.int .i64 0) 8 rfl Try.underlying27 info3 rfl (by decide) (by omega) u3 x3_1 t475 [.int .i64 t475] (fun _ => True) (fun _ => False) rfl rfl ?aP (fun _ hk => hk.elim) ?aF ?aO ?aB ?aS ?aL ?_
       (case aP => exact rfl)
       (case aB => exact q0_)
       (case aF => exact (fun _ _ => trivial))
       (case aO => exact (M.Lr HO_3))
       (case aS => exact (below_size q0_))
       (case aL => have := LMc16.out; omega)
       intro v477 w19 ho hb hg hat
       rw [← Ny476.out] at ho
       have n0_ := A_ (blk_grown (g := gb465) (o := .cells #[.int .i64 a0_0, .int .i64 a0_1] 25 (0, 0)) (M.Lb BK465) hg (Kd.R_ne HO_3.out BK465.out (by decide)))
       have n1_ := A_ (hb); have n2_ := A_ (ho); clear BK465; clear HB; clear HO_3; have BK465 := n0_; have HB := n1_; have HO478 := n2_; clear n0_ n1_ n2_; clear ho hb hg hat
       refine hK.out _ _ ⟨(blk_cell BK465.out 0).trans rfl, (blk_cell BK465.out 1).trans rfl⟩ (fun hHeld => ?_)
       clear hK K
       refine norm_ (a' := ?_) ?_ ?_
       rotate_left
       ·show Act.put _ (some 32) _ = _
        simp only [Act.put, List.setIfInBounds_toArray, List.set_cons_zero, List.set_cons_succ, i64_w, i32_w]; rfl
       refine pure_ (i := 11) (N := some 3) (v := ?_) (a' := ?_) #[true, true, true, true, true, true, true, true, true, true, true, true] rfl rfl (any_of HT_.out kr_) (fun _ _ _ h => h) (Or.inl ⟨by rfl, ?_⟩) ?_ ?_; rotate_left
       ·intro w'; go_simp; with_reducible rfl
       rotate_left
       ·simp only [Act.put, List.setIfInBounds_toArray, List.set_cons_zero, List.set_cons_succ, i64_w, i32_w]; rfl
       refine done_ (done_of HT_.out kr_) ?_
       try go_wp2
       go_roundg k1
       case measure => have := HK1.out; omega
       case rel => exact ⟨(y476), (wrap64 (x4_1 + 1)), q1_, H', ⟨by have := HK1.out; omega⟩, ⟨M.Lr HO478⟩, ⟨M.Lb BK465⟩, ⟨q0_⟩⟩
      ·rw [if_neg c16] at H
       exact absurd H (by simp)
     ·rw [if_neg c13] at H
      have c13b0 : decide (x4_1 < a0_0) = false := decide_eq_false c13
      clear c13
      obtain rfl := Option.some.inj H
      have hcz20_0 := c20_ BK465
      have hcz20_1 := c21_ BK465
      have hfz20_0 := blk_frozen BK465.out 0
      have hfz20_1 := blk_frozen BK465.out 1
      go_wp2
      go_ret
      exact ⟨_, q7_, by (with_reducible repeat (first | apply Kd.R_alloc | apply Kd.R_drewN | apply Kd.R_drew)); exact HO_3.out, q0_⟩
  ·rw [if_neg c5] at H
   exact absurd H (by simp)
 ·replace c3 := Bool.eq_false_iff.mpr c3
  subst c3
  have H1 : (some y466) = some r := by rw [if_neg (show ¬ (false = true) by decide)] at H; exact H
  clear H; have H := H1; clear H1
  obtain rfl := Option.some.inj H
  go_enter Try.func26, Try.ntmps26
  go_wp2_with (first | ((with_reducible refine gate_dst (N := 1) rfl ?_); refine box_event ?hg (N := 1) ?hd (cs := #[.int .i64 a0_0, .int .i64 a0_1]) (t := 25) ?hr ?_; (case hd => rfl); (case hg => rfl); (case hr => first | (go_simp; done) | (go_simp; rfl)); intro gb465 hg w21 hbox hb; have BK465 := A_ (hbox); have GW465 := A_ ((by rw [hg]; exact (below_size q0_) : w.heap.size ≤ gb465)); have GE465 := A_ ((by rw [hg]; exact (below_size q0_) : w.heap.size ≤ gb465)); replace HB := A_ (below_step q0_ hb); clear hb hbox hg) | ((with_reducible refine gate_dst (N := 5) rfl ?_); refine Kd.R_lit (Kd.int .i64) _ 3 ?hg (N := 5) ?hd (xs := ([] : List Int)) (inner := []) (ok := fun _ => True) (okp := fun _ => True) ?hr ?hp (fun _ hk => hk) trivial (Below.refl _ _) (Nat.le_refl _) (by simp) ?_; (case hd => rfl); (case hg => rfl); (case hr => first | (go_simp; done) | (go_simp; rfl)); (case hp => exact (Reps.none _ _)); intro v467 w22 ho23 hb hg_ hnew_; clear hg_ hnew_; (first | rw [← Ny466.out] at ho23 | (simp only [Int.reduceToNat] at ho23; rw [← Ny466.out] at ho23)); have HO468 := A_ (Kd.R_lower ho23 (below_size q0_)); replace BK465 := A_ (blk_below (M.Lb BK465) hb); replace HB := A_ (below_step q0_ hb); clear hb ho23; have hcz24_0 := c20_ BK465; have hcz24_1 := c21_ BK465; have hfz24_0 := blk_frozen BK465.out 0; have hfz24_1 := blk_frozen BK465.out 1) | ((with_reducible refine gate_callee (f := 16) rfl ?_); refine goesL_ (some 7) rfl rfl Try.func16 kr_ rfl #[.agg #[.int .i64 a0_0, .int .i64 a0_1]] rfl q2_ ?_; (with_reducible refine (spec_IsTable.calls a0_0 a0_1 false _ A2.out).mono ?_); rintro e w25 ⟨rfl, hb⟩; refine ⟨_, rfl, ?_⟩; replace HO468 := A_ (Kd.R_below (M.Lr HO468) hb); replace BK465 := A_ (blk_below (M.Lb BK465) hb); replace HB := A_ (below_step q0_ hb); (try clear hb); (try clear hb2); (try clear hk); (try clear hi)))
  go_ret
  exact ⟨_, q7_, by (with_reducible repeat (first | apply Kd.R_alloc | apply Kd.R_drewN | apply Kd.R_drew)); exact HO468.out, q0_⟩
def impl_CountOnes.f (a0_0 : Int) (a0_1 : Int) : Option (Int) := (impl_IsTable.f a0_0 a0_1).bind fun t480 => (if t480 = true then ((impl_ones.f a0_1).bind fun t481 => (some t481)) else (some (-1)))
theorem impl_CountOnes.calls (a0_0 : Int) (a0_1 : Int) (r : Int) (w : World) (h : impl_CountOnes.f a0_0 a0_1 = some r) :
  Calls Try.prog 27 #[.agg #[.int .i64 a0_0, .int .i64 a0_1]] w fun e w' => e = .returned (.int .i64 r) ∧ Below w.heap.size w w' := by
 have hu25 := Try.underlying25
 have HB := A_ (Below.refl w.heap.size w)
 have H : ((impl_IsTable.f a0_0 a0_1).bind fun t480 => (if t480 = true then ((impl_ones.f a0_1).bind fun t481 => (some t481)) else (some (-1)))) = some r := h
 clear h; replace H := Option.bind_eq_some_iff.mp H; obtain ⟨t480, A20, H⟩ := H
 replace H : (if t480 = true then ((impl_ones.f a0_1).bind fun t481 => (some t481)) else (some (-1))) = some r := H
 have A2 := A_ A20; clear A20
 by_cases c3 : t480 = true
 ·subst c3
  have H1 : ((impl_ones.f a0_1).bind fun t481 => (some t481)) = some r := by rw [if_pos rfl] at H; exact H
  clear H; have H := H1; clear H1; replace H := Option.bind_eq_some_iff.mp H; obtain ⟨t481, A40, H⟩ := H
  replace H : (some t481) = some r := H
  have A4 := A_ A40; clear A40
  obtain rfl := Option.some.inj H
  go_enter Try.func27, Try.ntmps27
  go_wp2_with (first | ((with_reducible refine gate_dst (N := 1) rfl ?_); refine box_event ?hg (N := 1) ?hd (cs := #[.int .i64 a0_0, .int .i64 a0_1]) (t := 25) ?hr ?_; (case hd => rfl); (case hg => rfl); (case hr => first | (go_simp; done) | (go_simp; rfl)); intro gb479 hg w5 hbox hb; have BK479 := A_ (hbox); have GW479 := A_ ((by rw [hg]; exact (below_size q0_) : w.heap.size ≤ gb479)); have GE479 := A_ ((by rw [hg]; exact (below_size q0_) : w.heap.size ≤ gb479)); replace HB := A_ (below_step q0_ hb); clear hb hbox hg; have hcz6_0 := c20_ BK479; have hcz6_1 := c21_ BK479; have hfz6_0 := blk_frozen BK479.out 0; have hfz6_1 := blk_frozen BK479.out 1) | ((with_reducible refine gate_callee (f := 36) rfl ?_); refine goesL_ (some 4) rfl rfl Try.func36 kr_ rfl #[.agg #[.int .i64 a0_0, .int .i64 a0_1]] rfl q2_ ?_; (with_reducible refine (impl_IsTable.calls a0_0 a0_1 true _ A2.out).mono ?_); rintro e w7 ⟨rfl, hb⟩; refine ⟨_, rfl, ?_⟩; replace BK479 := A_ (blk_below (M.Lb BK479) hb); replace HB := A_ (below_step q0_ hb); (try clear hb); (try clear hb2); (try clear hk); (try clear hi); have hcz8_0 := c20_ BK479; have hcz8_1 := c21_ BK479; have hfz8_0 := blk_frozen BK479.out 0; have hfz8_1 := blk_frozen BK479.out 1) | ((with_reducible refine gate_callee (f := 55) rfl ?_); refine goesL_ (some 8) rfl rfl Try.func55 kr_ rfl #[.int .i64 a0_1] rfl q2_ ?_; (with_reducible refine (impl_ones.calls a0_1 t481 _ A4.out).mono ?_); rintro e w' ⟨rfl, ⟨nd, rfl⟩⟩; refine ⟨_, rfl, ?_⟩))
  go_ret
  exact ⟨q7_, q0_⟩
 ·replace c3 := Bool.eq_false_iff.mpr c3
  subst c3
  have H1 : (some (-1)) = some r := by rw [if_neg (show ¬ (false = true) by decide)] at H; exact H
  clear H; have H := H1; clear H1
  obtain rfl := Option.some.inj H
  go_enter Try.func27, Try.ntmps27
  go_wp2_with (first | ((with_reducible refine gate_dst (N := 1) rfl ?_); refine box_event ?hg (N := 1) ?hd (cs := #[.int .i64 a0_0, .int .i64 a0_1]) (t := 25) ?hr ?_; (case hd => rfl); (case hg => rfl); (case hr => first | (go_simp; done) | (go_simp; rfl)); intro gb479 hg w9 hbox hb; have BK479 := A_ (hbox); have GW479 := A_ ((by rw [hg]; exact (below_size q0_) : w.heap.size ≤ gb479)); have GE479 := A_ ((by rw [hg]; exact (below_size q0_) : w.heap.size ≤ gb479)); replace HB := A_ (below_step q0_ hb); clear hb hbox hg; have hcz10_0 := c20_ BK479; have hcz10_1 := c21_ BK479; have hfz10_0 := blk_frozen BK479.out 0; have hfz10_1 := blk_frozen BK479.out 1) | ((with_reducible refine gate_callee (f := 36) rfl ?_); refine goesL_ (some 4) rfl rfl Try.func36 kr_ rfl #[.agg #[.int .i64 a0_0, .int .i64 a0_1]] rfl q2_ ?_; (with_reducible refine (impl_IsTable.calls a0_0 a0_1 false _ A2.out).mono ?_); rintro e w11 ⟨rfl, hb⟩; refine ⟨_, rfl, ?_⟩; replace BK479 := A_ (blk_below (M.Lb BK479) hb); replace HB := A_ (below_step q0_ hb); (try clear hb); (try clear hb2); (try clear hk); (try clear hi)))
  go_ret
  exact ⟨q7_, q0_⟩
end Go.Proofs.Ytloekoepknfodaa.Print
