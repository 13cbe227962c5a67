import Derived.Test.YtloekoepknfodaaKThreshold2
import Derived.Test.YtloekoepknfodaaKThreshold6
import Derived.Test.YtloekoepknfodaaKThreshold8
import Derived.Test.YtloekoepknfodaaM40
namespace Go.Proofs.Ytloekoepknfodaa.Print
open Go.RowKit Go.Proofs.YtloekoepknfodaaW.PrintWords Go.Proofs.YtloekoepknfodaaW.PrintLast Go.Proofs.YtloekoepknfodaaW.PrintMore
attribute [local go_sem] max2_int min2_int max_two min_two max_three min_three max_four min_four   -- for this text's walks alone
set_option linter.unusedVariables false
set_option linter.unusedSimpArgs false
set_option maxHeartbeats 8000000
set_option maxRecDepth 100000
private theorem sT_ {α : Type _} (l : List α) (i : Nat) (a : α) : l.toArray.setIfInBounds i a = (l.set i a).toArray := List.setIfInBounds_toArray ..
private theorem s0_ {α : Type _} {x y : α} {l : List α} : (x :: l).set 0 y = y :: l := rfl
private theorem s1_ {α : Type _} {x y : α} {l : List α} {n : Nat} : (x :: l).set (n + 1) y = x :: l.set n y := rfl
def impl_Table_polarity.f (a0_0 : Int) (a0_1 : Int) (a1 : Int) : Option (Int) := (impl_Table_restrict.f a0_0 a0_1 a1 0).bind fun bt312 => ((impl_Table_restrict.f a0_0 a0_1 a1 1).bind fun bt314 => (if bt312.2 = bt314.2 then (some 0) else (if (Go.bits .andNot .i64 bt312.2 bt314.2) = 0 then (some 1) else (if (Go.bits .andNot .i64 bt314.2 bt312.2) = 0 then (some (-1)) else (some 2)))))
def impl_Table_polarity.T1 : Bool × List (List Nat × List Nat) := (true, [([], []), ([], []), ([0, 1], [0, 1]), ([2], [2]), ([], []), ([], []), ([4, 5, 2], [4, 5]), ([6], [6]), ([3, 6, 0, 1, 2, 3], [3]), ([7, 8, 0, 1, 2, 3, 4, 5, 6, 7, 8], [7])])
def impl_Table_polarity.B1 : List Nat := [0, 0, 3, 7, 0, 0, 55, 119, 127, 511]
theorem impl_Table_polarity.tab1 : rtab .any (opsOf Try.f47 1) = impl_Table_polarity.T1 := by kernel_rfl
theorem impl_Table_polarity.bits1 : waitsOk impl_Table_polarity.T1.2 impl_Table_polarity.B1 = true := by kernel_rfl
theorem impl_Table_polarity.calls (a0_0 : Int) (a0_1 : Int) (a1 : Int) (r : Int) (w : World) (h : impl_Table_polarity.f a0_0 a0_1 a1 = some r) :
  Calls Try.prog 47 #[.agg #[.int .i64 a0_0, .int .i64 a0_1], .int .i64 a1] w fun e w' => e = .returned (.int .i64 r) ∧ Below w.heap.size w w' := by
 have hu25 := Try.underlying25
 have hfld25_1 : ∀ (x0 : Int) (x1 : Int) (W : World), (Instr.field 25 (.agg #[.int .i64 x0, .int .i64 x1]) 1).run Try.prog W = .ok (.int .i64 x1) W := fun _ _ _ => by kernel_rfl
 have HB := A_ (Below.refl w.heap.size w)
 have H : ((impl_Table_restrict.f a0_0 a0_1 a1 0).bind fun bt312 => ((impl_Table_restrict.f a0_0 a0_1 a1 1).bind fun bt314 => (if bt312.2 = bt314.2 then (some 0) else (if (Go.bits .andNot .i64 bt312.2 bt314.2) = 0 then (some 1) else (if (Go.bits .andNot .i64 bt314.2 bt312.2) = 0 then (some (-1)) else (some 2)))))) = some r := h
 clear h; replace H := Option.bind_eq_some_iff.mp H; obtain ⟨⟨t312, t313⟩, A30, H⟩ := H; (try dsimp only at H); have A3 := A_ A30; clear A30; replace H := Option.bind_eq_some_iff.mp H; obtain ⟨⟨t314, t315⟩, A40, H⟩ := H; (try dsimp only at H); have A4 := A_ A40; clear A40
 by_cases c5 : t313 = t315
 ·rw [if_pos c5] at H
  have c5b0 : (t313 == t315) = true := beq_iff_eq.mpr c5
  have c5b1 : (t313 != t315) = false := bne_eq_false_iff_eq.mpr c5
  clear c5
  obtain rfl := Option.some.inj H
  go_enter Try.func47, Try.ntmps47
  try go_wp2_with (first | ((with_reducible refine gate_dst (N := 2) rfl ?_); refine box_event ?hg (N := 2) ?hd (cs := #[.int .i64 a0_0, .int .i64 a0_1]) (t := 25) ?hr ?_; (case hd => rfl); (case hg => rfl); (case hr => first | (go_simp; done) | (go_simp; rfl)); intro gb311 hg w6 hbox hb; have BK311 := A_ (hbox); have GW311 := A_ ((by rw [hg]; exact (below_size q0_) : w.heap.size ≤ gb311)); have GE311 := A_ ((by rw [hg]; exact (below_size q0_) : w.heap.size ≤ gb311)); replace HB := A_ (below_step q0_ hb); clear hb hbox hg))
  have n0_ := A_ (blk_drew BK311.out)
  have n1_ := A_ (below_drew1 HB.out)
  clear BK311; clear HB; have BK311 := n0_; have HB := n1_; clear n0_ n1_
  refine start_ (n := 10) (S := fun w' => w'.cell? ⟨gb311, 0, none⟩ = some (.int .i64 a0_0) ∧ w'.cell? ⟨gb311, 1, none⟩ = some (.int .i64 a0_1)) (ds := []) #[false, false, false, false, false, false, false, false, false, false] kr_ rfl rfl ⟨(blk_cell BK311.out 0).trans rfl, (blk_cell BK311.out 1).trans rfl⟩ (fun hHeld => ?_); refine with_tabW impl_Table_polarity.tab1 impl_Table_polarity.bits1 (fun HT_ HW_ => ?_)
  generalize w6.drew = w7 at BK311 HB hHeld ⊢
  refine pure_ (i := 1) (N := some 8) (v := ?_) (a' := ?_) #[false, true, false, false, false, false, false, false, false, false] rfl rfl (any_of HT_.out kr_) (fun _ _ _ h => h) (Or.inl ⟨by rfl, ?_⟩) ?_ ?_; rotate_left
  ·intro w'; go_simp; with_reducible rfl
  rotate_left
  ·simp only [Act.put, sT_, s0_, s1_, i64_w, i32_w]; rfl
  refine pure_ (i := 5) (N := some 12) (v := ?_) (a' := ?_) #[false, true, false, false, false, true, false, false, false, false] rfl rfl (any_of HT_.out kr_) (fun _ _ _ h => h) (Or.inl ⟨by rfl, ?_⟩) ?_ ?_; rotate_left
  ·intro w'; go_simp; with_reducible rfl
  rotate_left
  ·simp only [Act.put, sT_, s0_, s1_, i64_w, i32_w]; rfl
  refine take_ (i := 0) (N := some 7) (v := ?_) (a' := ?_) #[true, true, false, false, false, true, false, false, false, false] rfl rfl (take_ofW HT_.out HW_.out kr_) (fun _ _ _ h => h) (Or.inl ⟨by rfl, ?_⟩) hHeld ?_ ?_
  rotate_left
  ·rintro w' ⟨s0, s1⟩
   go_simp; with_reducible rfl
  rotate_left
  ·simp only [Act.put, sT_, s0_, s1_, i64_w, i32_w]; rfl
  refine take_ (i := 4) (N := some 11) (v := ?_) (a' := ?_) #[true, true, false, false, true, true, false, false, false, false] rfl rfl (take_ofW HT_.out HW_.out kr_) (fun _ _ _ h => h) (Or.inl ⟨by rfl, ?_⟩) hHeld ?_ ?_
  rotate_left
  ·rintro w' ⟨s0, s1⟩
   go_simp; with_reducible rfl
  rotate_left
  ·simp only [Act.put, sT_, s0_, s1_, i64_w, i32_w]; rfl
  refine one_ (i := 2) (N := some 9) #[true, true, true, false, true, true, false, false, false, false] rfl rfl (one_of HT_.out kr_) (by decide) (fun K hK => ?_)
  refine goes_ Try.func67 kr_ rfl #[.agg #[.int .i64 a0_0, .int .i64 a0_1], .int .i64 a1, .int .i64 0] (by rfl) rfl rfl q2_ ?_
  with_reducible refine (impl_Table_restrict.calls a0_0 a0_1 a1 0 t312 t313 _ A3.out).mono ?_
  rintro e w8 ⟨rfl, hb⟩
  refine ⟨_, rfl, ?_⟩
  have n0_ := A_ (blk_below (M.Lb BK311) hb)
  have n1_ := A_ (below_step q0_ hb)
  clear BK311; clear HB; have BK311 := n0_; have HB := n1_; clear n0_ n1_; (try clear hb); (try clear hb2); (try clear hk); (try clear hi)
  refine hK.out _ _ ⟨(blk_cell BK311.out 0).trans rfl, (blk_cell BK311.out 1).trans rfl⟩ (fun hHeld => ?_)
  clear hK K
  refine norm_ (a' := ?_) ?_ ?_
  rotate_left
  ·show Act.put _ (some 9) _ = _
   simp only [Act.put, sT_, s0_, s1_, i64_w, i32_w]; rfl
  refine pure_ (i := 3) (N := some 10) (v := ?_) (a' := ?_) #[true, true, true, true, true, true, false, false, false, false] rfl rfl (any_of HT_.out kr_) (fun _ _ _ h => h) (Or.inl ⟨by rfl, ?_⟩) ?_ ?_; rotate_left
  ·intro w'; go_simp; with_reducible rfl
  rotate_left
  ·simp only [Act.put, sT_, s0_, s1_, i64_w, i32_w]; rfl
  refine one_ (i := 6) (N := some 13) #[true, true, true, true, true, true, true, false, false, false] rfl rfl (one_of HT_.out kr_) (by decide) (fun K hK => ?_)
  refine goes_ Try.func67 kr_ rfl #[.agg #[.int .i64 a0_0, .int .i64 a0_1], .int .i64 a1, .int .i64 1] (by rfl) rfl rfl q2_ ?_
  with_reducible refine (impl_Table_restrict.calls a0_0 a0_1 a1 1 t314 t315 _ A4.out).mono ?_
  rintro e w9 ⟨rfl, hb⟩
  refine ⟨_, rfl, ?_⟩
  have n0_ := A_ (blk_below (M.Lb BK311) hb)
  have n1_ := A_ (below_step q0_ hb)
  clear BK311; clear HB; have BK311 := n0_; have HB := n1_; clear n0_ n1_; (try clear hb); (try clear hb2); (try clear hk); (try clear hi)
  refine hK.out _ _ ⟨(blk_cell BK311.out 0).trans rfl, (blk_cell BK311.out 1).trans rfl⟩ (fun hHeld => ?_)
  clear hK K
  refine norm_ (a' := ?_) ?_ ?_
  rotate_left
  ·show Act.put _ (some 13) _ = _
   simp only [Act.put, sT_, s0_, s1_, i64_w, i32_w]; rfl
  refine pure_ (i := 7) (N := some 14) (v := ?_) (a' := ?_) #[true, true, true, true, true, true, true, true, false, false] rfl rfl (any_of HT_.out kr_) (fun _ _ _ h => h) (Or.inl ⟨by rfl, ?_⟩) ?_ ?_; rotate_left
  ·intro w'; go_simp; with_reducible rfl
  rotate_left
  ·simp only [Act.put, sT_, s0_, s1_, i64_w, i32_w]; rfl
  refine pure_ (i := 8) (N := some 5) (v := ?_) (a' := ?_) #[true, true, true, true, true, true, true, true, true, false] rfl rfl (any_of HT_.out kr_) (fun _ _ _ h => h) (Or.inl ⟨by rfl, ?_⟩) ?_ ?_; rotate_left
  ·intro w'; go_simp; with_reducible rfl
  rotate_left
  ·simp only [Act.put, sT_, s0_, s1_, i64_w, i32_w]; rfl
  refine pure_ (i := 9) (N := some 6) (v := ?_) (a' := ?_) #[true, true, true, true, true, true, true, true, true, true] rfl rfl (any_of HT_.out kr_) (fun _ _ _ h => h) (Or.inl ⟨by rfl, ?_⟩) ?_ ?_; rotate_left
  ·intro w'; go_simp; with_reducible rfl
  rotate_left
  ·simp only [Act.put, sT_, s0_, s1_, i64_w, i32_w]; rfl
  refine done_ (done_of HT_.out kr_) ?_
  try go_wp2
  go_ret
  exact ⟨q7_, q0_⟩
 ·rw [if_neg c5] at H
  have c5b0 : (t313 == t315) = false := beq_eq_false_iff_ne.mpr c5
  have c5b1 : (t313 != t315) = true := bne_iff_ne.mpr c5
  by_cases c10 : (Go.bits .andNot .i64 t313 t315) = 0
  ·rw [if_pos c10] at H
   have c10b0 : ((Go.bits .andNot .i64 t313 t315) == 0) = true := beq_iff_eq.mpr c10
   have c10b1 : ((Go.bits .andNot .i64 t313 t315) != 0) = false := bne_eq_false_iff_eq.mpr c10
   clear c10
   obtain rfl := Option.some.inj H
   go_enter Try.func47, Try.ntmps47
   try go_wp2_with (first | ((with_reducible refine gate_dst (N := 2) rfl ?_); refine box_event ?hg (N := 2) ?hd (cs := #[.int .i64 a0_0, .int .i64 a0_1]) (t := 25) ?hr ?_; (case hd => rfl); (case hg => rfl); (case hr => first | (go_simp; done) | (go_simp; rfl)); intro gb311 hg w11 hbox hb; have BK311 := A_ (hbox); have GW311 := A_ ((by rw [hg]; exact (below_size q0_) : w.heap.size ≤ gb311)); have GE311 := A_ ((by rw [hg]; exact (below_size q0_) : w.heap.size ≤ gb311)); replace HB := A_ (below_step q0_ hb); clear hb hbox hg))
   have n0_ := A_ (blk_drew BK311.out)
   have n1_ := A_ (below_drew1 HB.out)
   clear BK311; clear HB; have BK311 := n0_; have HB := n1_; clear n0_ n1_
   refine start_ (n := 10) (S := fun w' => w'.cell? ⟨gb311, 0, none⟩ = some (.int .i64 a0_0) ∧ w'.cell? ⟨gb311, 1, none⟩ = some (.int .i64 a0_1)) (ds := []) #[false, false, false, false, false, false, false, false, false, false] kr_ rfl rfl ⟨(blk_cell BK311.out 0).trans rfl, (blk_cell BK311.out 1).trans rfl⟩ (fun hHeld => ?_); refine with_tabW impl_Table_polarity.tab1 impl_Table_polarity.bits1 (fun HT_ HW_ => ?_)
   generalize w11.drew = w12 at BK311 HB hHeld ⊢
   refine pure_ (i := 1) (N := some 8) (v := ?_) (a' := ?_) #[false, true, false, false, false, false, false, false, false, false] rfl rfl (any_of HT_.out kr_) (fun _ _ _ h => h) (Or.inl ⟨by rfl, ?_⟩) ?_ ?_; rotate_left
   ·intro w'; go_simp; with_reducible rfl
   rotate_left
   ·simp only [Act.put, sT_, s0_, s1_, i64_w, i32_w]; rfl
   refine pure_ (i := 5) (N := some 12) (v := ?_) (a' := ?_) #[false, true, false, false, false, true, false, false, false, false] rfl rfl (any_of HT_.out kr_) (fun _ _ _ h => h) (Or.inl ⟨by rfl, ?_⟩) ?_ ?_; rotate_left
   ·intro w'; go_simp; with_reducible rfl
   rotate_left
   ·simp only [Act.put, sT_, s0_, s1_, i64_w, i32_w]; rfl
   refine take_ (i := 0) (N := some 7) (v := ?_) (a' := ?_) #[true, true, false, false, false, true, false, false, false, false] rfl rfl (take_ofW HT_.out HW_.out kr_) (fun _ _ _ h => h) (Or.inl ⟨by rfl, ?_⟩) hHeld ?_ ?_
   rotate_left
   ·rintro w' ⟨s0, s1⟩
    go_simp; with_reducible rfl
   rotate_left
   ·simp only [Act.put, sT_, s0_, s1_, i64_w, i32_w]; rfl
   refine take_ (i := 4) (N := some 11) (v := ?_) (a' := ?_) #[true, true, false, false, true, true, false, false, false, false] rfl rfl (take_ofW HT_.out HW_.out kr_) (fun _ _ _ h => h) (Or.inl ⟨by rfl, ?_⟩) hHeld ?_ ?_
   rotate_left
   ·rintro w' ⟨s0, s1⟩
    go_simp; with_reducible rfl
   rotate_left
   ·simp only [Act.put, sT_, s0_, s1_, i64_w, i32_w]; rfl
   refine one_ (i := 2) (N := some 9) #[true, true, true, false, true, true, false, false, false, false] rfl rfl (one_of HT_.out kr_) (by decide) (fun K hK => ?_)
   refine goes_ Try.func67 kr_ rfl #[.agg #[.int .i64 a0_0, .int .i64 a0_1], .int .i64 a1, .int .i64 0] (by rfl) rfl rfl q2_ ?_
   with_reducible refine (impl_Table_restrict.calls a0_0 a0_1 a1 0 t312 t313 _ A3.out).mono ?_
   rintro e w13 ⟨rfl, hb⟩
   refine ⟨_, rfl, ?_⟩
   have n0_ := A_ (blk_below (M.Lb BK311) hb)
   have n1_ := A_ (below_step q0_ hb)
   clear BK311; clear HB; have BK311 := n0_; have HB := n1_; clear n0_ n1_; (try clear hb); (try clear hb2); (try clear hk); (try clear hi)
   refine hK.out _ _ ⟨(blk_cell BK311.out 0).trans rfl, (blk_cell BK311.out 1).trans rfl⟩ (fun hHeld => ?_)
   clear hK K
   refine norm_ (a' := ?_) ?_ ?_
   rotate_left
   ·show Act.put _ (some 9) _ = _
    simp only [Act.put, sT_, s0_, s1_, i64_w, i32_w]; rfl
   refine pure_ (i := 3) (N := some 10) (v := ?_) (a' := ?_) #[true, true, true, true, true, true, false, false, false, false] rfl rfl (any_of HT_.out kr_) (fun _ _ _ h => h) (Or.inl ⟨by rfl, ?_⟩) ?_ ?_; rotate_left
   ·intro w'; go_simp; with_reducible rfl
   rotate_left
   ·simp only [Act.put, sT_, s0_, s1_, i64_w, i32_w]; rfl
   refine one_ (i := 6) (N := some 13) #[true, true, true, true, true, true, true, false, false, false] rfl rfl (one_of HT_.out kr_) (by decide) (fun K hK => ?_)
   refine goes_ Try.func67 kr_ rfl #[.agg #[.int .i64 a0_0, .int .i64 a0_1], .int .i64 a1, .int .i64 1] (by rfl) rfl rfl q2_ ?_
   with_reducible refine (impl_Table_restrict.calls a0_0 a0_1 a1 1 t314 t315 _ A4.out).mono ?_
   rintro e w14 ⟨rfl, hb⟩
   refine ⟨_, rfl, ?_⟩
   have n0_ := A_ (blk_below (M.Lb BK311) hb)
   have n1_ := A_ (below_step q0_ hb)
   clear BK311; clear HB; have BK311 := n0_; have HB := n1_; clear n0_ n1_; (try clear hb); (try clear hb2); (try clear hk); (try clear hi)
   refine hK.out _ _ ⟨(blk_cell BK311.out 0).trans rfl, (blk_cell BK311.out 1).trans rfl⟩ (fun hHeld => ?_)
   clear hK K
   refine norm_ (a' := ?_) ?_ ?_
   rotate_left
   ·show Act.put _ (some 13) _ = _
    simp only [Act.put, sT_, s0_, s1_, i64_w, i32_w]; rfl
   refine pure_ (i := 7) (N := some 14) (v := ?_) (a' := ?_) #[true, true, true, true, true, true, true, true, false, false] rfl rfl (any_of HT_.out kr_) (fun _ _ _ h => h) (Or.inl ⟨by rfl, ?_⟩) ?_ ?_; rotate_left
   ·intro w'; go_simp; with_reducible rfl
   rotate_left
   ·simp only [Act.put, sT_, s0_, s1_, i64_w, i32_w]; rfl
   refine pure_ (i := 8) (N := some 5) (v := ?_) (a' := ?_) #[true, true, true, true, true, true, true, true, true, false] rfl rfl (any_of HT_.out kr_) (fun _ _ _ h => h) (Or.inl ⟨by rfl, ?_⟩) ?_ ?_; rotate_left
   ·intro w'; go_simp; with_reducible rfl
   rotate_left
   ·simp only [Act.put, sT_, s0_, s1_, i64_w, i32_w]; rfl
   refine pure_ (i := 9) (N := some 6) (v := ?_) (a' := ?_) #[true, true, true, true, true, true, true, true, true, true] rfl rfl (any_of HT_.out kr_) (fun _ _ _ h => h) (Or.inl ⟨by rfl, ?_⟩) ?_ ?_; rotate_left
   ·intro w'; go_simp; with_reducible rfl
   rotate_left
   ·simp only [Act.put, sT_, s0_, s1_, i64_w, i32_w]; rfl
   refine done_ (done_of HT_.out kr_) ?_
   try go_wp2
   go_ret
   exact ⟨q7_, q0_⟩
  ·rw [if_neg c10] at H
   have c10b0 : ((Go.bits .andNot .i64 t313 t315) == 0) = false := beq_eq_false_iff_ne.mpr c10
   have c10b1 : ((Go.bits .andNot .i64 t313 t315) != 0) = true := bne_iff_ne.mpr c10
   by_cases c15 : (Go.bits .andNot .i64 t315 t313) = 0
   ·rw [if_pos c15] at H
    have c15b0 : ((Go.bits .andNot .i64 t315 t313) == 0) = true := beq_iff_eq.mpr c15
    have c15b1 : ((Go.bits .andNot .i64 t315 t313) != 0) = false := bne_eq_false_iff_eq.mpr c15
    clear c15
    obtain rfl := Option.some.inj H
    go_enter Try.func47, Try.ntmps47
    try go_wp2_with (first | ((with_reducible refine gate_dst (N := 2) rfl ?_); refine box_event ?hg (N := 2) ?hd (cs := #[.int .i64 a0_0, .int .i64 a0_1]) (t := 25) ?hr ?_; (case hd => rfl); (case hg => rfl); (case hr => first | (go_simp; done) | (go_simp; rfl)); intro gb311 hg w16 hbox hb; have BK311 := A_ (hbox); have GW311 := A_ ((by rw [hg]; exact (below_size q0_) : w.heap.size ≤ gb311)); have GE311 := A_ ((by rw [hg]; exact (below_size q0_) : w.heap.size ≤ gb311)); replace HB := A_ (below_step q0_ hb); clear hb hbox hg))
    have n0_ := A_ (blk_drew BK311.out)
    have n1_ := A_ (below_drew1 HB.out)
    clear BK311; clear HB; have BK311 := n0_; have HB := n1_; clear n0_ n1_
    refine start_ (n := 10) (S := fun w' => w'.cell? ⟨gb311, 0, none⟩ = some (.int .i64 a0_0) ∧ w'.cell? ⟨gb311, 1, none⟩ = some (.int .i64 a0_1)) (ds := []) #[false, false, false, false, false, false, false, false, false, false] kr_ rfl rfl ⟨(blk_cell BK311.out 0).trans rfl, (blk_cell BK311.out 1).trans rfl⟩ (fun hHeld => ?_); refine with_tabW impl_Table_polarity.tab1 impl_Table_polarity.bits1 (fun HT_ HW_ => ?_)
    generalize w16.drew = w17 at BK311 HB hHeld ⊢
    refine pure_ (i := 1) (N := some 8) (v := ?_) (a' := ?_) #[false, true, false, false, false, false, false, false, false, false] rfl rfl (any_of HT_.out kr_) (fun _ _ _ h => h) (Or.inl ⟨by rfl, ?_⟩) ?_ ?_; rotate_left
    ·intro w'; go_simp; with_reducible rfl
    rotate_left
    ·simp only [Act.put, sT_, s0_, s1_, i64_w, i32_w]; rfl
    refine pure_ (i := 5) (N := some 12) (v := ?_) (a' := ?_) #[false, true, false, false, false, true, false, false, false, false] rfl rfl (any_of HT_.out kr_) (fun _ _ _ h => h) (Or.inl ⟨by rfl, ?_⟩) ?_ ?_; rotate_left
    ·intro w'; go_simp; with_reducible rfl
    rotate_left
    ·simp only [Act.put, sT_, s0_, s1_, i64_w, i32_w]; rfl
    refine take_ (i := 0) (N := some 7) (v := ?_) (a' := ?_) #[true, true, false, false, false, true, false, false, false, false] rfl rfl (take_ofW HT_.out HW_.out kr_) (fun _ _ _ h => h) (Or.inl ⟨by rfl, ?_⟩) hHeld ?_ ?_
    rotate_left
    ·rintro w' ⟨s0, s1⟩
     go_simp; with_reducible rfl
    rotate_left
    ·simp only [Act.put, sT_, s0_, s1_, i64_w, i32_w]; rfl
    refine take_ (i := 4) (N := some 11) (v := ?_) (a' := ?_) #[true, true, false, false, true, true, false, false, false, false] rfl rfl (take_ofW HT_.out HW_.out kr_) (fun _ _ _ h => h) (Or.inl ⟨by rfl, ?_⟩) hHeld ?_ ?_
    rotate_left
    ·rintro w' ⟨s0, s1⟩
     go_simp; with_reducible rfl
    rotate_left
    ·simp only [Act.put, sT_, s0_, s1_, i64_w, i32_w]; rfl
    refine one_ (i := 2) (N := some 9) #[true, true, true, false, true, true, false, false, false, false] rfl rfl (one_of HT_.out kr_) (by decide) (fun K hK => ?_)
    refine goes_ Try.func67 kr_ rfl #[.agg #[.int .i64 a0_0, .int .i64 a0_1], .int .i64 a1, .int .i64 0] (by rfl) rfl rfl q2_ ?_
    with_reducible refine (impl_Table_restrict.calls a0_0 a0_1 a1 0 t312 t313 _ A3.out).mono ?_
    rintro e w18 ⟨rfl, hb⟩
    refine ⟨_, rfl, ?_⟩
    have n0_ := A_ (blk_below (M.Lb BK311) hb)
    have n1_ := A_ (below_step q0_ hb)
    clear BK311; clear HB; have BK311 := n0_; have HB := n1_; clear n0_ n1_; (try clear hb); (try clear hb2); (try clear hk); (try clear hi)
    refine hK.out _ _ ⟨(blk_cell BK311.out 0).trans rfl, (blk_cell BK311.out 1).trans rfl⟩ (fun hHeld => ?_)
    clear hK K
    refine norm_ (a' := ?_) ?_ ?_
    rotate_left
    ·show Act.put _ (some 9) _ = _
     simp only [Act.put, sT_, s0_, s1_, i64_w, i32_w]; rfl
    refine pure_ (i := 3) (N := some 10) (v := ?_) (a' := ?_) #[true, true, true, true, true, true, false, false, false, false] rfl rfl (any_of HT_.out kr_) (fun _ _ _ h => h) (Or.inl ⟨by rfl, ?_⟩) ?_ ?_; rotate_left
    ·intro w'; go_simp; with_reducible rfl
    rotate_left
    ·simp only [Act.put, sT_, s0_, s1_, i64_w, i32_w]; rfl
    refine one_ (i := 6) (N := some 13) #[true, true, true, true, true, true, true, false, false, false] rfl rfl (one_of HT_.out kr_) (by decide) (fun K hK => ?_)
    refine goes_ Try.func67 kr_ rfl #[.agg #[.int .i64 a0_0, .int .i64 a0_1], .int .i64 a1, .int .i64 1] (by rfl) rfl rfl q2_ ?_
    with_reducible refine (impl_Table_restrict.calls a0_0 a0_1 a1 1 t314 t315 _ A4.out).mono ?_
    rintro e w19 ⟨rfl, hb⟩
    refine ⟨_, rfl, ?_⟩
    have n0_ := A_ (blk_below (M.Lb BK311) hb)
    have n1_ := A_ (below_step q0_ hb)
    clear BK311; clear HB; have BK311 := n0_; have HB := n1_; clear n0_ n1_; (try clear hb); (try clear hb2); (try clear hk); (try clear hi)
    refine hK.out _ _ ⟨(blk_cell BK311.out 0).trans rfl, (blk_cell BK311.out 1).trans rfl⟩ (fun hHeld => ?_)
    clear hK K
    refine norm_ (a' := ?_) ?_ ?_
    rotate_left
    ·show Act.put _ (some 13) _ = _
     simp only [Act.put, sT_, s0_, s1_, i64_w, i32_w]; rfl
    refine pure_ (i := 7) (N := some 14) (v := ?_) (a' := ?_) #[true, true, true, true, true, true, true, true, false, false] rfl rfl (any_of HT_.out kr_) (fun _ _ _ h => h) (Or.inl ⟨by rfl, ?_⟩) ?_ ?_; rotate_left
    ·intro w'; go_simp; with_reducible rfl
    rotate_left
    ·simp only [Act.put, sT_, s0_, s1_, i64_w, i32_w]; rfl
    refine pure_ (i := 8) (N := some 5) (v := ?_) (a' := ?_) #[true, true, true, true, true, true, true, true, true, false] rfl rfl (any_of HT_.out kr_) (fun _ _ _ h => h) (Or.inl ⟨by rfl, ?_⟩) ?_ ?_; rotate_left
    ·intro w'; go_simp; with_reducible rfl
    rotate_left
    ·simp only [Act.put, sT_, s0_, s1_, i64_w, i32_w]; rfl
    refine pure_ (i := 9) (N := some 6) (v := ?_) (a' := ?_) #[true, true, true, true, true, true, true, true, true, true] rfl rfl (any_of HT_.out kr_) (fun _ _ _ h => h) (Or.inl ⟨by rfl, ?_⟩) ?_ ?_; rotate_left
    ·intro w'; go_simp; with_reducible rfl
    rotate_left
    ·simp only [Act.put, sT_, s0_, s1_, i64_w, i32_w]; rfl
    refine done_ (done_of HT_.out kr_) ?_
    try go_wp2
    go_ret
    exact ⟨q7_, q0_⟩
   ·rw [if_neg c15] at H
    have c15b0 : ((Go.bits .andNot .i64 t315 t313) == 0) = false := beq_eq_false_iff_ne.mpr c15
    have c15b1 : ((Go.bits .andNot .i64 t315 t313) != 0) = true := bne_iff_ne.mpr c15
    obtain rfl := Option.some.inj H
    go_enter Try.func47, Try.ntmps47
    try go_wp2_with (first | ((with_reducible refine gate_dst (N := 2) rfl ?_); refine box_event ?hg (N := 2) ?hd (cs := #[.int .i64 a0_0, .int .i64 a0_1]) (t := 25) ?hr ?_; (case hd => rfl); (case hg => rfl); (case hr => first | (go_simp; done) | (go_simp; rfl)); intro gb311 hg w20 hbox hb; have BK311 := A_ (hbox); have GW311 := A_ ((by rw [hg]; exact (below_size q0_) : w.heap.size ≤ gb311)); have GE311 := A_ ((by rw [hg]; exact (below_size q0_) : w.heap.size ≤ gb311)); replace HB := A_ (below_step q0_ hb); clear hb hbox hg))
    have n0_ := A_ (blk_drew BK311.out)
    have n1_ := A_ (below_drew1 HB.out)
    clear BK311; clear HB; have BK311 := n0_; have HB := n1_; clear n0_ n1_
    refine start_ (n := 10) (S := fun w' => w'.cell? ⟨gb311, 0, none⟩ = some (.int .i64 a0_0) ∧ w'.cell? ⟨gb311, 1, none⟩ = some (.int .i64 a0_1)) (ds := []) #[false, false, false, false, false, false, false, false, false, false] kr_ rfl rfl ⟨(blk_cell BK311.out 0).trans rfl, (blk_cell BK311.out 1).trans rfl⟩ (fun hHeld => ?_); refine with_tabW impl_Table_polarity.tab1 impl_Table_polarity.bits1 (fun HT_ HW_ => ?_)
    generalize w20.drew = w21 at BK311 HB hHeld ⊢
    refine pure_ (i := 1) (N := some 8) (v := ?_) (a' := ?_) #[false, true, false, false, false, false, false, false, false, false] rfl rfl (any_of HT_.out kr_) (fun _ _ _ h => h) (Or.inl ⟨by rfl, ?_⟩) ?_ ?_; rotate_left
    ·intro w'; go_simp; with_reducible rfl
    rotate_left
    ·simp only [Act.put, sT_, s0_, s1_, i64_w, i32_w]; rfl
    refine pure_ (i := 5) (N := some 12) (v := ?_) (a' := ?_) #[false, true, false, false, false, true, false, false, false, false] rfl rfl (any_of HT_.out kr_) (fun _ _ _ h => h) (Or.inl ⟨by rfl, ?_⟩) ?_ ?_; rotate_left
    ·intro w'; go_simp; with_reducible rfl
    rotate_left
    ·simp only [Act.put, sT_, s0_, s1_, i64_w, i32_w]; rfl
    refine take_ (i := 0) (N := some 7) (v := ?_) (a' := ?_) #[true, true, false, false, false, true, false, false, false, false] rfl rfl (take_ofW HT_.out HW_.out kr_) (fun _ _ _ h => h) (Or.inl ⟨by rfl, ?_⟩) hHeld ?_ ?_
    rotate_left
    ·rintro w' ⟨s0, s1⟩
     go_simp; with_reducible rfl
    rotate_left
    ·simp only [Act.put, sT_, s0_, s1_, i64_w, i32_w]; rfl
    refine take_ (i := 4) (N := some 11) (v := ?_) (a' := ?_) #[true, true, false, false, true, true, false, false, false, false] rfl rfl (take_ofW HT_.out HW_.out kr_) (fun _ _ _ h => h) (Or.inl ⟨by rfl, ?_⟩) hHeld ?_ ?_
    rotate_left
    ·rintro w' ⟨s0, s1⟩
     go_simp; with_reducible rfl
    rotate_left
    ·simp only [Act.put, sT_, s0_, s1_, i64_w, i32_w]; rfl
    refine one_ (i := 2) (N := some 9) #[true, true, true, false, true, true, false, false, false, false] rfl rfl (one_of HT_.out kr_) (by decide) (fun K hK => ?_)
    refine goes_ Try.func67 kr_ rfl #[.agg #[.int .i64 a0_0, .int .i64 a0_1], .int .i64 a1, .int .i64 0] (by rfl) rfl rfl q2_ ?_
    with_reducible refine (impl_Table_restrict.calls a0_0 a0_1 a1 0 t312 t313 _ A3.out).mono ?_
    rintro e w22 ⟨rfl, hb⟩
    refine ⟨_, rfl, ?_⟩
    have n0_ := A_ (blk_below (M.Lb BK311) hb)
    have n1_ := A_ (below_step q0_ hb)
    clear BK311; clear HB; have BK311 := n0_; have HB := n1_; clear n0_ n1_; (try clear hb); (try clear hb2); (try clear hk); (try clear hi)
    refine hK.out _ _ ⟨(blk_cell BK311.out 0).trans rfl, (blk_cell BK311.out 1).trans rfl⟩ (fun hHeld => ?_)
    clear hK K
    refine norm_ (a' := ?_) ?_ ?_
    rotate_left
    ·show Act.put _ (some 9) _ = _
     simp only [Act.put, sT_, s0_, s1_, i64_w, i32_w]; rfl
    refine pure_ (i := 3) (N := some 10) (v := ?_) (a' := ?_) #[true, true, true, true, true, true, false, false, false, false] rfl rfl (any_of HT_.out kr_) (fun _ _ _ h => h) (Or.inl ⟨by rfl, ?_⟩) ?_ ?_; rotate_left
    ·intro w'; go_simp; with_reducible rfl
    rotate_left
    ·simp only [Act.put, sT_, s0_, s1_, i64_w, i32_w]; rfl
    refine one_ (i := 6) (N := some 13) #[true, true, true, true, true, true, true, false, false, false] rfl rfl (one_of HT_.out kr_) (by decide) (fun K hK => ?_)
    refine goes_ Try.func67 kr_ rfl #[.agg #[.int .i64 a0_0, .int .i64 a0_1], .int .i64 a1, .int .i64 1] (by rfl) rfl rfl q2_ ?_
    with_reducible refine (impl_Table_restrict.calls a0_0 a0_1 a1 1 t314 t315 _ A4.out).mono ?_
    rintro e w23 ⟨rfl, hb⟩
    refine ⟨_, rfl, ?_⟩
    have n0_ := A_ (blk_below (M.Lb BK311) hb)
    have n1_ := A_ (below_step q0_ hb)
    clear BK311; clear HB; have BK311 := n0_; have HB := n1_; clear n0_ n1_; (try clear hb); (try clear hb2); (try clear hk); (try clear hi)
    refine hK.out _ _ ⟨(blk_cell BK311.out 0).trans rfl, (blk_cell BK311.out 1).trans rfl⟩ (fun hHeld => ?_)
    clear hK K
    refine norm_ (a' := ?_) ?_ ?_
    rotate_left
    ·show Act.put _ (some 13) _ = _
     simp only [Act.put, sT_, s0_, s1_, i64_w, i32_w]; rfl
    refine pure_ (i := 7) (N := some 14) (v := ?_) (a' := ?_) #[true, true, true, true, true, true, true, true, false, false] rfl rfl (any_of HT_.out kr_) (fun _ _ _ h => h) (Or.inl ⟨by rfl, ?_⟩) ?_ ?_; rotate_left
    ·intro w'; go_simp; with_reducible rfl
    rotate_left
    ·simp only [Act.put, sT_, s0_, s1_, i64_w, i32_w]; rfl
    refine pure_ (i := 8) (N := some 5) (v := ?_) (a' := ?_) #[true, true, true, true, true, true, true, true, true, false] rfl rfl (any_of HT_.out kr_) (fun _ _ _ h => h) (Or.inl ⟨by rfl, ?_⟩) ?_ ?_; rotate_left
    ·intro w'; go_simp; with_reducible rfl
    rotate_left
    ·simp only [Act.put, sT_, s0_, s1_, i64_w, i32_w]; rfl
    refine pure_ (i := 9) (N := some 6) (v := ?_) (a' := ?_) #[true, true, true, true, true, true, true, true, true, true] rfl rfl (any_of HT_.out kr_) (fun _ _ _ h => h) (Or.inl ⟨by rfl, ?_⟩) ?_ ?_; rotate_left
    ·intro w'; go_simp; with_reducible rfl
    rotate_left
    ·simp only [Act.put, sT_, s0_, s1_, i64_w, i32_w]; rfl
    refine done_ (done_of HT_.out kr_) ?_
    try go_wp2
    go_ret
    exact ⟨q7_, q0_⟩
def impl_Table_unateShift.l0 : Nat → Int → Int → Int → Int → Int → Option (Int × Bool)
 | 0, _, _, _, _, _ => none
 | k + 1, x4, x7, x8, x317000, x317001 => if x8 < x7 then ((impl_Table_polarity.f x317000 x317001 x8).bind fun t317 => (if t317 = (-1) then (if 0 ≤ x8 then (impl_Table_unateShift.l0 k (Go.bits .or .i64 x4 (shl .i64 1 x8)) x7 (wrap64 (x8 + 1)) x317000 x317001) else (none)) else (if t317 = 2 then (some (0, false)) else (impl_Table_unateShift.l0 k x4 x7 (wrap64 (x8 + 1)) x317000 x317001)))) else (some (x4, true))
def impl_Table_unateShift.f (k : Nat) (a0_0 : Int) (a0_1 : Int) : Option (Int × Bool) := impl_Table_unateShift.l0 k 0 a0_0 0 a0_0 a0_1
theorem impl_Table_unateShift.calls (k : Nat) (a0_0 : Int) (a0_1 : Int) (r1 : Int) (r2 : Bool) (w : World) (h : impl_Table_unateShift.f k a0_0 a0_1 = some (r1, r2)) :
  Calls Try.prog 66 #[.agg #[.int .i64 a0_0, .int .i64 a0_1]] w fun e w' => e = .returned (.tuple #[.int .i64 r1, .bool r2]) ∧ Below w.heap.size w w' := by
 have hu25 := Try.underlying25
 have HB := A_ (Below.refl w.heap.size w)
 have H : (impl_Table_unateShift.l0 k 0 a0_0 0 a0_0 a0_1) = some (r1, r2) := h
 clear h
 have H' := A_ H
 clear H
 go_enter Try.func66, Try.ntmps66
 go_wp2_with (first | ((with_reducible refine gate_dst (N := 1) rfl ?_); refine box_event ?hg (N := 1) ?hd (cs := #[.int .i64 a0_0, .int .i64 a0_1]) (t := 25) ?hr ?_; (case hd => rfl); (case hg => rfl); (case hr => first | (go_simp; done) | (go_simp; rfl)); intro gb316 hg w2 hbox hb; have BK316 := A_ (hbox); have GW316 := A_ ((by rw [hg]; exact (below_size q0_) : w.heap.size ≤ gb316)); have GE316 := A_ ((by rw [hg]; exact (below_size q0_) : w.heap.size ≤ gb316)); replace HB := A_ (below_step q0_ hb); clear hb hbox hg; have hcz3_0 := c20_ BK316; have hcz3_1 := c21_ BK316; have hfz3_0 := blk_frozen BK316.out 0; have hfz3_1 := blk_frozen BK316.out 1))
 go_loopg [4, 8] k (fun kq v4 v8 w' => ∃ (x4_1 : Int) (x8_1 : Int), v4 = .int .i64 x4_1 ∧ v8 = .int .i64 x8_1 ∧ Aside0 (impl_Table_unateShift.l0 kq x4_1 a0_0 x8_1 a0_0 a0_1 = some (r1, r2)) ∧ Aside0 (kq ≤ k) ∧ Aside0 (w'.heap[gb316]? = some (.cells #[.int .i64 a0_0, .int .i64 a0_1] 25 (0, 0))) ∧ Aside0 (Below w.heap.size w w'))
 case atStart => exact ⟨(0), (0), q1_, q1_, H', ⟨Nat.le_refl _⟩, ⟨M.Lb BK316⟩, ⟨q0_⟩⟩
 case round =>
  clear H'; (try clear p2); (try clear hcz3_0); (try clear hcz3_1); (try clear hfz3_0); (try clear hfz3_1); obtain ⟨x4_1, x8_1, rfl, rfl, HA, HK1, BK316, HB⟩ := hrel
  cases gk with
  | zero => exact absurd HA.out (by simp [impl_Table_unateShift.l0])
  | succ k1 =>
   have H := HA.out
   clear HA
   simp only [impl_Table_unateShift.l0] at H
   by_cases c4 : x8_1 < a0_0
   ·rw [if_pos c4] at H
    have c4b0 : decide (x8_1 < a0_0) = true := decide_eq_true c4
    clear c4; replace H := Option.bind_eq_some_iff.mp H; obtain ⟨t317, A50, H⟩ := H; (try dsimp only at H); have A5 := A_ A50; clear A50
    by_cases c6 : t317 = (-1)
    ·rw [if_pos c6] at H
     have c6b0 : (t317 == (-1)) = true := beq_iff_eq.mpr c6
     have c6b1 : (t317 != (-1)) = false := bne_eq_false_iff_eq.mpr c6
     clear c6
     by_cases c7 : 0 ≤ x8_1
     ·rw [if_pos c7] at H
      have c7b0 := eq_true c7
      have c7b1 : decide (0 ≤ x8_1) = true := decide_eq_true c7
      clear c7
      obtain ⟨ji8, hji8⟩ : ∃ j_ : Int, (shl .i64 1 x8_1) = j_ := ⟨_, rfl⟩
      replace H : (impl_Table_unateShift.l0 k1 (Go.bits .or .i64 x4_1 (ji8)) a0_0 (wrap64 (x8_1 + 1)) a0_0 a0_1) = some (r1, r2) := by first | (rw [hji8] at H; exact H) | (simp only [hji8] at H ⊢; exact H)
      (try rw [hji8] at A5)
      have hji8_ : (IntKind.i64.wrap (1 * 2 ^ min x8_1.toNat 64)) = ji8 := hji8
      have hji8z : x8_1 ≤ 64 → (IntKind.i64.wrap (1 * 2 ^ x8_1.toNat)) = ji8 := shl_small hji8
      have hji8u : (IntKind.i64.wrap (2 ^ min x8_1.toNat 64)) = ji8 := by have h_ := hji8_; rw [Int.one_mul] at h_; exact h_
      have hji8v : x8_1 ≤ 64 → (IntKind.i64.wrap (2 ^ x8_1.toNat)) = ji8 := fun hle_ => by have h_ := hji8z hle_; rw [Int.one_mul] at h_; exact h_
      have hji8y : (wrap64 (1 * 2 ^ min x8_1.toNat 64)) = ji8 := (i64_w _).symm.trans hji8_
      have hji8x : x8_1 ≤ 64 → (wrap64 (1 * 2 ^ x8_1.toNat)) = ji8 := fun h_ => (i64_w _).symm.trans (hji8z h_)
      have H' := A_ H
      clear H
      have hcz9_0 := c20_ BK316
      have hcz9_1 := c21_ BK316
      have hfz9_0 := blk_frozen BK316.out 0
      have hfz9_1 := blk_frozen BK316.out 1
      go_wp2_with (first | ((with_reducible refine gate_callee (f := 47) rfl ?_); refine goesL_ (some 13) rfl rfl Try.func47 kr_ rfl #[.agg #[.int .i64 a0_0, .int .i64 a0_1], .int .i64 x8_1] rfl q2_ ?_; (with_reducible refine (impl_Table_polarity.calls a0_0 a0_1 x8_1 t317 _ A5.out).mono ?_); rintro e w10 ⟨rfl, hb⟩; refine ⟨_, rfl, ?_⟩; replace BK316 := A_ (blk_below (M.Lb BK316) hb); replace HB := A_ (below_step q0_ hb); (try clear hb); (try clear hb2); (try clear hk); (try clear hi)))
      go_roundg k1
      case measure => have := HK1.out; omega
      case rel => exact ⟨(Go.bits .or .i64 x4_1 (ji8)), (wrap64 (x8_1 + 1)), (by first | rfl | (simp; done) | (simp only [← hji8] <;> (first | rfl | simp)) | (simp [*]; done)), q1_, H', ⟨by have := HK1.out; omega⟩, ⟨M.Lb BK316⟩, ⟨q0_⟩⟩
     ·rw [if_neg c7] at H
      exact absurd H (by simp)
    ·rw [if_neg c6] at H
     have c6b0 : (t317 == (-1)) = false := beq_eq_false_iff_ne.mpr c6
     have c6b1 : (t317 != (-1)) = true := bne_iff_ne.mpr c6
     by_cases c11 : t317 = 2
     ·rw [if_pos c11] at H
      have c11b0 : (t317 == 2) = true := beq_iff_eq.mpr c11
      have c11b1 : (t317 != 2) = false := bne_eq_false_iff_eq.mpr c11
      clear c11
      simp only [Option.some.injEq, Prod.mk.injEq] at H
      obtain ⟨rfl, rfl⟩ := H
      have hcz12_0 := c20_ BK316
      have hcz12_1 := c21_ BK316
      have hfz12_0 := blk_frozen BK316.out 0
      have hfz12_1 := blk_frozen BK316.out 1
      go_wp2_with (first | ((with_reducible refine gate_callee (f := 47) rfl ?_); refine goesL_ (some 13) rfl rfl Try.func47 kr_ rfl #[.agg #[.int .i64 a0_0, .int .i64 a0_1], .int .i64 x8_1] rfl q2_ ?_; (with_reducible refine (impl_Table_polarity.calls a0_0 a0_1 x8_1 t317 _ A5.out).mono ?_); rintro e w13 ⟨rfl, hb⟩; refine ⟨_, rfl, ?_⟩; replace BK316 := A_ (blk_below (M.Lb BK316) hb); replace HB := A_ (below_step q0_ hb); (try clear hb); (try clear hb2); (try clear hk); (try clear hi)))
      go_ret2
      exact ⟨q7_, q0_⟩
     ·rw [if_neg c11] at H
      have c11b0 : (t317 == 2) = false := beq_eq_false_iff_ne.mpr c11
      have c11b1 : (t317 != 2) = true := bne_iff_ne.mpr c11
      have H' := A_ H
      clear H
      have hcz14_0 := c20_ BK316
      have hcz14_1 := c21_ BK316
      have hfz14_0 := blk_frozen BK316.out 0
      have hfz14_1 := blk_frozen BK316.out 1
      go_wp2_with (first | ((with_reducible refine gate_callee (f := 47) rfl ?_); refine goesL_ (some 13) rfl rfl Try.func47 kr_ rfl #[.agg #[.int .i64 a0_0, .int .i64 a0_1], .int .i64 x8_1] rfl q2_ ?_; (with_reducible refine (impl_Table_polarity.calls a0_0 a0_1 x8_1 t317 _ A5.out).mono ?_); rintro e w15 ⟨rfl, hb⟩; refine ⟨_, rfl, ?_⟩; replace BK316 := A_ (blk_below (M.Lb BK316) hb); replace HB := A_ (below_step q0_ hb); (try clear hb); (try clear hb2); (try clear hk); (try clear hi)))
      go_roundg k1
      case measure => have := HK1.out; omega
      case rel => exact ⟨(x4_1), (wrap64 (x8_1 + 1)), q1_, q1_, H', ⟨by have := HK1.out; omega⟩, ⟨M.Lb BK316⟩, ⟨q0_⟩⟩
   ·rw [if_neg c4] at H
    have c4b0 : decide (x8_1 < a0_0) = false := decide_eq_false c4
    clear c4
    simp only [Option.some.injEq, Prod.mk.injEq] at H
    obtain ⟨rfl, rfl⟩ := H
    go_wp2
    go_ret2
    exact ⟨q7_, q0_⟩
def impl_UnateShift.f (k : Nat) (a0_0 : Int) (a0_1 : Int) : Option (Int × Bool) := (impl_IsTable.f a0_0 a0_1).bind fun t319 => (if t319 = true then ((impl_Table_unateShift.f k a0_0 a0_1).bind fun bt320 => (some (bt320.1, bt320.2))) else (some (0, false)))
theorem impl_UnateShift.calls (k : Nat) (a0_0 : Int) (a0_1 : Int) (r1 : Int) (r2 : Bool) (w : World) (h : impl_UnateShift.f k a0_0 a0_1 = some (r1, r2)) :
  Calls Try.prog 45 #[.agg #[.int .i64 a0_0, .int .i64 a0_1]] w fun e w' => e = .returned (.tuple #[.int .i64 r1, .bool r2]) ∧ Below w.heap.size w w' := by
 have hu25 := Try.underlying25
 have HB := A_ (Below.refl w.heap.size w)
 have H : ((impl_IsTable.f a0_0 a0_1).bind fun t319 => (if t319 = true then ((impl_Table_unateShift.f k a0_0 a0_1).bind fun bt320 => (some (bt320.1, bt320.2))) else (some (0, false)))) = some (r1, r2) := h
 clear h; replace H := Option.bind_eq_some_iff.mp H; obtain ⟨t319, A20, H⟩ := H; (try dsimp only at H); have A2 := A_ A20; clear A20
 by_cases c3 : t319 = true
 ·subst c3
  have H1 : ((impl_Table_unateShift.f k a0_0 a0_1).bind fun bt320 => (some (bt320.1, bt320.2))) = some (r1, r2) := by rw [if_pos rfl] at H; exact H
  clear H; have H := H1; clear H1; replace H := Option.bind_eq_some_iff.mp H; obtain ⟨⟨t320, t321⟩, A40, H⟩ := H
  replace H : (some (t320, t321)) = some (r1, r2) := H
  have A4 := A_ A40; clear A40
  simp only [Option.some.injEq, Prod.mk.injEq] at H
  obtain ⟨rfl, rfl⟩ := H
  go_enter Try.func45, Try.ntmps45
  go_wp2_with (first | ((with_reducible refine gate_dst (N := 1) rfl ?_); refine box_event ?hg (N := 1) ?hd (cs := #[.int .i64 a0_0, .int .i64 a0_1]) (t := 25) ?hr ?_; (case hd => rfl); (case hg => rfl); (case hr => first | (go_simp; done) | (go_simp; rfl)); intro gb318 hg w5 hbox hb; have BK318 := A_ (hbox); have GW318 := A_ ((by rw [hg]; exact (below_size q0_) : w.heap.size ≤ gb318)); have GE318 := A_ ((by rw [hg]; exact (below_size q0_) : w.heap.size ≤ gb318)); replace HB := A_ (below_step q0_ hb); clear hb hbox hg; have hcz6_0 := c20_ BK318; have hcz6_1 := c21_ BK318; have hfz6_0 := blk_frozen BK318.out 0; have hfz6_1 := blk_frozen BK318.out 1) | ((with_reducible refine gate_callee (f := 36) rfl ?_); refine goesL_ (some 5) rfl rfl Try.func36 kr_ rfl #[.agg #[.int .i64 a0_0, .int .i64 a0_1]] rfl q2_ ?_; (with_reducible refine (impl_IsTable.calls a0_0 a0_1 true _ A2.out).mono ?_); rintro e w7 ⟨rfl, hb⟩; refine ⟨_, rfl, ?_⟩; replace BK318 := A_ (blk_below (M.Lb BK318) hb); replace HB := A_ (below_step q0_ hb); (try clear hb); (try clear hb2); (try clear hk); (try clear hi); have hcz8_0 := c20_ BK318; have hcz8_1 := c21_ BK318; have hfz8_0 := blk_frozen BK318.out 0; have hfz8_1 := blk_frozen BK318.out 1) | ((with_reducible refine gate_callee (f := 66) rfl ?_); refine goesL_ (some 8) rfl rfl Try.func66 kr_ rfl #[.agg #[.int .i64 a0_0, .int .i64 a0_1]] rfl q2_ ?_; (with_reducible refine (impl_Table_unateShift.calls k a0_0 a0_1 t320 t321 _ A4.out).mono ?_); rintro e w9 ⟨rfl, hb⟩; refine ⟨_, rfl, ?_⟩; replace BK318 := A_ (blk_below (M.Lb BK318) hb); replace HB := A_ (below_step q0_ hb); (try clear hb); (try clear hb2); (try clear hk); (try clear hi)))
  go_ret2
  exact ⟨q7_, q0_⟩
 ·replace c3 := Bool.eq_false_iff.mpr c3
  subst c3
  have H1 : (some (0, false)) = some (r1, r2) := by rw [if_neg (show ¬ (false = true) by decide)] at H; exact H
  clear H; have H := H1; clear H1
  simp only [Option.some.injEq, Prod.mk.injEq] at H
  obtain ⟨rfl, rfl⟩ := H
  go_enter Try.func45, Try.ntmps45
  go_wp2_with (first | ((with_reducible refine gate_dst (N := 1) rfl ?_); refine box_event ?hg (N := 1) ?hd (cs := #[.int .i64 a0_0, .int .i64 a0_1]) (t := 25) ?hr ?_; (case hd => rfl); (case hg => rfl); (case hr => first | (go_simp; done) | (go_simp; rfl)); intro gb318 hg w10 hbox hb; have BK318 := A_ (hbox); have GW318 := A_ ((by rw [hg]; exact (below_size q0_) : w.heap.size ≤ gb318)); have GE318 := A_ ((by rw [hg]; exact (below_size q0_) : w.heap.size ≤ gb318)); replace HB := A_ (below_step q0_ hb); clear hb hbox hg; have hcz11_0 := c20_ BK318; have hcz11_1 := c21_ BK318; have hfz11_0 := blk_frozen BK318.out 0; have hfz11_1 := blk_frozen BK318.out 1) | ((with_reducible refine gate_callee (f := 36) rfl ?_); refine goesL_ (some 5) rfl rfl Try.func36 kr_ rfl #[.agg #[.int .i64 a0_0, .int .i64 a0_1]] rfl q2_ ?_; (with_reducible refine (impl_IsTable.calls a0_0 a0_1 false _ A2.out).mono ?_); rintro e w12 ⟨rfl, hb⟩; refine ⟨_, rfl, ?_⟩; replace BK318 := A_ (blk_below (M.Lb BK318) hb); replace HB := A_ (below_step q0_ hb); (try clear hb); (try clear hb2); (try clear hk); (try clear hi)))
  go_ret2
  exact ⟨q7_, q0_⟩
def impl_IsUnate.f (k : Nat) (a0_0 : Int) (a0_1 : Int) : Option (Bool) := (impl_UnateShift.f k a0_0 a0_1).bind fun bt323 => (some bt323.2)
theorem impl_IsUnate.calls (k : Nat) (a0_0 : Int) (a0_1 : Int) (r : Bool) (w : World) (h : impl_IsUnate.f k a0_0 a0_1 = some r) :
  Calls Try.prog 13 #[.agg #[.int .i64 a0_0, .int .i64 a0_1]] w fun e w' => e = .returned (.bool r) ∧ Below w.heap.size w w' := by
 have hu25 := Try.underlying25
 have HB := A_ (Below.refl w.heap.size w)
 have H : ((impl_UnateShift.f k a0_0 a0_1).bind fun bt323 => (some bt323.2)) = some r := h
 clear h; replace H := Option.bind_eq_some_iff.mp H; obtain ⟨⟨t323, t324⟩, A20, H⟩ := H
 replace H : (some t324) = some r := H
 have A2 := A_ A20; clear A20
 obtain rfl := Option.some.inj H
 go_enter Try.func13, Try.ntmps13
 go_wp2_with (first | ((with_reducible refine gate_dst (N := 1) rfl ?_); refine box_event ?hg (N := 1) ?hd (cs := #[.int .i64 a0_0, .int .i64 a0_1]) (t := 25) ?hr ?_; (case hd => rfl); (case hg => rfl); (case hr => first | (go_simp; done) | (go_simp; rfl)); intro gb322 hg w3 hbox hb; have BK322 := A_ (hbox); have GW322 := A_ ((by rw [hg]; exact (below_size q0_) : w.heap.size ≤ gb322)); have GE322 := A_ ((by rw [hg]; exact (below_size q0_) : w.heap.size ≤ gb322)); replace HB := A_ (below_step q0_ hb); clear hb hbox hg; have hcz4_0 := c20_ BK322; have hcz4_1 := c21_ BK322; have hfz4_0 := blk_frozen BK322.out 0; have hfz4_1 := blk_frozen BK322.out 1) | ((with_reducible refine gate_callee (f := 45) rfl ?_); refine goesL_ (some 7) rfl rfl Try.func45 kr_ rfl #[.agg #[.int .i64 a0_0, .int .i64 a0_1]] rfl q2_ ?_; (with_reducible refine (impl_UnateShift.calls k a0_0 a0_1 t323 t324 _ A2.out).mono ?_); rintro e w5 ⟨rfl, hb⟩; refine ⟨_, rfl, ?_⟩; replace BK322 := A_ (blk_below (M.Lb BK322) hb); replace HB := A_ (below_step q0_ hb); (try clear hb); (try clear hb2); (try clear hk); (try clear hi)))
 go_ret
 exact ⟨q7_, q0_⟩
def impl_hasVariable.f (a0_0 : Int) (a0_1 : Int) (a1 : Int) : Option (Bool) := (impl_IsTable.f a0_0 a0_1).bind fun t326 => (if t326 = true then (if a1 ≥ 0 then (some (decide (a1 < a0_0))) else (some false)) else (some false))
theorem impl_hasVariable.calls (a0_0 : Int) (a0_1 : Int) (a1 : Int) (r : Bool) (w : World) (h : impl_hasVariable.f a0_0 a0_1 a1 = some r) :
  Calls Try.prog 46 #[.agg #[.int .i64 a0_0, .int .i64 a0_1], .int .i64 a1] w fun e w' => e = .returned (.bool r) ∧ Below w.heap.size w w' := by
 have hu25 := Try.underlying25
 have HB := A_ (Below.refl w.heap.size w)
 have H : ((impl_IsTable.f a0_0 a0_1).bind fun t326 => (if t326 = true then (if a1 ≥ 0 then (some (decide (a1 < a0_0))) else (some false)) else (some false))) = some r := h
 clear h; replace H := Option.bind_eq_some_iff.mp H; obtain ⟨t326, A30, H⟩ := H; (try dsimp only at H); have A3 := A_ A30; clear A30
 by_cases c4 : t326 = true
 ·subst c4
  have H1 : (if a1 ≥ 0 then (some (decide (a1 < a0_0))) else (some false)) = some r := by rw [if_pos rfl] at H; exact H
  clear H; have H := H1; clear H1
  by_cases c5 : a1 ≥ 0
  ·rw [if_pos c5] at H
   have c5b0 : decide (0 ≤ a1) = true := decide_eq_true c5
   clear c5
   obtain rfl := Option.some.inj H
   go_enter Try.func46, Try.ntmps46
   go_wp2_with (first | ((with_reducible refine gate_dst (N := 2) rfl ?_); refine box_event ?hg (N := 2) ?hd (cs := #[.int .i64 a0_0, .int .i64 a0_1]) (t := 25) ?hr ?_; (case hd => rfl); (case hg => rfl); (case hr => first | (go_simp; done) | (go_simp; rfl)); intro gb325 hg w6 hbox hb; have BK325 := A_ (hbox); have GW325 := A_ ((by rw [hg]; exact (below_size q0_) : w.heap.size ≤ gb325)); have GE325 := A_ ((by rw [hg]; exact (below_size q0_) : w.heap.size ≤ gb325)); replace HB := A_ (below_step q0_ hb); clear hb hbox hg; have hcz7_0 := c20_ BK325; have hcz7_1 := c21_ BK325; have hfz7_0 := blk_frozen BK325.out 0; have hfz7_1 := blk_frozen BK325.out 1) | ((with_reducible refine gate_callee (f := 36) rfl ?_); refine goesL_ (some 6) rfl rfl Try.func36 kr_ rfl #[.agg #[.int .i64 a0_0, .int .i64 a0_1]] rfl q2_ ?_; (with_reducible refine (impl_IsTable.calls a0_0 a0_1 true _ A3.out).mono ?_); rintro e w8 ⟨rfl, hb⟩; refine ⟨_, rfl, ?_⟩; replace BK325 := A_ (blk_below (M.Lb BK325) hb); replace HB := A_ (below_step q0_ hb); (try clear hb); (try clear hb2); (try clear hk); (try clear hi); have hcz9_0 := c20_ BK325; have hcz9_1 := c21_ BK325; have hfz9_0 := blk_frozen BK325.out 0; have hfz9_1 := blk_frozen BK325.out 1))
   go_ret
   exact ⟨q7_, q0_⟩
  ·rw [if_neg c5] at H
   have c5b0 : decide (0 ≤ a1) = false := decide_eq_false c5
   clear c5
   obtain rfl := Option.some.inj H
   go_enter Try.func46, Try.ntmps46
   go_wp2_with (first | ((with_reducible refine gate_dst (N := 2) rfl ?_); refine box_event ?hg (N := 2) ?hd (cs := #[.int .i64 a0_0, .int .i64 a0_1]) (t := 25) ?hr ?_; (case hd => rfl); (case hg => rfl); (case hr => first | (go_simp; done) | (go_simp; rfl)); intro gb325 hg w10 hbox hb; have BK325 := A_ (hbox); have GW325 := A_ ((by rw [hg]; exact (below_size q0_) : w.heap.size ≤ gb325)); have GE325 := A_ ((by rw [hg]; exact (below_size q0_) : w.heap.size ≤ gb325)); replace HB := A_ (below_step q0_ hb); clear hb hbox hg; have hcz11_0 := c20_ BK325; have hcz11_1 := c21_ BK325; have hfz11_0 := blk_frozen BK325.out 0; have hfz11_1 := blk_frozen BK325.out 1) | ((with_reducible refine gate_callee (f := 36) rfl ?_); refine goesL_ (some 6) rfl rfl Try.func36 kr_ rfl #[.agg #[.int .i64 a0_0, .int .i64 a0_1]] rfl q2_ ?_; (with_reducible refine (impl_IsTable.calls a0_0 a0_1 true _ A3.out).mono ?_); rintro e w12 ⟨rfl, hb⟩; refine ⟨_, rfl, ?_⟩; replace BK325 := A_ (blk_below (M.Lb BK325) hb); replace HB := A_ (below_step q0_ hb); (try clear hb); (try clear hb2); (try clear hk); (try clear hi)))
   go_ret
   exact ⟨q7_, q0_⟩
 ·replace c4 := Bool.eq_false_iff.mpr c4
  subst c4
  have H1 : (some false) = some r := by rw [if_neg (show ¬ (false = true) by decide)] at H; exact H
  clear H; have H := H1; clear H1
  obtain rfl := Option.some.inj H
  go_enter Try.func46, Try.ntmps46
  go_wp2_with (first | ((with_reducible refine gate_dst (N := 2) rfl ?_); refine box_event ?hg (N := 2) ?hd (cs := #[.int .i64 a0_0, .int .i64 a0_1]) (t := 25) ?hr ?_; (case hd => rfl); (case hg => rfl); (case hr => first | (go_simp; done) | (go_simp; rfl)); intro gb325 hg w13 hbox hb; have BK325 := A_ (hbox); have GW325 := A_ ((by rw [hg]; exact (below_size q0_) : w.heap.size ≤ gb325)); have GE325 := A_ ((by rw [hg]; exact (below_size q0_) : w.heap.size ≤ gb325)); replace HB := A_ (below_step q0_ hb); clear hb hbox hg; have hcz14_0 := c20_ BK325; have hcz14_1 := c21_ BK325; have hfz14_0 := blk_frozen BK325.out 0; have hfz14_1 := blk_frozen BK325.out 1) | ((with_reducible refine gate_callee (f := 36) rfl ?_); refine goesL_ (some 6) rfl rfl Try.func36 kr_ rfl #[.agg #[.int .i64 a0_0, .int .i64 a0_1]] rfl q2_ ?_; (with_reducible refine (impl_IsTable.calls a0_0 a0_1 false _ A3.out).mono ?_); rintro e w15 ⟨rfl, hb⟩; refine ⟨_, rfl, ?_⟩; replace BK325 := A_ (blk_below (M.Lb BK325) hb); replace HB := A_ (below_step q0_ hb); (try clear hb); (try clear hb2); (try clear hk); (try clear hi)))
  go_ret
  exact ⟨q7_, q0_⟩
def impl_PolarityOf.f (a0_0 : Int) (a0_1 : Int) (a1 : Int) : Option (Int) := (impl_hasVariable.f a0_0 a0_1 a1).bind fun t328 => (if t328 = true then ((impl_Table_polarity.f a0_0 a0_1 a1).bind fun t329 => (some t329)) else (some (-2)))
theorem impl_PolarityOf.calls (a0_0 : Int) (a0_1 : Int) (a1 : Int) (r : Int) (w : World) (h : impl_PolarityOf.f a0_0 a0_1 a1 = some r) :
  Calls Try.prog 14 #[.agg #[.int .i64 a0_0, .int .i64 a0_1], .int .i64 a1] w fun e w' => e = .returned (.int .i64 r) ∧ Below w.heap.size w w' := by
 have hu25 := Try.underlying25
 have HB := A_ (Below.refl w.heap.size w)
 have H : ((impl_hasVariable.f a0_0 a0_1 a1).bind fun t328 => (if t328 = true then ((impl_Table_polarity.f a0_0 a0_1 a1).bind fun t329 => (some t329)) else (some (-2)))) = some r := h
 clear h; replace H := Option.bind_eq_some_iff.mp H; obtain ⟨t328, A30, H⟩ := H; (try dsimp only at H); have A3 := A_ A30; clear A30
 by_cases c4 : t328 = true
 ·subst c4
  have H1 : ((impl_Table_polarity.f a0_0 a0_1 a1).bind fun t329 => (some t329)) = some r := by rw [if_pos rfl] at H; exact H
  clear H; have H := H1; clear H1; replace H := Option.bind_eq_some_iff.mp H; obtain ⟨t329, A50, H⟩ := H
  replace H : (some t329) = some r := H
  have A5 := A_ A50; clear A50
  obtain rfl := Option.some.inj H
  go_enter Try.func14, Try.ntmps14
  go_wp2_with (first | ((with_reducible refine gate_dst (N := 2) rfl ?_); refine box_event ?hg (N := 2) ?hd (cs := #[.int .i64 a0_0, .int .i64 a0_1]) (t := 25) ?hr ?_; (case hd => rfl); (case hg => rfl); (case hr => first | (go_simp; done) | (go_simp; rfl)); intro gb327 hg w6 hbox hb; have BK327 := A_ (hbox); have GW327 := A_ ((by rw [hg]; exact (below_size q0_) : w.heap.size ≤ gb327)); have GE327 := A_ ((by rw [hg]; exact (below_size q0_) : w.heap.size ≤ gb327)); replace HB := A_ (below_step q0_ hb); clear hb hbox hg; have hcz7_0 := c20_ BK327; have hcz7_1 := c21_ BK327; have hfz7_0 := blk_frozen BK327.out 0; have hfz7_1 := blk_frozen BK327.out 1) | ((with_reducible refine gate_callee (f := 46) rfl ?_); refine goesL_ (some 7) rfl rfl Try.func46 kr_ rfl #[.agg #[.int .i64 a0_0, .int .i64 a0_1], .int .i64 a1] rfl q2_ ?_; (with_reducible refine (impl_hasVariable.calls a0_0 a0_1 a1 true _ A3.out).mono ?_); rintro e w8 ⟨rfl, hb⟩; refine ⟨_, rfl, ?_⟩; replace BK327 := A_ (blk_below (M.Lb BK327) hb); replace HB := A_ (below_step q0_ hb); (try clear hb); (try clear hb2); (try clear hk); (try clear hi); have hcz9_0 := c20_ BK327; have hcz9_1 := c21_ BK327; have hfz9_0 := blk_frozen BK327.out 0; have hfz9_1 := blk_frozen BK327.out 1) | ((with_reducible refine gate_callee (f := 47) rfl ?_); refine goesL_ (some 11) rfl rfl Try.func47 kr_ rfl #[.agg #[.int .i64 a0_0, .int .i64 a0_1], .int .i64 a1] rfl q2_ ?_; (with_reducible refine (impl_Table_polarity.calls a0_0 a0_1 a1 t329 _ A5.out).mono ?_); rintro e w10 ⟨rfl, hb⟩; refine ⟨_, rfl, ?_⟩; replace BK327 := A_ (blk_below (M.Lb BK327) hb); replace HB := A_ (below_step q0_ hb); (try clear hb); (try clear hb2); (try clear hk); (try clear hi)))
  go_ret
  exact ⟨q7_, q0_⟩
 ·replace c4 := Bool.eq_false_iff.mpr c4
  subst c4
  have H1 : (some (-2)) = some r := by rw [if_neg (show ¬ (false = true) by decide)] at H; exact H
  clear H; have H := H1; clear H1
  obtain rfl := Option.some.inj H
  go_enter Try.func14, Try.ntmps14
  go_wp2_with (first | ((with_reducible refine gate_dst (N := 2) rfl ?_); refine box_event ?hg (N := 2) ?hd (cs := #[.int .i64 a0_0, .int .i64 a0_1]) (t := 25) ?hr ?_; (case hd => rfl); (case hg => rfl); (case hr => first | (go_simp; done) | (go_simp; rfl)); intro gb327 hg w11 hbox hb; have BK327 := A_ (hbox); have GW327 := A_ ((by rw [hg]; exact (below_size q0_) : w.heap.size ≤ gb327)); have GE327 := A_ ((by rw [hg]; exact (below_size q0_) : w.heap.size ≤ gb327)); replace HB := A_ (below_step q0_ hb); clear hb hbox hg; have hcz12_0 := c20_ BK327; have hcz12_1 := c21_ BK327; have hfz12_0 := blk_frozen BK327.out 0; have hfz12_1 := blk_frozen BK327.out 1) | ((with_reducible refine gate_callee (f := 46) rfl ?_); refine goesL_ (some 7) rfl rfl Try.func46 kr_ rfl #[.agg #[.int .i64 a0_0, .int .i64 a0_1], .int .i64 a1] rfl q2_ ?_; (with_reducible refine (impl_hasVariable.calls a0_0 a0_1 a1 false _ A3.out).mono ?_); rintro e w13 ⟨rfl, hb⟩; refine ⟨_, rfl, ?_⟩; replace BK327 := A_ (blk_below (M.Lb BK327) hb); replace HB := A_ (below_step q0_ hb); (try clear hb); (try clear hb2); (try clear hk); (try clear hi)))
  go_ret
  exact ⟨q7_, q0_⟩
def impl_isInput.f (a0 : Int) (a1 : Int) : Option (Bool) := if a1 ≥ 0 then (if 0 ≤ a0 then (some (decide (a1 < (shl .i64 1 a0)))) else (none)) else (some false)
theorem impl_isInput.calls (a0 : Int) (a1 : Int) (r : Bool) (w : World) (h : impl_isInput.f a0 a1 = some r) :
  Calls Try.prog 79 #[.int .i64 a0, .int .i64 a1] w fun e w' => e = .returned (.bool r) ∧ Drawn0 w w' := by
 have H : (if a1 ≥ 0 then (if 0 ≤ a0 then (some (decide (a1 < (shl .i64 1 a0)))) else (none)) else (some false)) = some r := h
 clear h
 by_cases c3 : a1 ≥ 0
 ·rw [if_pos c3] at H
  have c3b0 : decide (0 ≤ a1) = true := decide_eq_true c3
  clear c3
  by_cases c4 : 0 ≤ a0
  ·rw [if_pos c4] at H
   have c4b0 := eq_true c4
   have c4b1 : decide (0 ≤ a0) = true := decide_eq_true c4
   clear c4
   obtain ⟨ji5, hji5⟩ : ∃ j_ : Int, (shl .i64 1 a0) = j_ := ⟨_, rfl⟩
   replace H : (some (decide (a1 < (ji5)))) = some r := q13_
   have hji5_ : (IntKind.i64.wrap (1 * 2 ^ min a0.toNat 64)) = ji5 := hji5
   have hji5z : a0 ≤ 64 → (IntKind.i64.wrap (1 * 2 ^ a0.toNat)) = ji5 := shl_small hji5
   have hji5u : (IntKind.i64.wrap (2 ^ min a0.toNat 64)) = ji5 := by have h_ := hji5_; rw [Int.one_mul] at h_; exact h_
   have hji5v : a0 ≤ 64 → (IntKind.i64.wrap (2 ^ a0.toNat)) = ji5 := fun hle_ => by have h_ := hji5z hle_; rw [Int.one_mul] at h_; exact h_
   have hji5y : (wrap64 (1 * 2 ^ min a0.toNat 64)) = ji5 := (i64_w _).symm.trans hji5_
   have hji5x : a0 ≤ 64 → (wrap64 (1 * 2 ^ a0.toNat)) = ji5 := fun h_ => (i64_w _).symm.trans (hji5z h_)
   obtain rfl := Option.some.inj H
   go_enter Try.func79, Try.ntmps79
   go_wp2
   go_ret
   exact ⟨by first | rfl | (simp; done) | (simp only [← hji5] <;> (first | rfl | simp)) | (simp [*]; done), q9_⟩
  ·rw [if_neg c4] at H
   exact absurd H (by simp)
 ·rw [if_neg c3] at H
  have c3b0 : decide (0 ≤ a1) = false := decide_eq_false c3
  clear c3
  obtain rfl := Option.some.inj H
  go_enter Try.func79, Try.ntmps79
  go_wp2
  go_ret
  exact ⟨q1_, q9_⟩
def impl_hasInput.f (a0_0 : Int) (a0_1 : Int) (a1 : Int) : Option (Bool) := (impl_IsTable.f a0_0 a0_1).bind fun t331 => (if t331 = true then ((impl_isInput.f a0_0 a1).bind fun t332 => (some t332)) else (some false))
theorem impl_hasInput.calls (a0_0 : Int) (a0_1 : Int) (a1 : Int) (r : Bool) (w : World) (h : impl_hasInput.f a0_0 a0_1 a1 = some r) :
  Calls Try.prog 68 #[.agg #[.int .i64 a0_0, .int .i64 a0_1], .int .i64 a1] w fun e w' => e = .returned (.bool r) ∧ Below w.heap.size w w' := by
 have hu25 := Try.underlying25
 have HB := A_ (Below.refl w.heap.size w)
 have H : ((impl_IsTable.f a0_0 a0_1).bind fun t331 => (if t331 = true then ((impl_isInput.f a0_0 a1).bind fun t332 => (some t332)) else (some false))) = some r := h
 clear h; replace H := Option.bind_eq_some_iff.mp H; obtain ⟨t331, A30, H⟩ := H; (try dsimp only at H); have A3 := A_ A30; clear A30
 by_cases c4 : t331 = true
 ·subst c4
  have H1 : ((impl_isInput.f a0_0 a1).bind fun t332 => (some t332)) = some r := by rw [if_pos rfl] at H; exact H
  clear H; have H := H1; clear H1; replace H := Option.bind_eq_some_iff.mp H; obtain ⟨t332, A50, H⟩ := H
  replace H : (some t332) = some r := H
  have A5 := A_ A50; clear A50
  obtain rfl := Option.some.inj H
  go_enter Try.func68, Try.ntmps68
  go_wp2_with (first | ((with_reducible refine gate_dst (N := 2) rfl ?_); refine box_event ?hg (N := 2) ?hd (cs := #[.int .i64 a0_0, .int .i64 a0_1]) (t := 25) ?hr ?_; (case hd => rfl); (case hg => rfl); (case hr => first | (go_simp; done) | (go_simp; rfl)); intro gb330 hg w6 hbox hb; have BK330 := A_ (hbox); have GW330 := A_ ((by rw [hg]; exact (below_size q0_) : w.heap.size ≤ gb330)); have GE330 := A_ ((by rw [hg]; exact (below_size q0_) : w.heap.size ≤ gb330)); replace HB := A_ (below_step q0_ hb); clear hb hbox hg; have hcz7_0 := c20_ BK330; have hcz7_1 := c21_ BK330; have hfz7_0 := blk_frozen BK330.out 0; have hfz7_1 := blk_frozen BK330.out 1) | ((with_reducible refine gate_callee (f := 36) rfl ?_); refine goesL_ (some 6) rfl rfl Try.func36 kr_ rfl #[.agg #[.int .i64 a0_0, .int .i64 a0_1]] rfl q2_ ?_; (with_reducible refine (impl_IsTable.calls a0_0 a0_1 true _ A3.out).mono ?_); rintro e w8 ⟨rfl, hb⟩; refine ⟨_, rfl, ?_⟩; replace BK330 := A_ (blk_below (M.Lb BK330) hb); replace HB := A_ (below_step q0_ hb); (try clear hb); (try clear hb2); (try clear hk); (try clear hi); have hcz9_0 := c20_ BK330; have hcz9_1 := c21_ BK330; have hfz9_0 := blk_frozen BK330.out 0; have hfz9_1 := blk_frozen BK330.out 1) | (go_at_call 79; (with_reducible refine (impl_isInput.calls a0_0 a1 t332 _ A5.out).mono ?_); rintro e w' ⟨rfl, ⟨nd, rfl⟩⟩))
  go_ret
  exact ⟨q7_, q0_⟩
 ·replace c4 := Bool.eq_false_iff.mpr c4
  subst c4
  have H1 : (some false) = some r := by rw [if_neg (show ¬ (false = true) by decide)] at H; exact H
  clear H; have H := H1; clear H1
  obtain rfl := Option.some.inj H
  go_enter Try.func68, Try.ntmps68
  go_wp2_with (first | ((with_reducible refine gate_dst (N := 2) rfl ?_); refine box_event ?hg (N := 2) ?hd (cs := #[.int .i64 a0_0, .int .i64 a0_1]) (t := 25) ?hr ?_; (case hd => rfl); (case hg => rfl); (case hr => first | (go_simp; done) | (go_simp; rfl)); intro gb330 hg w10 hbox hb; have BK330 := A_ (hbox); have GW330 := A_ ((by rw [hg]; exact (below_size q0_) : w.heap.size ≤ gb330)); have GE330 := A_ ((by rw [hg]; exact (below_size q0_) : w.heap.size ≤ gb330)); replace HB := A_ (below_step q0_ hb); clear hb hbox hg; have hcz11_0 := c20_ BK330; have hcz11_1 := c21_ BK330; have hfz11_0 := blk_frozen BK330.out 0; have hfz11_1 := blk_frozen BK330.out 1) | ((with_reducible refine gate_callee (f := 36) rfl ?_); refine goesL_ (some 6) rfl rfl Try.func36 kr_ rfl #[.agg #[.int .i64 a0_0, .int .i64 a0_1]] rfl q2_ ?_; (with_reducible refine (impl_IsTable.calls a0_0 a0_1 false _ A3.out).mono ?_); rintro e w12 ⟨rfl, hb⟩; refine ⟨_, rfl, ?_⟩; replace BK330 := A_ (blk_below (M.Lb BK330) hb); replace HB := A_ (below_step q0_ hb); (try clear hb); (try clear hb2); (try clear hk); (try clear hi)))
  go_ret
  exact ⟨q7_, q0_⟩
def impl_ValueAt.f (a0_0 : Int) (a0_1 : Int) (a1 : Int) : Option (Int) := (impl_hasInput.f a0_0 a0_1 a1).bind fun t334 => (if t334 = true then ((impl_Table_at.f a0_0 a0_1 a1).bind fun t335 => (some t335)) else (some (-1)))
theorem impl_ValueAt.calls (a0_0 : Int) (a0_1 : Int) (a1 : Int) (r : Int) (w : World) (h : impl_ValueAt.f a0_0 a0_1 a1 = some r) :
  Calls Try.prog 48 #[.agg #[.int .i64 a0_0, .int .i64 a0_1], .int .i64 a1] w fun e w' => e = .returned (.int .i64 r) ∧ Below w.heap.size w w' := by
 have hu25 := Try.underlying25
 have HB := A_ (Below.refl w.heap.size w)
 have H : ((impl_hasInput.f a0_0 a0_1 a1).bind fun t334 => (if t334 = true then ((impl_Table_at.f a0_0 a0_1 a1).bind fun t335 => (some t335)) else (some (-1)))) = some r := h
 clear h; replace H := Option.bind_eq_some_iff.mp H; obtain ⟨t334, A30, H⟩ := H; (try dsimp only at H); have A3 := A_ A30; clear A30
 by_cases c4 : t334 = true
 ·subst c4
  have H1 : ((impl_Table_at.f a0_0 a0_1 a1).bind fun t335 => (some t335)) = some r := by rw [if_pos rfl] at H; exact H
  clear H; have H := H1; clear H1; replace H := Option.bind_eq_some_iff.mp H; obtain ⟨t335, A50, H⟩ := H
  replace H : (some t335) = some r := H
  have A5 := A_ A50; clear A50
  obtain rfl := Option.some.inj H
  go_enter Try.func48, Try.ntmps48
  go_wp2_with (first | ((with_reducible refine gate_dst (N := 2) rfl ?_); refine box_event ?hg (N := 2) ?hd (cs := #[.int .i64 a0_0, .int .i64 a0_1]) (t := 25) ?hr ?_; (case hd => rfl); (case hg => rfl); (case hr => first | (go_simp; done) | (go_simp; rfl)); intro gb333 hg w6 hbox hb; have BK333 := A_ (hbox); have GW333 := A_ ((by rw [hg]; exact (below_size q0_) : w.heap.size ≤ gb333)); have GE333 := A_ ((by rw [hg]; exact (below_size q0_) : w.heap.size ≤ gb333)); replace HB := A_ (below_step q0_ hb); clear hb hbox hg; have hcz7_0 := c20_ BK333; have hcz7_1 := c21_ BK333; have hfz7_0 := blk_frozen BK333.out 0; have hfz7_1 := blk_frozen BK333.out 1) | ((with_reducible refine gate_callee (f := 68) rfl ?_); refine goesL_ (some 7) rfl rfl Try.func68 kr_ rfl #[.agg #[.int .i64 a0_0, .int .i64 a0_1], .int .i64 a1] rfl q2_ ?_; (with_reducible refine (impl_hasInput.calls a0_0 a0_1 a1 true _ A3.out).mono ?_); rintro e w8 ⟨rfl, hb⟩; refine ⟨_, rfl, ?_⟩; replace BK333 := A_ (blk_below (M.Lb BK333) hb); replace HB := A_ (below_step q0_ hb); (try clear hb); (try clear hb2); (try clear hk); (try clear hi); have hcz9_0 := c20_ BK333; have hcz9_1 := c21_ BK333; have hfz9_0 := blk_frozen BK333.out 0; have hfz9_1 := blk_frozen BK333.out 1) | ((with_reducible refine gate_callee (f := 38) rfl ?_); refine goesL_ (some 11) rfl rfl Try.func38 kr_ rfl #[.agg #[.int .i64 a0_0, .int .i64 a0_1], .int .i64 a1] rfl q2_ ?_; (with_reducible refine (impl_Table_at.calls a0_0 a0_1 a1 t335 _ A5.out).mono ?_); rintro e w10 ⟨rfl, hb⟩; refine ⟨_, rfl, ?_⟩; replace BK333 := A_ (blk_below (M.Lb BK333) hb); replace HB := A_ (below_step q0_ hb); (try clear hb); (try clear hb2); (try clear hk); (try clear hi)))
  go_ret
  exact ⟨q7_, q0_⟩
 ·replace c4 := Bool.eq_false_iff.mpr c4
  subst c4
  have H1 : (some (-1)) = some r := by rw [if_neg (show ¬ (false = true) by decide)] at H; exact H
  clear H; have H := H1; clear H1
  obtain rfl := Option.some.inj H
  go_enter Try.func48, Try.ntmps48
  go_wp2_with (first | ((with_reducible refine gate_dst (N := 2) rfl ?_); refine box_event ?hg (N := 2) ?hd (cs := #[.int .i64 a0_0, .int .i64 a0_1]) (t := 25) ?hr ?_; (case hd => rfl); (case hg => rfl); (case hr => first | (go_simp; done) | (go_simp; rfl)); intro gb333 hg w11 hbox hb; have BK333 := A_ (hbox); have GW333 := A_ ((by rw [hg]; exact (below_size q0_) : w.heap.size ≤ gb333)); have GE333 := A_ ((by rw [hg]; exact (below_size q0_) : w.heap.size ≤ gb333)); replace HB := A_ (below_step q0_ hb); clear hb hbox hg; have hcz12_0 := c20_ BK333; have hcz12_1 := c21_ BK333; have hfz12_0 := blk_frozen BK333.out 0; have hfz12_1 := blk_frozen BK333.out 1) | ((with_reducible refine gate_callee (f := 68) rfl ?_); refine goesL_ (some 7) rfl rfl Try.func68 kr_ rfl #[.agg #[.int .i64 a0_0, .int .i64 a0_1], .int .i64 a1] rfl q2_ ?_; (with_reducible refine (impl_hasInput.calls a0_0 a0_1 a1 false _ A3.out).mono ?_); rintro e w13 ⟨rfl, hb⟩; refine ⟨_, rfl, ?_⟩; replace BK333 := A_ (blk_below (M.Lb BK333) hb); replace HB := A_ (below_step q0_ hb); (try clear hb); (try clear hb2); (try clear hk); (try clear hi)))
  go_ret
  exact ⟨q7_, q0_⟩
def impl_IsContradiction.l0 : Nat → List Int → List Int → Int → Int → Int → Int → Option (Bool)
 | 0, _, _, _, _, _, _ => none
 | k + 1, x1, x10, x11, x12, x337000, x337001 => if x12 < x11 then (if 0 ≤ x12 then (if x12 < (x10.length : Int) then ((impl_ValueAt.f x337000 x337001 (rd x10 x12)).bind fun t338 => (if t338 = (wrap64 (1 - (wrap64 (Int.tdiv x12 2)))) then (impl_IsContradiction.l0 k x1 x10 x11 (wrap64 (x12 + 1)) x337000 x337001) else (some false))) else (none)) else (none)) else (if 0 < (x1.length : Int) then (if 1 < (x1.length : Int) then (if 2 < (x1.length : Int) then (if 3 < (x1.length : Int) then ((impl_isContradiction.f (rd x1 0) (rd x1 1) (rd x1 2) (rd x1 3)).bind fun t343 => (some t343)) else (none)) else (none)) else (none)) else (none))
def impl_IsContradiction.f (k : Nat) (a0_0 : Int) (a0_1 : Int) (l1 : List Int) : Option (Bool) := if (l1.length : Int) = 4 then (impl_IsContradiction.l0 k l1 l1 (l1.length : Int) 0 a0_0 a0_1) else (some false)
theorem impl_IsContradiction.calls (k : Nat) (a0_0 : Int) (a0_1 : Int) (A1 : Option Addr) (c1 : Nat) (l1 : List Int) (r : Bool) (w : World) (hr1 : Kd.C (Kd.int .i64) w A1 l1.length l1) (hc1 : l1.length ≤ c1) (h : impl_IsContradiction.f k a0_0 a0_1 l1 = some r) :
  Calls Try.prog 15 #[.agg #[.int .i64 a0_0, .int .i64 a0_1], .slice A1 l1.length c1] w fun e w' => e = .returned (.bool r) ∧ Below w.heap.size w w' := by
 have hu25 := Try.underlying25
 have HR1 := A_ hr1; have HC1 := A_ hc1; clear hr1 hc1
 have HB := A_ (Below.refl w.heap.size w)
 have H : (if (l1.length : Int) = 4 then (impl_IsContradiction.l0 k l1 l1 (l1.length : Int) 0 a0_0 a0_1) else (some false)) = some r := h
 clear h
 by_cases c3 : (l1.length : Int) = 4
 ·rw [if_pos c3] at H
  have c3b0 : ((l1.length : Int) == 4) = true := beq_iff_eq.mpr c3
  have c3b1 : ((l1.length : Int) != 4) = false := bne_eq_false_iff_eq.mpr c3
  clear c3
  have H' := A_ H
  clear H
  go_enter Try.func15, Try.ntmps15
  go_wp2_with (first | ((with_reducible refine gate_dst (N := 2) rfl ?_); refine box_event ?hg (N := 2) ?hd (cs := #[.int .i64 a0_0, .int .i64 a0_1]) (t := 25) ?hr ?_; (case hd => rfl); (case hg => rfl); (case hr => first | (go_simp; done) | (go_simp; rfl)); intro gb336 hg w4 hbox hb; have BK336 := A_ (hbox); have GW336 := A_ ((by rw [hg]; exact (below_size q0_) : w.heap.size ≤ gb336)); have GE336 := A_ ((by rw [hg]; exact (below_size q0_) : w.heap.size ≤ gb336)); replace HB := A_ (below_step q0_ hb); clear hb hbox hg))
  repeat (go_quiet (first | ((with_reducible refine gate_dst (N := 2) rfl ?_); refine box_event ?hg (N := 2) ?hd (cs := #[.int .i64 a0_0, .int .i64 a0_1]) (t := 25) ?hr ?_; (case hd => rfl); (case hg => rfl); (case hr => first | (go_simp; done) | (go_simp; rfl)); intro gb336 hg w4 hbox hb; have BK336 := A_ (hbox); have GW336 := A_ ((by rw [hg]; exact (below_size q0_) : w.heap.size ≤ gb336)); have GE336 := A_ ((by rw [hg]; exact (below_size q0_) : w.heap.size ≤ gb336)); replace HB := A_ (below_step q0_ hb); clear hb hbox hg)); try go_wp2_with (first | ((with_reducible refine gate_dst (N := 2) rfl ?_); refine box_event ?hg (N := 2) ?hd (cs := #[.int .i64 a0_0, .int .i64 a0_1]) (t := 25) ?hr ?_; (case hd => rfl); (case hg => rfl); (case hr => first | (go_simp; done) | (go_simp; rfl)); intro gb336 hg w4 hbox hb; have BK336 := A_ (hbox); have GW336 := A_ ((by rw [hg]; exact (below_size q0_) : w.heap.size ≤ gb336)); have GE336 := A_ ((by rw [hg]; exact (below_size q0_) : w.heap.size ≤ gb336)); replace HB := A_ (below_step q0_ hb); clear hb hbox hg)))
  go_loopg [12] k (fun kq v12 w' => ∃ (x12_1 : Int), v12 = .int .i64 x12_1 ∧ Aside0 (impl_IsContradiction.l0 kq l1 l1 (l1.length : Int) x12_1 a0_0 a0_1 = some r) ∧ Aside0 (kq ≤ k) ∧ Aside0 (w'.heap[gb336]? = some (.cells #[.int .i64 a0_0, .int .i64 a0_1] 25 (0, 0))) ∧ Aside0 (Below w.heap.size w w'))
  case atStart => exact ⟨(0), q1_, H', ⟨Nat.le_refl _⟩, ⟨M.Lb BK336⟩, ⟨q0_⟩⟩
  case round =>
   clear H'; (try clear c1); (try clear p2); (try clear c3); (try clear c3b0); (try clear c3b1); obtain ⟨x12_1, rfl, HA, HK1, BK336, HB⟩ := hrel
   cases gk with
   | zero => exact absurd HA.out (by simp [impl_IsContradiction.l0])
   | succ k1 =>
    have H := HA.out
    clear HA
    simp only [impl_IsContradiction.l0] at H
    by_cases c5 : x12_1 < (l1.length : Int)
    ·rw [if_pos c5] at H
     have c5b0 : decide (x12_1 < (l1.length : Int)) = true := decide_eq_true c5
     clear c5
     by_cases c6 : 0 ≤ x12_1
     ·rw [if_pos c6] at H
      have c6b0 : decide (0 ≤ x12_1) = true := decide_eq_true c6
      clear c6
      by_cases c7 : x12_1 < (l1.length : Int)
      ·rw [if_pos c7] at H
       have c7b0 : decide (x12_1 < (l1.length : Int)) = true := decide_eq_true c7
       clear c7; replace H := Option.bind_eq_some_iff.mp H; obtain ⟨t338, A80, H⟩ := H; (try dsimp only at H); have A8 := A_ A80; clear A80
       by_cases c9 : t338 = (wrap64 (1 - (wrap64 (Int.tdiv x12_1 2))))
       ·rw [if_pos c9] at H
        have c9b0 : (t338 == (wrap64 (1 - (wrap64 (Int.tdiv x12_1 2))))) = true := beq_iff_eq.mpr c9
        have c9b1 : (t338 != (wrap64 (1 - (wrap64 (Int.tdiv x12_1 2))))) = false := bne_eq_false_iff_eq.mpr c9
        clear c9
        have H' := A_ H
        clear H
        have p337 : 0 ≤ (x12_1 : Int) := of_decide_eq_true q5_
        have q337 : x12_1 < (l1.length : Int) := of_decide_eq_true q5_
        obtain ⟨ad337, e337, hx337_0⟩ := Kd.at_int HR1.out x12_1 p337 q337
        cases e337
        replace hx337_0 := (HB.out.cell (World.block_lt_of_cell? w _ hx337_0)).trans hx337_0
        replace p337 := eq_true p337
        replace q337 := eq_true q337
        have hcz10_0 := c20_ BK336
        have hcz10_1 := c21_ BK336
        have hfz10_0 := blk_frozen BK336.out 0
        have hfz10_1 := blk_frozen BK336.out 1
        go_wp2_with (first | (go_at_call 48; (with_reducible refine (impl_ValueAt.calls a0_0 a0_1 (rd l1 x12_1) t338 _ A8.out).mono ?_); rintro e w11 ⟨rfl, hb⟩; replace BK336 := A_ (blk_below (M.Lb BK336) hb); replace HB := A_ (below_step q0_ hb); (try clear hb); (try clear hb2); (try clear hk); (try clear hi)))
        repeat (go_quiet (first | (go_at_call 48; (with_reducible refine (impl_ValueAt.calls a0_0 a0_1 (rd l1 x12_1) t338 _ A8.out).mono ?_); rintro e w11 ⟨rfl, hb⟩; replace BK336 := A_ (blk_below (M.Lb BK336) hb); replace HB := A_ (below_step q0_ hb); (try clear hb); (try clear hb2); (try clear hk); (try clear hi))); try go_wp2_with (first | (go_at_call 48; (with_reducible refine (impl_ValueAt.calls a0_0 a0_1 (rd l1 x12_1) t338 _ A8.out).mono ?_); rintro e w11 ⟨rfl, hb⟩; replace BK336 := A_ (blk_below (M.Lb BK336) hb); replace HB := A_ (below_step q0_ hb); (try clear hb); (try clear hb2); (try clear hk); (try clear hi))))
        go_roundg k1
        case measure => have := HK1.out; omega
        case rel => exact ⟨(wrap64 (x12_1 + 1)), q1_, H', ⟨by have := HK1.out; omega⟩, ⟨M.Lb BK336⟩, ⟨q0_⟩⟩
       ·rw [if_neg c9] at H
        have c9b0 : (t338 == (wrap64 (1 - (wrap64 (Int.tdiv x12_1 2))))) = false := beq_eq_false_iff_ne.mpr c9
        have c9b1 : (t338 != (wrap64 (1 - (wrap64 (Int.tdiv x12_1 2))))) = true := bne_iff_ne.mpr c9
        obtain rfl := Option.some.inj H
        have p337 : 0 ≤ (x12_1 : Int) := of_decide_eq_true q5_
        have q337 : x12_1 < (l1.length : Int) := of_decide_eq_true q5_
        obtain ⟨ad337, e337, hx337_0⟩ := Kd.at_int HR1.out x12_1 p337 q337
        cases e337
        replace hx337_0 := (HB.out.cell (World.block_lt_of_cell? w _ hx337_0)).trans hx337_0
        replace p337 := eq_true p337
        replace q337 := eq_true q337
        have hcz12_0 := c20_ BK336
        have hcz12_1 := c21_ BK336
        have hfz12_0 := blk_frozen BK336.out 0
        have hfz12_1 := blk_frozen BK336.out 1
        go_wp2_with (first | (go_at_call 48; (with_reducible refine (impl_ValueAt.calls a0_0 a0_1 (rd l1 x12_1) t338 _ A8.out).mono ?_); rintro e w13 ⟨rfl, hb⟩; replace BK336 := A_ (blk_below (M.Lb BK336) hb); replace HB := A_ (below_step q0_ hb); (try clear hb); (try clear hb2); (try clear hk); (try clear hi)))
        repeat (go_quiet (first | (go_at_call 48; (with_reducible refine (impl_ValueAt.calls a0_0 a0_1 (rd l1 x12_1) t338 _ A8.out).mono ?_); rintro e w13 ⟨rfl, hb⟩; replace BK336 := A_ (blk_below (M.Lb BK336) hb); replace HB := A_ (below_step q0_ hb); (try clear hb); (try clear hb2); (try clear hk); (try clear hi))); try go_wp2_with (first | (go_at_call 48; (with_reducible refine (impl_ValueAt.calls a0_0 a0_1 (rd l1 x12_1) t338 _ A8.out).mono ?_); rintro e w13 ⟨rfl, hb⟩; replace BK336 := A_ (blk_below (M.Lb BK336) hb); replace HB := A_ (below_step q0_ hb); (try clear hb); (try clear hb2); (try clear hk); (try clear hi))))
        go_ret
        exact ⟨q7_, q0_⟩
      ·rw [if_neg c7] at H
       exact absurd H (by simp)
     ·rw [if_neg c6] at H
      exact absurd H (by simp)
    ·rw [if_neg c5] at H
     have c5b0 : decide (x12_1 < (l1.length : Int)) = false := decide_eq_false c5
     clear c5
     by_cases c14 : 0 < (l1.length : Int)
     ·rw [if_pos c14] at H
      have c14b0 : decide (0 < (l1.length : Int)) = true := decide_eq_true c14
      have c14b1 : decide (0 < l1.length) = true := decide_eq_true (by omega)
      clear c14
      by_cases c15 : 1 < (l1.length : Int)
      ·rw [if_pos c15] at H
       have c15b0 : decide (1 < (l1.length : Int)) = true := decide_eq_true c15
       have c15b1 : decide (1 < l1.length) = true := decide_eq_true (by omega)
       clear c15
       by_cases c16 : 2 < (l1.length : Int)
       ·rw [if_pos c16] at H
        have c16b0 : decide (2 < (l1.length : Int)) = true := decide_eq_true c16
        have c16b1 : decide (2 < l1.length) = true := decide_eq_true (by omega)
        clear c16
        by_cases c17 : 3 < (l1.length : Int)
        ·rw [if_pos c17] at H
         have c17b0 : decide (3 < (l1.length : Int)) = true := decide_eq_true c17
         have c17b1 : decide (3 < l1.length) = true := decide_eq_true (by omega)
         clear c17; replace H := Option.bind_eq_some_iff.mp H; obtain ⟨t343, A180, H⟩ := H
         replace H : (some t343) = some r := H
         have A18 := A_ A180; clear A180
         obtain rfl := Option.some.inj H
         have p339 : 0 ≤ (0 : Int) := (by omega)
         have q339 : 0 < (l1.length : Int) := of_decide_eq_true q5_
         obtain ⟨ad339, e339, hx339_0⟩ := Kd.at_int HR1.out 0 p339 q339
         cases e339
         have qi339 : (0 < l1.length) = True := eq_true (by omega)
         (try rw [show ((0 : Int)).toNat = 0 from rfl] at hx339_0)
         (try rw [Addr.add_zero'] at hx339_0)
         replace hx339_0 := (HB.out.cell (World.block_lt_of_cell? w _ hx339_0)).trans hx339_0
         replace p339 := eq_true p339
         replace q339 := eq_true q339
         have p340 : 0 ≤ (1 : Int) := (by omega)
         have q340 : 1 < (l1.length : Int) := of_decide_eq_true q5_
         obtain ⟨ad340, e340, hx340_0⟩ := Kd.at_int HR1.out 1 p340 q340
         obtain rfl : ad339 = ad340 := (by injection e340)
         (try simp only [show (1 : Int).toNat = 1 from rfl, Nat.reduceMul, Nat.reduceEqDiff, Go.Addr.add, ↓reduceIte] at hx340_0)
         have qi340 : (1 < l1.length) = True := eq_true (by omega)
         (try rw [show ((1 : Int)).toNat = 1 from rfl] at hx340_0)
         replace hx340_0 := (HB.out.cell (World.block_lt_of_cell? w _ hx340_0)).trans hx340_0
         replace p340 := eq_true p340
         replace q340 := eq_true q340
         have p341 : 0 ≤ (2 : Int) := (by omega)
         have q341 : 2 < (l1.length : Int) := of_decide_eq_true q5_
         obtain ⟨ad341, e341, hx341_0⟩ := Kd.at_int HR1.out 2 p341 q341
         obtain rfl : ad339 = ad341 := (by injection e341)
         (try simp only [show (2 : Int).toNat = 2 from rfl, Nat.reduceMul, Nat.reduceEqDiff, Go.Addr.add, ↓reduceIte] at hx341_0)
         have qi341 : (2 < l1.length) = True := eq_true (by omega)
         (try rw [show ((2 : Int)).toNat = 2 from rfl] at hx341_0)
         replace hx341_0 := (HB.out.cell (World.block_lt_of_cell? w _ hx341_0)).trans hx341_0
         replace p341 := eq_true p341
         replace q341 := eq_true q341
         have p342 : 0 ≤ (3 : Int) := (by omega)
         have q342 : 3 < (l1.length : Int) := of_decide_eq_true q5_
         obtain ⟨ad342, e342, hx342_0⟩ := Kd.at_int HR1.out 3 p342 q342
         obtain rfl : ad339 = ad342 := (by injection e342)
         (try simp only [show (3 : Int).toNat = 3 from rfl, Nat.reduceMul, Nat.reduceEqDiff, Go.Addr.add, ↓reduceIte] at hx342_0)
         have qi342 : (3 < l1.length) = True := eq_true (by omega)
         (try rw [show ((3 : Int)).toNat = 3 from rfl] at hx342_0)
         replace hx342_0 := (HB.out.cell (World.block_lt_of_cell? w _ hx342_0)).trans hx342_0
         replace p342 := eq_true p342
         replace q342 := eq_true q342
         go_wp2_with (first | (go_at_call 39; (with_reducible refine (impl_isContradiction.calls (rd l1 0) (rd l1 1) (rd l1 2) (rd l1 3) t343 _ A18.out).mono ?_); rintro e w' ⟨rfl, ⟨nd, rfl⟩⟩; (try exact q12_)))
         repeat (go_quiet (first | (go_at_call 39; (with_reducible refine (impl_isContradiction.calls (rd l1 0) (rd l1 1) (rd l1 2) (rd l1 3) t343 _ A18.out).mono ?_); rintro e w' ⟨rfl, ⟨nd, rfl⟩⟩; (try exact q12_))); try go_wp2_with (first | (go_at_call 39; (with_reducible refine (impl_isContradiction.calls (rd l1 0) (rd l1 1) (rd l1 2) (rd l1 3) t343 _ A18.out).mono ?_); rintro e w' ⟨rfl, ⟨nd, rfl⟩⟩; (try exact q12_))))
         go_ret
         exact ⟨q7_, q0_⟩
        ·rw [if_neg c17] at H
         exact absurd H (by simp)
       ·rw [if_neg c16] at H
        exact absurd H (by simp)
      ·rw [if_neg c15] at H
       exact absurd H (by simp)
     ·rw [if_neg c14] at H
      exact absurd H (by simp)
 ·rw [if_neg c3] at H
  have c3b0 : ((l1.length : Int) == 4) = false := beq_eq_false_iff_ne.mpr c3
  have c3b1 : ((l1.length : Int) != 4) = true := bne_iff_ne.mpr c3
  obtain rfl := Option.some.inj H
  go_enter Try.func15, Try.ntmps15
  go_wp2_with (first | ((with_reducible refine gate_dst (N := 2) rfl ?_); refine box_event ?hg (N := 2) ?hd (cs := #[.int .i64 a0_0, .int .i64 a0_1]) (t := 25) ?hr ?_; (case hd => rfl); (case hg => rfl); (case hr => first | (go_simp; done) | (go_simp; rfl)); intro gb336 hg w19 hbox hb; have BK336 := A_ (hbox); have GW336 := A_ ((by rw [hg]; exact (below_size q0_) : w.heap.size ≤ gb336)); have GE336 := A_ ((by rw [hg]; exact (below_size q0_) : w.heap.size ≤ gb336)); replace HB := A_ (below_step q0_ hb); clear hb hbox hg))
  repeat (go_quiet (first | ((with_reducible refine gate_dst (N := 2) rfl ?_); refine box_event ?hg (N := 2) ?hd (cs := #[.int .i64 a0_0, .int .i64 a0_1]) (t := 25) ?hr ?_; (case hd => rfl); (case hg => rfl); (case hr => first | (go_simp; done) | (go_simp; rfl)); intro gb336 hg w19 hbox hb; have BK336 := A_ (hbox); have GW336 := A_ ((by rw [hg]; exact (below_size q0_) : w.heap.size ≤ gb336)); have GE336 := A_ ((by rw [hg]; exact (below_size q0_) : w.heap.size ≤ gb336)); replace HB := A_ (below_step q0_ hb); clear hb hbox hg)); try go_wp2_with (first | ((with_reducible refine gate_dst (N := 2) rfl ?_); refine box_event ?hg (N := 2) ?hd (cs := #[.int .i64 a0_0, .int .i64 a0_1]) (t := 25) ?hr ?_; (case hd => rfl); (case hg => rfl); (case hr => first | (go_simp; done) | (go_simp; rfl)); intro gb336 hg w19 hbox hb; have BK336 := A_ (hbox); have GW336 := A_ ((by rw [hg]; exact (below_size q0_) : w.heap.size ≤ gb336)); have GE336 := A_ ((by rw [hg]; exact (below_size q0_) : w.heap.size ≤ gb336)); replace HB := A_ (below_step q0_ hb); clear hb hbox hg)))
  go_ret
  exact ⟨q7_, q0_⟩
mutual
def spec_DrawTableOfWeights.l0 : Nat → List Int → Int → List Int → Int → Int → Option (List Int × Int)
 | 0, _, _, _, _, _ => none
 | k + 1, x5, x6, x348000, x348001, x348002 => if x6 > 0 then ((spec_l1Below.f x348000 x348001 x348002 9).bind fun bt354 => (if x5.length < 17592186044416 then (spec_DrawTableOfWeights.l0 k (x5 ++ [wrap64 (bt354.1 - 4)]) (wrap64 (x6 - 1)) x348000 bt354.2.1 bt354.2.2) else (none))) else (if (x5.length : Int) > 0 then ((spec_l1Once.f x348000 x348001 x348002 10).bind fun bt360 => (spec_DrawTableOfWeights.j1 k x5 bt360.1 x348000 bt360.2.1 bt360.2.2)) else (spec_DrawTableOfWeights.j1 k x5 false x348000 x348001 x348002))
def spec_DrawTableOfWeights.j1 : Nat → List Int → Bool → List Int → Int → Int → Option (List Int × Int)
 | 0, _, _, _, _, _ => none
 | k + 1, x5, x28, x348000, x348001, x348002 => if x28 = true then ((spec_l1PickInt.f x348000 x348001 x348002 (([100, 101, (-9223372036854775808)] : List Int))).bind fun bt366 => (if 0 < (x5.length : Int) then ((spec_l1PickInt.f x348000 bt366.2.1 bt366.2.2 (([0, 1, 2, 3, (-1), 1001, (-9223372036854775808)] : List Int))).bind fun bt373 => (some ((x5.set (0 : Int).toNat bt366.1), bt373.1))) else (none))) else ((spec_l1PickInt.f x348000 x348001 x348002 (([0, 1, 2, 3, (-1), 1001, (-9223372036854775808)] : List Int))).bind fun bt379 => (some (x5, bt379.1)))
end
def spec_DrawTableOfWeights.f (k : Nat) (l0 : List Int) : Option (List Int × Int) := (spec_l1New.f k l0).bind fun bt344 => ((spec_l1Below.f bt344.1 bt344.2.1 bt344.2.2 7).bind fun bt351 => (spec_DrawTableOfWeights.l0 k (([] : List Int)) bt351.1 bt344.1 bt351.2.1 bt351.2.2))
theorem spec_DrawTableOfWeights.calls (k : Nat) (A0 : Option Addr) (c0 : Nat) (l0 : List Int) (r1 : List Int) (r2 : Int) (w : World) (hr0 : Kd.C (Kd.int .u8) w A0 l0.length l0) (hc0 : l0.length ≤ c0) (h : spec_DrawTableOfWeights.f k l0 = some (r1, r2)) :
  Calls Try.prog 17 #[.slice A0 l0.length c0] w fun e w' => ∃ v0_ : Value, e = .returned (.tuple #[v0_, .int .i64 r2]) ∧ Kd.R (Kd.int .i64) 3 w' w.heap.size (fun _ => True) v0_ r1 ∧ Below w.heap.size w w' := by
 have HR0 := A_ hr0; have HC0 := A_ hc0; clear hr0 hc0
 have HB := A_ (Below.refl w.heap.size w)
 have H : ((spec_l1New.f k l0).bind fun bt344 => ((spec_l1Below.f bt344.1 bt344.2.1 bt344.2.2 7).bind fun bt351 => (spec_DrawTableOfWeights.l0 k (([] : List Int)) bt351.1 bt344.1 bt351.2.1 bt351.2.2))) = some (r1, r2) := h
 clear h; replace H := Option.bind_eq_some_iff.mp H; obtain ⟨⟨t344, t345, t346⟩, A20, H⟩ := H; (try dsimp only at H); have A2 := A_ A20; clear A20
 obtain ⟨y348, hy348⟩ : ∃ y_ : List Int, y_ = (([] : List Int)) := ⟨_, rfl⟩
 replace H : ((spec_l1Below.f t344 t345 t346 7).bind fun bt351 => (spec_DrawTableOfWeights.l0 k y348 bt351.1 t344 bt351.2.1 bt351.2.2)) = some (r1, r2) := by first | (rw [hy348]; with_reducible exact H) | (have H2_ := (Option.bind_some _ _).symm.trans H; rw [hy348]; with_reducible exact H2_) | (have H2_ := (Option.bind_some _ _).symm.trans H; with_reducible exact H2_) | with_reducible exact H | (rw [hy348]; exact H) | exact H
 have Ny348 := A_ hy348; clear hy348; replace H := Option.bind_eq_some_iff.mp H; obtain ⟨⟨t351, t352, t353⟩, A30, H⟩ := H
 replace H : (spec_DrawTableOfWeights.l0 k y348 t351 t344 t352 t353) = some (r1, r2) := H
 have A3 := A_ A30; clear A30
 have H' := A_ H
 clear H
 go_enter Try.func17, Try.ntmps17
 go_wp2_with (first | ((with_reducible refine gate_callee (f := 29) rfl ?_); refine goesL_ (some 8) rfl rfl Try.func29 kr_ rfl #[.slice A0 l0.length c0] rfl q2_ ?_; (with_reducible refine (spec_l1New.calls k _ _ l0 t344 t345 t346 w _ ?side1 ?side2 ?side3 A2.out).mono ?_); (case side1 => exact q0_); (case side2 => exact HR0.out); (case side3 => exact HC0.out); rintro e w4 ⟨g347, rfl, hi, hb, hb2⟩; refine ⟨_, rfl, ?_⟩; replace HB := A_ (hb); have HI347 := A_ (hi); (try clear hb); (try clear hb2); (try clear hk); (try clear hi)) | ((with_reducible refine gate_dst (N := 9) rfl ?_); refine Kd.R_lit (Kd.int .i64) _ 3 ?hg (N := 9) ?hd (xs := ([] : List Int)) (inner := []) (ok := fun _ => True) (okp := fun _ => True) ?hr ?hp (fun _ hk => hk) trivial (Below.refl _ _) (Nat.le_refl _) (by simp) ?_; (case hd => rfl); (case hg => rfl); (case hr => first | (go_simp; done) | (go_simp; rfl)); (case hp => exact (Reps.none _ _)); intro v349 w5 ho6 hb hg_ hnew_; clear hg_ hnew_; (first | rw [← Ny348.out] at ho6 | (simp only [Int.reduceToNat] at ho6; rw [← Ny348.out] at ho6)); have HO350 := A_ (Kd.R_lower ho6 (below_size q3_)); replace HB := A_ (below_step q3_ hb); replace HI347 := A_ (IsS72.below q10_ hb); clear hb ho6) | ((with_reducible refine gate_callee (f := 50) rfl ?_); refine goesL_ (some 11) rfl rfl Try.func50 kr_ rfl #[.pointer (some ⟨g347, 0, none⟩), .int .i64 7] rfl q2_ ?_; (with_reducible refine (spec_l1Below.calls g347 t344 t345 t346 7 t351 t352 t353 w _ ?side1 ?side2 A3.out).mono ?_); (case side1 => exact q10_); (case side2 => exact q3_); rintro e w7 ⟨rfl, hi, hb, hk⟩; refine ⟨_, rfl, ?_⟩; replace HO350 := A_ (Kd.R_mono (Kd.R_keep (IsS72.apart (show IsS72 w _ g347 t344 t345 t346 from q10_) (M.Lr HO350) (by decide)) hk (fun _ h => h.2)) (fun _ h => h.1)); replace HB := A_ (hb); replace HI347 := A_ (hi); (try clear hb); (try clear hb2); (try clear hk); (try clear hi)))
 go_loopg [5, 6] k (fun kq v5 v6 w' => ∃ (x5_1 : List Int) (x6_1 : Int) (x348001_1 : Int) (x348002_1 : Int), v6 = .int .i64 x6_1 ∧ Aside0 (spec_DrawTableOfWeights.l0 kq x5_1 x6_1 t344 x348001_1 x348002_1 = some (r1, r2)) ∧ Aside0 (kq ≤ k) ∧ Aside0 (Kd.R (Kd.int .i64) 3 w' w.heap.size (fun _ => True) v5 x5_1) ∧ Aside0 (IsS72 w w' g347 t344 x348001_1 x348002_1) ∧ Aside0 (Below w.heap.size w w'))
 case atStart => exact ⟨(y348), (t351), (t352), (t353), q1_, H', ⟨Nat.le_refl _⟩, ⟨M.Lr HO350⟩, ⟨q10_⟩, ⟨q3_⟩⟩
 case round =>
  clear H'; (try clear c1); (try clear c2); (try clear p2); (try clear c5); obtain ⟨x5_1, x6_1, x348001_1, x348002_1, rfl, HA, HK1, HO_5, HI347, HB⟩ := hrel
  cases gk with
  | zero => exact absurd HA.out (by simp [spec_DrawTableOfWeights.l0])
  | succ k1 =>
   have H := HA.out
   clear HA
   simp only [spec_DrawTableOfWeights.l0] at H
   by_cases c8 : x6_1 > 0
   ·rw [if_pos c8] at H
    have c8b0 : decide (0 < x6_1) = true := decide_eq_true c8
    clear c8; replace H := Option.bind_eq_some_iff.mp H; obtain ⟨⟨t354, t355, t356⟩, A90, H⟩ := H; (try dsimp only at H); have A9 := A_ A90; clear A90
    by_cases c10 : x5_1.length < 17592186044416
    ·rw [if_pos c10] at H; have LMc10 := A_ c10; clear c10
     obtain ⟨y357, hy357⟩ : ∃ y_ : List Int, y_ = (x5_1 ++ [wrap64 (t354 - 4)]) := ⟨_, rfl⟩
     replace H : (spec_DrawTableOfWeights.l0 k1 y357 (wrap64 (x6_1 - 1)) t344 t355 t356) = some (r1, r2) := by first | (rw [hy357]; with_reducible exact H) | (have H2_ := (Option.bind_some _ _).symm.trans H; rw [hy357]; with_reducible exact H2_) | (have H2_ := (Option.bind_some _ _).symm.trans H; with_reducible exact H2_) | with_reducible exact H | (rw [hy357]; exact H) | exact H
     have Ny357 := A_ hy357; clear hy357
     have H' := A_ H
     clear H
     go_wp2_with (first | ((with_reducible refine gate_callee (f := 50) rfl ?_); refine goesL_ (some 18) rfl rfl Try.func50 kr_ rfl #[.pointer (some ⟨g347, 0, none⟩), .int .i64 9] rfl q2_ ?_; (with_reducible refine (spec_l1Below.calls g347 t344 x348001_1 x348002_1 9 t354 t355 t356 w _ ?side1 ?side2 A9.out).mono ?_); (case side1 => exact q10_); (case side2 => exact q3_); rintro e w11 ⟨rfl, hi, hb, hk⟩; refine ⟨_, rfl, ?_⟩; replace HO_5 := A_ (Kd.R_mono (Kd.R_keep (IsS72.apart (show IsS72 w _ g347 t344 x348001_1 x348002_1 from q10_) (M.Lr HO_5) (by decide)) hk (fun _ h => h.2)) (fun _ h => h.1)); replace HB := A_ (hb); replace HI347 := A_ (hi); (try clear hb); (try clear hb2); (try clear hk); (try clear hi)) | ((with_reducible refine gate_builtin (b := .append) (xs := #[.tmp 16, .tmp 20]) rfl ?_); at_builtin; refine Kd.R_append (Kd.int .i64) (w0 := w) w.heap.size rfl (.tmp 16) (.tmp 20) 27 3 (.int .i64 0) 8 rfl Try.underlying27 info3 rfl (by decide) (by omega) u5 x5_1 (wrap64 (t354 - 4)) [.int .i64 (wrap64 (t354 - 4))] (fun _ => True) (fun _ => False) rfl rfl ?aP (fun _ hk => hk.elim) ?aF ?aO ?aB ?aS ?aL ?_; (case aP => exact rfl); (case aB => exact q3_); (case aF => exact (fun _ _ => trivial)); (case aO => exact (M.Lr HO_5)); (case aS => exact (below_size q3_)); (case aL => have := LMc10.out; omega); intro v358 w12 ho hb hg hat; rw [← Ny357.out] at ho; replace HI347 := A_ (IsS72.grown q10_ hg (IsS72.own_ne HI347.out HO_5.out (by decide))); replace HB := A_ (hb); have HO359 := A_ (ho); clear HO_5; clear ho hb hg hat))
     go_roundg k1
     case measure => have := HK1.out; omega
     case rel => exact ⟨(y357), (wrap64 (x6_1 - 1)), (t355), (t356), q1_, H', ⟨by have := HK1.out; omega⟩, ⟨M.Lr HO359⟩, ⟨q10_⟩, ⟨q3_⟩⟩
    ·rw [if_neg c10] at H
     exact absurd H (by simp)
   ·rw [if_neg c8] at H
    have c8b0 : decide (0 < x6_1) = false := decide_eq_false c8
    clear c8; have HC13 := A_ H; clear H
    go_upto_region 7 with (fail)
    go_cut [28] (fun v28 wc => ∃ (kq : Nat) (x28_12 : Bool) (x348001_12 : Int) (x348002_12 : Int), v28 = .bool x28_12 ∧ Aside0 (spec_DrawTableOfWeights.j1 kq x5_1 x28_12 t344 x348001_12 x348002_12 = some (r1, r2)) ∧ Aside0 (kq ≤ k1) ∧ Aside0 (Kd.R (Kd.int .i64) 3 wc w.heap.size (fun _ => True) u5 x5_1) ∧ Aside0 (IsS72 w wc g347 t344 x348001_12 x348002_12) ∧ Aside0 (Below w.heap.size w wc))
    case first =>
     have H := HC13.out
     clear HC13
     by_cases c14 : (x5_1.length : Int) > 0
     ·rw [if_pos c14] at H
      have c14b0 : decide (0 < (x5_1.length : Int)) = true := decide_eq_true c14
      have c14b1 : decide (0 < x5_1.length) = true := decide_eq_true (by omega)
      clear c14
      (first | rw [c14b0] | (simp only [i64_w, i32_w]; rw [c14b0]) | skip)
      replace H := Option.bind_eq_some_iff.mp H; obtain ⟨⟨t360, t361, t362⟩, A150, H⟩ := H
      replace H : (spec_DrawTableOfWeights.j1 k1 x5_1 t360 t344 t361 t362) = some (r1, r2) := H
      have A15 := A_ A150; clear A150
      have H' := A_ H
      clear H
      obtain ⟨Ao16, co16, eo16⟩ := Kd.R_slice HO_5.out
      subst eo16
      go_wp2_with (first | (go_at_call 51; (with_reducible refine (spec_l1Once.calls g347 t344 x348001_1 x348002_1 10 t360 t361 t362 w _ ?side1 ?side2 A15.out).mono ?_); (case side1 => exact q10_); (case side2 => exact q3_); rintro e w17 ⟨rfl, hi, hb, hk⟩; replace HO_5 := A_ (Kd.R_mono (Kd.R_keep (IsS72.apart (show IsS72 w _ g347 t344 x348001_1 x348002_1 from q10_) (M.Lr HO_5) (by decide)) hk (fun _ h => h.2)) (fun _ h => h.1)); replace HB := A_ (hb); replace HI347 := A_ (hi); (try clear hb); (try clear hb2); (try clear hk); (try clear hi)))
      go_meet
      case rel => exact ⟨_, (t360), (t361), (t362), q1_, H', ⟨by have := HK1.out; first | omega | exact Nat.le_refl _⟩, ⟨M.Lr HO_5⟩, ⟨q10_⟩, ⟨q3_⟩⟩
     ·rw [if_neg c14] at H
      have c14b0 : decide (0 < (x5_1.length : Int)) = false := decide_eq_false c14
      have c14b1 : decide (0 < x5_1.length) = false := decide_eq_false (by omega)
      clear c14
      (first | rw [c14b0] | (simp only [i64_w, i32_w]; rw [c14b0]) | skip)
      have H' := A_ H
      clear H
      obtain ⟨Ao18, co18, eo18⟩ := Kd.R_slice HO_5.out
      subst eo18
      go_wp2
      go_meet
      case rel => exact ⟨_, (false), (x348001_1), (x348002_1), q1_, H', ⟨by have := HK1.out; first | omega | exact Nat.le_refl _⟩, ⟨M.Lr HO_5⟩, ⟨q10_⟩, ⟨q3_⟩⟩
    case rest =>
     clear HC13; (try clear c1); (try clear c2); (try clear p2); (try clear c5); (try clear p6); (try clear c8); (try clear c8b0); (try clear c10); (try clear c14); (try clear c14b0); (try clear c14b1); (try clear c17); (try clear p2); obtain ⟨kq, x28_12, x348001_12, x348002_12, rfl, HA, HJ12, HO_5, HI347, HB⟩ := hcut
     cases kq with
     | zero => exact absurd HA.out (by simp [spec_DrawTableOfWeights.j1])
     | succ kj12 =>
      have H := HA.out
      clear HA
      simp only [spec_DrawTableOfWeights.j1] at H
      by_cases c19 : x28_12 = true
      ·subst c19
       have H1 : ((spec_l1PickInt.f t344 x348001_12 x348002_12 (([100, 101, (-9223372036854775808)] : List Int))).bind fun bt366 => (if 0 < (x5_1.length : Int) then ((spec_l1PickInt.f t344 bt366.2.1 bt366.2.2 (([0, 1, 2, 3, (-1), 1001, (-9223372036854775808)] : List Int))).bind fun bt373 => (some ((x5_1.set (0 : Int).toNat bt366.1), bt373.1))) else (none))) = some (r1, r2) := by rw [if_pos rfl] at H; exact H
       clear H; have H := H1; clear H1
       obtain ⟨y363, hy363⟩ : ∃ y_ : List Int, y_ = (([100, 101, (-9223372036854775808)] : List Int)) := ⟨_, rfl⟩
       replace H : ((spec_l1PickInt.f t344 x348001_12 x348002_12 y363).bind fun bt366 => (if 0 < (x5_1.length : Int) then ((spec_l1PickInt.f t344 bt366.2.1 bt366.2.2 (([0, 1, 2, 3, (-1), 1001, (-9223372036854775808)] : List Int))).bind fun bt373 => (some ((x5_1.set (0 : Int).toNat bt366.1), bt373.1))) else (none))) = some (r1, r2) := by first | (rw [hy363]; with_reducible exact H) | (have H2_ := (Option.bind_some _ _).symm.trans H; rw [hy363]; with_reducible exact H2_) | (have H2_ := (Option.bind_some _ _).symm.trans H; with_reducible exact H2_) | with_reducible exact H | (rw [hy363]; exact H) | exact H
       have Ny363 := A_ hy363; clear hy363; replace H := Option.bind_eq_some_iff.mp H; obtain ⟨⟨t366, t367, t368⟩, A200, H⟩ := H; (try dsimp only at H); have A20 := A_ A200; clear A200
       by_cases c21 : 0 < (x5_1.length : Int)
       ·rw [if_pos c21] at H
        have c21b0 : decide (0 < (x5_1.length : Int)) = true := decide_eq_true c21
        have c21b1 : decide (0 < x5_1.length) = true := decide_eq_true (by omega)
        clear c21
        obtain ⟨y369, hy369⟩ : ∃ y_ : List Int, y_ = (x5_1.set (0 : Int).toNat t366) := ⟨_, rfl⟩
        replace H : ((spec_l1PickInt.f t344 t367 t368 (([0, 1, 2, 3, (-1), 1001, (-9223372036854775808)] : List Int))).bind fun bt373 => (some (y369, bt373.1))) = some (r1, r2) := by first | (rw [hy369]; with_reducible exact H) | (have H2_ := (Option.bind_some _ _).symm.trans H; rw [hy369]; with_reducible exact H2_) | (have H2_ := (Option.bind_some _ _).symm.trans H; with_reducible exact H2_) | with_reducible exact H | (rw [hy369]; exact H) | exact H
        have Ny369 := A_ hy369; clear hy369
        obtain ⟨y370, hy370⟩ : ∃ y_ : List Int, y_ = (([0, 1, 2, 3, (-1), 1001, (-9223372036854775808)] : List Int)) := ⟨_, rfl⟩
        replace H : ((spec_l1PickInt.f t344 t367 t368 y370).bind fun bt373 => (some (y369, bt373.1))) = some (r1, r2) := by first | (rw [hy370]; with_reducible exact H) | (have H2_ := (Option.bind_some _ _).symm.trans H; rw [hy370]; with_reducible exact H2_) | (have H2_ := (Option.bind_some _ _).symm.trans H; with_reducible exact H2_) | with_reducible exact H | (rw [hy370]; exact H) | exact H
        have Ny370 := A_ hy370; clear hy370; replace H := Option.bind_eq_some_iff.mp H; obtain ⟨⟨t373, t374, t375⟩, A230, H⟩ := H
        replace H : (some (y369, t373)) = some (r1, r2) := H
        have A23 := A_ A230; clear A230
        simp only [Option.some.injEq, Prod.mk.injEq] at H
        obtain ⟨rfl, rfl⟩ := H
        go_wp2_with (first | ((with_reducible refine gate_dst (N := 31) rfl ?_); refine Kd.R_lit (Kd.int .i64) _ 3 ?hg (N := 31) ?hd (xs := ([100, 101, (-9223372036854775808)] : List Int)) (inner := [.int .i64 100, .int .i64 101, .int .i64 (-9223372036854775808)]) (ok := fun _ => True) (okp := fun _ => True) ?hr ?hp (fun _ hk => hk) trivial (Below.refl _ _) (Nat.le_refl _) (by simp) ?_; (case hd => rfl); (case hg => rfl); (case hr => first | (go_simp; done) | (go_simp; rfl)); (case hp => exact (Reps.one (show Kd.M (Kd.int .i64) _ _ _ 100 [.int .i64 100] from rfl) (Reps.one (show Kd.M (Kd.int .i64) _ _ _ 101 [.int .i64 101] from rfl) (Reps.one (show Kd.M (Kd.int .i64) _ _ _ (-9223372036854775808) [.int .i64 (-9223372036854775808)] from rfl) (Reps.none _ _))))); intro v364 w24 ho25 hb hg_ hnew_; clear hg_ hnew_; (first | rw [← Ny363.out] at ho25 | (simp only [Int.reduceToNat] at ho25; rw [← Ny363.out] at ho25)); have HO365 := A_ (Kd.R_lower (Kd.R_new' ho25 (Kd.R_lt (M.Lr HO_5))) (below_size q3_)); replace HO_5 := A_ (Kd.R_elder' (M.Lr HO_5) (Kd.R_base ho25) hb); replace HB := A_ (below_step q3_ hb); replace HI347 := A_ (IsS72.below q10_ hb); clear hb ho25; obtain ⟨Ao26, co26, eo26⟩ := Kd.R_slice HO365.out; subst eo26) | ((with_reducible refine gate_callee (f := 52) rfl ?_); refine goesL_ (some 32) rfl rfl Try.func52 kr_ rfl #[.pointer (some ⟨g347, 0, none⟩), .slice Ao26 y363.length co26] rfl q2_ ?_; (with_reducible refine (spec_l1PickInt.calls g347 t344 x348001_12 x348002_12 _ _ y363 t366 t367 t368 w _ ?side1 ?side2 ?side3 ?side4 ?side5 A20.out).mono ?_); (case side1 => exact q10_); (case side2 => exact q3_); (case side3 => repeat (first | exact (Kd.R_reads' HO365.out).2.2 | (with_reducible refine Kd.C_alloc ?_ _) | (with_reducible refine Kd.C_drewN ?_ _) | (with_reducible refine Kd.C_drew ?_))); (case side4 => exact (Kd.R_reads' HO365.out).2.1); (case side5 => exact far_slice (IsS72.own_ne HI347.out HO365.out (by decide))); rintro e w27 ⟨rfl, hi, hb, hk⟩; refine ⟨_, rfl, ?_⟩; replace HO_5 := A_ (Kd.R_mono (Kd.R_keep (IsS72.apart (show IsS72 w _ g347 t344 x348001_12 x348002_12 from q10_) (M.Lr HO_5) (by decide)) hk (fun _ h => h.2)) (fun _ h => h.1)); replace HO365 := A_ (Kd.R_mono (Kd.R_keep (IsS72.apart (show IsS72 w _ g347 t344 x348001_12 x348002_12 from q10_) (M.Lr HO365) (by decide)) hk (fun _ h => h.2)) (fun _ h => h.1)); replace HB := A_ (hb); replace HI347 := A_ (hi); (try clear hb); (try clear hb2); (try clear hk); (try clear hi); have p22 : 0 ≤ (0 : Int) := (by omega); have q22 : (0 : Int) < ((x5_1.length : Int) : Int) := of_decide_eq_true q5_; have qi22 : (0 < x5_1.length) = True := eq_true (by omega); obtain ⟨go22, co22, eo22, gb22, gl22, cl22, HG22⟩ := Kd.R_form HO_5.out (by omega); (first | cases eo22 | (injection eo22 with ea_ en_ ec_; (first | subst ea_ | (injection ea_ with ea_; subst ea_)); subst ec_; clear en_)); have GB22 := A_ gb22; have GG22 := A_ HG22; clear gb22 gl22 HG22; obtain ⟨hx22_0, hf22_0⟩ := Kd.R_celln 0 HO_5.out (0 : Int) p22 q22; (try rw [show ((0 : Int)).toNat = 0 from rfl] at hx22_0); (try simp only [Nat.reduceMul, Nat.zero_mul, Nat.zero_add, Nat.reduceAdd] at hx22_0); (try rw [show ((0 : Int)).toNat = 0 from rfl] at hf22_0); (try simp only [Nat.reduceMul, Nat.zero_mul, Nat.zero_add, Nat.reduceAdd] at hf22_0); replace p22 := eq_true p22; replace q22 := eq_true q22; have n_ := A_ (Kd.R_mono (ok' := (fun k_ => some k_ ≠ (.slice Ao26 y363.length co26 : Value).ownBlock)) HO_5.out (fun k_ hk => hk.2)); clear HO_5; have HO_5 := n_; clear n_; obtain ⟨hy28_, hz28_⟩ := Kd.R_celln 0 HO_5.out (0 : Int) (by omega) (of_decide_eq_true q5_); (try simp only [Int.reduceToNat, Int.toNat_zero, Int.toNat_ofNat, Nat.reduceMul, Nat.zero_mul, Nat.zero_add] at hy28_ hz28_); (try rw [show ((0 : Int)).toNat = 0 from rfl] at hy28_); (try rw [show ((0 : Int)).toNat = 0 from rfl] at hz28_); have HP28 := Kd.R_putg HO_5.out (0 : Int) t366) | ((with_reducible refine gate_store (t := 3) (p := 33) rfl ?_); refine store_event (t := 3) (p := 33) (v := ?vo_w29) (w1 := (w27.setCell ⟨go22, (0 : Int).toNat, none⟩ (.int .i64 t366))) ?hg ?ho ?hn ?hr ?_; (case ho => rfl); (case hg => rfl); (case hn => rfl); (case hr => first | (go_simp; done) | (go_simp; rfl)); intro w29 hw; have hg : w27.grownBy w29 (some go22) := (by rw [hw]; exact HP28.2); have hp_ : Kd.R (Kd.int .i64) 3 w29 w.heap.size (fun k_ => some k_ ≠ (.slice Ao26 y363.length co26 : Value).ownBlock) (.slice (some ⟨go22, 0, none⟩) x5_1.length co22) y369 := (by rw [hw, Ny369.out]; exact HP28.1); clear HP28; replace HI347 := A_ (IsS72.grown q10_ hg (IsS72.own_ne HI347.out HO_5.out (by decide))); replace HO_5 := A_ (hp_); replace HO365 := A_ (Kd.R_after (v := (.slice (some ⟨go22, 0, none⟩) x5_1.length co22)) (v1 := (.slice (some ⟨go22, 0, none⟩) x5_1.length co22)) (ok := (fun _ => True)) (M.Lr HO365) hg (.inl rfl)); replace HB := A_ ((by rw [hw]; exact below_set (HB.out) GB22.out : Below w.heap.size w w29)); clear hg hw hp_) | ((with_reducible refine gate_dst (N := 36) rfl ?_); refine Kd.R_lit (Kd.int .i64) _ 3 ?hg (N := 36) ?hd (xs := ([0, 1, 2, 3, (-1), 1001, (-9223372036854775808)] : List Int)) (inner := [.int .i64 0, .int .i64 1, .int .i64 2, .int .i64 3, .int .i64 (-1), .int .i64 1001, .int .i64 (-9223372036854775808)]) (ok := fun _ => True) (okp := fun _ => True) ?hr ?hp (fun _ hk => hk) trivial (Below.refl _ _) (Nat.le_refl _) (by simp) ?_; (case hd => rfl); (case hg => rfl); (case hr => first | (go_simp; done) | (go_simp; rfl)); (case hp => exact (Reps.one (show Kd.M (Kd.int .i64) _ _ _ 0 [.int .i64 0] from rfl) (Reps.one (show Kd.M (Kd.int .i64) _ _ _ 1 [.int .i64 1] from rfl) (Reps.one (show Kd.M (Kd.int .i64) _ _ _ 2 [.int .i64 2] from rfl) (Reps.one (show Kd.M (Kd.int .i64) _ _ _ 3 [.int .i64 3] from rfl) (Reps.one (show Kd.M (Kd.int .i64) _ _ _ (-1) [.int .i64 (-1)] from rfl) (Reps.one (show Kd.M (Kd.int .i64) _ _ _ 1001 [.int .i64 1001] from rfl) (Reps.one (show Kd.M (Kd.int .i64) _ _ _ (-9223372036854775808) [.int .i64 (-9223372036854775808)] from rfl) (Reps.none _ _))))))))); intro v371 w30 ho31 hb hg_ hnew_; clear hg_ hnew_; (first | rw [← Ny370.out] at ho31 | (simp only [Int.reduceToNat] at ho31; rw [← Ny370.out] at ho31)); have HO372 := A_ (Kd.R_lower (Kd.R_new' (Kd.R_new' ho31 (Kd.R_lt (M.Lr HO_5))) (Kd.R_lt (M.Lr HO365))) (below_size q3_)); replace HO_5 := A_ (Kd.R_elder' (M.Lr HO_5) (Kd.R_base ho31) hb); replace HO365 := A_ (Kd.R_elder' (M.Lr HO365) (Kd.R_base ho31) hb); replace HB := A_ (below_step q3_ hb); replace HI347 := A_ (IsS72.below q10_ hb); clear hb ho31; obtain ⟨Ao32, co32, eo32⟩ := Kd.R_slice HO372.out; subst eo32) | ((with_reducible refine gate_callee (f := 52) rfl ?_); refine goesL_ (some 37) rfl rfl Try.func52 kr_ rfl #[.pointer (some ⟨g347, 0, none⟩), .slice Ao32 y370.length co32] rfl q2_ ?_; (with_reducible refine (spec_l1PickInt.calls g347 t344 t367 t368 _ _ y370 t373 t374 t375 w _ ?side1 ?side2 ?side3 ?side4 ?side5 A23.out).mono ?_); (case side1 => exact q10_); (case side2 => exact q3_); (case side3 => repeat (first | exact (Kd.R_reads' HO372.out).2.2 | (with_reducible refine Kd.C_alloc ?_ _) | (with_reducible refine Kd.C_drewN ?_ _) | (with_reducible refine Kd.C_drew ?_))); (case side4 => exact (Kd.R_reads' HO372.out).2.1); (case side5 => exact far_slice (IsS72.own_ne HI347.out HO372.out (by decide))); rintro e w33 ⟨rfl, hi, hb, hk⟩; refine ⟨_, rfl, ?_⟩; replace HO_5 := A_ (Kd.R_mono (Kd.R_keep (IsS72.apart (show IsS72 w _ g347 t344 t367 t368 from q10_) (M.Lr HO_5) (by decide)) hk (fun _ h => h.2)) (fun _ h => h.1)); replace HO365 := A_ (Kd.R_mono (Kd.R_keep (IsS72.apart (show IsS72 w _ g347 t344 t367 t368 from q10_) (M.Lr HO365) (by decide)) hk (fun _ h => h.2)) (fun _ h => h.1)); replace HO372 := A_ (Kd.R_mono (Kd.R_keep (IsS72.apart (show IsS72 w _ g347 t344 t367 t368 from q10_) (M.Lr HO372) (by decide)) hk (fun _ h => h.2)) (fun _ h => h.1)); replace HB := A_ (hb); replace HI347 := A_ (hi); (try clear hb); (try clear hb2); (try clear hk); (try clear hi)))
        go_ret2
        exact ⟨_, q7_, by (with_reducible repeat (first | apply Kd.R_alloc | apply Kd.R_drewN | apply Kd.R_drew)); exact Kd.R_mono HO_5.out (fun _ hk => trivial), q3_⟩
       ·rw [if_neg c21] at H
        exact absurd H (by simp)
      ·replace c19 := Bool.eq_false_iff.mpr c19
       subst c19
       have H1 : ((spec_l1PickInt.f t344 x348001_12 x348002_12 (([0, 1, 2, 3, (-1), 1001, (-9223372036854775808)] : List Int))).bind fun bt379 => (some (x5_1, bt379.1))) = some (r1, r2) := by rw [if_neg (show ¬ (false = true) by decide)] at H; exact H
       clear H; have H := H1; clear H1
       obtain ⟨y376, hy376⟩ : ∃ y_ : List Int, y_ = (([0, 1, 2, 3, (-1), 1001, (-9223372036854775808)] : List Int)) := ⟨_, rfl⟩
       replace H : ((spec_l1PickInt.f t344 x348001_12 x348002_12 y376).bind fun bt379 => (some (x5_1, bt379.1))) = some (r1, r2) := by first | (rw [hy376]; with_reducible exact H) | (have H2_ := (Option.bind_some _ _).symm.trans H; rw [hy376]; with_reducible exact H2_) | (have H2_ := (Option.bind_some _ _).symm.trans H; with_reducible exact H2_) | with_reducible exact H | (rw [hy376]; exact H) | exact H
       have Ny376 := A_ hy376; clear hy376; replace H := Option.bind_eq_some_iff.mp H; obtain ⟨⟨t379, t380, t381⟩, A340, H⟩ := H
       replace H : (some (x5_1, t379)) = some (r1, r2) := H
       have A34 := A_ A340; clear A340
       simp only [Option.some.injEq, Prod.mk.injEq] at H
       obtain ⟨rfl, rfl⟩ := H
       go_wp2_with (first | ((with_reducible refine gate_dst (N := 36) rfl ?_); refine Kd.R_lit (Kd.int .i64) _ 3 ?hg (N := 36) ?hd (xs := ([0, 1, 2, 3, (-1), 1001, (-9223372036854775808)] : List Int)) (inner := [.int .i64 0, .int .i64 1, .int .i64 2, .int .i64 3, .int .i64 (-1), .int .i64 1001, .int .i64 (-9223372036854775808)]) (ok := fun _ => True) (okp := fun _ => True) ?hr ?hp (fun _ hk => hk) trivial (Below.refl _ _) (Nat.le_refl _) (by simp) ?_; (case hd => rfl); (case hg => rfl); (case hr => first | (go_simp; done) | (go_simp; rfl)); (case hp => exact (Reps.one (show Kd.M (Kd.int .i64) _ _ _ 0 [.int .i64 0] from rfl) (Reps.one (show Kd.M (Kd.int .i64) _ _ _ 1 [.int .i64 1] from rfl) (Reps.one (show Kd.M (Kd.int .i64) _ _ _ 2 [.int .i64 2] from rfl) (Reps.one (show Kd.M (Kd.int .i64) _ _ _ 3 [.int .i64 3] from rfl) (Reps.one (show Kd.M (Kd.int .i64) _ _ _ (-1) [.int .i64 (-1)] from rfl) (Reps.one (show Kd.M (Kd.int .i64) _ _ _ 1001 [.int .i64 1001] from rfl) (Reps.one (show Kd.M (Kd.int .i64) _ _ _ (-9223372036854775808) [.int .i64 (-9223372036854775808)] from rfl) (Reps.none _ _))))))))); intro v377 w35 ho36 hb hg_ hnew_; clear hg_ hnew_; (first | rw [← Ny376.out] at ho36 | (simp only [Int.reduceToNat] at ho36; rw [← Ny376.out] at ho36)); have HO378 := A_ (Kd.R_lower (Kd.R_new' ho36 (Kd.R_lt (M.Lr HO_5))) (below_size q3_)); replace HO_5 := A_ (Kd.R_elder' (M.Lr HO_5) (Kd.R_base ho36) hb); replace HB := A_ (below_step q3_ hb); replace HI347 := A_ (IsS72.below q10_ hb); clear hb ho36; obtain ⟨Ao37, co37, eo37⟩ := Kd.R_slice HO378.out; subst eo37) | ((with_reducible refine gate_callee (f := 52) rfl ?_); refine goesL_ (some 37) rfl rfl Try.func52 kr_ rfl #[.pointer (some ⟨g347, 0, none⟩), .slice Ao37 y376.length co37] rfl q2_ ?_; (with_reducible refine (spec_l1PickInt.calls g347 t344 x348001_12 x348002_12 _ _ y376 t379 t380 t381 w _ ?side1 ?side2 ?side3 ?side4 ?side5 A34.out).mono ?_); (case side1 => exact q10_); (case side2 => exact q3_); (case side3 => repeat (first | exact (Kd.R_reads' HO378.out).2.2 | (with_reducible refine Kd.C_alloc ?_ _) | (with_reducible refine Kd.C_drewN ?_ _) | (with_reducible refine Kd.C_drew ?_))); (case side4 => exact (Kd.R_reads' HO378.out).2.1); (case side5 => exact far_slice (IsS72.own_ne HI347.out HO378.out (by decide))); rintro e w38 ⟨rfl, hi, hb, hk⟩; refine ⟨_, rfl, ?_⟩; replace HO_5 := A_ (Kd.R_mono (Kd.R_keep (IsS72.apart (show IsS72 w _ g347 t344 x348001_12 x348002_12 from q10_) (M.Lr HO_5) (by decide)) hk (fun _ h => h.2)) (fun _ h => h.1)); replace HO378 := A_ (Kd.R_mono (Kd.R_keep (IsS72.apart (show IsS72 w _ g347 t344 x348001_12 x348002_12 from q10_) (M.Lr HO378) (by decide)) hk (fun _ h => h.2)) (fun _ h => h.1)); replace HB := A_ (hb); replace HI347 := A_ (hi); (try clear hb); (try clear hb2); (try clear hk); (try clear hi)))
       go_ret2
       exact ⟨_, q7_, by (with_reducible repeat (first | apply Kd.R_alloc | apply Kd.R_drewN | apply Kd.R_drew)); exact Kd.R_mono HO_5.out (fun _ hk => trivial), q3_⟩
def spec_DrawIsContradiction.j0 : Nat → List Int → Bool → List Int → Int → Int → Int → Int → Option (Int × Int × List Int)
 | 0, _, _, _, _, _, _, _ => none
 | k + 1, x6, x22, x387000, x387001, x387002, x392000, x392001 => if x22 = true then (some (x392000, x392001, x6)) else ((spec_l1Below.f x387000 x387001 x387002 9).bind fun bt399 => ((spec_l1Below.f x387000 bt399.2.1 bt399.2.2 9).bind fun bt402 => ((spec_l1Below.f x387000 bt402.2.1 bt402.2.2 9).bind fun bt405 => ((spec_l1Below.f x387000 bt405.2.1 bt405.2.2 10).bind fun bt408 => (some (x392000, x392001, (([bt399.1, bt402.1, bt405.1, wrap64 (bt408.1 - 1)] : List Int))))))))
def spec_DrawIsContradiction.f (k : Nat) (l0 : List Int) : Option (Int × Int × List Int) := (spec_l1New.f k l0).bind fun bt383 => ((spec_l2Any.f k bt383.1 bt383.2.1 bt383.2.2).bind fun bt387 => ((spec_Contradiction.f k bt387.1 bt387.2.1).bind fun bt392 => (if bt392.2 = true then ((spec_l1Once.f bt383.1 bt387.2.2.1 bt387.2.2.2 3).bind fun bt396 => (spec_DrawIsContradiction.j0 k bt392.1 (!bt396.1) bt383.1 bt396.2.1 bt396.2.2 bt387.1 bt387.2.1)) else (spec_DrawIsContradiction.j0 k bt392.1 false bt383.1 bt387.2.2.1 bt387.2.2.2 bt387.1 bt387.2.1))))
def spec_DrawIsContradiction.T6 : Bool × List (List Nat × List Nat) := (true, [([], []), ([], []), ([1], [1]), ([], []), ([3, 2], [3]), ([], []), ([5, 4], [5]), ([], []), ([7, 6], [7]), ([8], [8]), ([2, 4, 6, 9], [2, 4, 6, 9]), ([0, 8, 0], [0]), ([10, 11, 0, 1, 2, 3, 4, 5, 6, 7, 8, 9, 10, 11], [10])])
def spec_DrawIsContradiction.B6 : List Nat := [0, 0, 2, 0, 14, 0, 62, 0, 254, 510, 1022, 511, 4095]
theorem spec_DrawIsContradiction.tab6 : rtab .any (opsOf Try.f19 6) = spec_DrawIsContradiction.T6 := by kernel_rfl
theorem spec_DrawIsContradiction.bits6 : waitsOk spec_DrawIsContradiction.T6.2 spec_DrawIsContradiction.B6 = true := by kernel_rfl
theorem spec_DrawIsContradiction.calls (k : Nat) (A0 : Option Addr) (c0 : Nat) (l0 : List Int) (r1 : Int) (r2 : Int) (r3 : List Int) (w : World) (hr0 : Kd.C (Kd.int .u8) w A0 l0.length l0) (hc0 : l0.length ≤ c0) (h : spec_DrawIsContradiction.f k l0 = some (r1, r2, r3)) :
  Calls Try.prog 19 #[.slice A0 l0.length c0] w fun e w' => ∃ v2_ : Value, e = .returned (.tuple #[.agg #[.int .i64 r1, .int .i64 r2], v2_]) ∧ Kd.R (Kd.int .i64) 3 w' w.heap.size (fun _ => True) v2_ r3 ∧ Below w.heap.size w w' := by
 have hu25 := Try.underlying25
 have HR0 := A_ hr0; have HC0 := A_ hc0; clear hr0 hc0
 have HB := A_ (Below.refl w.heap.size w)
 have H : ((spec_l1New.f k l0).bind fun bt383 => ((spec_l2Any.f k bt383.1 bt383.2.1 bt383.2.2).bind fun bt387 => ((spec_Contradiction.f k bt387.1 bt387.2.1).bind fun bt392 => (if bt392.2 = true then ((spec_l1Once.f bt383.1 bt387.2.2.1 bt387.2.2.2 3).bind fun bt396 => (spec_DrawIsContradiction.j0 k bt392.1 (!bt396.1) bt383.1 bt396.2.1 bt396.2.2 bt387.1 bt387.2.1)) else (spec_DrawIsContradiction.j0 k bt392.1 false bt383.1 bt387.2.2.1 bt387.2.2.2 bt387.1 bt387.2.1))))) = some (r1, r2, r3) := h
 clear h; replace H := Option.bind_eq_some_iff.mp H; obtain ⟨⟨t383, t384, t385⟩, A20, H⟩ := H; (try dsimp only at H); have A2 := A_ A20; clear A20; replace H := Option.bind_eq_some_iff.mp H; obtain ⟨⟨t387, t388, t389, t390⟩, A30, H⟩ := H; (try dsimp only at H); have A3 := A_ A30; clear A30; replace H := Option.bind_eq_some_iff.mp H; obtain ⟨⟨t392, t395⟩, A40, H⟩ := H; (try dsimp only at H); have A4 := A_ A40; clear A40; have HC5 := A_ H; clear H
 go_enter Try.func19, Try.ntmps19
 go_upto_region 4 with (first | ((with_reducible refine gate_dst (N := 2) rfl ?_); refine box_event ?hg (N := 2) ?hd (cs := #[.int .i64 0, .int .i64 0]) (t := 25) ?hr ?_; (case hd => rfl); (case hg => rfl); (case hr => first | (go_simp; done) | (go_simp; rfl)); intro gb382 hg w6 hbox hb; have BK382 := A_ (hbox); have GW382 := A_ ((by rw [hg]; exact (below_size q0_) : w.heap.size ≤ gb382)); have GE382 := A_ ((by rw [hg]; exact (below_size q0_) : w.heap.size ≤ gb382)); replace HB := A_ (below_step q0_ hb); clear hb hbox hg) | ((with_reducible refine gate_callee (f := 29) rfl ?_); refine goesL_ (some 9) rfl rfl Try.func29 kr_ rfl #[.slice A0 l0.length c0] rfl q2_ ?_; (with_reducible refine (spec_l1New.calls k _ _ l0 t383 t384 t385 w _ ?side1 ?side2 ?side3 A2.out).mono ?_); (case side1 => exact q0_); (case side2 => exact HR0.out); (case side3 => exact HC0.out); rintro e w7 ⟨g386, rfl, hi, hb, hb2⟩; refine ⟨_, rfl, ?_⟩; replace HB := A_ (hb); have HI386 := A_ (hi); have NB386_382 := A_ (IsS72.ne_blk hi (blk_below (M.Lb BK382) hb2) (by decide)); have NB382_386 := A_ (Ne.symm (IsS72.ne_blk hi (blk_below (M.Lb BK382) hb2) (by decide))); replace BK382 := A_ (blk_below (M.Lb BK382) hb2); (try clear hb); (try clear hb2); (try clear hk); (try clear hi)) | ((with_reducible refine gate_callee (f := 54) rfl ?_); refine goesL_ (some 11) rfl rfl Try.func54 kr_ rfl #[.pointer (some ⟨g386, 0, none⟩)] rfl q2_ ?_; (with_reducible refine (spec_l2Any.calls k g386 t383 t384 t385 t387 t388 t389 t390 w _ ?side1 ?side2 A3.out).mono ?_); (case side1 => exact q11_); (case side2 => exact q3_); rintro e w8 ⟨rfl, hi, hb, hk⟩; refine ⟨_, rfl, ?_⟩; replace BK382 := A_ (KeepBut.blk hk (g' := gb382) (o := .cells #[.int .i64 0, .int .i64 0] 25 (0, 0)) (M.Lb BK382) NB382_386.out (by simp)); replace HB := A_ (hb); replace HI386 := A_ (hi); (try clear hb); (try clear hb2); (try clear hk); (try clear hi)) | ((with_reducible refine gate_dst (N := 5) rfl ?_); refine box_event ?hg (N := 5) ?hd (cs := #[.int .i64 0, .int .i64 0]) (t := 25) ?hr ?_; (case hd => rfl); (case hg => rfl); (case hr => first | (go_simp; done) | (go_simp; rfl)); intro gb391 hg w9 hbox hb; have BK391 := A_ (hbox); have GW391 := A_ ((by rw [hg]; exact (below_size q3_) : w.heap.size ≤ gb391)); have GE391 := A_ ((by rw [hg]; exact (below_size q3_) : w.heap.size ≤ gb391)); replace HB := A_ (below_step q3_ hb); have NB382_391 := A_ ((by rw [hg]; exact Nat.ne_of_lt (blk_lt (M.Lb BK382)) : gb382 ≠ gb391)); have NB391_382 := A_ ((by rw [hg]; exact Nat.ne_of_gt (blk_lt (M.Lb BK382)) : gb391 ≠ gb382)); replace BK382 := A_ (blk_below (M.Lb BK382) hb); have NB386_391 := A_ ((by rw [hg]; exact Nat.ne_of_lt (IsS72.lt (show IsS72 w _ g386 t383 t389 t390 from q11_)) : g386 ≠ gb391)); have NB391_386 := A_ ((by rw [hg]; exact Nat.ne_of_gt (IsS72.lt (show IsS72 w _ g386 t383 t389 t390 from q11_)) : gb391 ≠ g386)); replace HI386 := A_ (IsS72.below q11_ hb); clear hb hbox hg; have hnb10 := NB391_382.out; have hnc10 := NB382_391.out; have hnb11 := NB391_386.out; have hnc11 := NB386_391.out; have hcz12_0 := c20_ BK391; have hcz12_1 := c21_ BK391; have hfz12_0 := blk_frozen BK391.out 0; have hfz12_1 := blk_frozen BK391.out 1) | ((with_reducible refine gate_callee (f := 9) rfl ?_); refine goesL_ (some 14) rfl rfl Try.func9 kr_ rfl #[.agg #[.int .i64 t387, .int .i64 t388]] rfl q2_ ?_; (with_reducible refine (spec_Contradiction.calls k t387 t388 t392 t395 _ A4.out).mono ?_); rintro e w13 ⟨v393, rfl, ho0, hb⟩; refine ⟨_, rfl, ?_⟩; have HO394 := A_ (Kd.R_lower ho0 (below_size q3_)); replace BK382 := A_ (blk_below (g := gb382) (o := .cells #[.int .i64 0, .int .i64 0] 25 (0, 0)) (by (with_reducible repeat (first | refine blk_drewN ?_ _ | refine blk_drew ?_ | refine blk_alloc ?_ _)); refine blk_far ?_ NB382_391.out _; (with_reducible repeat (first | refine blk_drewN ?_ _ | refine blk_drew ?_ | refine blk_alloc ?_ _)); refine blk_far ?_ NB382_391.out _; (with_reducible repeat (first | refine blk_drewN ?_ _ | refine blk_drew ?_ | refine blk_alloc ?_ _)); exact BK382.out) hb); replace BK391 := A_ (blk_below (g := gb391) (o := .cells #[.int .i64 t387, .int .i64 t388] 25 (0, 0)) (by (with_reducible repeat (first | refine blk_drewN ?_ _ | refine blk_drew ?_ | refine blk_alloc ?_ _)); refine blk_put (cs := #[.int .i64 t387, .int .i64 0]) ?_ 1 _ rfl; (with_reducible repeat (first | refine blk_drewN ?_ _ | refine blk_drew ?_ | refine blk_alloc ?_ _)); refine blk_put (cs := #[.int .i64 0, .int .i64 0]) ?_ 0 _ rfl; (with_reducible repeat (first | refine blk_drewN ?_ _ | refine blk_drew ?_ | refine blk_alloc ?_ _)); exact BK391.out) hb); replace HB := A_ (below_step q3_ hb); replace HI386 := A_ (IsS72.below (show IsS72 w ((w9.setCell ⟨gb391, 0, none⟩ (.int .i64 t387)).setCell ⟨gb391, 1, none⟩ (.int .i64 t388)) g386 t383 t389 t390 from q11_) hb); (try clear hb); (try clear hb2); (try clear hk); (try clear hi); (try clear ho0)))
 (try simp only [Act.put, List.setIfInBounds_toArray, List.set_cons_zero, List.set_cons_succ])
 go_cut [22] (fun v22 wc => ∃ (kq : Nat) (x22_4 : Bool) (x387001_4 : Int) (x387002_4 : Int), v22 = .bool x22_4 ∧ Aside0 (spec_DrawIsContradiction.j0 kq t392 x22_4 t383 x387001_4 x387002_4 t387 t388 = some (r1, r2, r3)) ∧ Aside0 (kq ≤ k) ∧ Aside0 (Kd.R (Kd.int .i64) 3 wc w.heap.size (fun _ => True) v393 t392) ∧ Aside0 (wc.heap[gb382]? = some (.cells #[.int .i64 0, .int .i64 0] 25 (0, 0))) ∧ Aside0 (wc.heap[gb391]? = some (.cells #[.int .i64 t387, .int .i64 t388] 25 (0, 0))) ∧ Aside0 (IsS72 w wc g386 t383 x387001_4 x387002_4) ∧ Aside0 (Below w.heap.size w wc))
 case first =>
  have H := HC5.out
  clear HC5
  by_cases c14 : t395 = true
  ·subst c14
   have H1 : ((spec_l1Once.f t383 t389 t390 3).bind fun bt396 => (spec_DrawIsContradiction.j0 k t392 (!bt396.1) t383 bt396.2.1 bt396.2.2 t387 t388)) = some (r1, r2, r3) := by rw [if_pos rfl] at H; exact H
   clear H; have H := H1; clear H1; replace H := Option.bind_eq_some_iff.mp H; obtain ⟨⟨t396, t397, t398⟩, A150, H⟩ := H
   replace H : (spec_DrawIsContradiction.j0 k t392 (!t396) t383 t397 t398 t387 t388) = some (r1, r2, r3) := H
   have A15 := A_ A150; clear A150
   have H' := A_ H
   clear H
   go_wp2_with (first | (go_at_call 51; (with_reducible refine (spec_l1Once.calls g386 t383 t389 t390 3 t396 t397 t398 w _ ?side1 ?side2 A15.out).mono ?_); (case side1 => exact q11_); (case side2 => exact q3_); rintro e w16 ⟨rfl, hi, hb, hk⟩; replace BK382 := A_ (KeepBut.blk hk (g' := gb382) (o := .cells #[.int .i64 0, .int .i64 0] 25 (0, 0)) (M.Lb BK382) NB382_386.out (by simp)); replace BK391 := A_ (KeepBut.blk hk (g' := gb391) (o := .cells #[.int .i64 t387, .int .i64 t388] 25 (0, 0)) (M.Lb BK391) NB391_386.out (by simp)); replace HO394 := A_ (Kd.R_mono (Kd.R_keep (IsS72.apart (show IsS72 w _ g386 t383 t389 t390 from q11_) (M.Lr HO394) (by decide)) hk (fun _ h => h.2)) (fun _ h => h.1)); replace HB := A_ (hb); replace HI386 := A_ (hi); (try clear hb); (try clear hb2); (try clear hk); (try clear hi)))
   go_meet
   case rel => exact ⟨_, (!t396), (t397), (t398), q1_, H', ⟨by first | omega | exact Nat.le_refl _⟩, ⟨M.Lr HO394⟩, ⟨M.Lb BK382⟩, ⟨M.Lb BK391⟩, ⟨q11_⟩, ⟨q3_⟩⟩
  ·replace c14 := Bool.eq_false_iff.mpr c14
   subst c14
   have H1 : (spec_DrawIsContradiction.j0 k t392 false t383 t389 t390 t387 t388) = some (r1, r2, r3) := by rw [if_neg (show ¬ (false = true) by decide)] at H; exact H
   clear H; have H := H1; clear H1
   have H' := A_ H
   clear H
   go_wp2
   go_meet
   case rel => exact ⟨_, (false), (t389), (t390), q1_, H', ⟨by first | omega | exact Nat.le_refl _⟩, ⟨M.Lr HO394⟩, ⟨M.Lb BK382⟩, ⟨M.Lb BK391⟩, ⟨q11_⟩, ⟨q3_⟩⟩
 case rest =>
  clear HC5; (try clear c1); (try clear c2); (try clear p2); (try clear c5); (try clear c9); (try clear c10); (try clear c11); (try clear c14); (try clear hcz12_0); (try clear hcz12_1); (try clear hfz12_0); (try clear hfz12_1); obtain ⟨kq, x22_4, x387001_4, x387002_4, rfl, HA, HJ4, HO_6, BK382, BK391, HI386, HB⟩ := hcut
  cases kq with
  | zero => exact absurd HA.out (by simp [spec_DrawIsContradiction.j0])
  | succ kj4 =>
   have H := HA.out
   clear HA
   simp only [spec_DrawIsContradiction.j0] at H
   by_cases c17 : x22_4 = true
   ·subst c17
    have H1 : (some (t387, t388, t392)) = some (r1, r2, r3) := by rw [if_pos rfl] at H; exact H
    clear H; have H := H1; clear H1
    simp only [Option.some.injEq, Prod.mk.injEq] at H
    obtain ⟨rfl, rfl, rfl⟩ := H
    have hnb18 := NB391_382.out
    have hnc18 := NB382_391.out
    have hnb19 := NB391_386.out
    have hnc19 := NB386_391.out
    have hcz20_0 := c20_ BK391
    have hcz20_1 := c21_ BK391
    have hfz20_0 := blk_frozen BK391.out 0
    have hfz20_1 := blk_frozen BK391.out 1
    have hnb21 := NB382_386.out
    have hnc21 := NB386_382.out
    have hcz22_0 := c20_ BK382
    have hcz22_1 := c21_ BK382
    have hfz22_0 := blk_frozen BK382.out 0
    have hfz22_1 := blk_frozen BK382.out 1
    go_wp2
    refine bodyPost_ret (results_ct rfl _ _ gb382 25 #[.int .i64 t387, .int .i64 t388] (0, 0) _ rfl (by (with_reducible repeat (first | refine blk_drewN ?_ _ | refine blk_drew ?_ | refine blk_alloc ?_ _)); refine blk_put (cs := #[.int .i64 t387, .int .i64 0]) ?_ 1 _ rfl; (with_reducible repeat (first | refine blk_drewN ?_ _ | refine blk_drew ?_ | refine blk_alloc ?_ _)); refine blk_put (cs := #[.int .i64 0, .int .i64 0]) ?_ 0 _ rfl; (with_reducible repeat (first | refine blk_drewN ?_ _ | refine blk_drew ?_ | refine blk_alloc ?_ _)); exact BK382.out) Try.underlying25 rfl kr_) rfl ?_
    exact ⟨_, q7_, by (with_reducible repeat (first | apply Kd.R_alloc | apply Kd.R_drewN | apply Kd.R_drew)); exact Kd.R_mono (Kd.R_far (p := ⟨gb382, 1, none⟩) (Kd.R_far (p := ⟨gb382, 0, none⟩) (Kd.R_types HO_6.out BK382.out (by decide)) (fun _ hk => hk.2) (.int .i64 t387)) (fun _ hk => hk.2) (.int .i64 t388)) (fun _ hk => trivial), q3_⟩
   ·replace c17 := Bool.eq_false_iff.mpr c17
    subst c17
    have H1 : ((spec_l1Below.f t383 x387001_4 x387002_4 9).bind fun bt399 => ((spec_l1Below.f t383 bt399.2.1 bt399.2.2 9).bind fun bt402 => ((spec_l1Below.f t383 bt402.2.1 bt402.2.2 9).bind fun bt405 => ((spec_l1Below.f t383 bt405.2.1 bt405.2.2 10).bind fun bt408 => (some (t387, t388, (([bt399.1, bt402.1, bt405.1, wrap64 (bt408.1 - 1)] : List Int)))))))) = some (r1, r2, r3) := by rw [if_neg (show ¬ (false = true) by decide)] at H; exact H
    clear H; have H := H1; clear H1; replace H := Option.bind_eq_some_iff.mp H; obtain ⟨⟨t399, t400, t401⟩, A230, H⟩ := H; (try dsimp only at H); have A23 := A_ A230; clear A230; replace H := Option.bind_eq_some_iff.mp H; obtain ⟨⟨t402, t403, t404⟩, A240, H⟩ := H; (try dsimp only at H); have A24 := A_ A240; clear A240; replace H := Option.bind_eq_some_iff.mp H; obtain ⟨⟨t405, t406, t407⟩, A250, H⟩ := H; (try dsimp only at H); have A25 := A_ A250; clear A250; replace H := Option.bind_eq_some_iff.mp H; obtain ⟨⟨t408, t409, t410⟩, A260, H⟩ := H
    replace H : (some (t387, t388, (([t399, t402, t405, wrap64 (t408 - 1)] : List Int)))) = some (r1, r2, r3) := H
    have A26 := A_ A260; clear A260
    obtain ⟨y411, hy411⟩ : ∃ y_ : List Int, y_ = (([t399, t402, t405, wrap64 (t408 - 1)] : List Int)) := ⟨_, rfl⟩
    replace H : (some (t387, t388, y411)) = some (r1, r2, r3) := by first | (rw [hy411]; with_reducible exact H) | (have H2_ := (Option.bind_some _ _).symm.trans H; rw [hy411]; with_reducible exact H2_) | (have H2_ := (Option.bind_some _ _).symm.trans H; with_reducible exact H2_) | with_reducible exact H | (rw [hy411]; exact H) | exact H
    have Ny411 := A_ hy411; clear hy411
    simp only [Option.some.injEq, Prod.mk.injEq] at H
    obtain ⟨rfl, rfl, rfl⟩ := H
    try go_wp2
    have n0_ := A_ (Kd.R_drew HO_6.out)
    have n1_ := A_ (blk_drew BK382.out)
    have n2_ := A_ (blk_drew BK391.out)
    have n3_ := A_ (IsS72.drew HI386.out)
    have n4_ := A_ (below_drew1 HB.out)
    clear HO_6; clear BK382; clear BK391; clear HI386; clear HB; have HO_6 := n0_; have BK382 := n1_; have BK391 := n2_; have HI386 := n3_; have HB := n4_; clear n0_ n1_ n2_ n3_ n4_
    refine start_ (n := 13) (S := fun w' => True) (ds := []) #[false, false, false, false, false, false, false, false, false, false, false, false, false] kr_ rfl rfl trivial (fun hHeld => ?_); refine with_tabW spec_DrawIsContradiction.tab6 spec_DrawIsContradiction.bits6 (fun HT_ HW_ => ?_)
    generalize wc.drew = w27 at HO_6 BK382 BK391 HI386 HB hHeld ⊢
    refine pure_ (i := 1) (N := some 26) (v := ?_) (a' := ?_) #[false, true, false, false, false, false, false, false, false, false, false, false, false] rfl rfl (any_of HT_.out kr_) (fun _ _ _ h => h) (Or.inl ⟨by rfl, ?_⟩) ?_ ?_; rotate_left
    ·intro w'; go_simp; with_reducible rfl
    rotate_left
    ·simp only [Act.put, sT_, s0_, s1_, i64_w, i32_w]; rfl
    refine pure_ (i := 3) (N := some 28) (v := ?_) (a' := ?_) #[false, true, false, true, false, false, false, false, false, false, false, false, false] rfl rfl (any_of HT_.out kr_) (fun _ _ _ h => h) (Or.inl ⟨by rfl, ?_⟩) ?_ ?_; rotate_left
    ·intro w'; go_simp; with_reducible rfl
    rotate_left
    ·simp only [Act.put, sT_, s0_, s1_, i64_w, i32_w]; rfl
    refine pure_ (i := 5) (N := some 30) (v := ?_) (a' := ?_) #[false, true, false, true, false, true, false, false, false, false, false, false, false] rfl rfl (any_of HT_.out kr_) (fun _ _ _ h => h) (Or.inl ⟨by rfl, ?_⟩) ?_ ?_; rotate_left
    ·intro w'; go_simp; with_reducible rfl
    rotate_left
    ·simp only [Act.put, sT_, s0_, s1_, i64_w, i32_w]; rfl
    refine pure_ (i := 7) (N := some 32) (v := ?_) (a' := ?_) #[false, true, false, true, false, true, false, true, false, false, false, false, false] rfl rfl (any_of HT_.out kr_) (fun _ _ _ h => h) (Or.inl ⟨by rfl, ?_⟩) ?_ ?_; rotate_left
    ·intro w'; go_simp; with_reducible rfl
    rotate_left
    ·simp only [Act.put, sT_, s0_, s1_, i64_w, i32_w]; rfl
    refine inv_at [0, 2, 4, 6, 8, 9, 10, 11, 12] (fun a0_ b a w' => ∃ (v412 : Value) (m12_ : Value), a = putSel a0_ b [(0, 25, .agg #[.int .i64 t387, .int .i64 t388]), (2, 27, .int .i64 t399), (4, 29, .int .i64 t402), (6, 31, .int .i64 t405), (8, 33, .int .i64 t408), (9, 34, .int .i64 (wrap64 (t408 - 1))), (10, 35, v412), (12, 3, m12_)] ∧ (Kd.R (Kd.int .i64) 3 w' w.heap.size (fun _ => True) v393 t392) ∧ (b 11 = false → w'.heap[gb382]? = some (.cells #[.int .i64 0, .int .i64 0] 25 (0, 0))) ∧ (w'.heap[gb391]? = some (.cells #[.int .i64 t387, .int .i64 t388] 25 (0, 0))) ∧ (b 2 = false → IsS72 w w' g386 t383 x387001_4 x387002_4) ∧ (Below w.heap.size w w') ∧ (b 2 = true → b 4 = false → IsS72 w w' g386 t383 t400 t401) ∧ (b 4 = true → b 6 = false → IsS72 w w' g386 t383 t403 t404) ∧ (b 6 = true → b 8 = false → IsS72 w w' g386 t383 t406 t407) ∧ (b 8 = true → IsS72 w w' g386 t383 t409 t410) ∧ (b 10 = true → Kd.R (Kd.int .i64) 3 w' w.heap.size (fun k_ => some k_ ≠ (v393 : Value).ownBlock) v412 y411) ∧ (b 11 = true → w'.heap[gb382]? = some (.cells #[.int .i64 t387, .int .i64 t388] 25 (0, 0))) ∧ (b 12 = true → (m12_ : Value) = v412)) HT_.out HW_.out kr_ kr_ ?_ ?_ ?_
    ·exact ⟨.bool false, .bool false, by simp only [putSel, Bool.false_eq_true, if_false], HO_6.out, fun _ => BK382.out, BK391.out, fun _ => HI386.out, HB.out, fun h_ => absurd h_ (by decide), fun h_ => absurd h_ (by decide), fun h_ => absurd h_ (by decide), fun h_ => absurd h_ (by decide), fun h_ => absurd h_ (by decide), fun h_ => absurd h_ (by decide), fun h_ => absurd h_ (by decide)⟩
    ·skip
     clear BK382 BK391 HB HI386 HO_6
     refine steps_cons ?_ ?_
     ·rintro b a w' ⟨v412, m12_, ha, Q_HO_6, Q_BK382, Q_BK391, Q_HI386, Q_HB, Q_HI386_e2, Q_HI386_e4, Q_HI386_e6, Q_HI386_e8, Q_HO413, Q_BK382_e11, Q_X12_⟩ hb_ hon hoff
      refine ⟨_, rfl, fun K hK => ?_⟩
      have e5 : a.tmps[5]? = some (.pointer (some ⟨gb391, 0, none⟩)) := by rw [ha]; exact (putSel_off rfl).trans rfl
      replace ha := A_ ha
      have HO_6 := A_ Q_HO_6
      have BK382 := A_ (Q_BK382 (hoff 11 kr_))
      have BK391 := A_ Q_BK391; have HB := A_ Q_HB
      have hc0_ : w'.cell? ⟨gb391, 0, none⟩ = some (.int .i64 t387) := (blk_cell BK391.out 0).trans rfl
      have hc1_ : w'.cell? ⟨gb391, 1, none⟩ = some (.int .i64 t388) := (blk_cell BK391.out 1).trans rfl
      refine value_ (w1 := w') (v := .agg #[.int .i64 t387, .int .i64 t388]) (by rfl) rfl ?_ ?_
      ·go_simp
       (try simp only [i64_w])
       try rfl
      refine hK.out _ _ ⟨v412, m12_, (by rw [ha.out]; exact putSel_upk 0 hb_ rfl rfl rfl), Q_HO_6, Q_BK382, Q_BK391, Q_HI386, Q_HB, Q_HI386_e2, Q_HI386_e4, Q_HI386_e6, Q_HI386_e8, Q_HO413, fun h0_ => absurd ((hoff 11 kr_).symm.trans h0_) (by decide), fun h0_ => absurd ((hoff 12 kr_).symm.trans h0_) (by decide)⟩
     refine steps_cons ?_ ?_
     ·rintro b a w' ⟨v412, m12_, ha, Q_HO_6, Q_BK382, Q_BK391, Q_HI386, Q_HB, Q_HI386_e2, Q_HI386_e4, Q_HI386_e6, Q_HI386_e8, Q_HO413, Q_BK382_e11, Q_X12_⟩ hb_ hon hoff
      refine ⟨_, rfl, fun K hK => ?_⟩
      have e26 : a.tmps[26]? = some (.pointer (some ⟨g386, 0, none⟩)) := by rw [ha]; exact (putSel_off rfl).trans rfl
      replace ha := A_ ha
      have HO_6 := A_ Q_HO_6
      have BK382 := A_ (Q_BK382 (hoff 11 kr_))
      have BK391 := A_ Q_BK391
      have HI386 := A_ (Q_HI386 hb_)
      have HB := A_ Q_HB
      refine goes_ Try.func50 kr_ rfl #[.pointer (some ⟨g386, 0, none⟩), .int .i64 9] (by rfl) rfl rfl (by first | (simp only [List.map_toArray, List.map_cons, List.map_nil, Act.eval, Array.getD_eq_getD_getElem?, Option.getD_some, e26]; done) | (simp only [List.map_toArray, List.map_cons, List.map_nil, Act.eval, Array.getD_eq_getD_getElem?, Option.getD_some, e26]; rfl)) ?_
      with_reducible refine (spec_l1Below.calls g386 t383 x387001_4 x387002_4 9 t399 t400 t401 w _ ?side1 ?side2 A23.out).mono ?_
      (case side1 => exact q11_)
      (case side2 => exact q3_)
      rintro e w28 ⟨rfl, hi, hb, hk⟩
      refine ⟨_, rfl, ?_⟩
      have n0_ := A_ (Kd.R_mono (Kd.R_keep (IsS72.apart (show IsS72 w _ g386 t383 x387001_4 x387002_4 from q11_) (M.Lr HO_6) (by decide)) hk (fun _ h => h.2)) (fun _ h => h.1))
      have n1_ := A_ (KeepBut.blk hk (g' := gb382) (o := .cells #[.int .i64 0, .int .i64 0] 25 (0, 0)) (M.Lb BK382) NB382_386.out (by simp))
      have n2_ := A_ (KeepBut.blk hk (g' := gb391) (o := .cells #[.int .i64 t387, .int .i64 t388] 25 (0, 0)) (M.Lb BK391) NB391_386.out (by simp))
      have n3_ := A_ (hb); have n4_ := A_ (hi); clear HO_6; clear BK382; clear BK391; clear HB; clear HI386; have HO_6 := n0_; have BK382 := n1_; have BK391 := n2_; have HB := n3_; have HI386 := n4_; clear n0_ n1_ n2_ n3_ n4_; (try clear hb); (try clear hb2); (try clear hk); (try clear hi)
      refine hK.out _ _ ⟨v412, m12_, (by rw [ha.out]; exact putSel_upk 1 hb_ rfl rfl rfl), (M.Lr HO_6), fun _ => (M.Lb BK382), (M.Lb BK391), fun h0_ => absurd ((up_self b 2).symm.trans h0_) (by decide), q3_, fun _ _ => q11_, fun h0_ _ => absurd ((hoff 4 kr_).symm.trans h0_) (by decide), fun h0_ _ => absurd ((hoff 6 kr_).symm.trans h0_) (by decide), fun h0_ => absurd ((hoff 8 kr_).symm.trans h0_) (by decide), fun h0_ => absurd ((hoff 10 kr_).symm.trans h0_) (by decide), fun h0_ => absurd ((hoff 11 kr_).symm.trans h0_) (by decide), fun h0_ => absurd ((hoff 12 kr_).symm.trans h0_) (by decide)⟩
     refine steps_cons ?_ ?_
     ·rintro b a w' ⟨v412, m12_, ha, Q_HO_6, Q_BK382, Q_BK391, Q_HI386, Q_HB, Q_HI386_e2, Q_HI386_e4, Q_HI386_e6, Q_HI386_e8, Q_HO413, Q_BK382_e11, Q_X12_⟩ hb_ hon hoff
      refine ⟨_, rfl, fun K hK => ?_⟩
      have e28 : a.tmps[28]? = some (.pointer (some ⟨g386, 0, none⟩)) := by rw [ha]; exact (putSel_off rfl).trans rfl
      replace ha := A_ ha
      have HO_6 := A_ Q_HO_6
      have BK382 := A_ (Q_BK382 (hoff 11 kr_))
      have BK391 := A_ Q_BK391; have HB := A_ Q_HB
      have HI386 := A_ (Q_HI386_e2 (hon 2 kr_) hb_)
      refine goes_ Try.func50 kr_ rfl #[.pointer (some ⟨g386, 0, none⟩), .int .i64 9] (by rfl) rfl rfl (by first | (simp only [List.map_toArray, List.map_cons, List.map_nil, Act.eval, Array.getD_eq_getD_getElem?, Option.getD_some, e28]; done) | (simp only [List.map_toArray, List.map_cons, List.map_nil, Act.eval, Array.getD_eq_getD_getElem?, Option.getD_some, e28]; rfl)) ?_
      with_reducible refine (spec_l1Below.calls g386 t383 t400 t401 9 t402 t403 t404 w _ ?side1 ?side2 A24.out).mono ?_
      (case side1 => exact q11_)
      (case side2 => exact q3_)
      rintro e w30 ⟨rfl, hi, hb, hk⟩
      refine ⟨_, rfl, ?_⟩
      have n0_ := A_ (Kd.R_mono (Kd.R_keep (IsS72.apart (show IsS72 w _ g386 t383 t400 t401 from q11_) (M.Lr HO_6) (by decide)) hk (fun _ h => h.2)) (fun _ h => h.1))
      have n1_ := A_ (KeepBut.blk hk (g' := gb382) (o := .cells #[.int .i64 0, .int .i64 0] 25 (0, 0)) (M.Lb BK382) NB382_386.out (by simp))
      have n2_ := A_ (KeepBut.blk hk (g' := gb391) (o := .cells #[.int .i64 t387, .int .i64 t388] 25 (0, 0)) (M.Lb BK391) NB391_386.out (by simp))
      have n3_ := A_ (hb); have n4_ := A_ (hi); clear HO_6; clear BK382; clear BK391; clear HB; clear HI386; have HO_6 := n0_; have BK382 := n1_; have BK391 := n2_; have HB := n3_; have HI386 := n4_; clear n0_ n1_ n2_ n3_ n4_; (try clear hb); (try clear hb2); (try clear hk); (try clear hi)
      refine hK.out _ _ ⟨v412, m12_, (by rw [ha.out]; exact putSel_upk 2 hb_ rfl rfl rfl), (M.Lr HO_6), fun _ => (M.Lb BK382), (M.Lb BK391), fun h0_ => absurd ((hon 2 kr_).symm.trans h0_) (by decide), q3_, fun _ h1_ => absurd ((up_self b 4).symm.trans h1_) (by decide), fun _ _ => q11_, fun h0_ _ => absurd ((hoff 6 kr_).symm.trans h0_) (by decide), fun h0_ => absurd ((hoff 8 kr_).symm.trans h0_) (by decide), fun h0_ => absurd ((hoff 10 kr_).symm.trans h0_) (by decide), fun h0_ => absurd ((hoff 11 kr_).symm.trans h0_) (by decide), fun h0_ => absurd ((hoff 12 kr_).symm.trans h0_) (by decide)⟩
     refine steps_cons ?_ ?_
     ·rintro b a w' ⟨v412, m12_, ha, Q_HO_6, Q_BK382, Q_BK391, Q_HI386, Q_HB, Q_HI386_e2, Q_HI386_e4, Q_HI386_e6, Q_HI386_e8, Q_HO413, Q_BK382_e11, Q_X12_⟩ hb_ hon hoff
      refine ⟨_, rfl, fun K hK => ?_⟩
      have e30 : a.tmps[30]? = some (.pointer (some ⟨g386, 0, none⟩)) := by rw [ha]; exact (putSel_off rfl).trans rfl
      replace ha := A_ ha
      have HO_6 := A_ Q_HO_6
      have BK382 := A_ (Q_BK382 (hoff 11 kr_))
      have BK391 := A_ Q_BK391; have HB := A_ Q_HB
      have HI386 := A_ (Q_HI386_e4 (hon 4 kr_) hb_)
      refine goes_ Try.func50 kr_ rfl #[.pointer (some ⟨g386, 0, none⟩), .int .i64 9] (by rfl) rfl rfl (by first | (simp only [List.map_toArray, List.map_cons, List.map_nil, Act.eval, Array.getD_eq_getD_getElem?, Option.getD_some, e30]; done) | (simp only [List.map_toArray, List.map_cons, List.map_nil, Act.eval, Array.getD_eq_getD_getElem?, Option.getD_some, e30]; rfl)) ?_
      with_reducible refine (spec_l1Below.calls g386 t383 t403 t404 9 t405 t406 t407 w _ ?side1 ?side2 A25.out).mono ?_
      (case side1 => exact q11_)
      (case side2 => exact q3_)
      rintro e w31 ⟨rfl, hi, hb, hk⟩
      refine ⟨_, rfl, ?_⟩
      have n0_ := A_ (Kd.R_mono (Kd.R_keep (IsS72.apart (show IsS72 w _ g386 t383 t403 t404 from q11_) (M.Lr HO_6) (by decide)) hk (fun _ h => h.2)) (fun _ h => h.1))
      have n1_ := A_ (KeepBut.blk hk (g' := gb382) (o := .cells #[.int .i64 0, .int .i64 0] 25 (0, 0)) (M.Lb BK382) NB382_386.out (by simp))
      have n2_ := A_ (KeepBut.blk hk (g' := gb391) (o := .cells #[.int .i64 t387, .int .i64 t388] 25 (0, 0)) (M.Lb BK391) NB391_386.out (by simp))
      have n3_ := A_ (hb); have n4_ := A_ (hi); clear HO_6; clear BK382; clear BK391; clear HB; clear HI386; have HO_6 := n0_; have BK382 := n1_; have BK391 := n2_; have HB := n3_; have HI386 := n4_; clear n0_ n1_ n2_ n3_ n4_; (try clear hb); (try clear hb2); (try clear hk); (try clear hi)
      refine hK.out _ _ ⟨v412, m12_, (by rw [ha.out]; exact putSel_upk 3 hb_ rfl rfl rfl), (M.Lr HO_6), fun _ => (M.Lb BK382), (M.Lb BK391), fun h0_ => absurd ((hon 2 kr_).symm.trans h0_) (by decide), q3_, fun _ h1_ => absurd ((hon 4 kr_).symm.trans h1_) (by decide), fun _ h1_ => absurd ((up_self b 6).symm.trans h1_) (by decide), fun _ _ => q11_, fun h0_ => absurd ((hoff 8 kr_).symm.trans h0_) (by decide), fun h0_ => absurd ((hoff 10 kr_).symm.trans h0_) (by decide), fun h0_ => absurd ((hoff 11 kr_).symm.trans h0_) (by decide), fun h0_ => absurd ((hoff 12 kr_).symm.trans h0_) (by decide)⟩
     refine steps_cons ?_ ?_
     ·rintro b a w' ⟨v412, m12_, ha, Q_HO_6, Q_BK382, Q_BK391, Q_HI386, Q_HB, Q_HI386_e2, Q_HI386_e4, Q_HI386_e6, Q_HI386_e8, Q_HO413, Q_BK382_e11, Q_X12_⟩ hb_ hon hoff
      refine ⟨_, rfl, fun K hK => ?_⟩
      have e32 : a.tmps[32]? = some (.pointer (some ⟨g386, 0, none⟩)) := by rw [ha]; exact (putSel_off rfl).trans rfl
      replace ha := A_ ha
      have HO_6 := A_ Q_HO_6
      have BK382 := A_ (Q_BK382 (hoff 11 kr_))
      have BK391 := A_ Q_BK391; have HB := A_ Q_HB
      have HI386 := A_ (Q_HI386_e6 (hon 6 kr_) hb_)
      refine goes_ Try.func50 kr_ rfl #[.pointer (some ⟨g386, 0, none⟩), .int .i64 10] (by rfl) rfl rfl (by first | (simp only [List.map_toArray, List.map_cons, List.map_nil, Act.eval, Array.getD_eq_getD_getElem?, Option.getD_some, e32]; done) | (simp only [List.map_toArray, List.map_cons, List.map_nil, Act.eval, Array.getD_eq_getD_getElem?, Option.getD_some, e32]; rfl)) ?_
      with_reducible refine (spec_l1Below.calls g386 t383 t406 t407 10 t408 t409 t410 w _ ?side1 ?side2 A26.out).mono ?_
      (case side1 => exact q11_)
      (case side2 => exact q3_)
      rintro e w32 ⟨rfl, hi, hb, hk⟩
      refine ⟨_, rfl, ?_⟩
      have n0_ := A_ (Kd.R_mono (Kd.R_keep (IsS72.apart (show IsS72 w _ g386 t383 t406 t407 from q11_) (M.Lr HO_6) (by decide)) hk (fun _ h => h.2)) (fun _ h => h.1))
      have n1_ := A_ (KeepBut.blk hk (g' := gb382) (o := .cells #[.int .i64 0, .int .i64 0] 25 (0, 0)) (M.Lb BK382) NB382_386.out (by simp))
      have n2_ := A_ (KeepBut.blk hk (g' := gb391) (o := .cells #[.int .i64 t387, .int .i64 t388] 25 (0, 0)) (M.Lb BK391) NB391_386.out (by simp))
      have n3_ := A_ (hb); have n4_ := A_ (hi); clear HO_6; clear BK382; clear BK391; clear HB; clear HI386; have HO_6 := n0_; have BK382 := n1_; have BK391 := n2_; have HB := n3_; have HI386 := n4_; clear n0_ n1_ n2_ n3_ n4_; (try clear hb); (try clear hb2); (try clear hk); (try clear hi)
      refine hK.out _ _ ⟨v412, m12_, (by rw [ha.out]; exact putSel_upk 4 hb_ rfl rfl rfl), (M.Lr HO_6), fun _ => (M.Lb BK382), (M.Lb BK391), fun h0_ => absurd ((hon 2 kr_).symm.trans h0_) (by decide), q3_, fun _ h1_ => absurd ((hon 4 kr_).symm.trans h1_) (by decide), fun _ h1_ => absurd ((hon 6 kr_).symm.trans h1_) (by decide), fun _ h1_ => absurd ((up_self b 8).symm.trans h1_) (by decide), fun _ => q11_, fun h0_ => absurd ((hoff 10 kr_).symm.trans h0_) (by decide), fun h0_ => absurd ((hoff 11 kr_).symm.trans h0_) (by decide), fun h0_ => absurd ((hoff 12 kr_).symm.trans h0_) (by decide)⟩
     refine steps_cons ?_ ?_
     ·rintro b a w' ⟨v412, m12_, ha, Q_HO_6, Q_BK382, Q_BK391, Q_HI386, Q_HB, Q_HI386_e2, Q_HI386_e4, Q_HI386_e6, Q_HI386_e8, Q_HO413, Q_BK382_e11, Q_X12_⟩ hb_ hon hoff
      refine ⟨_, rfl, fun K hK => ?_⟩
      have e33 : a.tmps[33]? = some (.int .i64 t408) := by rw [ha]; exact putSel_on (e := (8, 33, .int .i64 t408)) 4 rfl rfl (hon 8 kr_) rfl
      replace ha := A_ ha
      have HO_6 := A_ Q_HO_6; have BK391 := A_ Q_BK391; have HB := A_ Q_HB
      have HI386 := A_ (Q_HI386_e8 (hon 8 kr_))
      refine value_ (w1 := w') (v := .int .i64 (wrap64 (t408 - 1))) (by rfl) rfl ?_ ?_
      ·go_simp
       (try simp only [i64_w])
       try rfl
      refine hK.out _ _ ⟨v412, m12_, (by rw [ha.out]; exact putSel_upk 5 hb_ rfl rfl rfl), Q_HO_6, Q_BK382, Q_BK391, fun h0_ => absurd ((hon 2 kr_).symm.trans h0_) (by decide), Q_HB, fun _ h1_ => absurd ((hon 4 kr_).symm.trans h1_) (by decide), fun _ h1_ => absurd ((hon 6 kr_).symm.trans h1_) (by decide), fun _ h1_ => absurd ((hon 8 kr_).symm.trans h1_) (by decide), Q_HI386_e8, fun h0_ => absurd ((hoff 10 kr_).symm.trans h0_) (by decide), Q_BK382_e11, fun h0_ => absurd ((hoff 12 kr_).symm.trans h0_) (by decide)⟩
     refine steps_cons ?_ ?_
     ·rintro b a w' ⟨v412, m12_, ha, Q_HO_6, Q_BK382, Q_BK391, Q_HI386, Q_HB, Q_HI386_e2, Q_HI386_e4, Q_HI386_e6, Q_HI386_e8, Q_HO413, Q_BK382_e11, Q_X12_⟩ hb_ hon hoff
      refine ⟨_, rfl, fun K hK => ?_⟩
      have e27 : a.tmps[27]? = some (.int .i64 t399) := by rw [ha]; exact putSel_on (e := (2, 27, .int .i64 t399)) 1 rfl rfl (hon 2 kr_) rfl
      have e29 : a.tmps[29]? = some (.int .i64 t402) := by rw [ha]; exact putSel_on (e := (4, 29, .int .i64 t402)) 2 rfl rfl (hon 4 kr_) rfl
      have e31 : a.tmps[31]? = some (.int .i64 t405) := by rw [ha]; exact putSel_on (e := (6, 31, .int .i64 t405)) 3 rfl rfl (hon 6 kr_) rfl
      have e34 : a.tmps[34]? = some (.int .i64 (wrap64 (t408 - 1))) := by rw [ha]; exact putSel_on (e := (9, 34, .int .i64 (wrap64 (t408 - 1)))) 5 rfl rfl (hon 9 kr_) rfl
      replace ha := A_ ha
      have HO_6 := A_ Q_HO_6; have BK391 := A_ Q_BK391; have HB := A_ Q_HB
      have HI386 := A_ (Q_HI386_e8 (hon 8 kr_))
      refine Kd.R_lit_step (Kd.int .i64) _ 3 ?hg (N := 35) ?hd (xs := ([t399, t402, t405, wrap64 (t408 - 1)] : List Int)) (inner := [.int .i64 t399, .int .i64 t402, .int .i64 t405, .int .i64 (wrap64 (t408 - 1))]) (ok := fun _ => True) (okp := fun _ => True) ?hr ?hp (fun _ hk => hk) trivial (Below.refl _ _) (Nat.le_refl _) (by simp) ?_; (case hd => rfl); (case hg => rfl); (case hr => first | (go_simp; done) | (go_simp; rfl)); (case hp => exact (Reps.one (show Kd.M (Kd.int .i64) _ _ _ t399 [.int .i64 t399] from rfl) (Reps.one (show Kd.M (Kd.int .i64) _ _ _ t402 [.int .i64 t402] from rfl) (Reps.one (show Kd.M (Kd.int .i64) _ _ _ t405 [.int .i64 t405] from rfl) (Reps.one (show Kd.M (Kd.int .i64) _ _ _ (wrap64 (t408 - 1)) [.int .i64 (wrap64 (t408 - 1))] from rfl) (Reps.none _ _))))))
      intro v412 w33 ho34 hb hg_ hnew_; clear hg_ hnew_
      (first | rw [← Ny411.out] at ho34 | (simp only [Int.reduceToNat] at ho34; rw [← Ny411.out] at ho34))
      have n0_ := A_ (Kd.R_elder' (M.Lr HO_6) (Kd.R_base ho34) hb)
      have n1_ := A_ (Kd.R_lower (Kd.R_new' ho34 (Kd.R_lt (M.Lr HO_6))) (below_size q3_))
      have n3_ := A_ (blk_below (M.Lb BK391) hb)
      have n4_ := A_ (IsS72.below q11_ hb)
      have n5_ := A_ (below_step q3_ hb)
      have z_BK382 := fun (h0_ : b 11 = false) => (show w33.heap[gb382]? = some (.cells #[.int .i64 0, .int .i64 0] 25 (0, 0)) from by first | exact (blk_below (g := gb382) (o := .cells #[.int .i64 0, .int .i64 0] 25 (0, 0)) (by (with_reducible repeat (first | refine blk_drewN ?_ _ | refine blk_drew ?_ | refine blk_alloc ?_ _)); exact (Q_BK382 h0_)) hb))
      have z_BK382_e11 := fun (h0_ : b 11 = true) => (show w33.heap[gb382]? = some (.cells #[.int .i64 t387, .int .i64 t388] 25 (0, 0)) from by first | exact (blk_below (g := gb382) (o := .cells #[.int .i64 t387, .int .i64 t388] 25 (0, 0)) (by (with_reducible repeat (first | refine blk_drewN ?_ _ | refine blk_drew ?_ | refine blk_alloc ?_ _)); exact (Q_BK382_e11 h0_)) hb))
      clear HO_6; clear BK391; clear HI386; clear HB; have HO_6 := n0_; have HO413 := n1_; have BK391 := n3_; have HI386 := n4_; have HB := n5_; clear n0_ n1_ n3_ n4_ n5_; clear hb ho34
      refine hK.out _ _ ⟨v412, m12_, (by rw [ha.out]; exact putSel_upk 6 hb_ rfl rfl rfl), (by (with_reducible repeat (first | apply Kd.R_alloc | apply Kd.R_drewN | apply Kd.R_drew)); exact Kd.R_mono HO_6.out (fun _ hk => (by first | exact hk.2 | exact trivial))), z_BK382, (M.Lb BK391), fun h0_ => absurd ((hon 2 kr_).symm.trans h0_) (by decide), q3_, fun _ h1_ => absurd ((hon 4 kr_).symm.trans h1_) (by decide), fun _ h1_ => absurd ((hon 6 kr_).symm.trans h1_) (by decide), fun _ h1_ => absurd ((hon 8 kr_).symm.trans h1_) (by decide), fun _ => q11_, fun _ => (by (with_reducible repeat (first | apply Kd.R_alloc | apply Kd.R_drewN | apply Kd.R_drew)); exact Kd.R_mono HO413.out (fun _ hk => (by first | exact hk.2 | exact trivial))), z_BK382_e11, fun h0_ => absurd ((hoff 12 kr_).symm.trans h0_) (by decide)⟩
     refine steps_cons ?_ ?_
     ·rintro b a w' ⟨v412, m12_, ha, Q_HO_6, Q_BK382, Q_BK391, Q_HI386, Q_HB, Q_HI386_e2, Q_HI386_e4, Q_HI386_e6, Q_HI386_e8, Q_HO413, Q_BK382_e11, Q_X12_⟩ hb_ hon hoff
      refine ⟨_, rfl, fun K hK => ?_⟩
      have e2 : a.tmps[2]? = some (.pointer (some ⟨gb382, 0, none⟩)) := by rw [ha]; exact (putSel_off rfl).trans rfl
      have e25 : a.tmps[25]? = some (.agg #[.int .i64 t387, .int .i64 t388]) := by rw [ha]; exact putSel_on (e := (0, 25, .agg #[.int .i64 t387, .int .i64 t388])) 0 rfl rfl (hon 0 kr_) rfl
      replace ha := A_ ha
      have HO_6 := A_ Q_HO_6
      have BK382 := A_ (Q_BK382 hb_)
      have BK391 := A_ Q_BK391; have HB := A_ Q_HB
      have HI386 := A_ (Q_HI386_e8 (hon 8 kr_))
      have hs33 : w'.cell? ⟨gb382, 0, none⟩ = some (.int .i64 0) := (blk_cell BK382.out 0).trans rfl
      have hfs33 := blk_frozen BK382.out 0
      have hns33_1 := NB391_382.out
      have hms33_1 := NB382_391.out
      have hs34 : w'.cell? ⟨gb382, 1, none⟩ = some (.int .i64 0) := (blk_cell BK382.out 1).trans rfl
      have hfs34 := blk_frozen BK382.out 1
      have hns34_1 := NB391_382.out
      have hms34_1 := NB382_391.out
      refine skip_ (w1 := ?_) (by rfl) rfl ?_ ?_
      rotate_left
      ·go_simp; rfl
      refine hK.out _ _ ⟨v412, m12_, (by rw [ha.out]; exact putSel_none (v := undef) rfl), (by (with_reducible repeat (first | apply Kd.R_alloc | apply Kd.R_drewN | apply Kd.R_drew)); exact Kd.R_mono (Kd.R_far (p := ⟨gb382, 1, none⟩) (Kd.R_far (p := ⟨gb382, 0, none⟩) (Kd.R_types HO_6.out BK382.out (by decide)) (fun _ hk => hk.2) (.int .i64 t387)) (fun _ hk => hk.2) (.int .i64 t388)) (fun _ hk => trivial)), fun h0_ => absurd ((up_self b 11).symm.trans h0_) (by decide), (by (with_reducible repeat (first | refine blk_drewN ?_ _ | refine blk_drew ?_ | refine blk_alloc ?_ _)); refine blk_far ?_ NB391_382.out _; (with_reducible repeat (first | refine blk_drewN ?_ _ | refine blk_drew ?_ | refine blk_alloc ?_ _)); refine blk_far ?_ NB391_382.out _; (with_reducible repeat (first | refine blk_drewN ?_ _ | refine blk_drew ?_ | refine blk_alloc ?_ _)); exact BK391.out), fun h0_ => absurd ((hon 2 kr_).symm.trans h0_) (by decide), q3_, fun _ h1_ => absurd ((hon 4 kr_).symm.trans h1_) (by decide), fun _ h1_ => absurd ((hon 6 kr_).symm.trans h1_) (by decide), fun _ h1_ => absurd ((hon 8 kr_).symm.trans h1_) (by decide), fun _ => q11_, fun h0_ => (by (with_reducible repeat (first | apply Kd.R_alloc | apply Kd.R_drewN | apply Kd.R_drew)); exact Kd.R_mono (Kd.R_far (p := ⟨gb382, 1, none⟩) (Kd.R_far (p := ⟨gb382, 0, none⟩) (Kd.R_types (Q_HO413 h0_) BK382.out (by decide)) (fun _ hk => hk.2) (.int .i64 t387)) (fun _ hk => hk.2) (.int .i64 t388)) (fun _ hk => hk.1)), fun _ => (by (with_reducible repeat (first | refine blk_drewN ?_ _ | refine blk_drew ?_ | refine blk_alloc ?_ _)); refine blk_put (cs := #[.int .i64 t387, .int .i64 0]) ?_ 1 _ rfl; (with_reducible repeat (first | refine blk_drewN ?_ _ | refine blk_drew ?_ | refine blk_alloc ?_ _)); refine blk_put (cs := #[.int .i64 0, .int .i64 0]) ?_ 0 _ rfl; (with_reducible repeat (first | refine blk_drewN ?_ _ | refine blk_drew ?_ | refine blk_alloc ?_ _)); exact BK382.out), fun h0_ => absurd ((hoff 12 kr_).symm.trans h0_) (by decide)⟩
     refine steps_cons ?_ ?_
     ·rintro b a w' ⟨v412, m12_, ha, Q_HO_6, Q_BK382, Q_BK391, Q_HI386, Q_HB, Q_HI386_e2, Q_HI386_e4, Q_HI386_e6, Q_HI386_e8, Q_HO413, Q_BK382_e11, Q_X12_⟩ hb_ hon hoff
      refine ⟨_, rfl, fun K hK => ?_⟩
      have e35 : a.tmps[35]? = some (v412) := by rw [ha]; exact putSel_on (e := (10, 35, v412)) 6 rfl rfl (hon 10 kr_) rfl
      replace ha := A_ ha
      have HO_6 := A_ Q_HO_6; have BK391 := A_ Q_BK391; have HB := A_ Q_HB
      have HI386 := A_ (Q_HI386_e8 (hon 8 kr_))
      have HO413 := A_ (Q_HO413 (hon 10 kr_))
      have BK382 := A_ (Q_BK382_e11 (hon 11 kr_))
      refine value_ (w1 := w') (v := v412) (by rfl) rfl ?_ ?_
      ·go_simp
       (try simp only [i64_w])
       try rfl
      refine hK.out _ _ ⟨v412, (v412), (by rw [ha.out]; exact putSel_upk 7 hb_ rfl rfl rfl), Q_HO_6, fun h0_ => absurd ((hon 11 kr_).symm.trans h0_) (by decide), Q_BK391, fun h0_ => absurd ((hon 2 kr_).symm.trans h0_) (by decide), Q_HB, fun _ h1_ => absurd ((hon 4 kr_).symm.trans h1_) (by decide), fun _ h1_ => absurd ((hon 6 kr_).symm.trans h1_) (by decide), fun _ h1_ => absurd ((hon 8 kr_).symm.trans h1_) (by decide), Q_HI386_e8, Q_HO413, Q_BK382_e11, fun _ => rfl⟩
     exact steps_nil
    rintro b a w36 hall ⟨v412, m12_, ha, Q_HO_6, Q_BK382, Q_BK391, Q_HI386, Q_HB, Q_HI386_e2, Q_HI386_e4, Q_HI386_e6, Q_HI386_e8, Q_HO413, Q_BK382_e11, Q_X12_⟩
    clear BK382 BK391 HB HI386 HO_6
    have hb0_ := hall 0 kr_
    have hb2_ := hall 2 kr_
    have hb4_ := hall 4 kr_
    have hb6_ := hall 6 kr_
    have hb8_ := hall 8 kr_
    have hb9_ := hall 9 kr_
    have hb10_ := hall 10 kr_
    have hb11_ := hall 11 kr_
    have hb12_ := hall 12 kr_
    subst ha
    obtain rfl := Q_X12_ hb12_
    simp only [putSel, hb0_, hb2_, hb4_, hb6_, hb8_, hb9_, hb10_, hb11_, hb12_, if_true, Act.put, List.setIfInBounds_toArray, List.set_cons_zero, List.set_cons_succ]
    have HO_6 := A_ Q_HO_6; clear Q_HO_6; clear Q_BK382; have BK391 := A_ Q_BK391; clear Q_BK391; clear Q_HI386; have HB := A_ Q_HB; clear Q_HB; clear Q_HI386_e2; clear Q_HI386_e4; clear Q_HI386_e6
    have HI386 := A_ (Q_HI386_e8 hb8_)
    clear Q_HI386_e8
    have HO413 := A_ (Q_HO413 hb10_)
    clear Q_HO413
    have BK382 := A_ (Q_BK382_e11 hb11_)
    clear Q_BK382_e11; clear hall hb0_ hb2_ hb4_ hb6_ hb8_ hb9_ hb10_ hb11_ hb12_
    try go_wp2
    refine bodyPost_ret (results_ct rfl _ _ gb382 25 #[.int .i64 t387, .int .i64 t388] (0, 0) _ rfl (M.Lb BK382) Try.underlying25 rfl kr_) rfl ?_
    exact ⟨_, q7_, by (with_reducible repeat (first | apply Kd.R_alloc | apply Kd.R_drewN | apply Kd.R_drew)); exact Kd.R_mono HO413.out (fun _ hk => trivial), q3_⟩
def spec_DrawCountThreshold.f (k : Nat) (l0 : List Int) : Option (Int) := (spec_l1New.f k l0).bind fun bt414 => ((spec_l1Below.f bt414.1 bt414.2.1 bt414.2.2 6).bind fun bt418 => (some (wrap64 (bt418.1 - 1))))
theorem spec_DrawCountThreshold.calls (k : Nat) (A0 : Option Addr) (c0 : Nat) (l0 : List Int) (r : Int) (w : World) (hr0 : Kd.C (Kd.int .u8) w A0 l0.length l0) (hc0 : l0.length ≤ c0) (h : spec_DrawCountThreshold.f k l0 = some r) :
  Calls Try.prog 20 #[.slice A0 l0.length c0] w fun e w' => e = .returned (.int .i64 r) ∧ Below w.heap.size w w' := by
 have HR0 := A_ hr0; have HC0 := A_ hc0; clear hr0 hc0
 have HB := A_ (Below.refl w.heap.size w)
 have H : ((spec_l1New.f k l0).bind fun bt414 => ((spec_l1Below.f bt414.1 bt414.2.1 bt414.2.2 6).bind fun bt418 => (some (wrap64 (bt418.1 - 1))))) = some r := h
 clear h; replace H := Option.bind_eq_some_iff.mp H; obtain ⟨⟨t414, t415, t416⟩, A20, H⟩ := H
 replace H : ((spec_l1Below.f t414 t415 t416 6).bind fun bt418 => (some (wrap64 (bt418.1 - 1)))) = some r := H
 have A2 := A_ A20; clear A20; replace H := Option.bind_eq_some_iff.mp H; obtain ⟨⟨t418, t419, t420⟩, A30, H⟩ := H
 replace H : (some (wrap64 (t418 - 1))) = some r := H
 have A3 := A_ A30; clear A30
 obtain rfl := Option.some.inj H
 go_enter Try.func20, Try.ntmps20
 go_wp2_with (first | ((with_reducible refine gate_callee (f := 29) rfl ?_); refine goesL_ (some 4) rfl rfl Try.func29 kr_ rfl #[.slice A0 l0.length c0] rfl q2_ ?_; (with_reducible refine (spec_l1New.calls k _ _ l0 t414 t415 t416 w _ ?side1 ?side2 ?side3 A2.out).mono ?_); (case side1 => exact q0_); (case side2 => exact HR0.out); (case side3 => exact HC0.out); rintro e w4 ⟨g417, rfl, hi, hb, hb2⟩; refine ⟨_, rfl, ?_⟩; replace HB := A_ (hb); have HI417 := A_ (hi); (try clear hb); (try clear hb2); (try clear hk); (try clear hi)) | ((with_reducible refine gate_callee (f := 50) rfl ?_); refine goesL_ (some 5) rfl rfl Try.func50 kr_ rfl #[.pointer (some ⟨g417, 0, none⟩), .int .i64 6] rfl q2_ ?_; (with_reducible refine (spec_l1Below.calls g417 t414 t415 t416 6 t418 t419 t420 w _ ?side1 ?side2 A3.out).mono ?_); (case side1 => repeat (first | (with_reducible first | exact HI417.out | apply IsS72.alloc | apply IsS72.drewN | apply IsS72.drew | apply IsS72.set_1 | apply IsS72.set_2) | exact HI417.out)); (case side2 => exact q3_); rintro e w5 ⟨rfl, hi, hb, hk⟩; refine ⟨_, rfl, ?_⟩; replace HB := A_ (hb); replace HI417 := A_ (hi); (try clear hb); (try clear hb2); (try clear hk); (try clear hi)))
 go_ret
 exact ⟨q7_, q3_⟩
def spec_DrawChowNumbers.f (k : Nat) (l0 : List Int) : Option (Int × Int) := (spec_l1New.f k l0).bind fun bt422 => ((spec_l16Draw.f k bt422.1 bt422.2.1 bt422.2.2).bind fun bt426 => (some (bt426.1, bt426.2.1)))
theorem spec_DrawChowNumbers.calls (k : Nat) (A0 : Option Addr) (c0 : Nat) (l0 : List Int) (r1 : Int) (r2 : Int) (w : World) (hr0 : Kd.C (Kd.int .u8) w A0 l0.length l0) (hc0 : l0.length ≤ c0) (h : spec_DrawChowNumbers.f k l0 = some (r1, r2)) :
  Calls Try.prog 21 #[.slice A0 l0.length c0] w fun e w' => e = .returned (.agg #[.int .i64 r1, .int .i64 r2]) ∧ Below w.heap.size w w' := by
 have hu25 := Try.underlying25
 have HR0 := A_ hr0; have HC0 := A_ hc0; clear hr0 hc0
 have HB := A_ (Below.refl w.heap.size w)
 have H : ((spec_l1New.f k l0).bind fun bt422 => ((spec_l16Draw.f k bt422.1 bt422.2.1 bt422.2.2).bind fun bt426 => (some (bt426.1, bt426.2.1)))) = some (r1, r2) := h
 clear h; replace H := Option.bind_eq_some_iff.mp H; obtain ⟨⟨t422, t423, t424⟩, A20, H⟩ := H
 replace H : ((spec_l16Draw.f k t422 t423 t424).bind fun bt426 => (some (bt426.1, bt426.2.1))) = some (r1, r2) := H
 have A2 := A_ A20; clear A20; replace H := Option.bind_eq_some_iff.mp H; obtain ⟨⟨t426, t427, t428, t429⟩, A30, H⟩ := H
 replace H : (some (t426, t427)) = some (r1, r2) := H
 have A3 := A_ A30; clear A30
 simp only [Option.some.injEq, Prod.mk.injEq] at H
 obtain ⟨rfl, rfl⟩ := H
 go_enter Try.func21, Try.ntmps21
 go_wp2_with (first | ((with_reducible refine gate_dst (N := 2) rfl ?_); refine box_event ?hg (N := 2) ?hd (cs := #[.int .i64 0, .int .i64 0]) (t := 25) ?hr ?_; (case hd => rfl); (case hg => rfl); (case hr => first | (go_simp; done) | (go_simp; rfl)); intro gb421 hg w4 hbox hb; have BK421 := A_ (hbox); have GW421 := A_ ((by rw [hg]; exact (below_size q0_) : w.heap.size ≤ gb421)); have GE421 := A_ ((by rw [hg]; exact (below_size q0_) : w.heap.size ≤ gb421)); replace HB := A_ (below_step q0_ hb); clear hb hbox hg) | ((with_reducible refine gate_callee (f := 29) rfl ?_); refine goesL_ (some 4) rfl rfl Try.func29 kr_ rfl #[.slice A0 l0.length c0] rfl q2_ ?_; (with_reducible refine (spec_l1New.calls k _ _ l0 t422 t423 t424 w _ ?side1 ?side2 ?side3 A2.out).mono ?_); (case side1 => exact q0_); (case side2 => exact HR0.out); (case side3 => exact HC0.out); rintro e w5 ⟨g425, rfl, hi, hb, hb2⟩; refine ⟨_, rfl, ?_⟩; replace HB := A_ (hb); have HI425 := A_ (hi); have NB425_421 := A_ (IsS72.ne_blk hi (blk_below (M.Lb BK421) hb2) (by decide)); have NB421_425 := A_ (Ne.symm (IsS72.ne_blk hi (blk_below (M.Lb BK421) hb2) (by decide))); replace BK421 := A_ (blk_below (M.Lb BK421) hb2); (try clear hb); (try clear hb2); (try clear hk); (try clear hi)) | ((with_reducible refine gate_callee (f := 28) rfl ?_); refine goesL_ (some 5) rfl rfl Try.func28 kr_ rfl #[.pointer (some ⟨g425, 0, none⟩)] rfl q2_ ?_; (with_reducible refine (spec_l16Draw.calls k g425 t422 t423 t424 t426 t427 t428 t429 w _ ?side1 ?side2 A3.out).mono ?_); (case side1 => repeat (first | (with_reducible first | exact HI425.out | apply IsS72.alloc | apply IsS72.drewN | apply IsS72.drew | apply IsS72.set_1 | apply IsS72.set_2 | refine IsS72.far ?_ NB425_421.out _) | exact HI425.out)); (case side2 => exact q3_); rintro e w6 ⟨rfl, hi, hb, hk⟩; refine ⟨_, rfl, ?_⟩; replace BK421 := A_ (KeepBut.blk hk (g' := gb421) (o := .cells #[.int .i64 0, .int .i64 0] 25 (0, 0)) (M.Lb BK421) NB421_425.out (by simp)); replace HB := A_ (hb); replace HI425 := A_ (hi); (try clear hb); (try clear hb2); (try clear hk); (try clear hi); have hnb7 := NB421_425.out; have hnc7 := NB425_421.out; have hcz8_0 := c20_ BK421; have hcz8_1 := c21_ BK421; have hfz8_0 := blk_frozen BK421.out 0; have hfz8_1 := blk_frozen BK421.out 1))
 refine bodyPost_ret (results_cell_row rfl _ _ gb421 25 #[.int .i64 t426, .int .i64 t427] (0, 0) _ rfl (by (with_reducible repeat (first | refine blk_drewN ?_ _ | refine blk_drew ?_ | refine blk_alloc ?_ _)); refine blk_put (cs := #[.int .i64 t426, .int .i64 0]) ?_ 1 _ rfl; (with_reducible repeat (first | refine blk_drewN ?_ _ | refine blk_drew ?_ | refine blk_alloc ?_ _)); refine blk_put (cs := #[.int .i64 0, .int .i64 0]) ?_ 0 _ rfl; (with_reducible repeat (first | refine blk_drewN ?_ _ | refine blk_drew ?_ | refine blk_alloc ?_ _)); exact BK421.out) Try.underlying25 rfl kr_) rfl ?_
 exact ⟨q7_, q3_⟩
def bits_OnesCount64.f (a0 : Int) : Option (Int) := some (Go.bits .and .i64 (wrap64 (IntKind.u64.wrap ((IntKind.u64.wrap ((IntKind.u64.wrap ((Go.bits .and .u64 (IntKind.u64.wrap (((IntKind.u64.wrap ((Go.bits .and .u64 ((IntKind.u64.wrap ((Go.bits .and .u64 (a0 / 2) 6148914691236517205) + (Go.bits .and .u64 a0 6148914691236517205))) / 4) 3689348814741910323) + (Go.bits .and .u64 (IntKind.u64.wrap ((Go.bits .and .u64 (a0 / 2) 6148914691236517205) + (Go.bits .and .u64 a0 6148914691236517205))) 3689348814741910323))) / 16) + (IntKind.u64.wrap ((Go.bits .and .u64 ((IntKind.u64.wrap ((Go.bits .and .u64 (a0 / 2) 6148914691236517205) + (Go.bits .and .u64 a0 6148914691236517205))) / 4) 3689348814741910323) + (Go.bits .and .u64 (IntKind.u64.wrap ((Go.bits .and .u64 (a0 / 2) 6148914691236517205) + (Go.bits .and .u64 a0 6148914691236517205))) 3689348814741910323))))) 1085102592571150095) + ((Go.bits .and .u64 (IntKind.u64.wrap (((IntKind.u64.wrap ((Go.bits .and .u64 ((IntKind.u64.wrap ((Go.bits .and .u64 (a0 / 2) 6148914691236517205) + (Go.bits .and .u64 a0 6148914691236517205))) / 4) 3689348814741910323) + (Go.bits .and .u64 (IntKind.u64.wrap ((Go.bits .and .u64 (a0 / 2) 6148914691236517205) + (Go.bits .and .u64 a0 6148914691236517205))) 3689348814741910323))) / 16) + (IntKind.u64.wrap ((Go.bits .and .u64 ((IntKind.u64.wrap ((Go.bits .and .u64 (a0 / 2) 6148914691236517205) + (Go.bits .and .u64 a0 6148914691236517205))) / 4) 3689348814741910323) + (Go.bits .and .u64 (IntKind.u64.wrap ((Go.bits .and .u64 (a0 / 2) 6148914691236517205) + (Go.bits .and .u64 a0 6148914691236517205))) 3689348814741910323))))) 1085102592571150095) / 256))) + ((IntKind.u64.wrap ((Go.bits .and .u64 (IntKind.u64.wrap (((IntKind.u64.wrap ((Go.bits .and .u64 ((IntKind.u64.wrap ((Go.bits .and .u64 (a0 / 2) 6148914691236517205) + (Go.bits .and .u64 a0 6148914691236517205))) / 4) 3689348814741910323) + (Go.bits .and .u64 (IntKind.u64.wrap ((Go.bits .and .u64 (a0 / 2) 6148914691236517205) + (Go.bits .and .u64 a0 6148914691236517205))) 3689348814741910323))) / 16) + (IntKind.u64.wrap ((Go.bits .and .u64 ((IntKind.u64.wrap ((Go.bits .and .u64 (a0 / 2) 6148914691236517205) + (Go.bits .and .u64 a0 6148914691236517205))) / 4) 3689348814741910323) + (Go.bits .and .u64 (IntKind.u64.wrap ((Go.bits .and .u64 (a0 / 2) 6148914691236517205) + (Go.bits .and .u64 a0 6148914691236517205))) 3689348814741910323))))) 1085102592571150095) + ((Go.bits .and .u64 (IntKind.u64.wrap (((IntKind.u64.wrap ((Go.bits .and .u64 ((IntKind.u64.wrap ((Go.bits .and .u64 (a0 / 2) 6148914691236517205) + (Go.bits .and .u64 a0 6148914691236517205))) / 4) 3689348814741910323) + (Go.bits .and .u64 (IntKind.u64.wrap ((Go.bits .and .u64 (a0 / 2) 6148914691236517205) + (Go.bits .and .u64 a0 6148914691236517205))) 3689348814741910323))) / 16) + (IntKind.u64.wrap ((Go.bits .and .u64 ((IntKind.u64.wrap ((Go.bits .and .u64 (a0 / 2) 6148914691236517205) + (Go.bits .and .u64 a0 6148914691236517205))) / 4) 3689348814741910323) + (Go.bits .and .u64 (IntKind.u64.wrap ((Go.bits .and .u64 (a0 / 2) 6148914691236517205) + (Go.bits .and .u64 a0 6148914691236517205))) 3689348814741910323))))) 1085102592571150095) / 256))) / 65536))) + ((IntKind.u64.wrap ((IntKind.u64.wrap ((Go.bits .and .u64 (IntKind.u64.wrap (((IntKind.u64.wrap ((Go.bits .and .u64 ((IntKind.u64.wrap ((Go.bits .and .u64 (a0 / 2) 6148914691236517205) + (Go.bits .and .u64 a0 6148914691236517205))) / 4) 3689348814741910323) + (Go.bits .and .u64 (IntKind.u64.wrap ((Go.bits .and .u64 (a0 / 2) 6148914691236517205) + (Go.bits .and .u64 a0 6148914691236517205))) 3689348814741910323))) / 16) + (IntKind.u64.wrap ((Go.bits .and .u64 ((IntKind.u64.wrap ((Go.bits .and .u64 (a0 / 2) 6148914691236517205) + (Go.bits .and .u64 a0 6148914691236517205))) / 4) 3689348814741910323) + (Go.bits .and .u64 (IntKind.u64.wrap ((Go.bits .and .u64 (a0 / 2) 6148914691236517205) + (Go.bits .and .u64 a0 6148914691236517205))) 3689348814741910323))))) 1085102592571150095) + ((Go.bits .and .u64 (IntKind.u64.wrap (((IntKind.u64.wrap ((Go.bits .and .u64 ((IntKind.u64.wrap ((Go.bits .and .u64 (a0 / 2) 6148914691236517205) + (Go.bits .and .u64 a0 6148914691236517205))) / 4) 3689348814741910323) + (Go.bits .and .u64 (IntKind.u64.wrap ((Go.bits .and .u64 (a0 / 2) 6148914691236517205) + (Go.bits .and .u64 a0 6148914691236517205))) 3689348814741910323))) / 16) + (IntKind.u64.wrap ((Go.bits .and .u64 ((IntKind.u64.wrap ((Go.bits .and .u64 (a0 / 2) 6148914691236517205) + (Go.bits .and .u64 a0 6148914691236517205))) / 4) 3689348814741910323) + (Go.bits .and .u64 (IntKind.u64.wrap ((Go.bits .and .u64 (a0 / 2) 6148914691236517205) + (Go.bits .and .u64 a0 6148914691236517205))) 3689348814741910323))))) 1085102592571150095) / 256))) + ((IntKind.u64.wrap ((Go.bits .and .u64 (IntKind.u64.wrap (((IntKind.u64.wrap ((Go.bits .and .u64 ((IntKind.u64.wrap ((Go.bits .and .u64 (a0 / 2) 6148914691236517205) + (Go.bits .and .u64 a0 6148914691236517205))) / 4) 3689348814741910323) + (Go.bits .and .u64 (IntKind.u64.wrap ((Go.bits .and .u64 (a0 / 2) 6148914691236517205) + (Go.bits .and .u64 a0 6148914691236517205))) 3689348814741910323))) / 16) + (IntKind.u64.wrap ((Go.bits .and .u64 ((IntKind.u64.wrap ((Go.bits .and .u64 (a0 / 2) 6148914691236517205) + (Go.bits .and .u64 a0 6148914691236517205))) / 4) 3689348814741910323) + (Go.bits .and .u64 (IntKind.u64.wrap ((Go.bits .and .u64 (a0 / 2) 6148914691236517205) + (Go.bits .and .u64 a0 6148914691236517205))) 3689348814741910323))))) 1085102592571150095) + ((Go.bits .and .u64 (IntKind.u64.wrap (((IntKind.u64.wrap ((Go.bits .and .u64 ((IntKind.u64.wrap ((Go.bits .and .u64 (a0 / 2) 6148914691236517205) + (Go.bits .and .u64 a0 6148914691236517205))) / 4) 3689348814741910323) + (Go.bits .and .u64 (IntKind.u64.wrap ((Go.bits .and .u64 (a0 / 2) 6148914691236517205) + (Go.bits .and .u64 a0 6148914691236517205))) 3689348814741910323))) / 16) + (IntKind.u64.wrap ((Go.bits .and .u64 ((IntKind.u64.wrap ((Go.bits .and .u64 (a0 / 2) 6148914691236517205) + (Go.bits .and .u64 a0 6148914691236517205))) / 4) 3689348814741910323) + (Go.bits .and .u64 (IntKind.u64.wrap ((Go.bits .and .u64 (a0 / 2) 6148914691236517205) + (Go.bits .and .u64 a0 6148914691236517205))) 3689348814741910323))))) 1085102592571150095) / 256))) / 65536))) / 4294967296)))) 127)
theorem bits_OnesCount64.calls (a0 : Int) (r : Int) (w : World) (h : bits_OnesCount64.f a0 = some r) :
  Calls Try.prog 71 #[.int .u64 a0] w fun e w' => e = .returned (.int .i64 r) ∧ Drawn0 w w' := by
 have H : (some (Go.bits .and .i64 (wrap64 (IntKind.u64.wrap ((IntKind.u64.wrap ((IntKind.u64.wrap ((Go.bits .and .u64 (IntKind.u64.wrap (((IntKind.u64.wrap ((Go.bits .and .u64 ((IntKind.u64.wrap ((Go.bits .and .u64 (a0 / 2) 6148914691236517205) + (Go.bits .and .u64 a0 6148914691236517205))) / 4) 3689348814741910323) + (Go.bits .and .u64 (IntKind.u64.wrap ((Go.bits .and .u64 (a0 / 2) 6148914691236517205) + (Go.bits .and .u64 a0 6148914691236517205))) 3689348814741910323))) / 16) + (IntKind.u64.wrap ((Go.bits .and .u64 ((IntKind.u64.wrap ((Go.bits .and .u64 (a0 / 2) 6148914691236517205) + (Go.bits .and .u64 a0 6148914691236517205))) / 4) 3689348814741910323) + (Go.bits .and .u64 (IntKind.u64.wrap ((Go.bits .and .u64 (a0 / 2) 6148914691236517205) + (Go.bits .and .u64 a0 6148914691236517205))) 3689348814741910323))))) 1085102592571150095) + ((Go.bits .and .u64 (IntKind.u64.wrap (((IntKind.u64.wrap ((Go.bits .and .u64 ((IntKind.u64.wrap ((Go.bits .and .u64 (a0 / 2) 6148914691236517205) + (Go.bits .and .u64 a0 6148914691236517205))) / 4) 3689348814741910323) + (Go.bits .and .u64 (IntKind.u64.wrap ((Go.bits .and .u64 (a0 / 2) 6148914691236517205) + (Go.bits .and .u64 a0 6148914691236517205))) 3689348814741910323))) / 16) + (IntKind.u64.wrap ((Go.bits .and .u64 ((IntKind.u64.wrap ((Go.bits .and .u64 (a0 / 2) 6148914691236517205) + (Go.bits .and .u64 a0 6148914691236517205))) / 4) 3689348814741910323) + (Go.bits .and .u64 (IntKind.u64.wrap ((Go.bits .and .u64 (a0 / 2) 6148914691236517205) + (Go.bits .and .u64 a0 6148914691236517205))) 3689348814741910323))))) 1085102592571150095) / 256))) + ((IntKind.u64.wrap ((Go.bits .and .u64 (IntKind.u64.wrap (((IntKind.u64.wrap ((Go.bits .and .u64 ((IntKind.u64.wrap ((Go.bits .and .u64 (a0 / 2) 6148914691236517205) + (Go.bits .and .u64 a0 6148914691236517205))) / 4) 3689348814741910323) + (Go.bits .and .u64 (IntKind.u64.wrap ((Go.bits .and .u64 (a0 / 2) 6148914691236517205) + (Go.bits .and .u64 a0 6148914691236517205))) 3689348814741910323))) / 16) + (IntKind.u64.wrap ((Go.bits .and .u64 ((IntKind.u64.wrap ((Go.bits .and .u64 (a0 / 2) 6148914691236517205) + (Go.bits .and .u64 a0 6148914691236517205))) / 4) 3689348814741910323) + (Go.bits .and .u64 (IntKind.u64.wrap ((Go.bits .and .u64 (a0 / 2) 6148914691236517205) + (Go.bits .and .u64 a0 6148914691236517205))) 3689348814741910323))))) 1085102592571150095) + ((Go.bits .and .u64 (IntKind.u64.wrap (((IntKind.u64.wrap ((Go.bits .and .u64 ((IntKind.u64.wrap ((Go.bits .and .u64 (a0 / 2) 6148914691236517205) + (Go.bits .and .u64 a0 6148914691236517205))) / 4) 3689348814741910323) + (Go.bits .and .u64 (IntKind.u64.wrap ((Go.bits .and .u64 (a0 / 2) 6148914691236517205) + (Go.bits .and .u64 a0 6148914691236517205))) 3689348814741910323))) / 16) + (IntKind.u64.wrap ((Go.bits .and .u64 ((IntKind.u64.wrap ((Go.bits .and .u64 (a0 / 2) 6148914691236517205) + (Go.bits .and .u64 a0 6148914691236517205))) / 4) 3689348814741910323) + (Go.bits .and .u64 (IntKind.u64.wrap ((Go.bits .and .u64 (a0 / 2) 6148914691236517205) + (Go.bits .and .u64 a0 6148914691236517205))) 3689348814741910323))))) 1085102592571150095) / 256))) / 65536))) + ((IntKind.u64.wrap ((IntKind.u64.wrap ((Go.bits .and .u64 (IntKind.u64.wrap (((IntKind.u64.wrap ((Go.bits .and .u64 ((IntKind.u64.wrap ((Go.bits .and .u64 (a0 / 2) 6148914691236517205) + (Go.bits .and .u64 a0 6148914691236517205))) / 4) 3689348814741910323) + (Go.bits .and .u64 (IntKind.u64.wrap ((Go.bits .and .u64 (a0 / 2) 6148914691236517205) + (Go.bits .and .u64 a0 6148914691236517205))) 3689348814741910323))) / 16) + (IntKind.u64.wrap ((Go.bits .and .u64 ((IntKind.u64.wrap ((Go.bits .and .u64 (a0 / 2) 6148914691236517205) + (Go.bits .and .u64 a0 6148914691236517205))) / 4) 3689348814741910323) + (Go.bits .and .u64 (IntKind.u64.wrap ((Go.bits .and .u64 (a0 / 2) 6148914691236517205) + (Go.bits .and .u64 a0 6148914691236517205))) 3689348814741910323))))) 1085102592571150095) + ((Go.bits .and .u64 (IntKind.u64.wrap (((IntKind.u64.wrap ((Go.bits .and .u64 ((IntKind.u64.wrap ((Go.bits .and .u64 (a0 / 2) 6148914691236517205) + (Go.bits .and .u64 a0 6148914691236517205))) / 4) 3689348814741910323) + (Go.bits .and .u64 (IntKind.u64.wrap ((Go.bits .and .u64 (a0 / 2) 6148914691236517205) + (Go.bits .and .u64 a0 6148914691236517205))) 3689348814741910323))) / 16) + (IntKind.u64.wrap ((Go.bits .and .u64 ((IntKind.u64.wrap ((Go.bits .and .u64 (a0 / 2) 6148914691236517205) + (Go.bits .and .u64 a0 6148914691236517205))) / 4) 3689348814741910323) + (Go.bits .and .u64 (IntKind.u64.wrap ((Go.bits .and .u64 (a0 / 2) 6148914691236517205) + (Go.bits .and .u64 a0 6148914691236517205))) 3689348814741910323))))) 1085102592571150095) / 256))) + ((IntKind.u64.wrap ((Go.bits .and .u64 (IntKind.u64.wrap (((IntKind.u64.wrap ((Go.bits .and .u64 ((IntKind.u64.wrap ((Go.bits .and .u64 (a0 / 2) 6148914691236517205) + (Go.bits .and .u64 a0 6148914691236517205))) / 4) 3689348814741910323) + (Go.bits .and .u64 (IntKind.u64.wrap ((Go.bits .and .u64 (a0 / 2) 6148914691236517205) + (Go.bits .and .u64 a0 6148914691236517205))) 3689348814741910323))) / 16) + (IntKind.u64.wrap ((Go.bits .and .u64 ((IntKind.u64.wrap ((Go.bits .and .u64 (a0 / 2) 6148914691236517205) + (Go.bits .and .u64 a0 6148914691236517205))) / 4) 3689348814741910323) + (Go.bits .and .u64 (IntKind.u64.wrap ((Go.bits .and .u64 (a0 / 2) 6148914691236517205) + (Go.bits .and .u64 a0 6148914691236517205))) 3689348814741910323))))) 1085102592571150095) + ((Go.bits .and .u64 (IntKind.u64.wrap (((IntKind.u64.wrap ((Go.bits .and .u64 ((IntKind.u64.wrap ((Go.bits .and .u64 (a0 / 2) 6148914691236517205) + (Go.bits .and .u64 a0 6148914691236517205))) / 4) 3689348814741910323) + (Go.bits .and .u64 (IntKind.u64.wrap ((Go.bits .and .u64 (a0 / 2) 6148914691236517205) + (Go.bits .and .u64 a0 6148914691236517205))) 3689348814741910323))) / 16) + (IntKind.u64.wrap ((Go.bits .and .u64 ((IntKind.u64.wrap ((Go.bits .and .u64 (a0 / 2) 6148914691236517205) + (Go.bits .and .u64 a0 6148914691236517205))) / 4) 3689348814741910323) + (Go.bits .and .u64 (IntKind.u64.wrap ((Go.bits .and .u64 (a0 / 2) 6148914691236517205) + (Go.bits .and .u64 a0 6148914691236517205))) 3689348814741910323))))) 1085102592571150095) / 256))) / 65536))) / 4294967296)))) 127)) = some r := h
 clear h
 obtain rfl := Option.some.inj H
 go_enter Try.func71, Try.ntmps71
 go_wp2
 go_ret
 exact ⟨q1_, q9_⟩
def impl_ones.f (a0 : Int) : Option (Int) := (bits_OnesCount64.f (IntKind.u64.wrap (a0))).bind fun t430 => (some t430)
theorem impl_ones.calls (a0 : Int) (r : Int) (w : World) (h : impl_ones.f a0 = some r) :
  Calls Try.prog 55 #[.int .i64 a0] w fun e w' => e = .returned (.int .i64 r) ∧ Drawn0 w w' := by
 have H : ((bits_OnesCount64.f (IntKind.u64.wrap (a0))).bind fun t430 => (some t430)) = some r := h
 clear h; replace H := Option.bind_eq_some_iff.mp H; obtain ⟨t430, A20, H⟩ := H
 replace H : (some t430) = some r := H
 have A2 := A_ A20; clear A20
 obtain rfl := Option.some.inj H
 go_enter Try.func55, Try.ntmps55
 go_wp2_with (first | ((with_reducible refine gate_callee (f := 71) rfl ?_); refine goesL_ (some 5) rfl rfl Try.func71 kr_ rfl #[.int .u64 (IntKind.u64.wrap (a0))] rfl q2_ ?_; (with_reducible refine (bits_OnesCount64.calls (IntKind.u64.wrap (a0)) t430 _ A2.out).mono ?_); rintro e w' ⟨rfl, ⟨nd, rfl⟩⟩; refine ⟨_, rfl, ?_⟩))
 go_ret
 exact ⟨q1_, q9_⟩
end Go.Proofs.Ytloekoepknfodaa.Print
namespace Go.Proofs.Ytloekoepknfodaa.Print
open Go.RowKit Go.Proofs.YtloekoepknfodaaW.PrintWords Go.Proofs.YtloekoepknfodaaW.PrintLast Go.Proofs.YtloekoepknfodaaW.PrintMore
attribute [local go_sem] max2_int min2_int max_two min_two max_three min_three max_four min_four   -- for this text's walks alone
set_option linter.unusedVariables false
set_option linter.unusedSimpArgs false
open Go.Proofs.Ytloekoepknfodaa.M
theorem impl_variable.clo (x i : Nat) (hx : x < 32) (hi : i < 5) (I : Nat) (w : World) (fi : w.cell? ⟨I, 0, none⟩ = some (.int .i64 (i : Int))) :
  Calls Try.prog 72 #[.int .i64 (x : Int), .pointer (some ⟨I, 0, none⟩)] w fun e w' => e = .returned (.bool (x.testBit i)) ∧ Below w.heap.size w w' := by
 have hb := bit_nat (a := x) (n := i) (by omega) (by omega)
 have es : shr .i64 (x : Int) (i : Int) = (x : Int) / 2 ^ i := by rw [shr_nat (by omega)]; push_cast; rfl
 rw [es] at hb
 have hi0 : (0 : Int) ≤ (i : Int) := by omega
 have hi64 : i ≤ 64 := by omega
 have hq : (((x.testBit i).toNat : Nat) : Int) = 1 ↔ x.testBit i = true := by cases x.testBit i <;> simp
 generalize x.testBit i = q at *
 go_enter Try.func72, Try.ntmps72
 go_wp2_with (fail)
 go_ret
 refine ⟨?_, by repeat (first | exact Below.refl _ _ | apply pw_below_drewN)⟩
 cases q <;> simp_all
set_option maxHeartbeats 1600000 in
theorem impl_variable.aux (N M : Nat) (hN : N ≤ 5) (hM : M ≤ 32) (e10 : wrap64 ((2 : Int) ^ N) = (M : Int)) (g : Nat → Bool) (I : Nat) (w : World)
  (hc : ∀ (x : Nat) (W : World), x < M → Below w.heap.size w W → Calls Try.prog 72 #[.int .i64 (x : Int), .pointer (some ⟨I, 0, none⟩)] W fun e W' => e = .returned (.bool (g x)) ∧ Below W.heap.size W W') :
  Calls Try.prog 42 #[.int .i64 (N : Int), .func (.func 72) #[] #[.pointer (some ⟨I, 0, none⟩)]] w fun e w' => e = .returned (.agg #[.int .i64 (N : Int), .int .i64 ((prefW g M : Nat) : Int)]) ∧ Below w.heap.size w w' := by
 have huT := Try.underlying25
 have hH := A_ hc; clear hc
 have hS := A_ (impl_makeTable.I.start w N g)
 go_enter Try.func42, Try.ntmps42
 go_wp2
 rw [e10]
 clear e10
 go_loopw [11] (fun v11 wr => ∃ x : Nat, x ≤ M ∧ v11 = .int .i64 (x : Int) ∧ Aside0 (impl_makeTable.I w N g x wr)) (fun v11 _ => M - (intOf v11).toNat)
 case atStart => exact ⟨0, Nat.zero_le _, rfl, hS⟩
 case round =>
  obtain ⟨x, hx, rfl, HI⟩ := hrel; clear hS
  have c0 : wr.cell? ⟨w.heap.size, 0, none⟩ = some (.int .i64 0) := blk_cell HI.out.1 0
  have c1 : wr.cell? ⟨w.heap.size, 1, none⟩ = some (.int .i64 0) := blk_cell HI.out.1 1
  have z0 := blk_frozen HI.out.1 0
  have z1 := blk_frozen HI.out.1 1
  have d0 : wr.cell? ⟨w.heap.size + 1, 0, none⟩ = some (.int .i64 (N : Int)) := blk_cell HI.out.2.1 0
  have d1 : wr.cell? ⟨w.heap.size + 1, 1, none⟩ = some (.int .i64 ((prefW g x : Nat) : Int)) := blk_cell HI.out.2.1 1
  by_cases hlt : x < M
  ·have hC := A_ (hH.out x wr hlt HI.out.2.2)
   cases hg : g x with
   | false =>
    rw [hg] at hC
    have HG := A_ hg; clear hg
    go_wp2_with (first | (go_at_call 72; (with_reducible refine hC.out.mono ?_); rintro e w1 ⟨rfl, hb⟩))
    go_roundw
    case rel => exact ⟨x + 1, by omega, by go_num, ⟨(HI.out.call hb).skip HG.out⟩⟩
    case measure => simp [intOf]; omega
   | true =>
    rw [hg] at hC
    have HG := A_ hg; clear hg
    go_wp2_with (first | (go_at_call 72; (with_reducible refine hC.out.mono ?_); rintro e w1 ⟨rfl, hb⟩))
    have HI1 := A_ (HI.out.call hb)
    have d1' : w1.cell? ⟨w.heap.size + 1, 1, none⟩ = some (.int .i64 ((prefW g x : Nat) : Int)) := blk_cell HI1.out.2.1 1
    have z1' : w1.frozen? ⟨w.heap.size + 1, 1, none⟩ = false := blk_frozen HI1.out.2.1 1
    clear c0 c1 z0 z1 d0 d1
    go_region
    all_goals
     go_wp2
     go_roundw
     case rel =>
      refine ⟨x + 1, by omega, by go_num, ?_⟩
      ·exact ⟨(HI1.out.set HG.out (by omega) (by rw [show shl .i64 1 (x : Int) = wrap64 (2 ^ x) from by unfold shl; rw [min_bits (by omega), Int.one_mul, i64_w]])).drew⟩
     case measure => simp [intOf]; omega
  ·obtain rfl : x = M := by omega
   go_wp2
   exact bodyPost_ret (v := .agg #[.int .i64 (N : Int), .int .i64 ((prefW g x : Nat) : Int)]) (by simp [results, Try.results42, go_sem, c0, c1, d0, d1]) rfl ⟨rfl, (HI.out.2.2.setCell (p := ⟨w.heap.size, 0, none⟩) (Nat.le_refl _) _).setCell (p := ⟨w.heap.size, 1, none⟩) (Nat.le_refl _) _⟩
def impl_variable.f (a0 : Int) (a1 : Int) : Option (Int × Int) :=
 if 0 ≤ a0 ∧ a0 ≤ 5 ∧ 0 ≤ a1 ∧ a1 < 5 then some (a0, ((szVar a0.toNat a1.toNat : Nat) : Int)) else none
theorem impl_variable.mk (n i : Nat) (hn : n ≤ 5) (hi : i < 5) (I : Nat) (w : World) (hI : I < w.heap.size) (fi : w.cell? ⟨I, 0, none⟩ = some (.int .i64 (i : Int))) :
  Calls Try.prog 42 #[.int .i64 (n : Int), .func (.func 72) #[] #[.pointer (some ⟨I, 0, none⟩)]] w fun e w' => e = .returned (.agg #[.int .i64 (n : Int), .int .i64 ((szVar n i : Nat) : Int)]) ∧ Below w.heap.size w w' := by
 have h16 : 2 ^ n ≤ 32 := pow_le_5 hn
 have e10 : wrap64 ((2 : Int) ^ n) = ((2 ^ n : Nat) : Int) := by
  have : ((2 : Int) ^ n) = ((2 ^ n : Nat) : Int) := by push_cast; rfl
  rw [this]
  obtain ⟨P, hP⟩ : ∃ P, P = 2 ^ n := ⟨_, rfl⟩
  rw [← hP] at h16 ⊢
  exact w64 (by omega) (by omega)
 exact impl_variable.aux n (2 ^ n) (by omega) (by omega) e10 (fun x => x.testBit i) I w (fun x W hx hb' => impl_variable.clo x i (by omega) hi I W ((hb'.cell (p := ⟨I, 0, none⟩) hI).trans fi))
set_option maxHeartbeats 1600000 in
theorem impl_variable.nat (n i : Nat) (hn : n ≤ 5) (hi : i < 5) (w : World) :
  Calls Try.prog 56 #[.int .i64 (n : Int), .int .i64 (i : Int)] w fun e w' => e = .returned (.agg #[.int .i64 (n : Int), .int .i64 ((szVar n i : Nat) : Int)]) ∧ Below w.heap.size w w' := by
 have huT := Try.underlying25
 have HC := A_ (impl_variable.mk n i hn hi w.heap.size ((w.alloc (.cells #[.int .i64 (i : Int)] 3)).alloc (.cells #[.int .i64 0, .int .i64 0] 25)) (by simp; omega) (by go_simp))
 have HR : Aside0 (((w.alloc (.cells #[.int .i64 (i : Int)] 3)).alloc (.cells #[.int .i64 0, .int .i64 0] 25)).heap[w.heap.size + 1]? = some (.cells #[.int .i64 0, .int .i64 0] 25 (0, 0))) := ⟨by simpa using blk_new (w.alloc (.cells #[.int .i64 (i : Int)] 3)) (.cells #[.int .i64 0, .int .i64 0] 25)⟩
 have HB : Aside0 (Below w.heap.size w ((w.alloc (.cells #[.int .i64 (i : Int)] 3)).alloc (.cells #[.int .i64 0, .int .i64 0] 25))) := ⟨((Below.refl _ _).alloc (Nat.le_refl _) _).alloc (by simp) _⟩
 clear hi hn
 generalize ((szVar n i : Nat) : Int) = q at *
 go_enter Try.func56, Try.ntmps56
 go_wp2_with (first | (go_at_call 42; (with_reducible refine HC.out.mono ?_); rintro e w1 ⟨rfl, hb1⟩; have RB := A_ (blk_below HR.out hb1); have BB := A_ (HB.out.trans (hb1.mono HB.out.size)); clear hb1; have r0 : w1.cell? ⟨w.heap.size + 1, 0, none⟩ = some (.int .i64 0) := blk_cell RB.out 0; have r1 : w1.cell? ⟨w.heap.size + 1, 1, none⟩ = some (.int .i64 0) := blk_cell RB.out 1; have z0 := blk_frozen RB.out 0; have z1 := blk_frozen RB.out 1))
 exact bodyPost_ret (v := .agg #[.int .i64 (n : Int), .int .i64 q]) (by simp [results, Try.results56, go_sem, r0, r1]) rfl ⟨rfl, (BB.out.setCell (p := ⟨w.heap.size + 1, 0, none⟩) (by show w.heap.size ≤ w.heap.size + 1; omega) _).setCell (p := ⟨w.heap.size + 1, 1, none⟩) (by show w.heap.size ≤ w.heap.size + 1; omega) _⟩
theorem impl_variable.calls (a0 : Int) (a1 : Int) (r1 : Int) (r2 : Int) (w : World) (h : impl_variable.f a0 a1 = some (r1, r2)) :
  Calls Try.prog 56 #[.int .i64 a0, .int .i64 a1] w fun e w' => e = .returned (.agg #[.int .i64 r1, .int .i64 r2]) ∧ Below w.heap.size w w' := by
 unfold impl_variable.f at h
 by_cases hc : 0 ≤ a0 ∧ a0 ≤ 5 ∧ 0 ≤ a1 ∧ a1 < 5
 ·rw [if_pos hc] at h
  obtain ⟨c2, c3, c4, c5⟩ := hc
  obtain ⟨n, rfl⟩ := nat_of c2
  obtain ⟨i, rfl⟩ := nat_of c4
  have h2 := Option.some.inj h
  simp only [Prod.mk.injEq, Int.toNat_natCast] at h2
  obtain ⟨rfl, rfl⟩ := h2
  exact impl_variable.nat n i (by omega) (by omega) w
 ·rw [if_neg hc] at h; cases h
end Go.Proofs.Ytloekoepknfodaa.Print
