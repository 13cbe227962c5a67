import Derived.Test.YtfoopehlmnejaaaGreatDoorKSizes2
import Derived.Test.YtfoopehlmnejaaaGreatDoorM35
namespace Go.Proofs.YtfoopehlmnejaaaGreatDoor.Print
open Go.RowKit Go.Proofs.YtfoopehlmnejaaaGreatDoorW.PrintWords Go.Proofs.YtfoopehlmnejaaaGreatDoorW.PrintLast Go.Proofs.YtfoopehlmnejaaaGreatDoorW.PrintMore
attribute [local go_sem] max2_int min2_int max_two min_two max_three min_three max_four min_four   -- for this text's walks alone
set_option linter.unusedVariables false
set_option linter.unusedSimpArgs false
set_option maxHeartbeats 8000000
set_option maxRecDepth 100000
private theorem sT_ {α : Type _} (l : List α) (i : Nat) (a : α) : l.toArray.setIfInBounds i a = (l.set i a).toArray := List.setIfInBounds_toArray ..
private theorem s0_ {α : Type _} {x y : α} {l : List α} : (x :: l).set 0 y = y :: l := rfl
private theorem s1_ {α : Type _} {x y : α} {l : List α} {n : Nat} : (x :: l).set (n + 1) y = x :: l.set n y := rfl
def impl_IsTable.f (a0_0 : Int) (a0_1 : Int) : Option (Bool) := (impl_isBits.f a0_0).bind fun t203 => (if t203 = true then (if a0_1 ≥ 0 then ((impl_Table_size.f a0_0 a0_1).bind fun t204 => (if 0 ≤ t204 then (some ((shr .i64 a0_1 t204) == 0)) else (none))) else (some false)) else (some false))
def impl_IsTable.T1 : Bool × List (List Nat × List Nat) := (true, [([], []), ([0], [0]), ([1], [1]), ([2, 2], [2]), ([3], [3]), ([4, 3], [3, 4]), ([5, 3], [3, 5]), ([3, 6], [3, 6]), ([7, 3], [7]), ([8], [8]), ([9, 8], [8, 9]), ([8], [8]), ([11, 8, 8], [8, 11]), ([10, 12, 8], [8, 10, 12]), ([13, 8], [8, 13]), ([8, 14], [8, 14]), ([15, 12, 0, 1, 2, 3, 4, 5, 6, 7, 8, 9, 10, 11, 12, 13, 14, 15], [15])])
def impl_IsTable.B1 : List Nat := [0, 1, 3, 7, 15, 31, 63, 127, 255, 511, 1023, 511, 2559, 8191, 16383, 32767, 65535]
theorem impl_IsTable.tab1 : rtab .any (opsOf Tryz.f53 1) = impl_IsTable.T1 := by kernel_rfl
theorem impl_IsTable.bits1 : waitsOk impl_IsTable.T1.2 impl_IsTable.B1 = true := by kernel_rfl
theorem impl_IsTable.calls (a0_0 : Int) (a0_1 : Int) (r : Bool) (w : World) (h : impl_IsTable.f a0_0 a0_1 = some r) :
  Calls Tryz.prog 53 #[.agg #[.int .i64 a0_0, .int .i64 a0_1]] w fun e w' => e = .returned (.bool r) ∧ Below w.heap.size w w' := by
 have hu25 := Tryz.underlying25
 have HB := A_ (Below.refl w.heap.size w)
 have H : ((impl_isBits.f a0_0).bind fun t203 => (if t203 = true then (if a0_1 ≥ 0 then ((impl_Table_size.f a0_0 a0_1).bind fun t204 => (if 0 ≤ t204 then (some ((shr .i64 a0_1 t204) == 0)) else (none))) else (some false)) else (some false))) = some r := h
 clear h; replace H := Option.bind_eq_some_iff.mp H; obtain ⟨t203, A20, H⟩ := H; (try dsimp only at H); have A2 := A_ A20; clear A20
 by_cases c3 : t203 = true
 ·subst c3
  have H1 : (if a0_1 ≥ 0 then ((impl_Table_size.f a0_0 a0_1).bind fun t204 => (if 0 ≤ t204 then (some ((shr .i64 a0_1 t204) == 0)) else (none))) else (some false)) = some r := by rw [if_pos rfl] at H; exact H
  clear H; have H := H1; clear H1
  by_cases c4 : a0_1 ≥ 0
  ·rw [if_pos c4] at H
   have c4b0 : decide (0 ≤ a0_1) = true := decide_eq_true c4
   clear c4; replace H := Option.bind_eq_some_iff.mp H; obtain ⟨t204, A50, H⟩ := H
   replace H : (if 0 ≤ t204 then (some ((shr .i64 a0_1 t204) == 0)) else (none)) = some r := H
   have A5 := A_ A50; clear A50
   by_cases c6 : 0 ≤ t204
   ·rw [if_pos c6] at H
    have c6b0 := eq_true c6
    have c6b1 : decide (0 ≤ t204) = true := decide_eq_true c6
    clear c6
    obtain ⟨ji7, hji7⟩ : ∃ j_ : Int, (shr .i64 a0_1 t204) = j_ := ⟨_, rfl⟩
    replace H : (some ((ji7) == 0)) = some r := by first | (rw [hji7] at H; exact H) | (simp only [hji7] at H ⊢; exact H)
    (try rw [hji7] at A2)
    (try rw [hji7] at A5)
    have hji7_ : (a0_1 / 2 ^ min t204.toNat 64) = ji7 := hji7
    have hji7z : t204 ≤ 64 → (a0_1 / 2 ^ t204.toNat) = ji7 := shr_small hji7
    obtain rfl := Option.some.inj H
    go_enter Tryz.func53, Tryz.ntmps53
    try go_wp2_with (first | ((with_reducible refine gate_dst (N := 1) rfl ?_); refine box_event ?hg (N := 1) ?hd (cs := #[.int .i64 a0_0, .int .i64 a0_1]) (t := 25) ?hr ?_; (case hd => rfl); (case hg => rfl); (case hr => first | (go_simp; done) | (go_simp; rfl)); intro gb202 hg w8 hbox hb; have BK202 := A_ (hbox); have GW202 := A_ ((by rw [hg]; exact (below_size q0_) : w.heap.size ≤ gb202)); have GE202 := A_ ((by rw [hg]; exact (below_size q0_) : w.heap.size ≤ gb202)); replace HB := A_ (below_step q0_ hb); clear hb hbox hg))
    have n0_ := A_ (blk_drew BK202.out)
    have n1_ := A_ (below_drew1 HB.out)
    clear BK202; clear HB; have BK202 := n0_; have HB := n1_; clear n0_ n1_
    refine start_ (n := 17) (S := fun w' => w'.cell? ⟨gb202, 0, none⟩ = some (.int .i64 a0_0) ∧ w'.cell? ⟨gb202, 1, none⟩ = some (.int .i64 a0_1)) (ds := []) #[false, false, false, false, false, false, false, false, false, false, false, false, false, false, false, false, false] kr_ rfl rfl ⟨(blk_cell BK202.out 0).trans rfl, (blk_cell BK202.out 1).trans rfl⟩ (fun hHeld => ?_); refine with_tabW impl_IsTable.tab1 impl_IsTable.bits1 (fun HT_ HW_ => ?_)
    generalize w8.drew = w9 at BK202 HB hHeld ⊢
    refine pure_ (i := 0) (N := some 3) (v := ?_) (a' := ?_) #[true, false, false, false, false, false, false, false, false, false, false, false, false, false, false, false, false] rfl rfl (any_of HT_.out kr_) (fun _ _ _ h => h) (Or.inl ⟨by rfl, ?_⟩) ?_ ?_; rotate_left
    ·intro w'; go_simp; with_reducible rfl
    rotate_left
    ·simp only [Act.put, sT_, s0_, s1_, i64_w, i32_w]; rfl
    refine take_ (i := 1) (N := some 4) (v := ?_) (a' := ?_) #[true, true, false, false, false, false, false, false, false, false, false, false, false, false, false, false, false] rfl rfl (take_ofW HT_.out HW_.out kr_) (fun _ _ _ h => h) (Or.inl ⟨by rfl, ?_⟩) hHeld ?_ ?_
    rotate_left
    ·rintro w' ⟨s0, s1⟩
     go_simp; with_reducible rfl
    rotate_left
    ·simp only [Act.put, sT_, s0_, s1_, i64_w, i32_w]; rfl
    refine one_ (i := 2) (N := some 5) #[true, true, true, false, false, false, false, false, false, false, false, false, false, false, false, false, false] rfl rfl (one_of HT_.out kr_) (by decide) (fun K hK => ?_)
    refine goes_ Tryz.func48 kr_ rfl #[.int .i64 a0_0] (by rfl) rfl rfl q2_ ?_
    with_reducible refine (impl_isBits.calls a0_0 true _ A2.out).mono ?_
    rintro e w' ⟨rfl, ⟨nd, rfl⟩⟩
    refine ⟨_, rfl, ?_⟩
    refine hK.out _ _ ⟨(blk_cell BK202.out 0).trans rfl, (blk_cell BK202.out 1).trans rfl⟩ (fun hHeld => ?_)
    clear hK K
    refine norm_ (a' := ?_) ?_ ?_
    rotate_left
    ·show Act.put _ (some 5) _ = _
     simp only [Act.put, sT_, s0_, s1_, i64_w, i32_w]; rfl
    refine pure_ (i := 3) (N := some 6) (v := ?_) (a' := ?_) #[true, true, true, true, false, false, false, false, false, false, false, false, false, false, false, false, false] rfl rfl (any_of HT_.out kr_) (fun _ _ _ h => h) (Or.inl ⟨by rfl, ?_⟩) ?_ ?_; rotate_left
    ·intro w'; go_simp; with_reducible rfl
    rotate_left
    ·simp only [Act.put, sT_, s0_, s1_, i64_w, i32_w]; rfl
    refine pure_ (i := 4) (N := some 7) (v := ?_) (a' := ?_) #[true, true, true, true, true, false, false, false, false, false, false, false, false, false, false, false, false] rfl rfl (any_of HT_.out kr_) (fun _ _ _ h => h) (Or.inl ⟨by rfl, ?_⟩) ?_ ?_; rotate_left
    ·intro w'; go_simp; with_reducible rfl
    rotate_left
    ·simp only [Act.put, sT_, s0_, s1_, i64_w, i32_w]; rfl
    refine take_ (i := 5) (N := some 8) (v := ?_) (a' := ?_) #[true, true, true, true, true, true, false, false, false, false, false, false, false, false, false, false, false] rfl rfl (take_ofW HT_.out HW_.out kr_) (fun _ _ _ h => h) (Or.inl ⟨by rfl, ?_⟩) hHeld ?_ ?_
    rotate_left
    ·rintro w' ⟨s0, s1⟩
     go_simp; with_reducible rfl
    rotate_left
    ·simp only [Act.put, sT_, s0_, s1_, i64_w, i32_w]; rfl
    refine pure_ (i := 6) (N := some 9) (v := ?_) (a' := ?_) #[true, true, true, true, true, true, true, false, false, false, false, false, false, false, false, false, false] rfl rfl (any_of HT_.out kr_) (fun _ _ _ h => h) (Or.inl ⟨by rfl, ?_⟩) ?_ ?_; rotate_left
    ·intro w'; go_simp; with_reducible rfl
    rotate_left
    ·simp only [Act.put, sT_, s0_, s1_, i64_w, i32_w]; rfl
    refine pure_ (i := 7) (N := some 10) (v := ?_) (a' := ?_) #[true, true, true, true, true, true, true, true, false, false, false, false, false, false, false, false, false] rfl rfl (any_of HT_.out kr_) (fun _ _ _ h => h) (Or.inl ⟨by rfl, ?_⟩) ?_ ?_; rotate_left
    ·intro w'; go_simp; with_reducible rfl
    rotate_left
    ·simp only [Act.put, sT_, s0_, s1_, i64_w, i32_w]; rfl
    refine pure_ (i := 8) (N := some 11) (v := ?_) (a' := ?_) #[true, true, true, true, true, true, true, true, true, false, false, false, false, false, false, false, false] rfl rfl (any_of HT_.out kr_) (fun _ _ _ h => h) (Or.inl ⟨by rfl, ?_⟩) ?_ ?_; rotate_left
    ·intro w'; go_simp; with_reducible rfl
    rotate_left
    ·simp only [Act.put, sT_, s0_, s1_, i64_w, i32_w]; rfl
    refine pure_ (i := 9) (N := some 12) (v := ?_) (a' := ?_) #[true, true, true, true, true, true, true, true, true, true, false, false, false, false, false, false, false] rfl rfl (any_of HT_.out kr_) (fun _ _ _ h => h) (Or.inl ⟨by rfl, ?_⟩) ?_ ?_; rotate_left
    ·intro w'; go_simp; with_reducible rfl
    rotate_left
    ·simp only [Act.put, sT_, s0_, s1_, i64_w, i32_w]; rfl
    refine take_ (i := 10) (N := some 13) (v := ?_) (a' := ?_) #[true, true, true, true, true, true, true, true, true, true, true, false, false, false, false, false, false] rfl rfl (take_ofW HT_.out HW_.out kr_) (fun _ _ _ h => h) (Or.inl ⟨by rfl, ?_⟩) hHeld ?_ ?_
    rotate_left
    ·rintro w' ⟨s0, s1⟩
     go_simp; with_reducible rfl
    rotate_left
    ·simp only [Act.put, sT_, s0_, s1_, i64_w, i32_w]; rfl
    refine take_ (i := 11) (N := some 14) (v := ?_) (a' := ?_) #[true, true, true, true, true, true, true, true, true, true, true, true, false, false, false, false, false] rfl rfl (take_ofW HT_.out HW_.out kr_) (fun _ _ _ h => h) (Or.inl ⟨by rfl, ?_⟩) hHeld ?_ ?_
    rotate_left
    ·rintro w' ⟨s0, s1⟩
     go_simp; with_reducible rfl
    rotate_left
    ·simp only [Act.put, sT_, s0_, s1_, i64_w, i32_w]; rfl
    refine one_ (i := 12) (N := some 15) #[true, true, true, true, true, true, true, true, true, true, true, true, true, false, false, false, false] rfl rfl (one_of HT_.out kr_) (by decide) (fun K hK => ?_)
    refine goes_ Tryz.func82 kr_ rfl #[.agg #[.int .i64 a0_0, .int .i64 a0_1]] (by rfl) rfl rfl q2_ ?_
    with_reducible refine (impl_Table_size.calls a0_0 a0_1 t204 _ A5.out).mono ?_
    rintro e w10 ⟨rfl, hb⟩
    refine ⟨_, rfl, ?_⟩
    have n0_ := A_ (blk_below (M.Lb BK202) hb)
    have n1_ := A_ (below_step q0_ hb)
    clear BK202; clear HB; have BK202 := n0_; have HB := n1_; clear n0_ n1_; clear hb
    refine hK.out _ _ ⟨(blk_cell BK202.out 0).trans rfl, (blk_cell BK202.out 1).trans rfl⟩ (fun hHeld => ?_)
    clear hK K
    refine norm_ (a' := ?_) ?_ ?_
    rotate_left
    ·show Act.put _ (some 15) _ = _
     simp only [Act.put, sT_, s0_, s1_, i64_w, i32_w]; rfl
    refine pure_ (i := 13) (N := some 16) (v := ?_) (a' := ?_) #[true, true, true, true, true, true, true, true, true, true, true, true, true, true, false, false, false] rfl rfl (any_of HT_.out kr_) (fun _ _ _ h => h) (Or.inl ⟨by rfl, ?_⟩) ?_ ?_; rotate_left
    ·intro w'; go_simp; with_reducible rfl
    rotate_left
    ·simp only [Act.put, sT_, s0_, s1_, i64_w, i32_w]; rfl
    refine pure_ (i := 14) (N := some 17) (v := ?_) (a' := ?_) #[true, true, true, true, true, true, true, true, true, true, true, true, true, true, true, false, false] rfl rfl (any_of HT_.out kr_) (fun _ _ _ h => h) (Or.inl ⟨by rfl, ?_⟩) ?_ ?_; rotate_left
    ·intro w'; go_simp; with_reducible rfl
    rotate_left
    ·simp only [Act.put, sT_, s0_, s1_, i64_w, i32_w]; rfl
    refine pure_ (i := 15) (N := some 18) (v := ?_) (a' := ?_) #[true, true, true, true, true, true, true, true, true, true, true, true, true, true, true, true, false] rfl rfl (any_of HT_.out kr_) (fun _ _ _ h => h) (Or.inl ⟨by rfl, ?_⟩) ?_ ?_; rotate_left
    ·intro w'; go_simp; with_reducible rfl
    rotate_left
    ·simp only [Act.put, sT_, s0_, s1_, i64_w, i32_w]; rfl
    refine pure_ (i := 16) (N := some 2) (v := ?_) (a' := ?_) #[true, true, true, true, true, true, true, true, true, true, true, true, true, true, true, true, true] rfl rfl (any_of HT_.out kr_) (fun _ _ _ h => h) (Or.inl ⟨by rfl, ?_⟩) ?_ ?_; rotate_left
    ·intro w'; go_simp; with_reducible rfl
    rotate_left
    ·simp only [Act.put, sT_, s0_, s1_, i64_w, i32_w]; rfl
    refine done_ (done_of HT_.out kr_) ?_
    try go_wp2
    go_ret
    exact ⟨by first | rfl | (simp [errW_none, errW_some] <;> rfl) | (simp only [← hji7]; first | rfl | (simp [errW_none, errW_some] <;> rfl)) | (simp [*, errW_none, errW_some] <;> rfl), q0_⟩
   ·rw [if_neg c6] at H
    exact absurd H (by simp)
  ·rw [if_neg c4] at H
   have c4b0 : decide (0 ≤ a0_1) = false := decide_eq_false c4
   clear c4
   obtain rfl := Option.some.inj H
   go_enter Tryz.func53, Tryz.ntmps53
   try go_wp2_with (first | ((with_reducible refine gate_dst (N := 1) rfl ?_); refine box_event ?hg (N := 1) ?hd (cs := #[.int .i64 a0_0, .int .i64 a0_1]) (t := 25) ?hr ?_; (case hd => rfl); (case hg => rfl); (case hr => first | (go_simp; done) | (go_simp; rfl)); intro gb202 hg w11 hbox hb; have BK202 := A_ (hbox); have GW202 := A_ ((by rw [hg]; exact (below_size q0_) : w.heap.size ≤ gb202)); have GE202 := A_ ((by rw [hg]; exact (below_size q0_) : w.heap.size ≤ gb202)); replace HB := A_ (below_step q0_ hb); clear hb hbox hg))
   have n0_ := A_ (blk_drew BK202.out)
   have n1_ := A_ (below_drew1 HB.out)
   clear BK202; clear HB; have BK202 := n0_; have HB := n1_; clear n0_ n1_
   refine start_ (n := 17) (S := fun w' => w'.cell? ⟨gb202, 0, none⟩ = some (.int .i64 a0_0) ∧ w'.cell? ⟨gb202, 1, none⟩ = some (.int .i64 a0_1)) (ds := []) #[false, false, false, false, false, false, false, false, false, false, false, false, false, false, false, false, false] kr_ rfl rfl ⟨(blk_cell BK202.out 0).trans rfl, (blk_cell BK202.out 1).trans rfl⟩ (fun hHeld => ?_); refine with_tabW impl_IsTable.tab1 impl_IsTable.bits1 (fun HT_ HW_ => ?_)
   generalize w11.drew = w12 at BK202 HB hHeld ⊢
   refine pure_ (i := 0) (N := some 3) (v := ?_) (a' := ?_) #[true, false, false, false, false, false, false, false, false, false, false, false, false, false, false, false, false] rfl rfl (any_of HT_.out kr_) (fun _ _ _ h => h) (Or.inl ⟨by rfl, ?_⟩) ?_ ?_; rotate_left
   ·intro w'; go_simp; with_reducible rfl
   rotate_left
   ·simp only [Act.put, sT_, s0_, s1_, i64_w, i32_w]; rfl
   refine take_ (i := 1) (N := some 4) (v := ?_) (a' := ?_) #[true, true, false, false, false, false, false, false, false, false, false, false, false, false, false, false, false] rfl rfl (take_ofW HT_.out HW_.out kr_) (fun _ _ _ h => h) (Or.inl ⟨by rfl, ?_⟩) hHeld ?_ ?_
   rotate_left
   ·rintro w' ⟨s0, s1⟩
    go_simp; with_reducible rfl
   rotate_left
   ·simp only [Act.put, sT_, s0_, s1_, i64_w, i32_w]; rfl
   refine one_ (i := 2) (N := some 5) #[true, true, true, false, false, false, false, false, false, false, false, false, false, false, false, false, false] rfl rfl (one_of HT_.out kr_) (by decide) (fun K hK => ?_)
   refine goes_ Tryz.func48 kr_ rfl #[.int .i64 a0_0] (by rfl) rfl rfl q2_ ?_
   with_reducible refine (impl_isBits.calls a0_0 true _ A2.out).mono ?_
   rintro e w' ⟨rfl, ⟨nd, rfl⟩⟩
   refine ⟨_, rfl, ?_⟩
   refine hK.out _ _ ⟨(blk_cell BK202.out 0).trans rfl, (blk_cell BK202.out 1).trans rfl⟩ (fun hHeld => ?_)
   clear hK K
   refine norm_ (a' := ?_) ?_ ?_
   rotate_left
   ·show Act.put _ (some 5) _ = _
    simp only [Act.put, sT_, s0_, s1_, i64_w, i32_w]; rfl
   refine pure_ (i := 3) (N := some 6) (v := ?_) (a' := ?_) #[true, true, true, true, false, false, false, false, false, false, false, false, false, false, false, false, false] rfl rfl (any_of HT_.out kr_) (fun _ _ _ h => h) (Or.inl ⟨by rfl, ?_⟩) ?_ ?_; rotate_left
   ·intro w'; go_simp; with_reducible rfl
   rotate_left
   ·simp only [Act.put, sT_, s0_, s1_, i64_w, i32_w]; rfl
   refine pure_ (i := 4) (N := some 7) (v := ?_) (a' := ?_) #[true, true, true, true, true, false, false, false, false, false, false, false, false, false, false, false, false] rfl rfl (any_of HT_.out kr_) (fun _ _ _ h => h) (Or.inl ⟨by rfl, ?_⟩) ?_ ?_; rotate_left
   ·intro w'; go_simp; with_reducible rfl
   rotate_left
   ·simp only [Act.put, sT_, s0_, s1_, i64_w, i32_w]; rfl
   refine take_ (i := 5) (N := some 8) (v := ?_) (a' := ?_) #[true, true, true, true, true, true, false, false, false, false, false, false, false, false, false, false, false] rfl rfl (take_ofW HT_.out HW_.out kr_) (fun _ _ _ h => h) (Or.inl ⟨by rfl, ?_⟩) hHeld ?_ ?_
   rotate_left
   ·rintro w' ⟨s0, s1⟩
    go_simp; with_reducible rfl
   rotate_left
   ·simp only [Act.put, sT_, s0_, s1_, i64_w, i32_w]; rfl
   refine pure_ (i := 6) (N := some 9) (v := ?_) (a' := ?_) #[true, true, true, true, true, true, true, false, false, false, false, false, false, false, false, false, false] rfl rfl (any_of HT_.out kr_) (fun _ _ _ h => h) (Or.inl ⟨by rfl, ?_⟩) ?_ ?_; rotate_left
   ·intro w'; go_simp; with_reducible rfl
   rotate_left
   ·simp only [Act.put, sT_, s0_, s1_, i64_w, i32_w]; rfl
   refine pure_ (i := 7) (N := some 10) (v := ?_) (a' := ?_) #[true, true, true, true, true, true, true, true, false, false, false, false, false, false, false, false, false] rfl rfl (any_of HT_.out kr_) (fun _ _ _ h => h) (Or.inl ⟨by rfl, ?_⟩) ?_ ?_; rotate_left
   ·intro w'; go_simp; with_reducible rfl
   rotate_left
   ·simp only [Act.put, sT_, s0_, s1_, i64_w, i32_w]; rfl
   refine pure_ (i := 8) (N := some 11) (v := ?_) (a' := ?_) #[true, true, true, true, true, true, true, true, true, false, false, false, false, false, false, false, false] rfl rfl (any_of HT_.out kr_) (fun _ _ _ h => h) (Or.inl ⟨by rfl, ?_⟩) ?_ ?_; rotate_left
   ·intro w'; go_simp; with_reducible rfl
   rotate_left
   ·simp only [Act.put, sT_, s0_, s1_, i64_w, i32_w]; rfl
   refine pure_ (i := 9) (N := some 12) (v := undef) (a' := ?_) #[true, true, true, true, true, true, true, true, true, true, false, false, false, false, false, false, false] rfl rfl (any_of HT_.out kr_) (fun _ _ _ h => h) (Or.inr ⟨by rfl, rfl⟩) ?_ ?_; rotate_left
   ·simp only [Act.put, sT_, s0_, s1_, i64_w, i32_w]; rfl
   refine pure_ (i := 10) (N := some 13) (v := undef) (a' := ?_) #[true, true, true, true, true, true, true, true, true, true, true, false, false, false, false, false, false] rfl rfl (any_of HT_.out kr_) (fun _ _ _ h => h) (Or.inr ⟨by rfl, rfl⟩) ?_ ?_; rotate_left
   ·simp only [Act.put, sT_, s0_, s1_, i64_w, i32_w]; rfl
   refine pure_ (i := 11) (N := some 14) (v := undef) (a' := ?_) #[true, true, true, true, true, true, true, true, true, true, true, true, false, false, false, false, false] rfl rfl (any_of HT_.out kr_) (fun _ _ _ h => h) (Or.inr ⟨by rfl, rfl⟩) ?_ ?_; rotate_left
   ·simp only [Act.put, sT_, s0_, s1_, i64_w, i32_w]; rfl
   refine pure_ (i := 12) (N := some 15) (v := undef) (a' := ?_) #[true, true, true, true, true, true, true, true, true, true, true, true, true, false, false, false, false] rfl rfl (any_of HT_.out kr_) (fun _ _ _ h => h) (Or.inr ⟨by rfl, rfl⟩) ?_ ?_; rotate_left
   ·simp only [Act.put, sT_, s0_, s1_, i64_w, i32_w]; rfl
   refine pure_ (i := 13) (N := some 16) (v := undef) (a' := ?_) #[true, true, true, true, true, true, true, true, true, true, true, true, true, true, false, false, false] rfl rfl (any_of HT_.out kr_) (fun _ _ _ h => h) (Or.inr ⟨by rfl, rfl⟩) ?_ ?_; rotate_left
   ·simp only [Act.put, sT_, s0_, s1_, i64_w, i32_w]; rfl
   refine pure_ (i := 14) (N := some 17) (v := undef) (a' := ?_) #[true, true, true, true, true, true, true, true, true, true, true, true, true, true, true, false, false] rfl rfl (any_of HT_.out kr_) (fun _ _ _ h => h) (Or.inr ⟨by rfl, rfl⟩) ?_ ?_; rotate_left
   ·simp only [Act.put, sT_, s0_, s1_, i64_w, i32_w]; rfl
   refine pure_ (i := 15) (N := some 18) (v := ?_) (a' := ?_) #[true, true, true, true, true, true, true, true, true, true, true, true, true, true, true, true, false] rfl rfl (any_of HT_.out kr_) (fun _ _ _ h => h) (Or.inl ⟨by rfl, ?_⟩) ?_ ?_; rotate_left
   ·intro w'; go_simp; with_reducible rfl
   rotate_left
   ·simp only [Act.put, sT_, s0_, s1_, i64_w, i32_w]; rfl
   refine pure_ (i := 16) (N := some 2) (v := ?_) (a' := ?_) #[true, true, true, true, true, true, true, true, true, true, true, true, true, true, true, true, true] rfl rfl (any_of HT_.out kr_) (fun _ _ _ h => h) (Or.inl ⟨by rfl, ?_⟩) ?_ ?_; rotate_left
   ·intro w'; go_simp; with_reducible rfl
   rotate_left
   ·simp only [Act.put, sT_, s0_, s1_, i64_w, i32_w]; rfl
   refine done_ (done_of HT_.out kr_) ?_
   try go_wp2
   go_ret
   exact ⟨q6_, q0_⟩
 ·replace c3 := Bool.eq_false_iff.mpr c3
  subst c3
  have H1 : (some false) = some r := by rw [if_neg (show ¬ (false = true) by decide)] at H; exact H
  clear H; have H := H1; clear H1
  obtain rfl := Option.some.inj H
  go_enter Tryz.func53, Tryz.ntmps53
  try go_wp2_with (first | ((with_reducible refine gate_dst (N := 1) rfl ?_); refine box_event ?hg (N := 1) ?hd (cs := #[.int .i64 a0_0, .int .i64 a0_1]) (t := 25) ?hr ?_; (case hd => rfl); (case hg => rfl); (case hr => first | (go_simp; done) | (go_simp; rfl)); intro gb202 hg w13 hbox hb; have BK202 := A_ (hbox); have GW202 := A_ ((by rw [hg]; exact (below_size q0_) : w.heap.size ≤ gb202)); have GE202 := A_ ((by rw [hg]; exact (below_size q0_) : w.heap.size ≤ gb202)); replace HB := A_ (below_step q0_ hb); clear hb hbox hg))
  have n0_ := A_ (blk_drew BK202.out)
  have n1_ := A_ (below_drew1 HB.out)
  clear BK202; clear HB; have BK202 := n0_; have HB := n1_; clear n0_ n1_
  refine start_ (n := 17) (S := fun w' => w'.cell? ⟨gb202, 0, none⟩ = some (.int .i64 a0_0) ∧ w'.cell? ⟨gb202, 1, none⟩ = some (.int .i64 a0_1)) (ds := []) #[false, false, false, false, false, false, false, false, false, false, false, false, false, false, false, false, false] kr_ rfl rfl ⟨(blk_cell BK202.out 0).trans rfl, (blk_cell BK202.out 1).trans rfl⟩ (fun hHeld => ?_); refine with_tabW impl_IsTable.tab1 impl_IsTable.bits1 (fun HT_ HW_ => ?_)
  generalize w13.drew = w14 at BK202 HB hHeld ⊢
  refine pure_ (i := 0) (N := some 3) (v := ?_) (a' := ?_) #[true, false, false, false, false, false, false, false, false, false, false, false, false, false, false, false, false] rfl rfl (any_of HT_.out kr_) (fun _ _ _ h => h) (Or.inl ⟨by rfl, ?_⟩) ?_ ?_; rotate_left
  ·intro w'; go_simp; with_reducible rfl
  rotate_left
  ·simp only [Act.put, sT_, s0_, s1_, i64_w, i32_w]; rfl
  refine take_ (i := 1) (N := some 4) (v := ?_) (a' := ?_) #[true, true, false, false, false, false, false, false, false, false, false, false, false, false, false, false, false] rfl rfl (take_ofW HT_.out HW_.out kr_) (fun _ _ _ h => h) (Or.inl ⟨by rfl, ?_⟩) hHeld ?_ ?_
  rotate_left
  ·rintro w' ⟨s0, s1⟩
   go_simp; with_reducible rfl
  rotate_left
  ·simp only [Act.put, sT_, s0_, s1_, i64_w, i32_w]; rfl
  refine one_ (i := 2) (N := some 5) #[true, true, true, false, false, false, false, false, false, false, false, false, false, false, false, false, false] rfl rfl (one_of HT_.out kr_) (by decide) (fun K hK => ?_)
  refine goes_ Tryz.func48 kr_ rfl #[.int .i64 a0_0] (by rfl) rfl rfl q2_ ?_
  with_reducible refine (impl_isBits.calls a0_0 false _ A2.out).mono ?_
  rintro e w' ⟨rfl, ⟨nd, rfl⟩⟩
  refine ⟨_, rfl, ?_⟩
  refine hK.out _ _ ⟨(blk_cell BK202.out 0).trans rfl, (blk_cell BK202.out 1).trans rfl⟩ (fun hHeld => ?_)
  clear hK K
  refine norm_ (a' := ?_) ?_ ?_
  rotate_left
  ·show Act.put _ (some 5) _ = _
   simp only [Act.put, sT_, s0_, s1_, i64_w, i32_w]; rfl
  refine pure_ (i := 3) (N := some 6) (v := ?_) (a' := ?_) #[true, true, true, true, false, false, false, false, false, false, false, false, false, false, false, false, false] rfl rfl (any_of HT_.out kr_) (fun _ _ _ h => h) (Or.inl ⟨by rfl, ?_⟩) ?_ ?_; rotate_left
  ·intro w'; go_simp; with_reducible rfl
  rotate_left
  ·simp only [Act.put, sT_, s0_, s1_, i64_w, i32_w]; rfl
  refine pure_ (i := 4) (N := some 7) (v := undef) (a' := ?_) #[true, true, true, true, true, false, false, false, false, false, false, false, false, false, false, false, false] rfl rfl (any_of HT_.out kr_) (fun _ _ _ h => h) (Or.inr ⟨by rfl, rfl⟩) ?_ ?_; rotate_left
  ·simp only [Act.put, sT_, s0_, s1_, i64_w, i32_w]; rfl
  refine pure_ (i := 5) (N := some 8) (v := undef) (a' := ?_) #[true, true, true, true, true, true, false, false, false, false, false, false, false, false, false, false, false] rfl rfl (any_of HT_.out kr_) (fun _ _ _ h => h) (Or.inr ⟨by rfl, rfl⟩) ?_ ?_; rotate_left
  ·simp only [Act.put, sT_, s0_, s1_, i64_w, i32_w]; rfl
  refine pure_ (i := 6) (N := some 9) (v := undef) (a' := ?_) #[true, true, true, true, true, true, true, false, false, false, false, false, false, false, false, false, false] rfl rfl (any_of HT_.out kr_) (fun _ _ _ h => h) (Or.inr ⟨by rfl, rfl⟩) ?_ ?_; rotate_left
  ·simp only [Act.put, sT_, s0_, s1_, i64_w, i32_w]; rfl
  refine pure_ (i := 7) (N := some 10) (v := ?_) (a' := ?_) #[true, true, true, true, true, true, true, true, false, false, false, false, false, false, false, false, false] rfl rfl (any_of HT_.out kr_) (fun _ _ _ h => h) (Or.inl ⟨by rfl, ?_⟩) ?_ ?_; rotate_left
  ·intro w'; go_simp; with_reducible rfl
  rotate_left
  ·simp only [Act.put, sT_, s0_, s1_, i64_w, i32_w]; rfl
  refine pure_ (i := 8) (N := some 11) (v := ?_) (a' := ?_) #[true, true, true, true, true, true, true, true, true, false, false, false, false, false, false, false, false] rfl rfl (any_of HT_.out kr_) (fun _ _ _ h => h) (Or.inl ⟨by rfl, ?_⟩) ?_ ?_; rotate_left
  ·intro w'; go_simp; with_reducible rfl
  rotate_left
  ·simp only [Act.put, sT_, s0_, s1_, i64_w, i32_w]; rfl
  refine pure_ (i := 9) (N := some 12) (v := undef) (a' := ?_) #[true, true, true, true, true, true, true, true, true, true, false, false, false, false, false, false, false] rfl rfl (any_of HT_.out kr_) (fun _ _ _ h => h) (Or.inr ⟨by rfl, rfl⟩) ?_ ?_; rotate_left
  ·simp only [Act.put, sT_, s0_, s1_, i64_w, i32_w]; rfl
  refine pure_ (i := 10) (N := some 13) (v := undef) (a' := ?_) #[true, true, true, true, true, true, true, true, true, true, true, false, false, false, false, false, false] rfl rfl (any_of HT_.out kr_) (fun _ _ _ h => h) (Or.inr ⟨by rfl, rfl⟩) ?_ ?_; rotate_left
  ·simp only [Act.put, sT_, s0_, s1_, i64_w, i32_w]; rfl
  refine pure_ (i := 11) (N := some 14) (v := undef) (a' := ?_) #[true, true, true, true, true, true, true, true, true, true, true, true, false, false, false, false, false] rfl rfl (any_of HT_.out kr_) (fun _ _ _ h => h) (Or.inr ⟨by rfl, rfl⟩) ?_ ?_; rotate_left
  ·simp only [Act.put, sT_, s0_, s1_, i64_w, i32_w]; rfl
  refine pure_ (i := 12) (N := some 15) (v := undef) (a' := ?_) #[true, true, true, true, true, true, true, true, true, true, true, true, true, false, false, false, false] rfl rfl (any_of HT_.out kr_) (fun _ _ _ h => h) (Or.inr ⟨by rfl, rfl⟩) ?_ ?_; rotate_left
  ·simp only [Act.put, sT_, s0_, s1_, i64_w, i32_w]; rfl
  refine pure_ (i := 13) (N := some 16) (v := undef) (a' := ?_) #[true, true, true, true, true, true, true, true, true, true, true, true, true, true, false, false, false] rfl rfl (any_of HT_.out kr_) (fun _ _ _ h => h) (Or.inr ⟨by rfl, rfl⟩) ?_ ?_; rotate_left
  ·simp only [Act.put, sT_, s0_, s1_, i64_w, i32_w]; rfl
  refine pure_ (i := 14) (N := some 17) (v := undef) (a' := ?_) #[true, true, true, true, true, true, true, true, true, true, true, true, true, true, true, false, false] rfl rfl (any_of HT_.out kr_) (fun _ _ _ h => h) (Or.inr ⟨by rfl, rfl⟩) ?_ ?_; rotate_left
  ·simp only [Act.put, sT_, s0_, s1_, i64_w, i32_w]; rfl
  refine pure_ (i := 15) (N := some 18) (v := ?_) (a' := ?_) #[true, true, true, true, true, true, true, true, true, true, true, true, true, true, true, true, false] rfl rfl (any_of HT_.out kr_) (fun _ _ _ h => h) (Or.inl ⟨by rfl, ?_⟩) ?_ ?_; rotate_left
  ·intro w'; go_simp; with_reducible rfl
  rotate_left
  ·simp only [Act.put, sT_, s0_, s1_, i64_w, i32_w]; rfl
  refine pure_ (i := 16) (N := some 2) (v := ?_) (a' := ?_) #[true, true, true, true, true, true, true, true, true, true, true, true, true, true, true, true, true] rfl rfl (any_of HT_.out kr_) (fun _ _ _ h => h) (Or.inl ⟨by rfl, ?_⟩) ?_ ?_; rotate_left
  ·intro w'; go_simp; with_reducible rfl
  rotate_left
  ·simp only [Act.put, sT_, s0_, s1_, i64_w, i32_w]; rfl
  refine done_ (done_of HT_.out kr_) ?_
  try go_wp2
  go_ret
  exact ⟨q6_, q0_⟩
def impl_isSmall.f (a0_0 : Int) (a0_1 : Int) (a1 : Int) : Option (Bool) := (impl_IsTable.f a0_0 a0_1).bind fun t206 => (if t206 = true then (some (decide (a0_0 ≤ a1))) else (some false))
theorem impl_isSmall.calls (a0_0 : Int) (a0_1 : Int) (a1 : Int) (r : Bool) (w : World) (h : impl_isSmall.f a0_0 a0_1 a1 = some r) :
  Calls Tryz.prog 41 #[.agg #[.int .i64 a0_0, .int .i64 a0_1], .int .i64 a1] w fun e w' => e = .returned (.bool r) ∧ Below w.heap.size w w' := by
 have hu25 := Tryz.underlying25
 have HB := A_ (Below.refl w.heap.size w)
 have H : ((impl_IsTable.f a0_0 a0_1).bind fun t206 => (if t206 = true then (some (decide (a0_0 ≤ a1))) else (some false))) = some r := h
 clear h; replace H := Option.bind_eq_some_iff.mp H; obtain ⟨t206, A30, H⟩ := H
 replace H : (if t206 = true then (some (decide (a0_0 ≤ a1))) else (some false)) = some r := H
 have A3 := A_ A30; clear A30
 by_cases c4 : t206 = true
 ·subst c4
  have H1 : (some (decide (a0_0 ≤ a1))) = some r := by rw [if_pos rfl] at H; exact H
  clear H; have H := H1; clear H1
  obtain rfl := Option.some.inj H
  go_enter Tryz.func41, Tryz.ntmps41
  go_wp2_with (first | ((with_reducible refine gate_dst (N := 2) rfl ?_); refine box_event ?hg (N := 2) ?hd (cs := #[.int .i64 a0_0, .int .i64 a0_1]) (t := 25) ?hr ?_; (case hd => rfl); (case hg => rfl); (case hr => first | (go_simp; done) | (go_simp; rfl)); intro gb205 hg w5 hbox hb; have BK205 := A_ (hbox); have GW205 := A_ ((by rw [hg]; exact (below_size q0_) : w.heap.size ≤ gb205)); have GE205 := A_ ((by rw [hg]; exact (below_size q0_) : w.heap.size ≤ gb205)); replace HB := A_ (below_step q0_ hb); clear hb hbox hg; have hcz6_0 := c20_ BK205; have hcz6_1 := c21_ BK205; have hfz6_0 := blk_frozen BK205.out 0; have hfz6_1 := blk_frozen BK205.out 1) | ((with_reducible refine gate_callee (f := 53) rfl ?_); refine goesL_ (some 6) rfl rfl Tryz.func53 kr_ rfl #[.agg #[.int .i64 a0_0, .int .i64 a0_1]] rfl q2_ ?_; (with_reducible refine (impl_IsTable.calls a0_0 a0_1 true _ A3.out).mono ?_); rintro e w7 ⟨rfl, hb⟩; refine ⟨_, rfl, ?_⟩; replace BK205 := A_ (blk_below (M.Lb BK205) hb); replace HB := A_ (below_step q0_ hb); clear hb; have hcz8_0 := c20_ BK205; have hcz8_1 := c21_ BK205; have hfz8_0 := blk_frozen BK205.out 0; have hfz8_1 := blk_frozen BK205.out 1))
  go_ret
  exact ⟨q6_, q0_⟩
 ·replace c4 := Bool.eq_false_iff.mpr c4
  subst c4
  have H1 : (some false) = some r := by rw [if_neg (show ¬ (false = true) by decide)] at H; exact H
  clear H; have H := H1; clear H1
  obtain rfl := Option.some.inj H
  go_enter Tryz.func41, Tryz.ntmps41
  go_wp2_with (first | ((with_reducible refine gate_dst (N := 2) rfl ?_); refine box_event ?hg (N := 2) ?hd (cs := #[.int .i64 a0_0, .int .i64 a0_1]) (t := 25) ?hr ?_; (case hd => rfl); (case hg => rfl); (case hr => first | (go_simp; done) | (go_simp; rfl)); intro gb205 hg w9 hbox hb; have BK205 := A_ (hbox); have GW205 := A_ ((by rw [hg]; exact (below_size q0_) : w.heap.size ≤ gb205)); have GE205 := A_ ((by rw [hg]; exact (below_size q0_) : w.heap.size ≤ gb205)); replace HB := A_ (below_step q0_ hb); clear hb hbox hg; have hcz10_0 := c20_ BK205; have hcz10_1 := c21_ BK205; have hfz10_0 := blk_frozen BK205.out 0; have hfz10_1 := blk_frozen BK205.out 1) | ((with_reducible refine gate_callee (f := 53) rfl ?_); refine goesL_ (some 6) rfl rfl Tryz.func53 kr_ rfl #[.agg #[.int .i64 a0_0, .int .i64 a0_1]] rfl q2_ ?_; (with_reducible refine (impl_IsTable.calls a0_0 a0_1 false _ A3.out).mono ?_); rintro e w11 ⟨rfl, hb⟩; refine ⟨_, rfl, ?_⟩; replace BK205 := A_ (blk_below (M.Lb BK205) hb); replace HB := A_ (below_step q0_ hb); clear hb))
  go_ret
  exact ⟨q6_, q0_⟩
def impl_Table_not.f (a0_0 : Int) (a0_1 : Int) : Option (Int × Int) := (impl_Table_size.f a0_0 a0_1).bind fun t209 => (if 0 ≤ t209 then (some (a0_0, Go.bits .xor .i64 a0_1 (wrap64 ((shl .i64 1 t209) - 1)))) else (none))
def impl_Table_not.T1 : Bool × List (List Nat × List Nat) := (true, [([], []), ([0], [0]), ([], []), ([2], [2]), ([], []), ([4], [4]), ([5], [5]), ([6], [6]), ([3, 7], [3, 7]), ([1, 8], [1, 8]), ([9, 5, 0, 1, 2, 3, 4, 5, 6, 7, 8, 9], [9])])
def impl_Table_not.B1 : List Nat := [0, 1, 0, 4, 0, 16, 48, 112, 252, 511, 1023]
theorem impl_Table_not.tab1 : rtab .any (opsOf Tryz.f50 1) = impl_Table_not.T1 := by kernel_rfl
theorem impl_Table_not.bits1 : waitsOk impl_Table_not.T1.2 impl_Table_not.B1 = true := by kernel_rfl
theorem impl_Table_not.calls (a0_0 : Int) (a0_1 : Int) (r1 : Int) (r2 : Int) (w : World) (h : impl_Table_not.f a0_0 a0_1 = some (r1, r2)) :
  Calls Tryz.prog 50 #[.agg #[.int .i64 a0_0, .int .i64 a0_1]] w fun e w' => e = .returned (.agg #[.int .i64 r1, .int .i64 r2]) ∧ Below w.heap.size w w' := by
 have hu25 := Tryz.underlying25
 have HB := A_ (Below.refl w.heap.size w)
 have H : ((impl_Table_size.f a0_0 a0_1).bind fun t209 => (if 0 ≤ t209 then (some (a0_0, Go.bits .xor .i64 a0_1 (wrap64 ((shl .i64 1 t209) - 1)))) else (none))) = some (r1, r2) := h
 clear h; replace H := Option.bind_eq_some_iff.mp H; obtain ⟨t209, A20, H⟩ := H; (try dsimp only at H); have A2 := A_ A20; clear A20
 by_cases c3 : 0 ≤ t209
 ·rw [if_pos c3] at H
  have c3b0 := eq_true c3
  have c3b1 : decide (0 ≤ t209) = true := decide_eq_true c3
  clear c3
  obtain ⟨ji4, hji4⟩ : ∃ j_ : Int, (shl .i64 1 t209) = j_ := ⟨_, rfl⟩
  replace H : (some (a0_0, Go.bits .xor .i64 a0_1 (wrap64 ((ji4) - 1)))) = some (r1, r2) := by first | (rw [hji4] at H; exact H) | (simp only [hji4] at H ⊢; exact H)
  (try rw [hji4] at A2)
  have hji4_ : (IntKind.i64.wrap (1 * 2 ^ min t209.toNat 64)) = ji4 := hji4
  have hji4z : t209 ≤ 64 → (IntKind.i64.wrap (1 * 2 ^ t209.toNat)) = ji4 := shl_small hji4
  have hji4u : (IntKind.i64.wrap (2 ^ min t209.toNat 64)) = ji4 := by have h_ := hji4_; rw [Int.one_mul] at h_; exact h_
  have hji4v : t209 ≤ 64 → (IntKind.i64.wrap (2 ^ t209.toNat)) = ji4 := fun hle_ => by have h_ := hji4z hle_; rw [Int.one_mul] at h_; exact h_
  have hji4y : (wrap64 (1 * 2 ^ min t209.toNat 64)) = ji4 := (i64_w _).symm.trans hji4_
  have hji4x : t209 ≤ 64 → (wrap64 (1 * 2 ^ t209.toNat)) = ji4 := fun h_ => (i64_w _).symm.trans (hji4z h_)
  simp only [Option.some.injEq, Prod.mk.injEq] at H
  obtain ⟨rfl, rfl⟩ := H
  go_enter Tryz.func50, Tryz.ntmps50
  try go_wp2_with (first | ((with_reducible refine gate_dst (N := 1) rfl ?_); refine box_event ?hg (N := 1) ?hd (cs := #[.int .i64 a0_0, .int .i64 a0_1]) (t := 25) ?hr ?_; (case hd => rfl); (case hg => rfl); (case hr => first | (go_simp; done) | (go_simp; rfl)); intro gb207 hg w5 hbox hb; have BK207 := A_ (hbox); have GW207 := A_ ((by rw [hg]; exact (below_size q0_) : w.heap.size ≤ gb207)); have GE207 := A_ ((by rw [hg]; exact (below_size q0_) : w.heap.size ≤ gb207)); replace HB := A_ (below_step q0_ hb); clear hb hbox hg) | ((with_reducible refine gate_dst (N := 2) rfl ?_); refine box_event ?hg (N := 2) ?hd (cs := #[.int .i64 0, .int .i64 0]) (t := 25) ?hr ?_; (case hd => rfl); (case hg => rfl); (case hr => first | (go_simp; done) | (go_simp; rfl)); intro gb208 hg w6 hbox hb; have BK208 := A_ (hbox); have GW208 := A_ ((by rw [hg]; exact (below_size q0_) : w.heap.size ≤ gb208)); have GE208 := A_ ((by rw [hg]; exact (below_size q0_) : w.heap.size ≤ gb208)); replace HB := A_ (below_step q0_ hb); have NB207_208 := A_ ((by rw [hg]; exact Nat.ne_of_lt (blk_lt (M.Lb BK207)) : gb207 ≠ gb208)); have NB208_207 := A_ ((by rw [hg]; exact Nat.ne_of_gt (blk_lt (M.Lb BK207)) : gb208 ≠ gb207)); replace BK207 := A_ (blk_below (M.Lb BK207) hb); clear hb hbox hg))
  have n0_ := A_ (blk_drew BK207.out)
  have n1_ := A_ (blk_drew BK208.out)
  have n2_ := A_ (below_drew1 HB.out)
  clear BK207; clear BK208; clear HB; have BK207 := n0_; have BK208 := n1_; have HB := n2_; clear n0_ n1_ n2_
  refine start_ (n := 11) (S := fun w' => w'.cell? ⟨gb207, 0, none⟩ = some (.int .i64 a0_0) ∧ w'.cell? ⟨gb207, 1, none⟩ = some (.int .i64 a0_1)) (ds := []) #[false, false, false, false, false, false, false, false, false, false, false] kr_ rfl rfl ⟨(blk_cell BK207.out 0).trans rfl, (blk_cell BK207.out 1).trans rfl⟩ (fun hHeld => ?_); refine with_tabW impl_Table_not.tab1 impl_Table_not.bits1 (fun HT_ HW_ => ?_)
  generalize w6.drew = w7 at BK207 BK208 HB hHeld ⊢
  refine pure_ (i := 0) (N := some 3) (v := ?_) (a' := ?_) #[true, false, false, false, false, false, false, false, false, false, false] rfl rfl (any_of HT_.out kr_) (fun _ _ _ h => h) (Or.inl ⟨by rfl, ?_⟩) ?_ ?_; rotate_left
  ·intro w'; go_simp; with_reducible rfl
  rotate_left
  ·simp only [Act.put, sT_, s0_, s1_, i64_w, i32_w]; rfl
  refine pure_ (i := 2) (N := some 5) (v := ?_) (a' := ?_) #[true, false, true, false, false, false, false, false, false, false, false] rfl rfl (any_of HT_.out kr_) (fun _ _ _ h => h) (Or.inl ⟨by rfl, ?_⟩) ?_ ?_; rotate_left
  ·intro w'; go_simp; with_reducible rfl
  rotate_left
  ·simp only [Act.put, sT_, s0_, s1_, i64_w, i32_w]; rfl
  refine take_ (i := 1) (N := some 4) (v := ?_) (a' := ?_) #[true, true, true, false, false, false, false, false, false, false, false] rfl rfl (take_ofW HT_.out HW_.out kr_) (fun _ _ _ h => h) (Or.inl ⟨by rfl, ?_⟩) hHeld ?_ ?_
  rotate_left
  ·rintro w' ⟨s0, s1⟩
   go_simp; with_reducible rfl
  rotate_left
  ·simp only [Act.put, sT_, s0_, s1_, i64_w, i32_w]; rfl
  refine take_ (i := 3) (N := some 6) (v := ?_) (a' := ?_) #[true, true, true, true, false, false, false, false, false, false, false] rfl rfl (take_ofW HT_.out HW_.out kr_) (fun _ _ _ h => h) (Or.inl ⟨by rfl, ?_⟩) hHeld ?_ ?_
  rotate_left
  ·rintro w' ⟨s0, s1⟩
   go_simp; with_reducible rfl
  rotate_left
  ·simp only [Act.put, sT_, s0_, s1_, i64_w, i32_w]; rfl
  refine take_ (i := 4) (N := some 7) (v := ?_) (a' := ?_) #[true, true, true, true, true, false, false, false, false, false, false] rfl rfl (take_ofW HT_.out HW_.out kr_) (fun _ _ _ h => h) (Or.inl ⟨by rfl, ?_⟩) hHeld ?_ ?_
  rotate_left
  ·rintro w' ⟨s0, s1⟩
   go_simp; with_reducible rfl
  rotate_left
  ·simp only [Act.put, sT_, s0_, s1_, i64_w, i32_w]; rfl
  refine one_ (i := 5) (N := some 8) #[true, true, true, true, true, true, false, false, false, false, false] rfl rfl (one_of HT_.out kr_) (by decide) (fun K hK => ?_)
  refine goes_ Tryz.func82 kr_ rfl #[.agg #[.int .i64 a0_0, .int .i64 a0_1]] (by rfl) rfl rfl q2_ ?_
  with_reducible refine (impl_Table_size.calls a0_0 a0_1 t209 _ A2.out).mono ?_
  rintro e w8 ⟨rfl, hb⟩
  refine ⟨_, rfl, ?_⟩
  have n0_ := A_ (blk_below (M.Lb BK207) hb)
  have n1_ := A_ (blk_below (M.Lb BK208) hb)
  have n2_ := A_ (below_step q0_ hb)
  clear BK207; clear BK208; clear HB; have BK207 := n0_; have BK208 := n1_; have HB := n2_; clear n0_ n1_ n2_; clear hb
  refine hK.out _ _ ⟨(blk_cell BK207.out 0).trans rfl, (blk_cell BK207.out 1).trans rfl⟩ (fun hHeld => ?_)
  clear hK K
  refine norm_ (a' := ?_) ?_ ?_
  rotate_left
  ·show Act.put _ (some 8) _ = _
   simp only [Act.put, sT_, s0_, s1_, i64_w, i32_w]; rfl
  refine pure_ (i := 6) (N := some 9) (v := ?_) (a' := ?_) #[true, true, true, true, true, true, true, false, false, false, false] rfl rfl (any_of HT_.out kr_) (fun _ _ _ h => h) (Or.inl ⟨by rfl, ?_⟩) ?_ ?_; rotate_left
  ·intro w'; go_simp; with_reducible rfl
  rotate_left
  ·simp only [Act.put, sT_, s0_, s1_, i64_w, i32_w]; rfl
  refine pure_ (i := 7) (N := some 10) (v := ?_) (a' := ?_) #[true, true, true, true, true, true, true, true, false, false, false] rfl rfl (any_of HT_.out kr_) (fun _ _ _ h => h) (Or.inl ⟨by rfl, ?_⟩) ?_ ?_; rotate_left
  ·intro w'; go_simp; with_reducible rfl
  rotate_left
  ·simp only [Act.put, sT_, s0_, s1_, i64_w, i32_w]; rfl
  refine pure_ (i := 8) (N := some 11) (v := ?_) (a' := ?_) #[true, true, true, true, true, true, true, true, true, false, false] rfl rfl (any_of HT_.out kr_) (fun _ _ _ h => h) (Or.inl ⟨by rfl, ?_⟩) ?_ ?_; rotate_left
  ·intro w'; go_simp; with_reducible rfl
  rotate_left
  ·simp only [Act.put, sT_, s0_, s1_, i64_w, i32_w]; rfl
  refine pure_ (i := 9) (N := some 12) (v := ?_) (a' := ?_) #[true, true, true, true, true, true, true, true, true, true, false] rfl rfl (any_of HT_.out kr_) (fun _ _ _ h => h) (Or.inl ⟨by rfl, ?_⟩) ?_ ?_; rotate_left
  ·intro w'; go_simp; with_reducible rfl
  rotate_left
  ·simp only [Act.put, sT_, s0_, s1_, i64_w, i32_w]; rfl
  refine one_ (i := 10) (N := none) #[true, true, true, true, true, true, true, true, true, true, true] rfl rfl (one_of HT_.out kr_) (by decide) (fun K hK => ?_)
  have hs9 := c20_ BK208
  have hfs9 := blk_frozen BK208.out 0
  have hns9_0 := NB207_208.out
  have hms9_0 := NB208_207.out
  have hs10 := c21_ BK208
  have hfs10 := blk_frozen BK208.out 1
  have hns10_0 := NB207_208.out
  have hms10_0 := NB208_207.out
  refine skip_ (w1 := ?_) (by rfl) rfl ?_ ?_
  rotate_left
  ·go_simp; rfl
  refine hK.out _ _ ⟨((cell_far (p := ⟨gb208, _, none⟩) NB207_208.out _).trans (((cell_far (p := ⟨gb208, _, none⟩) NB207_208.out _).trans (hHeld.1)))), ((cell_far (p := ⟨gb208, _, none⟩) NB207_208.out _).trans (((cell_far (p := ⟨gb208, _, none⟩) NB207_208.out _).trans (hHeld.2))))⟩ (fun hHeld => ?_)
  clear hK K
  refine done_ (done_of HT_.out kr_) ?_
  try go_wp2
  refine bodyPost_ret (results_cell_row rfl _ _ gb208 25 #[.int .i64 a0_0, .int .i64 (Go.bits .xor .i64 a0_1 (wrap64 ((ji4) - 1)))] (0, 0) _ rfl (by (with_reducible repeat (first | refine blk_drewN ?_ _ | refine blk_drew ?_ | refine blk_alloc ?_ _)); refine blk_put (cs := #[.int .i64 a0_0, .int .i64 0]) ?_ 1 _ rfl; (with_reducible repeat (first | refine blk_drewN ?_ _ | refine blk_drew ?_ | refine blk_alloc ?_ _)); refine blk_put (cs := #[.int .i64 0, .int .i64 0]) ?_ 0 _ rfl; (with_reducible repeat (first | refine blk_drewN ?_ _ | refine blk_drew ?_ | refine blk_alloc ?_ _)); exact BK208.out) Tryz.underlying25 rfl kr_) rfl ?_
  exact ⟨by first | rfl | (simp [errW_none, errW_some] <;> rfl) | (simp only [← hji4]; first | rfl | (simp [errW_none, errW_some] <;> rfl)) | (simp [*, errW_none, errW_some] <;> rfl), q0_⟩
 ·rw [if_neg c3] at H
  exact absurd H (by simp)
def impl_Table_isSame.f (a0_0 : Int) (a0_1 : Int) : Option (Bool) := if a0_1 = 0 then (some true) else ((impl_Table_not.f a0_0 a0_1).bind fun bt211 => (some (bt211.2 == 0)))
theorem impl_Table_isSame.calls (a0_0 : Int) (a0_1 : Int) (r : Bool) (w : World) (h : impl_Table_isSame.f a0_0 a0_1 = some r) :
  Calls Tryz.prog 54 #[.agg #[.int .i64 a0_0, .int .i64 a0_1]] w fun e w' => e = .returned (.bool r) ∧ Below w.heap.size w w' := by
 have hu25 := Tryz.underlying25
 have hfld25_1 : ∀ (x0 : Int) (x1 : Int) (W : World), (Instr.field 25 (.agg #[.int .i64 x0, .int .i64 x1]) 1).run Tryz.prog W = .ok (.int .i64 x1) W := fun _ _ _ => by kernel_rfl
 have HB := A_ (Below.refl w.heap.size w)
 have H : (if a0_1 = 0 then (some true) else ((impl_Table_not.f a0_0 a0_1).bind fun bt211 => (some (bt211.2 == 0)))) = some r := h
 clear h
 by_cases c2 : a0_1 = 0
 ·rw [if_pos c2] at H
  have c2b0 : (a0_1 == 0) = true := beq_iff_eq.mpr c2
  have c2b1 : (a0_1 != 0) = false := bne_eq_false_iff_eq.mpr c2
  clear c2
  obtain rfl := Option.some.inj H
  go_enter Tryz.func54, Tryz.ntmps54
  go_wp2_with (first | ((with_reducible refine gate_dst (N := 1) rfl ?_); refine box_event ?hg (N := 1) ?hd (cs := #[.int .i64 a0_0, .int .i64 a0_1]) (t := 25) ?hr ?_; (case hd => rfl); (case hg => rfl); (case hr => first | (go_simp; done) | (go_simp; rfl)); intro gb210 hg w3 hbox hb; have BK210 := A_ (hbox); have GW210 := A_ ((by rw [hg]; exact (below_size q0_) : w.heap.size ≤ gb210)); have GE210 := A_ ((by rw [hg]; exact (below_size q0_) : w.heap.size ≤ gb210)); replace HB := A_ (below_step q0_ hb); clear hb hbox hg; have hcz4_0 := c20_ BK210; have hcz4_1 := c21_ BK210; have hfz4_0 := blk_frozen BK210.out 0; have hfz4_1 := blk_frozen BK210.out 1))
  go_ret
  exact ⟨q6_, q0_⟩
 ·rw [if_neg c2] at H
  have c2b0 : (a0_1 == 0) = false := beq_eq_false_iff_ne.mpr c2
  have c2b1 : (a0_1 != 0) = true := bne_iff_ne.mpr c2
  replace H := Option.bind_eq_some_iff.mp H; obtain ⟨⟨t211, t212⟩, A50, H⟩ := H
  replace H : (some (t212 == 0)) = some r := H
  have A5 := A_ A50; clear A50
  obtain rfl := Option.some.inj H
  go_enter Tryz.func54, Tryz.ntmps54
  go_wp2_with (first | ((with_reducible refine gate_dst (N := 1) rfl ?_); refine box_event ?hg (N := 1) ?hd (cs := #[.int .i64 a0_0, .int .i64 a0_1]) (t := 25) ?hr ?_; (case hd => rfl); (case hg => rfl); (case hr => first | (go_simp; done) | (go_simp; rfl)); intro gb210 hg w6 hbox hb; have BK210 := A_ (hbox); have GW210 := A_ ((by rw [hg]; exact (below_size q0_) : w.heap.size ≤ gb210)); have GE210 := A_ ((by rw [hg]; exact (below_size q0_) : w.heap.size ≤ gb210)); replace HB := A_ (below_step q0_ hb); clear hb hbox hg; have hcz7_0 := c20_ BK210; have hcz7_1 := c21_ BK210; have hfz7_0 := blk_frozen BK210.out 0; have hfz7_1 := blk_frozen BK210.out 1) | (go_at_call 50; (with_reducible refine (impl_Table_not.calls a0_0 a0_1 t211 t212 _ A5.out).mono ?_); rintro e w8 ⟨rfl, hb⟩; replace BK210 := A_ (blk_below (M.Lb BK210) hb); replace HB := A_ (below_step q0_ hb); clear hb))
  go_ret
  exact ⟨q6_, q0_⟩
end Go.Proofs.YtfoopehlmnejaaaGreatDoor.Print
namespace Go.Proofs.YtfoopehlmnejaaaGreatDoor.Print
open Go.RowKit Go.Proofs.YtfoopehlmnejaaaGreatDoorW.PrintWords Go.Proofs.YtfoopehlmnejaaaGreatDoorW.PrintLast Go.Proofs.YtfoopehlmnejaaaGreatDoorW.PrintMore
attribute [local go_sem] max2_int min2_int max_two min_two max_three min_three max_four min_four   -- for this text's walks alone
set_option linter.unusedVariables false
set_option linter.unusedSimpArgs false
def strconv_small.f (a0 : Int) : Option (ByteArray) := if a0 = 0 then some ⟨#[48]⟩ else if a0 = 1 then some ⟨#[49]⟩ else none
set_option maxRecDepth 100000 in
theorem strconv_small.calls (a0 : Int) (r : ByteArray) (w : World) (h : strconv_small.f a0 = some r) :
  Calls Tryz.prog 99 #[.int .i64 a0] w fun e w' => e = .returned (.string r) ∧ Drawn0 w w' := by
 unfold strconv_small.f at h
 by_cases h0 : a0 = 0
 ·subst h0
  rw [if_pos rfl] at h
  obtain rfl := Option.some.inj h
  go_enter Tryz.func99, Tryz.ntmps99
  go_wp2
  go_ret
  exact ⟨rfl, q5_⟩
 ·rw [if_neg h0] at h
  by_cases h1 : a0 = 1
  ·subst h1
   rw [if_pos rfl] at h
   obtain rfl := Option.some.inj h
   go_enter Tryz.func99, Tryz.ntmps99
   go_wp2
   go_ret
   exact ⟨rfl, q5_⟩
  ·rw [if_neg h1] at h; cases h
end Go.Proofs.YtfoopehlmnejaaaGreatDoor.Print
namespace Go.Proofs.YtfoopehlmnejaaaGreatDoor.Print
open Go.RowKit Go.Proofs.YtfoopehlmnejaaaGreatDoorW.PrintWords Go.Proofs.YtfoopehlmnejaaaGreatDoorW.PrintLast Go.Proofs.YtfoopehlmnejaaaGreatDoorW.PrintMore
attribute [local go_sem] max2_int min2_int max_two min_two max_three min_three max_four min_four   -- for this text's walks alone
set_option linter.unusedVariables false
set_option linter.unusedSimpArgs false
def strconv_FormatInt.f (a0 : Int) (a1 : Int) : Option (ByteArray) := if a1 = 10 then strconv_small.f a0 else none
set_option maxRecDepth 100000 in
theorem strconv_FormatInt.calls (a0 : Int) (a1 : Int) (r : ByteArray) (w : World) (h : strconv_FormatInt.f a0 a1 = some r) :
  Calls Tryz.prog 98 #[.int .i64 a0, .int .i64 a1] w fun e w' => e = .returned (.string r) ∧ Drawn0 w w' := by
 unfold strconv_FormatInt.f at h
 by_cases h1 : a1 = 10
 ·subst h1
  rw [if_pos rfl] at h
  have HS := A_ (fun W => strconv_small.calls a0 r W h)
  have h01 : a0 = 0 ∨ a0 = 1 := by
   unfold strconv_small.f at h
   by_cases e0 : a0 = 0
   ·exact .inl e0
   ·by_cases e1 : a0 = 1
    ·exact .inr e1
    ·rw [if_neg e0, if_neg e1] at h; cases h
  clear h
  rcases h01 with rfl | rfl
  ·go_enter Tryz.func98, Tryz.ntmps98
   go_wp2_with (first | (go_at_call 99; (with_reducible refine (HS.out _).mono ?_); rintro e w1 ⟨rfl, hd⟩; have HD := A_ hd; clear hd))
   go_ret
   exact ⟨rfl, by first | exact HD.out | (exact HD.out.drewN_left) | (repeat (first | exact HD.out | apply Drawn0.step))⟩
  ·go_enter Tryz.func98, Tryz.ntmps98
   go_wp2_with (first | (go_at_call 99; (with_reducible refine (HS.out _).mono ?_); rintro e w1 ⟨rfl, hd⟩; have HD := A_ hd; clear hd))
   go_ret
   exact ⟨rfl, by first | exact HD.out | (repeat (first | exact HD.out | apply Drawn0.step))⟩
 ·rw [if_neg h1] at h; cases h
end Go.Proofs.YtfoopehlmnejaaaGreatDoor.Print
namespace Go.Proofs.YtfoopehlmnejaaaGreatDoor.Print
open Go.RowKit Go.Proofs.YtfoopehlmnejaaaGreatDoorW.PrintWords Go.Proofs.YtfoopehlmnejaaaGreatDoorW.PrintLast Go.Proofs.YtfoopehlmnejaaaGreatDoorW.PrintMore
attribute [local go_sem] max2_int min2_int max_two min_two max_three min_three max_four min_four   -- for this text's walks alone
set_option linter.unusedVariables false
set_option linter.unusedSimpArgs false
set_option maxHeartbeats 8000000
set_option maxRecDepth 100000
def strconv_Itoa_95.f (a0 : Int) : Option (ByteArray) := (strconv_FormatInt.f a0 10).bind fun t231 => (some t231)
theorem strconv_Itoa_95.calls (a0 : Int) (r : ByteArray) (w : World) (h : strconv_Itoa_95.f a0 = some r) :
  Calls Tryz.prog 95 #[.int .i64 a0] w fun e w' => e = .returned (.string r) ∧ Drawn0 w w' := by
 have H : ((strconv_FormatInt.f a0 10).bind fun t231 => (some t231)) = some r := h
 clear h; replace H := Option.bind_eq_some_iff.mp H; obtain ⟨t231, A20, H⟩ := H
 replace H : (some t231) = some r := H
 have A2 := A_ A20; clear A20
 obtain rfl := Option.some.inj H
 go_enter Tryz.func95, Tryz.ntmps95
 go_wp2_with (first | ((with_reducible refine gate_callee (f := 98) rfl ?_); refine goesL_ (some 4) rfl rfl Tryz.func98 kr_ rfl #[.int .i64 a0, .int .i64 10] rfl q2_ ?_; (with_reducible refine (strconv_FormatInt.calls a0 10 t231 _ A2.out).mono ?_); rintro e w' ⟨rfl, ⟨nd, rfl⟩⟩; refine ⟨_, rfl, ?_⟩))
 go_ret
 exact ⟨q1_, q5_⟩
def strconv_Itoa_88.f (a0 : Int) : Option (ByteArray) := (strconv_Itoa_95.f a0).bind fun t232 => (some t232)
theorem strconv_Itoa_88.calls (a0 : Int) (r : ByteArray) (w : World) (h : strconv_Itoa_88.f a0 = some r) :
  Calls Tryz.prog 88 #[.int .i64 a0] w fun e w' => e = .returned (.string r) ∧ Drawn0 w w' := by
 have H : ((strconv_Itoa_95.f a0).bind fun t232 => (some t232)) = some r := h
 clear h; replace H := Option.bind_eq_some_iff.mp H; obtain ⟨t232, A20, H⟩ := H
 replace H : (some t232) = some r := H
 have A2 := A_ A20; clear A20
 obtain rfl := Option.some.inj H
 go_enter Tryz.func88, Tryz.ntmps88
 go_wp2_with (first | ((with_reducible refine gate_callee (f := 95) rfl ?_); refine goesL_ (some 4) rfl rfl Tryz.func95 kr_ rfl #[.int .i64 a0] rfl q2_ ?_; (with_reducible refine (strconv_Itoa_95.calls a0 t232 _ A2.out).mono ?_); rintro e w' ⟨rfl, ⟨nd, rfl⟩⟩; refine ⟨_, rfl, ?_⟩))
 go_ret
 exact ⟨q1_, q5_⟩
def impl_FormatInt.f (a0 : Int) : Option (ByteArray) := (strconv_Itoa_88.f a0).bind fun t233 => (some t233)
theorem impl_FormatInt.calls (a0 : Int) (r : ByteArray) (w : World) (h : impl_FormatInt.f a0 = some r) :
  Calls Tryz.prog 69 #[.int .i64 a0] w fun e w' => e = .returned (.string r) ∧ Drawn0 w w' := by
 have H : ((strconv_Itoa_88.f a0).bind fun t233 => (some t233)) = some r := h
 clear h; replace H := Option.bind_eq_some_iff.mp H; obtain ⟨t233, A20, H⟩ := H
 replace H : (some t233) = some r := H
 have A2 := A_ A20; clear A20
 obtain rfl := Option.some.inj H
 go_enter Tryz.func69, Tryz.ntmps69
 go_wp2_with (first | ((with_reducible refine gate_callee (f := 88) rfl ?_); refine goesL_ (some 4) rfl rfl Tryz.func88 kr_ rfl #[.int .i64 a0] rfl q2_ ?_; (with_reducible refine (strconv_Itoa_88.calls a0 t233 _ A2.out).mono ?_); rintro e w' ⟨rfl, ⟨nd, rfl⟩⟩; refine ⟨_, rfl, ?_⟩))
 go_ret
 exact ⟨q1_, q5_⟩
def impl_Table_at.f (a0_0 : Int) (a0_1 : Int) (a1 : Int) : Option (Int) := if 0 ≤ a1 then (some (Go.bits .and .i64 (shr .i64 a0_1 a1) 1)) else (none)
theorem impl_Table_at.calls (a0_0 : Int) (a0_1 : Int) (a1 : Int) (r : Int) (w : World) (h : impl_Table_at.f a0_0 a0_1 a1 = some r) :
  Calls Tryz.prog 70 #[.agg #[.int .i64 a0_0, .int .i64 a0_1], .int .i64 a1] w fun e w' => e = .returned (.int .i64 r) ∧ Below w.heap.size w w' := by
 have hu25 := Tryz.underlying25
 have HB := A_ (Below.refl w.heap.size w)
 have H : (if 0 ≤ a1 then (some (Go.bits .and .i64 (shr .i64 a0_1 a1) 1)) else (none)) = some r := h
 clear h
 by_cases c3 : 0 ≤ a1
 ·rw [if_pos c3] at H
  have c3b0 := eq_true c3
  have c3b1 : decide (0 ≤ a1) = true := decide_eq_true c3
  clear c3
  obtain ⟨ji4, hji4⟩ : ∃ j_ : Int, (shr .i64 a0_1 a1) = j_ := ⟨_, rfl⟩
  replace H : (some (Go.bits .and .i64 (ji4) 1)) = some r := by first | (rw [hji4] at H; exact H) | (simp only [hji4] at H ⊢; exact H)
  have hji4_ : (a0_1 / 2 ^ min a1.toNat 64) = ji4 := hji4
  have hji4z : a1 ≤ 64 → (a0_1 / 2 ^ a1.toNat) = ji4 := shr_small hji4
  obtain rfl := Option.some.inj H
  go_enter Tryz.func70, Tryz.ntmps70
  go_wp2_with (first | ((with_reducible refine gate_dst (N := 2) rfl ?_); refine box_event ?hg (N := 2) ?hd (cs := #[.int .i64 a0_0, .int .i64 a0_1]) (t := 25) ?hr ?_; (case hd => rfl); (case hg => rfl); (case hr => first | (go_simp; done) | (go_simp; rfl)); intro gb234 hg w5 hbox hb; have BK234 := A_ (hbox); have GW234 := A_ ((by rw [hg]; exact (below_size q0_) : w.heap.size ≤ gb234)); have GE234 := A_ ((by rw [hg]; exact (below_size q0_) : w.heap.size ≤ gb234)); replace HB := A_ (below_step q0_ hb); clear hb hbox hg; have hcz6_0 := c20_ BK234; have hcz6_1 := c21_ BK234; have hfz6_0 := blk_frozen BK234.out 0; have hfz6_1 := blk_frozen BK234.out 1))
  go_ret
  exact ⟨by first | rfl | (simp [errW_none, errW_some] <;> rfl) | (simp only [← hji4]; first | rfl | (simp [errW_none, errW_some] <;> rfl)) | (simp [*, errW_none, errW_some] <;> rfl), q0_⟩
 ·rw [if_neg c3] at H
  exact absurd H (by simp)
end Go.Proofs.YtfoopehlmnejaaaGreatDoor.Print
namespace Go.Proofs.YtfoopehlmnejaaaGreatDoor.Print
open Go.RowKit Go.Proofs.YtfoopehlmnejaaaGreatDoorW.PrintWords Go.Proofs.YtfoopehlmnejaaaGreatDoorW.PrintLast Go.Proofs.YtfoopehlmnejaaaGreatDoorW.PrintMore
attribute [local go_sem] max2_int min2_int max_two min_two max_three min_three max_four min_four   -- for this text's walks alone
set_option linter.unusedVariables false
set_option linter.unusedSimpArgs false
set_option maxHeartbeats 8000000
set_option maxRecDepth 100000
attribute [local go_sem high] eqA25
mutual
def impl_Table_smallest.j1 : Nat → List Int → Int → Int → Option (ByteArray)
 | 0, _, _, _ => none
 | k + 1, x1, x236000, x236001 => (some (([38, 124] : List Int) : List Int)).bind fun y248 => (impl_Table_smallest.l1 k x1 y248 (y248.length : Int) 0 x236000 x236001)
def impl_Table_smallest.l1 : Nat → List Int → List Int → Int → Int → Int → Int → Option (ByteArray)
 | 0, _, _, _, _, _, _ => none
 | k + 1, x1, x53, x54, x55, x236000, x236001 => if x55 < x54 then (if 0 ≤ x55 then (if x55 < (x53.length : Int) then (impl_Table_smallest.l2 k x1 (rd x53 x55) x53 x54 x55 x1 (x1.length : Int) 0 x236000 x236001) else (none)) else (none)) else (some (⟨#[]⟩ : ByteArray))
def impl_Table_smallest.l2 : Nat → List Int → Int → List Int → Int → Int → List Int → Int → Int → Int → Int → Option (ByteArray)
 | 0, _, _, _, _, _, _, _, _, _, _ => none
 | k + 1, x1, x9, x53, x54, x55, x59, x60, x61, x236000, x236001 => if x61 < x60 then (if 0 ≤ x61 then (if x61 < (x59.length : Int) then (if (rd x59 x61) < 1 then (impl_Table_smallest.j4 k x1 x9 x61 (rd x59 x61) x53 x54 x55 x59 x60 x61 true x236000 x236001) else (if 0 ≤ x236001 then (if x236001 < (x1.length : Int) then (impl_Table_smallest.j4 k x1 x9 x61 (rd x59 x61) x53 x54 x55 x59 x60 x61 (decide ((rd x59 x61) ≥ (rd x1 x236001))) x236000 x236001) else (none)) else (none))) else (none)) else (none)) else (impl_Table_smallest.l1 k x1 x53 x54 (wrap64 (x55 + 1)) x236000 x236001)
def impl_Table_smallest.j4 : Nat → List Int → Int → Int → Int → List Int → Int → Int → List Int → Int → Int → Bool → Int → Int → Option (ByteArray)
 | 0, _, _, _, _, _, _, _, _, _, _, _, _, _ => none
 | k + 1, x1, x9, x10, x11, x53, x54, x55, x59, x60, x61, x76, x236000, x236001 => if x76 = true then (impl_Table_smallest.l2 k x1 x9 x53 x54 x55 x59 x60 (wrap64 (x61 + 1)) x236000 x236001) else (impl_Table_smallest.l3 k x1 x9 x10 x11 x53 x54 x55 x59 x60 x61 x1 (x1.length : Int) 0 x236000 x236001)
def impl_Table_smallest.l3 : Nat → List Int → Int → Int → Int → List Int → Int → Int → List Int → Int → Int → List Int → Int → Int → Int → Int → Option (ByteArray)
 | 0, _, _, _, _, _, _, _, _, _, _, _, _, _, _, _ => none
 | k + 1, x1, x9, x10, x11, x53, x54, x55, x59, x60, x61, x77, x78, x79, x236000, x236001 => if x79 < x78 then (if 0 ≤ x79 then (if x79 < (x77.length : Int) then (if x9 = 124 then (impl_Table_smallest.j6 k x1 x9 x10 x11 x79 (rd x77 x79) (Go.bits .or .i64 x10 x79) x53 x54 x55 x59 x60 x61 x77 x78 x79 x236000 x236001) else (impl_Table_smallest.j6 k x1 x9 x10 x11 x79 (rd x77 x79) (Go.bits .and .i64 x10 x79) x53 x54 x55 x59 x60 x61 x77 x78 x79 x236000 x236001)) else (none)) else (none)) else (impl_Table_smallest.l2 k x1 x9 x53 x54 x55 x59 x60 (wrap64 (x61 + 1)) x236000 x236001)
def impl_Table_smallest.j6 : Nat → List Int → Int → Int → Int → Int → Int → Int → List Int → Int → Int → List Int → Int → Int → List Int → Int → Int → Int → Int → Option (ByteArray)
 | 0, _, _, _, _, _, _, _, _, _, _, _, _, _, _, _, _, _, _ => none
 | k + 1, x1, x9, x10, x11, x12, x13, x14, x53, x54, x55, x59, x60, x61, x77, x78, x79, x236000, x236001 => if x13 ≥ 1 then (if 0 ≤ x236001 then (if x236001 < (x1.length : Int) then (if (wrap64 (x11 + x13)) = (rd x1 x236001) then (impl_Table_smallest.j7 k x1 x9 x10 x11 x12 x53 x54 x55 x59 x60 x61 x77 x78 x79 (x14 == x236001) x236000 x236001) else (impl_Table_smallest.j7 k x1 x9 x10 x11 x12 x53 x54 x55 x59 x60 x61 x77 x78 x79 false x236000 x236001)) else (none)) else (none)) else (impl_Table_smallest.j7 k x1 x9 x10 x11 x12 x53 x54 x55 x59 x60 x61 x77 x78 x79 false x236000 x236001)
def impl_Table_smallest.j7 : Nat → List Int → Int → Int → Int → Int → List Int → Int → Int → List Int → Int → Int → List Int → Int → Int → Bool → Int → Int → Option (ByteArray)
 | 0, _, _, _, _, _, _, _, _, _, _, _, _, _, _, _, _, _ => none
 | k + 1, x1, x9, x10, x11, x12, x53, x54, x55, x59, x60, x61, x77, x78, x79, x110, x236000, x236001 => if x110 = true then ((some (([x9] : List Int) : List Int)).bind fun y256 => ((impl_Table_smallest.f k x236000 x10 x1).bind fun t259 => (if (strOfNums y256).size + t259.size ≤ 9223372036854775807 then ((impl_Table_smallest.f k x236000 x12 x1).bind fun t260 => (if ((strOfNums y256) ++ t259).size + t260.size ≤ 9223372036854775807 then (some (((strOfNums y256) ++ t259) ++ t260)) else (none))) else (none)))) else (impl_Table_smallest.l3 k x1 x9 x10 x11 x53 x54 x55 x59 x60 x61 x77 x78 (wrap64 (x79 + 1)) x236000 x236001)
def impl_Table_smallest.l0 : Nat → List Int → Int → Int → Int → Int → Option (ByteArray)
 | 0, _, _, _, _, _ => none
 | k + 1, x1, x27, x28, x236000, x236001 => if x28 < x27 then ((some (([(97 + ((x28) % 256)) % 256] : List Int) : List Int)).bind fun y240 => ((impl_variable.f x236000 x28).bind fun bt243 => (if (x236000 == bt243.1 && (x236001 == bt243.2)) = true then (some (strOfNums y240)) else ((impl_Table_not.f bt243.1 bt243.2).bind fun bt246 => (if (x236000 == bt246.1 && (x236001 == bt246.2)) = true then (if 1 + (strOfNums y240).size ≤ 9223372036854775807 then (some ((⟨#[33]⟩ : ByteArray) ++ (strOfNums y240))) else (none)) else (impl_Table_smallest.l0 k x1 x27 (wrap64 (x28 + 1)) x236000 x236001)))))) else (impl_Table_smallest.j1 k x1 x236000 x236001)
def impl_Table_smallest.f : Nat → Int → Int → List Int → Option (ByteArray)
 | 0, _, _, _ => none
 | k + 1, a0_0, a0_1, l1 => (impl_Table_isSame.f a0_0 a0_1).bind fun t236 => (if t236 = true then ((impl_Table_at.f a0_0 a0_1 0).bind fun t237 => ((impl_FormatInt.f t237).bind fun t238 => (some t238))) else (if 0 ≤ a0_1 then (if a0_1 < (l1.length : Int) then (if (rd l1 a0_1) = 1 then (impl_Table_smallest.l0 k l1 a0_0 0 a0_0 a0_1) else (impl_Table_smallest.j1 k l1 a0_0 a0_1)) else (none)) else (none)))
end
def impl_Table_smallest.T29 : Bool × List (List Nat × List Nat) := (true, [([], []), ([0], [0]), ([1], [1]), ([], []), ([3], [3]), ([], []), ([4, 5], [4, 5]), ([], []), ([6, 7], [6, 7]), ([2, 8], [2, 8]), ([], []), ([10], [10]), ([], []), ([11, 12], [11, 12]), ([], []), ([13, 14, 8], [13, 14]), ([9, 15], [9, 15]), ([16, 15, 0, 1, 2, 3, 4, 5, 6, 7, 8, 9, 10, 11, 12, 13, 14, 15, 16], [16])])
def impl_Table_smallest.B29 : List Nat := [0, 1, 3, 0, 8, 0, 56, 0, 248, 511, 0, 1024, 0, 7168, 0, 32248, 65535, 131071]
theorem impl_Table_smallest.tab29 : rtab .any (opsOf Tryz.f42 29) = impl_Table_smallest.T29 := by kernel_rfl
theorem impl_Table_smallest.bits29 : waitsOk impl_Table_smallest.T29.2 impl_Table_smallest.B29 = true := by kernel_rfl
theorem impl_Table_smallest.calls (k : Nat) : ∀ (a0_0 : Int) (a0_1 : Int) (P1_ : Nat → Prop) (A1 : Option Addr) (c1 : Nat) (l1 : List Int) (r : ByteArray) (w : World) (hs1 : Kd.V (Kd.int .i64) 3 w w.heap.size (fun k_ => P1_ k_) (.slice A1 l1.length c1) l1) (h : impl_Table_smallest.f k a0_0 a0_1 l1 = some r),
  Calls Tryz.prog 42 #[.agg #[.int .i64 a0_0, .int .i64 a0_1], .slice A1 l1.length c1] w fun e w' => e = .returned (.string r) ∧ Below w.heap.size w w' := by
 induction k using Nat.strongRecOn with
 | _ k ih =>
 intro a0_0 a0_1 P1_ A1 c1 l1 r w hs1 h
 cases k with
 | zero => exact absurd h (by simp [impl_Table_smallest.f])
 | succ k =>
 simp only [impl_Table_smallest.f] at h
 have hu25 := Tryz.underlying25
 have HO1 := A_ (show Kd.V (Kd.int .i64) 3 w w.heap.size (fun k_ => (P1_ k_ ∨ w.heap.size ≤ k_)) (.slice A1 l1.length c1) l1 from Kd.V_mono hs1 (fun k_ hk => .inl hk))
 have HB := A_ (Below.refl w.heap.size w)
 have H : ((impl_Table_isSame.f a0_0 a0_1).bind fun t236 => (if t236 = true then ((impl_Table_at.f a0_0 a0_1 0).bind fun t237 => ((impl_FormatInt.f t237).bind fun t238 => (some t238))) else (if 0 ≤ a0_1 then (if a0_1 < (l1.length : Int) then (if (rd l1 a0_1) = 1 then (impl_Table_smallest.l0 k l1 a0_0 0 a0_0 a0_1) else (impl_Table_smallest.j1 k l1 a0_0 a0_1)) else (none)) else (none)))) = some r := h
 clear h; replace H := Option.bind_eq_some_iff.mp H; obtain ⟨t236, A30, H⟩ := H; (try dsimp only at H); have A3 := A_ A30; clear A30
 by_cases c4 : t236 = true
 ·subst c4
  have H1 : ((impl_Table_at.f a0_0 a0_1 0).bind fun t237 => ((impl_FormatInt.f t237).bind fun t238 => (some t238))) = some r := by rw [if_pos rfl] at H; exact H
  clear H; have H := H1; clear H1; replace H := Option.bind_eq_some_iff.mp H; obtain ⟨t237, A50, H⟩ := H
  replace H : ((impl_FormatInt.f t237).bind fun t238 => (some t238)) = some r := H
  have A5 := A_ A50; clear A50; replace H := Option.bind_eq_some_iff.mp H; obtain ⟨t238, A60, H⟩ := H
  replace H : (some t238) = some r := H
  have A6 := A_ A60; clear A60
  obtain rfl := Option.some.inj H
  go_enter Tryz.func42, Tryz.ntmps42
  go_wp2_with (first | ((with_reducible refine gate_dst (N := 2) rfl ?_); refine box_event ?hg (N := 2) ?hd (cs := #[.int .i64 a0_0, .int .i64 a0_1]) (t := 25) ?hr ?_; (case hd => rfl); (case hg => rfl); (case hr => first | (go_simp; done) | (go_simp; rfl)); intro gb235 hg w7 hbox hb; replace HO1 := A_ (Kd.V_below (Kd.V_elderB (M.Lv HO1) gb235 (Nat.le_of_eq hg.symm)) hb); have BK235 := A_ (hbox); have GW235 := A_ ((by rw [hg]; exact (below_size q0_) : w.heap.size ≤ gb235)); have GE235 := A_ ((by rw [hg]; exact (below_size q0_) : w.heap.size ≤ gb235)); replace HB := A_ (below_step q0_ hb); clear hb hbox hg; have hcz8_0 := c20_ BK235; have hcz8_1 := c21_ BK235; have hfz8_0 := blk_frozen BK235.out 0; have hfz8_1 := blk_frozen BK235.out 1) | ((with_reducible refine gate_callee (f := 54) rfl ?_); refine goesL_ (some 16) rfl rfl Tryz.func54 kr_ rfl #[.agg #[.int .i64 a0_0, .int .i64 a0_1]] rfl q2_ ?_; (with_reducible refine (impl_Table_isSame.calls a0_0 a0_1 true _ A3.out).mono ?_); rintro e w9 ⟨rfl, hb⟩; refine ⟨_, rfl, ?_⟩; replace HO1 := A_ (Kd.V_below (M.Lv HO1) hb); replace BK235 := A_ (blk_below (M.Lb BK235) hb); replace HB := A_ (below_step q0_ hb); clear hb; have hcz10_0 := c20_ BK235; have hcz10_1 := c21_ BK235; have hfz10_0 := blk_frozen BK235.out 0; have hfz10_1 := blk_frozen BK235.out 1) | ((with_reducible refine gate_callee (f := 70) rfl ?_); refine goesL_ (some 18) rfl rfl Tryz.func70 kr_ rfl #[.agg #[.int .i64 a0_0, .int .i64 a0_1], .int .i64 0] rfl q2_ ?_; (with_reducible refine (impl_Table_at.calls a0_0 a0_1 0 t237 _ A5.out).mono ?_); rintro e w11 ⟨rfl, hb⟩; refine ⟨_, rfl, ?_⟩; replace HO1 := A_ (Kd.V_below (M.Lv HO1) hb); replace BK235 := A_ (blk_below (M.Lb BK235) hb); replace HB := A_ (below_step q0_ hb); clear hb) | ((with_reducible refine gate_callee (f := 69) rfl ?_); refine goesL_ (some 19) rfl rfl Tryz.func69 kr_ rfl #[.int .i64 t237] rfl q2_ ?_; (with_reducible refine (impl_FormatInt.calls t237 t238 _ A6.out).mono ?_); rintro e w' ⟨rfl, ⟨nd, rfl⟩⟩; refine ⟨_, rfl, ?_⟩))
  go_ret
  exact ⟨q6_, q0_⟩
 ·replace c4 := Bool.eq_false_iff.mpr c4
  subst c4
  have H1 : (if 0 ≤ a0_1 then (if a0_1 < (l1.length : Int) then (if (rd l1 a0_1) = 1 then (impl_Table_smallest.l0 k l1 a0_0 0 a0_0 a0_1) else (impl_Table_smallest.j1 k l1 a0_0 a0_1)) else (none)) else (none)) = some r := by rw [if_neg (show ¬ (false = true) by decide)] at H; exact H
  clear H; have H := H1; clear H1
  by_cases c12 : 0 ≤ a0_1
  ·rw [if_pos c12] at H
   have c12b0 : decide (0 ≤ a0_1) = true := decide_eq_true c12
   clear c12
   by_cases c13 : a0_1 < (l1.length : Int)
   ·rw [if_pos c13] at H
    have c13b0 : decide (a0_1 < (l1.length : Int)) = true := decide_eq_true c13
    clear c13; have HC14 := A_ H; clear H
    go_enter Tryz.func42, Tryz.ntmps42
    go_upto_if 25 with (first | ((with_reducible refine gate_dst (N := 2) rfl ?_); refine box_event ?hg (N := 2) ?hd (cs := #[.int .i64 a0_0, .int .i64 a0_1]) (t := 25) ?hr ?_; (case hd => rfl); (case hg => rfl); (case hr => first | (go_simp; done) | (go_simp; rfl)); intro gb235 hg w15 hbox hb; replace HO1 := A_ (Kd.V_below (Kd.V_elderB (M.Lv HO1) gb235 (Nat.le_of_eq hg.symm)) hb); have BK235 := A_ (hbox); have GW235 := A_ ((by rw [hg]; exact (below_size q0_) : w.heap.size ≤ gb235)); have GE235 := A_ ((by rw [hg]; exact (below_size q0_) : w.heap.size ≤ gb235)); replace HB := A_ (below_step q0_ hb); clear hb hbox hg; have hcz16_0 := c20_ BK235; have hcz16_1 := c21_ BK235; have hfz16_0 := blk_frozen BK235.out 0; have hfz16_1 := blk_frozen BK235.out 1) | ((with_reducible refine gate_callee (f := 54) rfl ?_); refine goesL_ (some 16) rfl rfl Tryz.func54 kr_ rfl #[.agg #[.int .i64 a0_0, .int .i64 a0_1]] rfl q2_ ?_; (with_reducible refine (impl_Table_isSame.calls a0_0 a0_1 false _ A3.out).mono ?_); rintro e w17 ⟨rfl, hb⟩; refine ⟨_, rfl, ?_⟩; replace HO1 := A_ (Kd.V_below (M.Lv HO1) hb); replace BK235 := A_ (blk_below (M.Lb BK235) hb); replace HB := A_ (below_step q0_ hb); clear hb; have hcz18_0 := c20_ BK235; have hcz18_1 := c21_ BK235; have hfz18_0 := blk_frozen BK235.out 0; have hfz18_1 := blk_frozen BK235.out 1; have p239 : 0 ≤ (a0_1 : Int) := of_decide_eq_true q8_; have q239 : a0_1 < (l1.length : Int) := of_decide_eq_true q8_; obtain ⟨ad239, e239, hx239_0⟩ := Kd.at_int (Kd.V_reads' HO1.out).2.2 a0_1 p239 q239; cases e239; replace p239 := eq_true p239; replace q239 := eq_true q239))
    (try simp only [Act.put, List.setIfInBounds_toArray, List.set_cons_zero, List.set_cons_succ])
    go_cut [] (fun wc => ∃ (kq : Nat), Aside0 (impl_Table_smallest.j1 kq l1 a0_0 a0_1 = some r) ∧ Aside0 (kq ≤ k) ∧ Aside0 (Kd.V (Kd.int .i64) 3 wc w.heap.size (fun k_ => (P1_ k_ ∨ w.heap.size ≤ k_) ∧ k_ ≠ gb235) (.slice (some ad239) l1.length c1) l1) ∧ Aside0 (wc.heap[gb235]? = some (.cells #[.int .i64 a0_0, .int .i64 a0_1] 25 (0, 0))) ∧ Aside0 (Below w.heap.size w wc))
    case first =>
     as_aux_lemma =>
     have H := HC14.out
     clear HC14
     by_cases c19 : (rd l1 a0_1) = 1
     ·rw [if_pos c19] at H
      have c19b0 : ((rd l1 a0_1) == 1) = true := beq_iff_eq.mpr c19
      have c19b1 : ((rd l1 a0_1) != 1) = false := bne_eq_false_iff_eq.mpr c19
      clear c19
      (first | rw [c19b0] | (simp only [i64_w, i32_w]; rw [c19b0]) | skip)
      have H' := A_ H
      clear H
      have hcz20_0 := c20_ BK235
      have hcz20_1 := c21_ BK235
      have hfz20_0 := blk_frozen BK235.out 0
      have hfz20_1 := blk_frozen BK235.out 1
      go_wp2
      go_loopg [28] k (fun kq v28 w' => ∃ (x28_1 : Int), v28 = .int .i64 x28_1 ∧ Aside0 (impl_Table_smallest.l0 kq l1 a0_0 x28_1 a0_0 a0_1 = some r) ∧ Aside0 (kq ≤ k) ∧ Aside0 (Kd.V (Kd.int .i64) 3 w' w.heap.size (fun k_ => (P1_ k_ ∨ w.heap.size ≤ k_) ∧ k_ ≠ gb235) (.slice (some ad239) l1.length c1) l1) ∧ Aside0 (w'.heap[gb235]? = some (.cells #[.int .i64 a0_0, .int .i64 a0_1] 25 (0, 0))) ∧ Aside0 (Below w.heap.size w w'))
      case atStart => exact ⟨(0), q1_, H', ⟨Nat.le_refl _⟩, ⟨M.Lv HO1⟩, ⟨M.Lb BK235⟩, ⟨q0_⟩⟩
      case round =>
       as_aux_lemma =>
       clear H'; clear c12b0 c13b0 c19b0 c19b1 hcz16_0 hcz16_1 hcz18_0 hcz18_1 hcz20_0 hcz20_1 hfz16_0 hfz16_1 hfz18_0 hfz18_1
       clear hfz20_0 hfz20_1 hx239_0 p239 q239; obtain ⟨x28_1, rfl, HA, HK1, HO_1, BK235, HB⟩ := hrel
       cases gk with
       | zero => exact absurd HA.out (by simp [impl_Table_smallest.l0])
       | succ k1 =>
        have H := HA.out
        clear HA
        simp only [impl_Table_smallest.l0] at H
        by_cases c21 : x28_1 < a0_0
        ·rw [if_pos c21] at H
         have c21b0 : decide (x28_1 < a0_0) = true := decide_eq_true c21
         clear c21
         obtain ⟨y240, hy240⟩ : ∃ y_ : List Int, y_ = (([(97 + ((x28_1) % 256)) % 256] : List Int)) := ⟨_, rfl⟩
         replace H : ((impl_variable.f a0_0 x28_1).bind fun bt243 => (if (a0_0 == bt243.1 && (a0_1 == bt243.2)) = true then (some (strOfNums y240)) else ((impl_Table_not.f bt243.1 bt243.2).bind fun bt246 => (if (a0_0 == bt246.1 && (a0_1 == bt246.2)) = true then (if 1 + (strOfNums y240).size ≤ 9223372036854775807 then (some ((⟨#[33]⟩ : ByteArray) ++ (strOfNums y240))) else (none)) else (impl_Table_smallest.l0 k1 l1 a0_0 (wrap64 (x28_1 + 1)) a0_0 a0_1))))) = some r := by first | (rw [hy240]; with_reducible exact H) | (have H2_ := (Option.bind_some _ _).symm.trans H; rw [hy240]; with_reducible exact H2_) | (have H2_ := (Option.bind_some _ _).symm.trans H; with_reducible exact H2_) | with_reducible exact H | (rw [hy240]; exact H) | exact H
         have Ny240 := A_ hy240; clear hy240; replace H := Option.bind_eq_some_iff.mp H; obtain ⟨⟨t243, t244⟩, A220, H⟩ := H; (try dsimp only at H); have A22 := A_ A220; clear A220
         by_cases c23 : (a0_0 == t243 && (a0_1 == t244)) = true
         ·rw [if_pos c23] at H
          have c23b0 : (a0_0 == t243 && (a0_1 == t244)) = true := c23
          (try (have c23b1 : decide (a0_0 = t243 && (a0_1 == t244)) = true := by simpa using c23))
          (try (have c23b2 : (a0_0 == t243 && (a0_1 == t244)) = true := by simpa using c23))
          clear c23
          obtain rfl := Option.some.inj H
          go_wp2_with (first | ((with_reducible refine gate_dst (N := 34) rfl ?_); refine Kd.R_lit (Kd.int .u8) _ 5 ?hg (N := 34) ?hd (xs := ([(97 + ((x28_1) % 256)) % 256] : List Int)) (inner := [.int .u8 ((97 + ((x28_1) % 256)) % 256)]) (ok := fun _ => True) (okp := fun _ => True) ?hr ?hp (fun _ hk => hk) trivial (Below.refl _ _) (Nat.le_refl _) (by simp) ?_; (case hd => rfl); (case hg => rfl); (case hr => first | (go_simp; done) | (go_simp; rfl)); (case hp => exact (Reps.one (show Kd.M (Kd.int .u8) _ _ _ ((97 + ((x28_1) % 256)) % 256) [.int .u8 ((97 + ((x28_1) % 256)) % 256)] from rfl) (Reps.none _ _))); intro v241 w24 ho25 hb hg_ hnew_; clear hg_ hnew_; (first | rw [← Ny240.out] at ho25 | (simp only [Int.reduceToNat] at ho25; rw [← Ny240.out] at ho25)); replace HO_1 := A_ (Kd.V_elder' (M.Lv HO_1) (Kd.R_base ho25) hb); have HO242 := A_ (Kd.R_lower (Kd.R_newM (M := fun k_ => (w.heap.size ≤ k_)) ho25 (below_size q0_) (fun k_ h_ => h_)) (below_size q0_)); replace BK235 := A_ (blk_below (M.Lb BK235) hb); replace HB := A_ (below_step q0_ hb); clear hb ho25; have hcv26 := own_string (P := Tryz.prog) Tryz.underlying22 Tryz.underlying5 Tryz.underlying9 (Kd.own_of_R HO242.out); have hcz27_0 := c20_ BK235; have hcz27_1 := c21_ BK235; have hfz27_0 := blk_frozen BK235.out 0; have hfz27_1 := blk_frozen BK235.out 1) | ((with_reducible refine gate_callee (f := 71) rfl ?_); refine goesL_ (some 39) rfl rfl Tryz.func71 kr_ rfl #[.int .i64 a0_0, .int .i64 x28_1] rfl q2_ ?_; (with_reducible refine (impl_variable.calls a0_0 x28_1 t243 t244 _ A22.out).mono ?_); rintro e w28 ⟨rfl, hb⟩; refine ⟨_, rfl, ?_⟩; replace HO_1 := A_ (Kd.V_below (M.Lv HO_1) hb); replace HO242 := A_ (Kd.R_below (M.Lr HO242) hb); replace BK235 := A_ (blk_below (M.Lb BK235) hb); replace HB := A_ (below_step q0_ hb); clear hb) | ((with_reducible refine gate_dst (N := 7) rfl ?_); refine box_event ?hg (N := 7) ?hd (cs := #[.int .i64 0, .int .i64 0]) (t := 25) ?hr ?_; (case hd => rfl); (case hg => rfl); (case hr => first | (go_simp; done) | (go_simp; rfl)); intro gb245 hg w29 hbox hb; replace HO_1 := A_ (Kd.V_below (Kd.V_elderB (M.Lv HO_1) gb245 (Nat.le_of_eq hg.symm)) hb); replace HO242 := A_ (Kd.R_below (M.Lr HO242) hb); have BK245 := A_ (hbox); have GW245 := A_ ((by rw [hg]; exact (below_size q0_) : w.heap.size ≤ gb245)); have GE245 := A_ ((by rw [hg]; exact (below_size q0_) : w.heap.size ≤ gb245)); replace HB := A_ (below_step q0_ hb); have NB235_245 := A_ ((by rw [hg]; exact Nat.ne_of_lt (blk_lt (M.Lb BK235)) : gb235 ≠ gb245)); have NB245_235 := A_ ((by rw [hg]; exact Nat.ne_of_gt (blk_lt (M.Lb BK235)) : gb245 ≠ gb235)); replace BK235 := A_ (blk_below (M.Lb BK235) hb); clear hb hbox hg; have hnb30 := NB245_235.out; have hnc30 := NB235_245.out; have hcz31_0 := c20_ BK245; have hcz31_1 := c21_ BK245; have hfz31_0 := blk_frozen BK245.out 0; have hfz31_1 := blk_frozen BK245.out 1; have hcz32_0 := c20_ BK235; have hcz32_1 := c21_ BK235; have hfz32_0 := blk_frozen BK235.out 0; have hfz32_1 := blk_frozen BK235.out 1))
          go_ret
          exact ⟨q6_, q0_⟩
         ·rw [if_neg c23] at H
          have c23b0 : (a0_0 == t243 && (a0_1 == t244)) = false := by simpa using c23
          (try (have c23b1 : decide (a0_0 = t243 && (a0_1 == t244)) = false := by simpa using c23))
          (try (have c23b2 : (a0_0 == t243 && (a0_1 == t244)) = false := by simpa using c23))
          (try (have c23b3 : ¬ (a0_0 = t243 && (a0_1 == t244)) := by simpa using c23))
          clear c23; replace H := Option.bind_eq_some_iff.mp H; obtain ⟨⟨t246, t247⟩, A330, H⟩ := H; (try dsimp only at H); have A33 := A_ A330; clear A330
          by_cases c34 : (a0_0 == t246 && (a0_1 == t247)) = true
          ·rw [if_pos c34] at H
           have c34b0 : (a0_0 == t246 && (a0_1 == t247)) = true := c34
           (try (have c34b1 : decide (a0_0 = t246 && (a0_1 == t247)) = true := by simpa using c34))
           (try (have c34b2 : (a0_0 == t246 && (a0_1 == t247)) = true := by simpa using c34))
           clear c34
           by_cases c35 : 1 + (strOfNums y240).size ≤ 9223372036854775807
           ·rw [if_pos c35] at H
            have c35b0 := eq_true c35
            have c35b1 : decide (1 + (strOfNums y240).size ≤ 9223372036854775807) = true := decide_eq_true c35
            try have c35b2 : (9223372036854775807 < 1 + (strOfNums y240).size) = False := eq_false (Nat.not_lt.2 c35)
            obtain rfl := Option.some.inj H
            go_wp2_with (first | ((with_reducible refine gate_dst (N := 34) rfl ?_); refine Kd.R_lit (Kd.int .u8) _ 5 ?hg (N := 34) ?hd (xs := ([(97 + ((x28_1) % 256)) % 256] : List Int)) (inner := [.int .u8 ((97 + ((x28_1) % 256)) % 256)]) (ok := fun _ => True) (okp := fun _ => True) ?hr ?hp (fun _ hk => hk) trivial (Below.refl _ _) (Nat.le_refl _) (by simp) ?_; (case hd => rfl); (case hg => rfl); (case hr => first | (go_simp; done) | (go_simp; rfl)); (case hp => exact (Reps.one (show Kd.M (Kd.int .u8) _ _ _ ((97 + ((x28_1) % 256)) % 256) [.int .u8 ((97 + ((x28_1) % 256)) % 256)] from rfl) (Reps.none _ _))); intro v241 w36 ho37 hb hg_ hnew_; clear hg_ hnew_; (first | rw [← Ny240.out] at ho37 | (simp only [Int.reduceToNat] at ho37; rw [← Ny240.out] at ho37)); replace HO_1 := A_ (Kd.V_elder' (M.Lv HO_1) (Kd.R_base ho37) hb); have HO242 := A_ (Kd.R_lower (Kd.R_newM (M := fun k_ => (w.heap.size ≤ k_)) ho37 (below_size q0_) (fun k_ h_ => h_)) (below_size q0_)); replace BK235 := A_ (blk_below (M.Lb BK235) hb); replace HB := A_ (below_step q0_ hb); clear hb ho37; have hcv38 := own_string (P := Tryz.prog) Tryz.underlying22 Tryz.underlying5 Tryz.underlying9 (Kd.own_of_R HO242.out); have hcz39_0 := c20_ BK235; have hcz39_1 := c21_ BK235; have hfz39_0 := blk_frozen BK235.out 0; have hfz39_1 := blk_frozen BK235.out 1) | ((with_reducible refine gate_callee (f := 71) rfl ?_); refine goesL_ (some 39) rfl rfl Tryz.func71 kr_ rfl #[.int .i64 a0_0, .int .i64 x28_1] rfl q2_ ?_; (with_reducible refine (impl_variable.calls a0_0 x28_1 t243 t244 _ A22.out).mono ?_); rintro e w40 ⟨rfl, hb⟩; refine ⟨_, rfl, ?_⟩; replace HO_1 := A_ (Kd.V_below (M.Lv HO_1) hb); replace HO242 := A_ (Kd.R_below (M.Lr HO242) hb); replace BK235 := A_ (blk_below (M.Lb BK235) hb); replace HB := A_ (below_step q0_ hb); clear hb) | ((with_reducible refine gate_dst (N := 7) rfl ?_); refine box_event ?hg (N := 7) ?hd (cs := #[.int .i64 0, .int .i64 0]) (t := 25) ?hr ?_; (case hd => rfl); (case hg => rfl); (case hr => first | (go_simp; done) | (go_simp; rfl)); intro gb245 hg w41 hbox hb; replace HO_1 := A_ (Kd.V_below (Kd.V_elderB (M.Lv HO_1) gb245 (Nat.le_of_eq hg.symm)) hb); replace HO242 := A_ (Kd.R_below (M.Lr HO242) hb); have BK245 := A_ (hbox); have GW245 := A_ ((by rw [hg]; exact (below_size q0_) : w.heap.size ≤ gb245)); have GE245 := A_ ((by rw [hg]; exact (below_size q0_) : w.heap.size ≤ gb245)); replace HB := A_ (below_step q0_ hb); have NB235_245 := A_ ((by rw [hg]; exact Nat.ne_of_lt (blk_lt (M.Lb BK235)) : gb235 ≠ gb245)); have NB245_235 := A_ ((by rw [hg]; exact Nat.ne_of_gt (blk_lt (M.Lb BK235)) : gb245 ≠ gb235)); replace BK235 := A_ (blk_below (M.Lb BK235) hb); clear hb hbox hg; have hnb42 := NB245_235.out; have hnc42 := NB235_245.out; have hcz43_0 := c20_ BK245; have hcz43_1 := c21_ BK245; have hfz43_0 := blk_frozen BK245.out 0; have hfz43_1 := blk_frozen BK245.out 1; have hcz44_0 := c20_ BK235; have hcz44_1 := c21_ BK235; have hfz44_0 := blk_frozen BK235.out 0; have hfz44_1 := blk_frozen BK235.out 1) | ((with_reducible refine gate_callee (f := 50) rfl ?_); refine goesL_ (some 47) rfl rfl Tryz.func50 kr_ rfl #[.agg #[.int .i64 t243, .int .i64 t244]] rfl q2_ ?_; (with_reducible refine (impl_Table_not.calls t243 t244 t246 t247 _ A33.out).mono ?_); rintro e w45 ⟨rfl, hb⟩; refine ⟨_, rfl, ?_⟩; replace HO_1 := A_ (Kd.V_below (by (with_reducible repeat (first | apply Kd.V_alloc | apply Kd.V_drewN | apply Kd.V_drew)); exact (Kd.V_mono (Kd.V_far (p := ⟨gb245, 1, none⟩) (Kd.V_far (p := ⟨gb245, 0, none⟩) (Kd.V_mono HO_1.out (fun k_ hk => (⟨hk, hk.2⟩ : _ ∧ k_ ≠ gb245))) (fun _ hk => hk.2) (.int .i64 t243)) (fun _ hk => hk.2) (.int .i64 t244)) (fun _ h_ => h_.1))) hb); replace HO242 := A_ (Kd.R_below (by (with_reducible repeat (first | apply Kd.R_alloc | apply Kd.R_drewN | apply Kd.R_drew)); exact (Kd.R_mono (Kd.R_far (p := ⟨gb245, 1, none⟩) (Kd.R_far (p := ⟨gb245, 0, none⟩) (Kd.R_types HO242.out BK245.out (by decide)) (fun _ hk => hk.2) (.int .i64 t243)) (fun _ hk => hk.2) (.int .i64 t244)) (fun _ h_ => h_.1))) hb); replace BK235 := A_ (blk_below (g := gb235) (o := .cells #[.int .i64 a0_0, .int .i64 a0_1] 25 (0, 0)) (by (with_reducible repeat (first | refine blk_drewN ?_ _ | refine blk_drew ?_ | refine blk_alloc ?_ _)); refine blk_far ?_ NB235_245.out _; (with_reducible repeat (first | refine blk_drewN ?_ _ | refine blk_drew ?_ | refine blk_alloc ?_ _)); refine blk_far ?_ NB235_245.out _; (with_reducible repeat (first | refine blk_drewN ?_ _ | refine blk_drew ?_ | refine blk_alloc ?_ _)); exact BK235.out) hb); replace BK245 := A_ (blk_below (g := gb245) (o := .cells #[.int .i64 t243, .int .i64 t244] 25 (0, 0)) (by (with_reducible repeat (first | refine blk_drewN ?_ _ | refine blk_drew ?_ | refine blk_alloc ?_ _)); refine blk_put (cs := #[.int .i64 t243, .int .i64 0]) ?_ 1 _ rfl; (with_reducible repeat (first | refine blk_drewN ?_ _ | refine blk_drew ?_ | refine blk_alloc ?_ _)); refine blk_put (cs := #[.int .i64 0, .int .i64 0]) ?_ 0 _ rfl; (with_reducible repeat (first | refine blk_drewN ?_ _ | refine blk_drew ?_ | refine blk_alloc ?_ _)); exact BK245.out) hb); replace HB := A_ (below_step q0_ hb); clear hb))
            go_ret
            exact ⟨q6_, q0_⟩
           ·rw [if_neg c35] at H
            exact absurd H (by simp)
          ·rw [if_neg c34] at H
           have c34b0 : (a0_0 == t246 && (a0_1 == t247)) = false := by simpa using c34
           (try (have c34b1 : decide (a0_0 = t246 && (a0_1 == t247)) = false := by simpa using c34))
           (try (have c34b2 : (a0_0 == t246 && (a0_1 == t247)) = false := by simpa using c34))
           (try (have c34b3 : ¬ (a0_0 = t246 && (a0_1 == t247)) := by simpa using c34))
           clear c34
           have H' := A_ H
           clear H
           go_wp2_with (first | ((with_reducible refine gate_dst (N := 34) rfl ?_); refine Kd.R_lit (Kd.int .u8) _ 5 ?hg (N := 34) ?hd (xs := ([(97 + ((x28_1) % 256)) % 256] : List Int)) (inner := [.int .u8 ((97 + ((x28_1) % 256)) % 256)]) (ok := fun _ => True) (okp := fun _ => True) ?hr ?hp (fun _ hk => hk) trivial (Below.refl _ _) (Nat.le_refl _) (by simp) ?_; (case hd => rfl); (case hg => rfl); (case hr => first | (go_simp; done) | (go_simp; rfl)); (case hp => exact (Reps.one (show Kd.M (Kd.int .u8) _ _ _ ((97 + ((x28_1) % 256)) % 256) [.int .u8 ((97 + ((x28_1) % 256)) % 256)] from rfl) (Reps.none _ _))); intro v241 w46 ho47 hb hg_ hnew_; clear hg_ hnew_; (first | rw [← Ny240.out] at ho47 | (simp only [Int.reduceToNat] at ho47; rw [← Ny240.out] at ho47)); replace HO_1 := A_ (Kd.V_elder' (M.Lv HO_1) (Kd.R_base ho47) hb); have HO242 := A_ (Kd.R_lower (Kd.R_newM (M := fun k_ => (w.heap.size ≤ k_)) ho47 (below_size q0_) (fun k_ h_ => h_)) (below_size q0_)); replace BK235 := A_ (blk_below (M.Lb BK235) hb); replace HB := A_ (below_step q0_ hb); clear hb ho47; have hcv48 := own_string (P := Tryz.prog) Tryz.underlying22 Tryz.underlying5 Tryz.underlying9 (Kd.own_of_R HO242.out); have hcz49_0 := c20_ BK235; have hcz49_1 := c21_ BK235; have hfz49_0 := blk_frozen BK235.out 0; have hfz49_1 := blk_frozen BK235.out 1) | ((with_reducible refine gate_callee (f := 71) rfl ?_); refine goesL_ (some 39) rfl rfl Tryz.func71 kr_ rfl #[.int .i64 a0_0, .int .i64 x28_1] rfl q2_ ?_; (with_reducible refine (impl_variable.calls a0_0 x28_1 t243 t244 _ A22.out).mono ?_); rintro e w50 ⟨rfl, hb⟩; refine ⟨_, rfl, ?_⟩; replace HO_1 := A_ (Kd.V_below (M.Lv HO_1) hb); replace HO242 := A_ (Kd.R_below (M.Lr HO242) hb); replace BK235 := A_ (blk_below (M.Lb BK235) hb); replace HB := A_ (below_step q0_ hb); clear hb) | ((with_reducible refine gate_dst (N := 7) rfl ?_); refine box_event ?hg (N := 7) ?hd (cs := #[.int .i64 0, .int .i64 0]) (t := 25) ?hr ?_; (case hd => rfl); (case hg => rfl); (case hr => first | (go_simp; done) | (go_simp; rfl)); intro gb245 hg w51 hbox hb; replace HO_1 := A_ (Kd.V_below (Kd.V_elderB (M.Lv HO_1) gb245 (Nat.le_of_eq hg.symm)) hb); replace HO242 := A_ (Kd.R_below (M.Lr HO242) hb); have BK245 := A_ (hbox); have GW245 := A_ ((by rw [hg]; exact (below_size q0_) : w.heap.size ≤ gb245)); have GE245 := A_ ((by rw [hg]; exact (below_size q0_) : w.heap.size ≤ gb245)); replace HB := A_ (below_step q0_ hb); have NB235_245 := A_ ((by rw [hg]; exact Nat.ne_of_lt (blk_lt (M.Lb BK235)) : gb235 ≠ gb245)); have NB245_235 := A_ ((by rw [hg]; exact Nat.ne_of_gt (blk_lt (M.Lb BK235)) : gb245 ≠ gb235)); replace BK235 := A_ (blk_below (M.Lb BK235) hb); clear hb hbox hg; have hnb52 := NB245_235.out; have hnc52 := NB235_245.out; have hcz53_0 := c20_ BK245; have hcz53_1 := c21_ BK245; have hfz53_0 := blk_frozen BK245.out 0; have hfz53_1 := blk_frozen BK245.out 1; have hcz54_0 := c20_ BK235; have hcz54_1 := c21_ BK235; have hfz54_0 := blk_frozen BK235.out 0; have hfz54_1 := blk_frozen BK235.out 1) | ((with_reducible refine gate_callee (f := 50) rfl ?_); refine goesL_ (some 47) rfl rfl Tryz.func50 kr_ rfl #[.agg #[.int .i64 t243, .int .i64 t244]] rfl q2_ ?_; (with_reducible refine (impl_Table_not.calls t243 t244 t246 t247 _ A33.out).mono ?_); rintro e w55 ⟨rfl, hb⟩; refine ⟨_, rfl, ?_⟩; replace HO_1 := A_ (Kd.V_below (by (with_reducible repeat (first | apply Kd.V_alloc | apply Kd.V_drewN | apply Kd.V_drew)); exact (Kd.V_mono (Kd.V_far (p := ⟨gb245, 1, none⟩) (Kd.V_far (p := ⟨gb245, 0, none⟩) (Kd.V_mono HO_1.out (fun k_ hk => (⟨hk, hk.2⟩ : _ ∧ k_ ≠ gb245))) (fun _ hk => hk.2) (.int .i64 t243)) (fun _ hk => hk.2) (.int .i64 t244)) (fun _ h_ => h_.1))) hb); replace HO242 := A_ (Kd.R_below (by (with_reducible repeat (first | apply Kd.R_alloc | apply Kd.R_drewN | apply Kd.R_drew)); exact (Kd.R_mono (Kd.R_far (p := ⟨gb245, 1, none⟩) (Kd.R_far (p := ⟨gb245, 0, none⟩) (Kd.R_types HO242.out BK245.out (by decide)) (fun _ hk => hk.2) (.int .i64 t243)) (fun _ hk => hk.2) (.int .i64 t244)) (fun _ h_ => h_.1))) hb); replace BK235 := A_ (blk_below (g := gb235) (o := .cells #[.int .i64 a0_0, .int .i64 a0_1] 25 (0, 0)) (by (with_reducible repeat (first | refine blk_drewN ?_ _ | refine blk_drew ?_ | refine blk_alloc ?_ _)); refine blk_far ?_ NB235_245.out _; (with_reducible repeat (first | refine blk_drewN ?_ _ | refine blk_drew ?_ | refine blk_alloc ?_ _)); refine blk_far ?_ NB235_245.out _; (with_reducible repeat (first | refine blk_drewN ?_ _ | refine blk_drew ?_ | refine blk_alloc ?_ _)); exact BK235.out) hb); replace BK245 := A_ (blk_below (g := gb245) (o := .cells #[.int .i64 t243, .int .i64 t244] 25 (0, 0)) (by (with_reducible repeat (first | refine blk_drewN ?_ _ | refine blk_drew ?_ | refine blk_alloc ?_ _)); refine blk_put (cs := #[.int .i64 t243, .int .i64 0]) ?_ 1 _ rfl; (with_reducible repeat (first | refine blk_drewN ?_ _ | refine blk_drew ?_ | refine blk_alloc ?_ _)); refine blk_put (cs := #[.int .i64 0, .int .i64 0]) ?_ 0 _ rfl; (with_reducible repeat (first | refine blk_drewN ?_ _ | refine blk_drew ?_ | refine blk_alloc ?_ _)); exact BK245.out) hb); replace HB := A_ (below_step q0_ hb); clear hb))
           go_roundg k1
           case measure => have := HK1.out; omega
           case rel => exact ⟨(wrap64 (x28_1 + 1)), q1_, H', ⟨by have := HK1.out; omega⟩, ⟨by (with_reducible repeat (first | apply Kd.V_alloc | apply Kd.V_drewN | apply Kd.V_drew)); exact Kd.V_mono HO_1.out (fun _ hk => ⟨hk.1.1.1, hk.1.1.2⟩)⟩, ⟨M.Lb BK235⟩, ⟨q0_⟩⟩
        ·rw [if_neg c21] at H
         have c21b0 : decide (x28_1 < a0_0) = false := decide_eq_false c21
         clear c21
         have H' := A_ H
         clear H
         go_wp2
         go_meet
         case rel => exact ⟨_, H', ⟨by have := HK1.out; first | omega | exact Nat.le_refl _⟩, ⟨M.Lv HO_1⟩, ⟨M.Lb BK235⟩, ⟨q0_⟩⟩
     ·rw [if_neg c19] at H
      have c19b0 : ((rd l1 a0_1) == 1) = false := beq_eq_false_iff_ne.mpr c19
      have c19b1 : ((rd l1 a0_1) != 1) = true := bne_iff_ne.mpr c19
      (first | rw [c19b0] | (simp only [i64_w, i32_w]; rw [c19b0]) | skip)
      have H' := A_ H
      clear H
      go_wp2
      go_meet
      case rel => exact ⟨_, H', ⟨q12_⟩, ⟨M.Lv HO1⟩, ⟨M.Lb BK235⟩, ⟨q0_⟩⟩
    case rest =>
     as_aux_lemma =>
     clear HC14; clear c12b0 c13b0
     clear hcz16_0 hcz16_1 hcz18_0 hcz18_1
     clear hfz16_0 hfz16_1 hfz18_0 hfz18_1
     clear hx239_0 p239 q239; obtain ⟨kq, HA, HJ13, HO_1, BK235, HB⟩ := hcut
     cases kq with
     | zero => exact absurd HA.out (by simp [impl_Table_smallest.j1])
     | succ kj13 =>
      have H := HA.out
      clear HA
      simp only [impl_Table_smallest.j1] at H
      obtain ⟨y248, hy248⟩ : ∃ y_ : List Int, y_ = (([38, 124] : List Int)) := ⟨_, rfl⟩
      replace H : (impl_Table_smallest.l1 kj13 l1 y248 (y248.length : Int) 0 a0_0 a0_1) = some r := by first | (rw [hy248]; with_reducible exact H) | (have H2_ := (Option.bind_some _ _).symm.trans H; rw [hy248]; with_reducible exact H2_) | (have H2_ := (Option.bind_some _ _).symm.trans H; with_reducible exact H2_) | with_reducible exact H | (rw [hy248]; exact H) | exact H
      have Ny248 := A_ hy248; clear hy248
      have H' := A_ H
      clear H
      obtain ⟨Ao58, co58, wd_, kc_, hb, hbase_, hV_⟩ := Go.Proofs.YtfoopehlmnejaaaGreatDoor.M.two_made (P := Tryz.prog) wc 22 5 38 124 Tryz.underlying22 Tryz.underlying5 Ny248.out
      have n0_ := A_ (Kd.V_elder' (u := (.slice Ao58 y248.length co58)) HO_1.out hbase_ hb)
      have n1_ := A_ (hV_ w.heap.size (fun k_ => (w.heap.size ≤ k_)) (fun k_ h_ => Nat.le_trans HB.out.size h_))
      have n2_ := A_ (blk_below BK235.out hb)
      have n3_ := A_ (below_step HB.out hb)
      clear HO_1; clear BK235; clear HB; have HO_1 := n0_; have HO250 := n1_; have BK235 := n2_; have HB := n3_; clear n0_ n1_ n2_ n3_; clear hb hbase_ hV_
      go_wp2
      go_loopg [55] kj13 (fun kq v55 w' => ∃ (x55_2 : Int), v55 = .int .i64 x55_2 ∧ Aside0 (impl_Table_smallest.l1 kq l1 y248 (y248.length : Int) x55_2 a0_0 a0_1 = some r) ∧ Aside0 (kq ≤ kj13) ∧ Aside0 (Kd.V (Kd.int .i64) 3 w' w.heap.size (fun k_ => (P1_ k_ ∨ w.heap.size ≤ k_) ∧ some k_ ≠ ((.slice Ao58 y248.length co58) : Value).ownBlock ∧ k_ ≠ gb235) (.slice (some ad239) l1.length c1) l1) ∧ Aside0 (Kd.V (Kd.int .u8) 5 w' w.heap.size (fun k_ => (w.heap.size ≤ k_)) (.slice Ao58 y248.length co58) y248) ∧ Aside0 (w'.heap[gb235]? = some (.cells #[.int .i64 a0_0, .int .i64 a0_1] 25 (0, 0))) ∧ Aside0 (Below w.heap.size w w'))
      case atStart => exact ⟨(0), q1_, H', ⟨Nat.le_refl _⟩, ⟨by (with_reducible repeat (first | apply Kd.V_alloc | apply Kd.V_drewN | apply Kd.V_drew)); exact Kd.V_mono HO_1.out (fun _ hk => ⟨hk.1.1, ⟨hk.2, hk.1.2⟩⟩)⟩, ⟨by (with_reducible repeat (first | apply Kd.V_alloc | apply Kd.V_drewN | apply Kd.V_drew)); exact Kd.V_mono HO250.out (fun _ hk => hk)⟩, ⟨M.Lb BK235⟩, ⟨q0_⟩⟩
      case round =>
       as_aux_lemma =>
       clear H'
       skip
       skip
       obtain ⟨x55_2, rfl, HA, HK2, HO_1, HO_53, BK235, HB⟩ := hrel
       cases gk with
       | zero => exact absurd HA.out (by simp [impl_Table_smallest.l1])
       | succ k2 =>
        have H := HA.out
        clear HA
        simp only [impl_Table_smallest.l1] at H
        by_cases c59 : x55_2 < (y248.length : Int)
        ·rw [if_pos c59] at H
         have c59b0 : decide (x55_2 < (y248.length : Int)) = true := decide_eq_true c59
         clear c59
         by_cases c60 : 0 ≤ x55_2
         ·rw [if_pos c60] at H
          have c60b0 : decide (0 ≤ x55_2) = true := decide_eq_true c60
          clear c60
          by_cases c61 : x55_2 < (y248.length : Int)
          ·rw [if_pos c61] at H
           have c61b0 : decide (x55_2 < (y248.length : Int)) = true := decide_eq_true c61
           clear c61
           have H' := A_ H
           clear H
           have p251 : 0 ≤ (x55_2 : Int) := of_decide_eq_true q8_
           have q251 : x55_2 < (y248.length : Int) := of_decide_eq_true q8_
           obtain ⟨ad251, e251, hx251_0⟩ := Kd.at_int (Kd.V_reads' HO_53.out).2.2 x55_2 p251 q251
           cases e251
           replace p251 := eq_true p251
           replace q251 := eq_true q251
           go_wp2
           go_loopg [61] k2 (fun kq v61 w' => ∃ (x61_3 : Int), v61 = .int .i64 x61_3 ∧ Aside0 (impl_Table_smallest.l2 kq l1 (rd y248 x55_2) y248 (y248.length : Int) x55_2 l1 (l1.length : Int) x61_3 a0_0 a0_1 = some r) ∧ Aside0 (kq ≤ k2) ∧ Aside0 (Kd.V (Kd.int .i64) 3 w' w.heap.size (fun k_ => (P1_ k_ ∨ w.heap.size ≤ k_) ∧ some k_ ≠ ((.slice (some ad251) y248.length co58) : Value).ownBlock ∧ k_ ≠ gb235) (.slice (some ad239) l1.length c1) l1) ∧ Aside0 (Kd.V (Kd.int .u8) 5 w' w.heap.size (fun k_ => (w.heap.size ≤ k_)) (.slice (some ad251) y248.length co58) y248) ∧ Aside0 (Kd.V (Kd.int .i64) 3 w' w.heap.size (fun k_ => (P1_ k_ ∨ w.heap.size ≤ k_) ∧ some k_ ≠ ((.slice (some ad251) y248.length co58) : Value).ownBlock ∧ k_ ≠ gb235) (.slice (some ad239) l1.length c1) l1) ∧ Aside0 (w'.heap[gb235]? = some (.cells #[.int .i64 a0_0, .int .i64 a0_1] 25 (0, 0))) ∧ Aside0 (Below w.heap.size w w'))
           case atStart => exact ⟨(0), q1_, H', ⟨Nat.le_refl _⟩, ⟨M.Lv HO_1⟩, ⟨M.Lv HO_53⟩, ⟨M.Lv HO_1⟩, ⟨M.Lb BK235⟩, ⟨q0_⟩⟩
           case round =>
            as_aux_lemma =>
            clear H'
            clear c59b0 c60b0 c61b0
            skip
            clear hx251_0 p251 q251
            obtain ⟨x61_3, rfl, HA, HK3, HO_1, HO_53, HO_59, BK235, HB⟩ := hrel
            cases gk with
            | zero => exact absurd HA.out (by simp [impl_Table_smallest.l2])
            | succ k3 =>
             have H := HA.out
             clear HA
             simp only [impl_Table_smallest.l2] at H
             by_cases c62 : x61_3 < (l1.length : Int)
             ·rw [if_pos c62] at H
              have c62b0 : decide (x61_3 < (l1.length : Int)) = true := decide_eq_true c62
              clear c62
              by_cases c63 : 0 ≤ x61_3
              ·rw [if_pos c63] at H
               have c63b0 : decide (0 ≤ x61_3) = true := decide_eq_true c63
               clear c63
               by_cases c64 : x61_3 < (l1.length : Int)
               ·rw [if_pos c64] at H
                have c64b0 : decide (x61_3 < (l1.length : Int)) = true := decide_eq_true c64
                clear c64; have HC65 := A_ H; clear H
                have p252 : 0 ≤ (x61_3 : Int) := of_decide_eq_true q8_
                have q252 : x61_3 < (l1.length : Int) := of_decide_eq_true q8_
                obtain ⟨ad252, e252, hx252_0⟩ := Kd.at_int (Kd.V_reads' HO_59.out).2.2 x61_3 p252 q252
                obtain rfl : ad239 = ad252 := (by injection e252)
                replace p252 := eq_true p252
                replace q252 := eq_true q252
                go_upto_region 21 with (fail)
                go_cut [76] (fun v76 wc => ∃ (kq : Nat) (x76_64 : Bool), v76 = .bool x76_64 ∧ Aside0 (impl_Table_smallest.j4 kq l1 (rd y248 x55_2) x61_3 (rd l1 x61_3) y248 (y248.length : Int) x55_2 l1 (l1.length : Int) x61_3 x76_64 a0_0 a0_1 = some r) ∧ Aside0 (kq ≤ k3) ∧ Aside0 (Kd.V (Kd.int .i64) 3 wc w.heap.size (fun k_ => (P1_ k_ ∨ w.heap.size ≤ k_) ∧ some k_ ≠ ((.slice (some ad251) y248.length co58) : Value).ownBlock ∧ k_ ≠ gb235) (.slice (some ad239) l1.length c1) l1) ∧ Aside0 (Kd.V (Kd.int .u8) 5 wc w.heap.size (fun k_ => (w.heap.size ≤ k_)) (.slice (some ad251) y248.length co58) y248) ∧ Aside0 (Kd.V (Kd.int .i64) 3 wc w.heap.size (fun k_ => (P1_ k_ ∨ w.heap.size ≤ k_) ∧ some k_ ≠ ((.slice (some ad251) y248.length co58) : Value).ownBlock ∧ k_ ≠ gb235) (.slice (some ad239) l1.length c1) l1) ∧ Aside0 (wc.heap[gb235]? = some (.cells #[.int .i64 a0_0, .int .i64 a0_1] 25 (0, 0))) ∧ Aside0 (Below w.heap.size w wc))
                case first =>
                 as_aux_lemma =>
                 have H := HC65.out
                 clear HC65
                 by_cases c66 : (rd l1 x61_3) < 1
                 ·rw [if_pos c66] at H
                  have c66b0 : decide ((rd l1 x61_3) < 1) = true := decide_eq_true c66
                  clear c66
                  (first | rw [c66b0] | (simp only [i64_w, i32_w]; rw [c66b0]) | skip)
                  have H' := A_ H
                  clear H
                  go_wp2
                  go_meet
                  case rel => exact ⟨_, (true), q1_, H', ⟨by have := HJ13.out; have := HK2.out; have := HK3.out; first | omega | exact Nat.le_refl _⟩, ⟨M.Lv HO_1⟩, ⟨M.Lv HO_53⟩, ⟨M.Lv HO_59⟩, ⟨M.Lb BK235⟩, ⟨q0_⟩⟩
                 ·rw [if_neg c66] at H
                  have c66b0 : decide ((rd l1 x61_3) < 1) = false := decide_eq_false c66
                  clear c66
                  (first | rw [c66b0] | (simp only [i64_w, i32_w]; rw [c66b0]) | skip)
                  by_cases c67 : 0 ≤ a0_1
                  ·rw [if_pos c67] at H
                   have c67b0 : decide (0 ≤ a0_1) = true := decide_eq_true c67
                   clear c67
                   by_cases c68 : a0_1 < (l1.length : Int)
                   ·rw [if_pos c68] at H
                    have c68b0 : decide (a0_1 < (l1.length : Int)) = true := decide_eq_true c68
                    clear c68
                    have H' := A_ H
                    clear H
                    have hcz69_0 := c20_ BK235
                    have hcz69_1 := c21_ BK235
                    have hfz69_0 := blk_frozen BK235.out 0
                    have hfz69_1 := blk_frozen BK235.out 1
                    have p253 : 0 ≤ (a0_1 : Int) := of_decide_eq_true q8_
                    have q253 : a0_1 < (l1.length : Int) := of_decide_eq_true q8_
                    obtain ⟨ad253, e253, hx253_0⟩ := Kd.at_int (Kd.V_reads' HO_1.out).2.2 a0_1 p253 q253
                    obtain rfl : ad239 = ad253 := (by injection e253)
                    replace p253 := eq_true p253
                    replace q253 := eq_true q253
                    go_wp2
                    go_meet
                    case rel => exact ⟨_, (decide ((rd l1 x61_3) ≥ (rd l1 a0_1))), q1_, H', ⟨by have := HJ13.out; have := HK2.out; have := HK3.out; first | omega | exact Nat.le_refl _⟩, ⟨M.Lv HO_1⟩, ⟨M.Lv HO_53⟩, ⟨M.Lv HO_59⟩, ⟨M.Lb BK235⟩, ⟨q0_⟩⟩
                   ·rw [if_neg c68] at H
                    exact absurd H (by simp)
                  ·rw [if_neg c67] at H
                   exact absurd H (by simp)
                case rest =>
                 as_aux_lemma =>
                 clear HC65
                 clear c62b0 c63b0 c64b0
                 skip
                 skip
                 clear hx252_0 p252 q252; obtain ⟨kq, x76_64, rfl, HA, HJ64, HO_1, HO_53, HO_59, BK235, HB⟩ := hcut
                 cases kq with
                 | zero => exact absurd HA.out (by simp [impl_Table_smallest.j4])
                 | succ kj64 =>
                  have H := HA.out
                  clear HA
                  simp only [impl_Table_smallest.j4] at H
                  by_cases c70 : x76_64 = true
                  ·subst c70
                   have H1 : (impl_Table_smallest.l2 kj64 l1 (rd y248 x55_2) y248 (y248.length : Int) x55_2 l1 (l1.length : Int) (wrap64 (x61_3 + 1)) a0_0 a0_1) = some r := by rw [if_pos rfl] at H; exact H
                   clear H; have H := H1; clear H1
                   have H' := A_ H
                   clear H
                   go_wp2
                   go_roundg kj64
                   case measure => have := HJ13.out; have := HK2.out; have := HK3.out; have := HJ64.out; omega
                   case rel => exact ⟨(wrap64 (x61_3 + 1)), q1_, H', ⟨by have := HJ13.out; have := HK2.out; have := HK3.out; have := HJ64.out; omega⟩, ⟨M.Lv HO_1⟩, ⟨M.Lv HO_53⟩, ⟨M.Lv HO_59⟩, ⟨M.Lb BK235⟩, ⟨q0_⟩⟩
                  ·replace c70 := Bool.eq_false_iff.mpr c70
                   subst c70
                   have H1 : (impl_Table_smallest.l3 kj64 l1 (rd y248 x55_2) x61_3 (rd l1 x61_3) y248 (y248.length : Int) x55_2 l1 (l1.length : Int) x61_3 l1 (l1.length : Int) 0 a0_0 a0_1) = some r := by rw [if_neg (show ¬ (false = true) by decide)] at H; exact H
                   clear H; have H := H1; clear H1
                   have H' := A_ H
                   clear H
                   go_wp2
                   go_loopg [79] kj64 (fun kq v79 w' => ∃ (x79_5 : Int), v79 = .int .i64 x79_5 ∧ Aside0 (impl_Table_smallest.l3 kq l1 (rd y248 x55_2) x61_3 (rd l1 x61_3) y248 (y248.length : Int) x55_2 l1 (l1.length : Int) x61_3 l1 (l1.length : Int) x79_5 a0_0 a0_1 = some r) ∧ Aside0 (kq ≤ kj64) ∧ Aside0 (Kd.V (Kd.int .i64) 3 w' w.heap.size (fun k_ => (P1_ k_ ∨ w.heap.size ≤ k_) ∧ some k_ ≠ ((.slice (some ad251) y248.length co58) : Value).ownBlock ∧ k_ ≠ gb235) (.slice (some ad239) l1.length c1) l1) ∧ Aside0 (Kd.V (Kd.int .u8) 5 w' w.heap.size (fun k_ => (w.heap.size ≤ k_)) (.slice (some ad251) y248.length co58) y248) ∧ Aside0 (Kd.V (Kd.int .i64) 3 w' w.heap.size (fun k_ => (P1_ k_ ∨ w.heap.size ≤ k_) ∧ some k_ ≠ ((.slice (some ad251) y248.length co58) : Value).ownBlock ∧ k_ ≠ gb235) (.slice (some ad239) l1.length c1) l1) ∧ Aside0 (Kd.V (Kd.int .i64) 3 w' w.heap.size (fun k_ => (P1_ k_ ∨ w.heap.size ≤ k_) ∧ some k_ ≠ ((.slice (some ad251) y248.length co58) : Value).ownBlock ∧ k_ ≠ gb235) (.slice (some ad239) l1.length c1) l1) ∧ Aside0 (w'.heap[gb235]? = some (.cells #[.int .i64 a0_0, .int .i64 a0_1] 25 (0, 0))) ∧ Aside0 (Below w.heap.size w w'))
                   case atStart => exact ⟨(0), q1_, H', ⟨Nat.le_refl _⟩, ⟨M.Lv HO_1⟩, ⟨M.Lv HO_53⟩, ⟨M.Lv HO_59⟩, ⟨M.Lv HO_1⟩, ⟨M.Lb BK235⟩, ⟨q0_⟩⟩
                   case round =>
                    as_aux_lemma =>
                    clear H'
                    skip
                    skip
                    skip
                    obtain ⟨x79_5, rfl, HA, HK5, HO_1, HO_53, HO_59, HO_77, BK235, HB⟩ := hrel
                    cases gk with
                    | zero => exact absurd HA.out (by simp [impl_Table_smallest.l3])
                    | succ k5 =>
                     have H := HA.out
                     clear HA
                     simp only [impl_Table_smallest.l3] at H
                     by_cases c71 : x79_5 < (l1.length : Int)
                     ·rw [if_pos c71] at H
                      have c71b0 : decide (x79_5 < (l1.length : Int)) = true := decide_eq_true c71
                      clear c71
                      by_cases c72 : 0 ≤ x79_5
                      ·rw [if_pos c72] at H
                       have c72b0 : decide (0 ≤ x79_5) = true := decide_eq_true c72
                       clear c72
                       by_cases c73 : x79_5 < (l1.length : Int)
                       ·rw [if_pos c73] at H
                        have c73b0 : decide (x79_5 < (l1.length : Int)) = true := decide_eq_true c73
                        clear c73; have HC74 := A_ H; clear H
                        have p254 : 0 ≤ (x79_5 : Int) := of_decide_eq_true q8_
                        have q254 : x79_5 < (l1.length : Int) := of_decide_eq_true q8_
                        obtain ⟨ad254, e254, hx254_0⟩ := Kd.at_int (Kd.V_reads' HO_77.out).2.2 x79_5 p254 q254
                        obtain rfl : ad239 = ad254 := (by injection e254)
                        replace p254 := eq_true p254
                        replace q254 := eq_true q254
                        go_upto_if 88 with (fail)
                        go_cut [14] (fun v14 wc => ∃ (kq : Nat) (x14_73 : Int), v14 = .int .i64 x14_73 ∧ Aside0 (impl_Table_smallest.j6 kq l1 (rd y248 x55_2) x61_3 (rd l1 x61_3) x79_5 (rd l1 x79_5) x14_73 y248 (y248.length : Int) x55_2 l1 (l1.length : Int) x61_3 l1 (l1.length : Int) x79_5 a0_0 a0_1 = some r) ∧ Aside0 (kq ≤ k5) ∧ Aside0 (Kd.V (Kd.int .i64) 3 wc w.heap.size (fun k_ => (P1_ k_ ∨ w.heap.size ≤ k_) ∧ some k_ ≠ ((.slice (some ad251) y248.length co58) : Value).ownBlock ∧ k_ ≠ gb235) (.slice (some ad239) l1.length c1) l1) ∧ Aside0 (Kd.V (Kd.int .u8) 5 wc w.heap.size (fun k_ => (w.heap.size ≤ k_)) (.slice (some ad251) y248.length co58) y248) ∧ Aside0 (Kd.V (Kd.int .i64) 3 wc w.heap.size (fun k_ => (P1_ k_ ∨ w.heap.size ≤ k_) ∧ some k_ ≠ ((.slice (some ad251) y248.length co58) : Value).ownBlock ∧ k_ ≠ gb235) (.slice (some ad239) l1.length c1) l1) ∧ Aside0 (Kd.V (Kd.int .i64) 3 wc w.heap.size (fun k_ => (P1_ k_ ∨ w.heap.size ≤ k_) ∧ some k_ ≠ ((.slice (some ad251) y248.length co58) : Value).ownBlock ∧ k_ ≠ gb235) (.slice (some ad239) l1.length c1) l1) ∧ Aside0 (wc.heap[gb235]? = some (.cells #[.int .i64 a0_0, .int .i64 a0_1] 25 (0, 0))) ∧ Aside0 (Below w.heap.size w wc))
                        case first =>
                         as_aux_lemma =>
                         have H := HC74.out
                         clear HC74
                         by_cases c75 : (rd y248 x55_2) = 124
                         ·rw [if_pos c75] at H
                          have c75b0 : ((rd y248 x55_2) == 124) = true := beq_iff_eq.mpr c75
                          have c75b1 : ((rd y248 x55_2) != 124) = false := bne_eq_false_iff_eq.mpr c75
                          clear c75
                          (first | rw [c75b0] | (simp only [i64_w, i32_w]; rw [c75b0]) | skip)
                          have H' := A_ H
                          clear H
                          go_wp2
                          go_meet
                          case rel => exact ⟨_, (Go.bits .or .i64 x61_3 x79_5), q1_, H', ⟨by have := HJ13.out; have := HK2.out; have := HK3.out; have := HJ64.out; have := HK5.out; first | omega | exact Nat.le_refl _⟩, ⟨M.Lv HO_1⟩, ⟨M.Lv HO_53⟩, ⟨M.Lv HO_59⟩, ⟨M.Lv HO_77⟩, ⟨M.Lb BK235⟩, ⟨q0_⟩⟩
                         ·rw [if_neg c75] at H
                          have c75b0 : ((rd y248 x55_2) == 124) = false := beq_eq_false_iff_ne.mpr c75
                          have c75b1 : ((rd y248 x55_2) != 124) = true := bne_iff_ne.mpr c75
                          (first | rw [c75b0] | (simp only [i64_w, i32_w]; rw [c75b0]) | skip)
                          have H' := A_ H
                          clear H
                          go_wp2
                          go_meet
                          case rel => exact ⟨_, (Go.bits .and .i64 x61_3 x79_5), q1_, H', ⟨by have := HJ13.out; have := HK2.out; have := HK3.out; have := HJ64.out; have := HK5.out; first | omega | exact Nat.le_refl _⟩, ⟨M.Lv HO_1⟩, ⟨M.Lv HO_53⟩, ⟨M.Lv HO_59⟩, ⟨M.Lv HO_77⟩, ⟨M.Lb BK235⟩, ⟨q0_⟩⟩
                        case rest =>
                         as_aux_lemma =>
                         clear HC74
                         skip
                         clear c71b0 c72b0 c73b0
                         skip
                         clear hx254_0
                         clear p254 q254; obtain ⟨kq, x14_73, rfl, HA, HJ73, HO_1, HO_53, HO_59, HO_77, BK235, HB⟩ := hcut
                         cases kq with
                         | zero => exact absurd HA.out (by simp [impl_Table_smallest.j6])
                         | succ kj73 =>
                          have H := HA.out
                          clear HA
                          simp only [impl_Table_smallest.j6] at H
                          have HC76 := A_ H; clear H
                          go_upto_region 28 with (fail)
                          go_cut [110] (fun v110 wc => ∃ (kq : Nat) (x110_75 : Bool), v110 = .bool x110_75 ∧ Aside0 (impl_Table_smallest.j7 kq l1 (rd y248 x55_2) x61_3 (rd l1 x61_3) x79_5 y248 (y248.length : Int) x55_2 l1 (l1.length : Int) x61_3 l1 (l1.length : Int) x79_5 x110_75 a0_0 a0_1 = some r) ∧ Aside0 (kq ≤ kj73) ∧ Aside0 (Kd.V (Kd.int .i64) 3 wc w.heap.size (fun k_ => (P1_ k_ ∨ w.heap.size ≤ k_) ∧ some k_ ≠ ((.slice (some ad251) y248.length co58) : Value).ownBlock ∧ k_ ≠ gb235) (.slice (some ad239) l1.length c1) l1) ∧ Aside0 (Kd.V (Kd.int .u8) 5 wc w.heap.size (fun k_ => (w.heap.size ≤ k_)) (.slice (some ad251) y248.length co58) y248) ∧ Aside0 (Kd.V (Kd.int .i64) 3 wc w.heap.size (fun k_ => (P1_ k_ ∨ w.heap.size ≤ k_) ∧ some k_ ≠ ((.slice (some ad251) y248.length co58) : Value).ownBlock ∧ k_ ≠ gb235) (.slice (some ad239) l1.length c1) l1) ∧ Aside0 (Kd.V (Kd.int .i64) 3 wc w.heap.size (fun k_ => (P1_ k_ ∨ w.heap.size ≤ k_) ∧ some k_ ≠ ((.slice (some ad251) y248.length co58) : Value).ownBlock ∧ k_ ≠ gb235) (.slice (some ad239) l1.length c1) l1) ∧ Aside0 (wc.heap[gb235]? = some (.cells #[.int .i64 a0_0, .int .i64 a0_1] 25 (0, 0))) ∧ Aside0 (Below w.heap.size w wc))
                          case first =>
                           as_aux_lemma =>
                           have H := HC76.out
                           clear HC76
                           by_cases c77 : (rd l1 x79_5) ≥ 1
                           ·rw [if_pos c77] at H
                            have c77b0 : decide (1 ≤ (rd l1 x79_5)) = true := decide_eq_true c77
                            clear c77
                            (first | rw [c77b0] | (simp only [i64_w, i32_w]; rw [c77b0]) | skip)
                            by_cases c78 : 0 ≤ a0_1
                            ·rw [if_pos c78] at H
                             have c78b0 : decide (0 ≤ a0_1) = true := decide_eq_true c78
                             clear c78
                             by_cases c79 : a0_1 < (l1.length : Int)
                             ·rw [if_pos c79] at H
                              have c79b0 : decide (a0_1 < (l1.length : Int)) = true := decide_eq_true c79
                              clear c79
                              by_cases c80 : (wrap64 ((rd l1 x61_3) + (rd l1 x79_5))) = (rd l1 a0_1)
                              ·rw [if_pos c80] at H
                               have c80b0 : ((wrap64 ((rd l1 x61_3) + (rd l1 x79_5))) == (rd l1 a0_1)) = true := beq_iff_eq.mpr c80
                               have c80b1 : ((wrap64 ((rd l1 x61_3) + (rd l1 x79_5))) != (rd l1 a0_1)) = false := bne_eq_false_iff_eq.mpr c80
                               clear c80
                               have H' := A_ H
                               clear H
                               have hcz81_0 := c20_ BK235
                               have hcz81_1 := c21_ BK235
                               have hfz81_0 := blk_frozen BK235.out 0
                               have hfz81_1 := blk_frozen BK235.out 1
                               have p255 : 0 ≤ (a0_1 : Int) := of_decide_eq_true q8_
                               have q255 : a0_1 < (l1.length : Int) := of_decide_eq_true q8_
                               obtain ⟨ad255, e255, hx255_0⟩ := Kd.at_int (Kd.V_reads' HO_1.out).2.2 a0_1 p255 q255
                               obtain rfl : ad239 = ad255 := (by injection e255)
                               replace p255 := eq_true p255
                               replace q255 := eq_true q255
                               go_wp2
                               go_meet
                               case rel => exact ⟨_, ((x14_73 == a0_1)), q1_, H', ⟨by have := HJ13.out; have := HK2.out; have := HK3.out; have := HJ64.out; have := HK5.out; have := HJ73.out; first | omega | exact Nat.le_refl _⟩, ⟨M.Lv HO_1⟩, ⟨M.Lv HO_53⟩, ⟨M.Lv HO_59⟩, ⟨M.Lv HO_77⟩, ⟨M.Lb BK235⟩, ⟨q0_⟩⟩
                              ·rw [if_neg c80] at H
                               have c80b0 : ((wrap64 ((rd l1 x61_3) + (rd l1 x79_5))) == (rd l1 a0_1)) = false := beq_eq_false_iff_ne.mpr c80
                               have c80b1 : ((wrap64 ((rd l1 x61_3) + (rd l1 x79_5))) != (rd l1 a0_1)) = true := bne_iff_ne.mpr c80
                               have H' := A_ H
                               clear H
                               have hcz82_0 := c20_ BK235
                               have hcz82_1 := c21_ BK235
                               have hfz82_0 := blk_frozen BK235.out 0
                               have hfz82_1 := blk_frozen BK235.out 1
                               have p255 : 0 ≤ (a0_1 : Int) := of_decide_eq_true q8_
                               have q255 : a0_1 < (l1.length : Int) := of_decide_eq_true q8_
                               obtain ⟨ad255, e255, hx255_0⟩ := Kd.at_int (Kd.V_reads' HO_1.out).2.2 a0_1 p255 q255
                               obtain rfl : ad239 = ad255 := (by injection e255)
                               replace p255 := eq_true p255
                               replace q255 := eq_true q255
                               go_wp2
                               go_meet
                               case rel => exact ⟨_, (false), q1_, H', ⟨by have := HJ13.out; have := HK2.out; have := HK3.out; have := HJ64.out; have := HK5.out; have := HJ73.out; first | omega | exact Nat.le_refl _⟩, ⟨M.Lv HO_1⟩, ⟨M.Lv HO_53⟩, ⟨M.Lv HO_59⟩, ⟨M.Lv HO_77⟩, ⟨M.Lb BK235⟩, ⟨q0_⟩⟩
                             ·rw [if_neg c79] at H
                              exact absurd H (by simp)
                            ·rw [if_neg c78] at H
                             exact absurd H (by simp)
                           ·rw [if_neg c77] at H
                            have c77b0 : decide (1 ≤ (rd l1 x79_5)) = false := decide_eq_false c77
                            clear c77
                            (first | rw [c77b0] | (simp only [i64_w, i32_w]; rw [c77b0]) | skip)
                            have H' := A_ H
                            clear H
                            go_wp2
                            go_meet
                            case rel => exact ⟨_, (false), q1_, H', ⟨by have := HJ13.out; have := HK2.out; have := HK3.out; have := HJ64.out; have := HK5.out; have := HJ73.out; first | omega | exact Nat.le_refl _⟩, ⟨M.Lv HO_1⟩, ⟨M.Lv HO_53⟩, ⟨M.Lv HO_59⟩, ⟨M.Lv HO_77⟩, ⟨M.Lb BK235⟩, ⟨q0_⟩⟩
                          case rest =>
                           as_aux_lemma =>
                           clear HC76
                           skip
                           skip
                           skip
                           skip
                           skip
                           obtain ⟨kq, x110_75, rfl, HA, HJ75, HO_1, HO_53, HO_59, HO_77, BK235, HB⟩ := hcut
                           cases kq with
                           | zero => exact absurd HA.out (by simp [impl_Table_smallest.j7])
                           | succ kj75 =>
                            have H := HA.out
                            clear HA
                            simp only [impl_Table_smallest.j7] at H
                            by_cases c83 : x110_75 = true
                            ·subst c83
                             have H1 : ((some (([(rd y248 x55_2)] : List Int) : List Int)).bind fun y256 => ((impl_Table_smallest.f kj75 a0_0 x61_3 l1).bind fun t259 => (if (strOfNums y256).size + t259.size ≤ 9223372036854775807 then ((impl_Table_smallest.f kj75 a0_0 x79_5 l1).bind fun t260 => (if ((strOfNums y256) ++ t259).size + t260.size ≤ 9223372036854775807 then (some (((strOfNums y256) ++ t259) ++ t260)) else (none))) else (none)))) = some r := by rw [if_pos rfl] at H; exact H
                             clear H; have H := H1; clear H1
                             obtain ⟨y256, hy256⟩ : ∃ y_ : List Int, y_ = (([(rd y248 x55_2)] : List Int)) := ⟨_, rfl⟩
                             replace H : ((impl_Table_smallest.f kj75 a0_0 x61_3 l1).bind fun t259 => (if (strOfNums y256).size + t259.size ≤ 9223372036854775807 then ((impl_Table_smallest.f kj75 a0_0 x79_5 l1).bind fun t260 => (if ((strOfNums y256) ++ t259).size + t260.size ≤ 9223372036854775807 then (some (((strOfNums y256) ++ t259) ++ t260)) else (none))) else (none))) = some r := by first | (rw [hy256]; with_reducible exact H) | (have H2_ := (Option.bind_some _ _).symm.trans H; rw [hy256]; with_reducible exact H2_) | (have H2_ := (Option.bind_some _ _).symm.trans H; with_reducible exact H2_) | with_reducible exact H | (rw [hy256]; exact H) | exact H
                             have Ny256 := A_ hy256; clear hy256; replace H := Option.bind_eq_some_iff.mp H; obtain ⟨t259, A840, H⟩ := H; (try dsimp only at H); have A84 := A_ A840; clear A840
                             by_cases c85 : (strOfNums y256).size + t259.size ≤ 9223372036854775807
                             ·rw [if_pos c85] at H
                              have c85b0 := eq_true c85
                              have c85b1 : decide ((strOfNums y256).size + t259.size ≤ 9223372036854775807) = true := decide_eq_true c85
                              try have c85b2 : (9223372036854775807 < (strOfNums y256).size + t259.size) = False := eq_false (Nat.not_lt.2 c85)
                              replace H := Option.bind_eq_some_iff.mp H; obtain ⟨t260, A860, H⟩ := H; (try dsimp only at H); have A86 := A_ A860; clear A860
                              by_cases c87 : ((strOfNums y256) ++ t259).size + t260.size ≤ 9223372036854775807
                              ·rw [if_pos c87] at H
                               have c87b0 := eq_true c87
                               have c87b1 : decide (((strOfNums y256) ++ t259).size + t260.size ≤ 9223372036854775807) = true := decide_eq_true c87
                               have c87n : (strOfNums y256).size + t259.size + t260.size ≤ 9223372036854775807 := by (have h_ := c87; rw [ByteArray.size_append] at h_; exact h_)
                               have c87n1 : (9223372036854775807 < (strOfNums y256).size + t259.size + t260.size) = False := eq_false (Nat.not_lt.2 c87n)
                               try have c87b2 : (9223372036854775807 < ((strOfNums y256) ++ t259).size + t260.size) = False := eq_false (Nat.not_lt.2 c87)
                               obtain rfl := Option.some.inj H
                               try go_wp2
                               have n0_ := A_ (Kd.V_drew HO_1.out)
                               have n1_ := A_ (Kd.V_drew HO_53.out)
                               have n2_ := A_ (Kd.V_drew HO_59.out)
                               have n3_ := A_ (Kd.V_drew HO_77.out)
                               have n4_ := A_ (blk_drew BK235.out)
                               have n5_ := A_ (below_drew1 HB.out)
                               clear HO_1; clear HO_53; clear HO_59; clear HO_77; clear BK235; clear HB; have HO_1 := n0_; have HO_53 := n1_; have HO_59 := n2_; have HO_77 := n3_; have BK235 := n4_; have HB := n5_; clear n0_ n1_ n2_ n3_ n4_ n5_
                               refine start_ (n := 18) (S := fun w' => w'.cell? ⟨gb235, 0, none⟩ = some (.int .i64 a0_0) ∧ w'.cell? ⟨gb235, 1, none⟩ = some (.int .i64 a0_1)) (ds := []) #[false, false, false, false, false, false, false, false, false, false, false, false, false, false, false, false, false, false] kr_ rfl rfl ⟨(blk_cell BK235.out 0).trans rfl, (blk_cell BK235.out 1).trans rfl⟩ (fun hHeld => ?_); refine with_tabW impl_Table_smallest.tab29 impl_Table_smallest.bits29 (fun HT_ HW_ => ?_)
                               generalize wc.drew = w88 at HO_1 HO_53 HO_59 HO_77 BK235 HB hHeld ⊢
                               refine pure_ (i := 0) (N := some 111) (v := ?_) (a' := ?_) #[true, false, false, false, false, false, false, false, false, false, false, false, false, false, false, false, false, false] rfl rfl (any_of HT_.out kr_) (fun _ _ _ h => h) (Or.inl ⟨by rfl, ?_⟩) ?_ ?_; rotate_left
                               ·intro w'; go_simp; with_reducible rfl
                               rotate_left
                               ·simp only [Act.put, sT_, s0_, s1_, i64_w, i32_w]; rfl
                               refine pure_ (i := 3) (N := some 114) (v := ?_) (a' := ?_) #[true, false, false, true, false, false, false, false, false, false, false, false, false, false, false, false, false, false] rfl rfl (any_of HT_.out kr_) (fun _ _ _ h => h) (Or.inl ⟨by rfl, ?_⟩) ?_ ?_; rotate_left
                               ·intro w'; go_simp; with_reducible rfl
                               rotate_left
                               ·simp only [Act.put, sT_, s0_, s1_, i64_w, i32_w]; rfl
                               refine pure_ (i := 5) (N := some 116) (v := ?_) (a' := ?_) #[true, false, false, true, false, true, false, false, false, false, false, false, false, false, false, false, false, false] rfl rfl (any_of HT_.out kr_) (fun _ _ _ h => h) (Or.inl ⟨by rfl, ?_⟩) ?_ ?_; rotate_left
                               ·intro w'; go_simp; with_reducible rfl
                               rotate_left
                               ·simp only [Act.put, sT_, s0_, s1_, i64_w, i32_w]; rfl
                               refine pure_ (i := 7) (N := some 118) (v := ?_) (a' := ?_) #[true, false, false, true, false, true, false, true, false, false, false, false, false, false, false, false, false, false] rfl rfl (any_of HT_.out kr_) (fun _ _ _ h => h) (Or.inl ⟨by rfl, ?_⟩) ?_ ?_; rotate_left
                               ·intro w'; go_simp; with_reducible rfl
                               rotate_left
                               ·simp only [Act.put, sT_, s0_, s1_, i64_w, i32_w]; rfl
                               refine pure_ (i := 10) (N := some 121) (v := ?_) (a' := ?_) #[true, false, false, true, false, true, false, true, false, false, true, false, false, false, false, false, false, false] rfl rfl (any_of HT_.out kr_) (fun _ _ _ h => h) (Or.inl ⟨by rfl, ?_⟩) ?_ ?_; rotate_left
                               ·intro w'; go_simp; with_reducible rfl
                               rotate_left
                               ·simp only [Act.put, sT_, s0_, s1_, i64_w, i32_w]; rfl
                               refine pure_ (i := 12) (N := some 123) (v := ?_) (a' := ?_) #[true, false, false, true, false, true, false, true, false, false, true, false, true, false, false, false, false, false] rfl rfl (any_of HT_.out kr_) (fun _ _ _ h => h) (Or.inl ⟨by rfl, ?_⟩) ?_ ?_; rotate_left
                               ·intro w'; go_simp; with_reducible rfl
                               rotate_left
                               ·simp only [Act.put, sT_, s0_, s1_, i64_w, i32_w]; rfl
                               refine pure_ (i := 14) (N := some 125) (v := ?_) (a' := ?_) #[true, false, false, true, false, true, false, true, false, false, true, false, true, false, true, false, false, false] rfl rfl (any_of HT_.out kr_) (fun _ _ _ h => h) (Or.inl ⟨by rfl, ?_⟩) ?_ ?_; rotate_left
                               ·intro w'; go_simp; with_reducible rfl
                               rotate_left
                               ·simp only [Act.put, sT_, s0_, s1_, i64_w, i32_w]; rfl
                               refine take_ (i := 4) (N := some 115) (v := ?_) (a' := ?_) #[true, false, false, true, true, true, false, true, false, false, true, false, true, false, true, false, false, false] rfl rfl (take_ofW HT_.out HW_.out kr_) (fun _ _ _ h => h) (Or.inl ⟨by rfl, ?_⟩) hHeld ?_ ?_
                               rotate_left
                               ·rintro w' ⟨s0, s1⟩
                                go_simp; with_reducible rfl
                               rotate_left
                               ·simp only [Act.put, sT_, s0_, s1_, i64_w, i32_w]; rfl
                               refine pure_ (i := 6) (N := some 117) (v := ?_) (a' := ?_) #[true, false, false, true, true, true, true, true, false, false, true, false, true, false, true, false, false, false] rfl rfl (any_of HT_.out kr_) (fun _ _ _ h => h) (Or.inl ⟨by rfl, ?_⟩) ?_ ?_; rotate_left
                               ·intro w'; go_simp; with_reducible rfl
                               rotate_left
                               ·simp only [Act.put, sT_, s0_, s1_, i64_w, i32_w]; rfl
                               refine take_ (i := 11) (N := some 122) (v := ?_) (a' := ?_) #[true, false, false, true, true, true, true, true, false, false, true, true, true, false, true, false, false, false] rfl rfl (take_ofW HT_.out HW_.out kr_) (fun _ _ _ h => h) (Or.inl ⟨by rfl, ?_⟩) hHeld ?_ ?_
                               rotate_left
                               ·rintro w' ⟨s0, s1⟩
                                go_simp; with_reducible rfl
                               rotate_left
                               ·simp only [Act.put, sT_, s0_, s1_, i64_w, i32_w]; rfl
                               refine pure_ (i := 13) (N := some 124) (v := ?_) (a' := ?_) #[true, false, false, true, true, true, true, true, false, false, true, true, true, true, true, false, false, false] rfl rfl (any_of HT_.out kr_) (fun _ _ _ h => h) (Or.inl ⟨by rfl, ?_⟩) ?_ ?_; rotate_left
                               ·intro w'; go_simp; with_reducible rfl
                               rotate_left
                               ·simp only [Act.put, sT_, s0_, s1_, i64_w, i32_w]; rfl
                               refine join_ (σ := Value) 2 #[true, true, true, true, true, true, true, true, true, true, true, true, true, true, true, true, false, false] (fun s_ => [(112, s_), (113, .string (strOfNums y256)), (119, .string t259), (126, .string t260), (120, .string ((strOfNums y256) ++ t259))]) (fun s_ w' => (w'.cell? ⟨gb235, 0, none⟩ = some (.int .i64 a0_0) ∧ w'.cell? ⟨gb235, 1, none⟩ = some (.int .i64 a0_1)) ∧ (Kd.R (Kd.int .u8) 5 w' w.heap.size (fun k_ => (w.heap.size ≤ k_) ∧ some k_ ≠ (.slice (some ad251) y248.length co58 : Value).ownBlock) s_ y256) ∧ (Kd.V (Kd.int .i64) 3 w' w.heap.size (fun k_ => (P1_ k_ ∨ w.heap.size ≤ k_) ∧ some k_ ≠ (s_ : Value).ownBlock ∧ some k_ ≠ (.slice (some ad251) y248.length co58 : Value).ownBlock ∧ k_ ≠ gb235) (.slice (some ad239) l1.length c1) l1) ∧ (Kd.V (Kd.int .u8) 5 w' w.heap.size (fun k_ => (w.heap.size ≤ k_) ∧ some k_ ≠ (s_ : Value).ownBlock) (.slice (some ad251) y248.length co58) y248) ∧ (Kd.V (Kd.int .i64) 3 w' w.heap.size (fun k_ => (P1_ k_ ∨ w.heap.size ≤ k_) ∧ some k_ ≠ (s_ : Value).ownBlock ∧ some k_ ≠ (.slice (some ad251) y248.length co58 : Value).ownBlock ∧ k_ ≠ gb235) (.slice (some ad239) l1.length c1) l1) ∧ (Kd.V (Kd.int .i64) 3 w' w.heap.size (fun k_ => (P1_ k_ ∨ w.heap.size ≤ k_) ∧ some k_ ≠ (s_ : Value).ownBlock ∧ some k_ ≠ (.slice (some ad251) y248.length co58 : Value).ownBlock ∧ k_ ≠ gb235) (.slice (some ad239) l1.length c1) l1) ∧ (w'.heap[gb235]? = some (.cells #[.int .i64 a0_0, .int .i64 a0_1] 25 (0, 0))) ∧ (Below w.heap.size w w')) ?_ ?_
                               rotate_left
                               ·intro hJ1_2_8_15
                                refine join_ (σ := Value) 3 #[true, true, true, true, true, true, true, true, true, true, true, true, true, true, true, false, false, false] (fun s_ => [(112, s_), (113, .string (strOfNums y256)), (119, .string t259), (120, .string ((strOfNums y256) ++ t259))]) (fun s_ w' => (w'.cell? ⟨gb235, 0, none⟩ = some (.int .i64 a0_0) ∧ w'.cell? ⟨gb235, 1, none⟩ = some (.int .i64 a0_1)) ∧ (Kd.R (Kd.int .u8) 5 w' w.heap.size (fun k_ => (w.heap.size ≤ k_) ∧ some k_ ≠ (.slice (some ad251) y248.length co58 : Value).ownBlock) s_ y256) ∧ (Kd.V (Kd.int .i64) 3 w' w.heap.size (fun k_ => (P1_ k_ ∨ w.heap.size ≤ k_) ∧ some k_ ≠ (s_ : Value).ownBlock ∧ some k_ ≠ (.slice (some ad251) y248.length co58 : Value).ownBlock ∧ k_ ≠ gb235) (.slice (some ad239) l1.length c1) l1) ∧ (Kd.V (Kd.int .u8) 5 w' w.heap.size (fun k_ => (w.heap.size ≤ k_) ∧ some k_ ≠ (s_ : Value).ownBlock) (.slice (some ad251) y248.length co58) y248) ∧ (Kd.V (Kd.int .i64) 3 w' w.heap.size (fun k_ => (P1_ k_ ∨ w.heap.size ≤ k_) ∧ some k_ ≠ (s_ : Value).ownBlock ∧ some k_ ≠ (.slice (some ad251) y248.length co58 : Value).ownBlock ∧ k_ ≠ gb235) (.slice (some ad239) l1.length c1) l1) ∧ (Kd.V (Kd.int .i64) 3 w' w.heap.size (fun k_ => (P1_ k_ ∨ w.heap.size ≤ k_) ∧ some k_ ≠ (s_ : Value).ownBlock ∧ some k_ ≠ (.slice (some ad251) y248.length co58 : Value).ownBlock ∧ k_ ≠ gb235) (.slice (some ad239) l1.length c1) l1) ∧ (w'.heap[gb235]? = some (.cells #[.int .i64 a0_0, .int .i64 a0_1] 25 (0, 0))) ∧ (Below w.heap.size w w')) ?_ ?_
                                rotate_left
                                ·intro hJ1_2_8
                                 refine join_ (σ := Value) 4 #[true, true, false, true, true, true, true, true, true, false, true, true, true, true, true, true, false, false] (fun s_ => [(112, s_), (119, .string t259), (126, .string t260)]) (fun s_ w' => (w'.cell? ⟨gb235, 0, none⟩ = some (.int .i64 a0_0) ∧ w'.cell? ⟨gb235, 1, none⟩ = some (.int .i64 a0_1)) ∧ (Kd.R (Kd.int .u8) 5 w' w.heap.size (fun k_ => (w.heap.size ≤ k_) ∧ some k_ ≠ (.slice (some ad251) y248.length co58 : Value).ownBlock) s_ y256) ∧ (Kd.V (Kd.int .i64) 3 w' w.heap.size (fun k_ => (P1_ k_ ∨ w.heap.size ≤ k_) ∧ some k_ ≠ (s_ : Value).ownBlock ∧ some k_ ≠ (.slice (some ad251) y248.length co58 : Value).ownBlock ∧ k_ ≠ gb235) (.slice (some ad239) l1.length c1) l1) ∧ (Kd.V (Kd.int .u8) 5 w' w.heap.size (fun k_ => (w.heap.size ≤ k_) ∧ some k_ ≠ (s_ : Value).ownBlock) (.slice (some ad251) y248.length co58) y248) ∧ (Kd.V (Kd.int .i64) 3 w' w.heap.size (fun k_ => (P1_ k_ ∨ w.heap.size ≤ k_) ∧ some k_ ≠ (s_ : Value).ownBlock ∧ some k_ ≠ (.slice (some ad251) y248.length co58 : Value).ownBlock ∧ k_ ≠ gb235) (.slice (some ad239) l1.length c1) l1) ∧ (Kd.V (Kd.int .i64) 3 w' w.heap.size (fun k_ => (P1_ k_ ∨ w.heap.size ≤ k_) ∧ some k_ ≠ (s_ : Value).ownBlock ∧ some k_ ≠ (.slice (some ad251) y248.length co58 : Value).ownBlock ∧ k_ ≠ gb235) (.slice (some ad239) l1.length c1) l1) ∧ (w'.heap[gb235]? = some (.cells #[.int .i64 a0_0, .int .i64 a0_1] 25 (0, 0))) ∧ (Below w.heap.size w w')) ?_ ?_
                                 rotate_left
                                 ·intro hJ1_8_15
                                  refine join_ (σ := Value) 5 #[true, true, true, true, true, true, true, true, false, false, true, true, true, true, true, false, false, false] (fun s_ => [(112, s_), (113, .string (strOfNums y256))]) (fun s_ w' => (w'.cell? ⟨gb235, 0, none⟩ = some (.int .i64 a0_0) ∧ w'.cell? ⟨gb235, 1, none⟩ = some (.int .i64 a0_1)) ∧ (Kd.R (Kd.int .u8) 5 w' w.heap.size (fun k_ => (w.heap.size ≤ k_) ∧ some k_ ≠ (.slice (some ad251) y248.length co58 : Value).ownBlock) s_ y256) ∧ (Kd.V (Kd.int .i64) 3 w' w.heap.size (fun k_ => (P1_ k_ ∨ w.heap.size ≤ k_) ∧ some k_ ≠ (s_ : Value).ownBlock ∧ some k_ ≠ (.slice (some ad251) y248.length co58 : Value).ownBlock ∧ k_ ≠ gb235) (.slice (some ad239) l1.length c1) l1) ∧ (Kd.V (Kd.int .u8) 5 w' w.heap.size (fun k_ => (w.heap.size ≤ k_) ∧ some k_ ≠ (s_ : Value).ownBlock) (.slice (some ad251) y248.length co58) y248) ∧ (Kd.V (Kd.int .i64) 3 w' w.heap.size (fun k_ => (P1_ k_ ∨ w.heap.size ≤ k_) ∧ some k_ ≠ (s_ : Value).ownBlock ∧ some k_ ≠ (.slice (some ad251) y248.length co58 : Value).ownBlock ∧ k_ ≠ gb235) (.slice (some ad239) l1.length c1) l1) ∧ (Kd.V (Kd.int .i64) 3 w' w.heap.size (fun k_ => (P1_ k_ ∨ w.heap.size ≤ k_) ∧ some k_ ≠ (s_ : Value).ownBlock ∧ some k_ ≠ (.slice (some ad251) y248.length co58 : Value).ownBlock ∧ k_ ≠ gb235) (.slice (some ad239) l1.length c1) l1) ∧ (w'.heap[gb235]? = some (.cells #[.int .i64 a0_0, .int .i64 a0_1] 25 (0, 0))) ∧ (Below w.heap.size w w')) ?_ ?_
                                  rotate_left
                                  ·intro hJ1_2
                                   refine join_ (σ := Value) 5 #[true, true, false, true, true, true, true, true, true, false, true, true, true, true, true, false, false, false] (fun s_ => [(112, s_), (119, .string t259)]) (fun s_ w' => (w'.cell? ⟨gb235, 0, none⟩ = some (.int .i64 a0_0) ∧ w'.cell? ⟨gb235, 1, none⟩ = some (.int .i64 a0_1)) ∧ (Kd.R (Kd.int .u8) 5 w' w.heap.size (fun k_ => (w.heap.size ≤ k_) ∧ some k_ ≠ (.slice (some ad251) y248.length co58 : Value).ownBlock) s_ y256) ∧ (Kd.V (Kd.int .i64) 3 w' w.heap.size (fun k_ => (P1_ k_ ∨ w.heap.size ≤ k_) ∧ some k_ ≠ (s_ : Value).ownBlock ∧ some k_ ≠ (.slice (some ad251) y248.length co58 : Value).ownBlock ∧ k_ ≠ gb235) (.slice (some ad239) l1.length c1) l1) ∧ (Kd.V (Kd.int .u8) 5 w' w.heap.size (fun k_ => (w.heap.size ≤ k_) ∧ some k_ ≠ (s_ : Value).ownBlock) (.slice (some ad251) y248.length co58) y248) ∧ (Kd.V (Kd.int .i64) 3 w' w.heap.size (fun k_ => (P1_ k_ ∨ w.heap.size ≤ k_) ∧ some k_ ≠ (s_ : Value).ownBlock ∧ some k_ ≠ (.slice (some ad251) y248.length co58 : Value).ownBlock ∧ k_ ≠ gb235) (.slice (some ad239) l1.length c1) l1) ∧ (Kd.V (Kd.int .i64) 3 w' w.heap.size (fun k_ => (P1_ k_ ∨ w.heap.size ≤ k_) ∧ some k_ ≠ (s_ : Value).ownBlock ∧ some k_ ≠ (.slice (some ad251) y248.length co58 : Value).ownBlock ∧ k_ ≠ gb235) (.slice (some ad239) l1.length c1) l1) ∧ (w'.heap[gb235]? = some (.cells #[.int .i64 a0_0, .int .i64 a0_1] 25 (0, 0))) ∧ (Below w.heap.size w w')) ?_ ?_
                                   rotate_left
                                   ·intro hJ1_8
                                    refine join_ (σ := Unit) 5 #[true, false, false, true, true, true, true, true, true, false, true, true, true, true, true, true, false, false] (fun s_ => [(119, .string t259), (126, .string t260)]) (fun s_ w' => (w'.cell? ⟨gb235, 0, none⟩ = some (.int .i64 a0_0) ∧ w'.cell? ⟨gb235, 1, none⟩ = some (.int .i64 a0_1)) ∧ (Kd.V (Kd.int .i64) 3 w' w.heap.size (fun k_ => (P1_ k_ ∨ w.heap.size ≤ k_) ∧ some k_ ≠ (.slice (some ad251) y248.length co58 : Value).ownBlock ∧ k_ ≠ gb235) (.slice (some ad239) l1.length c1) l1) ∧ (Kd.V (Kd.int .u8) 5 w' w.heap.size (fun k_ => (w.heap.size ≤ k_)) (.slice (some ad251) y248.length co58) y248) ∧ (Kd.V (Kd.int .i64) 3 w' w.heap.size (fun k_ => (P1_ k_ ∨ w.heap.size ≤ k_) ∧ some k_ ≠ (.slice (some ad251) y248.length co58 : Value).ownBlock ∧ k_ ≠ gb235) (.slice (some ad239) l1.length c1) l1) ∧ (Kd.V (Kd.int .i64) 3 w' w.heap.size (fun k_ => (P1_ k_ ∨ w.heap.size ≤ k_) ∧ some k_ ≠ (.slice (some ad251) y248.length co58 : Value).ownBlock ∧ k_ ≠ gb235) (.slice (some ad239) l1.length c1) l1) ∧ (w'.heap[gb235]? = some (.cells #[.int .i64 a0_0, .int .i64 a0_1] 25 (0, 0))) ∧ (Below w.heap.size w w')) ?_ ?_
                                    rotate_left
                                    ·intro hJ8_15
                                     refine join_ (σ := Value) 6 #[true, true, false, true, true, true, true, true, false, false, true, true, true, true, true, false, false, false] (fun s_ => [(112, s_)]) (fun s_ w' => (w'.cell? ⟨gb235, 0, none⟩ = some (.int .i64 a0_0) ∧ w'.cell? ⟨gb235, 1, none⟩ = some (.int .i64 a0_1)) ∧ (Kd.R (Kd.int .u8) 5 w' w.heap.size (fun k_ => (w.heap.size ≤ k_) ∧ some k_ ≠ (.slice (some ad251) y248.length co58 : Value).ownBlock) s_ y256) ∧ (Kd.V (Kd.int .i64) 3 w' w.heap.size (fun k_ => (P1_ k_ ∨ w.heap.size ≤ k_) ∧ some k_ ≠ (s_ : Value).ownBlock ∧ some k_ ≠ (.slice (some ad251) y248.length co58 : Value).ownBlock ∧ k_ ≠ gb235) (.slice (some ad239) l1.length c1) l1) ∧ (Kd.V (Kd.int .u8) 5 w' w.heap.size (fun k_ => (w.heap.size ≤ k_) ∧ some k_ ≠ (s_ : Value).ownBlock) (.slice (some ad251) y248.length co58) y248) ∧ (Kd.V (Kd.int .i64) 3 w' w.heap.size (fun k_ => (P1_ k_ ∨ w.heap.size ≤ k_) ∧ some k_ ≠ (s_ : Value).ownBlock ∧ some k_ ≠ (.slice (some ad251) y248.length co58 : Value).ownBlock ∧ k_ ≠ gb235) (.slice (some ad239) l1.length c1) l1) ∧ (Kd.V (Kd.int .i64) 3 w' w.heap.size (fun k_ => (P1_ k_ ∨ w.heap.size ≤ k_) ∧ some k_ ≠ (s_ : Value).ownBlock ∧ some k_ ≠ (.slice (some ad251) y248.length co58 : Value).ownBlock ∧ k_ ≠ gb235) (.slice (some ad239) l1.length c1) l1) ∧ (w'.heap[gb235]? = some (.cells #[.int .i64 a0_0, .int .i64 a0_1] 25 (0, 0))) ∧ (Below w.heap.size w w')) ?_ ?_
                                     rotate_left
                                     ·intro hJ1
                                      refine join_ (σ := Unit) 6 #[true, false, false, true, true, true, true, true, true, false, true, true, true, true, true, false, false, false] (fun s_ => [(119, .string t259)]) (fun s_ w' => (w'.cell? ⟨gb235, 0, none⟩ = some (.int .i64 a0_0) ∧ w'.cell? ⟨gb235, 1, none⟩ = some (.int .i64 a0_1)) ∧ (Kd.V (Kd.int .i64) 3 w' w.heap.size (fun k_ => (P1_ k_ ∨ w.heap.size ≤ k_) ∧ some k_ ≠ (.slice (some ad251) y248.length co58 : Value).ownBlock ∧ k_ ≠ gb235) (.slice (some ad239) l1.length c1) l1) ∧ (Kd.V (Kd.int .u8) 5 w' w.heap.size (fun k_ => (w.heap.size ≤ k_)) (.slice (some ad251) y248.length co58) y248) ∧ (Kd.V (Kd.int .i64) 3 w' w.heap.size (fun k_ => (P1_ k_ ∨ w.heap.size ≤ k_) ∧ some k_ ≠ (.slice (some ad251) y248.length co58 : Value).ownBlock ∧ k_ ≠ gb235) (.slice (some ad239) l1.length c1) l1) ∧ (Kd.V (Kd.int .i64) 3 w' w.heap.size (fun k_ => (P1_ k_ ∨ w.heap.size ≤ k_) ∧ some k_ ≠ (.slice (some ad251) y248.length co58 : Value).ownBlock ∧ k_ ≠ gb235) (.slice (some ad239) l1.length c1) l1) ∧ (w'.heap[gb235]? = some (.cells #[.int .i64 a0_0, .int .i64 a0_1] 25 (0, 0))) ∧ (Below w.heap.size w w')) ?_ ?_
                                      rotate_left
                                      ·intro hJ8
                                       refine two_ (i := 1) (j := 8) (Ni := some 112) (Nj := some 119) #[true, true, false, true, true, true, true, true, false, false, true, true, true, true, true, false, false, false] #[true, false, false, true, true, true, true, true, true, false, true, true, true, true, true, false, false, false] rfl rfl rfl rfl (two_of HT_.out kr_) (by decide) (by decide) (fun K hK => ?_) (fun K hK => ?_)
                                       ·skip
                                        refine Kd.R_lit_step (Kd.int .u8) _ 5 ?hg (N := 112) ?hd (xs := ([(rd y248 x55_2)] : List Int)) (inner := [.int .u8 (rd y248 x55_2)]) (ok := fun _ => True) (okp := fun _ => True) ?hr ?hp (fun _ hk => hk) trivial (Below.refl _ _) (Nat.le_refl _) (by simp) ?_; (case hd => rfl); (case hg => rfl); (case hr => first | (go_simp; done) | (go_simp; rfl)); (case hp => exact (Reps.one (show Kd.M (Kd.int .u8) _ _ _ (rd y248 x55_2) [.int .u8 (rd y248 x55_2)] from rfl) (Reps.none _ _)))
                                        intro v257 w89 ho90 hb hg_ hnew_; clear hg_ hnew_
                                        (first | rw [← Ny256.out] at ho90 | (simp only [Int.reduceToNat] at ho90; rw [← Ny256.out] at ho90))
                                        have n0_ := A_ (Kd.V_elder' (M.Lv HO_1) (Kd.R_base ho90) hb)
                                        have n1_ := A_ (Kd.V_elder' (M.Lv HO_53) (Kd.R_base ho90) hb)
                                        have n2_ := A_ (Kd.V_elder' (M.Lv HO_59) (Kd.R_base ho90) hb)
                                        have n3_ := A_ (Kd.V_elder' (M.Lv HO_77) (Kd.R_base ho90) hb)
                                        have n4_ := A_ (Kd.R_lower (Kd.R_new' (Kd.R_newM (M := fun k_ => (w.heap.size ≤ k_)) ho90 (below_size q0_) (fun k_ h_ => h_)) (Go.Proofs.YtfoopehlmnejaaaGreatDoor.M.V_lt (M.Lv HO_53) (by rw [Ny248.out]; decide))) (below_size q0_))
                                        have n5_ := A_ (blk_below (M.Lb BK235) hb)
                                        have n6_ := A_ (below_step q0_ hb)
                                        clear HO_1; clear HO_53; clear HO_59; clear HO_77; clear BK235; clear HB; have HO_1 := n0_; have HO_53 := n1_; have HO_59 := n2_; have HO_77 := n3_; have HO258 := n4_; have BK235 := n5_; have HB := n6_; clear n0_ n1_ n2_ n3_ n4_ n5_ n6_; clear hb ho90
                                        refine hK.out _ _ ⟨(blk_cell BK235.out 0).trans rfl, (blk_cell BK235.out 1).trans rfl⟩ (fun hHeld => ?_)
                                        clear hK K
                                        refine norm_ (a' := ?_) ?_ ?_
                                        rotate_left
                                        ·show Act.put _ (some 112) _ = _
                                         simp only [Act.put, sT_, s0_, s1_, i64_w, i32_w]; rfl
                                        exact norm_ q11_ (hJ1 (v257) _ ⟨hHeld, (by (with_reducible repeat (first | apply Kd.R_alloc | apply Kd.R_drewN | apply Kd.R_drew)); exact Kd.R_mono HO258.out (fun _ hk => ⟨hk.1.1, hk.2⟩)), (by (with_reducible repeat (first | apply Kd.V_alloc | apply Kd.V_drewN | apply Kd.V_drew)); exact Kd.V_mono HO_1.out (fun _ hk => ⟨hk.1.1, ⟨hk.2, ⟨hk.1.2.1, hk.1.2.2⟩⟩⟩)), (M.Lv HO_53), (by (with_reducible repeat (first | apply Kd.V_alloc | apply Kd.V_drewN | apply Kd.V_drew)); exact Kd.V_mono HO_59.out (fun _ hk => ⟨hk.1.1, ⟨hk.2, ⟨hk.1.2.1, hk.1.2.2⟩⟩⟩)), (by (with_reducible repeat (first | apply Kd.V_alloc | apply Kd.V_drewN | apply Kd.V_drew)); exact Kd.V_mono HO_77.out (fun _ hk => ⟨hk.1.1, ⟨hk.2, ⟨hk.1.2.1, hk.1.2.2⟩⟩⟩)), (M.Lb BK235), q0_⟩)
                                       ·skip
                                        refine goes_ Tryz.func42 kr_ rfl #[.agg #[.int .i64 a0_0, .int .i64 x61_3], .slice (some ad239) l1.length c1] (by rfl) rfl rfl q2_ ?_
                                        with_reducible refine (ih kj75 (by have := HJ13.out; have := HK2.out; have := HK3.out; have := HJ64.out; have := HK5.out; have := HJ73.out; have := HJ75.out; omega) a0_0 x61_3 (fun k_ => ((P1_ k_ ∨ w.heap.size ≤ k_) ∧ (some k_ ≠ (.slice (some ad251) y248.length co58 : Value).ownBlock ∧ k_ ≠ gb235))) _ _ l1 t259 _ ?side1 A84.out).mono ?_
                                        (case side1 => exact HO_1.out)
                                        rintro e w89 ⟨rfl, hb⟩
                                        refine ⟨_, rfl, ?_⟩
                                        have n0_ := A_ (Kd.V_below (M.Lv HO_1) hb)
                                        have n1_ := A_ (Kd.V_below (M.Lv HO_53) hb)
                                        have n2_ := A_ (Kd.V_below (M.Lv HO_59) hb)
                                        have n3_ := A_ (Kd.V_below (M.Lv HO_77) hb)
                                        have n4_ := A_ (blk_below (M.Lb BK235) hb)
                                        have n5_ := A_ (below_step q0_ hb)
                                        clear HO_1; clear HO_53; clear HO_59; clear HO_77; clear BK235; clear HB; have HO_1 := n0_; have HO_53 := n1_; have HO_59 := n2_; have HO_77 := n3_; have BK235 := n4_; have HB := n5_; clear n0_ n1_ n2_ n3_ n4_ n5_; clear hb
                                        refine hK.out _ _ ⟨(blk_cell BK235.out 0).trans rfl, (blk_cell BK235.out 1).trans rfl⟩ (fun hHeld => ?_)
                                        clear hK K
                                        refine norm_ (a' := ?_) ?_ ?_
                                        rotate_left
                                        ·show Act.put _ (some 119) _ = _
                                         simp only [Act.put, sT_, s0_, s1_, i64_w, i32_w]; rfl
                                        exact norm_ q11_ (hJ8 () _ ⟨hHeld, (M.Lv HO_1), (M.Lv HO_53), (M.Lv HO_59), (M.Lv HO_77), (M.Lb BK235), q0_⟩)
                                      ·skip
                                       rintro _ w90 ⟨hS_, h0_, h1_, h2_, h3_, h4_, h5_⟩
                                       have n0_ : Aside0 (Kd.V (Kd.int .i64) 3 w90 w.heap.size (fun k_ => (P1_ k_ ∨ w.heap.size ≤ k_) ∧ some k_ ≠ (.slice (some ad251) y248.length co58 : Value).ownBlock ∧ k_ ≠ gb235) (.slice (some ad239) l1.length c1) l1) := ⟨h0_⟩
                                       have n1_ : Aside0 (Kd.V (Kd.int .u8) 5 w90 w.heap.size (fun k_ => (w.heap.size ≤ k_)) (.slice (some ad251) y248.length co58) y248) := ⟨h1_⟩
                                       have n2_ : Aside0 (Kd.V (Kd.int .i64) 3 w90 w.heap.size (fun k_ => (P1_ k_ ∨ w.heap.size ≤ k_) ∧ some k_ ≠ (.slice (some ad251) y248.length co58 : Value).ownBlock ∧ k_ ≠ gb235) (.slice (some ad239) l1.length c1) l1) := ⟨h2_⟩
                                       have n3_ : Aside0 (Kd.V (Kd.int .i64) 3 w90 w.heap.size (fun k_ => (P1_ k_ ∨ w.heap.size ≤ k_) ∧ some k_ ≠ (.slice (some ad251) y248.length co58 : Value).ownBlock ∧ k_ ≠ gb235) (.slice (some ad239) l1.length c1) l1) := ⟨h3_⟩
                                       have n4_ : Aside0 (w90.heap[gb235]? = some (.cells #[.int .i64 a0_0, .int .i64 a0_1] 25 (0, 0))) := ⟨h4_⟩
                                       have n5_ : Aside0 (Below w.heap.size w w90) := ⟨h5_⟩
                                       clear HO_1; clear HO_53; clear HO_59; clear HO_77; clear BK235; clear HB; clear h0_ h1_ h2_ h3_ h4_ h5_; have HO_1 := n0_; have HO_53 := n1_; have HO_59 := n2_; have HO_77 := n3_; have BK235 := n4_; have HB := n5_; clear n0_ n1_ n2_ n3_ n4_ n5_
                                       have hHeld : w90.cell? ⟨gb235, 0, none⟩ = some (.int .i64 a0_0) ∧ w90.cell? ⟨gb235, 1, none⟩ = some (.int .i64 a0_1) := hS_
                                       refine norm_ (a' := ?_) ?_ ?_
                                       rotate_left
                                       ·simp only [putAll, Act.put, List.setIfInBounds_toArray, List.set_cons_zero, List.set_cons_succ]; rfl
                                       refine two_ (i := 1) (j := 15) (Ni := some 112) (Nj := some 126) #[true, true, false, true, true, true, true, true, true, false, true, true, true, true, true, false, false, false] #[true, false, false, true, true, true, true, true, true, false, true, true, true, true, true, true, false, false] rfl rfl rfl rfl (two_of HT_.out kr_) (by decide) (by decide) (fun K hK => ?_) (fun K hK => ?_)
                                       ·skip
                                        refine Kd.R_lit_step (Kd.int .u8) _ 5 ?hg (N := 112) ?hd (xs := ([(rd y248 x55_2)] : List Int)) (inner := [.int .u8 (rd y248 x55_2)]) (ok := fun _ => True) (okp := fun _ => True) ?hr ?hp (fun _ hk => hk) trivial (Below.refl _ _) (Nat.le_refl _) (by simp) ?_; (case hd => rfl); (case hg => rfl); (case hr => first | (go_simp; done) | (go_simp; rfl)); (case hp => exact (Reps.one (show Kd.M (Kd.int .u8) _ _ _ (rd y248 x55_2) [.int .u8 (rd y248 x55_2)] from rfl) (Reps.none _ _)))
                                        intro v257 w91 ho92 hb hg_ hnew_; clear hg_ hnew_
                                        (first | rw [← Ny256.out] at ho92 | (simp only [Int.reduceToNat] at ho92; rw [← Ny256.out] at ho92))
                                        have n0_ := A_ (Kd.V_elder' (M.Lv HO_1) (Kd.R_base ho92) hb)
                                        have n1_ := A_ (Kd.V_elder' (M.Lv HO_53) (Kd.R_base ho92) hb)
                                        have n2_ := A_ (Kd.V_elder' (M.Lv HO_59) (Kd.R_base ho92) hb)
                                        have n3_ := A_ (Kd.V_elder' (M.Lv HO_77) (Kd.R_base ho92) hb)
                                        have n4_ := A_ (Kd.R_lower (Kd.R_new' (Kd.R_newM (M := fun k_ => (w.heap.size ≤ k_)) ho92 (below_size q0_) (fun k_ h_ => h_)) (Go.Proofs.YtfoopehlmnejaaaGreatDoor.M.V_lt (M.Lv HO_53) (by rw [Ny248.out]; decide))) (below_size q0_))
                                        have n5_ := A_ (blk_below (M.Lb BK235) hb)
                                        have n6_ := A_ (below_step q0_ hb)
                                        clear HO_1; clear HO_53; clear HO_59; clear HO_77; clear BK235; clear HB; have HO_1 := n0_; have HO_53 := n1_; have HO_59 := n2_; have HO_77 := n3_; have HO258 := n4_; have BK235 := n5_; have HB := n6_; clear n0_ n1_ n2_ n3_ n4_ n5_ n6_; clear hb ho92
                                        refine hK.out _ _ ⟨(blk_cell BK235.out 0).trans rfl, (blk_cell BK235.out 1).trans rfl⟩ (fun hHeld => ?_)
                                        clear hK K
                                        refine norm_ (a' := ?_) ?_ ?_
                                        rotate_left
                                        ·show Act.put _ (some 112) _ = _
                                         simp only [Act.put, sT_, s0_, s1_, i64_w, i32_w]; rfl
                                        exact norm_ q11_ (hJ1_8 (v257) _ ⟨hHeld, (by (with_reducible repeat (first | apply Kd.R_alloc | apply Kd.R_drewN | apply Kd.R_drew)); exact Kd.R_mono HO258.out (fun _ hk => ⟨hk.1.1, hk.2⟩)), (by (with_reducible repeat (first | apply Kd.V_alloc | apply Kd.V_drewN | apply Kd.V_drew)); exact Kd.V_mono HO_1.out (fun _ hk => ⟨hk.1.1, ⟨hk.2, ⟨hk.1.2.1, hk.1.2.2⟩⟩⟩)), (M.Lv HO_53), (by (with_reducible repeat (first | apply Kd.V_alloc | apply Kd.V_drewN | apply Kd.V_drew)); exact Kd.V_mono HO_59.out (fun _ hk => ⟨hk.1.1, ⟨hk.2, ⟨hk.1.2.1, hk.1.2.2⟩⟩⟩)), (by (with_reducible repeat (first | apply Kd.V_alloc | apply Kd.V_drewN | apply Kd.V_drew)); exact Kd.V_mono HO_77.out (fun _ hk => ⟨hk.1.1, ⟨hk.2, ⟨hk.1.2.1, hk.1.2.2⟩⟩⟩)), (M.Lb BK235), q0_⟩)
                                       ·skip
                                        refine goes_ Tryz.func42 kr_ rfl #[.agg #[.int .i64 a0_0, .int .i64 x79_5], .slice (some ad239) l1.length c1] (by rfl) rfl rfl q2_ ?_
                                        with_reducible refine (ih kj75 (by have := HJ13.out; have := HK2.out; have := HK3.out; have := HJ64.out; have := HK5.out; have := HJ73.out; have := HJ75.out; omega) a0_0 x79_5 (fun k_ => ((P1_ k_ ∨ w.heap.size ≤ k_) ∧ (some k_ ≠ (.slice (some ad251) y248.length co58 : Value).ownBlock ∧ k_ ≠ gb235))) _ _ l1 t260 _ ?side1 A86.out).mono ?_
                                        (case side1 => exact HO_1.out)
                                        rintro e w91 ⟨rfl, hb⟩
                                        refine ⟨_, rfl, ?_⟩
                                        have n0_ := A_ (Kd.V_below (M.Lv HO_1) hb)
                                        have n1_ := A_ (Kd.V_below (M.Lv HO_53) hb)
                                        have n2_ := A_ (Kd.V_below (M.Lv HO_59) hb)
                                        have n3_ := A_ (Kd.V_below (M.Lv HO_77) hb)
                                        have n4_ := A_ (blk_below (M.Lb BK235) hb)
                                        have n5_ := A_ (below_step q0_ hb)
                                        clear HO_1; clear HO_53; clear HO_59; clear HO_77; clear BK235; clear HB; have HO_1 := n0_; have HO_53 := n1_; have HO_59 := n2_; have HO_77 := n3_; have BK235 := n4_; have HB := n5_; clear n0_ n1_ n2_ n3_ n4_ n5_; clear hb
                                        refine hK.out _ _ ⟨(blk_cell BK235.out 0).trans rfl, (blk_cell BK235.out 1).trans rfl⟩ (fun hHeld => ?_)
                                        clear hK K
                                        refine norm_ (a' := ?_) ?_ ?_
                                        rotate_left
                                        ·show Act.put _ (some 126) _ = _
                                         simp only [Act.put, sT_, s0_, s1_, i64_w, i32_w]; rfl
                                        exact norm_ q11_ (hJ8_15 () _ ⟨hHeld, (M.Lv HO_1), (M.Lv HO_53), (M.Lv HO_59), (M.Lv HO_77), (M.Lb BK235), q0_⟩)
                                     ·skip
                                      rintro v257 w91 ⟨hS_, h0_, h1_, h2_, h3_, h4_, h5_, h6_⟩
                                      have n0_ : Aside0 (Kd.R (Kd.int .u8) 5 w91 w.heap.size (fun k_ => (w.heap.size ≤ k_) ∧ some k_ ≠ (.slice (some ad251) y248.length co58 : Value).ownBlock) v257 y256) := ⟨h0_⟩
                                      have n1_ : Aside0 (Kd.V (Kd.int .i64) 3 w91 w.heap.size (fun k_ => (P1_ k_ ∨ w.heap.size ≤ k_) ∧ some k_ ≠ (v257 : Value).ownBlock ∧ some k_ ≠ (.slice (some ad251) y248.length co58 : Value).ownBlock ∧ k_ ≠ gb235) (.slice (some ad239) l1.length c1) l1) := ⟨h1_⟩
                                      have n2_ : Aside0 (Kd.V (Kd.int .u8) 5 w91 w.heap.size (fun k_ => (w.heap.size ≤ k_) ∧ some k_ ≠ (v257 : Value).ownBlock) (.slice (some ad251) y248.length co58) y248) := ⟨h2_⟩
                                      have n3_ : Aside0 (Kd.V (Kd.int .i64) 3 w91 w.heap.size (fun k_ => (P1_ k_ ∨ w.heap.size ≤ k_) ∧ some k_ ≠ (v257 : Value).ownBlock ∧ some k_ ≠ (.slice (some ad251) y248.length co58 : Value).ownBlock ∧ k_ ≠ gb235) (.slice (some ad239) l1.length c1) l1) := ⟨h3_⟩
                                      have n4_ : Aside0 (Kd.V (Kd.int .i64) 3 w91 w.heap.size (fun k_ => (P1_ k_ ∨ w.heap.size ≤ k_) ∧ some k_ ≠ (v257 : Value).ownBlock ∧ some k_ ≠ (.slice (some ad251) y248.length co58 : Value).ownBlock ∧ k_ ≠ gb235) (.slice (some ad239) l1.length c1) l1) := ⟨h4_⟩
                                      have n5_ : Aside0 (w91.heap[gb235]? = some (.cells #[.int .i64 a0_0, .int .i64 a0_1] 25 (0, 0))) := ⟨h5_⟩
                                      have n6_ : Aside0 (Below w.heap.size w w91) := ⟨h6_⟩
                                      clear HO_1; clear HO_53; clear HO_59; clear HO_77; clear BK235; clear HB; clear h0_ h1_ h2_ h3_ h4_ h5_ h6_; have HO258 := n0_; have HO_1 := n1_; have HO_53 := n2_; have HO_59 := n3_; have HO_77 := n4_; have BK235 := n5_; have HB := n6_; clear n0_ n1_ n2_ n3_ n4_ n5_ n6_
                                      have hHeld : w91.cell? ⟨gb235, 0, none⟩ = some (.int .i64 a0_0) ∧ w91.cell? ⟨gb235, 1, none⟩ = some (.int .i64 a0_1) := hS_
                                      refine norm_ (a' := ?_) ?_ ?_
                                      rotate_left
                                      ·simp only [putAll, Act.put, List.setIfInBounds_toArray, List.set_cons_zero, List.set_cons_succ]; rfl
                                      refine two_ (i := 2) (j := 8) (Ni := some 113) (Nj := some 119) #[true, true, true, true, true, true, true, true, false, false, true, true, true, true, true, false, false, false] #[true, true, false, true, true, true, true, true, true, false, true, true, true, true, true, false, false, false] rfl rfl rfl rfl (two_of HT_.out kr_) (by decide) (by decide) (fun K hK => ?_) (fun K hK => ?_)
                                      ·skip
                                       have hcv92 := own_string (P := Tryz.prog) Tryz.underlying22 Tryz.underlying5 Tryz.underlying9 (Kd.own_of_R HO258.out)
                                       refine value_ (w1 := ?_) (v := ?_) (by rfl) rfl ?_ ?_
                                       rotate_left 2
                                       ·go_simp
                                        constructor
                                        ·rfl
                                        ·rfl
                                       clear hcv92
                                       refine hK.out _ _ ⟨(blk_cell BK235.out 0).trans rfl, (blk_cell BK235.out 1).trans rfl⟩ (fun hHeld => ?_)
                                       clear hK K
                                       refine norm_ (a' := ?_) ?_ ?_
                                       rotate_left
                                       ·show Act.put _ (some 113) _ = _
                                        simp only [Act.put, sT_, s0_, s1_, i64_w, i32_w]; rfl
                                       exact norm_ q11_ (hJ1_2 (v257) _ ⟨hHeld, (M.Lr HO258), (M.Lv HO_1), (M.Lv HO_53), (M.Lv HO_59), (M.Lv HO_77), (M.Lb BK235), q0_⟩)
                                      ·skip
                                       refine goes_ Tryz.func42 kr_ rfl #[.agg #[.int .i64 a0_0, .int .i64 x61_3], .slice (some ad239) l1.length c1] (by rfl) rfl rfl q2_ ?_
                                       with_reducible refine (ih kj75 (by have := HJ13.out; have := HK2.out; have := HK3.out; have := HJ64.out; have := HK5.out; have := HJ73.out; have := HJ75.out; omega) a0_0 x61_3 (fun k_ => ((P1_ k_ ∨ w.heap.size ≤ k_) ∧ (some k_ ≠ (v257 : Value).ownBlock ∧ (some k_ ≠ (.slice (some ad251) y248.length co58 : Value).ownBlock ∧ k_ ≠ gb235)))) _ _ l1 t259 _ ?side1 A84.out).mono ?_
                                       (case side1 => exact HO_1.out)
                                       rintro e w92 ⟨rfl, hb⟩
                                       refine ⟨_, rfl, ?_⟩
                                       have n0_ := A_ (Kd.V_below (M.Lv HO_1) hb)
                                       have n1_ := A_ (Kd.V_below (M.Lv HO_53) hb)
                                       have n2_ := A_ (Kd.V_below (M.Lv HO_59) hb)
                                       have n3_ := A_ (Kd.V_below (M.Lv HO_77) hb)
                                       have n4_ := A_ (Kd.R_below (M.Lr HO258) hb)
                                       have n5_ := A_ (blk_below (M.Lb BK235) hb)
                                       have n6_ := A_ (below_step q0_ hb)
                                       clear HO_1; clear HO_53; clear HO_59; clear HO_77; clear HO258; clear BK235; clear HB; have HO_1 := n0_; have HO_53 := n1_; have HO_59 := n2_; have HO_77 := n3_; have HO258 := n4_; have BK235 := n5_; have HB := n6_; clear n0_ n1_ n2_ n3_ n4_ n5_ n6_; clear hb
                                       refine hK.out _ _ ⟨(blk_cell BK235.out 0).trans rfl, (blk_cell BK235.out 1).trans rfl⟩ (fun hHeld => ?_)
                                       clear hK K
                                       refine norm_ (a' := ?_) ?_ ?_
                                       rotate_left
                                       ·show Act.put _ (some 119) _ = _
                                        simp only [Act.put, sT_, s0_, s1_, i64_w, i32_w]; rfl
                                       exact norm_ q11_ (hJ1_8 (v257) _ ⟨hHeld, (M.Lr HO258), (M.Lv HO_1), (M.Lv HO_53), (M.Lv HO_59), (M.Lv HO_77), (M.Lb BK235), q0_⟩)
                                    ·skip
                                     rintro _ w91 ⟨hS_, h0_, h1_, h2_, h3_, h4_, h5_⟩
                                     have n0_ : Aside0 (Kd.V (Kd.int .i64) 3 w91 w.heap.size (fun k_ => (P1_ k_ ∨ w.heap.size ≤ k_) ∧ some k_ ≠ (.slice (some ad251) y248.length co58 : Value).ownBlock ∧ k_ ≠ gb235) (.slice (some ad239) l1.length c1) l1) := ⟨h0_⟩
                                     have n1_ : Aside0 (Kd.V (Kd.int .u8) 5 w91 w.heap.size (fun k_ => (w.heap.size ≤ k_)) (.slice (some ad251) y248.length co58) y248) := ⟨h1_⟩
                                     have n2_ : Aside0 (Kd.V (Kd.int .i64) 3 w91 w.heap.size (fun k_ => (P1_ k_ ∨ w.heap.size ≤ k_) ∧ some k_ ≠ (.slice (some ad251) y248.length co58 : Value).ownBlock ∧ k_ ≠ gb235) (.slice (some ad239) l1.length c1) l1) := ⟨h2_⟩
                                     have n3_ : Aside0 (Kd.V (Kd.int .i64) 3 w91 w.heap.size (fun k_ => (P1_ k_ ∨ w.heap.size ≤ k_) ∧ some k_ ≠ (.slice (some ad251) y248.length co58 : Value).ownBlock ∧ k_ ≠ gb235) (.slice (some ad239) l1.length c1) l1) := ⟨h3_⟩
                                     have n4_ : Aside0 (w91.heap[gb235]? = some (.cells #[.int .i64 a0_0, .int .i64 a0_1] 25 (0, 0))) := ⟨h4_⟩
                                     have n5_ : Aside0 (Below w.heap.size w w91) := ⟨h5_⟩
                                     clear HO_1; clear HO_53; clear HO_59; clear HO_77; clear BK235; clear HB; clear h0_ h1_ h2_ h3_ h4_ h5_; have HO_1 := n0_; have HO_53 := n1_; have HO_59 := n2_; have HO_77 := n3_; have BK235 := n4_; have HB := n5_; clear n0_ n1_ n2_ n3_ n4_ n5_
                                     have hHeld : w91.cell? ⟨gb235, 0, none⟩ = some (.int .i64 a0_0) ∧ w91.cell? ⟨gb235, 1, none⟩ = some (.int .i64 a0_1) := hS_
                                     refine norm_ (a' := ?_) ?_ ?_
                                     rotate_left
                                     ·simp only [putAll, Act.put, List.setIfInBounds_toArray, List.set_cons_zero, List.set_cons_succ]; rfl
                                     refine one_ (i := 1) (N := some 112) #[true, true, false, true, true, true, true, true, true, false, true, true, true, true, true, true, false, false] rfl rfl (one_of HT_.out kr_) (by decide) (fun K hK => ?_)
                                     refine Kd.R_lit_step (Kd.int .u8) _ 5 ?hg (N := 112) ?hd (xs := ([(rd y248 x55_2)] : List Int)) (inner := [.int .u8 (rd y248 x55_2)]) (ok := fun _ => True) (okp := fun _ => True) ?hr ?hp (fun _ hk => hk) trivial (Below.refl _ _) (Nat.le_refl _) (by simp) ?_; (case hd => rfl); (case hg => rfl); (case hr => first | (go_simp; done) | (go_simp; rfl)); (case hp => exact (Reps.one (show Kd.M (Kd.int .u8) _ _ _ (rd y248 x55_2) [.int .u8 (rd y248 x55_2)] from rfl) (Reps.none _ _)))
                                     intro v257 w92 ho93 hb hg_ hnew_; clear hg_ hnew_
                                     (first | rw [← Ny256.out] at ho93 | (simp only [Int.reduceToNat] at ho93; rw [← Ny256.out] at ho93))
                                     have n0_ := A_ (Kd.V_elder' (M.Lv HO_1) (Kd.R_base ho93) hb)
                                     have n1_ := A_ (Kd.V_elder' (M.Lv HO_53) (Kd.R_base ho93) hb)
                                     have n2_ := A_ (Kd.V_elder' (M.Lv HO_59) (Kd.R_base ho93) hb)
                                     have n3_ := A_ (Kd.V_elder' (M.Lv HO_77) (Kd.R_base ho93) hb)
                                     have n4_ := A_ (Kd.R_lower (Kd.R_new' (Kd.R_newM (M := fun k_ => (w.heap.size ≤ k_)) ho93 (below_size q0_) (fun k_ h_ => h_)) (Go.Proofs.YtfoopehlmnejaaaGreatDoor.M.V_lt (M.Lv HO_53) (by rw [Ny248.out]; decide))) (below_size q0_))
                                     have n5_ := A_ (blk_below (M.Lb BK235) hb)
                                     have n6_ := A_ (below_step q0_ hb)
                                     clear HO_1; clear HO_53; clear HO_59; clear HO_77; clear BK235; clear HB; have HO_1 := n0_; have HO_53 := n1_; have HO_59 := n2_; have HO_77 := n3_; have HO258 := n4_; have BK235 := n5_; have HB := n6_; clear n0_ n1_ n2_ n3_ n4_ n5_ n6_; clear hb ho93
                                     refine hK.out _ _ ⟨(blk_cell BK235.out 0).trans rfl, (blk_cell BK235.out 1).trans rfl⟩ (fun hHeld => ?_)
                                     clear hK K
                                     refine norm_ (a' := ?_) ?_ ?_
                                     rotate_left
                                     ·show Act.put _ (some 112) _ = _
                                      simp only [Act.put, sT_, s0_, s1_, i64_w, i32_w]; rfl
                                     exact norm_ q11_ (hJ1_8_15 (v257) _ ⟨hHeld, (by (with_reducible repeat (first | apply Kd.R_alloc | apply Kd.R_drewN | apply Kd.R_drew)); exact Kd.R_mono HO258.out (fun _ hk => ⟨hk.1.1, hk.2⟩)), (by (with_reducible repeat (first | apply Kd.V_alloc | apply Kd.V_drewN | apply Kd.V_drew)); exact Kd.V_mono HO_1.out (fun _ hk => ⟨hk.1.1, ⟨hk.2, ⟨hk.1.2.1, hk.1.2.2⟩⟩⟩)), (M.Lv HO_53), (by (with_reducible repeat (first | apply Kd.V_alloc | apply Kd.V_drewN | apply Kd.V_drew)); exact Kd.V_mono HO_59.out (fun _ hk => ⟨hk.1.1, ⟨hk.2, ⟨hk.1.2.1, hk.1.2.2⟩⟩⟩)), (by (with_reducible repeat (first | apply Kd.V_alloc | apply Kd.V_drewN | apply Kd.V_drew)); exact Kd.V_mono HO_77.out (fun _ hk => ⟨hk.1.1, ⟨hk.2, ⟨hk.1.2.1, hk.1.2.2⟩⟩⟩)), (M.Lb BK235), q0_⟩)
                                   ·skip
                                    rintro v257 w92 ⟨hS_, h0_, h1_, h2_, h3_, h4_, h5_, h6_⟩
                                    have n0_ : Aside0 (Kd.R (Kd.int .u8) 5 w92 w.heap.size (fun k_ => (w.heap.size ≤ k_) ∧ some k_ ≠ (.slice (some ad251) y248.length co58 : Value).ownBlock) v257 y256) := ⟨h0_⟩
                                    have n1_ : Aside0 (Kd.V (Kd.int .i64) 3 w92 w.heap.size (fun k_ => (P1_ k_ ∨ w.heap.size ≤ k_) ∧ some k_ ≠ (v257 : Value).ownBlock ∧ some k_ ≠ (.slice (some ad251) y248.length co58 : Value).ownBlock ∧ k_ ≠ gb235) (.slice (some ad239) l1.length c1) l1) := ⟨h1_⟩
                                    have n2_ : Aside0 (Kd.V (Kd.int .u8) 5 w92 w.heap.size (fun k_ => (w.heap.size ≤ k_) ∧ some k_ ≠ (v257 : Value).ownBlock) (.slice (some ad251) y248.length co58) y248) := ⟨h2_⟩
                                    have n3_ : Aside0 (Kd.V (Kd.int .i64) 3 w92 w.heap.size (fun k_ => (P1_ k_ ∨ w.heap.size ≤ k_) ∧ some k_ ≠ (v257 : Value).ownBlock ∧ some k_ ≠ (.slice (some ad251) y248.length co58 : Value).ownBlock ∧ k_ ≠ gb235) (.slice (some ad239) l1.length c1) l1) := ⟨h3_⟩
                                    have n4_ : Aside0 (Kd.V (Kd.int .i64) 3 w92 w.heap.size (fun k_ => (P1_ k_ ∨ w.heap.size ≤ k_) ∧ some k_ ≠ (v257 : Value).ownBlock ∧ some k_ ≠ (.slice (some ad251) y248.length co58 : Value).ownBlock ∧ k_ ≠ gb235) (.slice (some ad239) l1.length c1) l1) := ⟨h4_⟩
                                    have n5_ : Aside0 (w92.heap[gb235]? = some (.cells #[.int .i64 a0_0, .int .i64 a0_1] 25 (0, 0))) := ⟨h5_⟩
                                    have n6_ : Aside0 (Below w.heap.size w w92) := ⟨h6_⟩
                                    clear HO_1; clear HO_53; clear HO_59; clear HO_77; clear BK235; clear HB; clear h0_ h1_ h2_ h3_ h4_ h5_ h6_; have HO258 := n0_; have HO_1 := n1_; have HO_53 := n2_; have HO_59 := n3_; have HO_77 := n4_; have BK235 := n5_; have HB := n6_; clear n0_ n1_ n2_ n3_ n4_ n5_ n6_
                                    have hHeld : w92.cell? ⟨gb235, 0, none⟩ = some (.int .i64 a0_0) ∧ w92.cell? ⟨gb235, 1, none⟩ = some (.int .i64 a0_1) := hS_
                                    refine norm_ (a' := ?_) ?_ ?_
                                    rotate_left
                                    ·simp only [putAll, Act.put, List.setIfInBounds_toArray, List.set_cons_zero, List.set_cons_succ]; rfl
                                    refine two_ (i := 2) (j := 15) (Ni := some 113) (Nj := some 126) #[true, true, true, true, true, true, true, true, true, false, true, true, true, true, true, false, false, false] #[true, true, false, true, true, true, true, true, true, false, true, true, true, true, true, true, false, false] rfl rfl rfl rfl (two_of HT_.out kr_) (by decide) (by decide) (fun K hK => ?_) (fun K hK => ?_)
                                    ·skip
                                     have hcv93 := own_string (P := Tryz.prog) Tryz.underlying22 Tryz.underlying5 Tryz.underlying9 (Kd.own_of_R HO258.out)
                                     refine value_ (w1 := ?_) (v := ?_) (by rfl) rfl ?_ ?_
                                     rotate_left 2
                                     ·go_simp
                                      constructor
                                      ·rfl
                                      ·rfl
                                     clear hcv93
                                     refine hK.out _ _ ⟨(blk_cell BK235.out 0).trans rfl, (blk_cell BK235.out 1).trans rfl⟩ (fun hHeld => ?_)
                                     clear hK K
                                     refine norm_ (a' := ?_) ?_ ?_
                                     rotate_left
                                     ·show Act.put _ (some 113) _ = _
                                      simp only [Act.put, sT_, s0_, s1_, i64_w, i32_w]; rfl
                                     refine pure_ (i := 9) (N := some 120) (v := ?_) (a' := ?_) #[true, true, true, true, true, true, true, true, true, true, true, true, true, true, true, false, false, false] rfl rfl (any_of HT_.out kr_) (fun _ _ _ h => h) (Or.inl ⟨by rfl, ?_⟩) ?_ ?_; rotate_left
                                     ·intro w'; go_simp; with_reducible rfl
                                     rotate_left
                                     ·simp only [Act.put, sT_, s0_, s1_, i64_w, i32_w]; rfl
                                     exact norm_ q11_ (hJ1_2_8 (v257) _ ⟨hHeld, (M.Lr HO258), (M.Lv HO_1), (M.Lv HO_53), (M.Lv HO_59), (M.Lv HO_77), (M.Lb BK235), q0_⟩)
                                    ·skip
                                     refine goes_ Tryz.func42 kr_ rfl #[.agg #[.int .i64 a0_0, .int .i64 x79_5], .slice (some ad239) l1.length c1] (by rfl) rfl rfl q2_ ?_
                                     with_reducible refine (ih kj75 (by have := HJ13.out; have := HK2.out; have := HK3.out; have := HJ64.out; have := HK5.out; have := HJ73.out; have := HJ75.out; omega) a0_0 x79_5 (fun k_ => ((P1_ k_ ∨ w.heap.size ≤ k_) ∧ (some k_ ≠ (v257 : Value).ownBlock ∧ (some k_ ≠ (.slice (some ad251) y248.length co58 : Value).ownBlock ∧ k_ ≠ gb235)))) _ _ l1 t260 _ ?side1 A86.out).mono ?_
                                     (case side1 => exact HO_1.out)
                                     rintro e w93 ⟨rfl, hb⟩
                                     refine ⟨_, rfl, ?_⟩
                                     have n0_ := A_ (Kd.V_below (M.Lv HO_1) hb)
                                     have n1_ := A_ (Kd.V_below (M.Lv HO_53) hb)
                                     have n2_ := A_ (Kd.V_below (M.Lv HO_59) hb)
                                     have n3_ := A_ (Kd.V_below (M.Lv HO_77) hb)
                                     have n4_ := A_ (Kd.R_below (M.Lr HO258) hb)
                                     have n5_ := A_ (blk_below (M.Lb BK235) hb)
                                     have n6_ := A_ (below_step q0_ hb)
                                     clear HO_1; clear HO_53; clear HO_59; clear HO_77; clear HO258; clear BK235; clear HB; have HO_1 := n0_; have HO_53 := n1_; have HO_59 := n2_; have HO_77 := n3_; have HO258 := n4_; have BK235 := n5_; have HB := n6_; clear n0_ n1_ n2_ n3_ n4_ n5_ n6_; clear hb
                                     refine hK.out _ _ ⟨(blk_cell BK235.out 0).trans rfl, (blk_cell BK235.out 1).trans rfl⟩ (fun hHeld => ?_)
                                     clear hK K
                                     refine norm_ (a' := ?_) ?_ ?_
                                     rotate_left
                                     ·show Act.put _ (some 126) _ = _
                                      simp only [Act.put, sT_, s0_, s1_, i64_w, i32_w]; rfl
                                     exact norm_ q11_ (hJ1_8_15 (v257) _ ⟨hHeld, (M.Lr HO258), (M.Lv HO_1), (M.Lv HO_53), (M.Lv HO_59), (M.Lv HO_77), (M.Lb BK235), q0_⟩)
                                  ·skip
                                   rintro v257 w92 ⟨hS_, h0_, h1_, h2_, h3_, h4_, h5_, h6_⟩
                                   have n0_ : Aside0 (Kd.R (Kd.int .u8) 5 w92 w.heap.size (fun k_ => (w.heap.size ≤ k_) ∧ some k_ ≠ (.slice (some ad251) y248.length co58 : Value).ownBlock) v257 y256) := ⟨h0_⟩
                                   have n1_ : Aside0 (Kd.V (Kd.int .i64) 3 w92 w.heap.size (fun k_ => (P1_ k_ ∨ w.heap.size ≤ k_) ∧ some k_ ≠ (v257 : Value).ownBlock ∧ some k_ ≠ (.slice (some ad251) y248.length co58 : Value).ownBlock ∧ k_ ≠ gb235) (.slice (some ad239) l1.length c1) l1) := ⟨h1_⟩
                                   have n2_ : Aside0 (Kd.V (Kd.int .u8) 5 w92 w.heap.size (fun k_ => (w.heap.size ≤ k_) ∧ some k_ ≠ (v257 : Value).ownBlock) (.slice (some ad251) y248.length co58) y248) := ⟨h2_⟩
                                   have n3_ : Aside0 (Kd.V (Kd.int .i64) 3 w92 w.heap.size (fun k_ => (P1_ k_ ∨ w.heap.size ≤ k_) ∧ some k_ ≠ (v257 : Value).ownBlock ∧ some k_ ≠ (.slice (some ad251) y248.length co58 : Value).ownBlock ∧ k_ ≠ gb235) (.slice (some ad239) l1.length c1) l1) := ⟨h3_⟩
                                   have n4_ : Aside0 (Kd.V (Kd.int .i64) 3 w92 w.heap.size (fun k_ => (P1_ k_ ∨ w.heap.size ≤ k_) ∧ some k_ ≠ (v257 : Value).ownBlock ∧ some k_ ≠ (.slice (some ad251) y248.length co58 : Value).ownBlock ∧ k_ ≠ gb235) (.slice (some ad239) l1.length c1) l1) := ⟨h4_⟩
                                   have n5_ : Aside0 (w92.heap[gb235]? = some (.cells #[.int .i64 a0_0, .int .i64 a0_1] 25 (0, 0))) := ⟨h5_⟩
                                   have n6_ : Aside0 (Below w.heap.size w w92) := ⟨h6_⟩
                                   clear HO_1; clear HO_53; clear HO_59; clear HO_77; clear BK235; clear HB; clear h0_ h1_ h2_ h3_ h4_ h5_ h6_; have HO258 := n0_; have HO_1 := n1_; have HO_53 := n2_; have HO_59 := n3_; have HO_77 := n4_; have BK235 := n5_; have HB := n6_; clear n0_ n1_ n2_ n3_ n4_ n5_ n6_
                                   have hHeld : w92.cell? ⟨gb235, 0, none⟩ = some (.int .i64 a0_0) ∧ w92.cell? ⟨gb235, 1, none⟩ = some (.int .i64 a0_1) := hS_
                                   refine norm_ (a' := ?_) ?_ ?_
                                   rotate_left
                                   ·simp only [putAll, Act.put, List.setIfInBounds_toArray, List.set_cons_zero, List.set_cons_succ]; rfl
                                   refine one_ (i := 8) (N := some 119) #[true, true, true, true, true, true, true, true, true, false, true, true, true, true, true, false, false, false] rfl rfl (one_of HT_.out kr_) (by decide) (fun K hK => ?_)
                                   refine goes_ Tryz.func42 kr_ rfl #[.agg #[.int .i64 a0_0, .int .i64 x61_3], .slice (some ad239) l1.length c1] (by rfl) rfl rfl q2_ ?_
                                   with_reducible refine (ih kj75 (by have := HJ13.out; have := HK2.out; have := HK3.out; have := HJ64.out; have := HK5.out; have := HJ73.out; have := HJ75.out; omega) a0_0 x61_3 (fun k_ => ((P1_ k_ ∨ w.heap.size ≤ k_) ∧ (some k_ ≠ (v257 : Value).ownBlock ∧ (some k_ ≠ (.slice (some ad251) y248.length co58 : Value).ownBlock ∧ k_ ≠ gb235)))) _ _ l1 t259 _ ?side1 A84.out).mono ?_
                                   (case side1 => exact HO_1.out)
                                   rintro e w93 ⟨rfl, hb⟩
                                   refine ⟨_, rfl, ?_⟩
                                   have n0_ := A_ (Kd.V_below (M.Lv HO_1) hb)
                                   have n1_ := A_ (Kd.V_below (M.Lv HO_53) hb)
                                   have n2_ := A_ (Kd.V_below (M.Lv HO_59) hb)
                                   have n3_ := A_ (Kd.V_below (M.Lv HO_77) hb)
                                   have n4_ := A_ (Kd.R_below (M.Lr HO258) hb)
                                   have n5_ := A_ (blk_below (M.Lb BK235) hb)
                                   have n6_ := A_ (below_step q0_ hb)
                                   clear HO_1; clear HO_53; clear HO_59; clear HO_77; clear HO258; clear BK235; clear HB; have HO_1 := n0_; have HO_53 := n1_; have HO_59 := n2_; have HO_77 := n3_; have HO258 := n4_; have BK235 := n5_; have HB := n6_; clear n0_ n1_ n2_ n3_ n4_ n5_ n6_; clear hb
                                   refine hK.out _ _ ⟨(blk_cell BK235.out 0).trans rfl, (blk_cell BK235.out 1).trans rfl⟩ (fun hHeld => ?_)
                                   clear hK K
                                   refine norm_ (a' := ?_) ?_ ?_
                                   rotate_left
                                   ·show Act.put _ (some 119) _ = _
                                    simp only [Act.put, sT_, s0_, s1_, i64_w, i32_w]; rfl
                                   refine pure_ (i := 9) (N := some 120) (v := ?_) (a' := ?_) #[true, true, true, true, true, true, true, true, true, true, true, true, true, true, true, false, false, false] rfl rfl (any_of HT_.out kr_) (fun _ _ _ h => h) (Or.inl ⟨by rfl, ?_⟩) ?_ ?_; rotate_left
                                   ·intro w'; go_simp; with_reducible rfl
                                   rotate_left
                                   ·simp only [Act.put, sT_, s0_, s1_, i64_w, i32_w]; rfl
                                   exact norm_ q11_ (hJ1_2_8 (v257) _ ⟨hHeld, (M.Lr HO258), (M.Lv HO_1), (M.Lv HO_53), (M.Lv HO_59), (M.Lv HO_77), (M.Lb BK235), q0_⟩)
                                 ·skip
                                  rintro v257 w93 ⟨hS_, h0_, h1_, h2_, h3_, h4_, h5_, h6_⟩
                                  have n0_ : Aside0 (Kd.R (Kd.int .u8) 5 w93 w.heap.size (fun k_ => (w.heap.size ≤ k_) ∧ some k_ ≠ (.slice (some ad251) y248.length co58 : Value).ownBlock) v257 y256) := ⟨h0_⟩
                                  have n1_ : Aside0 (Kd.V (Kd.int .i64) 3 w93 w.heap.size (fun k_ => (P1_ k_ ∨ w.heap.size ≤ k_) ∧ some k_ ≠ (v257 : Value).ownBlock ∧ some k_ ≠ (.slice (some ad251) y248.length co58 : Value).ownBlock ∧ k_ ≠ gb235) (.slice (some ad239) l1.length c1) l1) := ⟨h1_⟩
                                  have n2_ : Aside0 (Kd.V (Kd.int .u8) 5 w93 w.heap.size (fun k_ => (w.heap.size ≤ k_) ∧ some k_ ≠ (v257 : Value).ownBlock) (.slice (some ad251) y248.length co58) y248) := ⟨h2_⟩
                                  have n3_ : Aside0 (Kd.V (Kd.int .i64) 3 w93 w.heap.size (fun k_ => (P1_ k_ ∨ w.heap.size ≤ k_) ∧ some k_ ≠ (v257 : Value).ownBlock ∧ some k_ ≠ (.slice (some ad251) y248.length co58 : Value).ownBlock ∧ k_ ≠ gb235) (.slice (some ad239) l1.length c1) l1) := ⟨h3_⟩
                                  have n4_ : Aside0 (Kd.V (Kd.int .i64) 3 w93 w.heap.size (fun k_ => (P1_ k_ ∨ w.heap.size ≤ k_) ∧ some k_ ≠ (v257 : Value).ownBlock ∧ some k_ ≠ (.slice (some ad251) y248.length co58 : Value).ownBlock ∧ k_ ≠ gb235) (.slice (some ad239) l1.length c1) l1) := ⟨h4_⟩
                                  have n5_ : Aside0 (w93.heap[gb235]? = some (.cells #[.int .i64 a0_0, .int .i64 a0_1] 25 (0, 0))) := ⟨h5_⟩
                                  have n6_ : Aside0 (Below w.heap.size w w93) := ⟨h6_⟩
                                  clear HO_1; clear HO_53; clear HO_59; clear HO_77; clear BK235; clear HB; clear h0_ h1_ h2_ h3_ h4_ h5_ h6_; have HO258 := n0_; have HO_1 := n1_; have HO_53 := n2_; have HO_59 := n3_; have HO_77 := n4_; have BK235 := n5_; have HB := n6_; clear n0_ n1_ n2_ n3_ n4_ n5_ n6_
                                  have hHeld : w93.cell? ⟨gb235, 0, none⟩ = some (.int .i64 a0_0) ∧ w93.cell? ⟨gb235, 1, none⟩ = some (.int .i64 a0_1) := hS_
                                  refine norm_ (a' := ?_) ?_ ?_
                                  rotate_left
                                  ·simp only [putAll, Act.put, List.setIfInBounds_toArray, List.set_cons_zero, List.set_cons_succ]; rfl
                                  refine one_ (i := 2) (N := some 113) #[true, true, true, true, true, true, true, true, true, false, true, true, true, true, true, true, false, false] rfl rfl (one_of HT_.out kr_) (by decide) (fun K hK => ?_)
                                  have hcv94 := own_string (P := Tryz.prog) Tryz.underlying22 Tryz.underlying5 Tryz.underlying9 (Kd.own_of_R HO258.out)
                                  refine value_ (w1 := ?_) (v := ?_) (by rfl) rfl ?_ ?_
                                  rotate_left 2
                                  ·go_simp
                                   constructor
                                   ·rfl
                                   ·rfl
                                  clear hcv94
                                  refine hK.out _ _ ⟨(blk_cell BK235.out 0).trans rfl, (blk_cell BK235.out 1).trans rfl⟩ (fun hHeld => ?_)
                                  clear hK K
                                  refine norm_ (a' := ?_) ?_ ?_
                                  rotate_left
                                  ·show Act.put _ (some 113) _ = _
                                   simp only [Act.put, sT_, s0_, s1_, i64_w, i32_w]; rfl
                                  refine pure_ (i := 9) (N := some 120) (v := ?_) (a' := ?_) #[true, true, true, true, true, true, true, true, true, true, true, true, true, true, true, true, false, false] rfl rfl (any_of HT_.out kr_) (fun _ _ _ h => h) (Or.inl ⟨by rfl, ?_⟩) ?_ ?_; rotate_left
                                  ·intro w'; go_simp; with_reducible rfl
                                  rotate_left
                                  ·simp only [Act.put, sT_, s0_, s1_, i64_w, i32_w]; rfl
                                  exact norm_ q11_ (hJ1_2_8_15 (v257) _ ⟨hHeld, (M.Lr HO258), (M.Lv HO_1), (M.Lv HO_53), (M.Lv HO_59), (M.Lv HO_77), (M.Lb BK235), q0_⟩)
                                ·skip
                                 rintro v257 w93 ⟨hS_, h0_, h1_, h2_, h3_, h4_, h5_, h6_⟩
                                 have n0_ : Aside0 (Kd.R (Kd.int .u8) 5 w93 w.heap.size (fun k_ => (w.heap.size ≤ k_) ∧ some k_ ≠ (.slice (some ad251) y248.length co58 : Value).ownBlock) v257 y256) := ⟨h0_⟩
                                 have n1_ : Aside0 (Kd.V (Kd.int .i64) 3 w93 w.heap.size (fun k_ => (P1_ k_ ∨ w.heap.size ≤ k_) ∧ some k_ ≠ (v257 : Value).ownBlock ∧ some k_ ≠ (.slice (some ad251) y248.length co58 : Value).ownBlock ∧ k_ ≠ gb235) (.slice (some ad239) l1.length c1) l1) := ⟨h1_⟩
                                 have n2_ : Aside0 (Kd.V (Kd.int .u8) 5 w93 w.heap.size (fun k_ => (w.heap.size ≤ k_) ∧ some k_ ≠ (v257 : Value).ownBlock) (.slice (some ad251) y248.length co58) y248) := ⟨h2_⟩
                                 have n3_ : Aside0 (Kd.V (Kd.int .i64) 3 w93 w.heap.size (fun k_ => (P1_ k_ ∨ w.heap.size ≤ k_) ∧ some k_ ≠ (v257 : Value).ownBlock ∧ some k_ ≠ (.slice (some ad251) y248.length co58 : Value).ownBlock ∧ k_ ≠ gb235) (.slice (some ad239) l1.length c1) l1) := ⟨h3_⟩
                                 have n4_ : Aside0 (Kd.V (Kd.int .i64) 3 w93 w.heap.size (fun k_ => (P1_ k_ ∨ w.heap.size ≤ k_) ∧ some k_ ≠ (v257 : Value).ownBlock ∧ some k_ ≠ (.slice (some ad251) y248.length co58 : Value).ownBlock ∧ k_ ≠ gb235) (.slice (some ad239) l1.length c1) l1) := ⟨h4_⟩
                                 have n5_ : Aside0 (w93.heap[gb235]? = some (.cells #[.int .i64 a0_0, .int .i64 a0_1] 25 (0, 0))) := ⟨h5_⟩
                                 have n6_ : Aside0 (Below w.heap.size w w93) := ⟨h6_⟩
                                 clear HO_1; clear HO_53; clear HO_59; clear HO_77; clear BK235; clear HB; clear h0_ h1_ h2_ h3_ h4_ h5_ h6_; have HO258 := n0_; have HO_1 := n1_; have HO_53 := n2_; have HO_59 := n3_; have HO_77 := n4_; have BK235 := n5_; have HB := n6_; clear n0_ n1_ n2_ n3_ n4_ n5_ n6_
                                 have hHeld : w93.cell? ⟨gb235, 0, none⟩ = some (.int .i64 a0_0) ∧ w93.cell? ⟨gb235, 1, none⟩ = some (.int .i64 a0_1) := hS_
                                 refine norm_ (a' := ?_) ?_ ?_
                                 rotate_left
                                 ·simp only [putAll, Act.put, List.setIfInBounds_toArray, List.set_cons_zero, List.set_cons_succ]; rfl
                                 refine one_ (i := 15) (N := some 126) #[true, true, true, true, true, true, true, true, true, true, true, true, true, true, true, true, false, false] rfl rfl (one_of HT_.out kr_) (by decide) (fun K hK => ?_)
                                 refine goes_ Tryz.func42 kr_ rfl #[.agg #[.int .i64 a0_0, .int .i64 x79_5], .slice (some ad239) l1.length c1] (by rfl) rfl rfl q2_ ?_
                                 with_reducible refine (ih kj75 (by have := HJ13.out; have := HK2.out; have := HK3.out; have := HJ64.out; have := HK5.out; have := HJ73.out; have := HJ75.out; omega) a0_0 x79_5 (fun k_ => ((P1_ k_ ∨ w.heap.size ≤ k_) ∧ (some k_ ≠ (v257 : Value).ownBlock ∧ (some k_ ≠ (.slice (some ad251) y248.length co58 : Value).ownBlock ∧ k_ ≠ gb235)))) _ _ l1 t260 _ ?side1 A86.out).mono ?_
                                 (case side1 => exact HO_1.out)
                                 rintro e w94 ⟨rfl, hb⟩
                                 refine ⟨_, rfl, ?_⟩
                                 have n0_ := A_ (Kd.V_below (M.Lv HO_1) hb)
                                 have n1_ := A_ (Kd.V_below (M.Lv HO_53) hb)
                                 have n2_ := A_ (Kd.V_below (M.Lv HO_59) hb)
                                 have n3_ := A_ (Kd.V_below (M.Lv HO_77) hb)
                                 have n4_ := A_ (Kd.R_below (M.Lr HO258) hb)
                                 have n5_ := A_ (blk_below (M.Lb BK235) hb)
                                 have n6_ := A_ (below_step q0_ hb)
                                 clear HO_1; clear HO_53; clear HO_59; clear HO_77; clear HO258; clear BK235; clear HB; have HO_1 := n0_; have HO_53 := n1_; have HO_59 := n2_; have HO_77 := n3_; have HO258 := n4_; have BK235 := n5_; have HB := n6_; clear n0_ n1_ n2_ n3_ n4_ n5_ n6_; clear hb
                                 refine hK.out _ _ ⟨(blk_cell BK235.out 0).trans rfl, (blk_cell BK235.out 1).trans rfl⟩ (fun hHeld => ?_)
                                 clear hK K
                                 refine norm_ (a' := ?_) ?_ ?_
                                 rotate_left
                                 ·show Act.put _ (some 126) _ = _
                                  simp only [Act.put, sT_, s0_, s1_, i64_w, i32_w]; rfl
                                 exact norm_ q11_ (hJ1_2_8_15 (v257) _ ⟨hHeld, (M.Lr HO258), (M.Lv HO_1), (M.Lv HO_53), (M.Lv HO_59), (M.Lv HO_77), (M.Lb BK235), q0_⟩)
                               rintro v257 w94 ⟨hS_, h0_, h1_, h2_, h3_, h4_, h5_, h6_⟩
                               have n0_ : Aside0 (Kd.R (Kd.int .u8) 5 w94 w.heap.size (fun k_ => (w.heap.size ≤ k_) ∧ some k_ ≠ (.slice (some ad251) y248.length co58 : Value).ownBlock) v257 y256) := ⟨h0_⟩
                               have n1_ : Aside0 (Kd.V (Kd.int .i64) 3 w94 w.heap.size (fun k_ => (P1_ k_ ∨ w.heap.size ≤ k_) ∧ some k_ ≠ (v257 : Value).ownBlock ∧ some k_ ≠ (.slice (some ad251) y248.length co58 : Value).ownBlock ∧ k_ ≠ gb235) (.slice (some ad239) l1.length c1) l1) := ⟨h1_⟩
                               have n2_ : Aside0 (Kd.V (Kd.int .u8) 5 w94 w.heap.size (fun k_ => (w.heap.size ≤ k_) ∧ some k_ ≠ (v257 : Value).ownBlock) (.slice (some ad251) y248.length co58) y248) := ⟨h2_⟩
                               have n3_ : Aside0 (Kd.V (Kd.int .i64) 3 w94 w.heap.size (fun k_ => (P1_ k_ ∨ w.heap.size ≤ k_) ∧ some k_ ≠ (v257 : Value).ownBlock ∧ some k_ ≠ (.slice (some ad251) y248.length co58 : Value).ownBlock ∧ k_ ≠ gb235) (.slice (some ad239) l1.length c1) l1) := ⟨h3_⟩
                               have n4_ : Aside0 (Kd.V (Kd.int .i64) 3 w94 w.heap.size (fun k_ => (P1_ k_ ∨ w.heap.size ≤ k_) ∧ some k_ ≠ (v257 : Value).ownBlock ∧ some k_ ≠ (.slice (some ad251) y248.length co58 : Value).ownBlock ∧ k_ ≠ gb235) (.slice (some ad239) l1.length c1) l1) := ⟨h4_⟩
                               have n5_ : Aside0 (w94.heap[gb235]? = some (.cells #[.int .i64 a0_0, .int .i64 a0_1] 25 (0, 0))) := ⟨h5_⟩
                               have n6_ : Aside0 (Below w.heap.size w w94) := ⟨h6_⟩
                               clear HO_1; clear HO_53; clear HO_59; clear HO_77; clear BK235; clear HB; clear h0_ h1_ h2_ h3_ h4_ h5_ h6_; have HO258 := n0_; have HO_1 := n1_; have HO_53 := n2_; have HO_59 := n3_; have HO_77 := n4_; have BK235 := n5_; have HB := n6_; clear n0_ n1_ n2_ n3_ n4_ n5_ n6_
                               have hHeld : w94.cell? ⟨gb235, 0, none⟩ = some (.int .i64 a0_0) ∧ w94.cell? ⟨gb235, 1, none⟩ = some (.int .i64 a0_1) := hS_
                               refine norm_ (a' := ?_) ?_ ?_
                               rotate_left
                               ·simp only [putAll, Act.put, List.setIfInBounds_toArray, List.set_cons_zero, List.set_cons_succ]; rfl
                               refine pure_ (i := 16) (N := some 127) (v := ?_) (a' := ?_) #[true, true, true, true, true, true, true, true, true, true, true, true, true, true, true, true, true, false] rfl rfl (any_of HT_.out kr_) (fun _ _ _ h => h) (Or.inl ⟨by rfl, ?_⟩) ?_ ?_; rotate_left
                               ·intro w'; go_simp; with_reducible rfl
                               rotate_left
                               ·simp only [Act.put, sT_, s0_, s1_, i64_w, i32_w]; rfl
                               refine pure_ (i := 17) (N := some 4) (v := ?_) (a' := ?_) #[true, true, true, true, true, true, true, true, true, true, true, true, true, true, true, true, true, true] rfl rfl (any_of HT_.out kr_) (fun _ _ _ h => h) (Or.inl ⟨by rfl, ?_⟩) ?_ ?_; rotate_left
                               ·intro w'; go_simp; with_reducible rfl
                               rotate_left
                               ·simp only [Act.put, sT_, s0_, s1_, i64_w, i32_w]; rfl
                               refine done_ (done_of HT_.out kr_) ?_
                               try go_wp2
                               go_ret
                               exact ⟨q6_, q0_⟩
                              ·rw [if_neg c87] at H
                               exact absurd H (by simp)
                             ·rw [if_neg c85] at H
                              exact absurd H (by simp)
                            ·replace c83 := Bool.eq_false_iff.mpr c83
                             subst c83
                             have H1 : (impl_Table_smallest.l3 kj75 l1 (rd y248 x55_2) x61_3 (rd l1 x61_3) y248 (y248.length : Int) x55_2 l1 (l1.length : Int) x61_3 l1 (l1.length : Int) (wrap64 (x79_5 + 1)) a0_0 a0_1) = some r := by rw [if_neg (show ¬ (false = true) by decide)] at H; exact H
                             clear H; have H := H1; clear H1
                             have H' := A_ H
                             clear H
                             go_wp2
                             go_roundg kj75
                             case measure => have := HJ13.out; have := HK2.out; have := HK3.out; have := HJ64.out; have := HK5.out; have := HJ73.out; have := HJ75.out; omega
                             case rel => exact ⟨(wrap64 (x79_5 + 1)), q1_, H', ⟨by have := HJ13.out; have := HK2.out; have := HK3.out; have := HJ64.out; have := HK5.out; have := HJ73.out; have := HJ75.out; omega⟩, ⟨M.Lv HO_1⟩, ⟨M.Lv HO_53⟩, ⟨M.Lv HO_59⟩, ⟨M.Lv HO_77⟩, ⟨M.Lb BK235⟩, ⟨q0_⟩⟩
                       ·rw [if_neg c73] at H
                        exact absurd H (by simp)
                      ·rw [if_neg c72] at H
                       exact absurd H (by simp)
                     ·rw [if_neg c71] at H
                      have c71b0 : decide (x79_5 < (l1.length : Int)) = false := decide_eq_false c71
                      clear c71
                      have H' := A_ H
                      clear H
                      go_wp2
                      go_roundg k5
                      case measure => have := HJ13.out; have := HK2.out; have := HK3.out; have := HJ64.out; have := HK5.out; omega
                      case rel => exact ⟨(wrap64 (x61_3 + 1)), q1_, H', ⟨by have := HJ13.out; have := HK2.out; have := HK3.out; have := HJ64.out; have := HK5.out; omega⟩, ⟨M.Lv HO_1⟩, ⟨M.Lv HO_53⟩, ⟨M.Lv HO_59⟩, ⟨M.Lb BK235⟩, ⟨q0_⟩⟩
               ·rw [if_neg c64] at H
                exact absurd H (by simp)
              ·rw [if_neg c63] at H
               exact absurd H (by simp)
             ·rw [if_neg c62] at H
              have c62b0 : decide (x61_3 < (l1.length : Int)) = false := decide_eq_false c62
              clear c62
              have H' := A_ H
              clear H
              go_wp2
              go_roundg k3
              case measure => have := HJ13.out; have := HK2.out; have := HK3.out; omega
              case rel => exact ⟨(wrap64 (x55_2 + 1)), q1_, H', ⟨by have := HJ13.out; have := HK2.out; have := HK3.out; omega⟩, ⟨M.Lv HO_1⟩, ⟨M.Lv HO_53⟩, ⟨M.Lb BK235⟩, ⟨q0_⟩⟩
          ·rw [if_neg c61] at H
           exact absurd H (by simp)
         ·rw [if_neg c60] at H
          exact absurd H (by simp)
        ·rw [if_neg c59] at H
         have c59b0 : decide (x55_2 < (y248.length : Int)) = false := decide_eq_false c59
         clear c59
         obtain rfl := Option.some.inj H
         go_wp2
         go_ret
         exact ⟨q6_, q0_⟩
   ·rw [if_neg c13] at H
    exact absurd H (by simp)
  ·rw [if_neg c12] at H
   exact absurd H (by simp)
def bits_Mul64.f (a0 : Int) (a1 : Int) : Option (Int × Int) := some (IntKind.u64.wrap ((IntKind.u64.wrap ((IntKind.u64.wrap ((a0 / 4294967296) * (a1 / 4294967296))) + ((IntKind.u64.wrap ((IntKind.u64.wrap ((a0 / 4294967296) * (Go.bits .and .u64 a1 4294967295))) + ((IntKind.u64.wrap ((Go.bits .and .u64 a0 4294967295) * (Go.bits .and .u64 a1 4294967295))) / 4294967296))) / 4294967296))) + ((IntKind.u64.wrap ((Go.bits .and .u64 (IntKind.u64.wrap ((IntKind.u64.wrap ((a0 / 4294967296) * (Go.bits .and .u64 a1 4294967295))) + ((IntKind.u64.wrap ((Go.bits .and .u64 a0 4294967295) * (Go.bits .and .u64 a1 4294967295))) / 4294967296))) 4294967295) + (IntKind.u64.wrap ((Go.bits .and .u64 a0 4294967295) * (a1 / 4294967296))))) / 4294967296)), IntKind.u64.wrap (a0 * a1))
theorem bits_Mul64.calls (a0 : Int) (a1 : Int) (r1 : Int) (r2 : Int) (w : World) (h : bits_Mul64.f a0 a1 = some (r1, r2)) :
    Calls Tryz.prog 97 #[.int .u64 a0, .int .u64 a1] w fun e w' => e = .returned (.tuple #[.int .u64 r1, .int .u64 r2]) ∧ Drawn0 w w' := by
  have H : (some (IntKind.u64.wrap ((IntKind.u64.wrap ((IntKind.u64.wrap ((a0 / 4294967296) * (a1 / 4294967296))) + ((IntKind.u64.wrap ((IntKind.u64.wrap ((a0 / 4294967296) * (Go.bits .and .u64 a1 4294967295))) + ((IntKind.u64.wrap ((Go.bits .and .u64 a0 4294967295) * (Go.bits .and .u64 a1 4294967295))) / 4294967296))) / 4294967296))) + ((IntKind.u64.wrap ((Go.bits .and .u64 (IntKind.u64.wrap ((IntKind.u64.wrap ((a0 / 4294967296) * (Go.bits .and .u64 a1 4294967295))) + ((IntKind.u64.wrap ((Go.bits .and .u64 a0 4294967295) * (Go.bits .and .u64 a1 4294967295))) / 4294967296))) 4294967295) + (IntKind.u64.wrap ((Go.bits .and .u64 a0 4294967295) * (a1 / 4294967296))))) / 4294967296)), IntKind.u64.wrap (a0 * a1))) = some (r1, r2) := h
  clear h
  simp only [Option.some.injEq, Prod.mk.injEq] at H
  obtain ⟨rfl, rfl⟩ := H
  go_enter Tryz.func97, Tryz.ntmps97
  go_wp2
  go_ret2
  exact ⟨q1_, q5_⟩
def bits_Mul.f (a0 : Int) (a1 : Int) : Option (Int × Int) := (bits_Mul64.f a0 a1).bind fun bt261 => (some (bt261.1, bt261.2))
theorem bits_Mul.calls (a0 : Int) (a1 : Int) (r1 : Int) (r2 : Int) (w : World) (h : bits_Mul.f a0 a1 = some (r1, r2)) :
    Calls Tryz.prog 90 #[.int .u64 a0, .int .u64 a1] w fun e w' => e = .returned (.tuple #[.int .u64 r1, .int .u64 r2]) ∧ Drawn0 w w' := by
  have H : ((bits_Mul64.f a0 a1).bind fun bt261 => (some (bt261.1, bt261.2))) = some (r1, r2) := h
  clear h; replace H := Option.bind_eq_some_iff.mp H; obtain ⟨⟨t261, t262⟩, A30, H⟩ := H
  replace H : (some (t261, t262)) = some (r1, r2) := H
  have A3 := A_ A30; clear A30
  simp only [Option.some.injEq, Prod.mk.injEq] at H
  obtain ⟨rfl, rfl⟩ := H
  go_enter Tryz.func90, Tryz.ntmps90
  go_wp2_with (first | ((with_reducible refine gate_callee (f := 97) rfl ?_); refine goesL_ (some 25) rfl rfl Tryz.func97 kr_ rfl #[.int .u64 a0, .int .u64 a1] rfl q2_ ?_; (with_reducible refine (bits_Mul64.calls a0 a1 t261 t262 _ A3.out).mono ?_); rintro e w' ⟨rfl, ⟨nd, rfl⟩⟩; refine ⟨_, rfl, ?_⟩))
  go_ret2
  exact ⟨q1_, q5_⟩
end Go.Proofs.YtfoopehlmnejaaaGreatDoor.Print
