/- Several texts of this repo's programs in one: plain lemmas, or functions of the given program as plain Lean functions with proofs that their calls compute them. -/
import Derived.Test.YtkmicbnbclkkkaaDoorKTrees2
import Derived.Test.YtkmicbnbclkkkaaDoorM14
import Derived.Shelf.GgClosure.Gives
import Derived.BigQuiet
import Derived.Deep.RegionHeld3
import Derived.DeepKeys5
import Derived.Deep.RegionHeldLaw
import Derived.Carry
namespace Go.Proofs.YtkmicbnbclkkkaaDoor.Print
open Go.RowKit Go.Proofs.YtkmicbnbclkkkaaDoorW.PrintWords Go.Proofs.YtkmicbnbclkkkaaDoorW.PrintLast Go.Proofs.YtkmicbnbclkkkaaDoorW.PrintMore
attribute [local go_sem] max2_int min2_int max_two min_two max_three min_three max_four min_four   -- for this text's walks alone
set_option linter.unusedVariables false
set_option linter.unusedSimpArgs false
set_option maxHeartbeats 8000000
set_option maxRecDepth 100000
private theorem sT_ {α : Type _} (l : List α) (i : Nat) (a : α) : l.toArray.setIfInBounds i a = (l.set i a).toArray := List.setIfInBounds_toArray ..
private theorem s0_ {α : Type _} {x y : α} {l : List α} : (x :: l).set 0 y = y :: l := rfl
private theorem s1_ {α : Type _} {x y : α} {l : List α} {n : Nat} : (x :: l).set (n + 1) y = x :: l.set n y := rfl
/-! ### impl_IsTable: function 50 -/
def impl_IsTable.f (a0_0 : Int) (a0_1 : Int) : Option (Bool) := (impl_isBits.f a0_0).bind fun t185 => (if t185 = true then (if a0_1 ≥ 0 then ((impl_Table_size.f a0_0 a0_1).bind fun t186 => (if 0 ≤ t186 then (some ((shr .i64 a0_1 t186) == 0)) else (none))) else (some false)) else (some false))
def impl_IsTable.T1 : Bool × List (List Nat × List Nat) := (true, [([], []), ([0], [0]), ([1], [1]), ([2, 2], [2]), ([3], [3]), ([4, 3], [3, 4]), ([5, 3], [3, 5]), ([3, 6], [3, 6]), ([7, 3], [7]), ([8], [8]), ([9, 8], [8, 9]), ([8], [8]), ([11, 8, 8], [8, 11]), ([10, 12, 8], [8, 10, 12]), ([13, 8], [8, 13]), ([8, 14], [8, 14]), ([15, 12, 0, 1, 2, 3, 4, 5, 6, 7, 8, 9, 10, 11, 12, 13, 14, 15], [15])])
def impl_IsTable.B1 : List Nat := [0, 1, 3, 7, 15, 31, 63, 127, 255, 511, 1023, 511, 2559, 8191, 16383, 32767, 65535]
theorem impl_IsTable.tab1 : rtab .any (opsOf Tryd.f50 1) = impl_IsTable.T1 := by kernel_rfl
theorem impl_IsTable.bits1 : waitsOk impl_IsTable.T1.2 impl_IsTable.B1 = true := by kernel_rfl
theorem impl_IsTable.calls (a0_0 : Int) (a0_1 : Int) (r : Bool) (w : World) (h : impl_IsTable.f a0_0 a0_1 = some r) :
  Calls Tryd.prog 50 #[.agg #[.int .i64 a0_0, .int .i64 a0_1]] w fun e w' => e = .returned (.bool r) ∧ Below w.heap.size w w' := by
 have hu25 := Tryd.underlying25
 have HB := Aside0.mk (Below.refl w.heap.size w)
 have H : ((impl_isBits.f a0_0).bind fun t185 => (if t185 = true then (if a0_1 ≥ 0 then ((impl_Table_size.f a0_0 a0_1).bind fun t186 => (if 0 ≤ t186 then (some ((shr .i64 a0_1 t186) == 0)) else (none))) else (some false)) else (some false))) = some r := h
 clear h; replace H := Option.bind_eq_some_iff.mp H; obtain ⟨t185, A20, H⟩ := H; (try dsimp only at H); have A2 := Aside0.mk A20; clear A20
 by_cases c3 : t185 = true
 ·subst c3
  have H1 : (if a0_1 ≥ 0 then ((impl_Table_size.f a0_0 a0_1).bind fun t186 => (if 0 ≤ t186 then (some ((shr .i64 a0_1 t186) == 0)) else (none))) else (some false)) = some r := by rw [if_pos rfl] at H; exact H
  clear H; have H := H1; clear H1
  by_cases c4 : a0_1 ≥ 0
  ·rw [if_pos c4] at H
   have c4b0 : decide (0 ≤ a0_1) = true := decide_eq_true c4
   clear c4; replace H := Option.bind_eq_some_iff.mp H; obtain ⟨t186, A50, H⟩ := H
   replace H : (if 0 ≤ t186 then (some ((shr .i64 a0_1 t186) == 0)) else (none)) = some r := H
   have A5 := Aside0.mk A50; clear A50
   by_cases c6 : 0 ≤ t186
   ·rw [if_pos c6] at H
    have c6b0 := eq_true c6
    have c6b1 : decide (0 ≤ t186) = true := decide_eq_true c6
    clear c6
    obtain ⟨ji7, hji7⟩ : ∃ j_ : Int, (shr .i64 a0_1 t186) = j_ := ⟨_, rfl⟩
    replace H : (some ((ji7) == 0)) = some r := by first | (rw [hji7] at H; exact H) | (simp only [hji7] at H ⊢; exact H)
    (try rw [hji7] at A2)
    (try rw [hji7] at A5)
    have hji7_ : (a0_1 / 2 ^ min t186.toNat 64) = ji7 := hji7
    have hji7z : t186 ≤ 64 → (a0_1 / 2 ^ t186.toNat) = ji7 := shr_small hji7
    obtain rfl := Option.some.inj H
    go_enter Tryd.func50, Tryd.ntmps50
    try go_wp2_with (first | ((with_reducible refine gate_dst (N := 1) rfl ?_); refine box_event ?hg (N := 1) ?hd (cs := #[.int .i64 a0_0, .int .i64 a0_1]) (t := 25) ?hr ?_; (case hd => rfl); (case hg => rfl); (case hr => first | (go_simp; done) | (go_simp; rfl)); intro gb184 hg w8 hbox hb; have n0_ := Aside0.mk (below_step (by repeat (first | (with_reducible first | exact HB.out | apply below_alloc | apply pw_below_drewN | apply below_drew1) | exact HB.out)) hb); have n1_ := Aside0.mk (hbox); have n2_ := Aside0.mk ((by rw [hg]; exact (below_size (by repeat (first | (with_reducible first | exact HB.out | apply below_alloc | apply pw_below_drewN | apply below_drew1) | exact HB.out))) : w.heap.size ≤ gb184)); have n3_ := Aside0.mk ((by rw [hg]; exact (below_size (by repeat (first | (with_reducible first | exact HB.out | apply below_alloc | apply pw_below_drewN | apply below_drew1) | exact HB.out))) : w.heap.size ≤ gb184)); clear HB; have HB := n0_; have BK184 := n1_; have GW184 := n2_; have GE184 := n3_; clear n0_ n1_ n2_ n3_; clear hb hbox hg))
    have n0_ := Aside0.mk (blk_drew BK184.out)
    have n1_ := Aside0.mk (below_drew1 HB.out)
    clear BK184; clear HB; have BK184 := n0_; have HB := n1_; clear n0_ n1_
    refine start_ (n := 17) (S := fun w' => w'.cell? ⟨gb184, 0, none⟩ = some (.int .i64 a0_0) ∧ w'.cell? ⟨gb184, 1, none⟩ = some (.int .i64 a0_1)) (ds := []) #[false, false, false, false, false, false, false, false, false, false, false, false, false, false, false, false, false] (by kernel_rfl) rfl rfl ⟨(blk_cell BK184.out 0).trans rfl, (blk_cell BK184.out 1).trans rfl⟩ (fun hHeld => ?_); refine with_tabW impl_IsTable.tab1 impl_IsTable.bits1 (fun HT_ HW_ => ?_)
    generalize w8.drew = w9 at BK184 HB hHeld ⊢
    refine pure_ (i := 0) (N := some 3) (v := ?_) (a' := ?_) #[true, false, false, false, false, false, false, false, false, false, false, false, false, false, false, false, false] rfl rfl (any_of HT_.out (by kernel_rfl)) (fun _ _ _ h => h) (Or.inl ⟨by rfl, ?_⟩) ?_ ?_; rotate_left
    ·intro w'; go_simp; with_reducible rfl
    rotate_left
    ·simp only [Act.put, sT_, s0_, s1_, i64_w, i32_w]; rfl
    refine take_ (i := 1) (N := some 4) (v := ?_) (a' := ?_) #[true, true, false, false, false, false, false, false, false, false, false, false, false, false, false, false, false] rfl rfl (take_ofW HT_.out HW_.out (by kernel_rfl)) (fun _ _ _ h => h) (Or.inl ⟨by rfl, ?_⟩) hHeld ?_ ?_
    rotate_left
    ·rintro w' ⟨s0, s1⟩
     go_simp; with_reducible rfl
    rotate_left
    ·simp only [Act.put, sT_, s0_, s1_, i64_w, i32_w]; rfl
    refine one_ (i := 2) (N := some 5) #[true, true, true, false, false, false, false, false, false, false, false, false, false, false, false, false, false] rfl rfl (one_of HT_.out (by kernel_rfl)) (by decide) (fun K hK => ?_)
    refine goes_ Tryd.func57 (by kernel_rfl) rfl #[.int .i64 a0_0] (by rfl) rfl rfl (by first | rfl | (simp only [List.map_toArray, List.map_cons, List.map_nil, List.length_drop, List.length_take]; rfl)) ?_
    with_reducible refine (impl_isBits.calls a0_0 true _ A2.out).mono ?_
    rintro e w' ⟨rfl, ⟨nd, rfl⟩⟩
    refine ⟨_, rfl, ?_⟩
    refine hK.out _ _ ⟨(blk_cell BK184.out 0).trans rfl, (blk_cell BK184.out 1).trans rfl⟩ (fun hHeld => ?_)
    clear hK K
    refine norm_ (a' := ?_) ?_ ?_
    rotate_left
    ·show Act.put _ (some 5) _ = _
     simp only [Act.put, sT_, s0_, s1_, i64_w, i32_w]; rfl
    refine pure_ (i := 3) (N := some 6) (v := ?_) (a' := ?_) #[true, true, true, true, false, false, false, false, false, false, false, false, false, false, false, false, false] rfl rfl (any_of HT_.out (by kernel_rfl)) (fun _ _ _ h => h) (Or.inl ⟨by rfl, ?_⟩) ?_ ?_; rotate_left
    ·intro w'; go_simp; with_reducible rfl
    rotate_left
    ·simp only [Act.put, sT_, s0_, s1_, i64_w, i32_w]; rfl
    refine pure_ (i := 4) (N := some 7) (v := ?_) (a' := ?_) #[true, true, true, true, true, false, false, false, false, false, false, false, false, false, false, false, false] rfl rfl (any_of HT_.out (by kernel_rfl)) (fun _ _ _ h => h) (Or.inl ⟨by rfl, ?_⟩) ?_ ?_; rotate_left
    ·intro w'; go_simp; with_reducible rfl
    rotate_left
    ·simp only [Act.put, sT_, s0_, s1_, i64_w, i32_w]; rfl
    refine take_ (i := 5) (N := some 8) (v := ?_) (a' := ?_) #[true, true, true, true, true, true, false, false, false, false, false, false, false, false, false, false, false] rfl rfl (take_ofW HT_.out HW_.out (by kernel_rfl)) (fun _ _ _ h => h) (Or.inl ⟨by rfl, ?_⟩) hHeld ?_ ?_
    rotate_left
    ·rintro w' ⟨s0, s1⟩
     go_simp; with_reducible rfl
    rotate_left
    ·simp only [Act.put, sT_, s0_, s1_, i64_w, i32_w]; rfl
    refine pure_ (i := 6) (N := some 9) (v := ?_) (a' := ?_) #[true, true, true, true, true, true, true, false, false, false, false, false, false, false, false, false, false] rfl rfl (any_of HT_.out (by kernel_rfl)) (fun _ _ _ h => h) (Or.inl ⟨by rfl, ?_⟩) ?_ ?_; rotate_left
    ·intro w'; go_simp; with_reducible rfl
    rotate_left
    ·simp only [Act.put, sT_, s0_, s1_, i64_w, i32_w]; rfl
    refine pure_ (i := 7) (N := some 10) (v := ?_) (a' := ?_) #[true, true, true, true, true, true, true, true, false, false, false, false, false, false, false, false, false] rfl rfl (any_of HT_.out (by kernel_rfl)) (fun _ _ _ h => h) (Or.inl ⟨by rfl, ?_⟩) ?_ ?_; rotate_left
    ·intro w'; go_simp; with_reducible rfl
    rotate_left
    ·simp only [Act.put, sT_, s0_, s1_, i64_w, i32_w]; rfl
    refine pure_ (i := 8) (N := some 11) (v := ?_) (a' := ?_) #[true, true, true, true, true, true, true, true, true, false, false, false, false, false, false, false, false] rfl rfl (any_of HT_.out (by kernel_rfl)) (fun _ _ _ h => h) (Or.inl ⟨by rfl, ?_⟩) ?_ ?_; rotate_left
    ·intro w'; go_simp; with_reducible rfl
    rotate_left
    ·simp only [Act.put, sT_, s0_, s1_, i64_w, i32_w]; rfl
    refine pure_ (i := 9) (N := some 12) (v := ?_) (a' := ?_) #[true, true, true, true, true, true, true, true, true, true, false, false, false, false, false, false, false] rfl rfl (any_of HT_.out (by kernel_rfl)) (fun _ _ _ h => h) (Or.inl ⟨by rfl, ?_⟩) ?_ ?_; rotate_left
    ·intro w'; go_simp; with_reducible rfl
    rotate_left
    ·simp only [Act.put, sT_, s0_, s1_, i64_w, i32_w]; rfl
    refine take_ (i := 10) (N := some 13) (v := ?_) (a' := ?_) #[true, true, true, true, true, true, true, true, true, true, true, false, false, false, false, false, false] rfl rfl (take_ofW HT_.out HW_.out (by kernel_rfl)) (fun _ _ _ h => h) (Or.inl ⟨by rfl, ?_⟩) hHeld ?_ ?_
    rotate_left
    ·rintro w' ⟨s0, s1⟩
     go_simp; with_reducible rfl
    rotate_left
    ·simp only [Act.put, sT_, s0_, s1_, i64_w, i32_w]; rfl
    refine take_ (i := 11) (N := some 14) (v := ?_) (a' := ?_) #[true, true, true, true, true, true, true, true, true, true, true, true, false, false, false, false, false] rfl rfl (take_ofW HT_.out HW_.out (by kernel_rfl)) (fun _ _ _ h => h) (Or.inl ⟨by rfl, ?_⟩) hHeld ?_ ?_
    rotate_left
    ·rintro w' ⟨s0, s1⟩
     go_simp; with_reducible rfl
    rotate_left
    ·simp only [Act.put, sT_, s0_, s1_, i64_w, i32_w]; rfl
    refine one_ (i := 12) (N := some 15) #[true, true, true, true, true, true, true, true, true, true, true, true, true, false, false, false, false] rfl rfl (one_of HT_.out (by kernel_rfl)) (by decide) (fun K hK => ?_)
    refine goes_ Tryd.func40 (by kernel_rfl) rfl #[.agg #[.int .i64 a0_0, .int .i64 a0_1]] (by rfl) rfl rfl (by first | rfl | (simp only [List.map_toArray, List.map_cons, List.map_nil, List.length_drop, List.length_take]; rfl)) ?_
    with_reducible refine (impl_Table_size.calls a0_0 a0_1 t186 _ A5.out).mono ?_
    rintro e w10 ⟨rfl, hb⟩
    refine ⟨_, rfl, ?_⟩
    have n0_ := Aside0.mk (blk_below (g := gb184) (o := .cells #[.int .i64 a0_0, .int .i64 a0_1] 25 (0, 0)) (by (with_reducible repeat (first | refine blk_drewN ?_ _ | refine blk_drew ?_ | refine blk_alloc ?_ _)); exact BK184.out) hb)
    have n1_ := Aside0.mk (below_step (by repeat (first | (with_reducible first | exact HB.out | apply below_alloc | apply pw_below_drewN | apply below_drew1 | refine below_set ?_ GE184.out) | exact HB.out)) hb)
    clear BK184; clear HB; have BK184 := n0_; have HB := n1_; clear n0_ n1_; (try clear hb); (try clear hb2); (try clear hk); (try clear hi)
    refine hK.out _ _ ⟨(blk_cell BK184.out 0).trans rfl, (blk_cell BK184.out 1).trans rfl⟩ (fun hHeld => ?_)
    clear hK K
    refine norm_ (a' := ?_) ?_ ?_
    rotate_left
    ·show Act.put _ (some 15) _ = _
     simp only [Act.put, sT_, s0_, s1_, i64_w, i32_w]; rfl
    refine pure_ (i := 13) (N := some 16) (v := ?_) (a' := ?_) #[true, true, true, true, true, true, true, true, true, true, true, true, true, true, false, false, false] rfl rfl (any_of HT_.out (by kernel_rfl)) (fun _ _ _ h => h) (Or.inl ⟨by rfl, ?_⟩) ?_ ?_; rotate_left
    ·intro w'; go_simp; with_reducible rfl
    rotate_left
    ·simp only [Act.put, sT_, s0_, s1_, i64_w, i32_w]; rfl
    refine pure_ (i := 14) (N := some 17) (v := ?_) (a' := ?_) #[true, true, true, true, true, true, true, true, true, true, true, true, true, true, true, false, false] rfl rfl (any_of HT_.out (by kernel_rfl)) (fun _ _ _ h => h) (Or.inl ⟨by rfl, ?_⟩) ?_ ?_; rotate_left
    ·intro w'; go_simp; with_reducible rfl
    rotate_left
    ·simp only [Act.put, sT_, s0_, s1_, i64_w, i32_w]; rfl
    refine pure_ (i := 15) (N := some 18) (v := ?_) (a' := ?_) #[true, true, true, true, true, true, true, true, true, true, true, true, true, true, true, true, false] rfl rfl (any_of HT_.out (by kernel_rfl)) (fun _ _ _ h => h) (Or.inl ⟨by rfl, ?_⟩) ?_ ?_; rotate_left
    ·intro w'; go_simp; with_reducible rfl
    rotate_left
    ·simp only [Act.put, sT_, s0_, s1_, i64_w, i32_w]; rfl
    refine pure_ (i := 16) (N := some 2) (v := ?_) (a' := ?_) #[true, true, true, true, true, true, true, true, true, true, true, true, true, true, true, true, true] rfl rfl (any_of HT_.out (by kernel_rfl)) (fun _ _ _ h => h) (Or.inl ⟨by rfl, ?_⟩) ?_ ?_; rotate_left
    ·intro w'; go_simp; with_reducible rfl
    rotate_left
    ·simp only [Act.put, sT_, s0_, s1_, i64_w, i32_w]; rfl
    refine done_ (done_of HT_.out (by kernel_rfl)) ?_
    try go_wp2
    go_ret
    exact ⟨by first | rfl | (simp [errW_none, errW_some] <;> rfl) | (simp only [← hji7]; first | rfl | (simp [errW_none, errW_some] <;> rfl)) | (simp [*, errW_none, errW_some] <;> rfl), by repeat (first | (with_reducible first | exact HB.out | apply below_alloc | apply pw_below_drewN | apply below_drew1 | refine below_set ?_ GE184.out) | exact HB.out)⟩
   ·rw [if_neg c6] at H
    exact absurd H (by simp)
  ·rw [if_neg c4] at H
   have c4b0 : decide (0 ≤ a0_1) = false := decide_eq_false c4
   clear c4
   obtain rfl := Option.some.inj H
   go_enter Tryd.func50, Tryd.ntmps50
   try go_wp2_with (first | ((with_reducible refine gate_dst (N := 1) rfl ?_); refine box_event ?hg (N := 1) ?hd (cs := #[.int .i64 a0_0, .int .i64 a0_1]) (t := 25) ?hr ?_; (case hd => rfl); (case hg => rfl); (case hr => first | (go_simp; done) | (go_simp; rfl)); intro gb184 hg w11 hbox hb; have n0_ := Aside0.mk (below_step (by repeat (first | (with_reducible first | exact HB.out | apply below_alloc | apply pw_below_drewN | apply below_drew1) | exact HB.out)) hb); have n1_ := Aside0.mk (hbox); have n2_ := Aside0.mk ((by rw [hg]; exact (below_size (by repeat (first | (with_reducible first | exact HB.out | apply below_alloc | apply pw_below_drewN | apply below_drew1) | exact HB.out))) : w.heap.size ≤ gb184)); have n3_ := Aside0.mk ((by rw [hg]; exact (below_size (by repeat (first | (with_reducible first | exact HB.out | apply below_alloc | apply pw_below_drewN | apply below_drew1) | exact HB.out))) : w.heap.size ≤ gb184)); clear HB; have HB := n0_; have BK184 := n1_; have GW184 := n2_; have GE184 := n3_; clear n0_ n1_ n2_ n3_; clear hb hbox hg))
   have n0_ := Aside0.mk (blk_drew BK184.out)
   have n1_ := Aside0.mk (below_drew1 HB.out)
   clear BK184; clear HB; have BK184 := n0_; have HB := n1_; clear n0_ n1_
   refine start_ (n := 17) (S := fun w' => w'.cell? ⟨gb184, 0, none⟩ = some (.int .i64 a0_0) ∧ w'.cell? ⟨gb184, 1, none⟩ = some (.int .i64 a0_1)) (ds := []) #[false, false, false, false, false, false, false, false, false, false, false, false, false, false, false, false, false] (by kernel_rfl) rfl rfl ⟨(blk_cell BK184.out 0).trans rfl, (blk_cell BK184.out 1).trans rfl⟩ (fun hHeld => ?_); refine with_tabW impl_IsTable.tab1 impl_IsTable.bits1 (fun HT_ HW_ => ?_)
   generalize w11.drew = w12 at BK184 HB hHeld ⊢
   refine pure_ (i := 0) (N := some 3) (v := ?_) (a' := ?_) #[true, false, false, false, false, false, false, false, false, false, false, false, false, false, false, false, false] rfl rfl (any_of HT_.out (by kernel_rfl)) (fun _ _ _ h => h) (Or.inl ⟨by rfl, ?_⟩) ?_ ?_; rotate_left
   ·intro w'; go_simp; with_reducible rfl
   rotate_left
   ·simp only [Act.put, sT_, s0_, s1_, i64_w, i32_w]; rfl
   refine take_ (i := 1) (N := some 4) (v := ?_) (a' := ?_) #[true, true, false, false, false, false, false, false, false, false, false, false, false, false, false, false, false] rfl rfl (take_ofW HT_.out HW_.out (by kernel_rfl)) (fun _ _ _ h => h) (Or.inl ⟨by rfl, ?_⟩) hHeld ?_ ?_
   rotate_left
   ·rintro w' ⟨s0, s1⟩
    go_simp; with_reducible rfl
   rotate_left
   ·simp only [Act.put, sT_, s0_, s1_, i64_w, i32_w]; rfl
   refine one_ (i := 2) (N := some 5) #[true, true, true, false, false, false, false, false, false, false, false, false, false, false, false, false, false] rfl rfl (one_of HT_.out (by kernel_rfl)) (by decide) (fun K hK => ?_)
   refine goes_ Tryd.func57 (by kernel_rfl) rfl #[.int .i64 a0_0] (by rfl) rfl rfl (by first | rfl | (simp only [List.map_toArray, List.map_cons, List.map_nil, List.length_drop, List.length_take]; rfl)) ?_
   with_reducible refine (impl_isBits.calls a0_0 true _ A2.out).mono ?_
   rintro e w' ⟨rfl, ⟨nd, rfl⟩⟩
   refine ⟨_, rfl, ?_⟩
   refine hK.out _ _ ⟨(blk_cell BK184.out 0).trans rfl, (blk_cell BK184.out 1).trans rfl⟩ (fun hHeld => ?_)
   clear hK K
   refine norm_ (a' := ?_) ?_ ?_
   rotate_left
   ·show Act.put _ (some 5) _ = _
    simp only [Act.put, sT_, s0_, s1_, i64_w, i32_w]; rfl
   refine pure_ (i := 3) (N := some 6) (v := ?_) (a' := ?_) #[true, true, true, true, false, false, false, false, false, false, false, false, false, false, false, false, false] rfl rfl (any_of HT_.out (by kernel_rfl)) (fun _ _ _ h => h) (Or.inl ⟨by rfl, ?_⟩) ?_ ?_; rotate_left
   ·intro w'; go_simp; with_reducible rfl
   rotate_left
   ·simp only [Act.put, sT_, s0_, s1_, i64_w, i32_w]; rfl
   refine pure_ (i := 4) (N := some 7) (v := ?_) (a' := ?_) #[true, true, true, true, true, false, false, false, false, false, false, false, false, false, false, false, false] rfl rfl (any_of HT_.out (by kernel_rfl)) (fun _ _ _ h => h) (Or.inl ⟨by rfl, ?_⟩) ?_ ?_; rotate_left
   ·intro w'; go_simp; with_reducible rfl
   rotate_left
   ·simp only [Act.put, sT_, s0_, s1_, i64_w, i32_w]; rfl
   refine take_ (i := 5) (N := some 8) (v := ?_) (a' := ?_) #[true, true, true, true, true, true, false, false, false, false, false, false, false, false, false, false, false] rfl rfl (take_ofW HT_.out HW_.out (by kernel_rfl)) (fun _ _ _ h => h) (Or.inl ⟨by rfl, ?_⟩) hHeld ?_ ?_
   rotate_left
   ·rintro w' ⟨s0, s1⟩
    go_simp; with_reducible rfl
   rotate_left
   ·simp only [Act.put, sT_, s0_, s1_, i64_w, i32_w]; rfl
   refine pure_ (i := 6) (N := some 9) (v := ?_) (a' := ?_) #[true, true, true, true, true, true, true, false, false, false, false, false, false, false, false, false, false] rfl rfl (any_of HT_.out (by kernel_rfl)) (fun _ _ _ h => h) (Or.inl ⟨by rfl, ?_⟩) ?_ ?_; rotate_left
   ·intro w'; go_simp; with_reducible rfl
   rotate_left
   ·simp only [Act.put, sT_, s0_, s1_, i64_w, i32_w]; rfl
   refine pure_ (i := 7) (N := some 10) (v := ?_) (a' := ?_) #[true, true, true, true, true, true, true, true, false, false, false, false, false, false, false, false, false] rfl rfl (any_of HT_.out (by kernel_rfl)) (fun _ _ _ h => h) (Or.inl ⟨by rfl, ?_⟩) ?_ ?_; rotate_left
   ·intro w'; go_simp; with_reducible rfl
   rotate_left
   ·simp only [Act.put, sT_, s0_, s1_, i64_w, i32_w]; rfl
   refine pure_ (i := 8) (N := some 11) (v := ?_) (a' := ?_) #[true, true, true, true, true, true, true, true, true, false, false, false, false, false, false, false, false] rfl rfl (any_of HT_.out (by kernel_rfl)) (fun _ _ _ h => h) (Or.inl ⟨by rfl, ?_⟩) ?_ ?_; rotate_left
   ·intro w'; go_simp; with_reducible rfl
   rotate_left
   ·simp only [Act.put, sT_, s0_, s1_, i64_w, i32_w]; rfl
   refine pure_ (i := 9) (N := some 12) (v := undef) (a' := ?_) #[true, true, true, true, true, true, true, true, true, true, false, false, false, false, false, false, false] rfl rfl (any_of HT_.out (by kernel_rfl)) (fun _ _ _ h => h) (Or.inr ⟨by rfl, rfl⟩) ?_ ?_; rotate_left
   ·simp only [Act.put, sT_, s0_, s1_, i64_w, i32_w]; rfl
   refine pure_ (i := 10) (N := some 13) (v := undef) (a' := ?_) #[true, true, true, true, true, true, true, true, true, true, true, false, false, false, false, false, false] rfl rfl (any_of HT_.out (by kernel_rfl)) (fun _ _ _ h => h) (Or.inr ⟨by rfl, rfl⟩) ?_ ?_; rotate_left
   ·simp only [Act.put, sT_, s0_, s1_, i64_w, i32_w]; rfl
   refine pure_ (i := 11) (N := some 14) (v := undef) (a' := ?_) #[true, true, true, true, true, true, true, true, true, true, true, true, false, false, false, false, false] rfl rfl (any_of HT_.out (by kernel_rfl)) (fun _ _ _ h => h) (Or.inr ⟨by rfl, rfl⟩) ?_ ?_; rotate_left
   ·simp only [Act.put, sT_, s0_, s1_, i64_w, i32_w]; rfl
   refine pure_ (i := 12) (N := some 15) (v := undef) (a' := ?_) #[true, true, true, true, true, true, true, true, true, true, true, true, true, false, false, false, false] rfl rfl (any_of HT_.out (by kernel_rfl)) (fun _ _ _ h => h) (Or.inr ⟨by rfl, rfl⟩) ?_ ?_; rotate_left
   ·simp only [Act.put, sT_, s0_, s1_, i64_w, i32_w]; rfl
   refine pure_ (i := 13) (N := some 16) (v := undef) (a' := ?_) #[true, true, true, true, true, true, true, true, true, true, true, true, true, true, false, false, false] rfl rfl (any_of HT_.out (by kernel_rfl)) (fun _ _ _ h => h) (Or.inr ⟨by rfl, rfl⟩) ?_ ?_; rotate_left
   ·simp only [Act.put, sT_, s0_, s1_, i64_w, i32_w]; rfl
   refine pure_ (i := 14) (N := some 17) (v := undef) (a' := ?_) #[true, true, true, true, true, true, true, true, true, true, true, true, true, true, true, false, false] rfl rfl (any_of HT_.out (by kernel_rfl)) (fun _ _ _ h => h) (Or.inr ⟨by rfl, rfl⟩) ?_ ?_; rotate_left
   ·simp only [Act.put, sT_, s0_, s1_, i64_w, i32_w]; rfl
   refine pure_ (i := 15) (N := some 18) (v := ?_) (a' := ?_) #[true, true, true, true, true, true, true, true, true, true, true, true, true, true, true, true, false] rfl rfl (any_of HT_.out (by kernel_rfl)) (fun _ _ _ h => h) (Or.inl ⟨by rfl, ?_⟩) ?_ ?_; rotate_left
   ·intro w'; go_simp; with_reducible rfl
   rotate_left
   ·simp only [Act.put, sT_, s0_, s1_, i64_w, i32_w]; rfl
   refine pure_ (i := 16) (N := some 2) (v := ?_) (a' := ?_) #[true, true, true, true, true, true, true, true, true, true, true, true, true, true, true, true, true] rfl rfl (any_of HT_.out (by kernel_rfl)) (fun _ _ _ h => h) (Or.inl ⟨by rfl, ?_⟩) ?_ ?_; rotate_left
   ·intro w'; go_simp; with_reducible rfl
   rotate_left
   ·simp only [Act.put, sT_, s0_, s1_, i64_w, i32_w]; rfl
   refine done_ (done_of HT_.out (by kernel_rfl)) ?_
   try go_wp2
   go_ret
   exact ⟨by first | rfl | (simp [errW_none, errW_some] <;> rfl) | (simp [*, errW_none, errW_some] <;> rfl), by repeat (first | (with_reducible first | exact HB.out | apply below_alloc | apply pw_below_drewN | apply below_drew1 | refine below_set ?_ GE184.out) | exact HB.out)⟩
 ·replace c3 := Bool.eq_false_iff.mpr c3
  subst c3
  have H1 : (some false) = some r := by rw [if_neg (show ¬ (false = true) by decide)] at H; exact H
  clear H; have H := H1; clear H1
  obtain rfl := Option.some.inj H
  go_enter Tryd.func50, Tryd.ntmps50
  try go_wp2_with (first | ((with_reducible refine gate_dst (N := 1) rfl ?_); refine box_event ?hg (N := 1) ?hd (cs := #[.int .i64 a0_0, .int .i64 a0_1]) (t := 25) ?hr ?_; (case hd => rfl); (case hg => rfl); (case hr => first | (go_simp; done) | (go_simp; rfl)); intro gb184 hg w13 hbox hb; have n0_ := Aside0.mk (below_step (by repeat (first | (with_reducible first | exact HB.out | apply below_alloc | apply pw_below_drewN | apply below_drew1) | exact HB.out)) hb); have n1_ := Aside0.mk (hbox); have n2_ := Aside0.mk ((by rw [hg]; exact (below_size (by repeat (first | (with_reducible first | exact HB.out | apply below_alloc | apply pw_below_drewN | apply below_drew1) | exact HB.out))) : w.heap.size ≤ gb184)); have n3_ := Aside0.mk ((by rw [hg]; exact (below_size (by repeat (first | (with_reducible first | exact HB.out | apply below_alloc | apply pw_below_drewN | apply below_drew1) | exact HB.out))) : w.heap.size ≤ gb184)); clear HB; have HB := n0_; have BK184 := n1_; have GW184 := n2_; have GE184 := n3_; clear n0_ n1_ n2_ n3_; clear hb hbox hg))
  have n0_ := Aside0.mk (blk_drew BK184.out)
  have n1_ := Aside0.mk (below_drew1 HB.out)
  clear BK184; clear HB; have BK184 := n0_; have HB := n1_; clear n0_ n1_
  refine start_ (n := 17) (S := fun w' => w'.cell? ⟨gb184, 0, none⟩ = some (.int .i64 a0_0) ∧ w'.cell? ⟨gb184, 1, none⟩ = some (.int .i64 a0_1)) (ds := []) #[false, false, false, false, false, false, false, false, false, false, false, false, false, false, false, false, false] (by kernel_rfl) rfl rfl ⟨(blk_cell BK184.out 0).trans rfl, (blk_cell BK184.out 1).trans rfl⟩ (fun hHeld => ?_); refine with_tabW impl_IsTable.tab1 impl_IsTable.bits1 (fun HT_ HW_ => ?_)
  generalize w13.drew = w14 at BK184 HB hHeld ⊢
  refine pure_ (i := 0) (N := some 3) (v := ?_) (a' := ?_) #[true, false, false, false, false, false, false, false, false, false, false, false, false, false, false, false, false] rfl rfl (any_of HT_.out (by kernel_rfl)) (fun _ _ _ h => h) (Or.inl ⟨by rfl, ?_⟩) ?_ ?_; rotate_left
  ·intro w'; go_simp; with_reducible rfl
  rotate_left
  ·simp only [Act.put, sT_, s0_, s1_, i64_w, i32_w]; rfl
  refine take_ (i := 1) (N := some 4) (v := ?_) (a' := ?_) #[true, true, false, false, false, false, false, false, false, false, false, false, false, false, false, false, false] rfl rfl (take_ofW HT_.out HW_.out (by kernel_rfl)) (fun _ _ _ h => h) (Or.inl ⟨by rfl, ?_⟩) hHeld ?_ ?_
  rotate_left
  ·rintro w' ⟨s0, s1⟩
   go_simp; with_reducible rfl
  rotate_left
  ·simp only [Act.put, sT_, s0_, s1_, i64_w, i32_w]; rfl
  refine one_ (i := 2) (N := some 5) #[true, true, true, false, false, false, false, false, false, false, false, false, false, false, false, false, false] rfl rfl (one_of HT_.out (by kernel_rfl)) (by decide) (fun K hK => ?_)
  refine goes_ Tryd.func57 (by kernel_rfl) rfl #[.int .i64 a0_0] (by rfl) rfl rfl (by first | rfl | (simp only [List.map_toArray, List.map_cons, List.map_nil, List.length_drop, List.length_take]; rfl)) ?_
  with_reducible refine (impl_isBits.calls a0_0 false _ A2.out).mono ?_
  rintro e w' ⟨rfl, ⟨nd, rfl⟩⟩
  refine ⟨_, rfl, ?_⟩
  refine hK.out _ _ ⟨(blk_cell BK184.out 0).trans rfl, (blk_cell BK184.out 1).trans rfl⟩ (fun hHeld => ?_)
  clear hK K
  refine norm_ (a' := ?_) ?_ ?_
  rotate_left
  ·show Act.put _ (some 5) _ = _
   simp only [Act.put, sT_, s0_, s1_, i64_w, i32_w]; rfl
  refine pure_ (i := 3) (N := some 6) (v := ?_) (a' := ?_) #[true, true, true, true, false, false, false, false, false, false, false, false, false, false, false, false, false] rfl rfl (any_of HT_.out (by kernel_rfl)) (fun _ _ _ h => h) (Or.inl ⟨by rfl, ?_⟩) ?_ ?_; rotate_left
  ·intro w'; go_simp; with_reducible rfl
  rotate_left
  ·simp only [Act.put, sT_, s0_, s1_, i64_w, i32_w]; rfl
  refine pure_ (i := 4) (N := some 7) (v := undef) (a' := ?_) #[true, true, true, true, true, false, false, false, false, false, false, false, false, false, false, false, false] rfl rfl (any_of HT_.out (by kernel_rfl)) (fun _ _ _ h => h) (Or.inr ⟨by rfl, rfl⟩) ?_ ?_; rotate_left
  ·simp only [Act.put, sT_, s0_, s1_, i64_w, i32_w]; rfl
  refine pure_ (i := 5) (N := some 8) (v := undef) (a' := ?_) #[true, true, true, true, true, true, false, false, false, false, false, false, false, false, false, false, false] rfl rfl (any_of HT_.out (by kernel_rfl)) (fun _ _ _ h => h) (Or.inr ⟨by rfl, rfl⟩) ?_ ?_; rotate_left
  ·simp only [Act.put, sT_, s0_, s1_, i64_w, i32_w]; rfl
  refine pure_ (i := 6) (N := some 9) (v := undef) (a' := ?_) #[true, true, true, true, true, true, true, false, false, false, false, false, false, false, false, false, false] rfl rfl (any_of HT_.out (by kernel_rfl)) (fun _ _ _ h => h) (Or.inr ⟨by rfl, rfl⟩) ?_ ?_; rotate_left
  ·simp only [Act.put, sT_, s0_, s1_, i64_w, i32_w]; rfl
  refine pure_ (i := 7) (N := some 10) (v := ?_) (a' := ?_) #[true, true, true, true, true, true, true, true, false, false, false, false, false, false, false, false, false] rfl rfl (any_of HT_.out (by kernel_rfl)) (fun _ _ _ h => h) (Or.inl ⟨by rfl, ?_⟩) ?_ ?_; rotate_left
  ·intro w'; go_simp; with_reducible rfl
  rotate_left
  ·simp only [Act.put, sT_, s0_, s1_, i64_w, i32_w]; rfl
  refine pure_ (i := 8) (N := some 11) (v := ?_) (a' := ?_) #[true, true, true, true, true, true, true, true, true, false, false, false, false, false, false, false, false] rfl rfl (any_of HT_.out (by kernel_rfl)) (fun _ _ _ h => h) (Or.inl ⟨by rfl, ?_⟩) ?_ ?_; rotate_left
  ·intro w'; go_simp; with_reducible rfl
  rotate_left
  ·simp only [Act.put, sT_, s0_, s1_, i64_w, i32_w]; rfl
  refine pure_ (i := 9) (N := some 12) (v := undef) (a' := ?_) #[true, true, true, true, true, true, true, true, true, true, false, false, false, false, false, false, false] rfl rfl (any_of HT_.out (by kernel_rfl)) (fun _ _ _ h => h) (Or.inr ⟨by rfl, rfl⟩) ?_ ?_; rotate_left
  ·simp only [Act.put, sT_, s0_, s1_, i64_w, i32_w]; rfl
  refine pure_ (i := 10) (N := some 13) (v := undef) (a' := ?_) #[true, true, true, true, true, true, true, true, true, true, true, false, false, false, false, false, false] rfl rfl (any_of HT_.out (by kernel_rfl)) (fun _ _ _ h => h) (Or.inr ⟨by rfl, rfl⟩) ?_ ?_; rotate_left
  ·simp only [Act.put, sT_, s0_, s1_, i64_w, i32_w]; rfl
  refine pure_ (i := 11) (N := some 14) (v := undef) (a' := ?_) #[true, true, true, true, true, true, true, true, true, true, true, true, false, false, false, false, false] rfl rfl (any_of HT_.out (by kernel_rfl)) (fun _ _ _ h => h) (Or.inr ⟨by rfl, rfl⟩) ?_ ?_; rotate_left
  ·simp only [Act.put, sT_, s0_, s1_, i64_w, i32_w]; rfl
  refine pure_ (i := 12) (N := some 15) (v := undef) (a' := ?_) #[true, true, true, true, true, true, true, true, true, true, true, true, true, false, false, false, false] rfl rfl (any_of HT_.out (by kernel_rfl)) (fun _ _ _ h => h) (Or.inr ⟨by rfl, rfl⟩) ?_ ?_; rotate_left
  ·simp only [Act.put, sT_, s0_, s1_, i64_w, i32_w]; rfl
  refine pure_ (i := 13) (N := some 16) (v := undef) (a' := ?_) #[true, true, true, true, true, true, true, true, true, true, true, true, true, true, false, false, false] rfl rfl (any_of HT_.out (by kernel_rfl)) (fun _ _ _ h => h) (Or.inr ⟨by rfl, rfl⟩) ?_ ?_; rotate_left
  ·simp only [Act.put, sT_, s0_, s1_, i64_w, i32_w]; rfl
  refine pure_ (i := 14) (N := some 17) (v := undef) (a' := ?_) #[true, true, true, true, true, true, true, true, true, true, true, true, true, true, true, false, false] rfl rfl (any_of HT_.out (by kernel_rfl)) (fun _ _ _ h => h) (Or.inr ⟨by rfl, rfl⟩) ?_ ?_; rotate_left
  ·simp only [Act.put, sT_, s0_, s1_, i64_w, i32_w]; rfl
  refine pure_ (i := 15) (N := some 18) (v := ?_) (a' := ?_) #[true, true, true, true, true, true, true, true, true, true, true, true, true, true, true, true, false] rfl rfl (any_of HT_.out (by kernel_rfl)) (fun _ _ _ h => h) (Or.inl ⟨by rfl, ?_⟩) ?_ ?_; rotate_left
  ·intro w'; go_simp; with_reducible rfl
  rotate_left
  ·simp only [Act.put, sT_, s0_, s1_, i64_w, i32_w]; rfl
  refine pure_ (i := 16) (N := some 2) (v := ?_) (a' := ?_) #[true, true, true, true, true, true, true, true, true, true, true, true, true, true, true, true, true] rfl rfl (any_of HT_.out (by kernel_rfl)) (fun _ _ _ h => h) (Or.inl ⟨by rfl, ?_⟩) ?_ ?_; rotate_left
  ·intro w'; go_simp; with_reducible rfl
  rotate_left
  ·simp only [Act.put, sT_, s0_, s1_, i64_w, i32_w]; rfl
  refine done_ (done_of HT_.out (by kernel_rfl)) ?_
  try go_wp2
  go_ret
  exact ⟨by first | rfl | (simp [errW_none, errW_some] <;> rfl) | (simp [*, errW_none, errW_some] <;> rfl), by repeat (first | (with_reducible first | exact HB.out | apply below_alloc | apply pw_below_drewN | apply below_drew1 | refine below_set ?_ GE184.out) | exact HB.out)⟩
/-! ### impl_isSmall: function 28 -/
def impl_isSmall.f (a0_0 : Int) (a0_1 : Int) (a1 : Int) : Option (Bool) := (impl_IsTable.f a0_0 a0_1).bind fun t188 => (if t188 = true then (some (decide (a0_0 ≤ a1))) else (some false))
theorem impl_isSmall.calls (a0_0 : Int) (a0_1 : Int) (a1 : Int) (r : Bool) (w : World) (h : impl_isSmall.f a0_0 a0_1 a1 = some r) :
  Calls Tryd.prog 28 #[.agg #[.int .i64 a0_0, .int .i64 a0_1], .int .i64 a1] w fun e w' => e = .returned (.bool r) ∧ Below w.heap.size w w' := by
 have hu25 := Tryd.underlying25
 have HB := Aside0.mk (Below.refl w.heap.size w)
 have H : ((impl_IsTable.f a0_0 a0_1).bind fun t188 => (if t188 = true then (some (decide (a0_0 ≤ a1))) else (some false))) = some r := h
 clear h; replace H := Option.bind_eq_some_iff.mp H; obtain ⟨t188, A30, H⟩ := H
 replace H : (if t188 = true then (some (decide (a0_0 ≤ a1))) else (some false)) = some r := H
 have A3 := Aside0.mk A30; clear A30
 by_cases c4 : t188 = true
 ·subst c4
  have H1 : (some (decide (a0_0 ≤ a1))) = some r := by rw [if_pos rfl] at H; exact H
  clear H; have H := H1; clear H1
  obtain rfl := Option.some.inj H
  go_enter Tryd.func28, Tryd.ntmps28
  go_wp2_with (first | ((with_reducible refine gate_dst (N := 2) rfl ?_); refine box_event ?hg (N := 2) ?hd (cs := #[.int .i64 a0_0, .int .i64 a0_1]) (t := 25) ?hr ?_; (case hd => rfl); (case hg => rfl); (case hr => first | (go_simp; done) | (go_simp; rfl)); intro gb187 hg w5 hbox hb; have n0_ := Aside0.mk (below_step (by repeat (first | (with_reducible first | exact HB.out | apply below_alloc | apply pw_below_drewN | apply below_drew1) | exact HB.out)) hb); have n1_ := Aside0.mk (hbox); have n2_ := Aside0.mk ((by rw [hg]; exact (below_size (by repeat (first | (with_reducible first | exact HB.out | apply below_alloc | apply pw_below_drewN | apply below_drew1) | exact HB.out))) : w.heap.size ≤ gb187)); have n3_ := Aside0.mk ((by rw [hg]; exact (below_size (by repeat (first | (with_reducible first | exact HB.out | apply below_alloc | apply pw_below_drewN | apply below_drew1) | exact HB.out))) : w.heap.size ≤ gb187)); clear HB; have HB := n0_; have BK187 := n1_; have GW187 := n2_; have GE187 := n3_; clear n0_ n1_ n2_ n3_; clear hb hbox hg; have hcz6_0 : w5.cell? ⟨gb187, 0, none⟩ = some (.int .i64 a0_0) := (blk_cell BK187.out 0).trans rfl; have hcz6_1 : w5.cell? ⟨gb187, 1, none⟩ = some (.int .i64 a0_1) := (blk_cell BK187.out 1).trans rfl; have hfz6_0 := blk_frozen BK187.out 0; have hfz6_1 := blk_frozen BK187.out 1) | ((with_reducible refine gate_callee (f := 50) rfl ?_); refine goesL_ (some 6) rfl rfl Tryd.func50 (by kernel_rfl) rfl #[.agg #[.int .i64 a0_0, .int .i64 a0_1]] rfl (by first | rfl | (simp only [List.map_toArray, List.map_cons, List.map_nil, List.length_drop, List.length_take]; rfl)) ?_; (with_reducible refine (impl_IsTable.calls a0_0 a0_1 true _ A3.out).mono ?_); rintro e w7 ⟨rfl, hb⟩; refine ⟨_, rfl, ?_⟩; have n0_ := Aside0.mk (blk_below (g := gb187) (o := .cells #[.int .i64 a0_0, .int .i64 a0_1] 25 (0, 0)) (by (with_reducible repeat (first | refine blk_drewN ?_ _ | refine blk_drew ?_ | refine blk_alloc ?_ _)); exact BK187.out) hb); have n1_ := Aside0.mk (below_step (by repeat (first | (with_reducible first | exact HB.out | apply below_alloc | apply pw_below_drewN | apply below_drew1 | refine below_set ?_ GE187.out) | exact HB.out)) hb); clear BK187; clear HB; have BK187 := n0_; have HB := n1_; clear n0_ n1_; (try clear hb); (try clear hb2); (try clear hk); (try clear hi); have hcz8_0 : w7.cell? ⟨gb187, 0, none⟩ = some (.int .i64 a0_0) := (blk_cell BK187.out 0).trans rfl; have hcz8_1 : w7.cell? ⟨gb187, 1, none⟩ = some (.int .i64 a0_1) := (blk_cell BK187.out 1).trans rfl; have hfz8_0 := blk_frozen BK187.out 0; have hfz8_1 := blk_frozen BK187.out 1))
  go_ret
  exact ⟨by first | rfl | (simp [errW_none, errW_some] <;> rfl) | (simp [*, errW_none, errW_some] <;> rfl), by repeat (first | (with_reducible first | exact HB.out | apply below_alloc | apply pw_below_drewN | apply below_drew1 | refine below_set ?_ GE187.out) | exact HB.out)⟩
 ·replace c4 := Bool.eq_false_iff.mpr c4
  subst c4
  have H1 : (some false) = some r := by rw [if_neg (show ¬ (false = true) by decide)] at H; exact H
  clear H; have H := H1; clear H1
  obtain rfl := Option.some.inj H
  go_enter Tryd.func28, Tryd.ntmps28
  go_wp2_with (first | ((with_reducible refine gate_dst (N := 2) rfl ?_); refine box_event ?hg (N := 2) ?hd (cs := #[.int .i64 a0_0, .int .i64 a0_1]) (t := 25) ?hr ?_; (case hd => rfl); (case hg => rfl); (case hr => first | (go_simp; done) | (go_simp; rfl)); intro gb187 hg w9 hbox hb; have n0_ := Aside0.mk (below_step (by repeat (first | (with_reducible first | exact HB.out | apply below_alloc | apply pw_below_drewN | apply below_drew1) | exact HB.out)) hb); have n1_ := Aside0.mk (hbox); have n2_ := Aside0.mk ((by rw [hg]; exact (below_size (by repeat (first | (with_reducible first | exact HB.out | apply below_alloc | apply pw_below_drewN | apply below_drew1) | exact HB.out))) : w.heap.size ≤ gb187)); have n3_ := Aside0.mk ((by rw [hg]; exact (below_size (by repeat (first | (with_reducible first | exact HB.out | apply below_alloc | apply pw_below_drewN | apply below_drew1) | exact HB.out))) : w.heap.size ≤ gb187)); clear HB; have HB := n0_; have BK187 := n1_; have GW187 := n2_; have GE187 := n3_; clear n0_ n1_ n2_ n3_; clear hb hbox hg; have hcz10_0 : w9.cell? ⟨gb187, 0, none⟩ = some (.int .i64 a0_0) := (blk_cell BK187.out 0).trans rfl; have hcz10_1 : w9.cell? ⟨gb187, 1, none⟩ = some (.int .i64 a0_1) := (blk_cell BK187.out 1).trans rfl; have hfz10_0 := blk_frozen BK187.out 0; have hfz10_1 := blk_frozen BK187.out 1) | ((with_reducible refine gate_callee (f := 50) rfl ?_); refine goesL_ (some 6) rfl rfl Tryd.func50 (by kernel_rfl) rfl #[.agg #[.int .i64 a0_0, .int .i64 a0_1]] rfl (by first | rfl | (simp only [List.map_toArray, List.map_cons, List.map_nil, List.length_drop, List.length_take]; rfl)) ?_; (with_reducible refine (impl_IsTable.calls a0_0 a0_1 false _ A3.out).mono ?_); rintro e w11 ⟨rfl, hb⟩; refine ⟨_, rfl, ?_⟩; have n0_ := Aside0.mk (blk_below (g := gb187) (o := .cells #[.int .i64 a0_0, .int .i64 a0_1] 25 (0, 0)) (by (with_reducible repeat (first | refine blk_drewN ?_ _ | refine blk_drew ?_ | refine blk_alloc ?_ _)); exact BK187.out) hb); have n1_ := Aside0.mk (below_step (by repeat (first | (with_reducible first | exact HB.out | apply below_alloc | apply pw_below_drewN | apply below_drew1 | refine below_set ?_ GE187.out) | exact HB.out)) hb); clear BK187; clear HB; have BK187 := n0_; have HB := n1_; clear n0_ n1_; (try clear hb); (try clear hb2); (try clear hk); (try clear hi)))
  go_ret
  exact ⟨by first | rfl | (simp [errW_none, errW_some] <;> rfl) | (simp [*, errW_none, errW_some] <;> rfl), by repeat (first | (with_reducible first | exact HB.out | apply below_alloc | apply pw_below_drewN | apply below_drew1 | refine below_set ?_ GE187.out) | exact HB.out)⟩
/-! ### impl_Table_at: function 72 -/
def impl_Table_at.f (a0_0 : Int) (a0_1 : Int) (a1 : Int) : Option (Int) := if 0 ≤ a1 then (some (Go.bits .and .i64 (shr .i64 a0_1 a1) 1)) else (none)
theorem impl_Table_at.calls (a0_0 : Int) (a0_1 : Int) (a1 : Int) (r : Int) (w : World) (h : impl_Table_at.f a0_0 a0_1 a1 = some r) :
  Calls Tryd.prog 72 #[.agg #[.int .i64 a0_0, .int .i64 a0_1], .int .i64 a1] w fun e w' => e = .returned (.int .i64 r) ∧ Below w.heap.size w w' := by
 have hu25 := Tryd.underlying25
 have HB := Aside0.mk (Below.refl w.heap.size w)
 have H : (if 0 ≤ a1 then (some (Go.bits .and .i64 (shr .i64 a0_1 a1) 1)) else (none)) = some r := h
 clear h
 by_cases c3 : 0 ≤ a1
 ·rw [if_pos c3] at H
  have c3b0 := eq_true c3
  have c3b1 : decide (0 ≤ a1) = true := decide_eq_true c3
  clear c3
  obtain ⟨ji4, hji4⟩ : ∃ j_ : Int, (shr .i64 a0_1 a1) = j_ := ⟨_, rfl⟩
  replace H : (some (Go.bits .and .i64 (ji4) 1)) = some r := by first | (rw [hji4] at H; exact H) | (simp only [hji4] at H ⊢; exact H)
  have hji4_ : (a0_1 / 2 ^ min a1.toNat 64) = ji4 := hji4
  have hji4z : a1 ≤ 64 → (a0_1 / 2 ^ a1.toNat) = ji4 := shr_small hji4
  obtain rfl := Option.some.inj H
  go_enter Tryd.func72, Tryd.ntmps72
  go_wp2_with (first | ((with_reducible refine gate_dst (N := 2) rfl ?_); refine box_event ?hg (N := 2) ?hd (cs := #[.int .i64 a0_0, .int .i64 a0_1]) (t := 25) ?hr ?_; (case hd => rfl); (case hg => rfl); (case hr => first | (go_simp; done) | (go_simp; rfl)); intro gb189 hg w5 hbox hb; have n0_ := Aside0.mk (below_step (by repeat (first | (with_reducible first | exact HB.out | apply below_alloc | apply pw_below_drewN | apply below_drew1) | exact HB.out)) hb); have n1_ := Aside0.mk (hbox); have n2_ := Aside0.mk ((by rw [hg]; exact (below_size (by repeat (first | (with_reducible first | exact HB.out | apply below_alloc | apply pw_below_drewN | apply below_drew1) | exact HB.out))) : w.heap.size ≤ gb189)); have n3_ := Aside0.mk ((by rw [hg]; exact (below_size (by repeat (first | (with_reducible first | exact HB.out | apply below_alloc | apply pw_below_drewN | apply below_drew1) | exact HB.out))) : w.heap.size ≤ gb189)); clear HB; have HB := n0_; have BK189 := n1_; have GW189 := n2_; have GE189 := n3_; clear n0_ n1_ n2_ n3_; clear hb hbox hg; have hcz6_0 : w5.cell? ⟨gb189, 0, none⟩ = some (.int .i64 a0_0) := (blk_cell BK189.out 0).trans rfl; have hcz6_1 : w5.cell? ⟨gb189, 1, none⟩ = some (.int .i64 a0_1) := (blk_cell BK189.out 1).trans rfl; have hfz6_0 := blk_frozen BK189.out 0; have hfz6_1 := blk_frozen BK189.out 1))
  go_ret
  exact ⟨by first | rfl | (simp [errW_none, errW_some] <;> rfl) | (simp only [← hji4]; first | rfl | (simp [errW_none, errW_some] <;> rfl)) | (simp [*, errW_none, errW_some] <;> rfl), by repeat (first | (with_reducible first | exact HB.out | apply below_alloc | apply pw_below_drewN | apply below_drew1 | refine below_set ?_ GE189.out) | exact HB.out)⟩
 ·rw [if_neg c3] at H
  exact absurd H (by simp)
end Go.Proofs.YtkmicbnbclkkkaaDoor.Print
namespace Go.Proofs.YtkmicbnbclkkkaaDoor.Print
open Go.RowKit Go.Proofs.YtkmicbnbclkkkaaDoorW.PrintWords Go.Proofs.YtkmicbnbclkkkaaDoorW.PrintLast Go.Proofs.YtkmicbnbclkkkaaDoorW.PrintMore
attribute [local go_sem] max2_int min2_int max_two min_two max_three min_three max_four min_four   -- for this text's walks alone
set_option linter.unusedVariables false
set_option linter.unusedSimpArgs false
/-! ### impl_Table_cube: function 53 -/
open Go.Proofs.YtkmicbnbclkkkaaDoor.M
/-- is the value c told by an input below i of the subcube -/
def impl_Table_cube.seen (v m u : Nat) (c : Bool) (i : Nat) : Bool := ((List.range i).filter (fun x => x &&& m == u)).any (fun x => v.testBit x == c)
theorem impl_Table_cube.seen_hit {v m u i : Nat} (h : i &&& m = u) (c : Bool) : impl_Table_cube.seen v m u c (i + 1) = (impl_Table_cube.seen v m u c i || (v.testBit i == c)) := by
 unfold impl_Table_cube.seen
 rw [List.range_succ, List.filter_append, List.any_append]
 simp [h]
theorem impl_Table_cube.seen_miss {v m u i : Nat} (h : ¬ i &&& m = u) (c : Bool) : impl_Table_cube.seen v m u c (i + 1) = impl_Table_cube.seen v m u c i := by
 unfold impl_Table_cube.seen
 rw [List.range_succ, List.filter_append, List.any_append]
 simp [h]
def impl_Table_cube.val (a b : Bool) : Int := if a = true ∧ b = true then 2 else if b = true then 1 else 0
theorem impl_Table_cube.con {n v m u : Nat} (hl : inX n m u ≠ []) : (impl_Table_cube.val (impl_Table_cube.seen v m u false (2 ^ n)) (impl_Table_cube.seen v m u true (2 ^ n)) = 2) ↔ conL v (inX n m u) = false := by
 have h1 := cubeGo_lt ((inX n m u).map v.testBit) (by simpa using hl)
 have e : ∀ c, impl_Table_cube.seen v m u c (2 ^ n) = (inX n m u).any (fun x => v.testBit x == c) := fun _ => rfl
 unfold conL
 rw [e, e, decide_eq_false_iff_not, h1, List.all_map, List.all_map]
 have t : ∀ c : Bool, (((inX n m u).all ((fun x => x == c) ∘ v.testBit)) = true) ↔ (inX n m u).any (fun x => v.testBit x == !c) = false := fun c => by
  rw [List.all_eq_true, List.any_eq_false]
  constructor
  ·intro h x hx; have := h x hx; simp only [Function.comp] at this; revert this; cases v.testBit x <;> cases c <;> simp
  ·intro h x hx; have := h x hx; simp only [Function.comp]; revert this; cases v.testBit x <;> cases c <;> simp
 rw [t, t]
 unfold impl_Table_cube.val
 show _ ↔ ¬ (List.any _ (fun x => v.testBit x == false) = false ∨ List.any _ (fun x => v.testBit x == true) = false)
 cases List.any (inX n m u) (fun x => v.testBit x == false) <;> cases List.any (inX n m u) (fun x => v.testBit x == true) <;> simp
theorem impl_Table_cube.at_bit {n v y : Nat} (hv : v < 2 ^ 63) (hy : y ≤ 63) : impl_Table_at.f (n : Int) (v : Int) (y : Int) = some (((v.testBit y).toNat : Nat) : Int) := by
 unfold impl_Table_at.f
 rw [if_pos (Int.natCast_nonneg y), bit_nat hv (by omega)]
theorem impl_Table_cube.size_some (n v : Nat) (hn : n ≤ 5) : impl_Table_size.f (n : Int) (v : Int) = some ((2 ^ n : Nat) : Int) := by
 unfold impl_Table_size.f
 rw [if_pos (Int.natCast_nonneg n), shl_one (by omega)]
set_option maxHeartbeats 4000000 in
set_option maxRecDepth 100000 in
theorem impl_Table_cube.call (n v m u N : Nat) (hn : n ≤ 5) (hN : N = 2 ^ n) (hv : v < 2 ^ 2 ^ n) (hm : m < 2 ^ 32) (hu : u < 2 ^ 32) (w : World) :
  Calls Tryd.prog 53 #[.agg #[.int .i64 (n : Int), .int .i64 (v : Int)], .int .i64 (m : Int), .int .i64 (u : Int)] w fun e w' => e = .returned (.int .i64 (impl_Table_cube.val (impl_Table_cube.seen v m u false N) (impl_Table_cube.seen v m u true N))) ∧ Below w.heap.size w w' := by
 have huT := Tryd.underlying25
 have huA := Tryd.underlying90
 have HSZ := Aside0.mk (impl_Table_cube.size_some n v hn)
 rw [← hN] at HSZ
 have hN32 : N ≤ 32 := by rw [hN]; exact pow_le_5 hn
 have hv63 : v < 2 ^ 63 := Nat.lt_trans hv (full_p63 hn)
 have HAT := Aside0.mk (fun y (hy : y ≤ 63) => impl_Table_cube.at_bit (n := n) (v := v) (y := y) hv63 hy)
 obtain ⟨W0, hW0⟩ : ∃ W0, W0 = (w.alloc (.cells #[.int .i64 (n : Int), .int .i64 (v : Int)] 25)).alloc (.cells #[.bool false, .bool false] 90) := ⟨_, rfl⟩
 have HB : Below w.heap.size w W0 := by rw [hW0]; exact ((Below.refl _ _).alloc (Nat.le_refl _) _).alloc (by simp) _
 have c0 : W0.heap[w.heap.size]? = some (.cells #[.int .i64 (n : Int), .int .i64 (v : Int)] 25 (0, 0)) := by rw [hW0]; exact blk_alloc (blk_new w _) _
 have c1 : W0.heap[w.heap.size + 1]? = some (.cells #[.bool false, .bool false] 90 (0, 0)) := by
  rw [hW0]; have := blk_new (w.alloc (.cells #[.int .i64 (n : Int), .int .i64 (v : Int)] 25)) (.cells #[.bool false, .bool false] 90)
  simpa using this
 have CW := Aside0.mk hW0; have C0 := Aside0.mk c0; have C1 := Aside0.mk c1; have HBB := Aside0.mk HB; have HM := Aside0.mk hm; have HU := Aside0.mk hu; clear hn hN hv hW0 c0 c1 HB hv63 hm hu
 go_enter Tryd.func53, Tryd.ntmps53
 go_wp2_with (first | (go_at_call 40; rw [← CW.out]; (with_reducible refine (impl_Table_size.calls _ _ _ _ HSZ.out).mono ?_); rintro e w2 ⟨rfl, hb⟩; have B2 := Aside0.mk hb; clear hb))
 go_loopg [12] N (fun gg v12 wr => ∃ i : Nat, i ≤ N ∧ N - i ≤ gg ∧ v12 = .int .i64 (i : Int) ∧ Aside0 (Below w.heap.size w wr) ∧ Aside0 (wr.heap[w.heap.size]? = some (.cells #[.int .i64 (n : Int), .int .i64 (v : Int)] 25 (0, 0))) ∧ Aside0 (wr.heap[w.heap.size + 1]? = some (.cells #[.bool (impl_Table_cube.seen v m u false i), .bool (impl_Table_cube.seen v m u true i)] 90 (0, 0))))
 case atStart => exact ⟨0, Nat.zero_le _, by omega, rfl, ⟨HBB.out.trans (B2.out.mono HBB.out.size)⟩, ⟨blk_below C0.out B2.out⟩, ⟨blk_below C1.out B2.out⟩⟩
 case round =>
  clear B2; obtain ⟨i, hi, hg, rfl, HR, HT, HS⟩ := hrel
  by_cases hlt : i < N
  ·have hltz : (i : Int) < (N : Int) := by omega
   have c0 := blk_cell HT.out 0
   have c1 := blk_cell HT.out 1
   have ea : Go.bits .and .i64 (i : Int) (m : Int) = ((i &&& m : Nat) : Int) := and_nat (by omega) (by have := HM.out; omega)
   by_cases hq : i &&& m = u
   ·have eq : (((i &&& m : Nat) : Int) == (u : Int)) = true := beq_iff_eq.mpr (by omega)
    have HH := Aside0.mk (impl_Table_cube.seen_hit (v := v) hq)
    have HA := Aside0.mk (HAT.out i (by omega))
    clear hq
    cases hb : v.testBit i with
    | true =>
     rw [hb] at HA HH
     clear hb
     go_wp2_with (first | (go_at_call 72; (with_reducible refine (impl_Table_at.calls _ _ _ _ _ HA.out).mono ?_); rintro e w3 ⟨rfl, hb3⟩; have BX := Aside0.mk hb3; clear hb3; have RB := Aside0.mk (blk_below HS.out BX.out); have r0 := blk_cell RB.out 0; have r1 := blk_cell RB.out 1; have s0 := blk_frozen RB.out 0; have s1 := blk_frozen RB.out 1))
     go_roundg (N - (i + 1))
     case measure => omega
     case rel =>
      refine ⟨i + 1, by omega, by omega, by go_num, ⟨(HR.out.trans (BX.out.mono HR.out.size)).setCell (p := ⟨w.heap.size + 1, 1, none⟩) (by show w.heap.size ≤ w.heap.size + 1; omega) _⟩, ⟨blk_far (blk_below HT.out BX.out) (by show w.heap.size ≠ w.heap.size + 1; omega) _⟩, ⟨?_⟩⟩
      have RS := blk_set RB.out 1 (.bool true)
      rw [HH.out, HH.out]
      simpa using RS
    | false =>
     rw [hb] at HA HH
     clear hb
     go_wp2_with (first | (go_at_call 72; (with_reducible refine (impl_Table_at.calls _ _ _ _ _ HA.out).mono ?_); rintro e w3 ⟨rfl, hb3⟩; have BX := Aside0.mk hb3; clear hb3; have RB := Aside0.mk (blk_below HS.out BX.out); have r0 := blk_cell RB.out 0; have r1 := blk_cell RB.out 1; have s0 := blk_frozen RB.out 0; have s1 := blk_frozen RB.out 1))
     go_roundg (N - (i + 1))
     case measure => omega
     case rel =>
      refine ⟨i + 1, by omega, by omega, by go_num, ⟨(HR.out.trans (BX.out.mono HR.out.size)).setCell (p := ⟨w.heap.size + 1, 0, none⟩) (by show w.heap.size ≤ w.heap.size + 1; omega) _⟩, ⟨blk_far (blk_below HT.out BX.out) (by show w.heap.size ≠ w.heap.size + 1; omega) _⟩, ⟨?_⟩⟩
      have RS := blk_set RB.out 0 (.bool true)
      rw [HH.out, HH.out]
      simpa using RS
   ·have eq : (((i &&& m : Nat) : Int) == (u : Int)) = false := beq_eq_false_iff_ne.mpr (by omega)
    have HH := Aside0.mk (impl_Table_cube.seen_miss (v := v) hq)
    clear hq
    go_wp2
    go_roundg (N - (i + 1))
    case measure => omega
    case rel =>
     refine ⟨i + 1, by omega, by omega, by go_num, HR, HT, ⟨?_⟩⟩
     rw [HH.out, HH.out]
     exact HS.out
  ·obtain rfl : i = N := by omega
   obtain ⟨a, ea⟩ : ∃ a, impl_Table_cube.seen v m u false i = a := ⟨_, rfl⟩
   obtain ⟨b, eb⟩ : ∃ b, impl_Table_cube.seen v m u true i = b := ⟨_, rfl⟩
   rw [ea, eb] at HS
   have EA := Aside0.mk ea; have EB := Aside0.mk eb; clear ea eb
   have d0 := blk_cell HS.out 0
   have d1 := blk_cell HS.out 1
   cases a <;> cases b
   all_goals
    go_wp2
    go_ret
    exact ⟨(by rw [EA.out, EB.out]; rfl), HR.out⟩
end Go.Proofs.YtkmicbnbclkkkaaDoor.Print
namespace Go.Proofs.YtkmicbnbclkkkaaDoor.Print
open Go.RowKit Go.Proofs.YtkmicbnbclkkkaaDoorW.PrintWords Go.Proofs.YtkmicbnbclkkkaaDoorW.PrintLast Go.Proofs.YtkmicbnbclkkkaaDoorW.PrintMore
attribute [local go_sem] max2_int min2_int max_two min_two max_three min_three max_four min_four   -- for this text's walks alone
set_option linter.unusedVariables false
set_option linter.unusedSimpArgs false
/-! ### impl_known_with: function 54 -/
def impl_known_with.f (a0_0 : Int) (a0_1 : Int) (a1 : Int) (a2 : Int) : Option (Int × Int) := if 0 ≤ a1 then (some (Go.bits .or .i64 a0_0 (shl .i64 1 a1), Go.bits .or .i64 a0_1 (shl .i64 a2 a1))) else (none)
def impl_known_with.T1 : Bool × List (List Nat × List Nat) := (true, [([], []), ([0], [0]), ([], []), ([2], [2]), ([1, 3], [1, 3]), ([], []), ([5], [5]), ([], []), ([], []), ([7, 8], [7, 8]), ([6, 9], [6, 9]), ([4, 10], [4, 10]), ([11, 0, 1, 2, 3, 4, 5, 6, 7, 8, 9, 10, 11], [11])])
def impl_known_with.B1 : List Nat := [0, 1, 0, 4, 15, 0, 32, 0, 0, 384, 992, 2047, 4095]
theorem impl_known_with.tab1 : rtab .any (opsOf Tryd.f54 1) = impl_known_with.T1 := by kernel_rfl
theorem impl_known_with.bits1 : waitsOk impl_known_with.T1.2 impl_known_with.B1 = true := by kernel_rfl
set_option maxHeartbeats 8000000 in
set_option maxRecDepth 100000 in
theorem impl_known_with.calls (a0_0 : Int) (a0_1 : Int) (a1 : Int) (a2 : Int) (r1 : Int) (r2 : Int) (w : World) (h : impl_known_with.f a0_0 a0_1 a1 a2 = some (r1, r2)) :
  Calls Tryd.prog 54 #[.agg #[.int .i64 a0_0, .int .i64 a0_1], .int .i64 a1, .int .i64 a2] w fun e w' => e = .returned (.agg #[.int .i64 r1, .int .i64 r2]) ∧ Below w.heap.size w w' := by
 have hu46 := Tryd.underlying46
 have HB := Aside0.mk (Below.refl w.heap.size w)
 have H : (if 0 ≤ a1 then (some (Go.bits .or .i64 a0_0 (shl .i64 1 a1), Go.bits .or .i64 a0_1 (shl .i64 a2 a1))) else (none)) = some (r1, r2) := h
 clear h
 by_cases c4 : 0 ≤ a1
 ·rw [if_pos c4] at H
  have c4b0 := eq_true c4
  have c4b1 : decide (0 ≤ a1) = true := decide_eq_true c4
  clear c4
  obtain ⟨ji5, hji5⟩ : ∃ j_ : Int, (shl .i64 1 a1) = j_ := ⟨_, rfl⟩
  replace H : (some (Go.bits .or .i64 a0_0 (ji5), Go.bits .or .i64 a0_1 (shl .i64 a2 a1))) = some (r1, r2) := by first | (rw [hji5] at H; exact H) | (simp only [hji5] at H ⊢; exact H)
  have hji5_ : (IntKind.i64.wrap (1 * 2 ^ min a1.toNat 64)) = ji5 := hji5
  have hji5z : a1 ≤ 64 → (IntKind.i64.wrap (1 * 2 ^ a1.toNat)) = ji5 := shl_small hji5
  have hji5u : (IntKind.i64.wrap (2 ^ min a1.toNat 64)) = ji5 := by have h_ := hji5_; rw [Int.one_mul] at h_; exact h_
  have hji5v : a1 ≤ 64 → (IntKind.i64.wrap (2 ^ a1.toNat)) = ji5 := fun hle_ => by have h_ := hji5z hle_; rw [Int.one_mul] at h_; exact h_
  have hji5y : (wrap64 (1 * 2 ^ min a1.toNat 64)) = ji5 := (i64_w _).symm.trans hji5_
  have hji5x : a1 ≤ 64 → (wrap64 (1 * 2 ^ a1.toNat)) = ji5 := fun h_ => (i64_w _).symm.trans (hji5z h_)
  have c6b0 := eq_true (of_decide_eq_true (by first | (with_reducible assumption) | assumption) : 0 ≤ a1)
  obtain ⟨ji7, hji7⟩ : ∃ j_ : Int, (shl .i64 a2 a1) = j_ := ⟨_, rfl⟩
  replace H : (some (Go.bits .or .i64 a0_0 (ji5), Go.bits .or .i64 a0_1 (ji7))) = some (r1, r2) := by first | (rw [hji7] at H; exact H) | (simp only [hji7] at H ⊢; exact H)
  have hji7_ : (IntKind.i64.wrap (a2 * 2 ^ min a1.toNat 64)) = ji7 := hji7
  have hji7z : a1 ≤ 64 → (IntKind.i64.wrap (a2 * 2 ^ a1.toNat)) = ji7 := shl_small hji7
  have hji7y : (wrap64 (a2 * 2 ^ min a1.toNat 64)) = ji7 := (i64_w _).symm.trans hji7_
  have hji7x : a1 ≤ 64 → (wrap64 (a2 * 2 ^ a1.toNat)) = ji7 := fun h_ => (i64_w _).symm.trans (hji7z h_)
  simp only [Option.some.injEq, Prod.mk.injEq] at H
  obtain ⟨rfl, rfl⟩ := H
  go_enter Tryd.func54, Tryd.ntmps54
  try go_wp2_with (first | ((with_reducible refine gate_dst (N := 3) rfl ?_); refine box_event ?hg (N := 3) ?hd (cs := #[.int .i64 a0_0, .int .i64 a0_1]) (t := 46) ?hr ?_; (case hd => rfl); (case hg => rfl); (case hr => first | (go_simp; done) | (go_simp; rfl)); intro gb190 hg w8 hbox hb; have n0_ := Aside0.mk (below_step (by repeat (first | (with_reducible first | exact HB.out | apply below_alloc | apply pw_below_drewN | apply below_drew1) | exact HB.out)) hb); have n1_ := Aside0.mk (hbox); have n2_ := Aside0.mk ((by rw [hg]; exact (below_size (by repeat (first | (with_reducible first | exact HB.out | apply below_alloc | apply pw_below_drewN | apply below_drew1) | exact HB.out))) : w.heap.size ≤ gb190)); have n3_ := Aside0.mk ((by rw [hg]; exact (below_size (by repeat (first | (with_reducible first | exact HB.out | apply below_alloc | apply pw_below_drewN | apply below_drew1) | exact HB.out))) : w.heap.size ≤ gb190)); clear HB; have HB := n0_; have BK190 := n1_; have GW190 := n2_; have GE190 := n3_; clear n0_ n1_ n2_ n3_; clear hb hbox hg) | ((with_reducible refine gate_dst (N := 6) rfl ?_); refine box_event ?hg (N := 6) ?hd (cs := #[.int .i64 0, .int .i64 0]) (t := 46) ?hr ?_; (case hd => rfl); (case hg => rfl); (case hr => first | (go_simp; done) | (go_simp; rfl)); intro gb191 hg w9 hbox hb; have n0_ := Aside0.mk (blk_below (g := gb190) (o := .cells #[.int .i64 a0_0, .int .i64 a0_1] 46 (0, 0)) (by (with_reducible repeat (first | refine blk_drewN ?_ _ | refine blk_drew ?_ | refine blk_alloc ?_ _)); exact BK190.out) hb); have n1_ := Aside0.mk (below_step (by repeat (first | (with_reducible first | exact HB.out | apply below_alloc | apply pw_below_drewN | apply below_drew1 | refine below_set ?_ GE190.out) | exact HB.out)) hb); have n2_ := Aside0.mk (hbox); have n3_ := Aside0.mk ((by rw [hg]; exact (below_size (by repeat (first | (with_reducible first | exact HB.out | apply below_alloc | apply pw_below_drewN | apply below_drew1 | refine below_set ?_ GE190.out) | exact HB.out))) : w.heap.size ≤ gb191)); have n4_ := Aside0.mk ((by rw [hg]; exact (below_size (by repeat (first | (with_reducible first | exact HB.out | apply below_alloc | apply pw_below_drewN | apply below_drew1 | refine below_set ?_ GE190.out) | exact HB.out))) : w.heap.size ≤ gb191)); have n5_ := Aside0.mk ((by rw [hg]; exact Nat.ne_of_lt (blk_lt (g := gb190) (o := .cells #[.int .i64 a0_0, .int .i64 a0_1] 46 (0, 0)) (by (with_reducible repeat (first | refine blk_drewN ?_ _ | refine blk_drew ?_ | refine blk_alloc ?_ _)); exact BK190.out)) : gb190 ≠ gb191)); have n6_ := Aside0.mk ((by rw [hg]; exact Nat.ne_of_gt (blk_lt (g := gb190) (o := .cells #[.int .i64 a0_0, .int .i64 a0_1] 46 (0, 0)) (by (with_reducible repeat (first | refine blk_drewN ?_ _ | refine blk_drew ?_ | refine blk_alloc ?_ _)); exact BK190.out)) : gb191 ≠ gb190)); clear BK190; clear HB; have BK190 := n0_; have HB := n1_; have BK191 := n2_; have GW191 := n3_; have GE191 := n4_; have NB190_191 := n5_; have NB191_190 := n6_; clear n0_ n1_ n2_ n3_ n4_ n5_ n6_; clear hb hbox hg))
  have n0_ := Aside0.mk (blk_drew BK190.out)
  have n1_ := Aside0.mk (blk_drew BK191.out)
  have n2_ := Aside0.mk (below_drew1 HB.out)
  clear BK190; clear BK191; clear HB; have BK190 := n0_; have BK191 := n1_; have HB := n2_; clear n0_ n1_ n2_
  refine start_ (n := 13) (S := fun w' => w'.cell? ⟨gb190, 0, none⟩ = some (.int .i64 a0_0) ∧ w'.cell? ⟨gb190, 1, none⟩ = some (.int .i64 a0_1)) (ds := []) #[false, false, false, false, false, false, false, false, false, false, false, false, false] (by kernel_rfl) rfl rfl ⟨(blk_cell BK190.out 0).trans rfl, (blk_cell BK190.out 1).trans rfl⟩ (fun hHeld => ?_); refine with_tabW impl_known_with.tab1 impl_known_with.bits1 (fun HT_ HW_ => ?_)
  generalize w9.drew = w10 at BK190 BK191 HB hHeld ⊢
  refine pure_ (i := 0) (N := some 7) (v := ?_) (a' := ?_) #[true, false, false, false, false, false, false, false, false, false, false, false, false] rfl rfl (any_of HT_.out (by kernel_rfl)) (fun _ _ _ h => h) (Or.inl ⟨by rfl, ?_⟩) ?_ ?_; rotate_left
  ·intro w'; go_simp; with_reducible rfl
  rotate_left
  ·simp only [Act.put, List.setIfInBounds_toArray, List.set_cons_zero, List.set_cons_succ, i64_w, i32_w]; rfl
  refine pure_ (i := 2) (N := some 9) (v := ?_) (a' := ?_) #[true, false, true, false, false, false, false, false, false, false, false, false, false] rfl rfl (any_of HT_.out (by kernel_rfl)) (fun _ _ _ h => h) (Or.inl ⟨by rfl, ?_⟩) ?_ ?_; rotate_left
  ·intro w'; go_simp; with_reducible rfl
  rotate_left
  ·simp only [Act.put, List.setIfInBounds_toArray, List.set_cons_zero, List.set_cons_succ, i64_w, i32_w]; rfl
  refine pure_ (i := 3) (N := some 10) (v := ?_) (a' := ?_) #[true, false, true, true, false, false, false, false, false, false, false, false, false] rfl rfl (any_of HT_.out (by kernel_rfl)) (fun _ _ _ h => h) (Or.inl ⟨by rfl, ?_⟩) ?_ ?_; rotate_left
  ·intro w'; go_simp; with_reducible rfl
  rotate_left
  ·simp only [Act.put, List.setIfInBounds_toArray, List.set_cons_zero, List.set_cons_succ, i64_w, i32_w]; rfl
  refine pure_ (i := 5) (N := some 12) (v := ?_) (a' := ?_) #[true, false, true, true, false, true, false, false, false, false, false, false, false] rfl rfl (any_of HT_.out (by kernel_rfl)) (fun _ _ _ h => h) (Or.inl ⟨by rfl, ?_⟩) ?_ ?_; rotate_left
  ·intro w'; go_simp; with_reducible rfl
  rotate_left
  ·simp only [Act.put, List.setIfInBounds_toArray, List.set_cons_zero, List.set_cons_succ, i64_w, i32_w]; rfl
  refine pure_ (i := 7) (N := some 14) (v := ?_) (a' := ?_) #[true, false, true, true, false, true, false, true, false, false, false, false, false] rfl rfl (any_of HT_.out (by kernel_rfl)) (fun _ _ _ h => h) (Or.inl ⟨by rfl, ?_⟩) ?_ ?_; rotate_left
  ·intro w'; go_simp; with_reducible rfl
  rotate_left
  ·simp only [Act.put, List.setIfInBounds_toArray, List.set_cons_zero, List.set_cons_succ, i64_w, i32_w]; rfl
  refine pure_ (i := 8) (N := some 15) (v := ?_) (a' := ?_) #[true, false, true, true, false, true, false, true, true, false, false, false, false] rfl rfl (any_of HT_.out (by kernel_rfl)) (fun _ _ _ h => h) (Or.inl ⟨by rfl, ?_⟩) ?_ ?_; rotate_left
  ·intro w'; go_simp; with_reducible rfl
  rotate_left
  ·simp only [Act.put, List.setIfInBounds_toArray, List.set_cons_zero, List.set_cons_succ, i64_w, i32_w]; rfl
  refine pure_ (i := 9) (N := some 16) (v := ?_) (a' := ?_) #[true, false, true, true, false, true, false, true, true, true, false, false, false] rfl rfl (any_of HT_.out (by kernel_rfl)) (fun _ _ _ h => h) (Or.inl ⟨by rfl, ?_⟩) ?_ ?_; rotate_left
  ·intro w'; go_simp; with_reducible rfl
  rotate_left
  ·simp only [Act.put, List.setIfInBounds_toArray, List.set_cons_zero, List.set_cons_succ, i64_w, i32_w]; rfl
  refine take_ (i := 1) (N := some 8) (v := ?_) (a' := ?_) #[true, true, true, true, false, true, false, true, true, true, false, false, false] rfl rfl (take_ofW HT_.out HW_.out (by kernel_rfl)) (fun _ _ _ h => h) (Or.inl ⟨by rfl, ?_⟩) hHeld ?_ ?_
  rotate_left
  ·rintro w' ⟨s0, s1⟩
   go_simp; with_reducible rfl
  rotate_left
  ·simp only [Act.put, List.setIfInBounds_toArray, List.set_cons_zero, List.set_cons_succ, i64_w, i32_w]; rfl
  refine pure_ (i := 4) (N := some 11) (v := ?_) (a' := ?_) #[true, true, true, true, true, true, false, true, true, true, false, false, false] rfl rfl (any_of HT_.out (by kernel_rfl)) (fun _ _ _ h => h) (Or.inl ⟨by rfl, ?_⟩) ?_ ?_; rotate_left
  ·intro w'; go_simp; with_reducible rfl
  rotate_left
  ·simp only [Act.put, List.setIfInBounds_toArray, List.set_cons_zero, List.set_cons_succ, i64_w, i32_w]; rfl
  refine take_ (i := 6) (N := some 13) (v := ?_) (a' := ?_) #[true, true, true, true, true, true, true, true, true, true, false, false, false] rfl rfl (take_ofW HT_.out HW_.out (by kernel_rfl)) (fun _ _ _ h => h) (Or.inl ⟨by rfl, ?_⟩) hHeld ?_ ?_
  rotate_left
  ·rintro w' ⟨s0, s1⟩
   go_simp; with_reducible rfl
  rotate_left
  ·simp only [Act.put, List.setIfInBounds_toArray, List.set_cons_zero, List.set_cons_succ, i64_w, i32_w]; rfl
  refine pure_ (i := 10) (N := some 17) (v := ?_) (a' := ?_) #[true, true, true, true, true, true, true, true, true, true, true, false, false] rfl rfl (any_of HT_.out (by kernel_rfl)) (fun _ _ _ h => h) (Or.inl ⟨by rfl, ?_⟩) ?_ ?_; rotate_left
  ·intro w'; go_simp; with_reducible rfl
  rotate_left
  ·simp only [Act.put, List.setIfInBounds_toArray, List.set_cons_zero, List.set_cons_succ, i64_w, i32_w]; rfl
  refine pure_ (i := 11) (N := some 18) (v := ?_) (a' := ?_) #[true, true, true, true, true, true, true, true, true, true, true, true, false] rfl rfl (any_of HT_.out (by kernel_rfl)) (fun _ _ _ h => h) (Or.inl ⟨by rfl, ?_⟩) ?_ ?_; rotate_left
  ·intro w'; go_simp; with_reducible rfl
  rotate_left
  ·simp only [Act.put, List.setIfInBounds_toArray, List.set_cons_zero, List.set_cons_succ, i64_w, i32_w]; rfl
  refine one_ (i := 12) (N := none) #[true, true, true, true, true, true, true, true, true, true, true, true, true] rfl rfl (one_of HT_.out (by kernel_rfl)) (by decide) (fun K hK => ?_)
  have hs11 : w10.cell? ⟨gb191, 0, none⟩ = some (.int .i64 0) := (blk_cell BK191.out 0).trans rfl
  have hfs11 := blk_frozen BK191.out 0
  have hns11_0 := NB190_191.out
  have hms11_0 := NB191_190.out
  have hs12 : w10.cell? ⟨gb191, 1, none⟩ = some (.int .i64 0) := (blk_cell BK191.out 1).trans rfl
  have hfs12 := blk_frozen BK191.out 1
  have hns12_0 := NB190_191.out
  have hms12_0 := NB191_190.out
  refine skip_ (w1 := ?_) (by rfl) rfl ?_ ?_
  rotate_left
  ·go_simp; rfl
  refine hK.out _ _ ⟨((cell_far (p := ⟨gb191, _, none⟩) NB190_191.out _).trans (((cell_far (p := ⟨gb191, _, none⟩) NB190_191.out _).trans (hHeld.1)))), ((cell_far (p := ⟨gb191, _, none⟩) NB190_191.out _).trans (((cell_far (p := ⟨gb191, _, none⟩) NB190_191.out _).trans (hHeld.2))))⟩ (fun hHeld => ?_)
  clear hK K
  refine done_ (done_of HT_.out (by kernel_rfl)) ?_
  try go_wp2
  refine bodyPost_ret (results_cell_row rfl _ _ gb191 46 #[.int .i64 (Go.bits .or .i64 a0_0 (ji5)), .int .i64 (Go.bits .or .i64 a0_1 (ji7))] (0, 0) _ rfl (by (with_reducible repeat (first | refine blk_drewN ?_ _ | refine blk_drew ?_ | refine blk_alloc ?_ _)); refine blk_put (cs := #[.int .i64 (Go.bits .or .i64 a0_0 (ji5)), .int .i64 0]) ?_ 1 _ rfl; (with_reducible repeat (first | refine blk_drewN ?_ _ | refine blk_drew ?_ | refine blk_alloc ?_ _)); refine blk_put (cs := #[.int .i64 0, .int .i64 0]) ?_ 0 _ rfl; (with_reducible repeat (first | refine blk_drewN ?_ _ | refine blk_drew ?_ | refine blk_alloc ?_ _)); exact BK191.out) Tryd.underlying46 rfl (by kernel_rfl)) rfl ?_
  exact ⟨by first | rfl | (simp [errW_none, errW_some] <;> rfl) | (simp only [← hji5, ← hji7]; first | rfl | (simp [errW_none, errW_some] <;> rfl)) | (simp [*, errW_none, errW_some] <;> rfl), by repeat (first | (with_reducible first | exact HB.out | apply below_alloc | apply pw_below_drewN | apply below_drew1 | refine below_set ?_ GE190.out | refine below_set ?_ GE191.out) | exact HB.out)⟩
 ·rw [if_neg c4] at H
  exact absurd H (by simp)
end Go.Proofs.YtkmicbnbclkkkaaDoor.Print
namespace Go.Proofs.YtkmicbnbclkkkaaDoor.Print
open Go.RowKit Go.Proofs.YtkmicbnbclkkkaaDoorW.PrintWords Go.Proofs.YtkmicbnbclkkkaaDoorW.PrintLast Go.Proofs.YtkmicbnbclkkkaaDoorW.PrintMore
attribute [local go_sem] max2_int min2_int max_two min_two max_three min_three max_four min_four   -- for this text's walks alone
set_option linter.unusedVariables false
set_option linter.unusedSimpArgs false
set_option maxRecDepth 100000
/-! ### impl_asker_left: function 33 -/
open Go.Proofs.YtkmicbnbclkkkaaDoor.M
theorem impl_asker_left.laid : laidOutB Tryd.prog = true := by kernel_rfl
theorem impl_asker_left.wide : (match Tryd.prog.underlying 46 with | some (.array _ _) | some (.struct _) => true | _ => false) = true := by rw [Tryd.underlying46]
theorem impl_asker_left.keyed : Go.Maps.Keyed Tryd.prog 46 := Go.Maps.Keyed.of_law (deep_law_laid impl_asker_left.laid (m := 2) (by omega) (of_decide_eq_true (by kernel_rfl)) (by kernel_rfl) impl_asker_left.wide)
theorem impl_asker_left.hk : Tryd.prog.keyType 46 = true := by kernel_rfl
theorem impl_asker_left.hcells : Tryd.prog.cellsOf 46 = 2 := by kernel_rfl
theorem impl_asker_left.hcells1 : Tryd.prog.cellsOf 3 = 1 := by kernel_rfl
theorem impl_asker_left.hsz : ∃ q, Tryd.prog.types.size = q + 1 := ⟨Tryd.prog.types.size - 1, by have : 0 < Tryd.prog.types.size := of_decide_eq_true (by kernel_rfl); omega⟩
theorem impl_asker_left.key (a b : Nat) (ha : a < 16) (hb : b < 16) : ∃ kl, keyOf Tryd.prog 46 (.agg #[.int .i64 (a : Int), .int .i64 (b : Int)]) = some kl := by
 have hwa : (Lit.int .i64 (a : Int)).wf = true := wf_nat (by omega)
 have hwb : (Lit.int .i64 (b : Int)).wf = true := wf_nat (by omega)
 obtain ⟨q, hq⟩ := impl_asker_left.hsz
 unfold keyOf
 rw [Tryd.underlying46]
 simp only [impl_asker_left.hk, hq]
 simp [Value.formed, Tryd.underlying46, Tryd.underlying3, impl_asker_left.hcells, impl_asker_left.hcells1, Program.keyLits, Value.cells, hwa, hwb]
/-- what the map holds of a subcube: the least depth there -/
def impl_asker_left.Good (n v : Nat) (x y : Value) : Prop := ∃ m u : Nat, m < 16 ∧ u < 16 ∧ x = .agg #[.int .i64 (m : Int), .int .i64 (u : Int)] ∧ y = .int .i64 ((ldC n n v (n - pc m) m u : Nat) : Int)
def impl_asker_left.keys : List Value := (List.range 16).flatMap fun (m : Nat) => (List.range 16).map fun (u : Nat) => .agg #[.int .i64 (m : Int), .int .i64 (u : Int)]
theorem impl_asker_left.keys_all (n v : Nat) (x y : Value) (h : impl_asker_left.Good n v x y) : x ∈ impl_asker_left.keys := by
 obtain ⟨m, u, hm, hu, rfl, _⟩ := h
 exact List.mem_flatMap.mpr ⟨m, List.mem_range.mpr hm, List.mem_map.mpr ⟨u, List.mem_range.mpr hu, rfl⟩⟩
theorem impl_asker_left.keys_len : impl_asker_left.keys.length < maxLen := by
 have : impl_asker_left.keys.length = 256 := by
  unfold impl_asker_left.keys
  simp [List.length_flatMap]
  decide
 rw [this]; decide
theorem impl_asker_left.Good.at {n v m u : Nat} {y : Value} (h : impl_asker_left.Good n v (.agg #[.int .i64 (m : Int), .int .i64 (u : Int)]) y) : y = .int .i64 ((ldC n n v (n - pc m) m u : Nat) : Int) := by
 obtain ⟨m', u', _, _, e, rfl⟩ := h
 injection e with e
 have e1 := congrArg (fun a => a[0]?) e
 have e2 := congrArg (fun a => a[1]?) e
 simp at e1 e2
 obtain rfl : m = m' := by omega
 obtain rfl : u = u' := by omega
 rfl
/-- the asker lies in block T, what it remembers in block M -/
def impl_asker_left.St (n v T M : Nat) (mv : Value) (W : World) : Prop := W.heap[T]? = some (.cells #[.int .i64 (n : Int), .int .i64 (v : Int), .map (some M), mv] 72 (0, 0)) ∧ Memo Tryd.prog 46 3 (impl_asker_left.Good n v) W M
theorem impl_asker_left.St.below {n v T M : Nat} {mv : Value} {W W' : World} (h : impl_asker_left.St n v T M mv W) (hb : Below W.heap.size W W') : impl_asker_left.St n v T M mv W' := ⟨blk_below h.1 hb, h.2.below hb⟩
theorem impl_asker_left.St.ne {n v T M : Nat} {mv : Value} {W : World} (h : impl_asker_left.St n v T M mv W) : T ≠ M := by
 rintro rfl; obtain ⟨h1, es, clock, h2, _⟩ := h
 rw [h1] at h2; injection h2 with h2; cases h2
/-- within a call: what is asked of lies in block B -/
def impl_asker_left.rS (w : World) (n v T M : Nat) (mv : Value) (B m u : Nat) (W : World) : Prop := W.heap[B]? = some (.cells #[.int .i64 (m : Int), .int .i64 (u : Int)] 46 (0, 0)) ∧ impl_asker_left.St n v T M mv W ∧ But M w W
theorem impl_asker_left.rS.ne {w : World} {n v T M B m u : Nat} {mv : Value} {W : World} (h : impl_asker_left.rS w n v T M mv B m u W) : B ≠ M := by
 rintro rfl
 obtain ⟨h1, ⟨_, es, clock, h2, _⟩, _⟩ := h
 rw [h1] at h2; injection h2 with h2; cases h2
theorem impl_asker_left.rS.below {w : World} {n v T M B m u : Nat} {mv : Value} {W W' : World} (h : impl_asker_left.rS w n v T M mv B m u W) (hb : Below W.heap.size W W') : impl_asker_left.rS w n v T M mv B m u W' :=
 ⟨blk_below h.1 hb, h.2.1.below hb, h.2.2.trans (.of_below hb)⟩
theorem impl_asker_left.rS.but {w : World} {n v T M B m u : Nat} {mv : Value} {W W' : World} (h : impl_asker_left.rS w n v T M mv B m u W) (hs : impl_asker_left.St n v T M mv W') (hb : But M W W') : impl_asker_left.rS w n v T M mv B m u W' :=
 ⟨hb.blk h.ne h.1, hs, h.2.2.trans hb⟩
theorem impl_asker_left.zero (w : World) : (zeroValue 3).run Tryd.prog w = .ok (.int .i64 0) w := by kernel_rfl
theorem impl_asker_left.rS.all {w : World} {n v T M B m u : Nat} {mv : Value} {W : World} (h : impl_asker_left.rS w n v T M mv B m u W) : W.cell? ⟨B, 0, none⟩ = some (.int .i64 (m : Int)) ∧ W.cell? ⟨B, 1, none⟩ = some (.int .i64 (u : Int)) ∧ W.cell? ⟨T, 0, none⟩ = some (.int .i64 (n : Int)) ∧ W.cell? ⟨T, 1, none⟩ = some (.int .i64 (v : Int)) ∧ W.cell? ⟨T, 2, none⟩ = some (.map (some M)) ∧ impl_asker_left.rS w n v T M mv B m u W :=
 ⟨blk_cell h.1 0, blk_cell h.1 1, blk_cell h.2.1.1 0, blk_cell h.2.1.1 1, blk_cell h.2.1.1 2, h⟩
theorem impl_asker_left.rS.st {w : World} {n v T M B m u : Nat} {mv : Value} {W W' : World} (h : W.cell? ⟨B, 0, none⟩ = some (.int .i64 (m : Int)) ∧ W.cell? ⟨B, 1, none⟩ = some (.int .i64 (u : Int)) ∧ W.cell? ⟨T, 0, none⟩ = some (.int .i64 (n : Int)) ∧ W.cell? ⟨T, 1, none⟩ = some (.int .i64 (v : Int)) ∧ W.cell? ⟨T, 2, none⟩ = some (.map (some M)) ∧ impl_asker_left.rS w n v T M mv B m u W) (hb : Below W.heap.size W W') : W'.cell? ⟨B, 0, none⟩ = some (.int .i64 (m : Int)) ∧ W'.cell? ⟨B, 1, none⟩ = some (.int .i64 (u : Int)) ∧ W'.cell? ⟨T, 0, none⟩ = some (.int .i64 (n : Int)) ∧ W'.cell? ⟨T, 1, none⟩ = some (.int .i64 (v : Int)) ∧ W'.cell? ⟨T, 2, none⟩ = some (.map (some M)) ∧ impl_asker_left.rS w n v T M mv B m u W' :=
 (h.2.2.2.2.2.below hb).all
theorem impl_asker_left.rS.sb {w : World} {n v T M B m u : Nat} {mv : Value} {W W' : World} (h : W.cell? ⟨B, 0, none⟩ = some (.int .i64 (m : Int)) ∧ W.cell? ⟨B, 1, none⟩ = some (.int .i64 (u : Int)) ∧ W.cell? ⟨T, 0, none⟩ = some (.int .i64 (n : Int)) ∧ W.cell? ⟨T, 1, none⟩ = some (.int .i64 (v : Int)) ∧ W.cell? ⟨T, 2, none⟩ = some (.map (some M)) ∧ impl_asker_left.rS w n v T M mv B m u W) (hb : impl_asker_left.St n v T M mv W' ∧ But M W W') : W'.cell? ⟨B, 0, none⟩ = some (.int .i64 (m : Int)) ∧ W'.cell? ⟨B, 1, none⟩ = some (.int .i64 (u : Int)) ∧ W'.cell? ⟨T, 0, none⟩ = some (.int .i64 (n : Int)) ∧ W'.cell? ⟨T, 1, none⟩ = some (.int .i64 (v : Int)) ∧ W'.cell? ⟨T, 2, none⟩ = some (.map (some M)) ∧ impl_asker_left.rS w n v T M mv B m u W' :=
 (h.2.2.2.2.2.but hb.1 hb.2).all
/-- the call's start: what is asked of lies in a block of its own -/
theorem impl_asker_left.start {n v T M m u : Nat} {mv : Value} {w : World} (h : impl_asker_left.St n v T M mv w) : impl_asker_left.rS w n v T M mv w.heap.size m u (w.alloc (.cells #[.int .i64 (m : Int), .int .i64 (u : Int)] 46)) := by
 have hb0 : Below w.heap.size w (w.alloc (.cells #[.int .i64 (m : Int), .int .i64 (u : Int)] 46)) := (Below.refl _ _).alloc (Nat.le_refl _) _
 exact ⟨blk_new w _, h.below hb0, .of_below hb0⟩
set_option maxHeartbeats 4000000 in
theorem impl_asker_left.hit (n v T M m u R : Nat) (mv : Value) (w : World) (hst : impl_asker_left.St n v T M mv w)
  (hl : ∀ W, W.heap[M]? = (w.alloc (.cells #[.int .i64 (m : Int), .int .i64 (u : Int)] 46)).heap[M]? → (Instr.lookup 70 (.map (some M)) (.agg #[.int .i64 (m : Int), .int .i64 (u : Int)]) true).run Tryd.prog W = .ok (.tuple #[.int .i64 (R : Int), .bool true]) W) :
  Calls Tryd.prog 33 #[.pointer (some ⟨T, 0, none⟩), .agg #[.int .i64 (m : Int), .int .i64 (u : Int)]] w fun e w' => e = .returned (.int .i64 (R : Int)) ∧ impl_asker_left.St n v T M mv w' ∧ But M w w' := by
 have huT := Tryd.underlying25
 have huA := Tryd.underlying72
 have huK := Tryd.underlying46
 have HS := Aside0.mk (impl_asker_left.start (m := m) (u := u) hst)
 obtain ⟨c0, c1, a0, a1, a2, _⟩ := HS.out.all
 have HL : ∀ nd, (Instr.lookup 70 (.map (some M)) (.agg #[.int .i64 (m : Int), .int .i64 (u : Int)]) true).run Tryd.prog ((w.alloc (.cells #[.int .i64 (m : Int), .int .i64 (u : Int)] 46)).drewN nd) = .ok (.tuple #[.int .i64 (R : Int), .bool true]) ((w.alloc (.cells #[.int .i64 (m : Int), .int .i64 (u : Int)] 46)).drewN nd) := fun nd => hl _ (by simp)
 clear hl hst
 go_enter Tryd.func33, Tryd.ntmps33
 go_wp2_with (fail)
 go_quiet (fail)
 go_wp2
 go_ret
 exact ⟨rfl, (HS.out.below (pw_below_drewN (Below.refl _ _) _)).2⟩
set_option maxHeartbeats 4000000 in
theorem impl_asker_left.same (n v T M m u : Nat) (mv : Value) (w : World) (hc : Cb n m u) (hv : v < 2 ^ 2 ^ n) (hst : impl_asker_left.St n v T M mv w) (hcon : conL v (inX n m u) = true) (h0 : ldC n n v (n - pc m) m u = 0)
  (hl : ∀ W, W.heap[M]? = (w.alloc (.cells #[.int .i64 (m : Int), .int .i64 (u : Int)] 46)).heap[M]? → (Instr.lookup 70 (.map (some M)) (.agg #[.int .i64 (m : Int), .int .i64 (u : Int)]) true).run Tryd.prog W = .ok (.tuple #[.int .i64 0, .bool false]) W) :
  Calls Tryd.prog 33 #[.pointer (some ⟨T, 0, none⟩), .agg #[.int .i64 (m : Int), .int .i64 (u : Int)]] w fun e w' => e = .returned (.int .i64 0) ∧ impl_asker_left.St n v T M mv w' ∧ But M w w' := by
 have huT := Tryd.underlying25
 have huA := Tryd.underlying72
 have huK := Tryd.underlying46
 have HS := Aside0.mk (impl_asker_left.start (m := m) (u := u) hst)
 obtain ⟨c0, c1, a0, a1, a2, _⟩ := HS.out.all
 have HL : ∀ nd, (Instr.lookup 70 (.map (some M)) (.agg #[.int .i64 (m : Int), .int .i64 (u : Int)]) true).run Tryd.prog ((w.alloc (.cells #[.int .i64 (m : Int), .int .i64 (u : Int)] 46)).drewN nd) = .ok (.tuple #[.int .i64 0, .bool false]) ((w.alloc (.cells #[.int .i64 (m : Int), .int .i64 (u : Int)] 46)).drewN nd) := fun nd => hl _ (by simp)
 have h16 := pow16 hc.hn
 have hmm := hc.hm
 have huu := hc.hu
 have HC := Aside0.mk (fun W => impl_Table_cube.call n v m u (2 ^ n) (by have := hc.hn; omega) rfl hv (by omega) (by omega) W)
 have hval : impl_Table_cube.val (impl_Table_cube.seen v m u false (2 ^ n)) (impl_Table_cube.seen v m u true (2 ^ n)) ≠ 2 := fun e => by
  have := (impl_Table_cube.con hc.ne).mp e
  rw [hcon] at this; cases this
 generalize impl_Table_cube.val (impl_Table_cube.seen v m u false (2 ^ n)) (impl_Table_cube.seen v m u true (2 ^ n)) = R at *
 have hval2 : (R == 2) = false := beq_eq_false_iff_ne.mpr hval
 have HK := Aside0.mk (impl_asker_left.key m u (by omega) (by omega))
 have HG : Aside0 (impl_asker_left.Good n v (.agg #[.int .i64 (m : Int), .int .i64 (u : Int)]) (.int .i64 0)) := ⟨⟨m, u, by omega, by omega, rfl, by rw [h0]; rfl⟩⟩
 clear hl hst hval hmm huu h16
 go_enter Tryd.func33, Tryd.ntmps33
 go_wp2_with (fail)
 go_quiet (fail)
 go_wp2
 generalize hwr : World.drewN _ _ = wr
 have hS : impl_asker_left.rS w n v T M mv w.heap.size m u wr := by rw [← hwr]; exact HS.out.below (pw_below_drewN (Below.refl _ _) _)
 clear hwr c0 c1 a0 a1 a2 HL
 have h1 := impl_asker_left.rS.st hS.all (Below.refl _ _).drew
 go_region_held3 (fun W => W.cell? ⟨w.heap.size, 0, none⟩ = some (.int .i64 (m : Int)) ∧ W.cell? ⟨w.heap.size, 1, none⟩ = some (.int .i64 (u : Int)) ∧ W.cell? ⟨T, 0, none⟩ = some (.int .i64 (n : Int)) ∧ W.cell? ⟨T, 1, none⟩ = some (.int .i64 (v : Int)) ∧ W.cell? ⟨T, 2, none⟩ = some (.map (some M)) ∧ impl_asker_left.rS w n v T M mv w.heap.size m u W) (first | exact h1 | (refine impl_asker_left.rS.st (by assumption) ?_; first | assumption | exact Below.refl _ _)) (first | (go_at_call 53; (with_reducible refine (HC.out _).mono ?_); rintro e w' ⟨rfl, hb⟩))
 rename_i hh
 have h9 := hh.2.2.2.2.2
 clear h1 hS hh
 go_wp2
 obtain ⟨kl, hkl⟩ := HK.out
 obtain ⟨w2, hrun, hM2, ht2⟩ := h9.2.1.2.drew.store (t := 70) (q := .i64) (a := 0) impl_asker_left.keyed Tryd.underlying70 (impl_asker_left.keys_all n v) impl_asker_left.keys_len Tryd.underlying3 (wf_nat (a := 0) (by decide)) hkl HG.out
 have H2 : Aside0 (impl_asker_left.St n v T M mv w2 ∧ But M w w2) := ⟨⟨(But.of_turned ht2).blk h9.2.1.ne h9.2.1.1, hM2⟩, h9.2.2.trans ((But.of_below (Below.refl _ _).drew).trans (.of_turned ht2))⟩
 have c0 := blk_cell h9.1 0
 have c1 := blk_cell h9.1 1
 have a2 := blk_cell h9.2.1.1 2
 clear hkl hM2 ht2 h9
 go_region
 go_wp2
 go_ret
 exact ⟨rfl, H2.out⟩
theorem impl_asker_left.rS.toSt {w : World} {n v T M m u : Nat} {mv : Value} {W : World} (h : W.cell? ⟨w.heap.size, 0, none⟩ = some (.int .i64 (m : Int)) ∧ W.cell? ⟨w.heap.size, 1, none⟩ = some (.int .i64 (u : Int)) ∧ W.cell? ⟨T, 0, none⟩ = some (.int .i64 (n : Int)) ∧ W.cell? ⟨T, 1, none⟩ = some (.int .i64 (v : Int)) ∧ W.cell? ⟨T, 2, none⟩ = some (.map (some M)) ∧ impl_asker_left.rS w n v T M mv w.heap.size m u W) : impl_asker_left.St n v T M mv W := h.2.2.2.2.2.2.1
theorem impl_asker_left.with0 {m u i : Nat} (hm : m < 16) (hu : u < 16) (hi : i < 4) : impl_known_with.f (m : Int) (u : Int) (i : Int) 0 = some (((m ||| 2 ^ i : Nat) : Int), (u : Int)) := by
 have hp := p63 (n := i) (by omega)
 unfold impl_known_with.f
 have e : shl .i64 0 (i : Int) = ((0 : Nat) : Int) := by
  have := shl_nat (x := 0) (n := i) (by omega) (by omega)
  rw [Nat.zero_mul] at this; exact this
 rw [if_pos (Int.natCast_nonneg i), shl_one (by omega), or_nat (by omega) hp, e, or_nat (by omega) (by omega), Nat.or_zero]
theorem impl_asker_left.with1 {m u i : Nat} (hm : m < 16) (hu : u < 16) (hi : i < 4) : impl_known_with.f (m : Int) (u : Int) (i : Int) 1 = some (((m ||| 2 ^ i : Nat) : Int), ((u ||| 2 ^ i : Nat) : Int)) := by
 have hp := p63 (n := i) (by omega)
 unfold impl_known_with.f
 rw [if_pos (Int.natCast_nonneg i), shl_one (by omega), or_nat (by omega) hp, or_nat (by omega) hp]
/-- what a free variable leads to -/
abbrev impl_asker_left.g (n v d m u i : Nat) : Nat := max (ldC n n v d (m ||| 2 ^ i) u) (ldC n n v d (m ||| 2 ^ i) (u ||| 2 ^ i))
set_option maxHeartbeats 8000000 in
theorem impl_asker_left.step (n v T M m u d : Nat) (mv : Value) (w : World) (hc : Cb n m u) (hd : pc m + (d + 1) = n) (hv : v < 2 ^ 2 ^ n) (hst : impl_asker_left.St n v T M mv w) (hcon : ¬ conL v (inX n m u) = true)
  (ih : ∀ m u W, Cb n m u → pc m + d = n → impl_asker_left.St n v T M mv W → Calls Tryd.prog 33 #[.pointer (some ⟨T, 0, none⟩), .agg #[.int .i64 (m : Int), .int .i64 (u : Int)]] W fun e w' => e = .returned (.int .i64 ((ldC n n v d m u : Nat) : Int)) ∧ impl_asker_left.St n v T M mv w' ∧ But M W w')
  (hl : ∀ W, W.heap[M]? = (w.alloc (.cells #[.int .i64 (m : Int), .int .i64 (u : Int)] 46)).heap[M]? → (Instr.lookup 70 (.map (some M)) (.agg #[.int .i64 (m : Int), .int .i64 (u : Int)]) true).run Tryd.prog W = .ok (.tuple #[.int .i64 0, .bool false]) W) :
  Calls Tryd.prog 33 #[.pointer (some ⟨T, 0, none⟩), .agg #[.int .i64 (m : Int), .int .i64 (u : Int)]] w fun e w' => e = .returned (.int .i64 ((ldC n n v (d + 1) m u : Nat) : Int)) ∧ impl_asker_left.St n v T M mv w' ∧ But M w w' := by
 have huT := Tryd.underlying25
 have huA := Tryd.underlying72
 have huK := Tryd.underlying46
 have HS := Aside0.mk (impl_asker_left.start (m := m) (u := u) hst)
 obtain ⟨c0, c1, a0, a1, a2, _⟩ := HS.out.all
 have HL : ∀ nd, (Instr.lookup 70 (.map (some M)) (.agg #[.int .i64 (m : Int), .int .i64 (u : Int)]) true).run Tryd.prog ((w.alloc (.cells #[.int .i64 (m : Int), .int .i64 (u : Int)] 46)).drewN nd) = .ok (.tuple #[.int .i64 0, .bool false]) ((w.alloc (.cells #[.int .i64 (m : Int), .int .i64 (u : Int)] 46)).drewN nd) := fun nd => hl _ (by simp)
 have h16 := pow16 hc.hn
 have hmm := hc.hm
 have huu := hc.hu
 have hn4 := hc.hn
 have HC := Aside0.mk (fun W => impl_Table_cube.call n v m u (2 ^ n) (by omega) rfl hv (by omega) (by omega) W)
 have hval : impl_Table_cube.val (impl_Table_cube.seen v m u false (2 ^ n)) (impl_Table_cube.seen v m u true (2 ^ n)) = 2 := (impl_Table_cube.con hc.ne).mpr (by simpa using hcon)
 rw [hval] at HC
 have HK := Aside0.mk (impl_asker_left.key m u (by omega) (by omega))
 have hld : ldC n n v (d + 1) m u = bestOf (impl_asker_left.g n v d m u) n (frL n m) := by rw [ldC, if_neg hcon]
 have hdd : n - pc m = d + 1 := by omega
 have HG : Aside0 (impl_asker_left.Good n v (.agg #[.int .i64 (m : Int), .int .i64 (u : Int)]) (.int .i64 ((ldC n n v (d + 1) m u : Nat) : Int))) := ⟨⟨m, u, by omega, by omega, rfl, by rw [hdd]⟩⟩
 rw [hld] at HG ⊢
 have HCB := Aside0.mk hc; have HD := Aside0.mk hd; have IH := Aside0.mk ih
 have HBN : Aside0 (∀ i, bestOf (impl_asker_left.g n v d m u) n (frL i m) ≤ n) := ⟨fun i => (bestOf_le _ _ _).1⟩
 have hm16 : m < 16 := by omega
 have hu16 : u < 16 := by omega
 clear hl hst hval hmm huu h16 hld hdd hc hd ih hcon hv
 go_enter Tryd.func33, Tryd.ntmps33
 go_wp2_with (fail)
 go_quiet (fail)
 go_wp2
 generalize hwr : World.drewN _ _ = wr
 have hS : impl_asker_left.rS w n v T M mv w.heap.size m u wr := by rw [← hwr]; exact HS.out.below (pw_below_drewN (Below.refl _ _) _)
 clear hwr c0 c1 a0 a1 a2 HL
 have h1 := impl_asker_left.rS.st hS.all (Below.refl _ _).drew
 go_region_held3 (fun W => W.cell? ⟨w.heap.size, 0, none⟩ = some (.int .i64 (m : Int)) ∧ W.cell? ⟨w.heap.size, 1, none⟩ = some (.int .i64 (u : Int)) ∧ W.cell? ⟨T, 0, none⟩ = some (.int .i64 (n : Int)) ∧ W.cell? ⟨T, 1, none⟩ = some (.int .i64 (v : Int)) ∧ W.cell? ⟨T, 2, none⟩ = some (.map (some M)) ∧ impl_asker_left.rS w n v T M mv w.heap.size m u W) (first | exact h1 | (refine impl_asker_left.rS.st (by assumption) ?_; first | assumption | exact Below.refl _ _)) (first | (go_at_call 53; (with_reducible refine (HC.out _).mono ?_); rintro e w1 ⟨rfl, hb⟩))
 rename_i hh
 have h9 := Aside0.mk hh.2.2.2.2.2
 obtain ⟨_, _, a0, a1, _, _⟩ := hh; clear h1 hS
 go_wp2
 go_loopg [40, 7] n (fun gg v40 v7 wr => ∃ i : Nat, i ≤ n ∧ n - i ≤ gg ∧ v40 = .int .i64 (i : Int) ∧ v7 = .int .i64 ((bestOf (impl_asker_left.g n v d m u) n (frL i m) : Nat) : Int) ∧ Aside0 (impl_asker_left.rS w n v T M mv w.heap.size m u wr))
 case atStart => exact ⟨0, Nat.zero_le _, by omega, rfl, rfl, h9⟩
 case round =>
  clear h9 a0 a1 hb; obtain ⟨i, hi, hg, rfl, rfl, hS⟩ := hrel
  by_cases hlt : i < n
  ·have hltz : (i : Int) < (n : Int) := by omega
   obtain ⟨c0, c1, _⟩ := hS.out.all
   have hmb := bit_nat (a := m) (n := i) (by omega) (by omega)
   have es : ∀ y : Nat, shr .i64 (y : Int) (i : Int) = (y : Int) / 2 ^ i := fun y => by rw [shr_nat (by omega)]; push_cast; rfl
   rw [es] at hmb
   have hi64 : i ≤ 64 := by omega
   clear es
   cases hm : m.testBit i with
   | true =>
    have hf := Aside0.mk (frL_succ_held hm)
    rw [hm] at hmb
    clear hm
    go_wp2
    go_roundg (n - (i + 1))
    case measure => omega
    case rel => exact ⟨i + 1, by omega, by omega, by go_num, by rw [hf.out], hS⟩
   | false =>
    have hf := Aside0.mk (frL_succ_free hm)
    have hmem : i ∈ frL n m := by unfold frL; exact List.mem_filter.mpr ⟨List.mem_range.mpr hlt, by rw [hm]; rfl⟩
    obtain ⟨q0, q1, q2⟩ := HCB.out.step hmem
    have hdd := HD.out
    have hd4 : d ≤ 4 := by omega
    have IH0 := Aside0.mk (fun W => IH.out _ _ W q0 (by omega))
    have IH1 := Aside0.mk (fun W => IH.out _ _ W q1 (by omega))
    have W0 := Aside0.mk (impl_asker_left.with0 (m := m) (u := u) (i := i) hm16 hu16 (by omega))
    have W1 := Aside0.mk (impl_asker_left.with1 (m := m) (u := u) (i := i) hm16 hu16 (by omega))
    have hle0 := ldC_le (v := v) (Nat.le_refl n) q0 (d := d) (by omega)
    have hle1 := ldC_le (v := v) (Nat.le_refl n) q1 (d := d) (by omega)
    have hb0 := HBN.out i
    have hb1 : bestOf (impl_asker_left.g n v d m u) n (frL (i + 1) m) = min (bestOf (impl_asker_left.g n v d m u) n (frL i m)) (1 + max (ldC n n v d (m ||| 2 ^ i) u) (ldC n n v d (m ||| 2 ^ i) (u ||| 2 ^ i))) := by rw [hf.out, bestOf_snoc]
    have HB1 := Aside0.mk hb1
    rw [hm] at hmb
    generalize ldC n n v d (m ||| 2 ^ i) u = R0 at *
    generalize ldC n n v d (m ||| 2 ^ i) (u ||| 2 ^ i) = R1 at *
    generalize bestOf (impl_asker_left.g n v d m u) n (frL i m) = b at *
    generalize m ||| 2 ^ i = m1 at *
    generalize u ||| 2 ^ i = u1 at *
    clear hm hmem q0 q1 q2 hdd hb1 hf
    go_wp2
    have h1 := impl_asker_left.rS.st hS.out.all (Below.refl _ _).drew
    go_region_held3 (fun W => W.cell? ⟨w.heap.size, 0, none⟩ = some (.int .i64 (m : Int)) ∧ W.cell? ⟨w.heap.size, 1, none⟩ = some (.int .i64 (u : Int)) ∧ W.cell? ⟨T, 0, none⟩ = some (.int .i64 (n : Int)) ∧ W.cell? ⟨T, 1, none⟩ = some (.int .i64 (v : Int)) ∧ W.cell? ⟨T, 2, none⟩ = some (.map (some M)) ∧ impl_asker_left.rS w n v T M mv w.heap.size m u W) (first | exact h1 | (refine impl_asker_left.rS.st (by assumption) ?_; first | assumption | exact Below.refl _ _) | (refine impl_asker_left.rS.sb (by assumption) ?_; assumption)) (first | (go_at_call 54; (with_reducible first | refine (impl_known_with.calls _ _ _ _ _ _ _ W0.out).mono ?_ | refine (impl_known_with.calls _ _ _ _ _ _ _ W1.out).mono ?_); rintro e w1 ⟨rfl, hb⟩) | (go_at_call 33; (with_reducible first | refine (IH0.out _ ?s).mono ?_ | refine (IH1.out _ ?s).mono ?_); (case s => exact impl_asker_left.rS.toSt (by assumption)); rintro e w2 ⟨rfl, hb⟩))
    all_goals
     rename_i hh
     have h9 := Aside0.mk hh.2.2.2.2.2
     clear hh h1
     rw [min_val b R0 R1 (by omega) (by omega), ← HB1.out]
     generalize (if R0 < R1 then (R1 : Int) else (R0 : Int)) = mm
     go_wp2
     go_roundg (n - (i + 1))
     case measure => omega
     case rel => exact ⟨i + 1, by omega, by omega, by go_num, rfl, h9⟩
  ·obtain rfl : i = n := by omega
   have h9 := hS.out
   have hb0 := HBN.out i
   obtain ⟨kl, hkl⟩ := HK.out
   obtain ⟨w2, hrun, hM2, ht2⟩ := h9.2.1.2.drew.store (t := 70) (q := .i64) (a := ((bestOf (impl_asker_left.g i v d m u) i (frL i m) : Nat) : Int)) impl_asker_left.keyed Tryd.underlying70 (impl_asker_left.keys_all i v) impl_asker_left.keys_len Tryd.underlying3 (wf_nat (by omega)) hkl HG.out
   have H2 : Aside0 (impl_asker_left.St i v T M mv w2 ∧ But M w w2) := ⟨⟨(But.of_turned ht2).blk h9.2.1.ne h9.2.1.1, hM2⟩, h9.2.2.trans ((But.of_below (Below.refl _ _).drew).trans (.of_turned ht2))⟩
   have c0 := blk_cell h9.1 0
   have c1 := blk_cell h9.1 1
   have a2 := blk_cell h9.2.1.1 2
   clear hkl hM2 ht2 h9
   go_wp2
   go_region
   go_wp2
   go_ret
   exact ⟨rfl, H2.out⟩
set_option maxHeartbeats 400000 in
theorem impl_asker_left.call (n v T M : Nat) (mv : Value) (hn : n ≤ 4) (hv : v < 2 ^ 2 ^ n) : ∀ d m u w, Cb n m u → pc m + d = n → impl_asker_left.St n v T M mv w →
  Calls Tryd.prog 33 #[.pointer (some ⟨T, 0, none⟩), .agg #[.int .i64 (m : Int), .int .i64 (u : Int)]] w fun e w' => e = .returned (.int .i64 ((ldC n n v d m u : Nat) : Int)) ∧ impl_asker_left.St n v T M mv w' ∧ But M w w' := by
 intro d
 induction d with
 | zero =>
  intro m u w hc hd hst
  have h16 := pow16 hn
  have hm16 : m < 16 := by have := hc.hm; omega
  have hu16 : u < 16 := by have := hc.hu; omega
  obtain ⟨kl, hkl⟩ := impl_asker_left.key m u hm16 hu16
  have e0 : n - pc m = 0 := by omega
  rcases (impl_asker_left.start (m := m) (u := u) hst).2.1.2.look_all (t := 70) impl_asker_left.keyed Tryd.underlying70 impl_asker_left.zero hkl with hl | ⟨y, hy, hl⟩
  ·exact impl_asker_left.same n v T M m u mv w hc hv hst (hc.con (by omega)) (by rw [e0]; rfl) hl
  ·obtain rfl := hy.at
   rw [e0] at hl
   exact impl_asker_left.hit n v T M m u _ mv w hst hl
 | succ d ih =>
  intro m u w hc hd hst
  have h16 := pow16 hn
  have hm16 : m < 16 := by have := hc.hm; omega
  have hu16 : u < 16 := by have := hc.hu; omega
  obtain ⟨kl, hkl⟩ := impl_asker_left.key m u hm16 hu16
  have e0 : n - pc m = d + 1 := by omega
  rcases (impl_asker_left.start (m := m) (u := u) hst).2.1.2.look_all (t := 70) impl_asker_left.keyed Tryd.underlying70 impl_asker_left.zero hkl with hl | ⟨y, hy, hl⟩
  ·by_cases hcon : conL v (inX n m u) = true
   ·have h0 : ldC n n v (d + 1) m u = 0 := by rw [ldC, if_pos hcon]
    rw [h0]
    exact impl_asker_left.same n v T M m u mv w hc hv hst hcon (by rw [e0]; exact h0) hl
   ·exact impl_asker_left.step n v T M m u d mv w hc hd hv hst hcon ih hl
  ·obtain rfl := hy.at
   rw [e0] at hl
   exact impl_asker_left.hit n v T M m u _ mv w hst hl
end Go.Proofs.YtkmicbnbclkkkaaDoor.Print
namespace Go.Proofs.YtkmicbnbclkkkaaDoor.Print
open Go.RowKit Go.Proofs.YtkmicbnbclkkkaaDoorW.PrintWords Go.Proofs.YtkmicbnbclkkkaaDoorW.PrintLast Go.Proofs.YtkmicbnbclkkkaaDoorW.PrintMore
attribute [local go_sem] max2_int min2_int max_two min_two max_three min_three max_four min_four   -- for this text's walks alone
set_option linter.unusedVariables false
set_option linter.unusedSimpArgs false
/-! ### impl_asker_first: function 51 -/
open Go.Proofs.YtkmicbnbclkkkaaDoor.M
set_option maxHeartbeats 4000000 in
set_option maxRecDepth 100000 in
/-- nothing is to be asked -/
theorem impl_asker_first.none_ (n v T M m u : Nat) (mv : Value) (w : World) (hn : n ≤ 4) (hst : impl_asker_left.St n v T M mv w)
  (hL : ∀ W, impl_asker_left.St n v T M mv W → Calls Tryd.prog 33 #[.pointer (some ⟨T, 0, none⟩), .agg #[.int .i64 (m : Int), .int .i64 (u : Int)]] W fun e w' => e = .returned (.int .i64 0) ∧ impl_asker_left.St n v T M mv w' ∧ But M W w') :
  Calls Tryd.prog 51 #[.pointer (some ⟨T, 0, none⟩), .agg #[.int .i64 (m : Int), .int .i64 (u : Int)]] w fun e w' => e = .returned (.int .i64 (-1)) ∧ impl_asker_left.St n v T M mv w' ∧ But M w w' := by
 have huT := Tryd.underlying25
 have huA := Tryd.underlying72
 have huK := Tryd.underlying46
 have HS := Aside0.mk (impl_asker_left.start (m := m) (u := u) hst)
 obtain ⟨c0, c1, a0, a1, a2, _⟩ := HS.out.all; have HL := Aside0.mk hL
 have HS1 := Aside0.mk (impl_asker_left.rS.toSt HS.out.all)
 clear hst hL
 go_enter Tryd.func51, Tryd.ntmps51
 go_wp2_with (first | (go_at_call 33; (with_reducible refine (HL.out _ HS1.out).mono ?_); rintro e w1 ⟨rfl, hs1, hb1⟩; have S1 := Aside0.mk (HS.out.but hs1 hb1); clear hs1 hb1; obtain ⟨d0, d1, b0, b1, b2, hq1⟩ := S1.out.all; clear hq1))
 go_loopg [15] n (fun gg v15 wr => ∃ i : Nat, i ≤ n ∧ n - i ≤ gg ∧ v15 = .int .i64 (i : Int) ∧ Aside0 (impl_asker_left.rS w n v T M mv w.heap.size m u wr))
 case atStart => exact ⟨0, Nat.zero_le _, by omega, rfl, S1⟩
 case round =>
  clear S1; obtain ⟨i, hi, hg, rfl, hS⟩ := hrel
  by_cases hlt : i < n
  ·have hltz : (i : Int) < (n : Int) := by omega
   go_wp2
   go_roundg (n - (i + 1))
   case measure => omega
   case rel => exact ⟨i + 1, by omega, by omega, by go_num, hS⟩
  ·obtain rfl : i = n := by omega
   go_wp2
   go_ret
   exact ⟨rfl, hS.out.2⟩
set_option maxHeartbeats 8000000 in
set_option maxRecDepth 100000 in
theorem impl_asker_first.step (n v T M m u d N : Nat) (mv : Value) (w : World) (hc : Cb n m u) (hd : pc m + (d + 1) = n) (hcon : ¬ conL v (inX n m u) = true) (hN : N = ldC n n v (d + 1) m u) (hN0 : 0 < N) (hst : impl_asker_left.St n v T M mv w)
  (hL : ∀ W, impl_asker_left.St n v T M mv W → Calls Tryd.prog 33 #[.pointer (some ⟨T, 0, none⟩), .agg #[.int .i64 (m : Int), .int .i64 (u : Int)]] W fun e w' => e = .returned (.int .i64 (N : Int)) ∧ impl_asker_left.St n v T M mv w' ∧ But M W w')
  (ih : ∀ m u W, Cb n m u → pc m + d = n → impl_asker_left.St n v T M mv W → Calls Tryd.prog 33 #[.pointer (some ⟨T, 0, none⟩), .agg #[.int .i64 (m : Int), .int .i64 (u : Int)]] W fun e w' => e = .returned (.int .i64 ((ldC n n v d m u : Nat) : Int)) ∧ impl_asker_left.St n v T M mv w' ∧ But M W w') :
  Calls Tryd.prog 51 #[.pointer (some ⟨T, 0, none⟩), .agg #[.int .i64 (m : Int), .int .i64 (u : Int)]] w fun e w' => e = .returned (.int .i64 (match findF (isBest n v d m u) 0 n with | some i => (i : Int) | none => -1)) ∧ impl_asker_left.St n v T M mv w' ∧ But M w w' := by
 have huT := Tryd.underlying25
 have huA := Tryd.underlying72
 have huK := Tryd.underlying46
 have hn4 := hc.hn
 have h16 := pow16 hn4
 have hm16 : m < 16 := by have := hc.hm; omega
 have hu16 : u < 16 := by have := hc.hu; omega
 have HS := Aside0.mk (impl_asker_left.start (m := m) (u := u) hst)
 obtain ⟨c0, c1, a0, a1, a2, _⟩ := HS.out.all; have HL := Aside0.mk hL; have IH := Aside0.mk ih; have HCB := Aside0.mk hc; have HD := Aside0.mk hd
 have HB : Aside0 (∀ i, i < n → m.testBit i = false → isBest n v d m u i = (decide (ldC n n v d (m ||| 2 ^ i) u < N) && decide (ldC n n v d (m ||| 2 ^ i) (u ||| 2 ^ i) < N))) := ⟨fun i hi hm => by rw [hN]; exact isBest_free hi hcon hm⟩
 have HH : Aside0 (∀ i, m.testBit i = true → isBest n v d m u i = false) := ⟨fun i h => isBest_held h⟩
 have HS1 := Aside0.mk (impl_asker_left.rS.toSt HS.out.all)
 have hNz : (0 : Int) < (N : Int) := by omega
 generalize isBest n v d m u = p at *
 obtain ⟨X, hX⟩ : ∃ X : Int, X = (match findF p 0 n with | some i => (i : Int) | none => -1) := ⟨_, rfl⟩
 rw [← hX]
 have HX := Aside0.mk hX; clear hX; clear hst hL ih hc hd hcon hN hN0 h16
 go_enter Tryd.func51, Tryd.ntmps51
 go_wp2_with (first | (go_at_call 33; (with_reducible refine (HL.out _ HS1.out).mono ?_); rintro e w1 ⟨rfl, hs1, hb1⟩; have S1 := Aside0.mk (HS.out.but hs1 hb1); clear hs1 hb1; obtain ⟨d0, d1, b0, b1, b2, hq1⟩ := S1.out.all; clear hq1))
 go_loopg [15] n (fun gg v15 wr => ∃ i : Nat, i ≤ n ∧ n - i ≤ gg ∧ v15 = .int .i64 (i : Int) ∧ Aside0 (impl_asker_left.rS w n v T M mv w.heap.size m u wr) ∧ Aside0 (findF p 0 n = findF p i (n - i)))
 case atStart => exact ⟨0, Nat.zero_le _, by omega, rfl, S1, ⟨rfl⟩⟩
 case round =>
  clear S1 d0 d1 b0 b1 b2 c0 c1 a0 a1 a2; obtain ⟨i, hi, hg, rfl, hS, hF⟩ := hrel
  by_cases hlt : i < n
  ·have hltz : (i : Int) < (n : Int) := by omega
   obtain ⟨c0, c1, a0, _⟩ := hS.out.all
   have hmb := bit_nat (a := m) (n := i) (by omega) (by omega)
   have es : ∀ y : Nat, shr .i64 (y : Int) (i : Int) = (y : Int) / 2 ^ i := fun y => by rw [shr_nat (by omega)]; push_cast; rfl
   rw [es] at hmb
   have hi64 : i ≤ 64 := by omega
   have hFN := Aside0.mk (hF.out.trans (findF_from hlt))
   clear es
   cases hm : m.testBit i with
   | true =>
    have HF2 : Aside0 (findF p 0 n = findF p (i + 1) (n - (i + 1))) := ⟨by rw [hFN.out, HH.out i hm, if_neg (by decide)]⟩
    rw [hm] at hmb
    clear hm
    go_wp2
    go_roundg (n - (i + 1))
    case measure => omega
    case rel => exact ⟨i + 1, by omega, by omega, by go_num, hS, HF2⟩
   | false =>
    have hmem := mem_frL hlt hm
    obtain ⟨q0, q1, q2⟩ := HCB.out.step hmem
    have hdd := HD.out
    have hpi := Aside0.mk (HB.out i hlt hm)
    have IH0 := Aside0.mk (fun W => IH.out _ _ W q0 (by omega))
    have IH1 := Aside0.mk (fun W => IH.out _ _ W q1 (by omega))
    have W0 := Aside0.mk (impl_asker_left.with0 (m := m) (u := u) (i := i) hm16 hu16 (by omega))
    have W1 := Aside0.mk (impl_asker_left.with1 (m := m) (u := u) (i := i) hm16 hu16 (by omega))
    rw [hm] at hmb
    generalize ldC n n v d (m ||| 2 ^ i) u = R0 at *
    generalize ldC n n v d (m ||| 2 ^ i) (u ||| 2 ^ i) = R1 at *
    generalize m ||| 2 ^ i = m1 at *
    generalize u ||| 2 ^ i = u1 at *
    clear hm hmem q0 q1 q2 hdd
    by_cases h0 : R0 < N
    ·have h0z : (R0 : Int) < (N : Int) := by omega
     by_cases h1 : R1 < N
     ·have h1z : (R1 : Int) < (N : Int) := by omega
      have HF3 : Aside0 (findF p 0 n = some i) := ⟨by rw [hFN.out, hpi.out, decide_eq_true h0, decide_eq_true h1, if_pos (by decide)]⟩
      go_wp2_with (first | (go_at_call 54; (with_reducible first | refine (impl_known_with.calls _ _ _ _ _ _ _ W0.out).mono ?_ | refine (impl_known_with.calls _ _ _ _ _ _ _ W1.out).mono ?_); rintro e w3 ⟨rfl, hb3⟩; (first | (have S3 := Aside0.mk (S2.out.below hb3); clear hb3; have T3 := Aside0.mk (impl_asker_left.rS.toSt S3.out.all)) | (have S1 := Aside0.mk (hS.out.below hb3); clear hb3; have T1 := Aside0.mk (impl_asker_left.rS.toSt S1.out.all)))) | (go_at_call 33; (with_reducible first | refine (IH1.out _ T3.out).mono ?_ | refine (IH0.out _ T1.out).mono ?_); rintro e w4 ⟨rfl, hs4, hb4⟩; (first | (have S4 := Aside0.mk (S3.out.but hs4 hb4); clear hs4 hb4) | (have S2 := Aside0.mk (S1.out.but hs4 hb4); clear hs4 hb4; obtain ⟨e0, e1, f0, f1, f2, hq1⟩ := S2.out.all; clear hq1))))
      go_ret
      have hX : X = (i : Int) := by rw [HX.out, HF3.out]
      exact ⟨by rw [hX]; first | done | rfl, S4.out.2⟩
     ·have h1z : ¬ (R1 : Int) < (N : Int) := by omega
      have HF2 : Aside0 (findF p 0 n = findF p (i + 1) (n - (i + 1))) := ⟨by rw [hFN.out, hpi.out, decide_eq_false h1, Bool.and_false, if_neg (by decide)]⟩
      go_wp2_with (first | (go_at_call 54; (with_reducible first | refine (impl_known_with.calls _ _ _ _ _ _ _ W0.out).mono ?_ | refine (impl_known_with.calls _ _ _ _ _ _ _ W1.out).mono ?_); rintro e w3 ⟨rfl, hb3⟩; (first | (have S3 := Aside0.mk (S2.out.below hb3); clear hb3; have T3 := Aside0.mk (impl_asker_left.rS.toSt S3.out.all)) | (have S1 := Aside0.mk (hS.out.below hb3); clear hb3; have T1 := Aside0.mk (impl_asker_left.rS.toSt S1.out.all)))) | (go_at_call 33; (with_reducible first | refine (IH1.out _ T3.out).mono ?_ | refine (IH0.out _ T1.out).mono ?_); rintro e w4 ⟨rfl, hs4, hb4⟩; (first | (have S4 := Aside0.mk (S3.out.but hs4 hb4); clear hs4 hb4) | (have S2 := Aside0.mk (S1.out.but hs4 hb4); clear hs4 hb4; obtain ⟨e0, e1, f0, f1, f2, hq1⟩ := S2.out.all; clear hq1))))
      go_roundg (n - (i + 1))
      case measure => omega
      case rel => exact ⟨i + 1, by omega, by omega, by go_num, S4, HF2⟩
    ·have h0z : ¬ (R0 : Int) < (N : Int) := by omega
     have HF2 : Aside0 (findF p 0 n = findF p (i + 1) (n - (i + 1))) := ⟨by rw [hFN.out, hpi.out, decide_eq_false h0, Bool.false_and, if_neg (by decide)]⟩
     go_wp2_with (first | (go_at_call 54; (with_reducible refine (impl_known_with.calls _ _ _ _ _ _ _ W0.out).mono ?_); rintro e w3 ⟨rfl, hb3⟩; have S1 := Aside0.mk (hS.out.below hb3); clear hb3; have T1 := Aside0.mk (impl_asker_left.rS.toSt S1.out.all)) | (go_at_call 33; (with_reducible refine (IH0.out _ T1.out).mono ?_); rintro e w4 ⟨rfl, hs4, hb4⟩; have S2 := Aside0.mk (S1.out.but hs4 hb4); clear hs4 hb4))
     go_roundg (n - (i + 1))
     case measure => omega
     case rel => exact ⟨i + 1, by omega, by omega, by go_num, S2, HF2⟩
  ·obtain rfl : i = n := by omega
   have HF3 : Aside0 (findF p 0 i = none) := ⟨hF.out.trans findF_end⟩
   go_wp2
   go_ret
   have hX : X = -1 := by rw [HX.out, HF3.out]
   exact ⟨by rw [hX]; first | done | rfl, hS.out.2⟩
theorem impl_asker_first.call (n v T M : Nat) (mv : Value) (hn : n ≤ 4) (hv : v < 2 ^ 2 ^ n) (d m u : Nat) (w : World) (hc : Cb n m u) (hd : pc m + d = n) (hst : impl_asker_left.St n v T M mv w) :
  Calls Tryd.prog 51 #[.pointer (some ⟨T, 0, none⟩), .agg #[.int .i64 (m : Int), .int .i64 (u : Int)]] w fun e w' => e = .returned (.int .i64 (firI n v d m u)) ∧ impl_asker_left.St n v T M mv w' ∧ But M w w' := by
 have hL := fun W h => impl_asker_left.call n v T M mv hn hv d m u W hc hd h
 cases d with
 | zero => exact impl_asker_first.none_ n v T M m u mv w hn hst hL
 | succ d =>
  rw [firI]
  by_cases hcon : conL v (inX n m u) = true
  ·rw [if_pos hcon]
   have e : ldC n n v (d + 1) m u = 0 := by rw [ldC, if_pos hcon]
   rw [e] at hL
   exact impl_asker_first.none_ n v T M m u mv w hn hst hL
  ·rw [if_neg hcon]
   exact impl_asker_first.step n v T M m u d _ mv w hc hd hcon rfl (ldC_pos hc hd hcon) hst hL (fun m u W h1 h2 h3 => impl_asker_left.call n v T M mv hn hv d m u W h1 h2 h3)
end Go.Proofs.YtkmicbnbclkkkaaDoor.Print
namespace Go.Proofs.YtkmicbnbclkkkaaDoor.Print
open Go.RowKit Go.Proofs.YtkmicbnbclkkkaaDoorW.PrintWords Go.Proofs.YtkmicbnbclkkkaaDoorW.PrintLast Go.Proofs.YtkmicbnbclkkkaaDoorW.PrintMore
attribute [local go_sem] max2_int min2_int max_two min_two max_three min_three max_four min_four   -- for this text's walks alone
set_option linter.unusedVariables false
set_option linter.unusedSimpArgs false
/-! ### impl_asker_best: function 30 -/
open Go.Proofs.YtkmicbnbclkkkaaDoor.M
theorem impl_asker_best.cv (b : Nat) (X : Int) (W : World) (h : W.cell? ⟨b, 0, none⟩ = some (.int .u8 X)) : (convert 22 9 (.slice (some ⟨b, 0, none⟩) 1 1)).run Tryd.prog W = .ok (.string (strOfNums [X])) W :=
 run_convert_bytes_arg W 22 5 Tryd.underlying22 Tryd.underlying5 b 0 1 1 [X] rfl (fun i hi => by
  obtain rfl : i = 0 := by have : i < 1 := hi; omega
  simpa using h) 9 Tryd.underlying9
/-- the value of a subcube with one value, as a digit -/
theorem impl_asker_best.fmt (c : Int) (h : c = 0 ∨ c = 1) : impl_FormatInt.f c = some (Td.node (48 + c) .nil .nil).txt := by
 rcases h with rfl | rfl <;> rfl
theorem impl_asker_best.cub {n v m u : Nat} (h : Cb n m u) (hc : conL v (inX n m u) = true) : impl_Table_cube.val (impl_Table_cube.seen v m u false (2 ^ n)) (impl_Table_cube.seen v m u true (2 ^ n)) = bitC n v m u := by
 obtain ⟨x, hx⟩ : ∃ x, x ∈ inX n m u := List.exists_mem_of_ne_nil _ h.ne
 have h1 : ∀ y ∈ inX n m u, v.testBit y = v.testBit x := fun y hy => by
  have e1 := bitC_all hc hx
  have e2 := bitC_all hc hy
  rw [e1] at e2
  revert e2; cases v.testBit x <;> cases v.testBit y <;> simp
 have e : ∀ c, impl_Table_cube.seen v m u c (2 ^ n) = (v.testBit x == c) := fun c => by
  show (inX n m u).any (fun x => v.testBit x == c) = _
  rw [Bool.eq_iff_iff, List.any_eq_true]
  constructor
  ·rintro ⟨y, hy, e⟩; rw [h1 y hy] at e; exact e
  ·intro e; exact ⟨x, hx, e⟩
 rw [e, e, bitC_all hc hx]
 cases v.testBit x <;> rfl
theorem impl_asker_best.keepB {V w : World} {p : Addr} {x : Value} (h : V.cell? p = some x) (hb : Below V.heap.size V w) : w.cell? p = some x := (hb.cell (World.block_lt_of_cell? V p h)).trans h
theorem impl_asker_best.keepM {V w0 w : World} {n v T M B m u j : Nat} {mv x : Value} (hr : V.cell? ⟨B, 0, none⟩ = some (.int .i64 (m : Int)) ∧ V.cell? ⟨B, 1, none⟩ = some (.int .i64 (u : Int)) ∧ V.cell? ⟨T, 0, none⟩ = some (.int .i64 (n : Int)) ∧ V.cell? ⟨T, 1, none⟩ = some (.int .i64 (v : Int)) ∧ V.cell? ⟨T, 2, none⟩ = some (.map (some M)) ∧ impl_asker_left.rS w0 n v T M mv B m u V) (h : V.cell? ⟨j, 0, none⟩ = some x) (hb : But M V w) : w.cell? ⟨j, 0, none⟩ = some x := by
 have hne : j ≠ M := by
  rintro rfl; obtain ⟨_, es, clock, h2, _⟩ := hr.2.2.2.2.2.2.1
  simp [World.cell?, h2] at h
 have hl := World.block_lt_of_cell? V ⟨j, 0, none⟩ h
 have := hb.block j hl hne
 rw [← h]
 simp only [World.cell?, this]
theorem impl_asker_best.keepBd {V w : World} {p : Addr} {x : Value} (h : V.cell? p = some x) (hb : Below V.drew.heap.size V.drew w) : w.cell? p = some x := impl_asker_best.keepB (V := V.drew) h hb
theorem impl_asker_best.keepMd {V w0 w : World} {n v T M B m u j : Nat} {mv x : Value} (hr : V.drew.cell? ⟨B, 0, none⟩ = some (.int .i64 (m : Int)) ∧ V.drew.cell? ⟨B, 1, none⟩ = some (.int .i64 (u : Int)) ∧ V.drew.cell? ⟨T, 0, none⟩ = some (.int .i64 (n : Int)) ∧ V.drew.cell? ⟨T, 1, none⟩ = some (.int .i64 (v : Int)) ∧ V.drew.cell? ⟨T, 2, none⟩ = some (.map (some M)) ∧ impl_asker_left.rS w0 n v T M mv B m u V.drew) (h : V.cell? ⟨j, 0, none⟩ = some x) (hb : But M V.drew w) : w.cell? ⟨j, 0, none⟩ = some x := impl_asker_best.keepM hr h hb
theorem impl_asker_best.newB {W w : World} {x : Value} {ty : TypeId} (hb : Below (W.alloc (.cells #[x] ty)).drew.heap.size (W.alloc (.cells #[x] ty)).drew w) : w.cell? ⟨W.heap.size, 0, none⟩ = some x :=
 impl_asker_best.keepB (V := (W.alloc (.cells #[x] ty)).drew) (blk_cell (show (W.alloc (.cells #[x] ty)).drew.heap[W.heap.size]? = some (.cells #[x] ty (0, 0)) from blk_new W _) 0) hb
theorem impl_asker_best.newM {W w0 w : World} {x mv : Value} {ty : TypeId} {n v T M B m u : Nat} (hr : (W.alloc (.cells #[x] ty)).drew.cell? ⟨B, 0, none⟩ = some (.int .i64 (m : Int)) ∧ (W.alloc (.cells #[x] ty)).drew.cell? ⟨B, 1, none⟩ = some (.int .i64 (u : Int)) ∧ (W.alloc (.cells #[x] ty)).drew.cell? ⟨T, 0, none⟩ = some (.int .i64 (n : Int)) ∧ (W.alloc (.cells #[x] ty)).drew.cell? ⟨T, 1, none⟩ = some (.int .i64 (v : Int)) ∧ (W.alloc (.cells #[x] ty)).drew.cell? ⟨T, 2, none⟩ = some (.map (some M)) ∧ impl_asker_left.rS w0 n v T M mv B m u (W.alloc (.cells #[x] ty)).drew) (hb : But M (W.alloc (.cells #[x] ty)).drew w) : w.cell? ⟨W.heap.size, 0, none⟩ = some x :=
 impl_asker_best.keepM hr (blk_cell (show (W.alloc (.cells #[x] ty)).drew.heap[W.heap.size]? = some (.cells #[x] ty (0, 0)) from blk_new W _) 0) hb
theorem impl_asker_best.newB0 {W w : World} {x : Value} {ty : TypeId} (hb : Below (W.alloc (.cells #[x] ty)).heap.size (W.alloc (.cells #[x] ty)) w) : w.cell? ⟨W.heap.size, 0, none⟩ = some x :=
 impl_asker_best.keepB (V := (W.alloc (.cells #[x] ty))) (blk_cell (show (W.alloc (.cells #[x] ty)).heap[W.heap.size]? = some (.cells #[x] ty (0, 0)) from blk_new W _) 0) hb
theorem impl_asker_best.newM0 {W w0 w : World} {x mv : Value} {ty : TypeId} {n v T M B m u : Nat} (hr : (W.alloc (.cells #[x] ty)).cell? ⟨B, 0, none⟩ = some (.int .i64 (m : Int)) ∧ (W.alloc (.cells #[x] ty)).cell? ⟨B, 1, none⟩ = some (.int .i64 (u : Int)) ∧ (W.alloc (.cells #[x] ty)).cell? ⟨T, 0, none⟩ = some (.int .i64 (n : Int)) ∧ (W.alloc (.cells #[x] ty)).cell? ⟨T, 1, none⟩ = some (.int .i64 (v : Int)) ∧ (W.alloc (.cells #[x] ty)).cell? ⟨T, 2, none⟩ = some (.map (some M)) ∧ impl_asker_left.rS w0 n v T M mv B m u (W.alloc (.cells #[x] ty))) (hb : But M (W.alloc (.cells #[x] ty)) w) : w.cell? ⟨W.heap.size, 0, none⟩ = some x :=
 impl_asker_best.keepM hr (blk_cell (show (W.alloc (.cells #[x] ty)).heap[W.heap.size]? = some (.cells #[x] ty (0, 0)) from blk_new W _) 0) hb
set_option maxHeartbeats 8000000 in
set_option maxRecDepth 100000 in
/-- the value is known -/
theorem impl_asker_best.leaf (n v T M m u : Nat) (mv : Value) (w : World) (hc : Cb n m u) (hv : v < 2 ^ 2 ^ n) (hcon : conL v (inX n m u) = true) (hst : impl_asker_left.St n v T M mv w)
  (hF : ∀ W, impl_asker_left.St n v T M mv W → Calls Tryd.prog 51 #[.pointer (some ⟨T, 0, none⟩), .agg #[.int .i64 (m : Int), .int .i64 (u : Int)]] W fun e w' => e = .returned (.int .i64 (-1)) ∧ impl_asker_left.St n v T M mv w' ∧ But M W w') :
  Calls Tryd.prog 30 #[.pointer (some ⟨T, 0, none⟩), .agg #[.int .i64 (m : Int), .int .i64 (u : Int)]] w fun e w' => e = .returned (.string (Td.node (48 + bitC n v m u) .nil .nil).txt) ∧ impl_asker_left.St n v T M mv w' ∧ But M w w' := by
 have huT := Tryd.underlying25
 have huA := Tryd.underlying72
 have huK := Tryd.underlying46
 have h16 := pow16 hc.hn
 have hmm := hc.hm
 have huu := hc.hu
 have HS := Aside0.mk (impl_asker_left.start (m := m) (u := u) hst)
 obtain ⟨c0, c1, a0, a1, a2, _⟩ := HS.out.all; have HF := Aside0.mk hF
 have HS1 := Aside0.mk (impl_asker_left.rS.toSt HS.out.all)
 have HC := Aside0.mk (fun W => impl_Table_cube.call n v m u (2 ^ n) (by have := hc.hn; omega) rfl hv (by omega) (by omega) W)
 rw [impl_asker_best.cub hc hcon] at HC
 have HT := Aside0.mk (impl_asker_best.fmt _ (bitC_val hc hcon))
 generalize (Td.node (48 + bitC n v m u) .nil .nil).txt = tx at *
 generalize bitC n v m u = R at *
 clear hst hF hcon hc hv hmm huu h16
 go_enter Tryd.func30, Tryd.ntmps30
 go_wp2_with (first | (go_at_call 51; (with_reducible refine (HF.out _ HS1.out).mono ?_); rintro e w1 ⟨rfl, hs1, hb1⟩; have S1 := Aside0.mk (HS.out.but hs1 hb1); clear hs1 hb1))
 clear c0 c1 a0 a1 a2
 have h1 := impl_asker_left.rS.st S1.out.all (Below.refl _ _).drew
 go_region_held3 (fun W => W.cell? ⟨w.heap.size, 0, none⟩ = some (.int .i64 (m : Int)) ∧ W.cell? ⟨w.heap.size, 1, none⟩ = some (.int .i64 (u : Int)) ∧ W.cell? ⟨T, 0, none⟩ = some (.int .i64 (n : Int)) ∧ W.cell? ⟨T, 1, none⟩ = some (.int .i64 (v : Int)) ∧ W.cell? ⟨T, 2, none⟩ = some (.map (some M)) ∧ impl_asker_left.rS w n v T M mv w.heap.size m u W) (first | exact h1 | (refine impl_asker_left.rS.st (by assumption) ?_; first | assumption | exact Below.refl _ _)) (first | (go_at_call 53; (with_reducible refine (HC.out _).mono ?_); rintro e w1 ⟨rfl, hb⟩) | (go_at_call 52; (with_reducible refine (impl_FormatInt.calls _ _ _ HT.out).mono ?_); rintro e w2 ⟨rfl, hd⟩; have hb := hd.below; clear hd))
 rename_i hh
 have h9 := Aside0.mk hh.2.2.2.2.2
 clear hh h1
 go_wp2
 go_ret
 exact ⟨rfl, h9.out.2⟩
set_option maxHeartbeats 16000000 in
set_option maxRecDepth 100000 in
theorem impl_asker_best.node (n v T M m u i : Nat) (mv : Value) (t0 t1 : ByteArray) (w : World) (hn : n ≤ 4) (hm16 : m < 16) (hu16 : u < 16) (hi : i < 4) (hs0 : t0.size ≤ 1000) (hs1 : t1.size ≤ 1000) (hst : impl_asker_left.St n v T M mv w)
  (hF : ∀ W, impl_asker_left.St n v T M mv W → Calls Tryd.prog 51 #[.pointer (some ⟨T, 0, none⟩), .agg #[.int .i64 (m : Int), .int .i64 (u : Int)]] W fun e w' => e = .returned (.int .i64 (i : Int)) ∧ impl_asker_left.St n v T M mv w' ∧ But M W w')
  (ih0 : ∀ W, impl_asker_left.St n v T M mv W → Calls Tryd.prog 30 #[.pointer (some ⟨T, 0, none⟩), .agg #[.int .i64 ((m ||| 2 ^ i : Nat) : Int), .int .i64 (u : Int)]] W fun e w' => e = .returned (.string t0) ∧ impl_asker_left.St n v T M mv w' ∧ But M W w')
  (ih1 : ∀ W, impl_asker_left.St n v T M mv W → Calls Tryd.prog 30 #[.pointer (some ⟨T, 0, none⟩), .agg #[.int .i64 ((m ||| 2 ^ i : Nat) : Int), .int .i64 ((u ||| 2 ^ i : Nat) : Int)]] W fun e w' => e = .returned (.string t1) ∧ impl_asker_left.St n v T M mv w' ∧ But M W w') :
  Calls Tryd.prog 30 #[.pointer (some ⟨T, 0, none⟩), .agg #[.int .i64 (m : Int), .int .i64 (u : Int)]] w fun e w' => e = .returned (.string (⟨#[UInt8.ofNat (97 + i)]⟩ ++ t0 ++ t1)) ∧ impl_asker_left.St n v T M mv w' ∧ But M w w' := by
 have huT := Tryd.underlying25
 have huA := Tryd.underlying72
 have huK := Tryd.underlying46
 have HS := Aside0.mk (impl_asker_left.start (m := m) (u := u) hst)
 obtain ⟨c0, c1, a0, a1, a2, _⟩ := HS.out.all; have HF := Aside0.mk hF
 have HS1 := Aside0.mk (impl_asker_left.rS.toSt HS.out.all)
 have W0 := Aside0.mk (impl_asker_left.with0 (m := m) (u := u) (i := i) hm16 hu16 hi)
 have W1 := Aside0.mk (impl_asker_left.with1 (m := m) (u := u) (i := i) hm16 hu16 hi)
 have IH0 := Aside0.mk ih0; have IH1 := Aside0.mk ih1
 have hcv : ∀ (b : Nat) (W : World), W.cell? ⟨b, 0, none⟩ = some (.int .u8 (97 + (i : Int))) → (convert 22 9 (.slice (some ⟨b, 0, none⟩) 1 1)).run Tryd.prog W = .ok (.string ⟨#[UInt8.ofNat (97 + i)]⟩) W := fun b W h => by
  have e : strOfNums [(97 + (i : Int))] = ⟨#[UInt8.ofNat (97 + i)]⟩ := by
   have e1 : (97 + (i : Int)).toNat = 97 + i := by omega
   show (⟨#[UInt8.ofNat (97 + (i : Int)).toNat]⟩ : ByteArray) = _
   rw [e1]
  rw [← e]; exact impl_asker_best.cv b _ W h
 obtain ⟨L, hL⟩ : ∃ L : ByteArray, L = ⟨#[UInt8.ofNat (97 + i)]⟩ := ⟨_, rfl⟩
 have hLs : L.size = 1 := by rw [hL]; rfl
 rw [← hL] at hcv ⊢
 have hz0 : (9223372036854775807 < L.size + t0.size) = False := eq_false (by omega)
 have hz1 : (9223372036854775807 < L.size + t0.size + t1.size) = False := eq_false (by omega)
 have hz2 : (9223372036854775807 < (L ++ t0).size + t1.size) = False := eq_false (by rw [ByteArray.size_append]; omega)
 clear hL hLs
 have hm8 : IntKind.u8.wrap (i : Int) = (i : Int) := by rw [IntKind.wrap_u8]; omega
 have hm9 : IntKind.u8.wrap (97 + (i : Int)) = 97 + (i : Int) := by rw [IntKind.wrap_u8]; omega
 have hi0 : ¬ (i : Int) < 0 := by omega
 generalize m ||| 2 ^ i = m1 at *
 generalize u ||| 2 ^ i = u1 at *
 clear hst hF ih0 ih1
 go_enter Tryd.func30, Tryd.ntmps30
 go_wp2_with (first | (go_at_call 51; (with_reducible refine (HF.out _ HS1.out).mono ?_); rintro e w1 ⟨rfl, hs1, hb1⟩; have S1 := Aside0.mk (HS.out.but hs1 hb1); clear hs1 hb1))
 clear c0 c1 a0 a1 a2
 have h1 := impl_asker_left.rS.st S1.out.all (Below.refl _ _).drew
 go_region_held_law (fun W => W.cell? ⟨w.heap.size, 0, none⟩ = some (.int .i64 (m : Int)) ∧ W.cell? ⟨w.heap.size, 1, none⟩ = some (.int .i64 (u : Int)) ∧ W.cell? ⟨T, 0, none⟩ = some (.int .i64 (n : Int)) ∧ W.cell? ⟨T, 1, none⟩ = some (.int .i64 (v : Int)) ∧ W.cell? ⟨T, 2, none⟩ = some (.map (some M)) ∧ impl_asker_left.rS w n v T M mv w.heap.size m u W) (first | exact h1 | (refine impl_asker_left.rS.st (by assumption) ?_; first | assumption | exact Below.refl _ _ | exact (Below.refl _ _).alloc (Nat.le_refl _) _) | (refine impl_asker_left.rS.sb (by assumption) ?_; assumption)) (first | (go_at_call 54; (with_reducible first | refine (impl_known_with.calls _ _ _ _ _ _ _ W0.out).mono ?_ | refine (impl_known_with.calls _ _ _ _ _ _ _ W1.out).mono ?_); rintro e w1 ⟨rfl, hb⟩; (first | (have hx := impl_asker_best.keepBd hx hb) | (have hx := impl_asker_best.keepB hx hb) | (have hx := impl_asker_best.newB hb) | (have hx := impl_asker_best.newB0 hb) | skip)) | (go_at_call 30; (with_reducible first | refine (IH0.out _ ?s).mono ?_ | refine (IH1.out _ ?s).mono ?_); (case s => exact impl_asker_left.rS.toSt (by assumption)); rintro e w2 ⟨rfl, hb⟩; (first | (have hx := impl_asker_best.keepMd (by assumption) hx hb.2) | (have hx := impl_asker_best.keepM (by assumption) hx hb.2) | (have hx := impl_asker_best.newM (by assumption) hb.2) | (have hx := impl_asker_best.newM0 (by assumption) hb.2) | skip)))
 all_goals
  rename_i hh
  have h9 := Aside0.mk hh.2.2.2.2.2
  clear hh h1
  go_wp2
  go_ret
  exact ⟨rfl, h9.out.2⟩
theorem impl_asker_best.call (n v T M : Nat) (mv : Value) (hn : n ≤ 4) (hv : v < 2 ^ 2 ^ n) : ∀ (d m u : Nat) (w : World), Cb n m u → pc m + d = n → impl_asker_left.St n v T M mv w →
  Calls Tryd.prog 30 #[.pointer (some ⟨T, 0, none⟩), .agg #[.int .i64 (m : Int), .int .i64 (u : Int)]] w fun e w' => e = .returned (.string (bestT n v d m u).txt) ∧ impl_asker_left.St n v T M mv w' ∧ But M w w' := by
 intro d
 induction d with
 | zero =>
  intro m u w hc hd hst
  exact impl_asker_best.leaf n v T M m u mv w hc hv (hc.con (by omega)) hst (fun W h => impl_asker_first.call n v T M mv hn hv 0 m u W hc hd h)
 | succ d ih =>
  intro m u w hc hd hst
  have hF := fun W h => impl_asker_first.call n v T M mv hn hv (d + 1) m u W hc hd h
  rw [firI] at hF
  rw [bestT]
  by_cases hcon : conL v (inX n m u) = true
  ·rw [if_pos hcon] at hF ⊢
   exact impl_asker_best.leaf n v T M m u mv w hc hv hcon hst hF
  ·rw [if_neg hcon] at hF ⊢
   obtain ⟨i, hi, i1, i2, i3⟩ := hc.best hd hcon
   rw [hi] at hF ⊢
   have h16 := pow16 hn
   obtain ⟨c0, c1, c2⟩ := hc.step (mem_frL i1 i2)
   have hd4 : 2 ^ (d + 1) ≤ 16 := pow16 (by omega)
   have s0 := bestT_size n v d (m ||| 2 ^ i) u
   have s1 := bestT_size n v d (m ||| 2 ^ i) (u ||| 2 ^ i)
   exact impl_asker_best.node n v T M m u i mv _ _ w hn (by have := hc.hm; omega) (by have := hc.hu; omega) (by omega) (by omega) (by omega) hst hF (fun W h => ih _ _ W c0 (by omega) h) (fun W h => ih _ _ W c1 (by omega) h)
end Go.Proofs.YtkmicbnbclkkkaaDoor.Print
namespace Go.Proofs.YtkmicbnbclkkkaaDoor.Print
open Go.RowKit Go.Proofs.YtkmicbnbclkkkaaDoorW.PrintWords Go.Proofs.YtkmicbnbclkkkaaDoorW.PrintLast Go.Proofs.YtkmicbnbclkkkaaDoorW.PrintMore
attribute [local go_sem] max2_int min2_int max_two min_two max_three min_three max_four min_four   -- for this text's walks alone
set_option linter.unusedVariables false
set_option linter.unusedSimpArgs false
set_option maxRecDepth 100000
/-! ### impl_BestTree: function 6 -/
open Go.Proofs.YtkmicbnbclkkkaaDoor.M
def impl_BestTree.f (a0_0 : Int) (a0_1 : Int) : Option (ByteArray × Bool) :=
 (impl_isSmall.f a0_0 a0_1 4).bind fun t => if t = true then (if 0 ≤ a0_0 ∧ a0_0 ≤ 4 ∧ 0 ≤ a0_1 ∧ a0_1 < ((2 ^ 2 ^ a0_0.toNat : Nat) : Int) then some (bestS a0_0.toNat a0_1.toNat, true) else none) else some (⟨#[]⟩, false)
theorem impl_BestTree.ask (n v : Nat) (w : World) : Calls Tryd.prog 29 #[.agg #[.int .i64 (n : Int), .int .i64 (v : Int)]] w fun e w' => ∃ T M mv, e = .returned (.pointer (some ⟨T, 0, none⟩)) ∧ impl_asker_left.St n v T M mv w' ∧ w.heap.size ≤ M ∧ Below w.heap.size w w' := by
 have huT := Tryd.underlying25
 have huA := Tryd.underlying72
 have hmk : ∀ W, (Instr.makeMap 70 none).run Tryd.prog W = .ok (.map (some W.heap.size)) (W.alloc (.map #[] 0)) := fun W => run_makeMap 70 W
 go_enter Tryd.func29, Tryd.ntmps29
 go_wp2_with (fail)
 go_ret
 obtain ⟨W0, hW0⟩ : ∃ W0, W0 = w.alloc (.cells #[.int .i64 (n : Int), .int .i64 (v : Int)] 25) := ⟨_, rfl⟩
 have hs : W0.heap.size = w.heap.size + 1 := by rw [hW0]; simp
 rw [← hW0, ← hs]
 have hm := Memo.made W0 Tryd.prog 46 3 (impl_asker_left.Good n v)
 have hm2 := (hm.alloc (.map #[] 0)).alloc (.cells #[.int .i64 (n : Int), .int .i64 (v : Int), .map (some W0.heap.size), .map (some (W0.heap.size + 1))] 72)
 have hB : Below w.heap.size w ((((W0.alloc (.map #[] 0)).alloc (.map #[] 0)).alloc (.cells #[.int .i64 (n : Int), .int .i64 (v : Int), .map (some W0.heap.size), .map (some (W0.heap.size + 1))] 72))) := by
  have h0 : Below w.heap.size w W0 := by rw [hW0]; exact (Below.refl _ _).alloc (Nat.le_refl _) _
  exact ((h0.alloc (by omega) _).alloc (by simp; omega) _).alloc (by simp; omega) _
 have hT := blk_new ((W0.alloc (.map #[] 0)).alloc (.map #[] 0)) (.cells #[.int .i64 (n : Int), .int .i64 (v : Int), .map (some W0.heap.size), .map (some (W0.heap.size + 1))] 72)
 have e : ((W0.alloc (.map #[] 0)).alloc (.map #[] 0)).heap.size = W0.heap.size + 1 + 1 := by simp
 rw [e] at hT
 exact ⟨W0.heap.size + 1 + 1, W0.heap.size, _, rfl, ⟨hT, hm2⟩, by omega, hB⟩
theorem impl_BestTree.good (n v : Nat) (hn : n ≤ 4) (hv : v < 2 ^ 2 ^ n) (hsm : impl_isSmall.f (n : Int) (v : Int) 4 = some true) (w : World) :
  Calls Tryd.prog 6 #[.agg #[.int .i64 (n : Int), .int .i64 (v : Int)]] w fun e w' => e = .returned (.tuple #[.string (bestS n v), .bool true]) ∧ Below w.heap.size w w' := by
 have huT := Tryd.underlying25
 have huK := Tryd.underlying46
 obtain ⟨W0, hW0⟩ : ∃ W0, W0 = w.alloc (.cells #[.int .i64 (n : Int), .int .i64 (v : Int)] 25) := ⟨_, rfl⟩
 have HB : Aside0 (Below w.heap.size w W0) := ⟨by rw [hW0]; exact (Below.refl _ _).alloc (Nat.le_refl _) _⟩
 have C0 : Aside0 (W0.heap[w.heap.size]? = some (.cells #[.int .i64 (n : Int), .int .i64 (v : Int)] 25 (0, 0))) := ⟨by rw [hW0]; exact blk_new w _⟩
 have CW := Aside0.mk hW0; have HSM := Aside0.mk hsm
 have HA := Aside0.mk (fun W => impl_BestTree.ask n v W)
 have HL : Aside0 (∀ T M mv W, impl_asker_left.St n v T M mv W → Calls Tryd.prog 30 #[.pointer (some ⟨T, 0, none⟩), .agg #[.int .i64 0, .int .i64 0]] W fun e w' => e = .returned (.string (bestS n v)) ∧ impl_asker_left.St n v T M mv w' ∧ But M W w') := ⟨fun T M mv W h => impl_asker_best.call n v T M mv hn hv n 0 0 W (Cb.zero hn) (by rw [pc_zero]; omega) h⟩
 clear hsm hW0 hv hn
 go_enter Tryd.func6, Tryd.ntmps6
 go_wp2_with (first | (go_at_call 28; rw [← CW.out]; (with_reducible refine (impl_isSmall.calls _ _ _ _ _ HSM.out).mono ?_); rintro e w1 ⟨rfl, hb⟩; have B1 := Aside0.mk hb; clear hb; have p0 := blk_cell (blk_below C0.out B1.out) 0; have p1 := blk_cell (blk_below C0.out B1.out) 1) | (go_at_call 29; (with_reducible refine (HA.out _).mono ?_); rintro e w2 ⟨T, M, mv, rfl, hst, hM, hb⟩; have B2 := Aside0.mk (B1.out.trans (hb.mono B1.out.size)); have HM := Aside0.mk (Nat.le_trans B1.out.size hM); have HST := Aside0.mk hst; clear hb hst hM) | (go_at_call 30; (with_reducible refine (HL.out _ _ _ _ HST.out).mono ?_); rintro e w3 ⟨rfl, hst, hb⟩; have B3 := Aside0.mk hb; clear hb hst))
 go_ret2
 have hm := HM.out
 have h2 := HB.out.size
 refine ⟨rfl, ?_⟩
 have h3 := HB.out.trans (B2.out.mono HB.out.size)
 exact h3.trans (B3.out.below (by omega) h3.size)
theorem impl_BestTree.bad (a b : Int) (hsm : impl_isSmall.f a b 4 = some false) (w : World) :
  Calls Tryd.prog 6 #[.agg #[.int .i64 a, .int .i64 b]] w fun e w' => e = .returned (.tuple #[.string ⟨#[]⟩, .bool false]) ∧ Below w.heap.size w w' := by
 have huT := Tryd.underlying25
 have HB : Aside0 (Below w.heap.size w (w.alloc (.cells #[.int .i64 a, .int .i64 b] 25))) := ⟨(Below.refl _ _).alloc (Nat.le_refl _) _⟩
 have HSM := Aside0.mk hsm; clear hsm
 go_enter Tryd.func6, Tryd.ntmps6
 go_wp2_with (first | (go_at_call 28; (with_reducible refine (impl_isSmall.calls _ _ _ _ _ HSM.out).mono ?_); rintro e w1 ⟨rfl, hb⟩))
 go_ret2
 exact ⟨rfl, HB.out.trans (hb.mono HB.out.size)⟩
theorem impl_BestTree.calls (a0_0 : Int) (a0_1 : Int) (r1 : ByteArray) (r2 : Bool) (w : World) (h : impl_BestTree.f a0_0 a0_1 = some (r1, r2)) :
  Calls Tryd.prog 6 #[.agg #[.int .i64 a0_0, .int .i64 a0_1]] w fun e w' => e = .returned (.tuple #[.string r1, .bool r2]) ∧ Below w.heap.size w w' := by
 unfold impl_BestTree.f at h
 obtain ⟨t, ht, h⟩ := Option.bind_eq_some_iff.mp h
 cases t with
 | false =>
  rw [if_neg (by decide)] at h
  obtain ⟨rfl, rfl⟩ := Prod.mk.inj (Option.some.inj h)
  exact impl_BestTree.bad a0_0 a0_1 ht w
 | true =>
  rw [if_pos rfl] at h
  by_cases hd : 0 ≤ a0_0 ∧ a0_0 ≤ 4 ∧ 0 ≤ a0_1 ∧ a0_1 < ((2 ^ 2 ^ a0_0.toNat : Nat) : Int)
  ·rw [if_pos hd] at h
   obtain ⟨d1, d2, d3, d4⟩ := hd
   obtain ⟨n, rfl⟩ := nat_of d1
   obtain ⟨v, rfl⟩ := nat_of d3
   rw [Int.toNat_natCast, Int.toNat_natCast] at h
   rw [Int.toNat_natCast] at d4
   obtain ⟨rfl, rfl⟩ := Prod.mk.inj (Option.some.inj h)
   exact impl_BestTree.good n v (by omega) (by exact_mod_cast d4) ht w
  ·rw [if_neg hd] at h; cases h
end Go.Proofs.YtkmicbnbclkkkaaDoor.Print
namespace Go.Proofs.YtkmicbnbclkkkaaDoor.Print
open Go.RowKit Go.Proofs.YtkmicbnbclkkkaaDoorW.PrintWords Go.Proofs.YtkmicbnbclkkkaaDoorW.PrintLast Go.Proofs.YtkmicbnbclkkkaaDoorW.PrintMore
attribute [local go_sem] max2_int min2_int max_two min_two max_three min_three max_four min_four   -- for this text's walks alone
set_option linter.unusedVariables false
set_option linter.unusedSimpArgs false
set_option maxHeartbeats 8000000
set_option maxRecDepth 100000
/-! ### spec_l1In: function 44 -/
def spec_l1In.f (a0 : Int) (a1 : Int) (a2 : Int) : Option (Bool) := if a0 ≥ a1 then (some (decide (a0 ≤ a2))) else (some false)
theorem spec_l1In.calls (a0 : Int) (a1 : Int) (a2 : Int) (r : Bool) (w : World) (h : spec_l1In.f a0 a1 a2 = some r) :
  Calls Tryd.prog 44 #[.int .i64 a0, .int .i64 a1, .int .i64 a2] w fun e w' => e = .returned (.bool r) ∧ Drawn0 w w' := by
 have H : (if a0 ≥ a1 then (some (decide (a0 ≤ a2))) else (some false)) = some r := h
 clear h
 by_cases c4 : a0 ≥ a1
 ·rw [if_pos c4] at H
  have c4b0 : decide (a1 ≤ a0) = true := decide_eq_true c4
  clear c4
  obtain rfl := Option.some.inj H
  go_enter Tryd.func44, Tryd.ntmps44
  go_wp2
  go_ret
  exact ⟨by first | rfl | (simp; done) | (simp [*]; done), by repeat (first | exact Drawn0.refl _ | apply Drawn0.step)⟩
 ·rw [if_neg c4] at H
  have c4b0 : decide (a1 ≤ a0) = false := decide_eq_false c4
  clear c4
  obtain rfl := Option.some.inj H
  go_enter Tryd.func44, Tryd.ntmps44
  go_wp2
  go_ret
  exact ⟨by first | rfl | (simp; done) | (simp [*]; done), by repeat (first | exact Drawn0.refl _ | apply Drawn0.step)⟩
/-! ### spec_IsTable: function 31 -/
def spec_IsTable.f (a0_0 : Int) (a0_1 : Int) : Option (Bool) := (spec_l1In.f a0_0 0 5).bind fun t214 => (if t214 = true then (if 0 ≤ a0_0 then ((spec_l1In.f a0_1 0 (wrap64 ((shl .i64 1 (shl .u64 1 a0_0)) - 1))).bind fun t215 => (some t215)) else (none)) else (some false))
theorem spec_IsTable.calls (a0_0 : Int) (a0_1 : Int) (r : Bool) (w : World) (h : spec_IsTable.f a0_0 a0_1 = some r) :
  Calls Tryd.prog 31 #[.agg #[.int .i64 a0_0, .int .i64 a0_1]] w fun e w' => e = .returned (.bool r) ∧ Below w.heap.size w w' := by
 have hu25 := Tryd.underlying25
 have HB := Aside0.mk (Below.refl w.heap.size w)
 have H : ((spec_l1In.f a0_0 0 5).bind fun t214 => (if t214 = true then (if 0 ≤ a0_0 then ((spec_l1In.f a0_1 0 (wrap64 ((shl .i64 1 (shl .u64 1 a0_0)) - 1))).bind fun t215 => (some t215)) else (none)) else (some false))) = some r := h
 clear h; replace H := Option.bind_eq_some_iff.mp H; obtain ⟨t214, A20, H⟩ := H; (try dsimp only at H); have A2 := Aside0.mk A20; clear A20
 by_cases c3 : t214 = true
 ·subst c3
  have H1 : (if 0 ≤ a0_0 then ((spec_l1In.f a0_1 0 (wrap64 ((shl .i64 1 (shl .u64 1 a0_0)) - 1))).bind fun t215 => (some t215)) else (none)) = some r := by rw [if_pos rfl] at H; exact H
  clear H; have H := H1; clear H1
  by_cases c4 : 0 ≤ a0_0
  ·rw [if_pos c4] at H
   have c4b0 := eq_true c4
   have c4b1 : decide (0 ≤ a0_0) = true := decide_eq_true c4
   clear c4
   obtain ⟨ji5, hji5⟩ : ∃ j_ : Int, (shl .u64 1 a0_0) = j_ := ⟨_, rfl⟩
   replace H : ((spec_l1In.f a0_1 0 (wrap64 ((shl .i64 1 (ji5)) - 1))).bind fun t215 => (some t215)) = some r := by first | (rw [hji5] at H; exact H) | (simp only [hji5] at H ⊢; exact H)
   (try rw [hji5] at A2)
   have hji5_ : (IntKind.u64.wrap (1 * 2 ^ min a0_0.toNat 64)) = ji5 := hji5
   have hji5z : a0_0 ≤ 64 → (IntKind.u64.wrap (1 * 2 ^ a0_0.toNat)) = ji5 := shl_small hji5
   have hji5n0 : 0 ≤ ji5 := by rw [← hji5]; exact shl_u_nn _ _
   have hji5n1 := eq_true hji5n0
   have hji5n2 : decide (0 ≤ ji5) = true := decide_eq_true hji5n0
   have hji5u : (IntKind.u64.wrap (2 ^ min a0_0.toNat 64)) = ji5 := by have h_ := hji5_; rw [Int.one_mul] at h_; exact h_
   have hji5v : a0_0 ≤ 64 → (IntKind.u64.wrap (2 ^ a0_0.toNat)) = ji5 := fun hle_ => by have h_ := hji5z hle_; rw [Int.one_mul] at h_; exact h_
   obtain ⟨ji6, hji6⟩ : ∃ j_ : Int, (shl .i64 1 (ji5)) = j_ := ⟨_, rfl⟩
   replace H : ((spec_l1In.f a0_1 0 (wrap64 ((ji6) - 1))).bind fun t215 => (some t215)) = some r := by first | (rw [hji6] at H; exact H) | (simp only [hji6] at H ⊢; exact H)
   (try rw [hji6] at A2)
   have hji6_ : (IntKind.i64.wrap (1 * 2 ^ min (ji5).toNat 64)) = ji6 := hji6
   have hji6z : (ji5) ≤ 64 → (IntKind.i64.wrap (1 * 2 ^ (ji5).toNat)) = ji6 := shl_small hji6
   have hji6u : (IntKind.i64.wrap (2 ^ min (ji5).toNat 64)) = ji6 := by have h_ := hji6_; rw [Int.one_mul] at h_; exact h_
   have hji6v : (ji5) ≤ 64 → (IntKind.i64.wrap (2 ^ (ji5).toNat)) = ji6 := fun hle_ => by have h_ := hji6z hle_; rw [Int.one_mul] at h_; exact h_
   have hji6y : (wrap64 (1 * 2 ^ min (ji5).toNat 64)) = ji6 := (i64_w _).symm.trans hji6_
   have hji6x : (ji5) ≤ 64 → (wrap64 (1 * 2 ^ (ji5).toNat)) = ji6 := fun h_ => (i64_w _).symm.trans (hji6z h_)
   replace H := Option.bind_eq_some_iff.mp H; obtain ⟨t215, A70, H⟩ := H
   replace H : (some t215) = some r := H
   have A7 := Aside0.mk A70; clear A70
   obtain rfl := Option.some.inj H
   go_enter Tryd.func31, Tryd.ntmps31
   go_wp2_with (first | ((with_reducible refine gate_dst (N := 1) rfl ?_); refine box_event ?hg (N := 1) ?hd (cs := #[.int .i64 a0_0, .int .i64 a0_1]) (t := 25) ?hr ?_; (case hd => rfl); (case hg => rfl); (case hr => first | (go_simp; done) | (go_simp; rfl)); intro gb213 hg w8 hbox hb; have n0_ := Aside0.mk (below_step (by repeat (first | (with_reducible first | exact HB.out | apply below_alloc | apply pw_below_drewN | apply below_drew1) | exact HB.out)) hb); have n1_ := Aside0.mk (hbox); have n2_ := Aside0.mk ((by rw [hg]; exact (below_size (by repeat (first | (with_reducible first | exact HB.out | apply below_alloc | apply pw_below_drewN | apply below_drew1) | exact HB.out))) : w.heap.size ≤ gb213)); have n3_ := Aside0.mk ((by rw [hg]; exact (below_size (by repeat (first | (with_reducible first | exact HB.out | apply below_alloc | apply pw_below_drewN | apply below_drew1) | exact HB.out))) : w.heap.size ≤ gb213)); clear HB; have HB := n0_; have BK213 := n1_; have GW213 := n2_; have GE213 := n3_; clear n0_ n1_ n2_ n3_; clear hb hbox hg; have hcz9_0 : w8.cell? ⟨gb213, 0, none⟩ = some (.int .i64 a0_0) := (blk_cell BK213.out 0).trans rfl; have hcz9_1 : w8.cell? ⟨gb213, 1, none⟩ = some (.int .i64 a0_1) := (blk_cell BK213.out 1).trans rfl; have hfz9_0 := blk_frozen BK213.out 0; have hfz9_1 := blk_frozen BK213.out 1) | (go_at_call 44; (with_reducible refine (spec_l1In.calls a0_0 0 5 true _ A2.out).mono ?_); rintro e w' ⟨rfl, ⟨nd, rfl⟩⟩; (try first | exact ⟨rfl, _, World.drewN_drewN _ _ _⟩ | exact ⟨rfl, _, Eq.trans (World.drewN_drewN _ _ _) (congrArg (World.drewN _) (Nat.add_assoc _ _ _))⟩)) | (go_at_call 44; (with_reducible refine (spec_l1In.calls a0_1 0 (wrap64 ((ji6) - 1)) t215 _ A7.out).mono ?_); rintro e w' ⟨rfl, ⟨nd, rfl⟩⟩; (try first | exact ⟨rfl, _, World.drewN_drewN _ _ _⟩ | exact ⟨rfl, _, Eq.trans (World.drewN_drewN _ _ _) (congrArg (World.drewN _) (Nat.add_assoc _ _ _))⟩)))
   repeat (go_quiet (first | ((with_reducible refine gate_dst (N := 1) rfl ?_); refine box_event ?hg (N := 1) ?hd (cs := #[.int .i64 a0_0, .int .i64 a0_1]) (t := 25) ?hr ?_; (case hd => rfl); (case hg => rfl); (case hr => first | (go_simp; done) | (go_simp; rfl)); intro gb213 hg w8 hbox hb; have n0_ := Aside0.mk (below_step (by repeat (first | (with_reducible first | exact HB.out | apply below_alloc | apply pw_below_drewN | apply below_drew1) | exact HB.out)) hb); have n1_ := Aside0.mk (hbox); have n2_ := Aside0.mk ((by rw [hg]; exact (below_size (by repeat (first | (with_reducible first | exact HB.out | apply below_alloc | apply pw_below_drewN | apply below_drew1) | exact HB.out))) : w.heap.size ≤ gb213)); have n3_ := Aside0.mk ((by rw [hg]; exact (below_size (by repeat (first | (with_reducible first | exact HB.out | apply below_alloc | apply pw_below_drewN | apply below_drew1) | exact HB.out))) : w.heap.size ≤ gb213)); clear HB; have HB := n0_; have BK213 := n1_; have GW213 := n2_; have GE213 := n3_; clear n0_ n1_ n2_ n3_; clear hb hbox hg; have hcz9_0 : w8.cell? ⟨gb213, 0, none⟩ = some (.int .i64 a0_0) := (blk_cell BK213.out 0).trans rfl; have hcz9_1 : w8.cell? ⟨gb213, 1, none⟩ = some (.int .i64 a0_1) := (blk_cell BK213.out 1).trans rfl; have hfz9_0 := blk_frozen BK213.out 0; have hfz9_1 := blk_frozen BK213.out 1) | (go_at_call 44; (with_reducible refine (spec_l1In.calls a0_0 0 5 true _ A2.out).mono ?_); rintro e w' ⟨rfl, ⟨nd, rfl⟩⟩; (try first | exact ⟨rfl, _, World.drewN_drewN _ _ _⟩ | exact ⟨rfl, _, Eq.trans (World.drewN_drewN _ _ _) (congrArg (World.drewN _) (Nat.add_assoc _ _ _))⟩)) | (go_at_call 44; (with_reducible refine (spec_l1In.calls a0_1 0 (wrap64 ((ji6) - 1)) t215 _ A7.out).mono ?_); rintro e w' ⟨rfl, ⟨nd, rfl⟩⟩; (try first | exact ⟨rfl, _, World.drewN_drewN _ _ _⟩ | exact ⟨rfl, _, Eq.trans (World.drewN_drewN _ _ _) (congrArg (World.drewN _) (Nat.add_assoc _ _ _))⟩))); try go_wp2_with (first | ((with_reducible refine gate_dst (N := 1) rfl ?_); refine box_event ?hg (N := 1) ?hd (cs := #[.int .i64 a0_0, .int .i64 a0_1]) (t := 25) ?hr ?_; (case hd => rfl); (case hg => rfl); (case hr => first | (go_simp; done) | (go_simp; rfl)); intro gb213 hg w8 hbox hb; have n0_ := Aside0.mk (below_step (by repeat (first | (with_reducible first | exact HB.out | apply below_alloc | apply pw_below_drewN | apply below_drew1) | exact HB.out)) hb); have n1_ := Aside0.mk (hbox); have n2_ := Aside0.mk ((by rw [hg]; exact (below_size (by repeat (first | (with_reducible first | exact HB.out | apply below_alloc | apply pw_below_drewN | apply below_drew1) | exact HB.out))) : w.heap.size ≤ gb213)); have n3_ := Aside0.mk ((by rw [hg]; exact (below_size (by repeat (first | (with_reducible first | exact HB.out | apply below_alloc | apply pw_below_drewN | apply below_drew1) | exact HB.out))) : w.heap.size ≤ gb213)); clear HB; have HB := n0_; have BK213 := n1_; have GW213 := n2_; have GE213 := n3_; clear n0_ n1_ n2_ n3_; clear hb hbox hg; have hcz9_0 : w8.cell? ⟨gb213, 0, none⟩ = some (.int .i64 a0_0) := (blk_cell BK213.out 0).trans rfl; have hcz9_1 : w8.cell? ⟨gb213, 1, none⟩ = some (.int .i64 a0_1) := (blk_cell BK213.out 1).trans rfl; have hfz9_0 := blk_frozen BK213.out 0; have hfz9_1 := blk_frozen BK213.out 1) | (go_at_call 44; (with_reducible refine (spec_l1In.calls a0_0 0 5 true _ A2.out).mono ?_); rintro e w' ⟨rfl, ⟨nd, rfl⟩⟩; (try first | exact ⟨rfl, _, World.drewN_drewN _ _ _⟩ | exact ⟨rfl, _, Eq.trans (World.drewN_drewN _ _ _) (congrArg (World.drewN _) (Nat.add_assoc _ _ _))⟩)) | (go_at_call 44; (with_reducible refine (spec_l1In.calls a0_1 0 (wrap64 ((ji6) - 1)) t215 _ A7.out).mono ?_); rintro e w' ⟨rfl, ⟨nd, rfl⟩⟩; (try first | exact ⟨rfl, _, World.drewN_drewN _ _ _⟩ | exact ⟨rfl, _, Eq.trans (World.drewN_drewN _ _ _) (congrArg (World.drewN _) (Nat.add_assoc _ _ _))⟩))))
   go_ret
   exact ⟨by first | rfl | (simp [errW_none, errW_some] <;> rfl) | (simp only [← hji5, ← hji6]; first | rfl | (simp [errW_none, errW_some] <;> rfl)) | (simp [*, errW_none, errW_some] <;> rfl), by repeat (first | (with_reducible first | exact HB.out | apply below_alloc | apply pw_below_drewN | apply below_drew1 | refine below_set ?_ GE213.out) | exact HB.out)⟩
  ·rw [if_neg c4] at H
   exact absurd H (by simp)
 ·replace c3 := Bool.eq_false_iff.mpr c3
  subst c3
  have H1 : (some false) = some r := by rw [if_neg (show ¬ (false = true) by decide)] at H; exact H
  clear H; have H := H1; clear H1
  obtain rfl := Option.some.inj H
  go_enter Tryd.func31, Tryd.ntmps31
  go_wp2_with (first | ((with_reducible refine gate_dst (N := 1) rfl ?_); refine box_event ?hg (N := 1) ?hd (cs := #[.int .i64 a0_0, .int .i64 a0_1]) (t := 25) ?hr ?_; (case hd => rfl); (case hg => rfl); (case hr => first | (go_simp; done) | (go_simp; rfl)); intro gb213 hg w10 hbox hb; have n0_ := Aside0.mk (below_step (by repeat (first | (with_reducible first | exact HB.out | apply below_alloc | apply pw_below_drewN | apply below_drew1) | exact HB.out)) hb); have n1_ := Aside0.mk (hbox); have n2_ := Aside0.mk ((by rw [hg]; exact (below_size (by repeat (first | (with_reducible first | exact HB.out | apply below_alloc | apply pw_below_drewN | apply below_drew1) | exact HB.out))) : w.heap.size ≤ gb213)); have n3_ := Aside0.mk ((by rw [hg]; exact (below_size (by repeat (first | (with_reducible first | exact HB.out | apply below_alloc | apply pw_below_drewN | apply below_drew1) | exact HB.out))) : w.heap.size ≤ gb213)); clear HB; have HB := n0_; have BK213 := n1_; have GW213 := n2_; have GE213 := n3_; clear n0_ n1_ n2_ n3_; clear hb hbox hg; have hcz11_0 : w10.cell? ⟨gb213, 0, none⟩ = some (.int .i64 a0_0) := (blk_cell BK213.out 0).trans rfl; have hcz11_1 : w10.cell? ⟨gb213, 1, none⟩ = some (.int .i64 a0_1) := (blk_cell BK213.out 1).trans rfl; have hfz11_0 := blk_frozen BK213.out 0; have hfz11_1 := blk_frozen BK213.out 1) | (go_at_call 44; (with_reducible refine (spec_l1In.calls a0_0 0 5 false _ A2.out).mono ?_); rintro e w' ⟨rfl, ⟨nd, rfl⟩⟩; (try first | exact ⟨rfl, _, World.drewN_drewN _ _ _⟩ | exact ⟨rfl, _, Eq.trans (World.drewN_drewN _ _ _) (congrArg (World.drewN _) (Nat.add_assoc _ _ _))⟩)))
  repeat (go_quiet (first | ((with_reducible refine gate_dst (N := 1) rfl ?_); refine box_event ?hg (N := 1) ?hd (cs := #[.int .i64 a0_0, .int .i64 a0_1]) (t := 25) ?hr ?_; (case hd => rfl); (case hg => rfl); (case hr => first | (go_simp; done) | (go_simp; rfl)); intro gb213 hg w10 hbox hb; have n0_ := Aside0.mk (below_step (by repeat (first | (with_reducible first | exact HB.out | apply below_alloc | apply pw_below_drewN | apply below_drew1) | exact HB.out)) hb); have n1_ := Aside0.mk (hbox); have n2_ := Aside0.mk ((by rw [hg]; exact (below_size (by repeat (first | (with_reducible first | exact HB.out | apply below_alloc | apply pw_below_drewN | apply below_drew1) | exact HB.out))) : w.heap.size ≤ gb213)); have n3_ := Aside0.mk ((by rw [hg]; exact (below_size (by repeat (first | (with_reducible first | exact HB.out | apply below_alloc | apply pw_below_drewN | apply below_drew1) | exact HB.out))) : w.heap.size ≤ gb213)); clear HB; have HB := n0_; have BK213 := n1_; have GW213 := n2_; have GE213 := n3_; clear n0_ n1_ n2_ n3_; clear hb hbox hg; have hcz11_0 : w10.cell? ⟨gb213, 0, none⟩ = some (.int .i64 a0_0) := (blk_cell BK213.out 0).trans rfl; have hcz11_1 : w10.cell? ⟨gb213, 1, none⟩ = some (.int .i64 a0_1) := (blk_cell BK213.out 1).trans rfl; have hfz11_0 := blk_frozen BK213.out 0; have hfz11_1 := blk_frozen BK213.out 1) | (go_at_call 44; (with_reducible refine (spec_l1In.calls a0_0 0 5 false _ A2.out).mono ?_); rintro e w' ⟨rfl, ⟨nd, rfl⟩⟩; (try first | exact ⟨rfl, _, World.drewN_drewN _ _ _⟩ | exact ⟨rfl, _, Eq.trans (World.drewN_drewN _ _ _) (congrArg (World.drewN _) (Nat.add_assoc _ _ _))⟩))); try go_wp2_with (first | ((with_reducible refine gate_dst (N := 1) rfl ?_); refine box_event ?hg (N := 1) ?hd (cs := #[.int .i64 a0_0, .int .i64 a0_1]) (t := 25) ?hr ?_; (case hd => rfl); (case hg => rfl); (case hr => first | (go_simp; done) | (go_simp; rfl)); intro gb213 hg w10 hbox hb; have n0_ := Aside0.mk (below_step (by repeat (first | (with_reducible first | exact HB.out | apply below_alloc | apply pw_below_drewN | apply below_drew1) | exact HB.out)) hb); have n1_ := Aside0.mk (hbox); have n2_ := Aside0.mk ((by rw [hg]; exact (below_size (by repeat (first | (with_reducible first | exact HB.out | apply below_alloc | apply pw_below_drewN | apply below_drew1) | exact HB.out))) : w.heap.size ≤ gb213)); have n3_ := Aside0.mk ((by rw [hg]; exact (below_size (by repeat (first | (with_reducible first | exact HB.out | apply below_alloc | apply pw_below_drewN | apply below_drew1) | exact HB.out))) : w.heap.size ≤ gb213)); clear HB; have HB := n0_; have BK213 := n1_; have GW213 := n2_; have GE213 := n3_; clear n0_ n1_ n2_ n3_; clear hb hbox hg; have hcz11_0 : w10.cell? ⟨gb213, 0, none⟩ = some (.int .i64 a0_0) := (blk_cell BK213.out 0).trans rfl; have hcz11_1 : w10.cell? ⟨gb213, 1, none⟩ = some (.int .i64 a0_1) := (blk_cell BK213.out 1).trans rfl; have hfz11_0 := blk_frozen BK213.out 0; have hfz11_1 := blk_frozen BK213.out 1) | (go_at_call 44; (with_reducible refine (spec_l1In.calls a0_0 0 5 false _ A2.out).mono ?_); rintro e w' ⟨rfl, ⟨nd, rfl⟩⟩; (try first | exact ⟨rfl, _, World.drewN_drewN _ _ _⟩ | exact ⟨rfl, _, Eq.trans (World.drewN_drewN _ _ _) (congrArg (World.drewN _) (Nat.add_assoc _ _ _))⟩))))
  go_ret
  exact ⟨by first | rfl | (simp [errW_none, errW_some] <;> rfl) | (simp [*, errW_none, errW_some] <;> rfl), by repeat (first | (with_reducible first | exact HB.out | apply below_alloc | apply pw_below_drewN | apply below_drew1 | refine below_set ?_ GE213.out) | exact HB.out)⟩
/-! ### spec_l3Cube: function 55 -/
def spec_l3Cube.l0 : Nat → Int → Int → Int → Int → Int → Int → Option (Int)
 | 0, _, _, _, _, _, _ => none
 | k + 1, x1, x2, x7, x8, x217000, x217001 => if 0 ≤ x217000 then (if x8 < (shl .i64 1 x217000) then (if (Go.bits .and .i64 x8 x1) = x2 then (if 0 ≤ x8 then (if x7 ≥ 0 then (if x7 = (Go.bits .and .i64 (shr .i64 x217001 x8) 1) then (spec_l3Cube.l0 k x1 x2 (Go.bits .and .i64 (shr .i64 x217001 x8) 1) (wrap64 (x8 + 1)) x217000 x217001) else (some 2)) else (spec_l3Cube.l0 k x1 x2 (Go.bits .and .i64 (shr .i64 x217001 x8) 1) (wrap64 (x8 + 1)) x217000 x217001)) else (none)) else (spec_l3Cube.l0 k x1 x2 x7 (wrap64 (x8 + 1)) x217000 x217001)) else (some x7)) else (none)
def spec_l3Cube.f (k : Nat) (a0_0 : Int) (a0_1 : Int) (a1 : Int) (a2 : Int) : Option (Int) := spec_l3Cube.l0 k a1 a2 (-1) 0 a0_0 a0_1
theorem spec_l3Cube.calls (k : Nat) (a0_0 : Int) (a0_1 : Int) (a1 : Int) (a2 : Int) (r : Int) (w : World) (h : spec_l3Cube.f k a0_0 a0_1 a1 a2 = some r) :
  Calls Tryd.prog 55 #[.agg #[.int .i64 a0_0, .int .i64 a0_1], .int .i64 a1, .int .i64 a2] w fun e w' => e = .returned (.int .i64 r) ∧ Below w.heap.size w w' := by
 have hu25 := Tryd.underlying25
 have HB := Aside0.mk (Below.refl w.heap.size w)
 have H : (spec_l3Cube.l0 k a1 a2 (-1) 0 a0_0 a0_1) = some r := h
 clear h
 have H' := Aside0.mk H
 clear H
 go_enter Tryd.func55, Tryd.ntmps55
 go_wp2_with (first | ((with_reducible refine gate_dst (N := 3) rfl ?_); refine box_event ?hg (N := 3) ?hd (cs := #[.int .i64 a0_0, .int .i64 a0_1]) (t := 25) ?hr ?_; (case hd => rfl); (case hg => rfl); (case hr => first | (go_simp; done) | (go_simp; rfl)); intro gb216 hg w4 hbox hb; have n0_ := Aside0.mk (below_step (by repeat (first | (with_reducible first | exact HB.out | apply below_alloc | apply pw_below_drewN | apply below_drew1) | exact HB.out)) hb); have n1_ := Aside0.mk (hbox); have n2_ := Aside0.mk ((by rw [hg]; exact (below_size (by repeat (first | (with_reducible first | exact HB.out | apply below_alloc | apply pw_below_drewN | apply below_drew1) | exact HB.out))) : w.heap.size ≤ gb216)); have n3_ := Aside0.mk ((by rw [hg]; exact (below_size (by repeat (first | (with_reducible first | exact HB.out | apply below_alloc | apply pw_below_drewN | apply below_drew1) | exact HB.out))) : w.heap.size ≤ gb216)); clear HB; have HB := n0_; have BK216 := n1_; have GW216 := n2_; have GE216 := n3_; clear n0_ n1_ n2_ n3_; clear hb hbox hg))
 go_loopg [7, 8] k (fun kq v7 v8 w' => ∃ (x7_1 : Int) (x8_1 : Int), v7 = .int .i64 x7_1 ∧ v8 = .int .i64 x8_1 ∧ Aside0 (spec_l3Cube.l0 kq a1 a2 x7_1 x8_1 a0_0 a0_1 = some r) ∧ Aside0 (kq ≤ k) ∧ Aside0 (w'.heap[gb216]? = some (.cells #[.int .i64 a0_0, .int .i64 a0_1] 25 (0, 0))) ∧ Aside0 (Below w.heap.size w w'))
 case atStart => exact ⟨((-1)), (0), (by first | rfl | (simp; done) | (simp [*]; done)), (by first | rfl | (simp; done) | (simp [*]; done)), H', ⟨Nat.le_refl _⟩, ⟨by (with_reducible repeat (first | refine blk_drewN ?_ _ | refine blk_drew ?_ | refine blk_alloc ?_ _)); exact BK216.out⟩, ⟨by repeat (first | (with_reducible first | exact HB.out | apply below_alloc | apply pw_below_drewN | apply below_drew1 | refine below_set ?_ GE216.out) | exact HB.out)⟩⟩
 case round =>
  clear H'; (try clear p2); obtain ⟨x7_1, x8_1, rfl, rfl, HA, HK1, BK216, HB⟩ := hrel
  cases gk with
  | zero => exact absurd HA.out (by simp [spec_l3Cube.l0])
  | succ k1 =>
   have H := HA.out
   clear HA
   simp only [spec_l3Cube.l0] at H
   by_cases c5 : 0 ≤ a0_0
   ·rw [if_pos c5] at H
    have c5b0 := eq_true c5
    have c5b1 : decide (0 ≤ a0_0) = true := decide_eq_true c5
    clear c5
    obtain ⟨ji6, hji6⟩ : ∃ j_ : Int, (shl .i64 1 a0_0) = j_ := ⟨_, rfl⟩
    replace H : (if x8_1 < (ji6) then (if (Go.bits .and .i64 x8_1 a1) = a2 then (if 0 ≤ x8_1 then (if x7_1 ≥ 0 then (if x7_1 = (Go.bits .and .i64 (shr .i64 a0_1 x8_1) 1) then (spec_l3Cube.l0 k1 a1 a2 (Go.bits .and .i64 (shr .i64 a0_1 x8_1) 1) (wrap64 (x8_1 + 1)) a0_0 a0_1) else (some 2)) else (spec_l3Cube.l0 k1 a1 a2 (Go.bits .and .i64 (shr .i64 a0_1 x8_1) 1) (wrap64 (x8_1 + 1)) a0_0 a0_1)) else (none)) else (spec_l3Cube.l0 k1 a1 a2 x7_1 (wrap64 (x8_1 + 1)) a0_0 a0_1)) else (some x7_1)) = some r := by first | (rw [hji6] at H; exact H) | (simp only [hji6] at H ⊢; exact H)
    have hji6_ : (IntKind.i64.wrap (1 * 2 ^ min a0_0.toNat 64)) = ji6 := hji6
    have hji6z : a0_0 ≤ 64 → (IntKind.i64.wrap (1 * 2 ^ a0_0.toNat)) = ji6 := shl_small hji6
    have hji6u : (IntKind.i64.wrap (2 ^ min a0_0.toNat 64)) = ji6 := by have h_ := hji6_; rw [Int.one_mul] at h_; exact h_
    have hji6v : a0_0 ≤ 64 → (IntKind.i64.wrap (2 ^ a0_0.toNat)) = ji6 := fun hle_ => by have h_ := hji6z hle_; rw [Int.one_mul] at h_; exact h_
    have hji6y : (wrap64 (1 * 2 ^ min a0_0.toNat 64)) = ji6 := (i64_w _).symm.trans hji6_
    have hji6x : a0_0 ≤ 64 → (wrap64 (1 * 2 ^ a0_0.toNat)) = ji6 := fun h_ => (i64_w _).symm.trans (hji6z h_)
    by_cases c7 : x8_1 < (ji6)
    ·rw [if_pos c7] at H
     have c7b0 : decide (x8_1 < (ji6)) = true := decide_eq_true c7
     clear c7
     by_cases c8 : (Go.bits .and .i64 x8_1 a1) = a2
     ·rw [if_pos c8] at H
      have c8b0 : ((Go.bits .and .i64 x8_1 a1) == a2) = true := beq_iff_eq.mpr c8
      have c8b1 : ((Go.bits .and .i64 x8_1 a1) != a2) = false := bne_eq_false_iff_eq.mpr c8
      clear c8
      by_cases c9 : 0 ≤ x8_1
      ·rw [if_pos c9] at H
       have c9b0 := eq_true c9
       have c9b1 : decide (0 ≤ x8_1) = true := decide_eq_true c9
       clear c9
       obtain ⟨ji10, hji10⟩ : ∃ j_ : Int, (shr .i64 a0_1 x8_1) = j_ := ⟨_, rfl⟩
       replace H : (if x7_1 ≥ 0 then (if x7_1 = (Go.bits .and .i64 (ji10) 1) then (spec_l3Cube.l0 k1 a1 a2 (Go.bits .and .i64 (ji10) 1) (wrap64 (x8_1 + 1)) a0_0 a0_1) else (some 2)) else (spec_l3Cube.l0 k1 a1 a2 (Go.bits .and .i64 (ji10) 1) (wrap64 (x8_1 + 1)) a0_0 a0_1)) = some r := by first | (rw [hji10] at H; exact H) | (simp only [hji10] at H ⊢; exact H)
       have hji10_ : (a0_1 / 2 ^ min x8_1.toNat 64) = ji10 := hji10
       have hji10z : x8_1 ≤ 64 → (a0_1 / 2 ^ x8_1.toNat) = ji10 := shr_small hji10
       by_cases c11 : x7_1 ≥ 0
       ·rw [if_pos c11] at H
        have c11b0 : decide (0 ≤ x7_1) = true := decide_eq_true c11
        clear c11
        by_cases c12 : x7_1 = (Go.bits .and .i64 (ji10) 1)
        ·rw [if_pos c12] at H
         have c12b0 : (x7_1 == (Go.bits .and .i64 (ji10) 1)) = true := beq_iff_eq.mpr c12
         have c12b1 : (x7_1 != (Go.bits .and .i64 (ji10) 1)) = false := bne_eq_false_iff_eq.mpr c12
         clear c12
         have H' := Aside0.mk H
         clear H
         have hcz13_0 : wr.cell? ⟨gb216, 0, none⟩ = some (.int .i64 a0_0) := (blk_cell BK216.out 0).trans rfl
         have hcz13_1 : wr.cell? ⟨gb216, 1, none⟩ = some (.int .i64 a0_1) := (blk_cell BK216.out 1).trans rfl
         have hfz13_0 := blk_frozen BK216.out 0
         have hfz13_1 := blk_frozen BK216.out 1
         go_wp2
         go_roundg k1
         case measure => have := HK1.out; omega
         case rel => exact ⟨(Go.bits .and .i64 (ji10) 1), (wrap64 (x8_1 + 1)), (by first | rfl | (simp; done) | (simp only [← hji10] <;> (first | rfl | simp)) | (simp [*]; done)), (by first | rfl | (simp; done) | (simp [*]; done)), H', ⟨by have := HK1.out; omega⟩, ⟨by (with_reducible repeat (first | refine blk_drewN ?_ _ | refine blk_drew ?_ | refine blk_alloc ?_ _)); exact BK216.out⟩, ⟨by repeat (first | (with_reducible first | exact HB.out | apply below_alloc | apply pw_below_drewN | apply below_drew1 | refine below_set ?_ GE216.out) | exact HB.out)⟩⟩
        ·rw [if_neg c12] at H
         have c12b0 : (x7_1 == (Go.bits .and .i64 (ji10) 1)) = false := beq_eq_false_iff_ne.mpr c12
         have c12b1 : (x7_1 != (Go.bits .and .i64 (ji10) 1)) = true := bne_iff_ne.mpr c12
         obtain rfl := Option.some.inj H
         have hcz14_0 : wr.cell? ⟨gb216, 0, none⟩ = some (.int .i64 a0_0) := (blk_cell BK216.out 0).trans rfl
         have hcz14_1 : wr.cell? ⟨gb216, 1, none⟩ = some (.int .i64 a0_1) := (blk_cell BK216.out 1).trans rfl
         have hfz14_0 := blk_frozen BK216.out 0
         have hfz14_1 := blk_frozen BK216.out 1
         go_wp2
         go_ret
         exact ⟨by first | rfl | (simp [errW_none, errW_some] <;> rfl) | (simp only [← hji6, ← hji10]; first | rfl | (simp [errW_none, errW_some] <;> rfl)) | (simp [*, errW_none, errW_some] <;> rfl), by repeat (first | (with_reducible first | exact HB.out | apply below_alloc | apply pw_below_drewN | apply below_drew1 | refine below_set ?_ GE216.out) | exact HB.out)⟩
       ·rw [if_neg c11] at H
        have c11b0 : decide (0 ≤ x7_1) = false := decide_eq_false c11
        clear c11
        have H' := Aside0.mk H
        clear H
        have hcz15_0 : wr.cell? ⟨gb216, 0, none⟩ = some (.int .i64 a0_0) := (blk_cell BK216.out 0).trans rfl
        have hcz15_1 : wr.cell? ⟨gb216, 1, none⟩ = some (.int .i64 a0_1) := (blk_cell BK216.out 1).trans rfl
        have hfz15_0 := blk_frozen BK216.out 0
        have hfz15_1 := blk_frozen BK216.out 1
        go_wp2
        go_roundg k1
        case measure => have := HK1.out; omega
        case rel => exact ⟨(Go.bits .and .i64 (ji10) 1), (wrap64 (x8_1 + 1)), (by first | rfl | (simp; done) | (simp only [← hji10] <;> (first | rfl | simp)) | (simp [*]; done)), (by first | rfl | (simp; done) | (simp [*]; done)), H', ⟨by have := HK1.out; omega⟩, ⟨by (with_reducible repeat (first | refine blk_drewN ?_ _ | refine blk_drew ?_ | refine blk_alloc ?_ _)); exact BK216.out⟩, ⟨by repeat (first | (with_reducible first | exact HB.out | apply below_alloc | apply pw_below_drewN | apply below_drew1 | refine below_set ?_ GE216.out) | exact HB.out)⟩⟩
      ·rw [if_neg c9] at H
       exact absurd H (by simp)
     ·rw [if_neg c8] at H
      have c8b0 : ((Go.bits .and .i64 x8_1 a1) == a2) = false := beq_eq_false_iff_ne.mpr c8
      have c8b1 : ((Go.bits .and .i64 x8_1 a1) != a2) = true := bne_iff_ne.mpr c8
      have H' := Aside0.mk H
      clear H
      have hcz16_0 : wr.cell? ⟨gb216, 0, none⟩ = some (.int .i64 a0_0) := (blk_cell BK216.out 0).trans rfl
      have hcz16_1 : wr.cell? ⟨gb216, 1, none⟩ = some (.int .i64 a0_1) := (blk_cell BK216.out 1).trans rfl
      have hfz16_0 := blk_frozen BK216.out 0
      have hfz16_1 := blk_frozen BK216.out 1
      go_wp2
      go_roundg k1
      case measure => have := HK1.out; omega
      case rel => exact ⟨(x7_1), (wrap64 (x8_1 + 1)), (by first | rfl | (simp; done) | (simp [*]; done)), (by first | rfl | (simp; done) | (simp [*]; done)), H', ⟨by have := HK1.out; omega⟩, ⟨by (with_reducible repeat (first | refine blk_drewN ?_ _ | refine blk_drew ?_ | refine blk_alloc ?_ _)); exact BK216.out⟩, ⟨by repeat (first | (with_reducible first | exact HB.out | apply below_alloc | apply pw_below_drewN | apply below_drew1 | refine below_set ?_ GE216.out) | exact HB.out)⟩⟩
    ·rw [if_neg c7] at H
     have c7b0 : decide (x8_1 < (ji6)) = false := decide_eq_false c7
     clear c7
     obtain rfl := Option.some.inj H
     have hcz17_0 : wr.cell? ⟨gb216, 0, none⟩ = some (.int .i64 a0_0) := (blk_cell BK216.out 0).trans rfl
     have hcz17_1 : wr.cell? ⟨gb216, 1, none⟩ = some (.int .i64 a0_1) := (blk_cell BK216.out 1).trans rfl
     have hfz17_0 := blk_frozen BK216.out 0
     have hfz17_1 := blk_frozen BK216.out 1
     go_wp2
     go_ret
     exact ⟨by first | rfl | (simp [errW_none, errW_some] <;> rfl) | (simp only [← hji6]; first | rfl | (simp [errW_none, errW_some] <;> rfl)) | (simp [*, errW_none, errW_some] <;> rfl), by repeat (first | (with_reducible first | exact HB.out | apply below_alloc | apply pw_below_drewN | apply below_drew1 | refine below_set ?_ GE216.out) | exact HB.out)⟩
   ·rw [if_neg c5] at H
    exact absurd H (by simp)
/-! ### spec_l7Least: function 35 -/
mutual
def spec_l7Least.l0 : Nat → Int → Int → Int → Int → Int → Int → Option (Int)
 | 0, _, _, _, _, _, _ => none
 | k + 1, x1, x2, x7, x8, x218000, x218001 => if x8 < x218000 then (if 0 ≤ x8 then (if (Go.bits .and .i64 x1 (shl .i64 1 x8)) = 0 then ((spec_l7Least.f k x218000 x218001 (Go.bits .or .i64 x1 (shl .i64 1 x8)) x2).bind fun t219 => ((spec_l7Least.f k x218000 x218001 (Go.bits .or .i64 x1 (shl .i64 1 x8)) (Go.bits .or .i64 x2 (shl .i64 1 x8))).bind fun t220 => (spec_l7Least.l0 k x1 x2 (mn x7 (wrap64 (1 + (mx t219 t220)))) (wrap64 (x8 + 1)) x218000 x218001))) else (spec_l7Least.l0 k x1 x2 x7 (wrap64 (x8 + 1)) x218000 x218001)) else (none)) else (some x7)
def spec_l7Least.f : Nat → Int → Int → Int → Int → Option (Int)
 | 0, _, _, _, _ => none
 | k + 1, a0_0, a0_1, a1, a2 => (spec_l3Cube.f k a0_0 a0_1 a1 a2).bind fun t218 => (if t218 < 2 then (some 0) else (spec_l7Least.l0 k a1 a2 10 0 a0_0 a0_1))
end
def spec_l7Least.T9 : Bool × List (List Nat × List Nat) := (true, [([], []), ([], []), ([], []), ([], []), ([2, 3], [2, 3]), ([], []), ([1, 4, 5], [1, 4, 5]), ([], []), ([], []), ([], []), ([8, 9], [8, 9]), ([], []), ([], []), ([11, 12], [11, 12]), ([7, 10, 13, 6], [7, 10, 13]), ([6, 14], [6, 14]), ([15], [15]), ([0, 16], [0, 16]), ([17, 14, 0, 1, 2, 3, 4, 5, 6, 7, 8, 9, 10, 11, 12, 13, 14, 15, 16, 17], [0, 17])])
def spec_l7Least.B9 : List Nat := [0, 0, 0, 0, 12, 0, 62, 0, 0, 0, 768, 0, 0, 6144, 16382, 32766, 65534, 131071, 262143]
theorem spec_l7Least.tab9 : rtab .any (opsOf Tryd.f35 9) = spec_l7Least.T9 := by kernel_rfl
theorem spec_l7Least.bits9 : waitsOk spec_l7Least.T9.2 spec_l7Least.B9 = true := by kernel_rfl
theorem spec_l7Least.calls (k : Nat) : ∀ (a0_0 : Int) (a0_1 : Int) (a1 : Int) (a2 : Int) (r : Int) (w : World) (h : spec_l7Least.f k a0_0 a0_1 a1 a2 = some r),
  Calls Tryd.prog 35 #[.agg #[.int .i64 a0_0, .int .i64 a0_1], .int .i64 a1, .int .i64 a2] w fun e w' => e = .returned (.int .i64 r) ∧ Below w.heap.size w w' := by
 induction k using Nat.strongRecOn with
 | _ k ih =>
 intro a0_0 a0_1 a1 a2 r w h
 cases k with
 | zero => exact absurd h (by simp [spec_l7Least.f])
 | succ k =>
 simp only [spec_l7Least.f] at h
 have hu25 := Tryd.underlying25
 have HB := Aside0.mk (Below.refl w.heap.size w)
 have H : ((spec_l3Cube.f k a0_0 a0_1 a1 a2).bind fun t218 => (if t218 < 2 then (some 0) else (spec_l7Least.l0 k a1 a2 10 0 a0_0 a0_1))) = some r := h
 clear h; replace H := Option.bind_eq_some_iff.mp H; obtain ⟨t218, A40, H⟩ := H
 replace H : (if t218 < 2 then (some 0) else (spec_l7Least.l0 k a1 a2 10 0 a0_0 a0_1)) = some r := H
 have A4 := Aside0.mk A40; clear A40
 by_cases c5 : t218 < 2
 ·rw [if_pos c5] at H
  have c5b0 : decide (t218 < 2) = true := decide_eq_true c5
  clear c5
  obtain rfl := Option.some.inj H
  go_enter Tryd.func35, Tryd.ntmps35
  go_wp2_with (first | ((with_reducible refine gate_dst (N := 3) rfl ?_); refine box_event ?hg (N := 3) ?hd (cs := #[.int .i64 a0_0, .int .i64 a0_1]) (t := 25) ?hr ?_; (case hd => rfl); (case hg => rfl); (case hr => first | (go_simp; done) | (go_simp; rfl)); intro gb217 hg w6 hbox hb; have n0_ := Aside0.mk (below_step (by repeat (first | (with_reducible first | exact HB.out | apply below_alloc | apply pw_below_drewN | apply below_drew1) | exact HB.out)) hb); have n1_ := Aside0.mk (hbox); have n2_ := Aside0.mk ((by rw [hg]; exact (below_size (by repeat (first | (with_reducible first | exact HB.out | apply below_alloc | apply pw_below_drewN | apply below_drew1) | exact HB.out))) : w.heap.size ≤ gb217)); have n3_ := Aside0.mk ((by rw [hg]; exact (below_size (by repeat (first | (with_reducible first | exact HB.out | apply below_alloc | apply pw_below_drewN | apply below_drew1) | exact HB.out))) : w.heap.size ≤ gb217)); clear HB; have HB := n0_; have BK217 := n1_; have GW217 := n2_; have GE217 := n3_; clear n0_ n1_ n2_ n3_; clear hb hbox hg; have hcz7_0 : w6.cell? ⟨gb217, 0, none⟩ = some (.int .i64 a0_0) := (blk_cell BK217.out 0).trans rfl; have hcz7_1 : w6.cell? ⟨gb217, 1, none⟩ = some (.int .i64 a0_1) := (blk_cell BK217.out 1).trans rfl; have hfz7_0 := blk_frozen BK217.out 0; have hfz7_1 := blk_frozen BK217.out 1) | ((with_reducible refine gate_callee (f := 55) rfl ?_); refine goesL_ (some 13) rfl rfl Tryd.func55 (by kernel_rfl) rfl #[.agg #[.int .i64 a0_0, .int .i64 a0_1], .int .i64 a1, .int .i64 a2] rfl (by first | rfl | (simp only [List.map_toArray, List.map_cons, List.map_nil, List.length_drop, List.length_take]; rfl)) ?_; (with_reducible refine (spec_l3Cube.calls k a0_0 a0_1 a1 a2 t218 _ A4.out).mono ?_); rintro e w8 ⟨rfl, hb⟩; refine ⟨_, rfl, ?_⟩; have n0_ := Aside0.mk (blk_below (g := gb217) (o := .cells #[.int .i64 a0_0, .int .i64 a0_1] 25 (0, 0)) (by (with_reducible repeat (first | refine blk_drewN ?_ _ | refine blk_drew ?_ | refine blk_alloc ?_ _)); exact BK217.out) hb); have n1_ := Aside0.mk (below_step (by repeat (first | (with_reducible first | exact HB.out | apply below_alloc | apply pw_below_drewN | apply below_drew1 | refine below_set ?_ GE217.out) | exact HB.out)) hb); clear BK217; clear HB; have BK217 := n0_; have HB := n1_; clear n0_ n1_; (try clear hb); (try clear hb2); (try clear hk); (try clear hi)))
  go_ret
  exact ⟨by first | rfl | (simp [errW_none, errW_some] <;> rfl) | (simp [*, errW_none, errW_some] <;> rfl), by repeat (first | (with_reducible first | exact HB.out | apply below_alloc | apply pw_below_drewN | apply below_drew1 | refine below_set ?_ GE217.out) | exact HB.out)⟩
 ·rw [if_neg c5] at H
  have c5b0 : decide (t218 < 2) = false := decide_eq_false c5
  clear c5
  have H' := Aside0.mk H
  clear H
  go_enter Tryd.func35, Tryd.ntmps35
  go_wp2_with (first | ((with_reducible refine gate_dst (N := 3) rfl ?_); refine box_event ?hg (N := 3) ?hd (cs := #[.int .i64 a0_0, .int .i64 a0_1]) (t := 25) ?hr ?_; (case hd => rfl); (case hg => rfl); (case hr => first | (go_simp; done) | (go_simp; rfl)); intro gb217 hg w9 hbox hb; have n0_ := Aside0.mk (below_step (by repeat (first | (with_reducible first | exact HB.out | apply below_alloc | apply pw_below_drewN | apply below_drew1) | exact HB.out)) hb); have n1_ := Aside0.mk (hbox); have n2_ := Aside0.mk ((by rw [hg]; exact (below_size (by repeat (first | (with_reducible first | exact HB.out | apply below_alloc | apply pw_below_drewN | apply below_drew1) | exact HB.out))) : w.heap.size ≤ gb217)); have n3_ := Aside0.mk ((by rw [hg]; exact (below_size (by repeat (first | (with_reducible first | exact HB.out | apply below_alloc | apply pw_below_drewN | apply below_drew1) | exact HB.out))) : w.heap.size ≤ gb217)); clear HB; have HB := n0_; have BK217 := n1_; have GW217 := n2_; have GE217 := n3_; clear n0_ n1_ n2_ n3_; clear hb hbox hg; have hcz10_0 : w9.cell? ⟨gb217, 0, none⟩ = some (.int .i64 a0_0) := (blk_cell BK217.out 0).trans rfl; have hcz10_1 : w9.cell? ⟨gb217, 1, none⟩ = some (.int .i64 a0_1) := (blk_cell BK217.out 1).trans rfl; have hfz10_0 := blk_frozen BK217.out 0; have hfz10_1 := blk_frozen BK217.out 1) | ((with_reducible refine gate_callee (f := 55) rfl ?_); refine goesL_ (some 13) rfl rfl Tryd.func55 (by kernel_rfl) rfl #[.agg #[.int .i64 a0_0, .int .i64 a0_1], .int .i64 a1, .int .i64 a2] rfl (by first | rfl | (simp only [List.map_toArray, List.map_cons, List.map_nil, List.length_drop, List.length_take]; rfl)) ?_; (with_reducible refine (spec_l3Cube.calls k a0_0 a0_1 a1 a2 t218 _ A4.out).mono ?_); rintro e w11 ⟨rfl, hb⟩; refine ⟨_, rfl, ?_⟩; have n0_ := Aside0.mk (blk_below (g := gb217) (o := .cells #[.int .i64 a0_0, .int .i64 a0_1] 25 (0, 0)) (by (with_reducible repeat (first | refine blk_drewN ?_ _ | refine blk_drew ?_ | refine blk_alloc ?_ _)); exact BK217.out) hb); have n1_ := Aside0.mk (below_step (by repeat (first | (with_reducible first | exact HB.out | apply below_alloc | apply pw_below_drewN | apply below_drew1 | refine below_set ?_ GE217.out) | exact HB.out)) hb); clear BK217; clear HB; have BK217 := n0_; have HB := n1_; clear n0_ n1_; (try clear hb); (try clear hb2); (try clear hk); (try clear hi)))
  go_loopg [7, 8] k (fun kq v7 v8 w' => ∃ (x7_1 : Int) (x8_1 : Int), v7 = .int .i64 x7_1 ∧ v8 = .int .i64 x8_1 ∧ Aside0 (spec_l7Least.l0 kq a1 a2 x7_1 x8_1 a0_0 a0_1 = some r) ∧ Aside0 (kq ≤ k) ∧ Aside0 (w'.heap[gb217]? = some (.cells #[.int .i64 a0_0, .int .i64 a0_1] 25 (0, 0))) ∧ Aside0 (Below w.heap.size w w'))
  case atStart => exact ⟨(10), (0), (by first | rfl | (simp; done) | (simp [*]; done)), (by first | rfl | (simp; done) | (simp [*]; done)), H', ⟨Nat.le_refl _⟩, ⟨by (with_reducible repeat (first | refine blk_drewN ?_ _ | refine blk_drew ?_ | refine blk_alloc ?_ _)); exact BK217.out⟩, ⟨by repeat (first | (with_reducible first | exact HB.out | apply below_alloc | apply pw_below_drewN | apply below_drew1 | refine below_set ?_ GE217.out) | exact HB.out)⟩⟩
  case round =>
   clear H'; (try clear p2); (try clear c3); (try clear c5); (try clear c5b0); (try clear hcz10_0); (try clear hcz10_1); (try clear hcz7_0); (try clear hcz7_1); (try clear hfz10_0); (try clear hfz10_1); (try clear hfz7_0); (try clear hfz7_1); obtain ⟨x7_1, x8_1, rfl, rfl, HA, HK1, BK217, HB⟩ := hrel
   cases gk with
   | zero => exact absurd HA.out (by simp [spec_l7Least.l0])
   | succ k1 =>
    have H := HA.out
    clear HA
    simp only [spec_l7Least.l0] at H
    by_cases c12 : x8_1 < a0_0
    ·rw [if_pos c12] at H
     have c12b0 : decide (x8_1 < a0_0) = true := decide_eq_true c12
     clear c12
     by_cases c13 : 0 ≤ x8_1
     ·rw [if_pos c13] at H
      have c13b0 := eq_true c13
      have c13b1 : decide (0 ≤ x8_1) = true := decide_eq_true c13
      clear c13
      obtain ⟨ji14, hji14⟩ : ∃ j_ : Int, (shl .i64 1 x8_1) = j_ := ⟨_, rfl⟩
      replace H : (if (Go.bits .and .i64 a1 (ji14)) = 0 then ((spec_l7Least.f k1 a0_0 a0_1 (Go.bits .or .i64 a1 (ji14)) a2).bind fun t219 => ((spec_l7Least.f k1 a0_0 a0_1 (Go.bits .or .i64 a1 (ji14)) (Go.bits .or .i64 a2 (ji14))).bind fun t220 => (spec_l7Least.l0 k1 a1 a2 (mn x7_1 (wrap64 (1 + (mx t219 t220)))) (wrap64 (x8_1 + 1)) a0_0 a0_1))) else (spec_l7Least.l0 k1 a1 a2 x7_1 (wrap64 (x8_1 + 1)) a0_0 a0_1)) = some r := by first | (rw [hji14] at H; exact H) | (simp only [hji14] at H ⊢; exact H)
      have hji14_ : (IntKind.i64.wrap (1 * 2 ^ min x8_1.toNat 64)) = ji14 := hji14
      have hji14z : x8_1 ≤ 64 → (IntKind.i64.wrap (1 * 2 ^ x8_1.toNat)) = ji14 := shl_small hji14
      have hji14u : (IntKind.i64.wrap (2 ^ min x8_1.toNat 64)) = ji14 := by have h_ := hji14_; rw [Int.one_mul] at h_; exact h_
      have hji14v : x8_1 ≤ 64 → (IntKind.i64.wrap (2 ^ x8_1.toNat)) = ji14 := fun hle_ => by have h_ := hji14z hle_; rw [Int.one_mul] at h_; exact h_
      have hji14y : (wrap64 (1 * 2 ^ min x8_1.toNat 64)) = ji14 := (i64_w _).symm.trans hji14_
      have hji14x : x8_1 ≤ 64 → (wrap64 (1 * 2 ^ x8_1.toNat)) = ji14 := fun h_ => (i64_w _).symm.trans (hji14z h_)
      by_cases c15 : (Go.bits .and .i64 a1 (ji14)) = 0
      ·rw [if_pos c15] at H
       have c15b0 : ((Go.bits .and .i64 a1 (ji14)) == 0) = true := beq_iff_eq.mpr c15
       have c15b1 : ((Go.bits .and .i64 a1 (ji14)) != 0) = false := bne_eq_false_iff_eq.mpr c15
       clear c15; replace H := Option.bind_eq_some_iff.mp H; obtain ⟨t219, A160, H⟩ := H; (try dsimp only at H); have A16 := Aside0.mk A160; clear A160; replace H := Option.bind_eq_some_iff.mp H; obtain ⟨t220, A170, H⟩ := H; (try dsimp only at H); have A17 := Aside0.mk A170; clear A170
       obtain ⟨ji18, hji18⟩ : ∃ j_ : Int, (mx t219 t220) = j_ := ⟨_, rfl⟩
       replace H : (spec_l7Least.l0 k1 a1 a2 (mn x7_1 (wrap64 (1 + (ji18)))) (wrap64 (x8_1 + 1)) a0_0 a0_1) = some r := by first | (rw [hji18] at H; exact H) | (simp only [hji18] at H ⊢; exact H)
       (try rw [hji18] at A16)
       (try rw [hji18] at A17)
       have hji18_ : (if t219 < t220 then t220 else t219) = ji18 := hji18
       obtain ⟨ji19, hji19⟩ : ∃ j_ : Int, (mn x7_1 (wrap64 (1 + (ji18)))) = j_ := ⟨_, rfl⟩
       replace H : (spec_l7Least.l0 k1 a1 a2 ji19 (wrap64 (x8_1 + 1)) a0_0 a0_1) = some r := by first | (rw [hji19] at H; exact H) | (simp only [hji19] at H ⊢; exact H)
       (try rw [hji19] at A16)
       (try rw [hji19] at A17)
       have hji19_ : (if (wrap64 (1 + (ji18))) < x7_1 then (wrap64 (1 + (ji18))) else x7_1) = ji19 := hji19
       have H' := Aside0.mk H
       clear H
       have hcz20_0 : wr.cell? ⟨gb217, 0, none⟩ = some (.int .i64 a0_0) := (blk_cell BK217.out 0).trans rfl
       have hcz20_1 : wr.cell? ⟨gb217, 1, none⟩ = some (.int .i64 a0_1) := (blk_cell BK217.out 1).trans rfl
       have hfz20_0 := blk_frozen BK217.out 0
       have hfz20_1 := blk_frozen BK217.out 1
       try go_wp2
       have n0_ := Aside0.mk (blk_drew BK217.out)
       have n1_ := Aside0.mk (below_drew1 HB.out)
       clear BK217; clear HB; have BK217 := n0_; have HB := n1_; clear n0_ n1_
       refine start_ (n := 19) (S := fun w' => w'.cell? ⟨gb217, 0, none⟩ = some (.int .i64 a0_0) ∧ w'.cell? ⟨gb217, 1, none⟩ = some (.int .i64 a0_1)) (ds := []) #[false, false, false, false, false, false, false, false, false, false, false, false, false, false, false, false, false, false, false] (by kernel_rfl) rfl rfl ⟨(blk_cell BK217.out 0).trans rfl, (blk_cell BK217.out 1).trans rfl⟩ (fun hHeld => ?_); refine with_tabW spec_l7Least.tab9 spec_l7Least.bits9 (fun HT_ HW_ => ?_)
       generalize wr.drew = w21 at BK217 HB hHeld ⊢
       refine pure_ (i := 0) (N := some 27) (v := ?_) (a' := ?_) #[true, false, false, false, false, false, false, false, false, false, false, false, false, false, false, false, false, false, false] rfl rfl (any_of HT_.out (by kernel_rfl)) (fun _ _ _ h => h) (Or.inl ⟨by rfl, ?_⟩) ?_ ?_; rotate_left
       ·intro w'; go_simp; with_reducible rfl
       rotate_left
       ·simp only [Act.put, sT_, s0_, s1_, i64_w, i32_w]; rfl
       refine pure_ (i := 2) (N := some 29) (v := ?_) (a' := ?_) #[true, false, true, false, false, false, false, false, false, false, false, false, false, false, false, false, false, false, false] rfl rfl (any_of HT_.out (by kernel_rfl)) (fun _ _ _ h => h) (Or.inl ⟨by rfl, ?_⟩) ?_ ?_; rotate_left
       ·intro w'; go_simp; with_reducible rfl
       rotate_left
       ·simp only [Act.put, sT_, s0_, s1_, i64_w, i32_w]; rfl
       refine pure_ (i := 3) (N := some 30) (v := ?_) (a' := ?_) #[true, false, true, true, false, false, false, false, false, false, false, false, false, false, false, false, false, false, false] rfl rfl (any_of HT_.out (by kernel_rfl)) (fun _ _ _ h => h) (Or.inl ⟨by rfl, ?_⟩) ?_ ?_; rotate_left
       ·intro w'; go_simp; with_reducible rfl
       rotate_left
       ·simp only [Act.put, sT_, s0_, s1_, i64_w, i32_w]; rfl
       refine pure_ (i := 4) (N := some 31) (v := ?_) (a' := ?_) #[true, false, true, true, true, false, false, false, false, false, false, false, false, false, false, false, false, false, false] rfl rfl (any_of HT_.out (by kernel_rfl)) (fun _ _ _ h => h) (Or.inl ⟨by rfl, ?_⟩) ?_ ?_; rotate_left
       ·intro w'; go_simp; with_reducible rfl
       rotate_left
       ·simp only [Act.put, sT_, s0_, s1_, i64_w, i32_w]; rfl
       refine pure_ (i := 5) (N := some 32) (v := ?_) (a' := ?_) #[true, false, true, true, true, true, false, false, false, false, false, false, false, false, false, false, false, false, false] rfl rfl (any_of HT_.out (by kernel_rfl)) (fun _ _ _ h => h) (Or.inl ⟨by rfl, ?_⟩) ?_ ?_; rotate_left
       ·intro w'; go_simp; with_reducible rfl
       rotate_left
       ·simp only [Act.put, sT_, s0_, s1_, i64_w, i32_w]; rfl
       refine pure_ (i := 8) (N := some 35) (v := ?_) (a' := ?_) #[true, false, true, true, true, true, false, false, true, false, false, false, false, false, false, false, false, false, false] rfl rfl (any_of HT_.out (by kernel_rfl)) (fun _ _ _ h => h) (Or.inl ⟨by rfl, ?_⟩) ?_ ?_; rotate_left
       ·intro w'; go_simp; with_reducible rfl
       rotate_left
       ·simp only [Act.put, sT_, s0_, s1_, i64_w, i32_w]; rfl
       refine pure_ (i := 9) (N := some 36) (v := ?_) (a' := ?_) #[true, false, true, true, true, true, false, false, true, true, false, false, false, false, false, false, false, false, false] rfl rfl (any_of HT_.out (by kernel_rfl)) (fun _ _ _ h => h) (Or.inl ⟨by rfl, ?_⟩) ?_ ?_; rotate_left
       ·intro w'; go_simp; with_reducible rfl
       rotate_left
       ·simp only [Act.put, sT_, s0_, s1_, i64_w, i32_w]; rfl
       refine pure_ (i := 10) (N := some 37) (v := ?_) (a' := ?_) #[true, false, true, true, true, true, false, false, true, true, true, false, false, false, false, false, false, false, false] rfl rfl (any_of HT_.out (by kernel_rfl)) (fun _ _ _ h => h) (Or.inl ⟨by rfl, ?_⟩) ?_ ?_; rotate_left
       ·intro w'; go_simp; with_reducible rfl
       rotate_left
       ·simp only [Act.put, sT_, s0_, s1_, i64_w, i32_w]; rfl
       refine pure_ (i := 11) (N := some 38) (v := ?_) (a' := ?_) #[true, false, true, true, true, true, false, false, true, true, true, true, false, false, false, false, false, false, false] rfl rfl (any_of HT_.out (by kernel_rfl)) (fun _ _ _ h => h) (Or.inl ⟨by rfl, ?_⟩) ?_ ?_; rotate_left
       ·intro w'; go_simp; with_reducible rfl
       rotate_left
       ·simp only [Act.put, sT_, s0_, s1_, i64_w, i32_w]; rfl
       refine pure_ (i := 12) (N := some 39) (v := ?_) (a' := ?_) #[true, false, true, true, true, true, false, false, true, true, true, true, true, false, false, false, false, false, false] rfl rfl (any_of HT_.out (by kernel_rfl)) (fun _ _ _ h => h) (Or.inl ⟨by rfl, ?_⟩) ?_ ?_; rotate_left
       ·intro w'; go_simp; with_reducible rfl
       rotate_left
       ·simp only [Act.put, sT_, s0_, s1_, i64_w, i32_w]; rfl
       refine pure_ (i := 13) (N := some 40) (v := ?_) (a' := ?_) #[true, false, true, true, true, true, false, false, true, true, true, true, true, true, false, false, false, false, false] rfl rfl (any_of HT_.out (by kernel_rfl)) (fun _ _ _ h => h) (Or.inl ⟨by rfl, ?_⟩) ?_ ?_; rotate_left
       ·intro w'; go_simp; with_reducible rfl
       rotate_left
       ·simp only [Act.put, sT_, s0_, s1_, i64_w, i32_w]; rfl
       refine take_ (i := 1) (N := some 28) (v := ?_) (a' := ?_) #[true, true, true, true, true, true, false, false, true, true, true, true, true, true, false, false, false, false, false] rfl rfl (take_ofW HT_.out HW_.out (by kernel_rfl)) (fun _ _ _ h => h) (Or.inl ⟨by rfl, ?_⟩) hHeld ?_ ?_
       rotate_left
       ·rintro w' ⟨s0, s1⟩
        go_simp; with_reducible rfl
       rotate_left
       ·simp only [Act.put, sT_, s0_, s1_, i64_w, i32_w]; rfl
       refine take_ (i := 7) (N := some 34) (v := ?_) (a' := ?_) #[true, true, true, true, true, true, false, true, true, true, true, true, true, true, false, false, false, false, false] rfl rfl (take_ofW HT_.out HW_.out (by kernel_rfl)) (fun _ _ _ h => h) (Or.inl ⟨by rfl, ?_⟩) hHeld ?_ ?_
       rotate_left
       ·rintro w' ⟨s0, s1⟩
        go_simp; with_reducible rfl
       rotate_left
       ·simp only [Act.put, sT_, s0_, s1_, i64_w, i32_w]; rfl
       refine one_ (i := 6) (N := some 33) #[true, true, true, true, true, true, true, true, true, true, true, true, true, true, false, false, false, false, false] rfl rfl (one_of HT_.out (by kernel_rfl)) (by decide) (fun K hK => ?_)
       refine goes_ Tryd.func35 (by kernel_rfl) rfl #[.agg #[.int .i64 a0_0, .int .i64 a0_1], .int .i64 (Go.bits .or .i64 a1 (ji14)), .int .i64 a2] (by rfl) rfl rfl (by (try simp only [List.map_toArray, List.map_cons, List.map_nil]); first | done | (simp only [hji14]; rfl) | rfl | (simp only [List.length_drop, List.length_take]; rfl)) ?_
       with_reducible refine (ih k1 (by have := HK1.out; omega) a0_0 a0_1 (Go.bits .or .i64 a1 (ji14)) a2 t219 _ A16.out).mono ?_
       rintro e w22 ⟨rfl, hb⟩
       refine ⟨_, rfl, ?_⟩
       have n0_ := Aside0.mk (blk_below (g := gb217) (o := .cells #[.int .i64 a0_0, .int .i64 a0_1] 25 (0, 0)) (by (with_reducible repeat (first | refine blk_drewN ?_ _ | refine blk_drew ?_ | refine blk_alloc ?_ _)); exact BK217.out) hb)
       have n1_ := Aside0.mk (below_step (by repeat (first | (with_reducible first | exact HB.out | apply below_alloc | apply pw_below_drewN | apply below_drew1 | refine below_set ?_ GE217.out) | exact HB.out)) hb)
       clear BK217; clear HB; have BK217 := n0_; have HB := n1_; clear n0_ n1_; (try clear hb); (try clear hb2); (try clear hk); (try clear hi)
       refine hK.out _ _ ⟨(blk_cell BK217.out 0).trans rfl, (blk_cell BK217.out 1).trans rfl⟩ (fun hHeld => ?_)
       clear hK K
       refine norm_ (a' := ?_) ?_ ?_
       rotate_left
       ·show Act.put _ (some 33) _ = _
        simp only [Act.put, sT_, s0_, s1_, i64_w, i32_w]; rfl
       refine one_ (i := 14) (N := some 41) #[true, true, true, true, true, true, true, true, true, true, true, true, true, true, true, false, false, false, false] rfl rfl (one_of HT_.out (by kernel_rfl)) (by decide) (fun K hK => ?_)
       refine goes_ Tryd.func35 (by kernel_rfl) rfl #[.agg #[.int .i64 a0_0, .int .i64 a0_1], .int .i64 (Go.bits .or .i64 a1 (ji14)), .int .i64 (Go.bits .or .i64 a2 (ji14))] (by rfl) rfl rfl (by (try simp only [List.map_toArray, List.map_cons, List.map_nil]); first | done | (simp only [hji14]; rfl) | rfl | (simp only [List.length_drop, List.length_take]; rfl)) ?_
       with_reducible refine (ih k1 (by have := HK1.out; omega) a0_0 a0_1 (Go.bits .or .i64 a1 (ji14)) (Go.bits .or .i64 a2 (ji14)) t220 _ A17.out).mono ?_
       rintro e w23 ⟨rfl, hb⟩
       refine ⟨_, rfl, ?_⟩
       have n0_ := Aside0.mk (blk_below (g := gb217) (o := .cells #[.int .i64 a0_0, .int .i64 a0_1] 25 (0, 0)) (by (with_reducible repeat (first | refine blk_drewN ?_ _ | refine blk_drew ?_ | refine blk_alloc ?_ _)); exact BK217.out) hb)
       have n1_ := Aside0.mk (below_step (by repeat (first | (with_reducible first | exact HB.out | apply below_alloc | apply pw_below_drewN | apply below_drew1 | refine below_set ?_ GE217.out) | exact HB.out)) hb)
       clear BK217; clear HB; have BK217 := n0_; have HB := n1_; clear n0_ n1_; (try clear hb); (try clear hb2); (try clear hk); (try clear hi)
       refine hK.out _ _ ⟨(blk_cell BK217.out 0).trans rfl, (blk_cell BK217.out 1).trans rfl⟩ (fun hHeld => ?_)
       clear hK K
       refine norm_ (a' := ?_) ?_ ?_
       rotate_left
       ·show Act.put _ (some 41) _ = _
        simp only [Act.put, sT_, s0_, s1_, i64_w, i32_w]; rfl
       refine pure_ (i := 15) (N := some 42) (v := ?_) (a' := ?_) #[true, true, true, true, true, true, true, true, true, true, true, true, true, true, true, true, false, false, false] rfl rfl (any_of HT_.out (by kernel_rfl)) (fun _ _ _ h => h) (Or.inl ⟨by rfl, ?_⟩) ?_ ?_; rotate_left
       ·intro w'; go_simp; with_reducible rfl
       rotate_left
       ·simp only [Act.put, sT_, s0_, s1_, i64_w, i32_w]; rfl
       refine pure_ (i := 16) (N := some 43) (v := ?_) (a' := ?_) #[true, true, true, true, true, true, true, true, true, true, true, true, true, true, true, true, true, false, false] rfl rfl (any_of HT_.out (by kernel_rfl)) (fun _ _ _ h => h) (Or.inl ⟨by rfl, ?_⟩) ?_ ?_; rotate_left
       ·intro w'; go_simp; with_reducible rfl
       rotate_left
       ·simp only [Act.put, sT_, s0_, s1_, i64_w, i32_w]; rfl
       refine pure_ (i := 17) (N := some 44) (v := ?_) (a' := ?_) #[true, true, true, true, true, true, true, true, true, true, true, true, true, true, true, true, true, true, false] rfl rfl (any_of HT_.out (by kernel_rfl)) (fun _ _ _ h => h) (Or.inl ⟨by rfl, ?_⟩) ?_ ?_; rotate_left
       ·intro w'; go_simp; with_reducible rfl
       rotate_left
       ·simp only [Act.put, sT_, s0_, s1_, i64_w, i32_w]; rfl
       refine pure_ (i := 18) (N := some 7) (v := ?_) (a' := ?_) #[true, true, true, true, true, true, true, true, true, true, true, true, true, true, true, true, true, true, true] rfl rfl (any_of HT_.out (by kernel_rfl)) (fun _ _ _ h => h) (Or.inl ⟨by rfl, ?_⟩) ?_ ?_; rotate_left
       ·intro w'; go_simp; with_reducible rfl
       rotate_left
       ·simp only [Act.put, sT_, s0_, s1_, i64_w, i32_w]; rfl
       refine done_ (done_of HT_.out (by kernel_rfl)) ?_
       try go_wp2
       go_roundg k1
       case measure => have := HK1.out; omega
       case rel => exact ⟨(ji19), (wrap64 (x8_1 + 1)), (by first | rfl | (simp; done) | (simp only [← hji19] <;> (first | rfl | simp)) | (simp [*]; done)), (by first | rfl | (simp; done) | (simp [*]; done)), H', ⟨by have := HK1.out; omega⟩, ⟨by (with_reducible repeat (first | refine blk_drewN ?_ _ | refine blk_drew ?_ | refine blk_alloc ?_ _)); exact BK217.out⟩, ⟨by repeat (first | (with_reducible first | exact HB.out | apply below_alloc | apply pw_below_drewN | apply below_drew1 | refine below_set ?_ GE217.out) | exact HB.out)⟩⟩
      ·rw [if_neg c15] at H
       have c15b0 : ((Go.bits .and .i64 a1 (ji14)) == 0) = false := beq_eq_false_iff_ne.mpr c15
       have c15b1 : ((Go.bits .and .i64 a1 (ji14)) != 0) = true := bne_iff_ne.mpr c15
       have H' := Aside0.mk H
       clear H
       have hcz24_0 : wr.cell? ⟨gb217, 0, none⟩ = some (.int .i64 a0_0) := (blk_cell BK217.out 0).trans rfl
       have hcz24_1 : wr.cell? ⟨gb217, 1, none⟩ = some (.int .i64 a0_1) := (blk_cell BK217.out 1).trans rfl
       have hfz24_0 := blk_frozen BK217.out 0
       have hfz24_1 := blk_frozen BK217.out 1
       go_wp2
       go_roundg k1
       case measure => have := HK1.out; omega
       case rel => exact ⟨(x7_1), (wrap64 (x8_1 + 1)), (by first | rfl | (simp; done) | (simp [*]; done)), (by first | rfl | (simp; done) | (simp [*]; done)), H', ⟨by have := HK1.out; omega⟩, ⟨by (with_reducible repeat (first | refine blk_drewN ?_ _ | refine blk_drew ?_ | refine blk_alloc ?_ _)); exact BK217.out⟩, ⟨by repeat (first | (with_reducible first | exact HB.out | apply below_alloc | apply pw_below_drewN | apply below_drew1 | refine below_set ?_ GE217.out) | exact HB.out)⟩⟩
     ·rw [if_neg c13] at H
      exact absurd H (by simp)
    ·rw [if_neg c12] at H
     have c12b0 : decide (x8_1 < a0_0) = false := decide_eq_false c12
     clear c12
     obtain rfl := Option.some.inj H
     have hcz25_0 : wr.cell? ⟨gb217, 0, none⟩ = some (.int .i64 a0_0) := (blk_cell BK217.out 0).trans rfl
     have hcz25_1 : wr.cell? ⟨gb217, 1, none⟩ = some (.int .i64 a0_1) := (blk_cell BK217.out 1).trans rfl
     have hfz25_0 := blk_frozen BK217.out 0
     have hfz25_1 := blk_frozen BK217.out 1
     go_wp2
     go_ret
     exact ⟨by first | rfl | (simp [errW_none, errW_some] <;> rfl) | (simp [*, errW_none, errW_some] <;> rfl), by repeat (first | (with_reducible first | exact HB.out | apply below_alloc | apply pw_below_drewN | apply below_drew1 | refine below_set ?_ GE217.out) | exact HB.out)⟩
/-! ### spec_l7Best: function 32 -/
mutual
def spec_l7Best.l0 : Nat → Int → Int → Int → Int → Int → Int → Option (ByteArray)
 | 0, _, _, _, _, _, _ => none
 | k + 1, x1, x2, x8, x9, x222000, x222001 => if x9 < x222000 then (if 0 ≤ x9 then (if (Go.bits .and .i64 x1 (shl .i64 1 x9)) = 0 then ((spec_l7Least.f k x222000 x222001 (Go.bits .or .i64 x1 (shl .i64 1 x9)) x2).bind fun t224 => ((spec_l7Least.f k x222000 x222001 (Go.bits .or .i64 x1 (shl .i64 1 x9)) (Go.bits .or .i64 x2 (shl .i64 1 x9))).bind fun t225 => (spec_l7Best.j1 k x1 x2 x8 x9 (shl .i64 1 x9) ((wrap64 (1 + (mx t224 t225))) == x8) x222000 x222001))) else (spec_l7Best.j1 k x1 x2 x8 x9 (shl .i64 1 x9) false x222000 x222001)) else (none)) else (some (⟨#[]⟩ : ByteArray))
def spec_l7Best.j1 : Nat → Int → Int → Int → Int → Int → Bool → Int → Int → Option (ByteArray)
 | 0, _, _, _, _, _, _, _, _ => none
 | k + 1, x1, x2, x8, x9, x10, x56, x222000, x222001 => if x56 = true then (if 0 ≤ x9 then (if x9 ≤ (wrap64 (x9 + 1)) then (if (wrap64 (x9 + 1)) ≤ 5 then ((spec_l7Best.f k x222000 x222001 (Go.bits .or .i64 x1 x10) x2).bind fun t226 => (if ((⟨#[97, 98, 99, 100, 101]⟩ : ByteArray).extract (x9 : Int).toNat ((wrap64 (x9 + 1)) : Int).toNat).size + t226.size ≤ 9223372036854775807 then ((spec_l7Best.f k x222000 x222001 (Go.bits .or .i64 x1 x10) (Go.bits .or .i64 x2 x10)).bind fun t227 => (if (((⟨#[97, 98, 99, 100, 101]⟩ : ByteArray).extract (x9 : Int).toNat ((wrap64 (x9 + 1)) : Int).toNat) ++ t226).size + t227.size ≤ 9223372036854775807 then (some ((((⟨#[97, 98, 99, 100, 101]⟩ : ByteArray).extract (x9 : Int).toNat ((wrap64 (x9 + 1)) : Int).toNat) ++ t226) ++ t227)) else (none))) else (none))) else (none)) else (none)) else (none)) else (spec_l7Best.l0 k x1 x2 x8 (wrap64 (x9 + 1)) x222000 x222001)
def spec_l7Best.f : Nat → Int → Int → Int → Int → Option (ByteArray)
 | 0, _, _, _, _ => none
 | k + 1, a0_0, a0_1, a1, a2 => (spec_l3Cube.f k a0_0 a0_1 a1 a2).bind fun t222 => (if t222 < 2 then (if 0 ≤ t222 then (if t222 ≤ (wrap64 (t222 + 1)) then (if (wrap64 (t222 + 1)) ≤ 2 then (some ((⟨#[48, 49]⟩ : ByteArray).extract (t222 : Int).toNat ((wrap64 (t222 + 1)) : Int).toNat)) else (none)) else (none)) else (none)) else ((spec_l7Least.f k a0_0 a0_1 a1 a2).bind fun t223 => (spec_l7Best.l0 k a1 a2 t223 0 a0_0 a0_1)))
end
def spec_l7Best.T9 : Bool × List (List Nat × List Nat) := (true, [([], []), ([], []), ([0, 1], [0, 1]), ([2], [2]), ([3], [3]), ([4], [4]), ([4], [4]), ([4], [4]), ([6, 7, 4], [4, 6, 7]), ([4], [4]), ([5, 8, 9, 4, 4], [4, 5, 8, 9]), ([4], [4]), ([4], [4]), ([4], [4]), ([12, 13, 4], [4, 12, 13]), ([4], [4]), ([4], [4]), ([15, 16, 4], [4, 15, 16]), ([11, 14, 17, 10, 4], [4, 11, 14, 17]), ([10, 18, 4], [4, 10, 18]), ([19, 4], [4, 19]), ([4], [4]), ([20, 21, 4], [4, 20, 21]), ([4, 22], [4, 22])])
def spec_l7Best.B9 : List Nat := [0, 0, 3, 7, 15, 31, 31, 31, 223, 31, 1023, 31, 31, 31, 12319, 31, 31, 98335, 262143, 524287, 1048575, 31, 4194303, 8388607]
theorem spec_l7Best.tab9 : rtab .any (opsOf Tryd.f32 9) = spec_l7Best.T9 := by kernel_rfl
theorem spec_l7Best.bits9 : waitsOk spec_l7Best.T9.2 spec_l7Best.B9 = true := by kernel_rfl
def spec_l7Best.T10 : Bool × List (List Nat × List Nat) := (true, [([], []), ([], []), ([1], [1]), ([0, 2], [0, 2]), ([], []), ([], []), ([], []), ([5, 6], [5, 6]), ([], []), ([4, 7, 8], [4, 7, 8]), ([3, 9], [3, 9]), ([], []), ([], []), ([], []), ([12, 13], [12, 13]), ([], []), ([], []), ([15, 16], [15, 16]), ([11, 14, 17, 9], [11, 14, 17]), ([10, 18], [10, 18]), ([19, 18, 0, 1, 2, 3, 4, 5, 6, 7, 8, 9, 10, 11, 12, 13, 14, 15, 16, 17, 18, 19], [19])])
def spec_l7Best.B10 : List Nat := [0, 0, 2, 7, 0, 0, 0, 96, 0, 496, 1023, 0, 0, 0, 12288, 0, 0, 98304, 261104, 524287, 1048575]
theorem spec_l7Best.tab10 : rtab .any (opsOf Tryd.f32 10) = spec_l7Best.T10 := by kernel_rfl
theorem spec_l7Best.bits10 : waitsOk spec_l7Best.T10.2 spec_l7Best.B10 = true := by kernel_rfl
theorem spec_l7Best.calls (k : Nat) : ∀ (a0_0 : Int) (a0_1 : Int) (a1 : Int) (a2 : Int) (r : ByteArray) (w : World) (h : spec_l7Best.f k a0_0 a0_1 a1 a2 = some r),
  Calls Tryd.prog 32 #[.agg #[.int .i64 a0_0, .int .i64 a0_1], .int .i64 a1, .int .i64 a2] w fun e w' => e = .returned (.string r) ∧ Below w.heap.size w w' := by
 induction k using Nat.strongRecOn with
 | _ k ih =>
 intro a0_0 a0_1 a1 a2 r w h
 cases k with
 | zero => exact absurd h (by simp [spec_l7Best.f])
 | succ k =>
 simp only [spec_l7Best.f] at h
 have hu25 := Tryd.underlying25
 have HB := Aside0.mk (Below.refl w.heap.size w)
 have H : ((spec_l3Cube.f k a0_0 a0_1 a1 a2).bind fun t222 => (if t222 < 2 then (if 0 ≤ t222 then (if t222 ≤ (wrap64 (t222 + 1)) then (if (wrap64 (t222 + 1)) ≤ 2 then (some ((⟨#[48, 49]⟩ : ByteArray).extract (t222 : Int).toNat ((wrap64 (t222 + 1)) : Int).toNat)) else (none)) else (none)) else (none)) else ((spec_l7Least.f k a0_0 a0_1 a1 a2).bind fun t223 => (spec_l7Best.l0 k a1 a2 t223 0 a0_0 a0_1)))) = some r := h
 clear h; replace H := Option.bind_eq_some_iff.mp H; obtain ⟨t222, A40, H⟩ := H; (try dsimp only at H); have A4 := Aside0.mk A40; clear A40
 by_cases c5 : t222 < 2
 ·rw [if_pos c5] at H
  have c5b0 : decide (t222 < 2) = true := decide_eq_true c5
  clear c5
  by_cases c6 : 0 ≤ t222
  ·rw [if_pos c6] at H
   have c6b0 := eq_true c6
   have c6b1 : decide (0 ≤ t222) = true := decide_eq_true c6
   clear c6
   by_cases c7 : t222 ≤ (wrap64 (t222 + 1))
   ·rw [if_pos c7] at H
    have c7b0 := eq_true c7
    have c7b1 : decide (t222 ≤ (wrap64 (t222 + 1))) = true := decide_eq_true c7
    by_cases c8 : (wrap64 (t222 + 1)) ≤ 2
    ·rw [if_pos c8] at H
     have c8b0 := eq_true c8
     have c8b1 : decide ((wrap64 (t222 + 1)) ≤ 2) = true := decide_eq_true c8
     obtain rfl := Option.some.inj H
     go_enter Tryd.func32, Tryd.ntmps32
     go_wp2_with (first | ((with_reducible refine gate_dst (N := 3) rfl ?_); (try (refine gate_guard (by rfl) ?_; dsimp only)); refine box_event ?hg (N := 3) ?hd (cs := #[.int .i64 a0_0, .int .i64 a0_1]) (t := 25) ?hr ?_; (case hd => rfl); (case hg => rfl); (case hr => first | (go_simp; done) | (go_simp; rfl)); intro gb221 hg w9 hbox hb; have n0_ := Aside0.mk (below_step (by repeat (first | (with_reducible first | exact HB.out | apply below_alloc | apply pw_below_drewN | apply below_drew1) | exact HB.out)) hb); have n1_ := Aside0.mk (hbox); have n2_ := Aside0.mk ((by rw [hg]; exact (below_size (by repeat (first | (with_reducible first | exact HB.out | apply below_alloc | apply pw_below_drewN | apply below_drew1) | exact HB.out))) : w.heap.size ≤ gb221)); have n3_ := Aside0.mk ((by rw [hg]; exact (below_size (by repeat (first | (with_reducible first | exact HB.out | apply below_alloc | apply pw_below_drewN | apply below_drew1) | exact HB.out))) : w.heap.size ≤ gb221)); clear HB; have HB := n0_; have BK221 := n1_; have GW221 := n2_; have GE221 := n3_; clear n0_ n1_ n2_ n3_; clear hb hbox hg; have hcz10_0 : w9.cell? ⟨gb221, 0, none⟩ = some (.int .i64 a0_0) := (blk_cell BK221.out 0).trans rfl; have hcz10_1 : w9.cell? ⟨gb221, 1, none⟩ = some (.int .i64 a0_1) := (blk_cell BK221.out 1).trans rfl; have hfz10_0 := blk_frozen BK221.out 0; have hfz10_1 := blk_frozen BK221.out 1) | ((with_reducible refine gate_callee (f := 55) rfl ?_); refine goesL_ (some 14) rfl rfl Tryd.func55 (by kernel_rfl) rfl #[.agg #[.int .i64 a0_0, .int .i64 a0_1], .int .i64 a1, .int .i64 a2] rfl (by first | rfl | (simp only [List.map_toArray, List.map_cons, List.map_nil, List.length_drop, List.length_take]; rfl)) ?_; (with_reducible refine (spec_l3Cube.calls k a0_0 a0_1 a1 a2 t222 _ A4.out).mono ?_); rintro e w11 ⟨rfl, hb⟩; refine ⟨_, rfl, ?_⟩; have n0_ := Aside0.mk (blk_below (g := gb221) (o := .cells #[.int .i64 a0_0, .int .i64 a0_1] 25 (0, 0)) (by (with_reducible repeat (first | refine blk_drewN ?_ _ | refine blk_drew ?_ | refine blk_alloc ?_ _)); exact BK221.out) hb); have n1_ := Aside0.mk (below_step (by repeat (first | (with_reducible first | exact HB.out | apply below_alloc | apply pw_below_drewN | apply below_drew1 | refine below_set ?_ GE221.out) | exact HB.out)) hb); clear BK221; clear HB; have BK221 := n0_; have HB := n1_; clear n0_ n1_; (try clear hb); (try clear hb2); (try clear hk); (try clear hi)))
     go_ret
     exact ⟨by first | rfl | (simp [errW_none, errW_some] <;> rfl) | (simp [*, errW_none, errW_some] <;> rfl), by repeat (first | (with_reducible first | exact HB.out | apply below_alloc | apply pw_below_drewN | apply below_drew1 | refine below_set ?_ GE221.out) | exact HB.out)⟩
    ·rw [if_neg c8] at H
     exact absurd H (by simp)
   ·rw [if_neg c7] at H
    exact absurd H (by simp)
  ·rw [if_neg c6] at H
   exact absurd H (by simp)
 ·rw [if_neg c5] at H
  have c5b0 : decide (t222 < 2) = false := decide_eq_false c5
  clear c5; replace H := Option.bind_eq_some_iff.mp H; obtain ⟨t223, A120, H⟩ := H
  replace H : (spec_l7Best.l0 k a1 a2 t223 0 a0_0 a0_1) = some r := H
  have A12 := Aside0.mk A120; clear A120
  have H' := Aside0.mk H
  clear H
  go_enter Tryd.func32, Tryd.ntmps32
  go_wp2_with (first | ((with_reducible refine gate_dst (N := 3) rfl ?_); (try (refine gate_guard (by rfl) ?_; dsimp only)); refine box_event ?hg (N := 3) ?hd (cs := #[.int .i64 a0_0, .int .i64 a0_1]) (t := 25) ?hr ?_; (case hd => rfl); (case hg => rfl); (case hr => first | (go_simp; done) | (go_simp; rfl)); intro gb221 hg w13 hbox hb; have n0_ := Aside0.mk (below_step (by repeat (first | (with_reducible first | exact HB.out | apply below_alloc | apply pw_below_drewN | apply below_drew1) | exact HB.out)) hb); have n1_ := Aside0.mk (hbox); have n2_ := Aside0.mk ((by rw [hg]; exact (below_size (by repeat (first | (with_reducible first | exact HB.out | apply below_alloc | apply pw_below_drewN | apply below_drew1) | exact HB.out))) : w.heap.size ≤ gb221)); have n3_ := Aside0.mk ((by rw [hg]; exact (below_size (by repeat (first | (with_reducible first | exact HB.out | apply below_alloc | apply pw_below_drewN | apply below_drew1) | exact HB.out))) : w.heap.size ≤ gb221)); clear HB; have HB := n0_; have BK221 := n1_; have GW221 := n2_; have GE221 := n3_; clear n0_ n1_ n2_ n3_; clear hb hbox hg; have hcz14_0 : w13.cell? ⟨gb221, 0, none⟩ = some (.int .i64 a0_0) := (blk_cell BK221.out 0).trans rfl; have hcz14_1 : w13.cell? ⟨gb221, 1, none⟩ = some (.int .i64 a0_1) := (blk_cell BK221.out 1).trans rfl; have hfz14_0 := blk_frozen BK221.out 0; have hfz14_1 := blk_frozen BK221.out 1) | ((with_reducible refine gate_callee (f := 55) rfl ?_); refine goesL_ (some 14) rfl rfl Tryd.func55 (by kernel_rfl) rfl #[.agg #[.int .i64 a0_0, .int .i64 a0_1], .int .i64 a1, .int .i64 a2] rfl (by first | rfl | (simp only [List.map_toArray, List.map_cons, List.map_nil, List.length_drop, List.length_take]; rfl)) ?_; (with_reducible refine (spec_l3Cube.calls k a0_0 a0_1 a1 a2 t222 _ A4.out).mono ?_); rintro e w15 ⟨rfl, hb⟩; refine ⟨_, rfl, ?_⟩; have n0_ := Aside0.mk (blk_below (g := gb221) (o := .cells #[.int .i64 a0_0, .int .i64 a0_1] 25 (0, 0)) (by (with_reducible repeat (first | refine blk_drewN ?_ _ | refine blk_drew ?_ | refine blk_alloc ?_ _)); exact BK221.out) hb); have n1_ := Aside0.mk (below_step (by repeat (first | (with_reducible first | exact HB.out | apply below_alloc | apply pw_below_drewN | apply below_drew1 | refine below_set ?_ GE221.out) | exact HB.out)) hb); clear BK221; clear HB; have BK221 := n0_; have HB := n1_; clear n0_ n1_; (try clear hb); (try clear hb2); (try clear hk); (try clear hi); have hcz16_0 : w15.cell? ⟨gb221, 0, none⟩ = some (.int .i64 a0_0) := (blk_cell BK221.out 0).trans rfl; have hcz16_1 : w15.cell? ⟨gb221, 1, none⟩ = some (.int .i64 a0_1) := (blk_cell BK221.out 1).trans rfl; have hfz16_0 := blk_frozen BK221.out 0; have hfz16_1 := blk_frozen BK221.out 1) | ((with_reducible refine gate_callee (f := 35) rfl ?_); refine goesL_ (some 24) rfl rfl Tryd.func35 (by kernel_rfl) rfl #[.agg #[.int .i64 a0_0, .int .i64 a0_1], .int .i64 a1, .int .i64 a2] rfl (by first | rfl | (simp only [List.map_toArray, List.map_cons, List.map_nil, List.length_drop, List.length_take]; rfl)) ?_; (with_reducible refine (spec_l7Least.calls k a0_0 a0_1 a1 a2 t223 _ A12.out).mono ?_); rintro e w17 ⟨rfl, hb⟩; refine ⟨_, rfl, ?_⟩; have n0_ := Aside0.mk (blk_below (g := gb221) (o := .cells #[.int .i64 a0_0, .int .i64 a0_1] 25 (0, 0)) (by (with_reducible repeat (first | refine blk_drewN ?_ _ | refine blk_drew ?_ | refine blk_alloc ?_ _)); exact BK221.out) hb); have n1_ := Aside0.mk (below_step (by repeat (first | (with_reducible first | exact HB.out | apply below_alloc | apply pw_below_drewN | apply below_drew1 | refine below_set ?_ GE221.out) | exact HB.out)) hb); clear BK221; clear HB; have BK221 := n0_; have HB := n1_; clear n0_ n1_; (try clear hb); (try clear hb2); (try clear hk); (try clear hi)))
  go_loopg [9] k (fun kq v9 w' => ∃ (x9_1 : Int), v9 = .int .i64 x9_1 ∧ Aside0 (spec_l7Best.l0 kq a1 a2 t223 x9_1 a0_0 a0_1 = some r) ∧ Aside0 (kq ≤ k) ∧ Aside0 (w'.heap[gb221]? = some (.cells #[.int .i64 a0_0, .int .i64 a0_1] 25 (0, 0))) ∧ Aside0 (Below w.heap.size w w'))
  case atStart => exact ⟨(0), (by first | rfl | (simp; done) | (simp [*]; done)), H', ⟨Nat.le_refl _⟩, ⟨by (with_reducible repeat (first | refine blk_drewN ?_ _ | refine blk_drew ?_ | refine blk_alloc ?_ _)); exact BK221.out⟩, ⟨by repeat (first | (with_reducible first | exact HB.out | apply below_alloc | apply pw_below_drewN | apply below_drew1 | refine below_set ?_ GE221.out) | exact HB.out)⟩⟩
  case round =>
   clear H'; (try clear p2); (try clear c3); (try clear c5); (try clear c5b0); (try clear c6); (try clear c6b0); (try clear c6b1); (try clear p6); (try clear c7); (try clear c7b0); (try clear c7b1); (try clear c8); (try clear c8b0); (try clear c8b1); (try clear hcz10_0); (try clear hcz10_1); (try clear hcz14_0); (try clear hcz14_1); (try clear hcz16_0); (try clear hcz16_1); (try clear hfz10_0); (try clear hfz10_1); (try clear hfz14_0); (try clear hfz14_1); (try clear hfz16_0); (try clear hfz16_1); obtain ⟨x9_1, rfl, HA, HK1, BK221, HB⟩ := hrel
   cases gk with
   | zero => exact absurd HA.out (by simp [spec_l7Best.l0])
   | succ k1 =>
    have H := HA.out
    clear HA
    simp only [spec_l7Best.l0] at H
    by_cases c18 : x9_1 < a0_0
    ·rw [if_pos c18] at H
     have c18b0 : decide (x9_1 < a0_0) = true := decide_eq_true c18
     clear c18
     by_cases c19 : 0 ≤ x9_1
     ·rw [if_pos c19] at H
      have c19b0 := eq_true c19
      have c19b1 : decide (0 ≤ x9_1) = true := decide_eq_true c19
      clear c19
      obtain ⟨ji20, hji20⟩ : ∃ j_ : Int, (shl .i64 1 x9_1) = j_ := ⟨_, rfl⟩
      replace H : (if (Go.bits .and .i64 a1 (ji20)) = 0 then ((spec_l7Least.f k1 a0_0 a0_1 (Go.bits .or .i64 a1 (ji20)) a2).bind fun t224 => ((spec_l7Least.f k1 a0_0 a0_1 (Go.bits .or .i64 a1 (ji20)) (Go.bits .or .i64 a2 (ji20))).bind fun t225 => (spec_l7Best.j1 k1 a1 a2 t223 x9_1 ji20 ((wrap64 (1 + (mx t224 t225))) == t223) a0_0 a0_1))) else (spec_l7Best.j1 k1 a1 a2 t223 x9_1 ji20 false a0_0 a0_1)) = some r := by first | (rw [hji20] at H; exact H) | (simp only [hji20] at H ⊢; exact H)
      have hji20_ : (IntKind.i64.wrap (1 * 2 ^ min x9_1.toNat 64)) = ji20 := hji20
      have hji20z : x9_1 ≤ 64 → (IntKind.i64.wrap (1 * 2 ^ x9_1.toNat)) = ji20 := shl_small hji20
      have hji20u : (IntKind.i64.wrap (2 ^ min x9_1.toNat 64)) = ji20 := by have h_ := hji20_; rw [Int.one_mul] at h_; exact h_
      have hji20v : x9_1 ≤ 64 → (IntKind.i64.wrap (2 ^ x9_1.toNat)) = ji20 := fun hle_ => by have h_ := hji20z hle_; rw [Int.one_mul] at h_; exact h_
      have hji20y : (wrap64 (1 * 2 ^ min x9_1.toNat 64)) = ji20 := (i64_w _).symm.trans hji20_
      have hji20x : x9_1 ≤ 64 → (wrap64 (1 * 2 ^ x9_1.toNat)) = ji20 := fun h_ => (i64_w _).symm.trans (hji20z h_)
      have HC21 := Aside0.mk H; clear H
      have hcz22_0 : wr.cell? ⟨gb221, 0, none⟩ = some (.int .i64 a0_0) := (blk_cell BK221.out 0).trans rfl
      have hcz22_1 : wr.cell? ⟨gb221, 1, none⟩ = some (.int .i64 a0_1) := (blk_cell BK221.out 1).trans rfl
      have hfz22_0 := blk_frozen BK221.out 0
      have hfz22_1 := blk_frozen BK221.out 1
      go_upto_region 9 with (fail)
      go_cut [56] (fun v56 wc => ∃ (kq : Nat) (x56_20 : Bool), v56 = .bool x56_20 ∧ Aside0 (spec_l7Best.j1 kq a1 a2 t223 x9_1 ji20 x56_20 a0_0 a0_1 = some r) ∧ Aside0 (kq ≤ k1) ∧ Aside0 (wc.heap[gb221]? = some (.cells #[.int .i64 a0_0, .int .i64 a0_1] 25 (0, 0))) ∧ Aside0 (Below w.heap.size w wc))
      case first =>
       have H := HC21.out
       clear HC21
       by_cases c23 : (Go.bits .and .i64 a1 (ji20)) = 0
       ·rw [if_pos c23] at H
        have c23b0 : ((Go.bits .and .i64 a1 (ji20)) == 0) = true := beq_iff_eq.mpr c23
        have c23b1 : ((Go.bits .and .i64 a1 (ji20)) != 0) = false := bne_eq_false_iff_eq.mpr c23
        clear c23
        (first | rw [c23b0] | (simp only [i64_w, i32_w]; rw [c23b0]) | skip)
        replace H := Option.bind_eq_some_iff.mp H; obtain ⟨t224, A240, H⟩ := H; (try dsimp only at H); have A24 := Aside0.mk A240; clear A240; replace H := Option.bind_eq_some_iff.mp H; obtain ⟨t225, A250, H⟩ := H
        replace H : (spec_l7Best.j1 k1 a1 a2 t223 x9_1 ji20 ((wrap64 (1 + (mx t224 t225))) == t223) a0_0 a0_1) = some r := H
        have A25 := Aside0.mk A250; clear A250
        obtain ⟨ji26, hji26⟩ : ∃ j_ : Int, (mx t224 t225) = j_ := ⟨_, rfl⟩
        replace H : (spec_l7Best.j1 k1 a1 a2 t223 x9_1 ji20 ((wrap64 (1 + (ji26))) == t223) a0_0 a0_1) = some r := by first | (rw [hji26] at H; exact H) | (simp only [hji26] at H ⊢; exact H)
        (try rw [hji26] at A24)
        (try rw [hji26] at A25)
        have hji26_ : (if t224 < t225 then t225 else t224) = ji26 := hji26
        have H' := Aside0.mk H
        clear H
        try go_wp2
        have n0_ := Aside0.mk (blk_drew BK221.out)
        have n1_ := Aside0.mk (below_drew1 HB.out)
        clear BK221; clear HB; have BK221 := n0_; have HB := n1_; clear n0_ n1_
        refine start_ (n := 24) (S := fun w' => w'.cell? ⟨gb221, 0, none⟩ = some (.int .i64 a0_0) ∧ w'.cell? ⟨gb221, 1, none⟩ = some (.int .i64 a0_1)) (ds := []) #[false, false, false, false, false, false, false, false, false, false, false, false, false, false, false, false, false, false, false, false, false, false, false, false] (by kernel_rfl) rfl rfl ⟨(blk_cell BK221.out 0).trans rfl, (blk_cell BK221.out 1).trans rfl⟩ (fun hHeld => ?_); refine with_tabW spec_l7Best.tab9 spec_l7Best.bits9 (fun HT_ HW_ => ?_)
        generalize wr.drew = w27 at BK221 HB hHeld ⊢
        refine pure_ (i := 0) (N := some 33) (v := ?_) (a' := ?_) #[true, false, false, false, false, false, false, false, false, false, false, false, false, false, false, false, false, false, false, false, false, false, false, false] rfl rfl (any_of HT_.out (by kernel_rfl)) (fun _ _ _ h => h) (Or.inl ⟨by rfl, ?_⟩) ?_ ?_; rotate_left
        ·intro w'; go_simp; with_reducible rfl
        rotate_left
        ·simp only [Act.put, sT_, s0_, s1_, i64_w, i32_w]; rfl
        refine pure_ (i := 1) (N := some 34) (v := ?_) (a' := ?_) #[true, true, false, false, false, false, false, false, false, false, false, false, false, false, false, false, false, false, false, false, false, false, false, false] rfl rfl (any_of HT_.out (by kernel_rfl)) (fun _ _ _ h => h) (Or.inl ⟨by rfl, ?_⟩) ?_ ?_; rotate_left
        ·intro w'; go_simp; with_reducible rfl
        rotate_left
        ·simp only [Act.put, sT_, s0_, s1_, i64_w, i32_w]; rfl
        refine pure_ (i := 2) (N := some 35) (v := ?_) (a' := ?_) #[true, true, true, false, false, false, false, false, false, false, false, false, false, false, false, false, false, false, false, false, false, false, false, false] rfl rfl (any_of HT_.out (by kernel_rfl)) (fun _ _ _ h => h) (Or.inl ⟨by rfl, ?_⟩) ?_ ?_; rotate_left
        ·intro w'; go_simp; with_reducible rfl
        rotate_left
        ·simp only [Act.put, sT_, s0_, s1_, i64_w, i32_w]; rfl
        refine pure_ (i := 3) (N := some 36) (v := ?_) (a' := ?_) #[true, true, true, true, false, false, false, false, false, false, false, false, false, false, false, false, false, false, false, false, false, false, false, false] rfl rfl (any_of HT_.out (by kernel_rfl)) (fun _ _ _ h => h) (Or.inl ⟨by rfl, ?_⟩) ?_ ?_; rotate_left
        ·intro w'; go_simp; with_reducible rfl
        rotate_left
        ·simp only [Act.put, sT_, s0_, s1_, i64_w, i32_w]; rfl
        refine pure_ (i := 4) (N := some 37) (v := ?_) (a' := ?_) #[true, true, true, true, true, false, false, false, false, false, false, false, false, false, false, false, false, false, false, false, false, false, false, false] rfl rfl (any_of HT_.out (by kernel_rfl)) (fun _ _ _ h => h) (Or.inl ⟨by rfl, ?_⟩) ?_ ?_; rotate_left
        ·intro w'; go_simp; with_reducible rfl
        rotate_left
        ·simp only [Act.put, sT_, s0_, s1_, i64_w, i32_w]; rfl
        refine pure_ (i := 6) (N := some 39) (v := ?_) (a' := ?_) #[true, true, true, true, true, false, true, false, false, false, false, false, false, false, false, false, false, false, false, false, false, false, false, false] rfl rfl (any_of HT_.out (by kernel_rfl)) (fun _ _ _ h => h) (Or.inl ⟨by rfl, ?_⟩) ?_ ?_; rotate_left
        ·intro w'; go_simp; with_reducible rfl
        rotate_left
        ·simp only [Act.put, sT_, s0_, s1_, i64_w, i32_w]; rfl
        refine pure_ (i := 7) (N := some 40) (v := ?_) (a' := ?_) #[true, true, true, true, true, false, true, true, false, false, false, false, false, false, false, false, false, false, false, false, false, false, false, false] rfl rfl (any_of HT_.out (by kernel_rfl)) (fun _ _ _ h => h) (Or.inl ⟨by rfl, ?_⟩) ?_ ?_; rotate_left
        ·intro w'; go_simp; with_reducible rfl
        rotate_left
        ·simp only [Act.put, sT_, s0_, s1_, i64_w, i32_w]; rfl
        refine pure_ (i := 8) (N := some 41) (v := ?_) (a' := ?_) #[true, true, true, true, true, false, true, true, true, false, false, false, false, false, false, false, false, false, false, false, false, false, false, false] rfl rfl (any_of HT_.out (by kernel_rfl)) (fun _ _ _ h => h) (Or.inl ⟨by rfl, ?_⟩) ?_ ?_; rotate_left
        ·intro w'; go_simp; with_reducible rfl
        rotate_left
        ·simp only [Act.put, sT_, s0_, s1_, i64_w, i32_w]; rfl
        refine pure_ (i := 9) (N := some 42) (v := ?_) (a' := ?_) #[true, true, true, true, true, false, true, true, true, true, false, false, false, false, false, false, false, false, false, false, false, false, false, false] rfl rfl (any_of HT_.out (by kernel_rfl)) (fun _ _ _ h => h) (Or.inl ⟨by rfl, ?_⟩) ?_ ?_; rotate_left
        ·intro w'; go_simp; with_reducible rfl
        rotate_left
        ·simp only [Act.put, sT_, s0_, s1_, i64_w, i32_w]; rfl
        refine pure_ (i := 12) (N := some 45) (v := ?_) (a' := ?_) #[true, true, true, true, true, false, true, true, true, true, false, false, true, false, false, false, false, false, false, false, false, false, false, false] rfl rfl (any_of HT_.out (by kernel_rfl)) (fun _ _ _ h => h) (Or.inl ⟨by rfl, ?_⟩) ?_ ?_; rotate_left
        ·intro w'; go_simp; with_reducible rfl
        rotate_left
        ·simp only [Act.put, sT_, s0_, s1_, i64_w, i32_w]; rfl
        refine pure_ (i := 13) (N := some 46) (v := ?_) (a' := ?_) #[true, true, true, true, true, false, true, true, true, true, false, false, true, true, false, false, false, false, false, false, false, false, false, false] rfl rfl (any_of HT_.out (by kernel_rfl)) (fun _ _ _ h => h) (Or.inl ⟨by rfl, ?_⟩) ?_ ?_; rotate_left
        ·intro w'; go_simp; with_reducible rfl
        rotate_left
        ·simp only [Act.put, sT_, s0_, s1_, i64_w, i32_w]; rfl
        refine pure_ (i := 14) (N := some 47) (v := ?_) (a' := ?_) #[true, true, true, true, true, false, true, true, true, true, false, false, true, true, true, false, false, false, false, false, false, false, false, false] rfl rfl (any_of HT_.out (by kernel_rfl)) (fun _ _ _ h => h) (Or.inl ⟨by rfl, ?_⟩) ?_ ?_; rotate_left
        ·intro w'; go_simp; with_reducible rfl
        rotate_left
        ·simp only [Act.put, sT_, s0_, s1_, i64_w, i32_w]; rfl
        refine pure_ (i := 15) (N := some 48) (v := ?_) (a' := ?_) #[true, true, true, true, true, false, true, true, true, true, false, false, true, true, true, true, false, false, false, false, false, false, false, false] rfl rfl (any_of HT_.out (by kernel_rfl)) (fun _ _ _ h => h) (Or.inl ⟨by rfl, ?_⟩) ?_ ?_; rotate_left
        ·intro w'; go_simp; with_reducible rfl
        rotate_left
        ·simp only [Act.put, sT_, s0_, s1_, i64_w, i32_w]; rfl
        refine pure_ (i := 16) (N := some 49) (v := ?_) (a' := ?_) #[true, true, true, true, true, false, true, true, true, true, false, false, true, true, true, true, true, false, false, false, false, false, false, false] rfl rfl (any_of HT_.out (by kernel_rfl)) (fun _ _ _ h => h) (Or.inl ⟨by rfl, ?_⟩) ?_ ?_; rotate_left
        ·intro w'; go_simp; with_reducible rfl
        rotate_left
        ·simp only [Act.put, sT_, s0_, s1_, i64_w, i32_w]; rfl
        refine pure_ (i := 17) (N := some 50) (v := ?_) (a' := ?_) #[true, true, true, true, true, false, true, true, true, true, false, false, true, true, true, true, true, true, false, false, false, false, false, false] rfl rfl (any_of HT_.out (by kernel_rfl)) (fun _ _ _ h => h) (Or.inl ⟨by rfl, ?_⟩) ?_ ?_; rotate_left
        ·intro w'; go_simp; with_reducible rfl
        rotate_left
        ·simp only [Act.put, sT_, s0_, s1_, i64_w, i32_w]; rfl
        refine pure_ (i := 21) (N := some 54) (v := ?_) (a' := ?_) #[true, true, true, true, true, false, true, true, true, true, false, false, true, true, true, true, true, true, false, false, false, true, false, false] rfl rfl (any_of HT_.out (by kernel_rfl)) (fun _ _ _ h => h) (Or.inl ⟨by rfl, ?_⟩) ?_ ?_; rotate_left
        ·intro w'; go_simp; with_reducible rfl
        rotate_left
        ·simp only [Act.put, sT_, s0_, s1_, i64_w, i32_w]; rfl
        refine take_ (i := 5) (N := some 38) (v := ?_) (a' := ?_) #[true, true, true, true, true, true, true, true, true, true, false, false, true, true, true, true, true, true, false, false, false, true, false, false] rfl rfl (take_ofW HT_.out HW_.out (by kernel_rfl)) (fun _ _ _ h => h) (Or.inl ⟨by rfl, ?_⟩) hHeld ?_ ?_
        rotate_left
        ·rintro w' ⟨s0, s1⟩
         go_simp; with_reducible rfl
        rotate_left
        ·simp only [Act.put, sT_, s0_, s1_, i64_w, i32_w]; rfl
        refine take_ (i := 11) (N := some 44) (v := ?_) (a' := ?_) #[true, true, true, true, true, true, true, true, true, true, false, true, true, true, true, true, true, true, false, false, false, true, false, false] rfl rfl (take_ofW HT_.out HW_.out (by kernel_rfl)) (fun _ _ _ h => h) (Or.inl ⟨by rfl, ?_⟩) hHeld ?_ ?_
        rotate_left
        ·rintro w' ⟨s0, s1⟩
         go_simp; with_reducible rfl
        rotate_left
        ·simp only [Act.put, sT_, s0_, s1_, i64_w, i32_w]; rfl
        refine one_ (i := 10) (N := some 43) #[true, true, true, true, true, true, true, true, true, true, true, true, true, true, true, true, true, true, false, false, false, true, false, false] rfl rfl (one_of HT_.out (by kernel_rfl)) (by decide) (fun K hK => ?_)
        refine goes_ Tryd.func35 (by kernel_rfl) rfl #[.agg #[.int .i64 a0_0, .int .i64 a0_1], .int .i64 (Go.bits .or .i64 a1 (ji20)), .int .i64 a2] (by rfl) rfl rfl (by (try simp only [List.map_toArray, List.map_cons, List.map_nil]); first | done | (simp only [hji20]; rfl) | rfl | (simp only [List.length_drop, List.length_take]; rfl)) ?_
        with_reducible refine (spec_l7Least.calls k1 a0_0 a0_1 (Go.bits .or .i64 a1 (ji20)) a2 t224 _ A24.out).mono ?_
        rintro e w28 ⟨rfl, hb⟩
        refine ⟨_, rfl, ?_⟩
        have n0_ := Aside0.mk (blk_below (g := gb221) (o := .cells #[.int .i64 a0_0, .int .i64 a0_1] 25 (0, 0)) (by (with_reducible repeat (first | refine blk_drewN ?_ _ | refine blk_drew ?_ | refine blk_alloc ?_ _)); exact BK221.out) hb)
        have n1_ := Aside0.mk (below_step (by repeat (first | (with_reducible first | exact HB.out | apply below_alloc | apply pw_below_drewN | apply below_drew1 | refine below_set ?_ GE221.out) | exact HB.out)) hb)
        clear BK221; clear HB; have BK221 := n0_; have HB := n1_; clear n0_ n1_; (try clear hb); (try clear hb2); (try clear hk); (try clear hi)
        refine hK.out _ _ ⟨(blk_cell BK221.out 0).trans rfl, (blk_cell BK221.out 1).trans rfl⟩ (fun hHeld => ?_)
        clear hK K
        refine norm_ (a' := ?_) ?_ ?_
        rotate_left
        ·show Act.put _ (some 43) _ = _
         simp only [Act.put, sT_, s0_, s1_, i64_w, i32_w]; rfl
        refine one_ (i := 18) (N := some 51) #[true, true, true, true, true, true, true, true, true, true, true, true, true, true, true, true, true, true, true, false, false, true, false, false] rfl rfl (one_of HT_.out (by kernel_rfl)) (by decide) (fun K hK => ?_)
        refine goes_ Tryd.func35 (by kernel_rfl) rfl #[.agg #[.int .i64 a0_0, .int .i64 a0_1], .int .i64 (Go.bits .or .i64 a1 (ji20)), .int .i64 (Go.bits .or .i64 a2 (ji20))] (by rfl) rfl rfl (by (try simp only [List.map_toArray, List.map_cons, List.map_nil]); first | done | (simp only [hji20]; rfl) | rfl | (simp only [List.length_drop, List.length_take]; rfl)) ?_
        with_reducible refine (spec_l7Least.calls k1 a0_0 a0_1 (Go.bits .or .i64 a1 (ji20)) (Go.bits .or .i64 a2 (ji20)) t225 _ A25.out).mono ?_
        rintro e w29 ⟨rfl, hb⟩
        refine ⟨_, rfl, ?_⟩
        have n0_ := Aside0.mk (blk_below (g := gb221) (o := .cells #[.int .i64 a0_0, .int .i64 a0_1] 25 (0, 0)) (by (with_reducible repeat (first | refine blk_drewN ?_ _ | refine blk_drew ?_ | refine blk_alloc ?_ _)); exact BK221.out) hb)
        have n1_ := Aside0.mk (below_step (by repeat (first | (with_reducible first | exact HB.out | apply below_alloc | apply pw_below_drewN | apply below_drew1 | refine below_set ?_ GE221.out) | exact HB.out)) hb)
        clear BK221; clear HB; have BK221 := n0_; have HB := n1_; clear n0_ n1_; (try clear hb); (try clear hb2); (try clear hk); (try clear hi)
        refine hK.out _ _ ⟨(blk_cell BK221.out 0).trans rfl, (blk_cell BK221.out 1).trans rfl⟩ (fun hHeld => ?_)
        clear hK K
        refine norm_ (a' := ?_) ?_ ?_
        rotate_left
        ·show Act.put _ (some 51) _ = _
         simp only [Act.put, sT_, s0_, s1_, i64_w, i32_w]; rfl
        refine pure_ (i := 19) (N := some 52) (v := ?_) (a' := ?_) #[true, true, true, true, true, true, true, true, true, true, true, true, true, true, true, true, true, true, true, true, false, true, false, false] rfl rfl (any_of HT_.out (by kernel_rfl)) (fun _ _ _ h => h) (Or.inl ⟨by rfl, ?_⟩) ?_ ?_; rotate_left
        ·intro w'; go_simp; with_reducible rfl
        rotate_left
        ·simp only [Act.put, sT_, s0_, s1_, i64_w, i32_w]; rfl
        refine pure_ (i := 20) (N := some 53) (v := ?_) (a' := ?_) #[true, true, true, true, true, true, true, true, true, true, true, true, true, true, true, true, true, true, true, true, true, true, false, false] rfl rfl (any_of HT_.out (by kernel_rfl)) (fun _ _ _ h => h) (Or.inl ⟨by rfl, ?_⟩) ?_ ?_; rotate_left
        ·intro w'; go_simp; with_reducible rfl
        rotate_left
        ·simp only [Act.put, sT_, s0_, s1_, i64_w, i32_w]; rfl
        refine pure_ (i := 22) (N := some 55) (v := ?_) (a' := ?_) #[true, true, true, true, true, true, true, true, true, true, true, true, true, true, true, true, true, true, true, true, true, true, true, false] rfl rfl (any_of HT_.out (by kernel_rfl)) (fun _ _ _ h => h) (Or.inl ⟨by rfl, ?_⟩) ?_ ?_; rotate_left
        ·intro w'; go_simp; with_reducible rfl
        rotate_left
        ·simp only [Act.put, sT_, s0_, s1_, i64_w, i32_w]; rfl
        refine pure_ (i := 23) (N := some 56) (v := ?_) (a' := ?_) #[true, true, true, true, true, true, true, true, true, true, true, true, true, true, true, true, true, true, true, true, true, true, true, true] rfl rfl (any_of HT_.out (by kernel_rfl)) (fun _ _ _ h => h) (Or.inl ⟨by rfl, ?_⟩) ?_ ?_; rotate_left
        ·intro w'; go_simp; with_reducible rfl
        rotate_left
        ·simp only [Act.put, sT_, s0_, s1_, i64_w, i32_w]; rfl
        refine done_ (done_of HT_.out (by kernel_rfl)) ?_
        try go_wp2
        go_meet
        case rel => exact ⟨_, (((wrap64 (1 + (ji26))) == t223)), (by first | rfl | (simp; done) | (simp only [← hji26] <;> (first | rfl | simp)) | (simp [*]; done)), H', ⟨by have := HK1.out; first | omega | exact Nat.le_refl _⟩, ⟨by (with_reducible repeat (first | refine blk_drewN ?_ _ | refine blk_drew ?_ | refine blk_alloc ?_ _)); exact BK221.out⟩, ⟨by repeat (first | (with_reducible first | exact HB.out | apply below_alloc | apply pw_below_drewN | apply below_drew1 | refine below_set ?_ GE221.out) | exact HB.out)⟩⟩
       ·rw [if_neg c23] at H
        have c23b0 : ((Go.bits .and .i64 a1 (ji20)) == 0) = false := beq_eq_false_iff_ne.mpr c23
        have c23b1 : ((Go.bits .and .i64 a1 (ji20)) != 0) = true := bne_iff_ne.mpr c23
        (first | rw [c23b0] | (simp only [i64_w, i32_w]; rw [c23b0]) | skip)
        have H' := Aside0.mk H
        clear H
        try go_wp2
        have n0_ := Aside0.mk (blk_drew BK221.out)
        have n1_ := Aside0.mk (below_drew1 HB.out)
        clear BK221; clear HB; have BK221 := n0_; have HB := n1_; clear n0_ n1_
        refine start_ (n := 24) (S := fun w' => True) (ds := []) #[false, false, false, false, false, false, false, false, false, false, false, false, false, false, false, false, false, false, false, false, false, false, false, false] (by kernel_rfl) rfl rfl trivial (fun hHeld => ?_); refine with_tabW spec_l7Best.tab9 spec_l7Best.bits9 (fun HT_ HW_ => ?_)
        generalize wr.drew = w30 at BK221 HB hHeld ⊢
        refine pure_ (i := 0) (N := some 33) (v := ?_) (a' := ?_) #[true, false, false, false, false, false, false, false, false, false, false, false, false, false, false, false, false, false, false, false, false, false, false, false] rfl rfl (any_of HT_.out (by kernel_rfl)) (fun _ _ _ h => h) (Or.inl ⟨by rfl, ?_⟩) ?_ ?_; rotate_left
        ·intro w'; go_simp; with_reducible rfl
        rotate_left
        ·simp only [Act.put, sT_, s0_, s1_, i64_w, i32_w]; rfl
        refine pure_ (i := 1) (N := some 34) (v := ?_) (a' := ?_) #[true, true, false, false, false, false, false, false, false, false, false, false, false, false, false, false, false, false, false, false, false, false, false, false] rfl rfl (any_of HT_.out (by kernel_rfl)) (fun _ _ _ h => h) (Or.inl ⟨by rfl, ?_⟩) ?_ ?_; rotate_left
        ·intro w'; go_simp; with_reducible rfl
        rotate_left
        ·simp only [Act.put, sT_, s0_, s1_, i64_w, i32_w]; rfl
        refine pure_ (i := 2) (N := some 35) (v := ?_) (a' := ?_) #[true, true, true, false, false, false, false, false, false, false, false, false, false, false, false, false, false, false, false, false, false, false, false, false] rfl rfl (any_of HT_.out (by kernel_rfl)) (fun _ _ _ h => h) (Or.inl ⟨by rfl, ?_⟩) ?_ ?_; rotate_left
        ·intro w'; go_simp; with_reducible rfl
        rotate_left
        ·simp only [Act.put, sT_, s0_, s1_, i64_w, i32_w]; rfl
        refine pure_ (i := 3) (N := some 36) (v := ?_) (a' := ?_) #[true, true, true, true, false, false, false, false, false, false, false, false, false, false, false, false, false, false, false, false, false, false, false, false] rfl rfl (any_of HT_.out (by kernel_rfl)) (fun _ _ _ h => h) (Or.inl ⟨by rfl, ?_⟩) ?_ ?_; rotate_left
        ·intro w'; go_simp; with_reducible rfl
        rotate_left
        ·simp only [Act.put, sT_, s0_, s1_, i64_w, i32_w]; rfl
        refine pure_ (i := 4) (N := some 37) (v := ?_) (a' := ?_) #[true, true, true, true, true, false, false, false, false, false, false, false, false, false, false, false, false, false, false, false, false, false, false, false] rfl rfl (any_of HT_.out (by kernel_rfl)) (fun _ _ _ h => h) (Or.inl ⟨by rfl, ?_⟩) ?_ ?_; rotate_left
        ·intro w'; go_simp; with_reducible rfl
        rotate_left
        ·simp only [Act.put, sT_, s0_, s1_, i64_w, i32_w]; rfl
        refine pure_ (i := 5) (N := some 38) (v := undef) (a' := ?_) #[true, true, true, true, true, true, false, false, false, false, false, false, false, false, false, false, false, false, false, false, false, false, false, false] rfl rfl (any_of HT_.out (by kernel_rfl)) (fun _ _ _ h => h) (Or.inr ⟨by rfl, rfl⟩) ?_ ?_; rotate_left
        ·simp only [Act.put, sT_, s0_, s1_, i64_w, i32_w]; rfl
        refine pure_ (i := 6) (N := some 39) (v := undef) (a' := ?_) #[true, true, true, true, true, true, true, false, false, false, false, false, false, false, false, false, false, false, false, false, false, false, false, false] rfl rfl (any_of HT_.out (by kernel_rfl)) (fun _ _ _ h => h) (Or.inr ⟨by rfl, rfl⟩) ?_ ?_; rotate_left
        ·simp only [Act.put, sT_, s0_, s1_, i64_w, i32_w]; rfl
        refine pure_ (i := 7) (N := some 40) (v := undef) (a' := ?_) #[true, true, true, true, true, true, true, true, false, false, false, false, false, false, false, false, false, false, false, false, false, false, false, false] rfl rfl (any_of HT_.out (by kernel_rfl)) (fun _ _ _ h => h) (Or.inr ⟨by rfl, rfl⟩) ?_ ?_; rotate_left
        ·simp only [Act.put, sT_, s0_, s1_, i64_w, i32_w]; rfl
        refine pure_ (i := 8) (N := some 41) (v := undef) (a' := ?_) #[true, true, true, true, true, true, true, true, true, false, false, false, false, false, false, false, false, false, false, false, false, false, false, false] rfl rfl (any_of HT_.out (by kernel_rfl)) (fun _ _ _ h => h) (Or.inr ⟨by rfl, rfl⟩) ?_ ?_; rotate_left
        ·simp only [Act.put, sT_, s0_, s1_, i64_w, i32_w]; rfl
        refine pure_ (i := 9) (N := some 42) (v := undef) (a' := ?_) #[true, true, true, true, true, true, true, true, true, true, false, false, false, false, false, false, false, false, false, false, false, false, false, false] rfl rfl (any_of HT_.out (by kernel_rfl)) (fun _ _ _ h => h) (Or.inr ⟨by rfl, rfl⟩) ?_ ?_; rotate_left
        ·simp only [Act.put, sT_, s0_, s1_, i64_w, i32_w]; rfl
        refine pure_ (i := 10) (N := some 43) (v := undef) (a' := ?_) #[true, true, true, true, true, true, true, true, true, true, true, false, false, false, false, false, false, false, false, false, false, false, false, false] rfl rfl (any_of HT_.out (by kernel_rfl)) (fun _ _ _ h => h) (Or.inr ⟨by rfl, rfl⟩) ?_ ?_; rotate_left
        ·simp only [Act.put, sT_, s0_, s1_, i64_w, i32_w]; rfl
        refine pure_ (i := 11) (N := some 44) (v := undef) (a' := ?_) #[true, true, true, true, true, true, true, true, true, true, true, true, false, false, false, false, false, false, false, false, false, false, false, false] rfl rfl (any_of HT_.out (by kernel_rfl)) (fun _ _ _ h => h) (Or.inr ⟨by rfl, rfl⟩) ?_ ?_; rotate_left
        ·simp only [Act.put, sT_, s0_, s1_, i64_w, i32_w]; rfl
        refine pure_ (i := 12) (N := some 45) (v := undef) (a' := ?_) #[true, true, true, true, true, true, true, true, true, true, true, true, true, false, false, false, false, false, false, false, false, false, false, false] rfl rfl (any_of HT_.out (by kernel_rfl)) (fun _ _ _ h => h) (Or.inr ⟨by rfl, rfl⟩) ?_ ?_; rotate_left
        ·simp only [Act.put, sT_, s0_, s1_, i64_w, i32_w]; rfl
        refine pure_ (i := 13) (N := some 46) (v := undef) (a' := ?_) #[true, true, true, true, true, true, true, true, true, true, true, true, true, true, false, false, false, false, false, false, false, false, false, false] rfl rfl (any_of HT_.out (by kernel_rfl)) (fun _ _ _ h => h) (Or.inr ⟨by rfl, rfl⟩) ?_ ?_; rotate_left
        ·simp only [Act.put, sT_, s0_, s1_, i64_w, i32_w]; rfl
        refine pure_ (i := 14) (N := some 47) (v := undef) (a' := ?_) #[true, true, true, true, true, true, true, true, true, true, true, true, true, true, true, false, false, false, false, false, false, false, false, false] rfl rfl (any_of HT_.out (by kernel_rfl)) (fun _ _ _ h => h) (Or.inr ⟨by rfl, rfl⟩) ?_ ?_; rotate_left
        ·simp only [Act.put, sT_, s0_, s1_, i64_w, i32_w]; rfl
        refine pure_ (i := 15) (N := some 48) (v := undef) (a' := ?_) #[true, true, true, true, true, true, true, true, true, true, true, true, true, true, true, true, false, false, false, false, false, false, false, false] rfl rfl (any_of HT_.out (by kernel_rfl)) (fun _ _ _ h => h) (Or.inr ⟨by rfl, rfl⟩) ?_ ?_; rotate_left
        ·simp only [Act.put, sT_, s0_, s1_, i64_w, i32_w]; rfl
        refine pure_ (i := 16) (N := some 49) (v := undef) (a' := ?_) #[true, true, true, true, true, true, true, true, true, true, true, true, true, true, true, true, true, false, false, false, false, false, false, false] rfl rfl (any_of HT_.out (by kernel_rfl)) (fun _ _ _ h => h) (Or.inr ⟨by rfl, rfl⟩) ?_ ?_; rotate_left
        ·simp only [Act.put, sT_, s0_, s1_, i64_w, i32_w]; rfl
        refine pure_ (i := 17) (N := some 50) (v := undef) (a' := ?_) #[true, true, true, true, true, true, true, true, true, true, true, true, true, true, true, true, true, true, false, false, false, false, false, false] rfl rfl (any_of HT_.out (by kernel_rfl)) (fun _ _ _ h => h) (Or.inr ⟨by rfl, rfl⟩) ?_ ?_; rotate_left
        ·simp only [Act.put, sT_, s0_, s1_, i64_w, i32_w]; rfl
        refine pure_ (i := 18) (N := some 51) (v := undef) (a' := ?_) #[true, true, true, true, true, true, true, true, true, true, true, true, true, true, true, true, true, true, true, false, false, false, false, false] rfl rfl (any_of HT_.out (by kernel_rfl)) (fun _ _ _ h => h) (Or.inr ⟨by rfl, rfl⟩) ?_ ?_; rotate_left
        ·simp only [Act.put, sT_, s0_, s1_, i64_w, i32_w]; rfl
        refine pure_ (i := 19) (N := some 52) (v := undef) (a' := ?_) #[true, true, true, true, true, true, true, true, true, true, true, true, true, true, true, true, true, true, true, true, false, false, false, false] rfl rfl (any_of HT_.out (by kernel_rfl)) (fun _ _ _ h => h) (Or.inr ⟨by rfl, rfl⟩) ?_ ?_; rotate_left
        ·simp only [Act.put, sT_, s0_, s1_, i64_w, i32_w]; rfl
        refine pure_ (i := 20) (N := some 53) (v := undef) (a' := ?_) #[true, true, true, true, true, true, true, true, true, true, true, true, true, true, true, true, true, true, true, true, true, false, false, false] rfl rfl (any_of HT_.out (by kernel_rfl)) (fun _ _ _ h => h) (Or.inr ⟨by rfl, rfl⟩) ?_ ?_; rotate_left
        ·simp only [Act.put, sT_, s0_, s1_, i64_w, i32_w]; rfl
        refine pure_ (i := 21) (N := some 54) (v := undef) (a' := ?_) #[true, true, true, true, true, true, true, true, true, true, true, true, true, true, true, true, true, true, true, true, true, true, false, false] rfl rfl (any_of HT_.out (by kernel_rfl)) (fun _ _ _ h => h) (Or.inr ⟨by rfl, rfl⟩) ?_ ?_; rotate_left
        ·simp only [Act.put, sT_, s0_, s1_, i64_w, i32_w]; rfl
        refine pure_ (i := 22) (N := some 55) (v := undef) (a' := ?_) #[true, true, true, true, true, true, true, true, true, true, true, true, true, true, true, true, true, true, true, true, true, true, true, false] rfl rfl (any_of HT_.out (by kernel_rfl)) (fun _ _ _ h => h) (Or.inr ⟨by rfl, rfl⟩) ?_ ?_; rotate_left
        ·simp only [Act.put, sT_, s0_, s1_, i64_w, i32_w]; rfl
        refine pure_ (i := 23) (N := some 56) (v := ?_) (a' := ?_) #[true, true, true, true, true, true, true, true, true, true, true, true, true, true, true, true, true, true, true, true, true, true, true, true] rfl rfl (any_of HT_.out (by kernel_rfl)) (fun _ _ _ h => h) (Or.inl ⟨by rfl, ?_⟩) ?_ ?_; rotate_left
        ·intro w'; go_simp; with_reducible rfl
        rotate_left
        ·simp only [Act.put, sT_, s0_, s1_, i64_w, i32_w]; rfl
        refine done_ (done_of HT_.out (by kernel_rfl)) ?_
        try go_wp2
        go_meet
        case rel => exact ⟨_, (false), (by first | rfl | (simp; done) | (simp [*]; done)), H', ⟨by have := HK1.out; first | omega | exact Nat.le_refl _⟩, ⟨by (with_reducible repeat (first | refine blk_drewN ?_ _ | refine blk_drew ?_ | refine blk_alloc ?_ _)); exact BK221.out⟩, ⟨by repeat (first | (with_reducible first | exact HB.out | apply below_alloc | apply pw_below_drewN | apply below_drew1 | refine below_set ?_ GE221.out) | exact HB.out)⟩⟩
      case rest =>
       clear HC21; (try clear c1); (try clear c2); (try clear p2); (try clear c3); (try clear c5); (try clear c5b0); (try clear c6); (try clear c6b0); (try clear c6b1); (try clear p6); (try clear c7); (try clear c7b0); (try clear c7b1); (try clear c8); (try clear c8b0); (try clear c8b1); (try clear c18); (try clear c18b0); (try clear c19); (try clear c19b0); (try clear c19b1); (try clear c23); (try clear c23b0); (try clear c23b1); (try clear hcz10_0); (try clear hcz10_1); (try clear hcz14_0); (try clear hcz14_1); (try clear hcz16_0); (try clear hcz16_1); (try clear hcz22_0); (try clear hcz22_1)
       (try clear hfz10_0); (try clear hfz10_1); (try clear hfz14_0); (try clear hfz14_1); (try clear hfz16_0); (try clear hfz16_1); (try clear hfz22_0); (try clear hfz22_1); (try clear p2); (try clear p6); obtain ⟨kq, x56_20, rfl, HA, HJ20, BK221, HB⟩ := hcut
       cases kq with
       | zero => exact absurd HA.out (by simp [spec_l7Best.j1])
       | succ kj20 =>
        have H := HA.out
        clear HA
        simp only [spec_l7Best.j1] at H
        by_cases c31 : x56_20 = true
        ·subst c31
         have H1 : (if 0 ≤ x9_1 then (if x9_1 ≤ (wrap64 (x9_1 + 1)) then (if (wrap64 (x9_1 + 1)) ≤ 5 then ((spec_l7Best.f kj20 a0_0 a0_1 (Go.bits .or .i64 a1 ji20) a2).bind fun t226 => (if ((⟨#[97, 98, 99, 100, 101]⟩ : ByteArray).extract (x9_1 : Int).toNat ((wrap64 (x9_1 + 1)) : Int).toNat).size + t226.size ≤ 9223372036854775807 then ((spec_l7Best.f kj20 a0_0 a0_1 (Go.bits .or .i64 a1 ji20) (Go.bits .or .i64 a2 ji20)).bind fun t227 => (if (((⟨#[97, 98, 99, 100, 101]⟩ : ByteArray).extract (x9_1 : Int).toNat ((wrap64 (x9_1 + 1)) : Int).toNat) ++ t226).size + t227.size ≤ 9223372036854775807 then (some ((((⟨#[97, 98, 99, 100, 101]⟩ : ByteArray).extract (x9_1 : Int).toNat ((wrap64 (x9_1 + 1)) : Int).toNat) ++ t226) ++ t227)) else (none))) else (none))) else (none)) else (none)) else (none)) = some r := by rw [if_pos rfl] at H; exact H
         clear H; have H := H1; clear H1
         by_cases c32 : 0 ≤ x9_1
         ·rw [if_pos c32] at H
          have c32b0 := eq_true c32
          have c32b1 : decide (0 ≤ x9_1) = true := decide_eq_true c32
          clear c32
          by_cases c33 : x9_1 ≤ (wrap64 (x9_1 + 1))
          ·rw [if_pos c33] at H
           have c33b0 := eq_true c33
           have c33b1 : decide (x9_1 ≤ (wrap64 (x9_1 + 1))) = true := decide_eq_true c33
           by_cases c34 : (wrap64 (x9_1 + 1)) ≤ 5
           ·rw [if_pos c34] at H
            have c34b0 := eq_true c34
            have c34b1 : decide ((wrap64 (x9_1 + 1)) ≤ 5) = true := decide_eq_true c34
            replace H := Option.bind_eq_some_iff.mp H; obtain ⟨t226, A350, H⟩ := H; (try dsimp only at H); have A35 := Aside0.mk A350; clear A350
            by_cases c36 : ((⟨#[97, 98, 99, 100, 101]⟩ : ByteArray).extract (x9_1 : Int).toNat ((wrap64 (x9_1 + 1)) : Int).toNat).size + t226.size ≤ 9223372036854775807
            ·rw [if_pos c36] at H
             have c36b0 := eq_true c36
             have c36b1 : decide (((⟨#[97, 98, 99, 100, 101]⟩ : ByteArray).extract (x9_1 : Int).toNat ((wrap64 (x9_1 + 1)) : Int).toNat).size + t226.size ≤ 9223372036854775807) = true := decide_eq_true c36
             have c36n : (((wrap64 (x9_1 + 1)) : Int).toNat - (x9_1 : Int).toNat) + (t226).size ≤ 9223372036854775807 := by (have h_ := c36; simp only [ByteArray.size_append, ByteArray.size_extract] at h_; (have hs_ : (⟨#[97, 98, 99, 100, 101]⟩ : ByteArray).size = 5 := rfl; try rw [hs_] at h_); (try have c6z_ := of_decide_eq_true c6b1); (try have c7z_ := of_decide_eq_true c7b1); (try have c8z_ := of_decide_eq_true c8b1); (try have c19z_ := of_decide_eq_true c19b1); (try have c32z_ := of_decide_eq_true c32b1); (try have c33z_ := of_decide_eq_true c33b1); (try have c34z_ := of_decide_eq_true c34b1); omega)
             have c36n1 : (9223372036854775807 < (((wrap64 (x9_1 + 1)) : Int).toNat - (x9_1 : Int).toNat) + (t226).size) = False := eq_false (Nat.not_lt.2 c36n)
             try have c36b2 : (9223372036854775807 < ((⟨#[97, 98, 99, 100, 101]⟩ : ByteArray).extract (x9_1 : Int).toNat ((wrap64 (x9_1 + 1)) : Int).toNat).size + t226.size) = False := eq_false (Nat.not_lt.2 c36)
             replace H := Option.bind_eq_some_iff.mp H; obtain ⟨t227, A370, H⟩ := H; (try dsimp only at H); have A37 := Aside0.mk A370; clear A370
             by_cases c38 : (((⟨#[97, 98, 99, 100, 101]⟩ : ByteArray).extract (x9_1 : Int).toNat ((wrap64 (x9_1 + 1)) : Int).toNat) ++ t226).size + t227.size ≤ 9223372036854775807
             ·rw [if_pos c38] at H
              have c38b0 := eq_true c38
              have c38b1 : decide ((((⟨#[97, 98, 99, 100, 101]⟩ : ByteArray).extract (x9_1 : Int).toNat ((wrap64 (x9_1 + 1)) : Int).toNat) ++ t226).size + t227.size ≤ 9223372036854775807) = true := decide_eq_true c38
              have c38n : (((wrap64 (x9_1 + 1)) : Int).toNat - (x9_1 : Int).toNat) + (t226).size + (t227).size ≤ 9223372036854775807 := by (have h_ := c38; simp only [ByteArray.size_append, ByteArray.size_extract] at h_; (have hs_ : (⟨#[97, 98, 99, 100, 101]⟩ : ByteArray).size = 5 := rfl; try rw [hs_] at h_); (try have c6z_ := of_decide_eq_true c6b1); (try have c7z_ := of_decide_eq_true c7b1); (try have c8z_ := of_decide_eq_true c8b1); (try have c19z_ := of_decide_eq_true c19b1); (try have c32z_ := of_decide_eq_true c32b1); (try have c33z_ := of_decide_eq_true c33b1); (try have c34z_ := of_decide_eq_true c34b1); (try have c36z_ := of_decide_eq_true c36b1); omega)
              have c38n1 : (9223372036854775807 < (((wrap64 (x9_1 + 1)) : Int).toNat - (x9_1 : Int).toNat) + (t226).size + (t227).size) = False := eq_false (Nat.not_lt.2 c38n)
              try have c38b2 : (9223372036854775807 < (((⟨#[97, 98, 99, 100, 101]⟩ : ByteArray).extract (x9_1 : Int).toNat ((wrap64 (x9_1 + 1)) : Int).toNat) ++ t226).size + t227.size) = False := eq_false (Nat.not_lt.2 c38)
              obtain rfl := Option.some.inj H
              try go_wp2
              have n0_ := Aside0.mk (blk_drew BK221.out)
              have n1_ := Aside0.mk (below_drew1 HB.out)
              clear BK221; clear HB; have BK221 := n0_; have HB := n1_; clear n0_ n1_
              refine start_ (n := 21) (S := fun w' => w'.cell? ⟨gb221, 0, none⟩ = some (.int .i64 a0_0) ∧ w'.cell? ⟨gb221, 1, none⟩ = some (.int .i64 a0_1)) (ds := []) #[false, false, false, false, false, false, false, false, false, false, false, false, false, false, false, false, false, false, false, false, false] (by kernel_rfl) rfl rfl ⟨(blk_cell BK221.out 0).trans rfl, (blk_cell BK221.out 1).trans rfl⟩ (fun hHeld => ?_); refine with_tabW spec_l7Best.tab10 spec_l7Best.bits10 (fun HT_ HW_ => ?_)
              generalize wc.drew = w39 at BK221 HB hHeld ⊢
              refine pure_ (i := 0) (N := some 57) (v := ?_) (a' := ?_) #[true, false, false, false, false, false, false, false, false, false, false, false, false, false, false, false, false, false, false, false, false] rfl rfl (any_of HT_.out (by kernel_rfl)) (fun _ _ _ h => h) (Or.inl ⟨by rfl, ?_⟩) ?_ ?_; rotate_left
              ·intro w'; go_simp; with_reducible rfl
              rotate_left
              ·simp only [Act.put, sT_, s0_, s1_, i64_w, i32_w]; rfl
              refine pure_ (i := 1) (N := some 58) (v := ?_) (a' := ?_) #[true, true, false, false, false, false, false, false, false, false, false, false, false, false, false, false, false, false, false, false, false] rfl rfl (any_of HT_.out (by kernel_rfl)) (fun _ _ _ h => h) (Or.inl ⟨by rfl, ?_⟩) ?_ ?_; rotate_left
              ·intro w'; go_simp; with_reducible rfl
              rotate_left
              ·simp only [Act.put, sT_, s0_, s1_, i64_w, i32_w]; rfl
              refine pure_ (i := 2) (N := some 59) (v := ?_) (a' := ?_) #[true, true, true, false, false, false, false, false, false, false, false, false, false, false, false, false, false, false, false, false, false] rfl rfl (any_of HT_.out (by kernel_rfl)) (fun _ _ _ h => h) (Or.inl ⟨by rfl, ?_⟩) ?_ ?_; rotate_left
              ·intro w'; go_simp; with_reducible rfl
              rotate_left
              ·simp only [Act.put, sT_, s0_, s1_, i64_w, i32_w]; rfl
              refine pure_ (i := 3) (N := some 60) (v := ?_) (a' := ?_) #[true, true, true, true, false, false, false, false, false, false, false, false, false, false, false, false, false, false, false, false, false] rfl rfl (any_of HT_.out (by kernel_rfl)) (fun _ _ _ h => h) (Or.inl ⟨by rfl, ?_⟩) ?_ ?_; rotate_left
              ·intro w'; go_simp; with_reducible rfl
              rotate_left
              ·simp only [Act.put, sT_, s0_, s1_, i64_w, i32_w]; rfl
              refine pure_ (i := 5) (N := some 62) (v := ?_) (a' := ?_) #[true, true, true, true, false, true, false, false, false, false, false, false, false, false, false, false, false, false, false, false, false] rfl rfl (any_of HT_.out (by kernel_rfl)) (fun _ _ _ h => h) (Or.inl ⟨by rfl, ?_⟩) ?_ ?_; rotate_left
              ·intro w'; go_simp; with_reducible rfl
              rotate_left
              ·simp only [Act.put, sT_, s0_, s1_, i64_w, i32_w]; rfl
              refine pure_ (i := 6) (N := some 63) (v := ?_) (a' := ?_) #[true, true, true, true, false, true, true, false, false, false, false, false, false, false, false, false, false, false, false, false, false] rfl rfl (any_of HT_.out (by kernel_rfl)) (fun _ _ _ h => h) (Or.inl ⟨by rfl, ?_⟩) ?_ ?_; rotate_left
              ·intro w'; go_simp; with_reducible rfl
              rotate_left
              ·simp only [Act.put, sT_, s0_, s1_, i64_w, i32_w]; rfl
              refine pure_ (i := 7) (N := some 64) (v := ?_) (a' := ?_) #[true, true, true, true, false, true, true, true, false, false, false, false, false, false, false, false, false, false, false, false, false] rfl rfl (any_of HT_.out (by kernel_rfl)) (fun _ _ _ h => h) (Or.inl ⟨by rfl, ?_⟩) ?_ ?_; rotate_left
              ·intro w'; go_simp; with_reducible rfl
              rotate_left
              ·simp only [Act.put, sT_, s0_, s1_, i64_w, i32_w]; rfl
              refine pure_ (i := 8) (N := some 65) (v := ?_) (a' := ?_) #[true, true, true, true, false, true, true, true, true, false, false, false, false, false, false, false, false, false, false, false, false] rfl rfl (any_of HT_.out (by kernel_rfl)) (fun _ _ _ h => h) (Or.inl ⟨by rfl, ?_⟩) ?_ ?_; rotate_left
              ·intro w'; go_simp; with_reducible rfl
              rotate_left
              ·simp only [Act.put, sT_, s0_, s1_, i64_w, i32_w]; rfl
              refine pure_ (i := 12) (N := some 69) (v := ?_) (a' := ?_) #[true, true, true, true, false, true, true, true, true, false, false, false, true, false, false, false, false, false, false, false, false] rfl rfl (any_of HT_.out (by kernel_rfl)) (fun _ _ _ h => h) (Or.inl ⟨by rfl, ?_⟩) ?_ ?_; rotate_left
              ·intro w'; go_simp; with_reducible rfl
              rotate_left
              ·simp only [Act.put, sT_, s0_, s1_, i64_w, i32_w]; rfl
              refine pure_ (i := 13) (N := some 70) (v := ?_) (a' := ?_) #[true, true, true, true, false, true, true, true, true, false, false, false, true, true, false, false, false, false, false, false, false] rfl rfl (any_of HT_.out (by kernel_rfl)) (fun _ _ _ h => h) (Or.inl ⟨by rfl, ?_⟩) ?_ ?_; rotate_left
              ·intro w'; go_simp; with_reducible rfl
              rotate_left
              ·simp only [Act.put, sT_, s0_, s1_, i64_w, i32_w]; rfl
              refine pure_ (i := 14) (N := some 71) (v := ?_) (a' := ?_) #[true, true, true, true, false, true, true, true, true, false, false, false, true, true, true, false, false, false, false, false, false] rfl rfl (any_of HT_.out (by kernel_rfl)) (fun _ _ _ h => h) (Or.inl ⟨by rfl, ?_⟩) ?_ ?_; rotate_left
              ·intro w'; go_simp; with_reducible rfl
              rotate_left
              ·simp only [Act.put, sT_, s0_, s1_, i64_w, i32_w]; rfl
              refine pure_ (i := 15) (N := some 72) (v := ?_) (a' := ?_) #[true, true, true, true, false, true, true, true, true, false, false, false, true, true, true, true, false, false, false, false, false] rfl rfl (any_of HT_.out (by kernel_rfl)) (fun _ _ _ h => h) (Or.inl ⟨by rfl, ?_⟩) ?_ ?_; rotate_left
              ·intro w'; go_simp; with_reducible rfl
              rotate_left
              ·simp only [Act.put, sT_, s0_, s1_, i64_w, i32_w]; rfl
              refine pure_ (i := 16) (N := some 73) (v := ?_) (a' := ?_) #[true, true, true, true, false, true, true, true, true, false, false, false, true, true, true, true, true, false, false, false, false] rfl rfl (any_of HT_.out (by kernel_rfl)) (fun _ _ _ h => h) (Or.inl ⟨by rfl, ?_⟩) ?_ ?_; rotate_left
              ·intro w'; go_simp; with_reducible rfl
              rotate_left
              ·simp only [Act.put, sT_, s0_, s1_, i64_w, i32_w]; rfl
              refine pure_ (i := 17) (N := some 74) (v := ?_) (a' := ?_) #[true, true, true, true, false, true, true, true, true, false, false, false, true, true, true, true, true, true, false, false, false] rfl rfl (any_of HT_.out (by kernel_rfl)) (fun _ _ _ h => h) (Or.inl ⟨by rfl, ?_⟩) ?_ ?_; rotate_left
              ·intro w'; go_simp; with_reducible rfl
              rotate_left
              ·simp only [Act.put, sT_, s0_, s1_, i64_w, i32_w]; rfl
              refine take_ (i := 4) (N := some 61) (v := ?_) (a' := ?_) #[true, true, true, true, true, true, true, true, true, false, false, false, true, true, true, true, true, true, false, false, false] rfl rfl (take_ofW HT_.out HW_.out (by kernel_rfl)) (fun _ _ _ h => h) (Or.inl ⟨by rfl, ?_⟩) hHeld ?_ ?_
              rotate_left
              ·rintro w' ⟨s0, s1⟩
               go_simp; with_reducible rfl
              rotate_left
              ·simp only [Act.put, sT_, s0_, s1_, i64_w, i32_w]; rfl
              refine take_ (i := 11) (N := some 68) (v := ?_) (a' := ?_) #[true, true, true, true, true, true, true, true, true, false, false, true, true, true, true, true, true, true, false, false, false] rfl rfl (take_ofW HT_.out HW_.out (by kernel_rfl)) (fun _ _ _ h => h) (Or.inl ⟨by rfl, ?_⟩) hHeld ?_ ?_
              rotate_left
              ·rintro w' ⟨s0, s1⟩
               go_simp; with_reducible rfl
              rotate_left
              ·simp only [Act.put, sT_, s0_, s1_, i64_w, i32_w]; rfl
              refine one_ (i := 9) (N := some 66) #[true, true, true, true, true, true, true, true, true, true, false, true, true, true, true, true, true, true, false, false, false] rfl rfl (one_of HT_.out (by kernel_rfl)) (by decide) (fun K hK => ?_)
              refine goes_ Tryd.func32 (by kernel_rfl) rfl #[.agg #[.int .i64 a0_0, .int .i64 a0_1], .int .i64 (Go.bits .or .i64 a1 ji20), .int .i64 a2] (by rfl) rfl rfl (by (try simp only [List.map_toArray, List.map_cons, List.map_nil]); first | done | (simp only [hji20]; rfl) | rfl | (simp only [List.length_drop, List.length_take]; rfl)) ?_
              with_reducible refine (ih kj20 (by have := HK1.out; have := HJ20.out; omega) a0_0 a0_1 (Go.bits .or .i64 a1 ji20) a2 t226 _ A35.out).mono ?_
              rintro e w40 ⟨rfl, hb⟩
              refine ⟨_, rfl, ?_⟩
              have n0_ := Aside0.mk (blk_below (g := gb221) (o := .cells #[.int .i64 a0_0, .int .i64 a0_1] 25 (0, 0)) (by (with_reducible repeat (first | refine blk_drewN ?_ _ | refine blk_drew ?_ | refine blk_alloc ?_ _)); exact BK221.out) hb)
              have n1_ := Aside0.mk (below_step (by repeat (first | (with_reducible first | exact HB.out | apply below_alloc | apply pw_below_drewN | apply below_drew1 | refine below_set ?_ GE221.out) | exact HB.out)) hb)
              clear BK221; clear HB; have BK221 := n0_; have HB := n1_; clear n0_ n1_; (try clear hb); (try clear hb2); (try clear hk); (try clear hi)
              refine hK.out _ _ ⟨(blk_cell BK221.out 0).trans rfl, (blk_cell BK221.out 1).trans rfl⟩ (fun hHeld => ?_)
              clear hK K
              refine norm_ (a' := ?_) ?_ ?_
              rotate_left
              ·show Act.put _ (some 66) _ = _
               simp only [Act.put, sT_, s0_, s1_, i64_w, i32_w]; rfl
              refine pure_ (i := 10) (N := some 67) (v := ?_) (a' := ?_) #[true, true, true, true, true, true, true, true, true, true, true, true, true, true, true, true, true, true, false, false, false] rfl rfl (any_of HT_.out (by kernel_rfl)) (fun _ _ _ h => h) (Or.inl ⟨by rfl, ?_⟩) ?_ ?_; rotate_left
              ·intro w'; go_simp; with_reducible rfl
              rotate_left
              ·simp only [Act.put, sT_, s0_, s1_, i64_w, i32_w]; rfl
              refine one_ (i := 18) (N := some 75) #[true, true, true, true, true, true, true, true, true, true, true, true, true, true, true, true, true, true, true, false, false] rfl rfl (one_of HT_.out (by kernel_rfl)) (by decide) (fun K hK => ?_)
              refine goes_ Tryd.func32 (by kernel_rfl) rfl #[.agg #[.int .i64 a0_0, .int .i64 a0_1], .int .i64 (Go.bits .or .i64 a1 ji20), .int .i64 (Go.bits .or .i64 a2 ji20)] (by rfl) rfl rfl (by (try simp only [List.map_toArray, List.map_cons, List.map_nil]); first | done | (simp only [hji20]; rfl) | rfl | (simp only [List.length_drop, List.length_take]; rfl)) ?_
              with_reducible refine (ih kj20 (by have := HK1.out; have := HJ20.out; omega) a0_0 a0_1 (Go.bits .or .i64 a1 ji20) (Go.bits .or .i64 a2 ji20) t227 _ A37.out).mono ?_
              rintro e w41 ⟨rfl, hb⟩
              refine ⟨_, rfl, ?_⟩
              have n0_ := Aside0.mk (blk_below (g := gb221) (o := .cells #[.int .i64 a0_0, .int .i64 a0_1] 25 (0, 0)) (by (with_reducible repeat (first | refine blk_drewN ?_ _ | refine blk_drew ?_ | refine blk_alloc ?_ _)); exact BK221.out) hb)
              have n1_ := Aside0.mk (below_step (by repeat (first | (with_reducible first | exact HB.out | apply below_alloc | apply pw_below_drewN | apply below_drew1 | refine below_set ?_ GE221.out) | exact HB.out)) hb)
              clear BK221; clear HB; have BK221 := n0_; have HB := n1_; clear n0_ n1_; (try clear hb); (try clear hb2); (try clear hk); (try clear hi)
              refine hK.out _ _ ⟨(blk_cell BK221.out 0).trans rfl, (blk_cell BK221.out 1).trans rfl⟩ (fun hHeld => ?_)
              clear hK K
              refine norm_ (a' := ?_) ?_ ?_
              rotate_left
              ·show Act.put _ (some 75) _ = _
               simp only [Act.put, sT_, s0_, s1_, i64_w, i32_w]; rfl
              refine pure_ (i := 19) (N := some 76) (v := ?_) (a' := ?_) #[true, true, true, true, true, true, true, true, true, true, true, true, true, true, true, true, true, true, true, true, false] rfl rfl (any_of HT_.out (by kernel_rfl)) (fun _ _ _ h => h) (Or.inl ⟨by rfl, ?_⟩) ?_ ?_; rotate_left
              ·intro w'; go_simp; with_reducible rfl
              rotate_left
              ·simp only [Act.put, sT_, s0_, s1_, i64_w, i32_w]; rfl
              refine pure_ (i := 20) (N := some 6) (v := ?_) (a' := ?_) #[true, true, true, true, true, true, true, true, true, true, true, true, true, true, true, true, true, true, true, true, true] rfl rfl (any_of HT_.out (by kernel_rfl)) (fun _ _ _ h => h) (Or.inl ⟨by rfl, ?_⟩) ?_ ?_; rotate_left
              ·intro w'; go_simp; with_reducible rfl
              rotate_left
              ·simp only [Act.put, sT_, s0_, s1_, i64_w, i32_w]; rfl
              refine done_ (done_of HT_.out (by kernel_rfl)) ?_
              try go_wp2
              go_ret
              exact ⟨by first | rfl | (simp [errW_none, errW_some] <;> rfl) | (simp only [← hji20]; first | rfl | (simp [errW_none, errW_some] <;> rfl)) | (simp [*, errW_none, errW_some] <;> rfl), by repeat (first | (with_reducible first | exact HB.out | apply below_alloc | apply pw_below_drewN | apply below_drew1 | refine below_set ?_ GE221.out) | exact HB.out)⟩
             ·rw [if_neg c38] at H
              exact absurd H (by simp)
            ·rw [if_neg c36] at H
             exact absurd H (by simp)
           ·rw [if_neg c34] at H
            exact absurd H (by simp)
          ·rw [if_neg c33] at H
           exact absurd H (by simp)
         ·rw [if_neg c32] at H
          exact absurd H (by simp)
        ·replace c31 := Bool.eq_false_iff.mpr c31
         subst c31
         have H1 : (spec_l7Best.l0 kj20 a1 a2 t223 (wrap64 (x9_1 + 1)) a0_0 a0_1) = some r := by rw [if_neg (show ¬ (false = true) by decide)] at H; exact H
         clear H; have H := H1; clear H1
         have H' := Aside0.mk H
         clear H
         go_wp2
         go_roundg kj20
         case measure => have := HK1.out; have := HJ20.out; omega
         case rel => exact ⟨(wrap64 (x9_1 + 1)), (by first | rfl | (simp; done) | (simp [*]; done)), H', ⟨by have := HK1.out; have := HJ20.out; omega⟩, ⟨by (with_reducible repeat (first | refine blk_drewN ?_ _ | refine blk_drew ?_ | refine blk_alloc ?_ _)); exact BK221.out⟩, ⟨by repeat (first | (with_reducible first | exact HB.out | apply below_alloc | apply pw_below_drewN | apply below_drew1 | refine below_set ?_ GE221.out) | exact HB.out)⟩⟩
     ·rw [if_neg c19] at H
      exact absurd H (by simp)
    ·rw [if_neg c18] at H
     have c18b0 : decide (x9_1 < a0_0) = false := decide_eq_false c18
     clear c18
     obtain rfl := Option.some.inj H
     have hcz42_0 : wr.cell? ⟨gb221, 0, none⟩ = some (.int .i64 a0_0) := (blk_cell BK221.out 0).trans rfl
     have hcz42_1 : wr.cell? ⟨gb221, 1, none⟩ = some (.int .i64 a0_1) := (blk_cell BK221.out 1).trans rfl
     have hfz42_0 := blk_frozen BK221.out 0
     have hfz42_1 := blk_frozen BK221.out 1
     go_wp2
     go_ret
     exact ⟨by first | rfl | (simp [errW_none, errW_some] <;> rfl) | (simp [*, errW_none, errW_some] <;> rfl), by repeat (first | (with_reducible first | exact HB.out | apply below_alloc | apply pw_below_drewN | apply below_drew1 | refine below_set ?_ GE221.out) | exact HB.out)⟩
/-! ### spec_BestTree: function 7 -/
def spec_BestTree.f (k : Nat) (a0_0 : Int) (a0_1 : Int) : Option (ByteArray × Bool) := (spec_IsTable.f a0_0 a0_1).bind fun t229 => (if t229 = true then (if a0_0 > 4 then (some ((⟨#[]⟩ : ByteArray), false)) else ((spec_l7Best.f k a0_0 a0_1 0 0).bind fun t230 => (some (t230, true)))) else (some ((⟨#[]⟩ : ByteArray), false)))
theorem spec_BestTree.calls (k : Nat) (a0_0 : Int) (a0_1 : Int) (r1 : ByteArray) (r2 : Bool) (w : World) (h : spec_BestTree.f k a0_0 a0_1 = some (r1, r2)) :
  Calls Tryd.prog 7 #[.agg #[.int .i64 a0_0, .int .i64 a0_1]] w fun e w' => e = .returned (.tuple #[.string r1, .bool r2]) ∧ Below w.heap.size w w' := by
 have hu25 := Tryd.underlying25
 have HB := Aside0.mk (Below.refl w.heap.size w)
 have H : ((spec_IsTable.f a0_0 a0_1).bind fun t229 => (if t229 = true then (if a0_0 > 4 then (some ((⟨#[]⟩ : ByteArray), false)) else ((spec_l7Best.f k a0_0 a0_1 0 0).bind fun t230 => (some (t230, true)))) else (some ((⟨#[]⟩ : ByteArray), false)))) = some (r1, r2) := h
 clear h; replace H := Option.bind_eq_some_iff.mp H; obtain ⟨t229, A20, H⟩ := H; (try dsimp only at H); have A2 := Aside0.mk A20; clear A20
 by_cases c3 : t229 = true
 ·subst c3
  have H1 : (if a0_0 > 4 then (some ((⟨#[]⟩ : ByteArray), false)) else ((spec_l7Best.f k a0_0 a0_1 0 0).bind fun t230 => (some (t230, true)))) = some (r1, r2) := by rw [if_pos rfl] at H; exact H
  clear H; have H := H1; clear H1
  by_cases c4 : a0_0 > 4
  ·rw [if_pos c4] at H
   have c4b0 : decide (4 < a0_0) = true := decide_eq_true c4
   clear c4
   simp only [Option.some.injEq, Prod.mk.injEq] at H
   obtain ⟨rfl, rfl⟩ := H
   go_enter Tryd.func7, Tryd.ntmps7
   go_wp2_with (first | ((with_reducible refine gate_dst (N := 1) rfl ?_); refine box_event ?hg (N := 1) ?hd (cs := #[.int .i64 a0_0, .int .i64 a0_1]) (t := 25) ?hr ?_; (case hd => rfl); (case hg => rfl); (case hr => first | (go_simp; done) | (go_simp; rfl)); intro gb228 hg w5 hbox hb; have n0_ := Aside0.mk (below_step (by repeat (first | (with_reducible first | exact HB.out | apply below_alloc | apply pw_below_drewN | apply below_drew1) | exact HB.out)) hb); have n1_ := Aside0.mk (hbox); have n2_ := Aside0.mk ((by rw [hg]; exact (below_size (by repeat (first | (with_reducible first | exact HB.out | apply below_alloc | apply pw_below_drewN | apply below_drew1) | exact HB.out))) : w.heap.size ≤ gb228)); have n3_ := Aside0.mk ((by rw [hg]; exact (below_size (by repeat (first | (with_reducible first | exact HB.out | apply below_alloc | apply pw_below_drewN | apply below_drew1) | exact HB.out))) : w.heap.size ≤ gb228)); clear HB; have HB := n0_; have BK228 := n1_; have GW228 := n2_; have GE228 := n3_; clear n0_ n1_ n2_ n3_; clear hb hbox hg; have hcz6_0 : w5.cell? ⟨gb228, 0, none⟩ = some (.int .i64 a0_0) := (blk_cell BK228.out 0).trans rfl; have hcz6_1 : w5.cell? ⟨gb228, 1, none⟩ = some (.int .i64 a0_1) := (blk_cell BK228.out 1).trans rfl; have hfz6_0 := blk_frozen BK228.out 0; have hfz6_1 := blk_frozen BK228.out 1) | ((with_reducible refine gate_callee (f := 31) rfl ?_); refine goesL_ (some 5) rfl rfl Tryd.func31 (by kernel_rfl) rfl #[.agg #[.int .i64 a0_0, .int .i64 a0_1]] rfl (by first | rfl | (simp only [List.map_toArray, List.map_cons, List.map_nil, List.length_drop, List.length_take]; rfl)) ?_; (with_reducible refine (spec_IsTable.calls a0_0 a0_1 true _ A2.out).mono ?_); rintro e w7 ⟨rfl, hb⟩; refine ⟨_, rfl, ?_⟩; have n0_ := Aside0.mk (blk_below (g := gb228) (o := .cells #[.int .i64 a0_0, .int .i64 a0_1] 25 (0, 0)) (by (with_reducible repeat (first | refine blk_drewN ?_ _ | refine blk_drew ?_ | refine blk_alloc ?_ _)); exact BK228.out) hb); have n1_ := Aside0.mk (below_step (by repeat (first | (with_reducible first | exact HB.out | apply below_alloc | apply pw_below_drewN | apply below_drew1 | refine below_set ?_ GE228.out) | exact HB.out)) hb); clear BK228; clear HB; have BK228 := n0_; have HB := n1_; clear n0_ n1_; (try clear hb); (try clear hb2); (try clear hk); (try clear hi); have hcz8_0 : w7.cell? ⟨gb228, 0, none⟩ = some (.int .i64 a0_0) := (blk_cell BK228.out 0).trans rfl; have hcz8_1 : w7.cell? ⟨gb228, 1, none⟩ = some (.int .i64 a0_1) := (blk_cell BK228.out 1).trans rfl; have hfz8_0 := blk_frozen BK228.out 0; have hfz8_1 := blk_frozen BK228.out 1))
   go_ret2
   exact ⟨by first | rfl | (simp [errW_none, errW_some] <;> rfl) | (simp [*, errW_none, errW_some] <;> rfl), by repeat (first | (with_reducible first | exact HB.out | apply below_alloc | apply pw_below_drewN | apply below_drew1 | refine below_set ?_ GE228.out) | exact HB.out)⟩
  ·rw [if_neg c4] at H
   have c4b0 : decide (4 < a0_0) = false := decide_eq_false c4
   clear c4; replace H := Option.bind_eq_some_iff.mp H; obtain ⟨t230, A90, H⟩ := H
   replace H : (some (t230, true)) = some (r1, r2) := H
   have A9 := Aside0.mk A90; clear A90
   simp only [Option.some.injEq, Prod.mk.injEq] at H
   obtain ⟨rfl, rfl⟩ := H
   go_enter Tryd.func7, Tryd.ntmps7
   go_wp2_with (first | ((with_reducible refine gate_dst (N := 1) rfl ?_); refine box_event ?hg (N := 1) ?hd (cs := #[.int .i64 a0_0, .int .i64 a0_1]) (t := 25) ?hr ?_; (case hd => rfl); (case hg => rfl); (case hr => first | (go_simp; done) | (go_simp; rfl)); intro gb228 hg w10 hbox hb; have n0_ := Aside0.mk (below_step (by repeat (first | (with_reducible first | exact HB.out | apply below_alloc | apply pw_below_drewN | apply below_drew1) | exact HB.out)) hb); have n1_ := Aside0.mk (hbox); have n2_ := Aside0.mk ((by rw [hg]; exact (below_size (by repeat (first | (with_reducible first | exact HB.out | apply below_alloc | apply pw_below_drewN | apply below_drew1) | exact HB.out))) : w.heap.size ≤ gb228)); have n3_ := Aside0.mk ((by rw [hg]; exact (below_size (by repeat (first | (with_reducible first | exact HB.out | apply below_alloc | apply pw_below_drewN | apply below_drew1) | exact HB.out))) : w.heap.size ≤ gb228)); clear HB; have HB := n0_; have BK228 := n1_; have GW228 := n2_; have GE228 := n3_; clear n0_ n1_ n2_ n3_; clear hb hbox hg; have hcz11_0 : w10.cell? ⟨gb228, 0, none⟩ = some (.int .i64 a0_0) := (blk_cell BK228.out 0).trans rfl; have hcz11_1 : w10.cell? ⟨gb228, 1, none⟩ = some (.int .i64 a0_1) := (blk_cell BK228.out 1).trans rfl; have hfz11_0 := blk_frozen BK228.out 0; have hfz11_1 := blk_frozen BK228.out 1) | ((with_reducible refine gate_callee (f := 31) rfl ?_); refine goesL_ (some 5) rfl rfl Tryd.func31 (by kernel_rfl) rfl #[.agg #[.int .i64 a0_0, .int .i64 a0_1]] rfl (by first | rfl | (simp only [List.map_toArray, List.map_cons, List.map_nil, List.length_drop, List.length_take]; rfl)) ?_; (with_reducible refine (spec_IsTable.calls a0_0 a0_1 true _ A2.out).mono ?_); rintro e w12 ⟨rfl, hb⟩; refine ⟨_, rfl, ?_⟩; have n0_ := Aside0.mk (blk_below (g := gb228) (o := .cells #[.int .i64 a0_0, .int .i64 a0_1] 25 (0, 0)) (by (with_reducible repeat (first | refine blk_drewN ?_ _ | refine blk_drew ?_ | refine blk_alloc ?_ _)); exact BK228.out) hb); have n1_ := Aside0.mk (below_step (by repeat (first | (with_reducible first | exact HB.out | apply below_alloc | apply pw_below_drewN | apply below_drew1 | refine below_set ?_ GE228.out) | exact HB.out)) hb); clear BK228; clear HB; have BK228 := n0_; have HB := n1_; clear n0_ n1_; (try clear hb); (try clear hb2); (try clear hk); (try clear hi); have hcz13_0 : w12.cell? ⟨gb228, 0, none⟩ = some (.int .i64 a0_0) := (blk_cell BK228.out 0).trans rfl; have hcz13_1 : w12.cell? ⟨gb228, 1, none⟩ = some (.int .i64 a0_1) := (blk_cell BK228.out 1).trans rfl; have hfz13_0 := blk_frozen BK228.out 0; have hfz13_1 := blk_frozen BK228.out 1) | ((with_reducible refine gate_callee (f := 32) rfl ?_); refine goesL_ (some 13) rfl rfl Tryd.func32 (by kernel_rfl) rfl #[.agg #[.int .i64 a0_0, .int .i64 a0_1], .int .i64 0, .int .i64 0] rfl (by first | rfl | (simp only [List.map_toArray, List.map_cons, List.map_nil, List.length_drop, List.length_take]; rfl)) ?_; (with_reducible refine (spec_l7Best.calls k a0_0 a0_1 0 0 t230 _ A9.out).mono ?_); rintro e w14 ⟨rfl, hb⟩; refine ⟨_, rfl, ?_⟩; have n0_ := Aside0.mk (blk_below (g := gb228) (o := .cells #[.int .i64 a0_0, .int .i64 a0_1] 25 (0, 0)) (by (with_reducible repeat (first | refine blk_drewN ?_ _ | refine blk_drew ?_ | refine blk_alloc ?_ _)); exact BK228.out) hb); have n1_ := Aside0.mk (below_step (by repeat (first | (with_reducible first | exact HB.out | apply below_alloc | apply pw_below_drewN | apply below_drew1 | refine below_set ?_ GE228.out) | exact HB.out)) hb); clear BK228; clear HB; have BK228 := n0_; have HB := n1_; clear n0_ n1_; (try clear hb); (try clear hb2); (try clear hk); (try clear hi)))
   go_ret2
   exact ⟨by first | rfl | (simp [errW_none, errW_some] <;> rfl) | (simp [*, errW_none, errW_some] <;> rfl), by repeat (first | (with_reducible first | exact HB.out | apply below_alloc | apply pw_below_drewN | apply below_drew1 | refine below_set ?_ GE228.out) | exact HB.out)⟩
 ·replace c3 := Bool.eq_false_iff.mpr c3
  subst c3
  have H1 : (some ((⟨#[]⟩ : ByteArray), false)) = some (r1, r2) := by rw [if_neg (show ¬ (false = true) by decide)] at H; exact H
  clear H; have H := H1; clear H1
  simp only [Option.some.injEq, Prod.mk.injEq] at H
  obtain ⟨rfl, rfl⟩ := H
  go_enter Tryd.func7, Tryd.ntmps7
  go_wp2_with (first | ((with_reducible refine gate_dst (N := 1) rfl ?_); refine box_event ?hg (N := 1) ?hd (cs := #[.int .i64 a0_0, .int .i64 a0_1]) (t := 25) ?hr ?_; (case hd => rfl); (case hg => rfl); (case hr => first | (go_simp; done) | (go_simp; rfl)); intro gb228 hg w15 hbox hb; have n0_ := Aside0.mk (below_step (by repeat (first | (with_reducible first | exact HB.out | apply below_alloc | apply pw_below_drewN | apply below_drew1) | exact HB.out)) hb); have n1_ := Aside0.mk (hbox); have n2_ := Aside0.mk ((by rw [hg]; exact (below_size (by repeat (first | (with_reducible first | exact HB.out | apply below_alloc | apply pw_below_drewN | apply below_drew1) | exact HB.out))) : w.heap.size ≤ gb228)); have n3_ := Aside0.mk ((by rw [hg]; exact (below_size (by repeat (first | (with_reducible first | exact HB.out | apply below_alloc | apply pw_below_drewN | apply below_drew1) | exact HB.out))) : w.heap.size ≤ gb228)); clear HB; have HB := n0_; have BK228 := n1_; have GW228 := n2_; have GE228 := n3_; clear n0_ n1_ n2_ n3_; clear hb hbox hg; have hcz16_0 : w15.cell? ⟨gb228, 0, none⟩ = some (.int .i64 a0_0) := (blk_cell BK228.out 0).trans rfl; have hcz16_1 : w15.cell? ⟨gb228, 1, none⟩ = some (.int .i64 a0_1) := (blk_cell BK228.out 1).trans rfl; have hfz16_0 := blk_frozen BK228.out 0; have hfz16_1 := blk_frozen BK228.out 1) | ((with_reducible refine gate_callee (f := 31) rfl ?_); refine goesL_ (some 5) rfl rfl Tryd.func31 (by kernel_rfl) rfl #[.agg #[.int .i64 a0_0, .int .i64 a0_1]] rfl (by first | rfl | (simp only [List.map_toArray, List.map_cons, List.map_nil, List.length_drop, List.length_take]; rfl)) ?_; (with_reducible refine (spec_IsTable.calls a0_0 a0_1 false _ A2.out).mono ?_); rintro e w17 ⟨rfl, hb⟩; refine ⟨_, rfl, ?_⟩; have n0_ := Aside0.mk (blk_below (g := gb228) (o := .cells #[.int .i64 a0_0, .int .i64 a0_1] 25 (0, 0)) (by (with_reducible repeat (first | refine blk_drewN ?_ _ | refine blk_drew ?_ | refine blk_alloc ?_ _)); exact BK228.out) hb); have n1_ := Aside0.mk (below_step (by repeat (first | (with_reducible first | exact HB.out | apply below_alloc | apply pw_below_drewN | apply below_drew1 | refine below_set ?_ GE228.out) | exact HB.out)) hb); clear BK228; clear HB; have BK228 := n0_; have HB := n1_; clear n0_ n1_; (try clear hb); (try clear hb2); (try clear hk); (try clear hi)))
  go_ret2
  exact ⟨by first | rfl | (simp [errW_none, errW_some] <;> rfl) | (simp [*, errW_none, errW_some] <;> rfl), by repeat (first | (with_reducible first | exact HB.out | apply below_alloc | apply pw_below_drewN | apply below_drew1 | refine below_set ?_ GE228.out) | exact HB.out)⟩
end Go.Proofs.YtkmicbnbclkkkaaDoor.Print
namespace Go.Proofs.YtkmicbnbclkkkaaDoor.Print
open Go.RowKit Go.Proofs.YtkmicbnbclkkkaaDoorW.PrintWords Go.Proofs.YtkmicbnbclkkkaaDoorW.PrintLast Go.Proofs.YtkmicbnbclkkkaaDoorW.PrintMore
attribute [local go_sem] max2_int min2_int max_two min_two max_three min_three max_four min_four   -- for this text's walks alone
set_option linter.unusedVariables false
set_option linter.unusedSimpArgs false
set_option maxRecDepth 100000
/-! ### impl_LeastDepth: function 8 -/
open Go.Proofs.YtkmicbnbclkkkaaDoor.M
def impl_LeastDepth.f (a0_0 : Int) (a0_1 : Int) : Option (Int) :=
 (impl_isSmall.f a0_0 a0_1 4).bind fun t => if t = true then (if 0 ≤ a0_0 ∧ a0_0 ≤ 4 ∧ 0 ≤ a0_1 ∧ a0_1 < ((2 ^ 2 ^ a0_0.toNat : Nat) : Int) then some (((ldC a0_0.toNat a0_0.toNat a0_1.toNat a0_0.toNat 0 0 : Nat) : Int)) else none) else some (-1)
theorem impl_LeastDepth.ask (n v : Nat) (w : World) : Calls Tryd.prog 29 #[.agg #[.int .i64 (n : Int), .int .i64 (v : Int)]] w fun e w' => ∃ T M mv, e = .returned (.pointer (some ⟨T, 0, none⟩)) ∧ impl_asker_left.St n v T M mv w' ∧ w.heap.size ≤ M ∧ Below w.heap.size w w' := by
 have huT := Tryd.underlying25
 have huA := Tryd.underlying72
 have hmk : ∀ W, (Instr.makeMap 70 none).run Tryd.prog W = .ok (.map (some W.heap.size)) (W.alloc (.map #[] 0)) := fun W => run_makeMap 70 W
 go_enter Tryd.func29, Tryd.ntmps29
 go_wp2_with (fail)
 go_ret
 obtain ⟨W0, hW0⟩ : ∃ W0, W0 = w.alloc (.cells #[.int .i64 (n : Int), .int .i64 (v : Int)] 25) := ⟨_, rfl⟩
 have hs : W0.heap.size = w.heap.size + 1 := by rw [hW0]; simp
 rw [← hW0, ← hs]
 have hm := Memo.made W0 Tryd.prog 46 3 (impl_asker_left.Good n v)
 have hm2 := (hm.alloc (.map #[] 0)).alloc (.cells #[.int .i64 (n : Int), .int .i64 (v : Int), .map (some W0.heap.size), .map (some (W0.heap.size + 1))] 72)
 have hB : Below w.heap.size w ((((W0.alloc (.map #[] 0)).alloc (.map #[] 0)).alloc (.cells #[.int .i64 (n : Int), .int .i64 (v : Int), .map (some W0.heap.size), .map (some (W0.heap.size + 1))] 72))) := by
  have h0 : Below w.heap.size w W0 := by rw [hW0]; exact (Below.refl _ _).alloc (Nat.le_refl _) _
  exact ((h0.alloc (by omega) _).alloc (by simp; omega) _).alloc (by simp; omega) _
 have hT := blk_new ((W0.alloc (.map #[] 0)).alloc (.map #[] 0)) (.cells #[.int .i64 (n : Int), .int .i64 (v : Int), .map (some W0.heap.size), .map (some (W0.heap.size + 1))] 72)
 have e : ((W0.alloc (.map #[] 0)).alloc (.map #[] 0)).heap.size = W0.heap.size + 1 + 1 := by simp
 rw [e] at hT
 exact ⟨W0.heap.size + 1 + 1, W0.heap.size, _, rfl, ⟨hT, hm2⟩, by omega, hB⟩
theorem impl_LeastDepth.good (n v : Nat) (hn : n ≤ 4) (hv : v < 2 ^ 2 ^ n) (hsm : impl_isSmall.f (n : Int) (v : Int) 4 = some true) (w : World) :
  Calls Tryd.prog 8 #[.agg #[.int .i64 (n : Int), .int .i64 (v : Int)]] w fun e w' => e = .returned (.int .i64 ((ldC n n v n 0 0 : Nat) : Int)) ∧ Below w.heap.size w w' := by
 have huT := Tryd.underlying25
 have huK := Tryd.underlying46
 obtain ⟨W0, hW0⟩ : ∃ W0, W0 = w.alloc (.cells #[.int .i64 (n : Int), .int .i64 (v : Int)] 25) := ⟨_, rfl⟩
 have HB : Aside0 (Below w.heap.size w W0) := ⟨by rw [hW0]; exact (Below.refl _ _).alloc (Nat.le_refl _) _⟩
 have C0 : Aside0 (W0.heap[w.heap.size]? = some (.cells #[.int .i64 (n : Int), .int .i64 (v : Int)] 25 (0, 0))) := ⟨by rw [hW0]; exact blk_new w _⟩
 have CW := Aside0.mk hW0; have HSM := Aside0.mk hsm
 have HA := Aside0.mk (fun W => impl_LeastDepth.ask n v W)
 have HL : Aside0 (∀ T M mv W, impl_asker_left.St n v T M mv W → Calls Tryd.prog 33 #[.pointer (some ⟨T, 0, none⟩), .agg #[.int .i64 0, .int .i64 0]] W fun e w' => e = .returned (.int .i64 ((ldC n n v n 0 0 : Nat) : Int)) ∧ impl_asker_left.St n v T M mv w' ∧ But M W w') := ⟨fun T M mv W h => impl_asker_left.call n v T M mv hn hv n 0 0 W (Cb.zero hn) (by rw [pc_zero]; omega) h⟩
 clear hsm hW0 hv hn
 go_enter Tryd.func8, Tryd.ntmps8
 go_wp2_with (first | (go_at_call 28; rw [← CW.out]; (with_reducible refine (impl_isSmall.calls _ _ _ _ _ HSM.out).mono ?_); rintro e w1 ⟨rfl, hb⟩; have B1 := Aside0.mk hb; clear hb; have p0 := blk_cell (blk_below C0.out B1.out) 0; have p1 := blk_cell (blk_below C0.out B1.out) 1) | (go_at_call 29; (with_reducible refine (HA.out _).mono ?_); rintro e w2 ⟨T, M, mv, rfl, hst, hM, hb⟩; have B2 := Aside0.mk (B1.out.trans (hb.mono B1.out.size)); have HM := Aside0.mk (Nat.le_trans B1.out.size hM); have HST := Aside0.mk hst; clear hb hst hM) | (go_at_call 33; (with_reducible refine (HL.out _ _ _ _ HST.out).mono ?_); rintro e w3 ⟨rfl, hst, hb⟩; have B3 := Aside0.mk hb; clear hb hst))
 go_ret
 have hm := HM.out
 have h2 := HB.out.size
 refine ⟨rfl, ?_⟩
 have h3 := HB.out.trans (B2.out.mono HB.out.size)
 exact h3.trans (B3.out.below (by omega) h3.size)
theorem impl_LeastDepth.bad (a b : Int) (hsm : impl_isSmall.f a b 4 = some false) (w : World) :
  Calls Tryd.prog 8 #[.agg #[.int .i64 a, .int .i64 b]] w fun e w' => e = .returned (.int .i64 (-1)) ∧ Below w.heap.size w w' := by
 have huT := Tryd.underlying25
 have HB : Aside0 (Below w.heap.size w (w.alloc (.cells #[.int .i64 a, .int .i64 b] 25))) := ⟨(Below.refl _ _).alloc (Nat.le_refl _) _⟩
 have HSM := Aside0.mk hsm; clear hsm
 go_enter Tryd.func8, Tryd.ntmps8
 go_wp2_with (first | (go_at_call 28; (with_reducible refine (impl_isSmall.calls _ _ _ _ _ HSM.out).mono ?_); rintro e w1 ⟨rfl, hb⟩))
 go_ret
 exact ⟨rfl, HB.out.trans (hb.mono HB.out.size)⟩
theorem impl_LeastDepth.calls (a0_0 : Int) (a0_1 : Int) (r : Int) (w : World) (h : impl_LeastDepth.f a0_0 a0_1 = some r) :
  Calls Tryd.prog 8 #[.agg #[.int .i64 a0_0, .int .i64 a0_1]] w fun e w' => e = .returned (.int .i64 r) ∧ Below w.heap.size w w' := by
 unfold impl_LeastDepth.f at h
 obtain ⟨t, ht, h⟩ := Option.bind_eq_some_iff.mp h
 cases t with
 | false =>
  rw [if_neg (by decide)] at h
  rw [← Option.some.inj h]
  exact impl_LeastDepth.bad a0_0 a0_1 ht w
 | true =>
  rw [if_pos rfl] at h
  by_cases hd : 0 ≤ a0_0 ∧ a0_0 ≤ 4 ∧ 0 ≤ a0_1 ∧ a0_1 < ((2 ^ 2 ^ a0_0.toNat : Nat) : Int)
  ·rw [if_pos hd] at h
   obtain ⟨d1, d2, d3, d4⟩ := hd
   obtain ⟨n, rfl⟩ := nat_of d1
   obtain ⟨v, rfl⟩ := nat_of d3
   rw [Int.toNat_natCast, Int.toNat_natCast] at h
   rw [Int.toNat_natCast] at d4
   rw [← Option.some.inj h]
   exact impl_LeastDepth.good n v (by omega) (by exact_mod_cast d4) ht w
  ·rw [if_neg hd] at h; cases h
end Go.Proofs.YtkmicbnbclkkkaaDoor.Print
namespace Go.Proofs.YtkmicbnbclkkkaaDoor.Print
open Go.RowKit Go.Proofs.YtkmicbnbclkkkaaDoorW.PrintWords Go.Proofs.YtkmicbnbclkkkaaDoorW.PrintLast Go.Proofs.YtkmicbnbclkkkaaDoorW.PrintMore
attribute [local go_sem] max2_int min2_int max_two min_two max_three min_three max_four min_four   -- for this text's walks alone
set_option linter.unusedVariables false
set_option linter.unusedSimpArgs false
/-! ### bits_OnesCount64: function 73 -/
def bits_OnesCount64.f (a0 : Int) : Option (Int) := some (Go.bits .and .i64 (wrap64 (IntKind.u64.wrap ((IntKind.u64.wrap ((IntKind.u64.wrap ((Go.bits .and .u64 (IntKind.u64.wrap (((IntKind.u64.wrap ((Go.bits .and .u64 ((IntKind.u64.wrap ((Go.bits .and .u64 (a0 / 2) 6148914691236517205) + (Go.bits .and .u64 a0 6148914691236517205))) / 4) 3689348814741910323) + (Go.bits .and .u64 (IntKind.u64.wrap ((Go.bits .and .u64 (a0 / 2) 6148914691236517205) + (Go.bits .and .u64 a0 6148914691236517205))) 3689348814741910323))) / 16) + (IntKind.u64.wrap ((Go.bits .and .u64 ((IntKind.u64.wrap ((Go.bits .and .u64 (a0 / 2) 6148914691236517205) + (Go.bits .and .u64 a0 6148914691236517205))) / 4) 3689348814741910323) + (Go.bits .and .u64 (IntKind.u64.wrap ((Go.bits .and .u64 (a0 / 2) 6148914691236517205) + (Go.bits .and .u64 a0 6148914691236517205))) 3689348814741910323))))) 1085102592571150095) + ((Go.bits .and .u64 (IntKind.u64.wrap (((IntKind.u64.wrap ((Go.bits .and .u64 ((IntKind.u64.wrap ((Go.bits .and .u64 (a0 / 2) 6148914691236517205) + (Go.bits .and .u64 a0 6148914691236517205))) / 4) 3689348814741910323) + (Go.bits .and .u64 (IntKind.u64.wrap ((Go.bits .and .u64 (a0 / 2) 6148914691236517205) + (Go.bits .and .u64 a0 6148914691236517205))) 3689348814741910323))) / 16) + (IntKind.u64.wrap ((Go.bits .and .u64 ((IntKind.u64.wrap ((Go.bits .and .u64 (a0 / 2) 6148914691236517205) + (Go.bits .and .u64 a0 6148914691236517205))) / 4) 3689348814741910323) + (Go.bits .and .u64 (IntKind.u64.wrap ((Go.bits .and .u64 (a0 / 2) 6148914691236517205) + (Go.bits .and .u64 a0 6148914691236517205))) 3689348814741910323))))) 1085102592571150095) / 256))) + ((IntKind.u64.wrap ((Go.bits .and .u64 (IntKind.u64.wrap (((IntKind.u64.wrap ((Go.bits .and .u64 ((IntKind.u64.wrap ((Go.bits .and .u64 (a0 / 2) 6148914691236517205) + (Go.bits .and .u64 a0 6148914691236517205))) / 4) 3689348814741910323) + (Go.bits .and .u64 (IntKind.u64.wrap ((Go.bits .and .u64 (a0 / 2) 6148914691236517205) + (Go.bits .and .u64 a0 6148914691236517205))) 3689348814741910323))) / 16) + (IntKind.u64.wrap ((Go.bits .and .u64 ((IntKind.u64.wrap ((Go.bits .and .u64 (a0 / 2) 6148914691236517205) + (Go.bits .and .u64 a0 6148914691236517205))) / 4) 3689348814741910323) + (Go.bits .and .u64 (IntKind.u64.wrap ((Go.bits .and .u64 (a0 / 2) 6148914691236517205) + (Go.bits .and .u64 a0 6148914691236517205))) 3689348814741910323))))) 1085102592571150095) + ((Go.bits .and .u64 (IntKind.u64.wrap (((IntKind.u64.wrap ((Go.bits .and .u64 ((IntKind.u64.wrap ((Go.bits .and .u64 (a0 / 2) 6148914691236517205) + (Go.bits .and .u64 a0 6148914691236517205))) / 4) 3689348814741910323) + (Go.bits .and .u64 (IntKind.u64.wrap ((Go.bits .and .u64 (a0 / 2) 6148914691236517205) + (Go.bits .and .u64 a0 6148914691236517205))) 3689348814741910323))) / 16) + (IntKind.u64.wrap ((Go.bits .and .u64 ((IntKind.u64.wrap ((Go.bits .and .u64 (a0 / 2) 6148914691236517205) + (Go.bits .and .u64 a0 6148914691236517205))) / 4) 3689348814741910323) + (Go.bits .and .u64 (IntKind.u64.wrap ((Go.bits .and .u64 (a0 / 2) 6148914691236517205) + (Go.bits .and .u64 a0 6148914691236517205))) 3689348814741910323))))) 1085102592571150095) / 256))) / 65536))) + ((IntKind.u64.wrap ((IntKind.u64.wrap ((Go.bits .and .u64 (IntKind.u64.wrap (((IntKind.u64.wrap ((Go.bits .and .u64 ((IntKind.u64.wrap ((Go.bits .and .u64 (a0 / 2) 6148914691236517205) + (Go.bits .and .u64 a0 6148914691236517205))) / 4) 3689348814741910323) + (Go.bits .and .u64 (IntKind.u64.wrap ((Go.bits .and .u64 (a0 / 2) 6148914691236517205) + (Go.bits .and .u64 a0 6148914691236517205))) 3689348814741910323))) / 16) + (IntKind.u64.wrap ((Go.bits .and .u64 ((IntKind.u64.wrap ((Go.bits .and .u64 (a0 / 2) 6148914691236517205) + (Go.bits .and .u64 a0 6148914691236517205))) / 4) 3689348814741910323) + (Go.bits .and .u64 (IntKind.u64.wrap ((Go.bits .and .u64 (a0 / 2) 6148914691236517205) + (Go.bits .and .u64 a0 6148914691236517205))) 3689348814741910323))))) 1085102592571150095) + ((Go.bits .and .u64 (IntKind.u64.wrap (((IntKind.u64.wrap ((Go.bits .and .u64 ((IntKind.u64.wrap ((Go.bits .and .u64 (a0 / 2) 6148914691236517205) + (Go.bits .and .u64 a0 6148914691236517205))) / 4) 3689348814741910323) + (Go.bits .and .u64 (IntKind.u64.wrap ((Go.bits .and .u64 (a0 / 2) 6148914691236517205) + (Go.bits .and .u64 a0 6148914691236517205))) 3689348814741910323))) / 16) + (IntKind.u64.wrap ((Go.bits .and .u64 ((IntKind.u64.wrap ((Go.bits .and .u64 (a0 / 2) 6148914691236517205) + (Go.bits .and .u64 a0 6148914691236517205))) / 4) 3689348814741910323) + (Go.bits .and .u64 (IntKind.u64.wrap ((Go.bits .and .u64 (a0 / 2) 6148914691236517205) + (Go.bits .and .u64 a0 6148914691236517205))) 3689348814741910323))))) 1085102592571150095) / 256))) + ((IntKind.u64.wrap ((Go.bits .and .u64 (IntKind.u64.wrap (((IntKind.u64.wrap ((Go.bits .and .u64 ((IntKind.u64.wrap ((Go.bits .and .u64 (a0 / 2) 6148914691236517205) + (Go.bits .and .u64 a0 6148914691236517205))) / 4) 3689348814741910323) + (Go.bits .and .u64 (IntKind.u64.wrap ((Go.bits .and .u64 (a0 / 2) 6148914691236517205) + (Go.bits .and .u64 a0 6148914691236517205))) 3689348814741910323))) / 16) + (IntKind.u64.wrap ((Go.bits .and .u64 ((IntKind.u64.wrap ((Go.bits .and .u64 (a0 / 2) 6148914691236517205) + (Go.bits .and .u64 a0 6148914691236517205))) / 4) 3689348814741910323) + (Go.bits .and .u64 (IntKind.u64.wrap ((Go.bits .and .u64 (a0 / 2) 6148914691236517205) + (Go.bits .and .u64 a0 6148914691236517205))) 3689348814741910323))))) 1085102592571150095) + ((Go.bits .and .u64 (IntKind.u64.wrap (((IntKind.u64.wrap ((Go.bits .and .u64 ((IntKind.u64.wrap ((Go.bits .and .u64 (a0 / 2) 6148914691236517205) + (Go.bits .and .u64 a0 6148914691236517205))) / 4) 3689348814741910323) + (Go.bits .and .u64 (IntKind.u64.wrap ((Go.bits .and .u64 (a0 / 2) 6148914691236517205) + (Go.bits .and .u64 a0 6148914691236517205))) 3689348814741910323))) / 16) + (IntKind.u64.wrap ((Go.bits .and .u64 ((IntKind.u64.wrap ((Go.bits .and .u64 (a0 / 2) 6148914691236517205) + (Go.bits .and .u64 a0 6148914691236517205))) / 4) 3689348814741910323) + (Go.bits .and .u64 (IntKind.u64.wrap ((Go.bits .and .u64 (a0 / 2) 6148914691236517205) + (Go.bits .and .u64 a0 6148914691236517205))) 3689348814741910323))))) 1085102592571150095) / 256))) / 65536))) / 4294967296)))) 127)
set_option maxHeartbeats 8000000 in
set_option maxRecDepth 100000 in
theorem bits_OnesCount64.calls (a0 : Int) (r : Int) (w : World) (h : bits_OnesCount64.f a0 = some r) :
  Calls Tryd.prog 73 #[.int .u64 a0] w fun e w' => e = .returned (.int .i64 r) ∧ Drawn0 w w' := by
 have H : (some (Go.bits .and .i64 (wrap64 (IntKind.u64.wrap ((IntKind.u64.wrap ((IntKind.u64.wrap ((Go.bits .and .u64 (IntKind.u64.wrap (((IntKind.u64.wrap ((Go.bits .and .u64 ((IntKind.u64.wrap ((Go.bits .and .u64 (a0 / 2) 6148914691236517205) + (Go.bits .and .u64 a0 6148914691236517205))) / 4) 3689348814741910323) + (Go.bits .and .u64 (IntKind.u64.wrap ((Go.bits .and .u64 (a0 / 2) 6148914691236517205) + (Go.bits .and .u64 a0 6148914691236517205))) 3689348814741910323))) / 16) + (IntKind.u64.wrap ((Go.bits .and .u64 ((IntKind.u64.wrap ((Go.bits .and .u64 (a0 / 2) 6148914691236517205) + (Go.bits .and .u64 a0 6148914691236517205))) / 4) 3689348814741910323) + (Go.bits .and .u64 (IntKind.u64.wrap ((Go.bits .and .u64 (a0 / 2) 6148914691236517205) + (Go.bits .and .u64 a0 6148914691236517205))) 3689348814741910323))))) 1085102592571150095) + ((Go.bits .and .u64 (IntKind.u64.wrap (((IntKind.u64.wrap ((Go.bits .and .u64 ((IntKind.u64.wrap ((Go.bits .and .u64 (a0 / 2) 6148914691236517205) + (Go.bits .and .u64 a0 6148914691236517205))) / 4) 3689348814741910323) + (Go.bits .and .u64 (IntKind.u64.wrap ((Go.bits .and .u64 (a0 / 2) 6148914691236517205) + (Go.bits .and .u64 a0 6148914691236517205))) 3689348814741910323))) / 16) + (IntKind.u64.wrap ((Go.bits .and .u64 ((IntKind.u64.wrap ((Go.bits .and .u64 (a0 / 2) 6148914691236517205) + (Go.bits .and .u64 a0 6148914691236517205))) / 4) 3689348814741910323) + (Go.bits .and .u64 (IntKind.u64.wrap ((Go.bits .and .u64 (a0 / 2) 6148914691236517205) + (Go.bits .and .u64 a0 6148914691236517205))) 3689348814741910323))))) 1085102592571150095) / 256))) + ((IntKind.u64.wrap ((Go.bits .and .u64 (IntKind.u64.wrap (((IntKind.u64.wrap ((Go.bits .and .u64 ((IntKind.u64.wrap ((Go.bits .and .u64 (a0 / 2) 6148914691236517205) + (Go.bits .and .u64 a0 6148914691236517205))) / 4) 3689348814741910323) + (Go.bits .and .u64 (IntKind.u64.wrap ((Go.bits .and .u64 (a0 / 2) 6148914691236517205) + (Go.bits .and .u64 a0 6148914691236517205))) 3689348814741910323))) / 16) + (IntKind.u64.wrap ((Go.bits .and .u64 ((IntKind.u64.wrap ((Go.bits .and .u64 (a0 / 2) 6148914691236517205) + (Go.bits .and .u64 a0 6148914691236517205))) / 4) 3689348814741910323) + (Go.bits .and .u64 (IntKind.u64.wrap ((Go.bits .and .u64 (a0 / 2) 6148914691236517205) + (Go.bits .and .u64 a0 6148914691236517205))) 3689348814741910323))))) 1085102592571150095) + ((Go.bits .and .u64 (IntKind.u64.wrap (((IntKind.u64.wrap ((Go.bits .and .u64 ((IntKind.u64.wrap ((Go.bits .and .u64 (a0 / 2) 6148914691236517205) + (Go.bits .and .u64 a0 6148914691236517205))) / 4) 3689348814741910323) + (Go.bits .and .u64 (IntKind.u64.wrap ((Go.bits .and .u64 (a0 / 2) 6148914691236517205) + (Go.bits .and .u64 a0 6148914691236517205))) 3689348814741910323))) / 16) + (IntKind.u64.wrap ((Go.bits .and .u64 ((IntKind.u64.wrap ((Go.bits .and .u64 (a0 / 2) 6148914691236517205) + (Go.bits .and .u64 a0 6148914691236517205))) / 4) 3689348814741910323) + (Go.bits .and .u64 (IntKind.u64.wrap ((Go.bits .and .u64 (a0 / 2) 6148914691236517205) + (Go.bits .and .u64 a0 6148914691236517205))) 3689348814741910323))))) 1085102592571150095) / 256))) / 65536))) + ((IntKind.u64.wrap ((IntKind.u64.wrap ((Go.bits .and .u64 (IntKind.u64.wrap (((IntKind.u64.wrap ((Go.bits .and .u64 ((IntKind.u64.wrap ((Go.bits .and .u64 (a0 / 2) 6148914691236517205) + (Go.bits .and .u64 a0 6148914691236517205))) / 4) 3689348814741910323) + (Go.bits .and .u64 (IntKind.u64.wrap ((Go.bits .and .u64 (a0 / 2) 6148914691236517205) + (Go.bits .and .u64 a0 6148914691236517205))) 3689348814741910323))) / 16) + (IntKind.u64.wrap ((Go.bits .and .u64 ((IntKind.u64.wrap ((Go.bits .and .u64 (a0 / 2) 6148914691236517205) + (Go.bits .and .u64 a0 6148914691236517205))) / 4) 3689348814741910323) + (Go.bits .and .u64 (IntKind.u64.wrap ((Go.bits .and .u64 (a0 / 2) 6148914691236517205) + (Go.bits .and .u64 a0 6148914691236517205))) 3689348814741910323))))) 1085102592571150095) + ((Go.bits .and .u64 (IntKind.u64.wrap (((IntKind.u64.wrap ((Go.bits .and .u64 ((IntKind.u64.wrap ((Go.bits .and .u64 (a0 / 2) 6148914691236517205) + (Go.bits .and .u64 a0 6148914691236517205))) / 4) 3689348814741910323) + (Go.bits .and .u64 (IntKind.u64.wrap ((Go.bits .and .u64 (a0 / 2) 6148914691236517205) + (Go.bits .and .u64 a0 6148914691236517205))) 3689348814741910323))) / 16) + (IntKind.u64.wrap ((Go.bits .and .u64 ((IntKind.u64.wrap ((Go.bits .and .u64 (a0 / 2) 6148914691236517205) + (Go.bits .and .u64 a0 6148914691236517205))) / 4) 3689348814741910323) + (Go.bits .and .u64 (IntKind.u64.wrap ((Go.bits .and .u64 (a0 / 2) 6148914691236517205) + (Go.bits .and .u64 a0 6148914691236517205))) 3689348814741910323))))) 1085102592571150095) / 256))) + ((IntKind.u64.wrap ((Go.bits .and .u64 (IntKind.u64.wrap (((IntKind.u64.wrap ((Go.bits .and .u64 ((IntKind.u64.wrap ((Go.bits .and .u64 (a0 / 2) 6148914691236517205) + (Go.bits .and .u64 a0 6148914691236517205))) / 4) 3689348814741910323) + (Go.bits .and .u64 (IntKind.u64.wrap ((Go.bits .and .u64 (a0 / 2) 6148914691236517205) + (Go.bits .and .u64 a0 6148914691236517205))) 3689348814741910323))) / 16) + (IntKind.u64.wrap ((Go.bits .and .u64 ((IntKind.u64.wrap ((Go.bits .and .u64 (a0 / 2) 6148914691236517205) + (Go.bits .and .u64 a0 6148914691236517205))) / 4) 3689348814741910323) + (Go.bits .and .u64 (IntKind.u64.wrap ((Go.bits .and .u64 (a0 / 2) 6148914691236517205) + (Go.bits .and .u64 a0 6148914691236517205))) 3689348814741910323))))) 1085102592571150095) + ((Go.bits .and .u64 (IntKind.u64.wrap (((IntKind.u64.wrap ((Go.bits .and .u64 ((IntKind.u64.wrap ((Go.bits .and .u64 (a0 / 2) 6148914691236517205) + (Go.bits .and .u64 a0 6148914691236517205))) / 4) 3689348814741910323) + (Go.bits .and .u64 (IntKind.u64.wrap ((Go.bits .and .u64 (a0 / 2) 6148914691236517205) + (Go.bits .and .u64 a0 6148914691236517205))) 3689348814741910323))) / 16) + (IntKind.u64.wrap ((Go.bits .and .u64 ((IntKind.u64.wrap ((Go.bits .and .u64 (a0 / 2) 6148914691236517205) + (Go.bits .and .u64 a0 6148914691236517205))) / 4) 3689348814741910323) + (Go.bits .and .u64 (IntKind.u64.wrap ((Go.bits .and .u64 (a0 / 2) 6148914691236517205) + (Go.bits .and .u64 a0 6148914691236517205))) 3689348814741910323))))) 1085102592571150095) / 256))) / 65536))) / 4294967296)))) 127)) = some r := h
 clear h
 obtain rfl := Option.some.inj H
 go_enter Tryd.func73, Tryd.ntmps73
 go_wp2
 go_ret
 exact ⟨by first | rfl | (simp; done) | (simp [*]; done), by repeat (first | exact Drawn0.refl _ | apply Drawn0.step)⟩
/-! ### impl_ones: function 56 -/
def impl_ones.f (a0 : Int) : Option (Int) := (bits_OnesCount64.f (IntKind.u64.wrap (a0))).bind fun t231 => (some t231)
set_option maxHeartbeats 8000000 in
set_option maxRecDepth 100000 in
theorem impl_ones.calls (a0 : Int) (r : Int) (w : World) (h : impl_ones.f a0 = some r) :
  Calls Tryd.prog 56 #[.int .i64 a0] w fun e w' => e = .returned (.int .i64 r) ∧ Drawn0 w w' := by
 have H : ((bits_OnesCount64.f (IntKind.u64.wrap (a0))).bind fun t231 => (some t231)) = some r := h
 clear h; replace H := Option.bind_eq_some_iff.mp H; obtain ⟨t231, A20, H⟩ := H
 replace H : (some t231) = some r := H
 have A2 := Aside0.mk A20; clear A20
 obtain rfl := Option.some.inj H
 go_enter Tryd.func56, Tryd.ntmps56
 go_wp2_with (first | ((with_reducible refine gate_callee (f := 73) rfl ?_); refine goesL_ (some 5) rfl rfl Tryd.func73 (by kernel_rfl) rfl #[.int .u64 (IntKind.u64.wrap (a0))] rfl (by first | rfl | (simp only [List.map_toArray, List.map_cons, List.map_nil, List.length_drop, List.length_take]; rfl)) ?_; (with_reducible refine (bits_OnesCount64.calls (IntKind.u64.wrap (a0)) t231 _ A2.out).mono ?_); rintro e w' ⟨rfl, ⟨nd, rfl⟩⟩; refine ⟨_, rfl, ?_⟩))
 go_ret
 exact ⟨by first | rfl | (simp; done) | (simp [*]; done), by repeat (first | exact Drawn0.refl _ | apply Drawn0.step)⟩
end Go.Proofs.YtkmicbnbclkkkaaDoor.Print
