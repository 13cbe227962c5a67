/- Several texts of this repo's programs in one: plain lemmas, or functions of the given program as plain Lean functions with proofs that their calls compute them. -/
import Derived.Test.YthekbiofjhkecaaKRandom1
import Derived.Test.YthekbiofjhkecaaM23
import Derived.Deep.RegionHeld3
import Derived.Shelf.GgClosure.Gives
import Derived.BigQuiet
import Derived.DeepKeys5
import Derived.Carry
namespace Go.Proofs.Ythekbiofjhkecaa.Print
open Go.RowKit Go.Proofs.YthekbiofjhkecaaW.PrintWords Go.Proofs.YthekbiofjhkecaaW.PrintLast Go.Proofs.YthekbiofjhkecaaW.PrintMore
attribute [local go_sem] max2_int min2_int max_two min_two max_three min_three max_four min_four   -- for this text's walks alone
set_option linter.unusedVariables false
set_option linter.unusedSimpArgs false
set_option maxHeartbeats 8000000
set_option maxRecDepth 100000
private theorem sT_ {α : Type _} (l : List α) (i : Nat) (a : α) : l.toArray.setIfInBounds i a = (l.set i a).toArray := List.setIfInBounds_toArray ..
private theorem s0_ {α : Type _} {x y : α} {l : List α} : (x :: l).set 0 y = y :: l := rfl
private theorem s1_ {α : Type _} {x y : α} {l : List α} {n : Nat} : (x :: l).set (n + 1) y = x :: l.set n y := rfl
/-! ### impl_Table_size: function 50 -/
def impl_Table_size.f (a0_0 : Int) (a0_1 : Int) : Option (Int) := if 0 ≤ a0_0 then (some (shl .i64 1 a0_0)) else (none)
theorem impl_Table_size.calls (a0_0 : Int) (a0_1 : Int) (r : Int) (w : World) (h : impl_Table_size.f a0_0 a0_1 = some r) :
  Calls Try.prog 50 #[.agg #[.int .i64 a0_0, .int .i64 a0_1]] w fun e w' => e = .returned (.int .i64 r) ∧ Below w.heap.size w w' := by
 have hu25 := Try.underlying25
 have HB := Aside0.mk (Below.refl w.heap.size w)
 have H : (if 0 ≤ a0_0 then (some (shl .i64 1 a0_0)) else (none)) = some r := h
 clear h
 by_cases c2 : 0 ≤ a0_0
 ·rw [if_pos c2] at H
  have c2b0 := eq_true c2
  have c2b1 : decide (0 ≤ a0_0) = true := decide_eq_true c2
  clear c2
  obtain ⟨ji3, hji3⟩ : ∃ j_ : Int, (shl .i64 1 a0_0) = j_ := ⟨_, rfl⟩
  replace H : (some ji3) = some r := by first | (rw [hji3] at H; exact H) | (simp only [hji3] at H ⊢; exact H)
  have hji3_ : (IntKind.i64.wrap (1 * 2 ^ min a0_0.toNat 64)) = ji3 := hji3
  have hji3z : a0_0 ≤ 64 → (IntKind.i64.wrap (1 * 2 ^ a0_0.toNat)) = ji3 := shl_small hji3
  have hji3u : (IntKind.i64.wrap (2 ^ min a0_0.toNat 64)) = ji3 := by have h_ := hji3_; rw [Int.one_mul] at h_; exact h_
  have hji3v : a0_0 ≤ 64 → (IntKind.i64.wrap (2 ^ a0_0.toNat)) = ji3 := fun hle_ => by have h_ := hji3z hle_; rw [Int.one_mul] at h_; exact h_
  have hji3y : (wrap64 (1 * 2 ^ min a0_0.toNat 64)) = ji3 := (i64_w _).symm.trans hji3_
  have hji3x : a0_0 ≤ 64 → (wrap64 (1 * 2 ^ a0_0.toNat)) = ji3 := fun h_ => (i64_w _).symm.trans (hji3z h_)
  obtain rfl := Option.some.inj H
  go_enter Try.func50, Try.ntmps50
  go_wp2_with (first | ((with_reducible refine gate_dst (N := 1) rfl ?_); refine box_event ?hg (N := 1) ?hd (cs := #[.int .i64 a0_0, .int .i64 a0_1]) (t := 25) ?hr ?_; (case hd => rfl); (case hg => rfl); (case hr => first | (go_simp; done) | (go_simp; rfl)); intro gb192 hg w4 hbox hb; have n0_ := Aside0.mk (below_step (by repeat (first | (with_reducible first | exact HB.out | apply below_alloc | apply pw_below_drewN | apply below_drew1) | exact HB.out)) hb); have n1_ := Aside0.mk (hbox); have n2_ := Aside0.mk ((by rw [hg]; exact (below_size (by repeat (first | (with_reducible first | exact HB.out | apply below_alloc | apply pw_below_drewN | apply below_drew1) | exact HB.out))) : w.heap.size ≤ gb192)); have n3_ := Aside0.mk ((by rw [hg]; exact (below_size (by repeat (first | (with_reducible first | exact HB.out | apply below_alloc | apply pw_below_drewN | apply below_drew1) | exact HB.out))) : w.heap.size ≤ gb192)); clear HB; have HB := n0_; have BK192 := n1_; have GW192 := n2_; have GE192 := n3_; clear n0_ n1_ n2_ n3_; clear hb hbox hg; have hcz5_0 : w4.cell? ⟨gb192, 0, none⟩ = some (.int .i64 a0_0) := (blk_cell BK192.out 0).trans rfl; have hcz5_1 : w4.cell? ⟨gb192, 1, none⟩ = some (.int .i64 a0_1) := (blk_cell BK192.out 1).trans rfl; have hfz5_0 := blk_frozen BK192.out 0; have hfz5_1 := blk_frozen BK192.out 1))
  go_ret
  exact ⟨by first | rfl | (simp [errW_none, errW_some] <;> rfl) | (simp only [← hji3]; first | rfl | (simp [errW_none, errW_some] <;> rfl)) | (simp [*, errW_none, errW_some] <;> rfl), by repeat (first | (with_reducible first | exact HB.out | apply below_alloc | apply pw_below_drewN | apply below_drew1 | refine below_set ?_ GE192.out) | exact HB.out)⟩
 ·rw [if_neg c2] at H
  exact absurd H (by simp)
/-! ### impl_IsTable: function 43 -/
def impl_IsTable.f (a0_0 : Int) (a0_1 : Int) : Option (Bool) := (impl_isBits.f a0_0).bind fun t194 => (if t194 = true then (if a0_1 ≥ 0 then ((impl_Table_size.f a0_0 a0_1).bind fun t195 => (if 0 ≤ t195 then (some ((shr .i64 a0_1 t195) == 0)) else (none))) else (some false)) else (some false))
def impl_IsTable.T1 : Bool × List (List Nat × List Nat) := (true, [([], []), ([0], [0]), ([1], [1]), ([2, 2], [2]), ([3], [3]), ([4, 3], [3, 4]), ([5, 3], [3, 5]), ([3, 6], [3, 6]), ([7, 3], [7]), ([8], [8]), ([9, 8], [8, 9]), ([8], [8]), ([11, 8, 8], [8, 11]), ([10, 12, 8], [8, 10, 12]), ([13, 8], [8, 13]), ([8, 14], [8, 14]), ([15, 12, 0, 1, 2, 3, 4, 5, 6, 7, 8, 9, 10, 11, 12, 13, 14, 15], [15])])
def impl_IsTable.B1 : List Nat := [0, 1, 3, 7, 15, 31, 63, 127, 255, 511, 1023, 511, 2559, 8191, 16383, 32767, 65535]
theorem impl_IsTable.tab1 : rtab .any (opsOf Try.f43 1) = impl_IsTable.T1 := by kernel_rfl
theorem impl_IsTable.bits1 : waitsOk impl_IsTable.T1.2 impl_IsTable.B1 = true := by kernel_rfl
theorem impl_IsTable.calls (a0_0 : Int) (a0_1 : Int) (r : Bool) (w : World) (h : impl_IsTable.f a0_0 a0_1 = some r) :
  Calls Try.prog 43 #[.agg #[.int .i64 a0_0, .int .i64 a0_1]] w fun e w' => e = .returned (.bool r) ∧ Below w.heap.size w w' := by
 have hu25 := Try.underlying25
 have HB := Aside0.mk (Below.refl w.heap.size w)
 have H : ((impl_isBits.f a0_0).bind fun t194 => (if t194 = true then (if a0_1 ≥ 0 then ((impl_Table_size.f a0_0 a0_1).bind fun t195 => (if 0 ≤ t195 then (some ((shr .i64 a0_1 t195) == 0)) else (none))) else (some false)) else (some false))) = some r := h
 clear h; replace H := Option.bind_eq_some_iff.mp H; obtain ⟨t194, A20, H⟩ := H; (try dsimp only at H); have A2 := Aside0.mk A20; clear A20
 by_cases c3 : t194 = true
 ·subst c3
  have H1 : (if a0_1 ≥ 0 then ((impl_Table_size.f a0_0 a0_1).bind fun t195 => (if 0 ≤ t195 then (some ((shr .i64 a0_1 t195) == 0)) else (none))) else (some false)) = some r := by rw [if_pos rfl] at H; exact H
  clear H; have H := H1; clear H1
  by_cases c4 : a0_1 ≥ 0
  ·rw [if_pos c4] at H
   have c4b0 : decide (0 ≤ a0_1) = true := decide_eq_true c4
   clear c4; replace H := Option.bind_eq_some_iff.mp H; obtain ⟨t195, A50, H⟩ := H
   replace H : (if 0 ≤ t195 then (some ((shr .i64 a0_1 t195) == 0)) else (none)) = some r := H
   have A5 := Aside0.mk A50; clear A50
   by_cases c6 : 0 ≤ t195
   ·rw [if_pos c6] at H
    have c6b0 := eq_true c6
    have c6b1 : decide (0 ≤ t195) = true := decide_eq_true c6
    clear c6
    obtain ⟨ji7, hji7⟩ : ∃ j_ : Int, (shr .i64 a0_1 t195) = j_ := ⟨_, rfl⟩
    replace H : (some ((ji7) == 0)) = some r := by first | (rw [hji7] at H; exact H) | (simp only [hji7] at H ⊢; exact H)
    (try rw [hji7] at A2)
    (try rw [hji7] at A5)
    have hji7_ : (a0_1 / 2 ^ min t195.toNat 64) = ji7 := hji7
    have hji7z : t195 ≤ 64 → (a0_1 / 2 ^ t195.toNat) = ji7 := shr_small hji7
    obtain rfl := Option.some.inj H
    go_enter Try.func43, Try.ntmps43
    try go_wp2_with (first | ((with_reducible refine gate_dst (N := 1) rfl ?_); refine box_event ?hg (N := 1) ?hd (cs := #[.int .i64 a0_0, .int .i64 a0_1]) (t := 25) ?hr ?_; (case hd => rfl); (case hg => rfl); (case hr => first | (go_simp; done) | (go_simp; rfl)); intro gb193 hg w8 hbox hb; have n0_ := Aside0.mk (below_step (by repeat (first | (with_reducible first | exact HB.out | apply below_alloc | apply pw_below_drewN | apply below_drew1) | exact HB.out)) hb); have n1_ := Aside0.mk (hbox); have n2_ := Aside0.mk ((by rw [hg]; exact (below_size (by repeat (first | (with_reducible first | exact HB.out | apply below_alloc | apply pw_below_drewN | apply below_drew1) | exact HB.out))) : w.heap.size ≤ gb193)); have n3_ := Aside0.mk ((by rw [hg]; exact (below_size (by repeat (first | (with_reducible first | exact HB.out | apply below_alloc | apply pw_below_drewN | apply below_drew1) | exact HB.out))) : w.heap.size ≤ gb193)); clear HB; have HB := n0_; have BK193 := n1_; have GW193 := n2_; have GE193 := n3_; clear n0_ n1_ n2_ n3_; clear hb hbox hg))
    have n0_ := Aside0.mk (blk_drew BK193.out)
    have n1_ := Aside0.mk (below_drew1 HB.out)
    clear BK193; clear HB; have BK193 := n0_; have HB := n1_; clear n0_ n1_
    refine start_ (n := 17) (S := fun w' => w'.cell? ⟨gb193, 0, none⟩ = some (.int .i64 a0_0) ∧ w'.cell? ⟨gb193, 1, none⟩ = some (.int .i64 a0_1)) (ds := []) #[false, false, false, false, false, false, false, false, false, false, false, false, false, false, false, false, false] (by kernel_rfl) rfl rfl ⟨(blk_cell BK193.out 0).trans rfl, (blk_cell BK193.out 1).trans rfl⟩ (fun hHeld => ?_); refine with_tabW impl_IsTable.tab1 impl_IsTable.bits1 (fun HT_ HW_ => ?_)
    generalize w8.drew = w9 at BK193 HB hHeld ⊢
    refine pure_ (i := 0) (N := some 3) (v := ?_) (a' := ?_) #[true, false, false, false, false, false, false, false, false, false, false, false, false, false, false, false, false] rfl rfl (any_of HT_.out (by kernel_rfl)) (fun _ _ _ h => h) (Or.inl ⟨by rfl, ?_⟩) ?_ ?_; rotate_left
    ·intro w'; go_simp; with_reducible rfl
    rotate_left
    ·simp only [Act.put, sT_, s0_, s1_, i64_w, i32_w]; rfl
    refine take_ (i := 1) (N := some 4) (v := ?_) (a' := ?_) #[true, true, false, false, false, false, false, false, false, false, false, false, false, false, false, false, false] rfl rfl (take_ofW HT_.out HW_.out (by kernel_rfl)) (fun _ _ _ h => h) (Or.inl ⟨by rfl, ?_⟩) hHeld ?_ ?_
    rotate_left
    ·rintro w' ⟨s0, s1⟩
     go_simp; with_reducible rfl
    rotate_left
    ·simp only [Act.put, sT_, s0_, s1_, i64_w, i32_w]; rfl
    refine one_ (i := 2) (N := some 5) #[true, true, true, false, false, false, false, false, false, false, false, false, false, false, false, false, false] rfl rfl (one_of HT_.out (by kernel_rfl)) (by decide) (fun K hK => ?_)
    refine goes_ Try.func41 (by kernel_rfl) rfl #[.int .i64 a0_0] (by rfl) rfl rfl (by first | rfl | (simp only [List.map_toArray, List.map_cons, List.map_nil, List.length_drop, List.length_take]; rfl)) ?_
    with_reducible refine (impl_isBits.calls a0_0 true _ A2.out).mono ?_
    rintro e w' ⟨rfl, ⟨nd, rfl⟩⟩
    refine ⟨_, rfl, ?_⟩
    refine hK.out _ _ ⟨(blk_cell BK193.out 0).trans rfl, (blk_cell BK193.out 1).trans rfl⟩ (fun hHeld => ?_)
    clear hK K
    refine norm_ (a' := ?_) ?_ ?_
    rotate_left
    ·show Act.put _ (some 5) _ = _
     simp only [Act.put, sT_, s0_, s1_, i64_w, i32_w]; rfl
    refine pure_ (i := 3) (N := some 6) (v := ?_) (a' := ?_) #[true, true, true, true, false, false, false, false, false, false, false, false, false, false, false, false, false] rfl rfl (any_of HT_.out (by kernel_rfl)) (fun _ _ _ h => h) (Or.inl ⟨by rfl, ?_⟩) ?_ ?_; rotate_left
    ·intro w'; go_simp; with_reducible rfl
    rotate_left
    ·simp only [Act.put, sT_, s0_, s1_, i64_w, i32_w]; rfl
    refine pure_ (i := 4) (N := some 7) (v := ?_) (a' := ?_) #[true, true, true, true, true, false, false, false, false, false, false, false, false, false, false, false, false] rfl rfl (any_of HT_.out (by kernel_rfl)) (fun _ _ _ h => h) (Or.inl ⟨by rfl, ?_⟩) ?_ ?_; rotate_left
    ·intro w'; go_simp; with_reducible rfl
    rotate_left
    ·simp only [Act.put, sT_, s0_, s1_, i64_w, i32_w]; rfl
    refine take_ (i := 5) (N := some 8) (v := ?_) (a' := ?_) #[true, true, true, true, true, true, false, false, false, false, false, false, false, false, false, false, false] rfl rfl (take_ofW HT_.out HW_.out (by kernel_rfl)) (fun _ _ _ h => h) (Or.inl ⟨by rfl, ?_⟩) hHeld ?_ ?_
    rotate_left
    ·rintro w' ⟨s0, s1⟩
     go_simp; with_reducible rfl
    rotate_left
    ·simp only [Act.put, sT_, s0_, s1_, i64_w, i32_w]; rfl
    refine pure_ (i := 6) (N := some 9) (v := ?_) (a' := ?_) #[true, true, true, true, true, true, true, false, false, false, false, false, false, false, false, false, false] rfl rfl (any_of HT_.out (by kernel_rfl)) (fun _ _ _ h => h) (Or.inl ⟨by rfl, ?_⟩) ?_ ?_; rotate_left
    ·intro w'; go_simp; with_reducible rfl
    rotate_left
    ·simp only [Act.put, sT_, s0_, s1_, i64_w, i32_w]; rfl
    refine pure_ (i := 7) (N := some 10) (v := ?_) (a' := ?_) #[true, true, true, true, true, true, true, true, false, false, false, false, false, false, false, false, false] rfl rfl (any_of HT_.out (by kernel_rfl)) (fun _ _ _ h => h) (Or.inl ⟨by rfl, ?_⟩) ?_ ?_; rotate_left
    ·intro w'; go_simp; with_reducible rfl
    rotate_left
    ·simp only [Act.put, sT_, s0_, s1_, i64_w, i32_w]; rfl
    refine pure_ (i := 8) (N := some 11) (v := ?_) (a' := ?_) #[true, true, true, true, true, true, true, true, true, false, false, false, false, false, false, false, false] rfl rfl (any_of HT_.out (by kernel_rfl)) (fun _ _ _ h => h) (Or.inl ⟨by rfl, ?_⟩) ?_ ?_; rotate_left
    ·intro w'; go_simp; with_reducible rfl
    rotate_left
    ·simp only [Act.put, sT_, s0_, s1_, i64_w, i32_w]; rfl
    refine pure_ (i := 9) (N := some 12) (v := ?_) (a' := ?_) #[true, true, true, true, true, true, true, true, true, true, false, false, false, false, false, false, false] rfl rfl (any_of HT_.out (by kernel_rfl)) (fun _ _ _ h => h) (Or.inl ⟨by rfl, ?_⟩) ?_ ?_; rotate_left
    ·intro w'; go_simp; with_reducible rfl
    rotate_left
    ·simp only [Act.put, sT_, s0_, s1_, i64_w, i32_w]; rfl
    refine take_ (i := 10) (N := some 13) (v := ?_) (a' := ?_) #[true, true, true, true, true, true, true, true, true, true, true, false, false, false, false, false, false] rfl rfl (take_ofW HT_.out HW_.out (by kernel_rfl)) (fun _ _ _ h => h) (Or.inl ⟨by rfl, ?_⟩) hHeld ?_ ?_
    rotate_left
    ·rintro w' ⟨s0, s1⟩
     go_simp; with_reducible rfl
    rotate_left
    ·simp only [Act.put, sT_, s0_, s1_, i64_w, i32_w]; rfl
    refine take_ (i := 11) (N := some 14) (v := ?_) (a' := ?_) #[true, true, true, true, true, true, true, true, true, true, true, true, false, false, false, false, false] rfl rfl (take_ofW HT_.out HW_.out (by kernel_rfl)) (fun _ _ _ h => h) (Or.inl ⟨by rfl, ?_⟩) hHeld ?_ ?_
    rotate_left
    ·rintro w' ⟨s0, s1⟩
     go_simp; with_reducible rfl
    rotate_left
    ·simp only [Act.put, sT_, s0_, s1_, i64_w, i32_w]; rfl
    refine one_ (i := 12) (N := some 15) #[true, true, true, true, true, true, true, true, true, true, true, true, true, false, false, false, false] rfl rfl (one_of HT_.out (by kernel_rfl)) (by decide) (fun K hK => ?_)
    refine goes_ Try.func50 (by kernel_rfl) rfl #[.agg #[.int .i64 a0_0, .int .i64 a0_1]] (by rfl) rfl rfl (by first | rfl | (simp only [List.map_toArray, List.map_cons, List.map_nil, List.length_drop, List.length_take]; rfl)) ?_
    with_reducible refine (impl_Table_size.calls a0_0 a0_1 t195 _ A5.out).mono ?_
    rintro e w10 ⟨rfl, hb⟩
    refine ⟨_, rfl, ?_⟩
    have n0_ := Aside0.mk (blk_below (g := gb193) (o := .cells #[.int .i64 a0_0, .int .i64 a0_1] 25 (0, 0)) (by (with_reducible repeat (first | refine blk_drewN ?_ _ | refine blk_drew ?_ | refine blk_alloc ?_ _)); exact BK193.out) hb)
    have n1_ := Aside0.mk (below_step (by repeat (first | (with_reducible first | exact HB.out | apply below_alloc | apply pw_below_drewN | apply below_drew1 | refine below_set ?_ GE193.out) | exact HB.out)) hb)
    clear BK193; clear HB; have BK193 := n0_; have HB := n1_; clear n0_ n1_; (try clear hb); (try clear hb2); (try clear hk); (try clear hi)
    refine hK.out _ _ ⟨(blk_cell BK193.out 0).trans rfl, (blk_cell BK193.out 1).trans rfl⟩ (fun hHeld => ?_)
    clear hK K
    refine norm_ (a' := ?_) ?_ ?_
    rotate_left
    ·show Act.put _ (some 15) _ = _
     simp only [Act.put, sT_, s0_, s1_, i64_w, i32_w]; rfl
    refine pure_ (i := 13) (N := some 16) (v := ?_) (a' := ?_) #[true, true, true, true, true, true, true, true, true, true, true, true, true, true, false, false, false] rfl rfl (any_of HT_.out (by kernel_rfl)) (fun _ _ _ h => h) (Or.inl ⟨by rfl, ?_⟩) ?_ ?_; rotate_left
    ·intro w'; go_simp; with_reducible rfl
    rotate_left
    ·simp only [Act.put, sT_, s0_, s1_, i64_w, i32_w]; rfl
    refine pure_ (i := 14) (N := some 17) (v := ?_) (a' := ?_) #[true, true, true, true, true, true, true, true, true, true, true, true, true, true, true, false, false] rfl rfl (any_of HT_.out (by kernel_rfl)) (fun _ _ _ h => h) (Or.inl ⟨by rfl, ?_⟩) ?_ ?_; rotate_left
    ·intro w'; go_simp; with_reducible rfl
    rotate_left
    ·simp only [Act.put, sT_, s0_, s1_, i64_w, i32_w]; rfl
    refine pure_ (i := 15) (N := some 18) (v := ?_) (a' := ?_) #[true, true, true, true, true, true, true, true, true, true, true, true, true, true, true, true, false] rfl rfl (any_of HT_.out (by kernel_rfl)) (fun _ _ _ h => h) (Or.inl ⟨by rfl, ?_⟩) ?_ ?_; rotate_left
    ·intro w'; go_simp; with_reducible rfl
    rotate_left
    ·simp only [Act.put, sT_, s0_, s1_, i64_w, i32_w]; rfl
    refine pure_ (i := 16) (N := some 2) (v := ?_) (a' := ?_) #[true, true, true, true, true, true, true, true, true, true, true, true, true, true, true, true, true] rfl rfl (any_of HT_.out (by kernel_rfl)) (fun _ _ _ h => h) (Or.inl ⟨by rfl, ?_⟩) ?_ ?_; rotate_left
    ·intro w'; go_simp; with_reducible rfl
    rotate_left
    ·simp only [Act.put, sT_, s0_, s1_, i64_w, i32_w]; rfl
    refine done_ (done_of HT_.out (by kernel_rfl)) ?_
    try go_wp2
    go_ret
    exact ⟨by first | rfl | (simp [errW_none, errW_some] <;> rfl) | (simp only [← hji7]; first | rfl | (simp [errW_none, errW_some] <;> rfl)) | (simp [*, errW_none, errW_some] <;> rfl), by repeat (first | (with_reducible first | exact HB.out | apply below_alloc | apply pw_below_drewN | apply below_drew1 | refine below_set ?_ GE193.out) | exact HB.out)⟩
   ·rw [if_neg c6] at H
    exact absurd H (by simp)
  ·rw [if_neg c4] at H
   have c4b0 : decide (0 ≤ a0_1) = false := decide_eq_false c4
   clear c4
   obtain rfl := Option.some.inj H
   go_enter Try.func43, Try.ntmps43
   try go_wp2_with (first | ((with_reducible refine gate_dst (N := 1) rfl ?_); refine box_event ?hg (N := 1) ?hd (cs := #[.int .i64 a0_0, .int .i64 a0_1]) (t := 25) ?hr ?_; (case hd => rfl); (case hg => rfl); (case hr => first | (go_simp; done) | (go_simp; rfl)); intro gb193 hg w11 hbox hb; have n0_ := Aside0.mk (below_step (by repeat (first | (with_reducible first | exact HB.out | apply below_alloc | apply pw_below_drewN | apply below_drew1) | exact HB.out)) hb); have n1_ := Aside0.mk (hbox); have n2_ := Aside0.mk ((by rw [hg]; exact (below_size (by repeat (first | (with_reducible first | exact HB.out | apply below_alloc | apply pw_below_drewN | apply below_drew1) | exact HB.out))) : w.heap.size ≤ gb193)); have n3_ := Aside0.mk ((by rw [hg]; exact (below_size (by repeat (first | (with_reducible first | exact HB.out | apply below_alloc | apply pw_below_drewN | apply below_drew1) | exact HB.out))) : w.heap.size ≤ gb193)); clear HB; have HB := n0_; have BK193 := n1_; have GW193 := n2_; have GE193 := n3_; clear n0_ n1_ n2_ n3_; clear hb hbox hg))
   have n0_ := Aside0.mk (blk_drew BK193.out)
   have n1_ := Aside0.mk (below_drew1 HB.out)
   clear BK193; clear HB; have BK193 := n0_; have HB := n1_; clear n0_ n1_
   refine start_ (n := 17) (S := fun w' => w'.cell? ⟨gb193, 0, none⟩ = some (.int .i64 a0_0) ∧ w'.cell? ⟨gb193, 1, none⟩ = some (.int .i64 a0_1)) (ds := []) #[false, false, false, false, false, false, false, false, false, false, false, false, false, false, false, false, false] (by kernel_rfl) rfl rfl ⟨(blk_cell BK193.out 0).trans rfl, (blk_cell BK193.out 1).trans rfl⟩ (fun hHeld => ?_); refine with_tabW impl_IsTable.tab1 impl_IsTable.bits1 (fun HT_ HW_ => ?_)
   generalize w11.drew = w12 at BK193 HB hHeld ⊢
   refine pure_ (i := 0) (N := some 3) (v := ?_) (a' := ?_) #[true, false, false, false, false, false, false, false, false, false, false, false, false, false, false, false, false] rfl rfl (any_of HT_.out (by kernel_rfl)) (fun _ _ _ h => h) (Or.inl ⟨by rfl, ?_⟩) ?_ ?_; rotate_left
   ·intro w'; go_simp; with_reducible rfl
   rotate_left
   ·simp only [Act.put, sT_, s0_, s1_, i64_w, i32_w]; rfl
   refine take_ (i := 1) (N := some 4) (v := ?_) (a' := ?_) #[true, true, false, false, false, false, false, false, false, false, false, false, false, false, false, false, false] rfl rfl (take_ofW HT_.out HW_.out (by kernel_rfl)) (fun _ _ _ h => h) (Or.inl ⟨by rfl, ?_⟩) hHeld ?_ ?_
   rotate_left
   ·rintro w' ⟨s0, s1⟩
    go_simp; with_reducible rfl
   rotate_left
   ·simp only [Act.put, sT_, s0_, s1_, i64_w, i32_w]; rfl
   refine one_ (i := 2) (N := some 5) #[true, true, true, false, false, false, false, false, false, false, false, false, false, false, false, false, false] rfl rfl (one_of HT_.out (by kernel_rfl)) (by decide) (fun K hK => ?_)
   refine goes_ Try.func41 (by kernel_rfl) rfl #[.int .i64 a0_0] (by rfl) rfl rfl (by first | rfl | (simp only [List.map_toArray, List.map_cons, List.map_nil, List.length_drop, List.length_take]; rfl)) ?_
   with_reducible refine (impl_isBits.calls a0_0 true _ A2.out).mono ?_
   rintro e w' ⟨rfl, ⟨nd, rfl⟩⟩
   refine ⟨_, rfl, ?_⟩
   refine hK.out _ _ ⟨(blk_cell BK193.out 0).trans rfl, (blk_cell BK193.out 1).trans rfl⟩ (fun hHeld => ?_)
   clear hK K
   refine norm_ (a' := ?_) ?_ ?_
   rotate_left
   ·show Act.put _ (some 5) _ = _
    simp only [Act.put, sT_, s0_, s1_, i64_w, i32_w]; rfl
   refine pure_ (i := 3) (N := some 6) (v := ?_) (a' := ?_) #[true, true, true, true, false, false, false, false, false, false, false, false, false, false, false, false, false] rfl rfl (any_of HT_.out (by kernel_rfl)) (fun _ _ _ h => h) (Or.inl ⟨by rfl, ?_⟩) ?_ ?_; rotate_left
   ·intro w'; go_simp; with_reducible rfl
   rotate_left
   ·simp only [Act.put, sT_, s0_, s1_, i64_w, i32_w]; rfl
   refine pure_ (i := 4) (N := some 7) (v := ?_) (a' := ?_) #[true, true, true, true, true, false, false, false, false, false, false, false, false, false, false, false, false] rfl rfl (any_of HT_.out (by kernel_rfl)) (fun _ _ _ h => h) (Or.inl ⟨by rfl, ?_⟩) ?_ ?_; rotate_left
   ·intro w'; go_simp; with_reducible rfl
   rotate_left
   ·simp only [Act.put, sT_, s0_, s1_, i64_w, i32_w]; rfl
   refine take_ (i := 5) (N := some 8) (v := ?_) (a' := ?_) #[true, true, true, true, true, true, false, false, false, false, false, false, false, false, false, false, false] rfl rfl (take_ofW HT_.out HW_.out (by kernel_rfl)) (fun _ _ _ h => h) (Or.inl ⟨by rfl, ?_⟩) hHeld ?_ ?_
   rotate_left
   ·rintro w' ⟨s0, s1⟩
    go_simp; with_reducible rfl
   rotate_left
   ·simp only [Act.put, sT_, s0_, s1_, i64_w, i32_w]; rfl
   refine pure_ (i := 6) (N := some 9) (v := ?_) (a' := ?_) #[true, true, true, true, true, true, true, false, false, false, false, false, false, false, false, false, false] rfl rfl (any_of HT_.out (by kernel_rfl)) (fun _ _ _ h => h) (Or.inl ⟨by rfl, ?_⟩) ?_ ?_; rotate_left
   ·intro w'; go_simp; with_reducible rfl
   rotate_left
   ·simp only [Act.put, sT_, s0_, s1_, i64_w, i32_w]; rfl
   refine pure_ (i := 7) (N := some 10) (v := ?_) (a' := ?_) #[true, true, true, true, true, true, true, true, false, false, false, false, false, false, false, false, false] rfl rfl (any_of HT_.out (by kernel_rfl)) (fun _ _ _ h => h) (Or.inl ⟨by rfl, ?_⟩) ?_ ?_; rotate_left
   ·intro w'; go_simp; with_reducible rfl
   rotate_left
   ·simp only [Act.put, sT_, s0_, s1_, i64_w, i32_w]; rfl
   refine pure_ (i := 8) (N := some 11) (v := ?_) (a' := ?_) #[true, true, true, true, true, true, true, true, true, false, false, false, false, false, false, false, false] rfl rfl (any_of HT_.out (by kernel_rfl)) (fun _ _ _ h => h) (Or.inl ⟨by rfl, ?_⟩) ?_ ?_; rotate_left
   ·intro w'; go_simp; with_reducible rfl
   rotate_left
   ·simp only [Act.put, sT_, s0_, s1_, i64_w, i32_w]; rfl
   refine pure_ (i := 9) (N := some 12) (v := undef) (a' := ?_) #[true, true, true, true, true, true, true, true, true, true, false, false, false, false, false, false, false] rfl rfl (any_of HT_.out (by kernel_rfl)) (fun _ _ _ h => h) (Or.inr ⟨by rfl, rfl⟩) ?_ ?_; rotate_left
   ·simp only [Act.put, sT_, s0_, s1_, i64_w, i32_w]; rfl
   refine pure_ (i := 10) (N := some 13) (v := undef) (a' := ?_) #[true, true, true, true, true, true, true, true, true, true, true, false, false, false, false, false, false] rfl rfl (any_of HT_.out (by kernel_rfl)) (fun _ _ _ h => h) (Or.inr ⟨by rfl, rfl⟩) ?_ ?_; rotate_left
   ·simp only [Act.put, sT_, s0_, s1_, i64_w, i32_w]; rfl
   refine pure_ (i := 11) (N := some 14) (v := undef) (a' := ?_) #[true, true, true, true, true, true, true, true, true, true, true, true, false, false, false, false, false] rfl rfl (any_of HT_.out (by kernel_rfl)) (fun _ _ _ h => h) (Or.inr ⟨by rfl, rfl⟩) ?_ ?_; rotate_left
   ·simp only [Act.put, sT_, s0_, s1_, i64_w, i32_w]; rfl
   refine pure_ (i := 12) (N := some 15) (v := undef) (a' := ?_) #[true, true, true, true, true, true, true, true, true, true, true, true, true, false, false, false, false] rfl rfl (any_of HT_.out (by kernel_rfl)) (fun _ _ _ h => h) (Or.inr ⟨by rfl, rfl⟩) ?_ ?_; rotate_left
   ·simp only [Act.put, sT_, s0_, s1_, i64_w, i32_w]; rfl
   refine pure_ (i := 13) (N := some 16) (v := undef) (a' := ?_) #[true, true, true, true, true, true, true, true, true, true, true, true, true, true, false, false, false] rfl rfl (any_of HT_.out (by kernel_rfl)) (fun _ _ _ h => h) (Or.inr ⟨by rfl, rfl⟩) ?_ ?_; rotate_left
   ·simp only [Act.put, sT_, s0_, s1_, i64_w, i32_w]; rfl
   refine pure_ (i := 14) (N := some 17) (v := undef) (a' := ?_) #[true, true, true, true, true, true, true, true, true, true, true, true, true, true, true, false, false] rfl rfl (any_of HT_.out (by kernel_rfl)) (fun _ _ _ h => h) (Or.inr ⟨by rfl, rfl⟩) ?_ ?_; rotate_left
   ·simp only [Act.put, sT_, s0_, s1_, i64_w, i32_w]; rfl
   refine pure_ (i := 15) (N := some 18) (v := ?_) (a' := ?_) #[true, true, true, true, true, true, true, true, true, true, true, true, true, true, true, true, false] rfl rfl (any_of HT_.out (by kernel_rfl)) (fun _ _ _ h => h) (Or.inl ⟨by rfl, ?_⟩) ?_ ?_; rotate_left
   ·intro w'; go_simp; with_reducible rfl
   rotate_left
   ·simp only [Act.put, sT_, s0_, s1_, i64_w, i32_w]; rfl
   refine pure_ (i := 16) (N := some 2) (v := ?_) (a' := ?_) #[true, true, true, true, true, true, true, true, true, true, true, true, true, true, true, true, true] rfl rfl (any_of HT_.out (by kernel_rfl)) (fun _ _ _ h => h) (Or.inl ⟨by rfl, ?_⟩) ?_ ?_; rotate_left
   ·intro w'; go_simp; with_reducible rfl
   rotate_left
   ·simp only [Act.put, sT_, s0_, s1_, i64_w, i32_w]; rfl
   refine done_ (done_of HT_.out (by kernel_rfl)) ?_
   try go_wp2
   go_ret
   exact ⟨by first | rfl | (simp [errW_none, errW_some] <;> rfl) | (simp [*, errW_none, errW_some] <;> rfl), by repeat (first | (with_reducible first | exact HB.out | apply below_alloc | apply pw_below_drewN | apply below_drew1 | refine below_set ?_ GE193.out) | exact HB.out)⟩
 ·replace c3 := Bool.eq_false_iff.mpr c3
  subst c3
  have H1 : (some false) = some r := by rw [if_neg (show ¬ (false = true) by decide)] at H; exact H
  clear H; have H := H1; clear H1
  obtain rfl := Option.some.inj H
  go_enter Try.func43, Try.ntmps43
  try go_wp2_with (first | ((with_reducible refine gate_dst (N := 1) rfl ?_); refine box_event ?hg (N := 1) ?hd (cs := #[.int .i64 a0_0, .int .i64 a0_1]) (t := 25) ?hr ?_; (case hd => rfl); (case hg => rfl); (case hr => first | (go_simp; done) | (go_simp; rfl)); intro gb193 hg w13 hbox hb; have n0_ := Aside0.mk (below_step (by repeat (first | (with_reducible first | exact HB.out | apply below_alloc | apply pw_below_drewN | apply below_drew1) | exact HB.out)) hb); have n1_ := Aside0.mk (hbox); have n2_ := Aside0.mk ((by rw [hg]; exact (below_size (by repeat (first | (with_reducible first | exact HB.out | apply below_alloc | apply pw_below_drewN | apply below_drew1) | exact HB.out))) : w.heap.size ≤ gb193)); have n3_ := Aside0.mk ((by rw [hg]; exact (below_size (by repeat (first | (with_reducible first | exact HB.out | apply below_alloc | apply pw_below_drewN | apply below_drew1) | exact HB.out))) : w.heap.size ≤ gb193)); clear HB; have HB := n0_; have BK193 := n1_; have GW193 := n2_; have GE193 := n3_; clear n0_ n1_ n2_ n3_; clear hb hbox hg))
  have n0_ := Aside0.mk (blk_drew BK193.out)
  have n1_ := Aside0.mk (below_drew1 HB.out)
  clear BK193; clear HB; have BK193 := n0_; have HB := n1_; clear n0_ n1_
  refine start_ (n := 17) (S := fun w' => w'.cell? ⟨gb193, 0, none⟩ = some (.int .i64 a0_0) ∧ w'.cell? ⟨gb193, 1, none⟩ = some (.int .i64 a0_1)) (ds := []) #[false, false, false, false, false, false, false, false, false, false, false, false, false, false, false, false, false] (by kernel_rfl) rfl rfl ⟨(blk_cell BK193.out 0).trans rfl, (blk_cell BK193.out 1).trans rfl⟩ (fun hHeld => ?_); refine with_tabW impl_IsTable.tab1 impl_IsTable.bits1 (fun HT_ HW_ => ?_)
  generalize w13.drew = w14 at BK193 HB hHeld ⊢
  refine pure_ (i := 0) (N := some 3) (v := ?_) (a' := ?_) #[true, false, false, false, false, false, false, false, false, false, false, false, false, false, false, false, false] rfl rfl (any_of HT_.out (by kernel_rfl)) (fun _ _ _ h => h) (Or.inl ⟨by rfl, ?_⟩) ?_ ?_; rotate_left
  ·intro w'; go_simp; with_reducible rfl
  rotate_left
  ·simp only [Act.put, sT_, s0_, s1_, i64_w, i32_w]; rfl
  refine take_ (i := 1) (N := some 4) (v := ?_) (a' := ?_) #[true, true, false, false, false, false, false, false, false, false, false, false, false, false, false, false, false] rfl rfl (take_ofW HT_.out HW_.out (by kernel_rfl)) (fun _ _ _ h => h) (Or.inl ⟨by rfl, ?_⟩) hHeld ?_ ?_
  rotate_left
  ·rintro w' ⟨s0, s1⟩
   go_simp; with_reducible rfl
  rotate_left
  ·simp only [Act.put, sT_, s0_, s1_, i64_w, i32_w]; rfl
  refine one_ (i := 2) (N := some 5) #[true, true, true, false, false, false, false, false, false, false, false, false, false, false, false, false, false] rfl rfl (one_of HT_.out (by kernel_rfl)) (by decide) (fun K hK => ?_)
  refine goes_ Try.func41 (by kernel_rfl) rfl #[.int .i64 a0_0] (by rfl) rfl rfl (by first | rfl | (simp only [List.map_toArray, List.map_cons, List.map_nil, List.length_drop, List.length_take]; rfl)) ?_
  with_reducible refine (impl_isBits.calls a0_0 false _ A2.out).mono ?_
  rintro e w' ⟨rfl, ⟨nd, rfl⟩⟩
  refine ⟨_, rfl, ?_⟩
  refine hK.out _ _ ⟨(blk_cell BK193.out 0).trans rfl, (blk_cell BK193.out 1).trans rfl⟩ (fun hHeld => ?_)
  clear hK K
  refine norm_ (a' := ?_) ?_ ?_
  rotate_left
  ·show Act.put _ (some 5) _ = _
   simp only [Act.put, sT_, s0_, s1_, i64_w, i32_w]; rfl
  refine pure_ (i := 3) (N := some 6) (v := ?_) (a' := ?_) #[true, true, true, true, false, false, false, false, false, false, false, false, false, false, false, false, false] rfl rfl (any_of HT_.out (by kernel_rfl)) (fun _ _ _ h => h) (Or.inl ⟨by rfl, ?_⟩) ?_ ?_; rotate_left
  ·intro w'; go_simp; with_reducible rfl
  rotate_left
  ·simp only [Act.put, sT_, s0_, s1_, i64_w, i32_w]; rfl
  refine pure_ (i := 4) (N := some 7) (v := undef) (a' := ?_) #[true, true, true, true, true, false, false, false, false, false, false, false, false, false, false, false, false] rfl rfl (any_of HT_.out (by kernel_rfl)) (fun _ _ _ h => h) (Or.inr ⟨by rfl, rfl⟩) ?_ ?_; rotate_left
  ·simp only [Act.put, sT_, s0_, s1_, i64_w, i32_w]; rfl
  refine pure_ (i := 5) (N := some 8) (v := undef) (a' := ?_) #[true, true, true, true, true, true, false, false, false, false, false, false, false, false, false, false, false] rfl rfl (any_of HT_.out (by kernel_rfl)) (fun _ _ _ h => h) (Or.inr ⟨by rfl, rfl⟩) ?_ ?_; rotate_left
  ·simp only [Act.put, sT_, s0_, s1_, i64_w, i32_w]; rfl
  refine pure_ (i := 6) (N := some 9) (v := undef) (a' := ?_) #[true, true, true, true, true, true, true, false, false, false, false, false, false, false, false, false, false] rfl rfl (any_of HT_.out (by kernel_rfl)) (fun _ _ _ h => h) (Or.inr ⟨by rfl, rfl⟩) ?_ ?_; rotate_left
  ·simp only [Act.put, sT_, s0_, s1_, i64_w, i32_w]; rfl
  refine pure_ (i := 7) (N := some 10) (v := ?_) (a' := ?_) #[true, true, true, true, true, true, true, true, false, false, false, false, false, false, false, false, false] rfl rfl (any_of HT_.out (by kernel_rfl)) (fun _ _ _ h => h) (Or.inl ⟨by rfl, ?_⟩) ?_ ?_; rotate_left
  ·intro w'; go_simp; with_reducible rfl
  rotate_left
  ·simp only [Act.put, sT_, s0_, s1_, i64_w, i32_w]; rfl
  refine pure_ (i := 8) (N := some 11) (v := ?_) (a' := ?_) #[true, true, true, true, true, true, true, true, true, false, false, false, false, false, false, false, false] rfl rfl (any_of HT_.out (by kernel_rfl)) (fun _ _ _ h => h) (Or.inl ⟨by rfl, ?_⟩) ?_ ?_; rotate_left
  ·intro w'; go_simp; with_reducible rfl
  rotate_left
  ·simp only [Act.put, sT_, s0_, s1_, i64_w, i32_w]; rfl
  refine pure_ (i := 9) (N := some 12) (v := undef) (a' := ?_) #[true, true, true, true, true, true, true, true, true, true, false, false, false, false, false, false, false] rfl rfl (any_of HT_.out (by kernel_rfl)) (fun _ _ _ h => h) (Or.inr ⟨by rfl, rfl⟩) ?_ ?_; rotate_left
  ·simp only [Act.put, sT_, s0_, s1_, i64_w, i32_w]; rfl
  refine pure_ (i := 10) (N := some 13) (v := undef) (a' := ?_) #[true, true, true, true, true, true, true, true, true, true, true, false, false, false, false, false, false] rfl rfl (any_of HT_.out (by kernel_rfl)) (fun _ _ _ h => h) (Or.inr ⟨by rfl, rfl⟩) ?_ ?_; rotate_left
  ·simp only [Act.put, sT_, s0_, s1_, i64_w, i32_w]; rfl
  refine pure_ (i := 11) (N := some 14) (v := undef) (a' := ?_) #[true, true, true, true, true, true, true, true, true, true, true, true, false, false, false, false, false] rfl rfl (any_of HT_.out (by kernel_rfl)) (fun _ _ _ h => h) (Or.inr ⟨by rfl, rfl⟩) ?_ ?_; rotate_left
  ·simp only [Act.put, sT_, s0_, s1_, i64_w, i32_w]; rfl
  refine pure_ (i := 12) (N := some 15) (v := undef) (a' := ?_) #[true, true, true, true, true, true, true, true, true, true, true, true, true, false, false, false, false] rfl rfl (any_of HT_.out (by kernel_rfl)) (fun _ _ _ h => h) (Or.inr ⟨by rfl, rfl⟩) ?_ ?_; rotate_left
  ·simp only [Act.put, sT_, s0_, s1_, i64_w, i32_w]; rfl
  refine pure_ (i := 13) (N := some 16) (v := undef) (a' := ?_) #[true, true, true, true, true, true, true, true, true, true, true, true, true, true, false, false, false] rfl rfl (any_of HT_.out (by kernel_rfl)) (fun _ _ _ h => h) (Or.inr ⟨by rfl, rfl⟩) ?_ ?_; rotate_left
  ·simp only [Act.put, sT_, s0_, s1_, i64_w, i32_w]; rfl
  refine pure_ (i := 14) (N := some 17) (v := undef) (a' := ?_) #[true, true, true, true, true, true, true, true, true, true, true, true, true, true, true, false, false] rfl rfl (any_of HT_.out (by kernel_rfl)) (fun _ _ _ h => h) (Or.inr ⟨by rfl, rfl⟩) ?_ ?_; rotate_left
  ·simp only [Act.put, sT_, s0_, s1_, i64_w, i32_w]; rfl
  refine pure_ (i := 15) (N := some 18) (v := ?_) (a' := ?_) #[true, true, true, true, true, true, true, true, true, true, true, true, true, true, true, true, false] rfl rfl (any_of HT_.out (by kernel_rfl)) (fun _ _ _ h => h) (Or.inl ⟨by rfl, ?_⟩) ?_ ?_; rotate_left
  ·intro w'; go_simp; with_reducible rfl
  rotate_left
  ·simp only [Act.put, sT_, s0_, s1_, i64_w, i32_w]; rfl
  refine pure_ (i := 16) (N := some 2) (v := ?_) (a' := ?_) #[true, true, true, true, true, true, true, true, true, true, true, true, true, true, true, true, true] rfl rfl (any_of HT_.out (by kernel_rfl)) (fun _ _ _ h => h) (Or.inl ⟨by rfl, ?_⟩) ?_ ?_; rotate_left
  ·intro w'; go_simp; with_reducible rfl
  rotate_left
  ·simp only [Act.put, sT_, s0_, s1_, i64_w, i32_w]; rfl
  refine done_ (done_of HT_.out (by kernel_rfl)) ?_
  try go_wp2
  go_ret
  exact ⟨by first | rfl | (simp [errW_none, errW_some] <;> rfl) | (simp [*, errW_none, errW_some] <;> rfl), by repeat (first | (with_reducible first | exact HB.out | apply below_alloc | apply pw_below_drewN | apply below_drew1 | refine below_set ?_ GE193.out) | exact HB.out)⟩
/-! ### impl_isSmall: function 25 -/
def impl_isSmall.f (a0_0 : Int) (a0_1 : Int) (a1 : Int) : Option (Bool) := (impl_IsTable.f a0_0 a0_1).bind fun t197 => (if t197 = true then (some (decide (a0_0 ≤ a1))) else (some false))
theorem impl_isSmall.calls (a0_0 : Int) (a0_1 : Int) (a1 : Int) (r : Bool) (w : World) (h : impl_isSmall.f a0_0 a0_1 a1 = some r) :
  Calls Try.prog 25 #[.agg #[.int .i64 a0_0, .int .i64 a0_1], .int .i64 a1] w fun e w' => e = .returned (.bool r) ∧ Below w.heap.size w w' := by
 have hu25 := Try.underlying25
 have HB := Aside0.mk (Below.refl w.heap.size w)
 have H : ((impl_IsTable.f a0_0 a0_1).bind fun t197 => (if t197 = true then (some (decide (a0_0 ≤ a1))) else (some false))) = some r := h
 clear h; replace H := Option.bind_eq_some_iff.mp H; obtain ⟨t197, A30, H⟩ := H
 replace H : (if t197 = true then (some (decide (a0_0 ≤ a1))) else (some false)) = some r := H
 have A3 := Aside0.mk A30; clear A30
 by_cases c4 : t197 = true
 ·subst c4
  have H1 : (some (decide (a0_0 ≤ a1))) = some r := by rw [if_pos rfl] at H; exact H
  clear H; have H := H1; clear H1
  obtain rfl := Option.some.inj H
  go_enter Try.func25, Try.ntmps25
  go_wp2_with (first | ((with_reducible refine gate_dst (N := 2) rfl ?_); refine box_event ?hg (N := 2) ?hd (cs := #[.int .i64 a0_0, .int .i64 a0_1]) (t := 25) ?hr ?_; (case hd => rfl); (case hg => rfl); (case hr => first | (go_simp; done) | (go_simp; rfl)); intro gb196 hg w5 hbox hb; have n0_ := Aside0.mk (below_step (by repeat (first | (with_reducible first | exact HB.out | apply below_alloc | apply pw_below_drewN | apply below_drew1) | exact HB.out)) hb); have n1_ := Aside0.mk (hbox); have n2_ := Aside0.mk ((by rw [hg]; exact (below_size (by repeat (first | (with_reducible first | exact HB.out | apply below_alloc | apply pw_below_drewN | apply below_drew1) | exact HB.out))) : w.heap.size ≤ gb196)); have n3_ := Aside0.mk ((by rw [hg]; exact (below_size (by repeat (first | (with_reducible first | exact HB.out | apply below_alloc | apply pw_below_drewN | apply below_drew1) | exact HB.out))) : w.heap.size ≤ gb196)); clear HB; have HB := n0_; have BK196 := n1_; have GW196 := n2_; have GE196 := n3_; clear n0_ n1_ n2_ n3_; clear hb hbox hg; have hcz6_0 : w5.cell? ⟨gb196, 0, none⟩ = some (.int .i64 a0_0) := (blk_cell BK196.out 0).trans rfl; have hcz6_1 : w5.cell? ⟨gb196, 1, none⟩ = some (.int .i64 a0_1) := (blk_cell BK196.out 1).trans rfl; have hfz6_0 := blk_frozen BK196.out 0; have hfz6_1 := blk_frozen BK196.out 1) | ((with_reducible refine gate_callee (f := 43) rfl ?_); refine goesL_ (some 6) rfl rfl Try.func43 (by kernel_rfl) rfl #[.agg #[.int .i64 a0_0, .int .i64 a0_1]] rfl (by first | rfl | (simp only [List.map_toArray, List.map_cons, List.map_nil, List.length_drop, List.length_take]; rfl)) ?_; (with_reducible refine (impl_IsTable.calls a0_0 a0_1 true _ A3.out).mono ?_); rintro e w7 ⟨rfl, hb⟩; refine ⟨_, rfl, ?_⟩; have n0_ := Aside0.mk (blk_below (g := gb196) (o := .cells #[.int .i64 a0_0, .int .i64 a0_1] 25 (0, 0)) (by (with_reducible repeat (first | refine blk_drewN ?_ _ | refine blk_drew ?_ | refine blk_alloc ?_ _)); exact BK196.out) hb); have n1_ := Aside0.mk (below_step (by repeat (first | (with_reducible first | exact HB.out | apply below_alloc | apply pw_below_drewN | apply below_drew1 | refine below_set ?_ GE196.out) | exact HB.out)) hb); clear BK196; clear HB; have BK196 := n0_; have HB := n1_; clear n0_ n1_; (try clear hb); (try clear hb2); (try clear hk); (try clear hi); have hcz8_0 : w7.cell? ⟨gb196, 0, none⟩ = some (.int .i64 a0_0) := (blk_cell BK196.out 0).trans rfl; have hcz8_1 : w7.cell? ⟨gb196, 1, none⟩ = some (.int .i64 a0_1) := (blk_cell BK196.out 1).trans rfl; have hfz8_0 := blk_frozen BK196.out 0; have hfz8_1 := blk_frozen BK196.out 1))
  go_ret
  exact ⟨by first | rfl | (simp [errW_none, errW_some] <;> rfl) | (simp [*, errW_none, errW_some] <;> rfl), by repeat (first | (with_reducible first | exact HB.out | apply below_alloc | apply pw_below_drewN | apply below_drew1 | refine below_set ?_ GE196.out) | exact HB.out)⟩
 ·replace c4 := Bool.eq_false_iff.mpr c4
  subst c4
  have H1 : (some false) = some r := by rw [if_neg (show ¬ (false = true) by decide)] at H; exact H
  clear H; have H := H1; clear H1
  obtain rfl := Option.some.inj H
  go_enter Try.func25, Try.ntmps25
  go_wp2_with (first | ((with_reducible refine gate_dst (N := 2) rfl ?_); refine box_event ?hg (N := 2) ?hd (cs := #[.int .i64 a0_0, .int .i64 a0_1]) (t := 25) ?hr ?_; (case hd => rfl); (case hg => rfl); (case hr => first | (go_simp; done) | (go_simp; rfl)); intro gb196 hg w9 hbox hb; have n0_ := Aside0.mk (below_step (by repeat (first | (with_reducible first | exact HB.out | apply below_alloc | apply pw_below_drewN | apply below_drew1) | exact HB.out)) hb); have n1_ := Aside0.mk (hbox); have n2_ := Aside0.mk ((by rw [hg]; exact (below_size (by repeat (first | (with_reducible first | exact HB.out | apply below_alloc | apply pw_below_drewN | apply below_drew1) | exact HB.out))) : w.heap.size ≤ gb196)); have n3_ := Aside0.mk ((by rw [hg]; exact (below_size (by repeat (first | (with_reducible first | exact HB.out | apply below_alloc | apply pw_below_drewN | apply below_drew1) | exact HB.out))) : w.heap.size ≤ gb196)); clear HB; have HB := n0_; have BK196 := n1_; have GW196 := n2_; have GE196 := n3_; clear n0_ n1_ n2_ n3_; clear hb hbox hg; have hcz10_0 : w9.cell? ⟨gb196, 0, none⟩ = some (.int .i64 a0_0) := (blk_cell BK196.out 0).trans rfl; have hcz10_1 : w9.cell? ⟨gb196, 1, none⟩ = some (.int .i64 a0_1) := (blk_cell BK196.out 1).trans rfl; have hfz10_0 := blk_frozen BK196.out 0; have hfz10_1 := blk_frozen BK196.out 1) | ((with_reducible refine gate_callee (f := 43) rfl ?_); refine goesL_ (some 6) rfl rfl Try.func43 (by kernel_rfl) rfl #[.agg #[.int .i64 a0_0, .int .i64 a0_1]] rfl (by first | rfl | (simp only [List.map_toArray, List.map_cons, List.map_nil, List.length_drop, List.length_take]; rfl)) ?_; (with_reducible refine (impl_IsTable.calls a0_0 a0_1 false _ A3.out).mono ?_); rintro e w11 ⟨rfl, hb⟩; refine ⟨_, rfl, ?_⟩; have n0_ := Aside0.mk (blk_below (g := gb196) (o := .cells #[.int .i64 a0_0, .int .i64 a0_1] 25 (0, 0)) (by (with_reducible repeat (first | refine blk_drewN ?_ _ | refine blk_drew ?_ | refine blk_alloc ?_ _)); exact BK196.out) hb); have n1_ := Aside0.mk (below_step (by repeat (first | (with_reducible first | exact HB.out | apply below_alloc | apply pw_below_drewN | apply below_drew1 | refine below_set ?_ GE196.out) | exact HB.out)) hb); clear BK196; clear HB; have BK196 := n0_; have HB := n1_; clear n0_ n1_; (try clear hb); (try clear hb2); (try clear hk); (try clear hi)))
  go_ret
  exact ⟨by first | rfl | (simp [errW_none, errW_some] <;> rfl) | (simp [*, errW_none, errW_some] <;> rfl), by repeat (first | (with_reducible first | exact HB.out | apply below_alloc | apply pw_below_drewN | apply below_drew1 | refine below_set ?_ GE196.out) | exact HB.out)⟩
/-! ### bits_OnesCount64: function 52 -/
def bits_OnesCount64.f (a0 : Int) : Option (Int) := some (Go.bits .and .i64 (wrap64 (IntKind.u64.wrap ((IntKind.u64.wrap ((IntKind.u64.wrap ((Go.bits .and .u64 (IntKind.u64.wrap (((IntKind.u64.wrap ((Go.bits .and .u64 ((IntKind.u64.wrap ((Go.bits .and .u64 (a0 / 2) 6148914691236517205) + (Go.bits .and .u64 a0 6148914691236517205))) / 4) 3689348814741910323) + (Go.bits .and .u64 (IntKind.u64.wrap ((Go.bits .and .u64 (a0 / 2) 6148914691236517205) + (Go.bits .and .u64 a0 6148914691236517205))) 3689348814741910323))) / 16) + (IntKind.u64.wrap ((Go.bits .and .u64 ((IntKind.u64.wrap ((Go.bits .and .u64 (a0 / 2) 6148914691236517205) + (Go.bits .and .u64 a0 6148914691236517205))) / 4) 3689348814741910323) + (Go.bits .and .u64 (IntKind.u64.wrap ((Go.bits .and .u64 (a0 / 2) 6148914691236517205) + (Go.bits .and .u64 a0 6148914691236517205))) 3689348814741910323))))) 1085102592571150095) + ((Go.bits .and .u64 (IntKind.u64.wrap (((IntKind.u64.wrap ((Go.bits .and .u64 ((IntKind.u64.wrap ((Go.bits .and .u64 (a0 / 2) 6148914691236517205) + (Go.bits .and .u64 a0 6148914691236517205))) / 4) 3689348814741910323) + (Go.bits .and .u64 (IntKind.u64.wrap ((Go.bits .and .u64 (a0 / 2) 6148914691236517205) + (Go.bits .and .u64 a0 6148914691236517205))) 3689348814741910323))) / 16) + (IntKind.u64.wrap ((Go.bits .and .u64 ((IntKind.u64.wrap ((Go.bits .and .u64 (a0 / 2) 6148914691236517205) + (Go.bits .and .u64 a0 6148914691236517205))) / 4) 3689348814741910323) + (Go.bits .and .u64 (IntKind.u64.wrap ((Go.bits .and .u64 (a0 / 2) 6148914691236517205) + (Go.bits .and .u64 a0 6148914691236517205))) 3689348814741910323))))) 1085102592571150095) / 256))) + ((IntKind.u64.wrap ((Go.bits .and .u64 (IntKind.u64.wrap (((IntKind.u64.wrap ((Go.bits .and .u64 ((IntKind.u64.wrap ((Go.bits .and .u64 (a0 / 2) 6148914691236517205) + (Go.bits .and .u64 a0 6148914691236517205))) / 4) 3689348814741910323) + (Go.bits .and .u64 (IntKind.u64.wrap ((Go.bits .and .u64 (a0 / 2) 6148914691236517205) + (Go.bits .and .u64 a0 6148914691236517205))) 3689348814741910323))) / 16) + (IntKind.u64.wrap ((Go.bits .and .u64 ((IntKind.u64.wrap ((Go.bits .and .u64 (a0 / 2) 6148914691236517205) + (Go.bits .and .u64 a0 6148914691236517205))) / 4) 3689348814741910323) + (Go.bits .and .u64 (IntKind.u64.wrap ((Go.bits .and .u64 (a0 / 2) 6148914691236517205) + (Go.bits .and .u64 a0 6148914691236517205))) 3689348814741910323))))) 1085102592571150095) + ((Go.bits .and .u64 (IntKind.u64.wrap (((IntKind.u64.wrap ((Go.bits .and .u64 ((IntKind.u64.wrap ((Go.bits .and .u64 (a0 / 2) 6148914691236517205) + (Go.bits .and .u64 a0 6148914691236517205))) / 4) 3689348814741910323) + (Go.bits .and .u64 (IntKind.u64.wrap ((Go.bits .and .u64 (a0 / 2) 6148914691236517205) + (Go.bits .and .u64 a0 6148914691236517205))) 3689348814741910323))) / 16) + (IntKind.u64.wrap ((Go.bits .and .u64 ((IntKind.u64.wrap ((Go.bits .and .u64 (a0 / 2) 6148914691236517205) + (Go.bits .and .u64 a0 6148914691236517205))) / 4) 3689348814741910323) + (Go.bits .and .u64 (IntKind.u64.wrap ((Go.bits .and .u64 (a0 / 2) 6148914691236517205) + (Go.bits .and .u64 a0 6148914691236517205))) 3689348814741910323))))) 1085102592571150095) / 256))) / 65536))) + ((IntKind.u64.wrap ((IntKind.u64.wrap ((Go.bits .and .u64 (IntKind.u64.wrap (((IntKind.u64.wrap ((Go.bits .and .u64 ((IntKind.u64.wrap ((Go.bits .and .u64 (a0 / 2) 6148914691236517205) + (Go.bits .and .u64 a0 6148914691236517205))) / 4) 3689348814741910323) + (Go.bits .and .u64 (IntKind.u64.wrap ((Go.bits .and .u64 (a0 / 2) 6148914691236517205) + (Go.bits .and .u64 a0 6148914691236517205))) 3689348814741910323))) / 16) + (IntKind.u64.wrap ((Go.bits .and .u64 ((IntKind.u64.wrap ((Go.bits .and .u64 (a0 / 2) 6148914691236517205) + (Go.bits .and .u64 a0 6148914691236517205))) / 4) 3689348814741910323) + (Go.bits .and .u64 (IntKind.u64.wrap ((Go.bits .and .u64 (a0 / 2) 6148914691236517205) + (Go.bits .and .u64 a0 6148914691236517205))) 3689348814741910323))))) 1085102592571150095) + ((Go.bits .and .u64 (IntKind.u64.wrap (((IntKind.u64.wrap ((Go.bits .and .u64 ((IntKind.u64.wrap ((Go.bits .and .u64 (a0 / 2) 6148914691236517205) + (Go.bits .and .u64 a0 6148914691236517205))) / 4) 3689348814741910323) + (Go.bits .and .u64 (IntKind.u64.wrap ((Go.bits .and .u64 (a0 / 2) 6148914691236517205) + (Go.bits .and .u64 a0 6148914691236517205))) 3689348814741910323))) / 16) + (IntKind.u64.wrap ((Go.bits .and .u64 ((IntKind.u64.wrap ((Go.bits .and .u64 (a0 / 2) 6148914691236517205) + (Go.bits .and .u64 a0 6148914691236517205))) / 4) 3689348814741910323) + (Go.bits .and .u64 (IntKind.u64.wrap ((Go.bits .and .u64 (a0 / 2) 6148914691236517205) + (Go.bits .and .u64 a0 6148914691236517205))) 3689348814741910323))))) 1085102592571150095) / 256))) + ((IntKind.u64.wrap ((Go.bits .and .u64 (IntKind.u64.wrap (((IntKind.u64.wrap ((Go.bits .and .u64 ((IntKind.u64.wrap ((Go.bits .and .u64 (a0 / 2) 6148914691236517205) + (Go.bits .and .u64 a0 6148914691236517205))) / 4) 3689348814741910323) + (Go.bits .and .u64 (IntKind.u64.wrap ((Go.bits .and .u64 (a0 / 2) 6148914691236517205) + (Go.bits .and .u64 a0 6148914691236517205))) 3689348814741910323))) / 16) + (IntKind.u64.wrap ((Go.bits .and .u64 ((IntKind.u64.wrap ((Go.bits .and .u64 (a0 / 2) 6148914691236517205) + (Go.bits .and .u64 a0 6148914691236517205))) / 4) 3689348814741910323) + (Go.bits .and .u64 (IntKind.u64.wrap ((Go.bits .and .u64 (a0 / 2) 6148914691236517205) + (Go.bits .and .u64 a0 6148914691236517205))) 3689348814741910323))))) 1085102592571150095) + ((Go.bits .and .u64 (IntKind.u64.wrap (((IntKind.u64.wrap ((Go.bits .and .u64 ((IntKind.u64.wrap ((Go.bits .and .u64 (a0 / 2) 6148914691236517205) + (Go.bits .and .u64 a0 6148914691236517205))) / 4) 3689348814741910323) + (Go.bits .and .u64 (IntKind.u64.wrap ((Go.bits .and .u64 (a0 / 2) 6148914691236517205) + (Go.bits .and .u64 a0 6148914691236517205))) 3689348814741910323))) / 16) + (IntKind.u64.wrap ((Go.bits .and .u64 ((IntKind.u64.wrap ((Go.bits .and .u64 (a0 / 2) 6148914691236517205) + (Go.bits .and .u64 a0 6148914691236517205))) / 4) 3689348814741910323) + (Go.bits .and .u64 (IntKind.u64.wrap ((Go.bits .and .u64 (a0 / 2) 6148914691236517205) + (Go.bits .and .u64 a0 6148914691236517205))) 3689348814741910323))))) 1085102592571150095) / 256))) / 65536))) / 4294967296)))) 127)
theorem bits_OnesCount64.calls (a0 : Int) (r : Int) (w : World) (h : bits_OnesCount64.f a0 = some r) :
  Calls Try.prog 52 #[.int .u64 a0] w fun e w' => e = .returned (.int .i64 r) ∧ Drawn0 w w' := by
 have H : (some (Go.bits .and .i64 (wrap64 (IntKind.u64.wrap ((IntKind.u64.wrap ((IntKind.u64.wrap ((Go.bits .and .u64 (IntKind.u64.wrap (((IntKind.u64.wrap ((Go.bits .and .u64 ((IntKind.u64.wrap ((Go.bits .and .u64 (a0 / 2) 6148914691236517205) + (Go.bits .and .u64 a0 6148914691236517205))) / 4) 3689348814741910323) + (Go.bits .and .u64 (IntKind.u64.wrap ((Go.bits .and .u64 (a0 / 2) 6148914691236517205) + (Go.bits .and .u64 a0 6148914691236517205))) 3689348814741910323))) / 16) + (IntKind.u64.wrap ((Go.bits .and .u64 ((IntKind.u64.wrap ((Go.bits .and .u64 (a0 / 2) 6148914691236517205) + (Go.bits .and .u64 a0 6148914691236517205))) / 4) 3689348814741910323) + (Go.bits .and .u64 (IntKind.u64.wrap ((Go.bits .and .u64 (a0 / 2) 6148914691236517205) + (Go.bits .and .u64 a0 6148914691236517205))) 3689348814741910323))))) 1085102592571150095) + ((Go.bits .and .u64 (IntKind.u64.wrap (((IntKind.u64.wrap ((Go.bits .and .u64 ((IntKind.u64.wrap ((Go.bits .and .u64 (a0 / 2) 6148914691236517205) + (Go.bits .and .u64 a0 6148914691236517205))) / 4) 3689348814741910323) + (Go.bits .and .u64 (IntKind.u64.wrap ((Go.bits .and .u64 (a0 / 2) 6148914691236517205) + (Go.bits .and .u64 a0 6148914691236517205))) 3689348814741910323))) / 16) + (IntKind.u64.wrap ((Go.bits .and .u64 ((IntKind.u64.wrap ((Go.bits .and .u64 (a0 / 2) 6148914691236517205) + (Go.bits .and .u64 a0 6148914691236517205))) / 4) 3689348814741910323) + (Go.bits .and .u64 (IntKind.u64.wrap ((Go.bits .and .u64 (a0 / 2) 6148914691236517205) + (Go.bits .and .u64 a0 6148914691236517205))) 3689348814741910323))))) 1085102592571150095) / 256))) + ((IntKind.u64.wrap ((Go.bits .and .u64 (IntKind.u64.wrap (((IntKind.u64.wrap ((Go.bits .and .u64 ((IntKind.u64.wrap ((Go.bits .and .u64 (a0 / 2) 6148914691236517205) + (Go.bits .and .u64 a0 6148914691236517205))) / 4) 3689348814741910323) + (Go.bits .and .u64 (IntKind.u64.wrap ((Go.bits .and .u64 (a0 / 2) 6148914691236517205) + (Go.bits .and .u64 a0 6148914691236517205))) 3689348814741910323))) / 16) + (IntKind.u64.wrap ((Go.bits .and .u64 ((IntKind.u64.wrap ((Go.bits .and .u64 (a0 / 2) 6148914691236517205) + (Go.bits .and .u64 a0 6148914691236517205))) / 4) 3689348814741910323) + (Go.bits .and .u64 (IntKind.u64.wrap ((Go.bits .and .u64 (a0 / 2) 6148914691236517205) + (Go.bits .and .u64 a0 6148914691236517205))) 3689348814741910323))))) 1085102592571150095) + ((Go.bits .and .u64 (IntKind.u64.wrap (((IntKind.u64.wrap ((Go.bits .and .u64 ((IntKind.u64.wrap ((Go.bits .and .u64 (a0 / 2) 6148914691236517205) + (Go.bits .and .u64 a0 6148914691236517205))) / 4) 3689348814741910323) + (Go.bits .and .u64 (IntKind.u64.wrap ((Go.bits .and .u64 (a0 / 2) 6148914691236517205) + (Go.bits .and .u64 a0 6148914691236517205))) 3689348814741910323))) / 16) + (IntKind.u64.wrap ((Go.bits .and .u64 ((IntKind.u64.wrap ((Go.bits .and .u64 (a0 / 2) 6148914691236517205) + (Go.bits .and .u64 a0 6148914691236517205))) / 4) 3689348814741910323) + (Go.bits .and .u64 (IntKind.u64.wrap ((Go.bits .and .u64 (a0 / 2) 6148914691236517205) + (Go.bits .and .u64 a0 6148914691236517205))) 3689348814741910323))))) 1085102592571150095) / 256))) / 65536))) + ((IntKind.u64.wrap ((IntKind.u64.wrap ((Go.bits .and .u64 (IntKind.u64.wrap (((IntKind.u64.wrap ((Go.bits .and .u64 ((IntKind.u64.wrap ((Go.bits .and .u64 (a0 / 2) 6148914691236517205) + (Go.bits .and .u64 a0 6148914691236517205))) / 4) 3689348814741910323) + (Go.bits .and .u64 (IntKind.u64.wrap ((Go.bits .and .u64 (a0 / 2) 6148914691236517205) + (Go.bits .and .u64 a0 6148914691236517205))) 3689348814741910323))) / 16) + (IntKind.u64.wrap ((Go.bits .and .u64 ((IntKind.u64.wrap ((Go.bits .and .u64 (a0 / 2) 6148914691236517205) + (Go.bits .and .u64 a0 6148914691236517205))) / 4) 3689348814741910323) + (Go.bits .and .u64 (IntKind.u64.wrap ((Go.bits .and .u64 (a0 / 2) 6148914691236517205) + (Go.bits .and .u64 a0 6148914691236517205))) 3689348814741910323))))) 1085102592571150095) + ((Go.bits .and .u64 (IntKind.u64.wrap (((IntKind.u64.wrap ((Go.bits .and .u64 ((IntKind.u64.wrap ((Go.bits .and .u64 (a0 / 2) 6148914691236517205) + (Go.bits .and .u64 a0 6148914691236517205))) / 4) 3689348814741910323) + (Go.bits .and .u64 (IntKind.u64.wrap ((Go.bits .and .u64 (a0 / 2) 6148914691236517205) + (Go.bits .and .u64 a0 6148914691236517205))) 3689348814741910323))) / 16) + (IntKind.u64.wrap ((Go.bits .and .u64 ((IntKind.u64.wrap ((Go.bits .and .u64 (a0 / 2) 6148914691236517205) + (Go.bits .and .u64 a0 6148914691236517205))) / 4) 3689348814741910323) + (Go.bits .and .u64 (IntKind.u64.wrap ((Go.bits .and .u64 (a0 / 2) 6148914691236517205) + (Go.bits .and .u64 a0 6148914691236517205))) 3689348814741910323))))) 1085102592571150095) / 256))) + ((IntKind.u64.wrap ((Go.bits .and .u64 (IntKind.u64.wrap (((IntKind.u64.wrap ((Go.bits .and .u64 ((IntKind.u64.wrap ((Go.bits .and .u64 (a0 / 2) 6148914691236517205) + (Go.bits .and .u64 a0 6148914691236517205))) / 4) 3689348814741910323) + (Go.bits .and .u64 (IntKind.u64.wrap ((Go.bits .and .u64 (a0 / 2) 6148914691236517205) + (Go.bits .and .u64 a0 6148914691236517205))) 3689348814741910323))) / 16) + (IntKind.u64.wrap ((Go.bits .and .u64 ((IntKind.u64.wrap ((Go.bits .and .u64 (a0 / 2) 6148914691236517205) + (Go.bits .and .u64 a0 6148914691236517205))) / 4) 3689348814741910323) + (Go.bits .and .u64 (IntKind.u64.wrap ((Go.bits .and .u64 (a0 / 2) 6148914691236517205) + (Go.bits .and .u64 a0 6148914691236517205))) 3689348814741910323))))) 1085102592571150095) + ((Go.bits .and .u64 (IntKind.u64.wrap (((IntKind.u64.wrap ((Go.bits .and .u64 ((IntKind.u64.wrap ((Go.bits .and .u64 (a0 / 2) 6148914691236517205) + (Go.bits .and .u64 a0 6148914691236517205))) / 4) 3689348814741910323) + (Go.bits .and .u64 (IntKind.u64.wrap ((Go.bits .and .u64 (a0 / 2) 6148914691236517205) + (Go.bits .and .u64 a0 6148914691236517205))) 3689348814741910323))) / 16) + (IntKind.u64.wrap ((Go.bits .and .u64 ((IntKind.u64.wrap ((Go.bits .and .u64 (a0 / 2) 6148914691236517205) + (Go.bits .and .u64 a0 6148914691236517205))) / 4) 3689348814741910323) + (Go.bits .and .u64 (IntKind.u64.wrap ((Go.bits .and .u64 (a0 / 2) 6148914691236517205) + (Go.bits .and .u64 a0 6148914691236517205))) 3689348814741910323))))) 1085102592571150095) / 256))) / 65536))) / 4294967296)))) 127)) = some r := h
 clear h
 obtain rfl := Option.some.inj H
 go_enter Try.func52, Try.ntmps52
 go_wp2
 go_ret
 exact ⟨by first | rfl | (simp; done) | (simp [*]; done), by repeat (first | exact Drawn0.refl _ | apply Drawn0.step)⟩
/-! ### impl_ones: function 28 -/
def impl_ones.f (a0 : Int) : Option (Int) := (bits_OnesCount64.f (IntKind.u64.wrap (a0))).bind fun t198 => (some t198)
theorem impl_ones.calls (a0 : Int) (r : Int) (w : World) (h : impl_ones.f a0 = some r) :
  Calls Try.prog 28 #[.int .i64 a0] w fun e w' => e = .returned (.int .i64 r) ∧ Drawn0 w w' := by
 have H : ((bits_OnesCount64.f (IntKind.u64.wrap (a0))).bind fun t198 => (some t198)) = some r := h
 clear h; replace H := Option.bind_eq_some_iff.mp H; obtain ⟨t198, A20, H⟩ := H
 replace H : (some t198) = some r := H
 have A2 := Aside0.mk A20; clear A20
 obtain rfl := Option.some.inj H
 go_enter Try.func28, Try.ntmps28
 go_wp2_with (first | ((with_reducible refine gate_callee (f := 52) rfl ?_); refine goesL_ (some 5) rfl rfl Try.func52 (by kernel_rfl) rfl #[.int .u64 (IntKind.u64.wrap (a0))] rfl (by first | rfl | (simp only [List.map_toArray, List.map_cons, List.map_nil, List.length_drop, List.length_take]; rfl)) ?_; (with_reducible refine (bits_OnesCount64.calls (IntKind.u64.wrap (a0)) t198 _ A2.out).mono ?_); rintro e w' ⟨rfl, ⟨nd, rfl⟩⟩; refine ⟨_, rfl, ?_⟩))
 go_ret
 exact ⟨by first | rfl | (simp; done) | (simp [*]; done), by repeat (first | exact Drawn0.refl _ | apply Drawn0.step)⟩
end Go.Proofs.Ythekbiofjhkecaa.Print
namespace Go.Proofs.Ythekbiofjhkecaa.Print
open Go.RowKit Go.Proofs.YthekbiofjhkecaaW.PrintWords Go.Proofs.YthekbiofjhkecaaW.PrintLast Go.Proofs.YthekbiofjhkecaaW.PrintMore
attribute [local go_sem] max2_int min2_int max_two min_two max_three min_three max_four min_four   -- for this text's walks alone
set_option linter.unusedVariables false
set_option linter.unusedSimpArgs false
/-! ### impl_makeTable: function 66 -/
open Go.Proofs.Ythekbiofjhkecaa.M
/-- what a round of makeTable's loop finds -/
def impl_makeTable.I (w : World) (N : Nat) (g : Nat → Bool) (x : Nat) (W : World) : Prop :=
 W.heap[w.heap.size]? = some (.cells #[.int .i64 0, .int .i64 0] 25 (0, 0)) ∧ W.heap[w.heap.size + 1]? = some (.cells #[.int .i64 (N : Int), .int .i64 ((prefW g x : Nat) : Int)] 25 (0, 0)) ∧ Below w.heap.size w W
theorem impl_makeTable.I.start (w : World) (N : Nat) (g : Nat → Bool) : impl_makeTable.I w N g 0 ((w.alloc (.cells #[.int .i64 0, .int .i64 0] 25)).alloc (.cells #[.int .i64 (N : Int), .int .i64 0] 25)) := by
 refine ⟨blk_alloc (blk_new w _) _, ?_, ((Below.refl _ _).alloc (Nat.le_refl _) _).alloc (by simp) _⟩
 have := blk_new (w.alloc (.cells #[.int .i64 0, .int .i64 0] 25)) (.cells #[.int .i64 (N : Int), .int .i64 0] 25)
 simpa [prefW] using this
theorem impl_makeTable.I.call {w : World} {N : Nat} {g : Nat → Bool} {x : Nat} {W W' : World} (h : impl_makeTable.I w N g x W) (hb : Below W.heap.size W W') : impl_makeTable.I w N g x W' :=
 ⟨blk_below h.1 hb, blk_below h.2.1 hb, h.2.2.trans (hb.mono h.2.2.size)⟩
theorem impl_makeTable.I.skip {w : World} {N : Nat} {g : Nat → Bool} {x : Nat} {W : World} (h : impl_makeTable.I w N g x W) (hg : g x = false) : impl_makeTable.I w N g (x + 1) W := by
 unfold impl_makeTable.I; rw [prefW_skip hg]; exact h
theorem impl_makeTable.I.set {w : World} {N : Nat} {g : Nat → Bool} {x : Nat} {W : World} (h : impl_makeTable.I w N g x W) (hg : g x = true) (hx : x ≤ 61) {u : Int} (hu : u = Go.bits .or .i64 ((prefW g x : Nat) : Int) (shl .i64 1 (x : Int))) :
  impl_makeTable.I w N g (x + 1) (W.setCell ⟨w.heap.size + 1, 1, none⟩ (.int .i64 u)) := by
 rw [prefW_step_one hx hg] at hu
 subst hu
 exact ⟨blk_far h.1 (by show w.heap.size ≠ w.heap.size + 1; omega) _, by simpa using blk_set h.2.1 1 (.int .i64 ((prefW g (x + 1) : Nat) : Int)), h.2.2.setCell (by show w.heap.size ≤ w.heap.size + 1; omega) _⟩
theorem impl_makeTable.I.drew {w : World} {N : Nat} {g : Nat → Bool} {x : Nat} {W : World} (h : impl_makeTable.I w N g x W) : impl_makeTable.I w N g x W.drew := ⟨h.1, h.2.1, h.2.2.drew⟩
end Go.Proofs.Ythekbiofjhkecaa.Print
namespace Go.Proofs.Ythekbiofjhkecaa.Print
open Go.RowKit Go.Proofs.YthekbiofjhkecaaW.PrintWords Go.Proofs.YthekbiofjhkecaaW.PrintLast Go.Proofs.YthekbiofjhkecaaW.PrintMore
attribute [local go_sem] max2_int min2_int max_two min_two max_three min_three max_four min_four   -- for this text's walks alone
set_option linter.unusedVariables false
set_option linter.unusedSimpArgs false
/-! ### impl_Table_at: function 68 -/
def impl_Table_at.f (a0_0 : Int) (a0_1 : Int) (a1 : Int) : Option (Int) := if 0 ≤ a1 then (some (Go.bits .and .i64 (shr .i64 a0_1 a1) 1)) else (none)
set_option maxHeartbeats 8000000 in
set_option maxRecDepth 100000 in
theorem impl_Table_at.calls (a0_0 : Int) (a0_1 : Int) (a1 : Int) (r : Int) (w : World) (h : impl_Table_at.f a0_0 a0_1 a1 = some r) :
  Calls Try.prog 68 #[.agg #[.int .i64 a0_0, .int .i64 a0_1], .int .i64 a1] w fun e w' => e = .returned (.int .i64 r) ∧ Below w.heap.size w w' := by
 have hu25 := Try.underlying25
 have HB := Aside0.mk (Below.refl w.heap.size w)
 have H : (if 0 ≤ a1 then (some (Go.bits .and .i64 (shr .i64 a0_1 a1) 1)) else (none)) = some r := h
 clear h
 by_cases c3 : 0 ≤ a1
 ·rw [if_pos c3] at H
  have c3b0 := eq_true c3
  have c3b1 : decide (0 ≤ a1) = true := decide_eq_true c3
  clear c3
  obtain ⟨ji4, hji4⟩ : ∃ j_ : Int, (shr .i64 a0_1 a1) = j_ := ⟨_, rfl⟩
  replace H : (some (Go.bits .and .i64 (ji4) 1)) = some r := by first | (rw [hji4] at H; exact H) | (simp only [hji4] at H ⊢; exact H)
  have hji4_ : (a0_1 / 2 ^ min a1.toNat 64) = ji4 := hji4
  have hji4z : a1 ≤ 64 → (a0_1 / 2 ^ a1.toNat) = ji4 := shr_small hji4
  obtain rfl := Option.some.inj H
  go_enter Try.func68, Try.ntmps68
  go_wp2_with (first | ((with_reducible refine gate_dst (N := 2) rfl ?_); refine box_event ?hg (N := 2) ?hd (cs := #[.int .i64 a0_0, .int .i64 a0_1]) (t := 25) ?hr ?_; (case hd => rfl); (case hg => rfl); (case hr => first | (go_simp; done) | (go_simp; rfl)); intro gb199 hg w5 hbox hb; have n0_ := Aside0.mk (below_step (by repeat (first | (with_reducible first | exact HB.out | apply below_alloc | apply pw_below_drewN | apply below_drew1) | exact HB.out)) hb); have n1_ := Aside0.mk (hbox); have n2_ := Aside0.mk ((by rw [hg]; exact (below_size (by repeat (first | (with_reducible first | exact HB.out | apply below_alloc | apply pw_below_drewN | apply below_drew1) | exact HB.out))) : w.heap.size ≤ gb199)); have n3_ := Aside0.mk ((by rw [hg]; exact (below_size (by repeat (first | (with_reducible first | exact HB.out | apply below_alloc | apply pw_below_drewN | apply below_drew1) | exact HB.out))) : w.heap.size ≤ gb199)); clear HB; have HB := n0_; have BK199 := n1_; have GW199 := n2_; have GE199 := n3_; clear n0_ n1_ n2_ n3_; clear hb hbox hg; have hcz6_0 : w5.cell? ⟨gb199, 0, none⟩ = some (.int .i64 a0_0) := (blk_cell BK199.out 0).trans rfl; have hcz6_1 : w5.cell? ⟨gb199, 1, none⟩ = some (.int .i64 a0_1) := (blk_cell BK199.out 1).trans rfl; have hfz6_0 := blk_frozen BK199.out 0; have hfz6_1 := blk_frozen BK199.out 1))
  go_ret
  exact ⟨by first | rfl | (simp [errW_none, errW_some] <;> rfl) | (simp only [← hji4]; first | rfl | (simp [errW_none, errW_some] <;> rfl)) | (simp [*, errW_none, errW_some] <;> rfl), by repeat (first | (with_reducible first | exact HB.out | apply below_alloc | apply pw_below_drewN | apply below_drew1 | refine below_set ?_ GE199.out) | exact HB.out)⟩
 ·rw [if_neg c3] at H
  exact absurd H (by simp)
/-! ### impl_spread: function 69 -/
def impl_spread.f (a0 : Int) (a1 : Int) (a2 : Int) : Option (Int) := if 0 ≤ a1 then (some (Go.bits .or .i64 (Go.bits .or .i64 (wrap64 ((wrap64 (a0 - (Go.bits .and .i64 a0 (wrap64 ((shl .i64 1 a1) - 1))))) * 2)) (shl .i64 a2 a1)) (Go.bits .and .i64 a0 (wrap64 ((shl .i64 1 a1) - 1))))) else (none)
set_option maxHeartbeats 8000000 in
set_option maxRecDepth 100000 in
theorem impl_spread.calls (a0 : Int) (a1 : Int) (a2 : Int) (r : Int) (w : World) (h : impl_spread.f a0 a1 a2 = some r) :
  Calls Try.prog 69 #[.int .i64 a0, .int .i64 a1, .int .i64 a2] w fun e w' => e = .returned (.int .i64 r) ∧ Drawn0 w w' := by
 have H : (if 0 ≤ a1 then (some (Go.bits .or .i64 (Go.bits .or .i64 (wrap64 ((wrap64 (a0 - (Go.bits .and .i64 a0 (wrap64 ((shl .i64 1 a1) - 1))))) * 2)) (shl .i64 a2 a1)) (Go.bits .and .i64 a0 (wrap64 ((shl .i64 1 a1) - 1))))) else (none)) = some r := h
 clear h
 by_cases c4 : 0 ≤ a1
 ·rw [if_pos c4] at H
  have c4b0 := eq_true c4
  have c4b1 : decide (0 ≤ a1) = true := decide_eq_true c4
  clear c4
  obtain ⟨ji5, hji5⟩ : ∃ j_ : Int, (shl .i64 1 a1) = j_ := ⟨_, rfl⟩
  replace H : (some (Go.bits .or .i64 (Go.bits .or .i64 (wrap64 ((wrap64 (a0 - (Go.bits .and .i64 a0 (wrap64 ((ji5) - 1))))) * 2)) (shl .i64 a2 a1)) (Go.bits .and .i64 a0 (wrap64 ((ji5) - 1))))) = some r := by first | (rw [hji5] at H; exact H) | (simp only [hji5] at H ⊢; exact H)
  have hji5_ : (IntKind.i64.wrap (1 * 2 ^ min a1.toNat 64)) = ji5 := hji5
  have hji5z : a1 ≤ 64 → (IntKind.i64.wrap (1 * 2 ^ a1.toNat)) = ji5 := shl_small hji5
  have hji5u : (IntKind.i64.wrap (2 ^ min a1.toNat 64)) = ji5 := by have h_ := hji5_; rw [Int.one_mul] at h_; exact h_
  have hji5v : a1 ≤ 64 → (IntKind.i64.wrap (2 ^ a1.toNat)) = ji5 := fun hle_ => by have h_ := hji5z hle_; rw [Int.one_mul] at h_; exact h_
  have hji5y : (wrap64 (1 * 2 ^ min a1.toNat 64)) = ji5 := (i64_w _).symm.trans hji5_
  have hji5x : a1 ≤ 64 → (wrap64 (1 * 2 ^ a1.toNat)) = ji5 := fun h_ => (i64_w _).symm.trans (hji5z h_)
  have c6b0 := eq_true (of_decide_eq_true (by first | (with_reducible assumption) | assumption) : 0 ≤ a1)
  obtain ⟨ji7, hji7⟩ : ∃ j_ : Int, (shl .i64 a2 a1) = j_ := ⟨_, rfl⟩
  replace H : (some (Go.bits .or .i64 (Go.bits .or .i64 (wrap64 ((wrap64 (a0 - (Go.bits .and .i64 a0 (wrap64 ((ji5) - 1))))) * 2)) (ji7)) (Go.bits .and .i64 a0 (wrap64 ((ji5) - 1))))) = some r := by first | (rw [hji7] at H; exact H) | (simp only [hji7] at H ⊢; exact H)
  have hji7_ : (IntKind.i64.wrap (a2 * 2 ^ min a1.toNat 64)) = ji7 := hji7
  have hji7z : a1 ≤ 64 → (IntKind.i64.wrap (a2 * 2 ^ a1.toNat)) = ji7 := shl_small hji7
  have hji7y : (wrap64 (a2 * 2 ^ min a1.toNat 64)) = ji7 := (i64_w _).symm.trans hji7_
  have hji7x : a1 ≤ 64 → (wrap64 (a2 * 2 ^ a1.toNat)) = ji7 := fun h_ => (i64_w _).symm.trans (hji7z h_)
  obtain rfl := Option.some.inj H
  go_enter Try.func69, Try.ntmps69
  go_wp2
  go_ret
  exact ⟨by first | rfl | (simp; done) | (simp only [← hji5, ← hji7] <;> (first | rfl | simp)) | (simp [*]; done), by repeat (first | exact Drawn0.refl _ | apply Drawn0.step)⟩
 ·rw [if_neg c4] at H
  exact absurd H (by simp)
end Go.Proofs.Ythekbiofjhkecaa.Print
namespace Go.Proofs.Ythekbiofjhkecaa.Print
open Go.RowKit Go.Proofs.YthekbiofjhkecaaW.PrintWords Go.Proofs.YthekbiofjhkecaaW.PrintLast Go.Proofs.YthekbiofjhkecaaW.PrintMore
attribute [local go_sem] max2_int min2_int max_two min_two max_three min_three max_four min_four   -- for this text's walks alone
set_option linter.unusedVariables false
set_option linter.unusedSimpArgs false
/-! ### impl_Table_restrict: function 51 -/
open Go.Proofs.Ythekbiofjhkecaa.M
/-- the captured variables: a table, a variable, a bit -/
def impl_Table_restrict.rS (w : World) (F I B : Nat) (n v i b : Int) (W : World) : Prop :=
 W.cell? ⟨F, 0, none⟩ = some (.int .i64 n) ∧ W.cell? ⟨F, 1, none⟩ = some (.int .i64 v) ∧ W.cell? ⟨I, 0, none⟩ = some (.int .i64 i) ∧ W.cell? ⟨B, 0, none⟩ = some (.int .i64 b) ∧ Below w.heap.size w W
theorem impl_Table_restrict.rS.step {w : World} {F I B : Nat} {n v i b : Int} {W W' : World} (hF : F < w.heap.size) (hI : I < w.heap.size) (hB : B < w.heap.size) (h : impl_Table_restrict.rS w F I B n v i b W) (hb : Below W.heap.size W W') : impl_Table_restrict.rS w F I B n v i b W' := by
 obtain ⟨h1, h2, h3, h4, h5⟩ := h
 have hs := h5.size
 exact ⟨(hb.cell (p := ⟨F, 0, none⟩) (by show F < _; omega)).trans h1, (hb.cell (p := ⟨F, 1, none⟩) (by show F < _; omega)).trans h2, (hb.cell (p := ⟨I, 0, none⟩) (by show I < _; omega)).trans h3, (hb.cell (p := ⟨B, 0, none⟩) (by show B < _; omega)).trans h4, h5.trans (hb.mono hs)⟩
set_option maxHeartbeats 800000 in
theorem impl_Table_restrict.clo (n v i b x y r : Int) (F I B : Nat) (w : World) (hF : F < w.heap.size) (hI : I < w.heap.size) (hB : B < w.heap.size)
  (f0 : w.cell? ⟨F, 0, none⟩ = some (.int .i64 n)) (f1 : w.cell? ⟨F, 1, none⟩ = some (.int .i64 v)) (fi : w.cell? ⟨I, 0, none⟩ = some (.int .i64 i)) (fb : w.cell? ⟨B, 0, none⟩ = some (.int .i64 b))
  (hs : impl_spread.f x i b = some y) (ha : impl_Table_at.f n v y = some r) :
  Calls Try.prog 67 #[.int .i64 x, .pointer (some ⟨F, 0, none⟩), .pointer (some ⟨I, 0, none⟩), .pointer (some ⟨B, 0, none⟩)] w fun e w' => e = .returned (.bool (r == 1)) ∧ Below w.heap.size w w' := by
 have A1 := Aside0.mk hs; have A2 := Aside0.mk ha; clear hs ha
 have huT := Try.underlying25
 go_enter Try.func67, Try.ntmps67
 go_wp2
 have h0 : impl_Table_restrict.rS w F I B n v i b w.drew := ⟨f0, f1, fi, fb, (Below.refl _ _).drew⟩
 go_region_held3 (fun W => W.cell? ⟨F, 0, none⟩ = some (.int .i64 n) ∧ W.cell? ⟨F, 1, none⟩ = some (.int .i64 v) ∧ W.cell? ⟨I, 0, none⟩ = some (.int .i64 i) ∧ W.cell? ⟨B, 0, none⟩ = some (.int .i64 b) ∧ Below w.heap.size w W) (first | exact h0 | (refine impl_Table_restrict.rS.step hF hI hB (by assumption) ?_; first | assumption | (refine Drawn0.below ?_; assumption) | exact Below.refl _ _))
  (first | (go_at_call 69; (with_reducible refine (impl_spread.calls x i b y _ A1.out).mono ?_); rintro e w' ⟨rfl, hd⟩) | (go_at_call 68; (with_reducible refine (impl_Table_at.calls n v y r _ A2.out).mono ?_); rintro e w' ⟨rfl, hb⟩))
 go_wp2
 go_ret
 exact ⟨rfl, (by assumption : _ ∧ _ ∧ _ ∧ _ ∧ _).2.2.2.2⟩
set_option maxHeartbeats 1600000 in
theorem impl_Table_restrict.aux (N M : Nat) (hN : N ≤ 5) (hM : M ≤ 32) (e10 : wrap64 ((2 : Int) ^ N) = (M : Int)) (g : Nat → Bool) (F I B : Nat) (w : World)
  (hc : ∀ (x : Nat) (W : World), x < M → Below w.heap.size w W → Calls Try.prog 67 #[.int .i64 (x : Int), .pointer (some ⟨F, 0, none⟩), .pointer (some ⟨I, 0, none⟩), .pointer (some ⟨B, 0, none⟩)] W fun e W' => e = .returned (.bool (g x)) ∧ Below W.heap.size W W') :
  Calls Try.prog 66 #[.int .i64 (N : Int), .func (.func 67) #[] #[.pointer (some ⟨F, 0, none⟩), .pointer (some ⟨I, 0, none⟩), .pointer (some ⟨B, 0, none⟩)]] w fun e w' => e = .returned (.agg #[.int .i64 (N : Int), .int .i64 ((prefW g M : Nat) : Int)]) ∧ Below w.heap.size w w' := by
 have huT := Try.underlying25
 have hH := Aside0.mk hc; clear hc
 have hS := Aside0.mk (impl_makeTable.I.start w N g)
 go_enter Try.func66, Try.ntmps66
 go_wp2
 rw [e10]
 clear e10
 go_loopw [11] (fun v11 wr => ∃ x : Nat, x ≤ M ∧ v11 = .int .i64 (x : Int) ∧ Aside0 (impl_makeTable.I w N g x wr)) (fun v11 _ => M - (intOf v11).toNat)
 case atStart => exact ⟨0, Nat.zero_le _, rfl, hS⟩
 case round =>
  obtain ⟨x, hx, rfl, HI⟩ := hrel; clear hS
  have c0 : wr.cell? ⟨w.heap.size, 0, none⟩ = some (.int .i64 0) := blk_cell HI.out.1 0
  have c1 : wr.cell? ⟨w.heap.size, 1, none⟩ = some (.int .i64 0) := blk_cell HI.out.1 1
  have z0 := blk_frozen HI.out.1 0
  have z1 := blk_frozen HI.out.1 1
  have d0 : wr.cell? ⟨w.heap.size + 1, 0, none⟩ = some (.int .i64 (N : Int)) := blk_cell HI.out.2.1 0
  have d1 : wr.cell? ⟨w.heap.size + 1, 1, none⟩ = some (.int .i64 ((prefW g x : Nat) : Int)) := blk_cell HI.out.2.1 1
  by_cases hlt : x < M
  ·have hC := Aside0.mk (hH.out x wr hlt HI.out.2.2)
   cases hg : g x with
   | false =>
    rw [hg] at hC
    have HG := Aside0.mk hg; clear hg
    go_wp2_with (first | (go_at_call 67; (with_reducible refine hC.out.mono ?_); rintro e w1 ⟨rfl, hb⟩))
    go_roundw
    case rel => exact ⟨x + 1, by omega, by go_num, ⟨(HI.out.call hb).skip HG.out⟩⟩
    case measure => simp [intOf]; omega
   | true =>
    rw [hg] at hC
    have HG := Aside0.mk hg; clear hg
    go_wp2_with (first | (go_at_call 67; (with_reducible refine hC.out.mono ?_); rintro e w1 ⟨rfl, hb⟩))
    have HI1 := Aside0.mk (HI.out.call hb)
    have d1' : w1.cell? ⟨w.heap.size + 1, 1, none⟩ = some (.int .i64 ((prefW g x : Nat) : Int)) := blk_cell HI1.out.2.1 1
    have z1' : w1.frozen? ⟨w.heap.size + 1, 1, none⟩ = false := blk_frozen HI1.out.2.1 1
    clear c0 c1 z0 z1 d0 d1
    go_region
    all_goals
     go_wp2
     go_roundw
     case rel =>
      refine ⟨x + 1, by omega, by go_num, ?_⟩
      ·exact ⟨(HI1.out.set HG.out (by omega) (by rw [show shl .i64 1 (x : Int) = wrap64 (2 ^ x) from by unfold shl; rw [min_bits (by omega), Int.one_mul, i64_w]])).drew⟩
     case measure => simp [intOf]; omega
  ·obtain rfl : x = M := by omega
   go_wp2
   exact bodyPost_ret (v := .agg #[.int .i64 (N : Int), .int .i64 ((prefW g x : Nat) : Int)]) (by simp [results, Try.results66, go_sem, c0, c1, d0, d1]) rfl ⟨rfl, (HI.out.2.2.setCell (p := ⟨w.heap.size, 0, none⟩) (Nat.le_refl _) _).setCell (p := ⟨w.heap.size, 1, none⟩) (Nat.le_refl _) _⟩
def impl_Table_restrict.f (a0_0 : Int) (a0_1 : Int) (a1 : Int) (a2 : Int) : Option (Int × Int) :=
 if 1 ≤ a0_0 ∧ a0_0 ≤ 5 ∧ 0 ≤ a0_1 ∧ a0_1 < 4294967296 ∧ 0 ≤ a1 ∧ a1 < a0_0 ∧ 0 ≤ a2 ∧ a2 ≤ 1 then some (a0_0 - 1, ((prefW (fun x => a0_1.toNat.testBit (ins x a1.toNat a2.toNat)) (2 ^ (a0_0.toNat - 1)) : Nat) : Int)) else none
theorem impl_Table_restrict.spread_ins : ∀ x : Nat, x < 16 → ∀ i : Nat, i < 5 → ∀ b : Nat, b < 2 → (impl_spread.f (x : Int) (i : Int) (b : Int) = some ((ins x i b : Nat) : Int) ∧ ins x i b < 32) :=
 allB_dec3 (P := fun x i b => impl_spread.f (x : Int) (i : Int) (b : Int) = some ((ins x i b : Nat) : Int) ∧ ins x i b < 32) (by decide +kernel)
theorem impl_Table_restrict.at_bit {n v y : Nat} (hv : v < 2 ^ 63) (hy : y ≤ 63) : impl_Table_at.f (n : Int) (v : Int) (y : Int) = some (((v.testBit y).toNat : Nat) : Int) := by
 unfold impl_Table_at.f
 rw [if_pos (Int.natCast_nonneg y), bit_nat hv (by omega)]
theorem impl_Table_restrict.mk (n v i b : Nat) (h1 : 1 ≤ n) (hn : n ≤ 5) (hv : v < 4294967296) (hi : i < n) (hb : b ≤ 1) (F I B : Nat) (w : World) (hF : F < w.heap.size) (hI : I < w.heap.size) (hB : B < w.heap.size)
  (f0 : w.cell? ⟨F, 0, none⟩ = some (.int .i64 (n : Int))) (f1 : w.cell? ⟨F, 1, none⟩ = some (.int .i64 (v : Int))) (fi : w.cell? ⟨I, 0, none⟩ = some (.int .i64 (i : Int))) (fb : w.cell? ⟨B, 0, none⟩ = some (.int .i64 (b : Int))) :
  Calls Try.prog 66 #[.int .i64 (((n - 1 : Nat) : Nat) : Int), .func (.func 67) #[] #[.pointer (some ⟨F, 0, none⟩), .pointer (some ⟨I, 0, none⟩), .pointer (some ⟨B, 0, none⟩)]] w fun e w' => e = .returned (.agg #[.int .i64 ((n - 1 : Nat) : Int), .int .i64 ((prefW (fun x => v.testBit (ins x i b)) (2 ^ (n - 1)) : Nat) : Int)]) ∧ Below w.heap.size w w' := by
 have h16 : 2 ^ (n - 1) ≤ 16 := by
  have := Nat.pow_le_pow_right (show 0 < 2 by decide) (show n - 1 ≤ 4 by omega)
  simpa using this
 have e10 : wrap64 ((2 : Int) ^ (n - 1)) = ((2 ^ (n - 1) : Nat) : Int) := by
  have : ((2 : Int) ^ (n - 1)) = ((2 ^ (n - 1) : Nat) : Int) := by push_cast; rfl
  rw [this]
  obtain ⟨P, hP⟩ : ∃ P, P = 2 ^ (n - 1) := ⟨_, rfl⟩
  rw [← hP] at h16 ⊢
  exact w64 (by omega) (by omega)
 refine impl_Table_restrict.aux (n - 1) (2 ^ (n - 1)) (by omega) (by omega) e10 _ F I B w (fun x W hx hb' => ?_)
 obtain ⟨hs, hy⟩ := impl_Table_restrict.spread_ins x (by omega) i (by omega) b (by omega)
 have hc := impl_Table_restrict.clo n v i b x ((ins x i b : Nat) : Int) (((v.testBit (ins x i b)).toNat : Nat) : Int) F I B W (Nat.lt_of_lt_of_le hF hb'.size) (Nat.lt_of_lt_of_le hI hb'.size) (Nat.lt_of_lt_of_le hB hb'.size)
  ((hb'.cell (p := ⟨F, 0, none⟩) hF).trans f0) ((hb'.cell (p := ⟨F, 1, none⟩) hF).trans f1) ((hb'.cell (p := ⟨I, 0, none⟩) hI).trans fi) ((hb'.cell (p := ⟨B, 0, none⟩) hB).trans fb) hs (impl_Table_restrict.at_bit (by omega) (by omega))
 rw [toNat_beq1] at hc
 exact hc
set_option maxHeartbeats 1600000 in
theorem impl_Table_restrict.nat (n v i b m : Nat) (h1 : 1 ≤ n) (hn : n ≤ 5) (hv : v < 4294967296) (hi : i < n) (hb : b ≤ 1) (w : World) (e1 : (n : Int) - 1 = (m : Int)) (hm : n - 1 = m) :
  Calls Try.prog 51 #[.agg #[.int .i64 (n : Int), .int .i64 (v : Int)], .int .i64 (i : Int), .int .i64 (b : Int)] w fun e w' => e = .returned (.agg #[.int .i64 (m : Int), .int .i64 ((prefW (fun x => v.testBit (ins x i b)) (2 ^ m) : Nat) : Int)]) ∧ Below w.heap.size w w' := by
 have huT := Try.underlying25
 have HC := Aside0.mk (impl_Table_restrict.mk n v i b h1 hn hv hi hb w.heap.size (w.heap.size + 1) (w.heap.size + 2) ((((w.alloc (.cells #[.int .i64 (n : Int), .int .i64 (v : Int)] 25)).alloc (.cells #[.int .i64 (i : Int)] 3)).alloc (.cells #[.int .i64 (b : Int)] 3)).alloc (.cells #[.int .i64 0, .int .i64 0] 25)) (by simp; omega) (by simp) (by simp) (by go_simp) (by go_simp) (by go_simp) (by go_simp))
 rw [hm] at HC
 have HR : Aside0 (((((w.alloc (.cells #[.int .i64 (n : Int), .int .i64 (v : Int)] 25)).alloc (.cells #[.int .i64 (i : Int)] 3)).alloc (.cells #[.int .i64 (b : Int)] 3)).alloc (.cells #[.int .i64 0, .int .i64 0] 25)).heap[w.heap.size + 1 + 1 + 1]? = some (.cells #[.int .i64 0, .int .i64 0] 25 (0, 0))) := ⟨by simpa using blk_new (((w.alloc (.cells #[.int .i64 (n : Int), .int .i64 (v : Int)] 25)).alloc (.cells #[.int .i64 (i : Int)] 3)).alloc (.cells #[.int .i64 (b : Int)] 3)) (.cells #[.int .i64 0, .int .i64 0] 25)⟩
 have HB : Aside0 (Below w.heap.size w ((((w.alloc (.cells #[.int .i64 (n : Int), .int .i64 (v : Int)] 25)).alloc (.cells #[.int .i64 (i : Int)] 3)).alloc (.cells #[.int .i64 (b : Int)] 3)).alloc (.cells #[.int .i64 0, .int .i64 0] 25))) := ⟨((((Below.refl _ _).alloc (Nat.le_refl _) _).alloc (by simp) _).alloc (by simp; omega) _).alloc (by simp; omega) _⟩
 clear hm hi hv
 go_enter Try.func51, Try.ntmps51
 go_wp2_with (first | (go_at_call 66; (with_reducible refine HC.out.mono ?_); rintro e w1 ⟨rfl, hb1⟩; have RB := Aside0.mk (blk_below HR.out hb1); have BB := Aside0.mk (HB.out.trans (hb1.mono HB.out.size)); clear hb1; have r0 : w1.cell? ⟨w.heap.size + 1 + 1 + 1, 0, none⟩ = some (.int .i64 0) := blk_cell RB.out 0; have r1 : w1.cell? ⟨w.heap.size + 1 + 1 + 1, 1, none⟩ = some (.int .i64 0) := blk_cell RB.out 1; have z0 := blk_frozen RB.out 0; have z1 := blk_frozen RB.out 1))
 exact bodyPost_ret (v := .agg #[.int .i64 (m : Int), .int .i64 ((prefW (fun x => v.testBit (ins x i b)) (2 ^ m) : Nat) : Int)]) (by simp [results, Try.results51, go_sem, r0, r1]) rfl ⟨rfl, (BB.out.setCell (p := ⟨w.heap.size + 1 + 1 + 1, 0, none⟩) (by show w.heap.size ≤ w.heap.size + 1 + 1 + 1; omega) _).setCell (p := ⟨w.heap.size + 1 + 1 + 1, 1, none⟩) (by show w.heap.size ≤ w.heap.size + 1 + 1 + 1; omega) _⟩
theorem impl_Table_restrict.calls (a0_0 : Int) (a0_1 : Int) (a1 : Int) (a2 : Int) (r1 : Int) (r2 : Int) (w : World) (h : impl_Table_restrict.f a0_0 a0_1 a1 a2 = some (r1, r2)) :
  Calls Try.prog 51 #[.agg #[.int .i64 a0_0, .int .i64 a0_1], .int .i64 a1, .int .i64 a2] w fun e w' => e = .returned (.agg #[.int .i64 r1, .int .i64 r2]) ∧ Below w.heap.size w w' := by
 unfold impl_Table_restrict.f at h
 by_cases hc : 1 ≤ a0_0 ∧ a0_0 ≤ 5 ∧ 0 ≤ a0_1 ∧ a0_1 < 4294967296 ∧ 0 ≤ a1 ∧ a1 < a0_0 ∧ 0 ≤ a2 ∧ a2 ≤ 1
 ·rw [if_pos hc] at h
  obtain ⟨c1, c2, c3, c4, c5, c6, c7, c8⟩ := hc
  obtain ⟨n, rfl⟩ := nat_of (show 0 ≤ a0_0 by omega)
  obtain ⟨v, rfl⟩ := nat_of c3
  obtain ⟨i, rfl⟩ := nat_of c5
  obtain ⟨b, rfl⟩ := nat_of c7
  have h2 := Option.some.inj h
  simp only [Prod.mk.injEq, Int.toNat_natCast] at h2
  obtain ⟨rfl, rfl⟩ := h2
  have e : ((n : Int) - 1) = ((n - 1 : Nat) : Int) := by omega
  rw [e]
  exact impl_Table_restrict.nat n v i b (n - 1) (by omega) (by omega) (by omega) (by omega) (by omega) w e rfl
 ·rw [if_neg hc] at h; cases h
end Go.Proofs.Ythekbiofjhkecaa.Print
namespace Go.Proofs.Ythekbiofjhkecaa.Print
open Go.RowKit Go.Proofs.YthekbiofjhkecaaW.PrintWords Go.Proofs.YthekbiofjhkecaaW.PrintLast Go.Proofs.YthekbiofjhkecaaW.PrintMore
attribute [local go_sem] max2_int min2_int max_two min_two max_three min_three max_four min_four   -- for this text's walks alone
set_option linter.unusedVariables false
set_option linter.unusedSimpArgs false
/-! ### impl_cubes: function 26 -/
open Go.Proofs.Ythekbiofjhkecaa.M
/-- nothing that lies from B on has turned -/
def impl_cubes.Away (B : Nat) (W W' : World) : Prop := W.heap.size ≤ W'.heap.size ∧ ∀ b, B ≤ b → b < W.heap.size → W'.heap[b]? = W.heap[b]?
theorem impl_cubes.Away.refl (B : Nat) (W : World) : impl_cubes.Away B W W := ⟨Nat.le_refl _, fun _ _ _ => rfl⟩
theorem impl_cubes.Away.trans {B : Nat} {W W' W'' : World} (h : impl_cubes.Away B W W') (h' : impl_cubes.Away B W' W'') : impl_cubes.Away B W W'' :=
 ⟨Nat.le_trans h.1 h'.1, fun b h1 h2 => (h'.2 b h1 (Nat.lt_of_lt_of_le h2 h.1)).trans (h.2 b h1 h2)⟩
theorem impl_cubes.Away.below (B : Nat) {W W' : World} (h : Below W.heap.size W W') : impl_cubes.Away B W W' := ⟨h.size, fun b _ h2 => h.block b h2⟩
theorem impl_cubes.Away.blk {B g : Nat} {W W' : World} {o : Obj} (h : impl_cubes.Away B W W') (hg : B ≤ g) (hb : W.heap[g]? = some o) : W'.heap[g]? = some o := (h.2 g hg (blk_lt hb)).trans hb
theorem impl_cubes.Away.setCell {B : Nat} {W : World} {p : Addr} (hp : p.block < B) (u : Value) : impl_cubes.Away B W (W.setCell p u) := ⟨((Below.refl 0 W).setCell (Nat.zero_le _) u).size, fun b h1 _ => Below.heap_setCell W p u b (by omega)⟩
theorem impl_cubes.size_some (n v : Nat) (hn : n ≤ 5) : impl_Table_size.f (n : Int) (v : Int) = some ((2 ^ n : Nat) : Int) := by
 unfold impl_Table_size.f
 rw [if_pos (Int.natCast_nonneg n), shl_one (by omega)]
theorem impl_cubes.ones_pc {w : Nat} (h : w < 2 ^ 32) : impl_ones.f w = some ((pc w : Nat) : Int) := by
 unfold impl_ones.f
 rw [u64n (by omega)]
 unfold bits_OnesCount64.f
 rw [sA_eq h, sB_eq (sA_lt h), sC_eq (sB_lt (sA_lt h)), Option.bind_some]
 exact congrArg some (swar_end h rfl _ rfl)
set_option maxHeartbeats 8000000 in
set_option maxRecDepth 100000 in
theorem impl_cubes.call (n v kk N : Nat) (hn : n ≤ 4) (hN : N = 2 ^ n) (hv : v < 2 ^ 2 ^ n) (hk : kk ≤ n) (hsm : impl_isSmall.f (n : Int) (v : Int) 4 = some true) (g : Nat) (lb : Array Value) (eg : ∀ args w, (callFunc g args).run Try.prog w = .ok (.enter g args) w) (I : List Nat → World → Prop) (w : World) (h0 : I [] w)
  (hs : ∀ l W W', I l W → Below w.heap.size W W' → I l W')
  (hc : ∀ (l : List Nat) (x : Nat) (W : World), x < 2 ^ 2 ^ kk → I l W → Calls Try.prog g (#[.agg #[.int .i64 (kk : Int), .int .i64 (x : Int)]] ++ lb) W fun e W' => e = .returned (.tuple #[]) ∧ I (l ++ [x]) W' ∧ impl_cubes.Away w.heap.size W W') :
  Calls Try.prog 26 #[.agg #[.int .i64 (n : Int), .int .i64 (v : Int)], .int .i64 (kk : Int), .func (.func g) #[] lb] w fun e w' => e = .returned (.bool true) ∧ I (cutAll n v kk N) w' := by
 have huT := Try.underlying25
 have H0 := Aside0.mk h0; have HS := Aside0.mk hs; have HC := Aside0.mk hc; have HSM := Aside0.mk hsm
 have HSZ := Aside0.mk (impl_cubes.size_some n v (by omega))
 rw [← hN] at HSZ
 have hN16 : N ≤ 16 := by rw [hN]; exact Nat.pow_le_pow_right (n := 2) (by decide) hn
 have HV := Aside0.mk hv
 have hkn : decide ((kk : Int) > (n : Int)) = false := decide_eq_false (by omega)
 have hkn2 : decide ((n : Int) < (kk : Int)) = false := decide_eq_false (by omega)
 have hkn3 : decide (n < kk) = false := decide_eq_false (by omega)
 have hk0 : decide ((kk : Int) < 0) = false := decide_eq_false (by omega)
 have B0 : Aside0 (∀ W, Below (w.alloc (.cells #[.int .i64 (n : Int), .int .i64 (v : Int)] 25)).heap.size (w.alloc (.cells #[.int .i64 (n : Int), .int .i64 (v : Int)] 25)) W → W.heap[w.heap.size]? = some (.cells #[.int .i64 (n : Int), .int .i64 (v : Int)] 25 (0, 0))) := ⟨fun W hb => blk_below (blk_new w _) hb⟩
 have BB : Aside0 (Below w.heap.size w (w.alloc (.cells #[.int .i64 (n : Int), .int .i64 (v : Int)] 25))) := ⟨(Below.refl _ _).alloc (Nat.le_refl _) _⟩
 have hnn := Aside0.mk hn; have hNN := Aside0.mk hN; have hkk := Aside0.mk hk; clear h0 hs hc hsm hv hn hN hk
 go_enter Try.func26, Try.ntmps26
 go_wp2_with (first | (go_at_call 25; (with_reducible refine (impl_isSmall.calls _ _ _ _ _ HSM.out).mono ?_); rintro e w' ⟨rfl, hb⟩; have B1 := Aside0.mk hb; clear hb; have p0 := blk_cell (B0.out _ B1.out) 0; have p1 := blk_cell (B0.out _ B1.out) 1) | (go_at_call 50; (with_reducible refine (impl_Table_size.calls _ _ _ _ HSZ.out).mono ?_); rintro e w2 ⟨rfl, hb⟩; have B2 := Aside0.mk (B1.out.trans (hb.mono B1.out.size)); clear hb))
 go_loopg [26] N (fun gg v26 wr => ∃ m : Nat, m ≤ N ∧ N - m ≤ gg ∧ v26 = .int .i64 (m : Int) ∧ Aside0 (I (cutAll n v kk m) wr) ∧ Aside0 (wr.heap[w.heap.size]? = some (.cells #[.int .i64 (n : Int), .int .i64 (v : Int)] 25 (0, 0))) ∧ Aside0 (w.heap.size < wr.heap.size))
 case atStart => exact ⟨0, Nat.zero_le _, by omega, rfl, ⟨HS.out _ _ _ H0.out (BB.out.trans (B2.out.mono BB.out.size))⟩, ⟨B0.out _ B2.out⟩, ⟨blk_lt (B0.out _ B2.out)⟩⟩
 case round =>
  clear p0 p1 B1 B2 H0; obtain ⟨m, hm, hg, rfl, HI, HT, HZ⟩ := hrel
  by_cases hlt : m < N
  ·have hltz : (m : Int) < (N : Int) := by omega
   have c0 := blk_cell HT.out 0
   have c1 := blk_cell HT.out 1
   have hnv := hnn.out
   have hNv := hNN.out
   have hlp := left_all n (by omega) m (by omega) (by omega)
   have hpp : pc m ≤ n := by omega
   have HP := Aside0.mk (impl_cubes.ones_pc (w := m) (by omega))
   have HL := Aside0.mk hlp
   have hall : cutAll n v kk (m + 1) = if pc m + kk = n then cutAll n v kk m ++ cutRow n v m (2 ^ n) else cutAll n v kk m := rfl
   rw [← hNv] at hall
   have HA := Aside0.mk hall
   generalize pc m = p at *
   have e1 : wrap64 ((n : Int) - (p : Int)) = (n : Int) - (p : Int) := w64 (by omega) (by omega)
   clear hlp hnv hNv hall
   by_cases hpk : p + kk = n
   ·have e2 : ((n : Int) - (p : Int) != (kk : Int)) = false := bne_eq_false_iff_eq.mpr (by omega)
    have HPK := Aside0.mk hpk; clear hpk
    go_wp2
    go_quiet (first | (go_at_call 28; (with_reducible refine (impl_ones.calls _ _ _ HP.out).mono ?_); rintro e w' ⟨rfl, ⟨nd2, rfl⟩⟩; (first | exact ⟨rfl, _, World.drewN_drewN _ _ _⟩ | exact ⟨rfl, _, Eq.trans (World.drewN_drewN _ _ _) (congrArg (World.drewN _) (Nat.add_assoc _ _ _))⟩)))
    have c0 : ∀ nd, (wr.drewN nd).cell? ⟨w.heap.size, 0, none⟩ = some (.int .i64 (n : Int)) := fun nd => blk_cell (blk_drewN HT.out nd) 0
    have c1 : ∀ nd, (wr.drewN nd).cell? ⟨w.heap.size, 1, none⟩ = some (.int .i64 (v : Int)) := fun nd => blk_cell (blk_drewN HT.out nd) 1
    go_wp2_with (first | (go_at_call 50; (with_reducible refine (impl_Table_size.calls _ _ _ _ HSZ.out).mono ?_); rintro e w3 ⟨rfl, hb⟩; have B3 : Aside0 (Below wr.heap.size wr w3) := ⟨(pw_below_drewN (Below.refl _ _) _).trans hb⟩; clear hb))
    clear c0 c1
    go_loopg [38] N (fun gg2 v38 wr => ∃ u : Nat, u ≤ N ∧ N - u ≤ gg2 ∧ v38 = .int .i64 (u : Int) ∧ Aside0 (I (cutAll n v kk m ++ cutRow n v m u) wr) ∧ Aside0 (wr.heap[w.heap.size]? = some (.cells #[.int .i64 (n : Int), .int .i64 (v : Int)] 25 (0, 0))) ∧ Aside0 (w.heap.size < wr.heap.size))
    case atStart => exact ⟨0, Nat.zero_le _, by omega, rfl, ⟨by rw [show cutRow n v m 0 = [] from rfl, List.append_nil]; exact HS.out _ _ _ HI.out (B3.out.mono (Nat.le_of_lt HZ.out))⟩, ⟨blk_below HT.out B3.out⟩, ⟨Nat.lt_of_lt_of_le HZ.out B3.out.size⟩⟩
    case round =>
     clear B3 HI HT HZ; obtain ⟨u, hu, hg2, rfl, HI, HT, HZ⟩ := hrel
     by_cases hlt2 : u < N
     ·have hltz2 : (u : Int) < (N : Int) := by omega
      have e3 : Go.bits .andNot .i64 (u : Int) (m : Int) = ((andn u m : Nat) : Int) := andNot_nat (by omega) (by omega)
      have hrow : cutRow n v m (u + 1) = if andn u m = 0 then cutRow n v m u ++ [(cutS n v m u n).2] else cutRow n v m u := rfl
      have HRW := Aside0.mk hrow; clear hrow
      generalize hz : andn u m = z at *
      clear hz
      by_cases hzz : z = 0
      ·subst hzz
       have c0 : wr.cell? ⟨w.heap.size, 0, none⟩ = some (.int .i64 (n : Int)) := blk_cell HT.out 0
       have c1 : wr.cell? ⟨w.heap.size, 1, none⟩ = some (.int .i64 (v : Int)) := blk_cell HT.out 1
       have en : wrap64 ((n : Int) - 1) = (n : Int) - 1 := by have := hnn.out; exact w64 (by omega) (by omega)
       have HT9 : Aside0 ((wr.alloc (.cells #[.int .i64 (n : Int), .int .i64 (v : Int)] 25)).heap[wr.heap.size]? = some (.cells #[.int .i64 (n : Int), .int .i64 (v : Int)] 25 (0, 0))) := ⟨blk_new _ _⟩
       have HTA : Aside0 ((wr.alloc (.cells #[.int .i64 (n : Int), .int .i64 (v : Int)] 25)).heap[w.heap.size]? = some (.cells #[.int .i64 (n : Int), .int .i64 (v : Int)] 25 (0, 0))) := ⟨blk_alloc HT.out _⟩
       have HIA : Aside0 (I (cutAll n v kk m ++ cutRow n v m u) (wr.alloc (.cells #[.int .i64 (n : Int), .int .i64 (v : Int)] 25))) := ⟨HS.out _ _ _ HI.out ((Below.refl _ _).alloc (Nat.le_of_lt HZ.out) _)⟩
       have d0 := blk_cell HTA.out 0
       have HC0 : Aside0 (cutS n v m u 0 = (n, v)) := ⟨rfl⟩
       go_wp2
       clear c0 c1 d0
       obtain ⟨G, hG⟩ : ∃ G, G = wr.heap.size := ⟨_, rfl⟩
       have HG1 : Aside0 (w.heap.size < G) := ⟨by rw [hG]; exact HZ.out⟩
       rw [← hG] at HT9
       rw [← hG]
       have HSZ9 : Aside0 (G < (wr.alloc (.cells #[.int .i64 (n : Int), .int .i64 (v : Int)] 25)).heap.size) := ⟨by rw [hG]; simp⟩
       clear hG HZ HT HI
       go_loopg [10] n (fun gg3 v10 wr => ∃ d : Nat, d ≤ n ∧ n - d ≤ gg3 ∧ v10 = .int .i64 ((n : Int) - 1 - (d : Int)) ∧ Aside0 (I (cutAll n v kk m ++ cutRow n v m u) wr) ∧ Aside0 (wr.heap[w.heap.size]? = some (.cells #[.int .i64 (n : Int), .int .i64 (v : Int)] 25 (0, 0))) ∧ Aside0 (wr.heap[G]? = some (.cells #[.int .i64 ((cutS n v m u d).1 : Int), .int .i64 ((cutS n v m u d).2 : Int)] 25 (0, 0))) ∧ Aside0 (G < wr.heap.size))
       case atStart => exact ⟨0, Nat.zero_le _, by omega, by simp, HIA, HTA, ⟨by rw [HC0.out]; exact HT9.out⟩, HSZ9⟩
       case round =>
        clear HT9 HTA HIA HSZ9; obtain ⟨d, hd, hg3, rfl, HI, HT, HT9, HZ⟩ := hrel
        by_cases hlt3 : d < n
        ·have hn4 := hnn.out
         obtain ⟨i, hi⟩ : ∃ i, i = n - 1 - d := ⟨_, rfl⟩
         have ei : (n : Int) - 1 - (d : Int) = (i : Int) := by omega
         have ei1 : wrap64 ((i : Int) - 1) = (n : Int) - 1 - ((d + 1 : Nat) : Int) := by rw [w64 (by omega) (by omega)]; omega
         have hcut : cutS n v m u (d + 1) = if m.testBit (n - 1 - d) = true then ((cutS n v m u d).1 - 1, rstW (cutS n v m u d).1 (cutS n v m u d).2 (n - 1 - d) (u.testBit (n - 1 - d)).toNat) else cutS n v m u d := rfl
         obtain ⟨o1, o2, o3⟩ := cut_ok (m := m) (u := u) hnn.out HV.out d (by omega)
         rw [← hi] at hcut
         rw [ei]
         have hmb := bit_nat (a := m) (n := i) (by omega) (by omega)
         have hub := bit_nat (a := u) (n := i) (by omega) (by omega)
         have es : ∀ y : Nat, shr .i64 (y : Int) (i : Int) = (y : Int) / 2 ^ i := fun y => by rw [shr_nat (by omega)]; push_cast; rfl
         rw [es] at hmb hub
         have hi64 : i ≤ 64 := by omega
         have hi4 : i < 4 := by omega
         have hbi : i + 1 ≤ (cutS n v m u d).1 := by omega
         clear es hi
         generalize cutS n v m u d = s at *
         obtain ⟨b, x⟩ := s
         simp only [] at o1 o2 o3 hbi hcut HT9
         cases hm : m.testBit i with
         | true =>
          rw [hm] at hmb
          rw [hm, if_pos rfl] at hcut
          have hR : impl_Table_restrict.f (b : Int) (x : Int) (i : Int) (((u.testBit i).toNat : Nat) : Int) = some (((b - 1 : Nat) : Int), ((rstW b x i (u.testBit i).toNat : Nat) : Int)) := by
           have hx32 : x < 2 ^ 32 := Nat.lt_of_lt_of_le o3 (full_lt (by omega))
           have ht := toNat_le (u.testBit i)
           unfold impl_Table_restrict.f
           rw [if_pos (by omega)]
           congr 2
           omega
          have HRS := Aside0.mk (fun W => impl_Table_restrict.calls _ _ _ _ _ _ W hR)
          have k0 := blk_cell HT9.out 0
          have k1 := blk_cell HT9.out 1
          have y0 := blk_frozen HT9.out 0
          have y1 := blk_frozen HT9.out 1
          generalize (((u.testBit i).toNat : Nat) : Int) = ub at *
          generalize hxr : rstW b x i (u.testBit i).toNat = xr at *
          clear hR o1 o2 o3 hbi hxr
          go_wp2
          go_region_with (first | (go_at_call 51; (with_reducible refine (HRS.out _).mono ?_); rintro e w3 ⟨rfl, hb3⟩; have RB := Aside0.mk (blk_below (blk_drewN HT9.out _) hb3); have r0 := blk_cell RB.out 0; have r1 := blk_cell RB.out 1; have z0 := blk_frozen RB.out 0; have z1 := blk_frozen RB.out 1; have B3 : Aside0 (Below wr.heap.size wr w3) := ⟨(pw_below_drewN (Below.refl _ _) _).trans hb3⟩; clear hb3))
          all_goals
           go_wp2
           have hgw : w.heap.size ≤ G := Nat.le_of_lt HG1.out
           have hBB := (((B3.out.mono (Nat.le_trans hgw (Nat.le_of_lt HZ.out))).setCell (p := ⟨G, 0, none⟩) hgw (.int .i64 ((b - 1 : Nat) : Int))).setCell (p := ⟨G, 1, none⟩) hgw (.int .i64 (xr : Int)))
           have hTT := blk_far (blk_far (blk_below HT.out B3.out) (p := ⟨G, 0, none⟩) (Nat.ne_of_lt HG1.out) (.int .i64 ((b - 1 : Nat) : Int))) (p := ⟨G, 1, none⟩) (Nat.ne_of_lt HG1.out) (.int .i64 (xr : Int))
           have hGG := blk_set (blk_set RB.out 0 (.int .i64 ((b - 1 : Nat) : Int))) 1 (.int .i64 (xr : Int))
           have HBBa := Aside0.mk hBB; have HTTa := Aside0.mk hTT; have HGGa := Aside0.mk hGG; clear hBB hTT hGG
           go_roundg (n - (d + 1))
           case measure => omega
           case rel =>
            refine ⟨d + 1, by omega, by omega, by rw [← ei1]; go_num, ⟨HS.out _ _ _ HI.out HBBa.out⟩, ⟨HTTa.out⟩, ⟨?_⟩, ⟨blk_lt HGGa.out⟩⟩
            rw [hcut]
            simpa using HGGa.out
         | false =>
          rw [hm] at hmb
          rw [hm, if_neg (by decide)] at hcut
          go_wp2
          go_roundg (n - (d + 1))
          case measure => omega
          case rel => exact ⟨d + 1, by omega, by omega, by rw [← ei1]; go_num, HI, HT, ⟨by rw [hcut]; exact HT9.out⟩, HZ⟩
        ·obtain rfl : d = n := by omega
         have e6 : decide ((d : Int) - 1 - (d : Int) ≥ 0) = false := decide_eq_false (by omega)
         have e7 : (d : Int) - 1 - (d : Int) = -1 := by omega
         have hl := cut_left d v m u d
         have hla := HL.out
         have hk1 : (cutS d v m u d).1 = kk := by have := HPK.out; omega
         have ho3 := (cut_ok (m := m) (u := u) hnn.out HV.out d (by omega)).2.2
         rw [hk1] at ho3
         have hcall := HC.out (cutAll d v kk m ++ cutRow d v m u) (cutS d v m u d).2 wr ho3 HI.out
         have HRW2 := HRW.out
         rw [if_pos (by simp)] at HRW2
         have HQ := Aside0.mk HRW2
         rw [hk1] at HT9
         have HCL := Aside0.mk hcall; clear hl hla hk1 ho3 hcall HRW2 HRW
         generalize (cutS d v m u d).2 = x at *
         have k0 := blk_cell HT9.out 0
         have k1 := blk_cell HT9.out 1
         rw [e7]
         go_wp2_with (go_at_fn g; refine HCL.out.mono ?_; rintro e w4 ⟨rfl, hi4, ha4⟩; have HI4 := Aside0.mk hi4; have HA4 := Aside0.mk ha4; clear hi4 ha4)
         go_roundg (N - (u + 1))
         case measure => omega
         case rel =>
          refine ⟨u + 1, by omega, by omega, by go_num, ?_, ⟨HA4.out.blk (Nat.le_refl _) HT.out⟩, ⟨blk_lt (HA4.out.blk (Nat.le_refl _) HT.out)⟩⟩
          rw [HQ.out, ← List.append_assoc]
          exact HI4
      ·have e4 : ((z : Int) != 0) = true := bne_iff_ne.mpr (by omega)
       have HZZ := Aside0.mk hzz; clear hzz
       go_wp2
       go_roundg (N - (u + 1))
       case measure => omega
       case rel =>
        refine ⟨u + 1, by omega, by omega, by go_num, ?_, HT, HZ⟩
        rw [HRW.out, if_neg HZZ.out]
        exact HI
     ·obtain rfl : u = N := by omega
      go_wp2
      go_roundg (u - (m + 1))
      case measure => omega
      case rel =>
       refine ⟨m + 1, by omega, by omega, by go_num, ?_, HT, HZ⟩
       rw [HA.out, if_pos HPK.out]
       exact HI
   ·have e2 : ((n : Int) - (p : Int) != (kk : Int)) = true := bne_iff_ne.mpr (by omega)
    have HPK := Aside0.mk hpk; clear hpk
    go_wp2
    go_quiet (first | (go_at_call 28; (with_reducible refine (impl_ones.calls _ _ _ HP.out).mono ?_); rintro e w' ⟨rfl, ⟨nd2, rfl⟩⟩; (first | exact ⟨rfl, _, World.drewN_drewN _ _ _⟩ | exact ⟨rfl, _, Eq.trans (World.drewN_drewN _ _ _) (congrArg (World.drewN _) (Nat.add_assoc _ _ _))⟩)))
    go_wp2
    go_roundg (N - (m + 1))
    case measure => omega
    case rel =>
     refine ⟨m + 1, by omega, by omega, by go_num, ?_, ⟨blk_drewN HT.out _⟩, ⟨HZ.out⟩⟩
     rw [HA.out, if_neg HPK.out]
     exact ⟨HS.out _ _ _ HI.out (pw_below_drewN (Below.refl _ _) _)⟩
  ·obtain rfl : m = N := by omega
   go_wp2
   go_ret
   exact ⟨rfl, HI.out⟩
theorem impl_cubes.bad (a b kk : Int) (q : Bool) (hsm : impl_isSmall.f a b 4 = some q) (h : q = true → kk < 0 ∨ a < kk) (fv : Value) (w : World) :
  Calls Try.prog 26 #[.agg #[.int .i64 a, .int .i64 b], .int .i64 kk, fv] w fun e w' => e = .returned (.bool false) ∧ Below w.heap.size w w' := by
 have huT := Try.underlying25
 have HSM := Aside0.mk hsm
 have BB : Aside0 (Below w.heap.size w (w.alloc (.cells #[.int .i64 a, .int .i64 b] 25))) := ⟨(Below.refl _ _).alloc (Nat.le_refl _) _⟩
 have B0 : Aside0 (∀ W, Below (w.alloc (.cells #[.int .i64 a, .int .i64 b] 25)).heap.size (w.alloc (.cells #[.int .i64 a, .int .i64 b] 25)) W → W.heap[w.heap.size]? = some (.cells #[.int .i64 a, .int .i64 b] 25 (0, 0))) := ⟨fun W hb => blk_below (blk_new w _) hb⟩
 clear hsm
 cases q with
 | false =>
  clear h
  go_enter Try.func26, Try.ntmps26
  go_wp2_with (first | (go_at_call 25; (with_reducible refine (impl_isSmall.calls _ _ _ _ _ HSM.out).mono ?_); rintro e w' ⟨rfl, hb⟩))
  go_ret
  exact ⟨rfl, BB.out.trans (hb.mono BB.out.size)⟩
 | true =>
  have h := h rfl
  by_cases hk : kk < 0
  ·have hk0 : decide (kk < 0) = true := decide_eq_true hk
   clear h hk
   go_enter Try.func26, Try.ntmps26
   go_wp2_with (first | (go_at_call 25; (with_reducible refine (impl_isSmall.calls _ _ _ _ _ HSM.out).mono ?_); rintro e w' ⟨rfl, hb⟩; have B1 := Aside0.mk hb; clear hb; have p0 := blk_cell (B0.out _ B1.out) 0; have p1 := blk_cell (B0.out _ B1.out) 1))
   go_ret
   exact ⟨rfl, BB.out.trans (B1.out.mono BB.out.size)⟩
  ·have hk0 : decide (kk < 0) = false := decide_eq_false hk
   have hk1 : decide (kk > a) = true := decide_eq_true (by omega)
   have hk2 : decide (a < kk) = true := decide_eq_true (by omega)
   clear h hk
   go_enter Try.func26, Try.ntmps26
   go_wp2_with (first | (go_at_call 25; (with_reducible refine (impl_isSmall.calls _ _ _ _ _ HSM.out).mono ?_); rintro e w' ⟨rfl, hb⟩; have B1 := Aside0.mk hb; clear hb; have p0 := blk_cell (B0.out _ B1.out) 0; have p1 := blk_cell (B0.out _ B1.out) 1))
   go_ret
   exact ⟨rfl, BB.out.trans (B1.out.mono BB.out.size)⟩
end Go.Proofs.Ythekbiofjhkecaa.Print
namespace Go.Proofs.Ythekbiofjhkecaa.Print
open Go.RowKit Go.Proofs.YthekbiofjhkecaaW.PrintWords Go.Proofs.YthekbiofjhkecaaW.PrintLast Go.Proofs.YthekbiofjhkecaaW.PrintMore
attribute [local go_sem] max2_int min2_int max_two min_two max_three min_three max_four min_four   -- for this text's walks alone
set_option linter.unusedVariables false
set_option linter.unusedSimpArgs false
/-! ### impl_sumOverCubes: function 29 -/
open Go.Proofs.Ythekbiofjhkecaa.M
/-- the sum of what a function tells of a list's numbers -/
def impl_sumOverCubes.sum (h : Nat → Int) (l : List Nat) : Int := l.foldl (fun s x => wrap64 (s + h x)) 0
/-- the function and the sum in memory -/
def impl_sumOverCubes.I (w : World) (fv : Value) (h : Nat → Int) (l : List Nat) (W : World) : Prop :=
 W.heap[w.heap.size + 1]? = some (.cells #[fv] 34 (0, 0)) ∧ W.heap[w.heap.size + 2]? = some (.cells #[.int .i64 (impl_sumOverCubes.sum h l)] 3 (0, 0)) ∧ Below w.heap.size w W
set_option maxHeartbeats 4000000 in
set_option maxRecDepth 100000 in
theorem impl_sumOverCubes.clo (w : World) (g : Nat) (lb : Array Value) (eg : ∀ args w, (callFunc g args).run Try.prog w = .ok (.enter g args) w) (h : Nat → Int) (l : List Nat) (B k x : Nat) (hB : w.heap.size + 3 ≤ B) (W : World) (hI : impl_sumOverCubes.I w (.func (.func g) #[] lb) h l W)
  (hp : ∀ W', Below w.heap.size w W' → Calls Try.prog g (#[.agg #[.int .i64 (k : Int), .int .i64 (x : Int)]] ++ lb) W' fun e W'' => e = .returned (.int .i64 (h x)) ∧ Below W'.heap.size W' W'') :
  Calls Try.prog 53 #[.agg #[.int .i64 (k : Int), .int .i64 (x : Int)], .pointer (some ⟨w.heap.size + 2, 0, none⟩), .pointer (some ⟨w.heap.size + 1, 0, none⟩)] W fun e W' => e = .returned (.tuple #[]) ∧ impl_sumOverCubes.I w (.func (.func g) #[] lb) h (l ++ [x]) W' ∧ impl_cubes.Away B W W' := by
 have huT := Try.underlying25
 obtain ⟨h1, h2, h3⟩ := hI
 have L1 := blk_lt h1
 have L2 := blk_lt h2
 obtain ⟨W0, hW0⟩ : ∃ W0, W0 = W.alloc (.cells #[.int .i64 (k : Int), .int .i64 (x : Int)] 25) := ⟨_, rfl⟩
 have BA : Below W.heap.size W W0 := by rw [hW0]; exact (Below.refl _ _).alloc (Nat.le_refl _) _
 have T0 : W0.heap[W.heap.size]? = some (.cells #[.int .i64 (k : Int), .int .i64 (x : Int)] 25 (0, 0)) := by rw [hW0]; exact blk_new W _
 have HP := Aside0.mk (fun W' (hb : Below W0.heap.size W0 W') => hp W' (h3.trans ((BA.trans (hb.mono BA.size)).mono h3.size)))
 have e1 : impl_sumOverCubes.sum h (l ++ [x]) = wrap64 (impl_sumOverCubes.sum h l + h x) := by unfold impl_sumOverCubes.sum; rw [List.foldl_append]; rfl
 have D1 := Aside0.mk (blk_below h1 BA)
 have D2 := Aside0.mk (blk_below h2 BA)
 have D3 := Aside0.mk h3; have D4 := Aside0.mk BA; have D5 := Aside0.mk T0
 have c0 := blk_cell (blk_below h2 BA) 0
 have c1 := blk_cell (blk_below h1 BA) 0
 have c2 := blk_cell T0 0
 have c3 := blk_cell T0 1
 have z0 := blk_frozen (blk_below h2 BA) 0
 have HBB := Aside0.mk hB
 unfold impl_sumOverCubes.I
 rw [e1]
 generalize impl_sumOverCubes.sum h l = s at *
 generalize h x = y at *
 clear hp h1 h2 h3 BA L1 L2 T0 hB e1; subst hW0
 go_enter Try.func53, Try.ntmps53
 go_wp2
 go_region_with (first | (go_at_fn g; refine (HP.out _ ?side).mono ?_; (case side => exact pw_below_drewN (Below.refl _ _) _); rintro e w' ⟨rfl, hb⟩; have q2 := Aside0.mk (blk_below (blk_drewN D2.out _) hb); have q1 := Aside0.mk (blk_below (blk_drewN D1.out _) hb); have k0 := blk_cell q2.out 0; have y0 := blk_frozen q2.out 0; have BW : Aside0 (Below W.heap.size W w') := ⟨D4.out.trans (((pw_below_drewN (Below.refl _ _) _).trans hb).mono D4.out.size)⟩; clear hb))
 all_goals
  refine bodyPost_end (v := .tuple #[]) (by simp [results, Try.results53]) rfl ⟨rfl, ⟨?_, ?_, ?_⟩, ?_⟩
  ·exact blk_far q1.out (by show w.heap.size + 1 ≠ w.heap.size + 2; omega) _
  ·have := blk_set q2.out 0 (.int .i64 (wrap64 (s + y)))
   rw [i64_w]
   simpa using this
  ·exact (D3.out.trans (BW.out.mono D3.out.size)).setCell (p := ⟨w.heap.size + 2, 0, none⟩) (by show w.heap.size ≤ w.heap.size + 2; omega) _
  ·exact (impl_cubes.Away.below B BW.out).trans (impl_cubes.Away.setCell (by have := HBB.out; show w.heap.size + 2 < B; omega) _)
set_option maxHeartbeats 4000000 in
set_option maxRecDepth 100000 in
theorem impl_sumOverCubes.good (n v kk N : Nat) (hn : n ≤ 4) (hN : N = 2 ^ n) (hv : v < 2 ^ 2 ^ n) (hk : kk ≤ n) (hsm : impl_isSmall.f (n : Int) (v : Int) 4 = some true) (g : Nat) (lb : Array Value) (eg : ∀ args w, (callFunc g args).run Try.prog w = .ok (.enter g args) w) (h : Nat → Int) (w : World)
  (hp : ∀ (x : Nat) (W : World), x < 2 ^ 2 ^ kk → Below w.heap.size w W → Calls Try.prog g (#[.agg #[.int .i64 (kk : Int), .int .i64 (x : Int)]] ++ lb) W fun e W' => e = .returned (.int .i64 (h x)) ∧ Below W.heap.size W W') :
  Calls Try.prog 29 #[.agg #[.int .i64 (n : Int), .int .i64 (v : Int)], .int .i64 (kk : Int), .func (.func g) #[] lb] w fun e w' => e = .returned (.int .i64 (impl_sumOverCubes.sum h (cutAll n v kk N))) ∧ Below w.heap.size w w' := by
 have huT := Try.underlying25
 obtain ⟨W0, hW0⟩ : ∃ W0, W0 = ((w.alloc (.cells #[.int .i64 (n : Int), .int .i64 (v : Int)] 25)).alloc (.cells #[.func (.func g) #[] lb] 34)).alloc (.cells #[.int .i64 0] 3) := ⟨_, rfl⟩
 have HB : Below w.heap.size w W0 := by rw [hW0]; exact (((Below.refl _ _).alloc (Nat.le_refl _) _).alloc (by simp) _).alloc (by simp; omega) _
 have c1 : W0.heap[w.heap.size + 1]? = some (.cells #[.func (.func g) #[] lb] 34 (0, 0)) := by
  rw [hW0]; have := blk_new (w.alloc (.cells #[.int .i64 (n : Int), .int .i64 (v : Int)] 25)) (.cells #[.func (.func g) #[] lb] 34)
  exact blk_alloc (by simpa using this) _
 have c2 : W0.heap[w.heap.size + 2]? = some (.cells #[.int .i64 0] 3 (0, 0)) := by
  rw [hW0]; have := blk_new ((w.alloc (.cells #[.int .i64 (n : Int), .int .i64 (v : Int)] 25)).alloc (.cells #[.func (.func g) #[] lb] 34)) (.cells #[.int .i64 0] 3)
  simpa using this
 have hsz : W0.heap.size = w.heap.size + 3 := by rw [hW0]; simp
 have hcall : ∀ W, Below W0.heap.size W0 W → Calls Try.prog 26 #[.agg #[.int .i64 (n : Int), .int .i64 (v : Int)], .int .i64 (kk : Int), .func (.func 53) #[] #[.pointer (some ⟨w.heap.size + 2, 0, none⟩), .pointer (some ⟨w.heap.size + 1, 0, none⟩)]] W fun e w' => e = .returned (.bool true) ∧ impl_sumOverCubes.I w (.func (.func g) #[] lb) h (cutAll n v kk N) w' := by
  intro W hb
  refine impl_cubes.call n v kk N hn hN hv hk hsm 53 #[.pointer (some ⟨w.heap.size + 2, 0, none⟩), .pointer (some ⟨w.heap.size + 1, 0, none⟩)] (enters_of Try.func53 (by kernel_rfl) rfl) (impl_sumOverCubes.I w (.func (.func g) #[] lb) h) W ⟨blk_below c1 hb, blk_below c2 hb, HB.trans (hb.mono HB.size)⟩ ?_ ?_
  ·intro l W1 W2 hI hb2
   have hw : w.heap.size + 3 ≤ W.heap.size := by have := hb.size; omega
   obtain ⟨i1, i2, i3⟩ := hI
   exact ⟨(hb2.block _ (by omega)).trans i1, (hb2.block _ (by omega)).trans i2, i3.trans (hb2.mono (by omega))⟩
  ·intro l x W1 hx hI
   exact impl_sumOverCubes.clo w g lb eg h l W.heap.size kk x (by have := hb.size; omega) W1 hI (fun W' hb' => hp x W' hx hb')
 have HC := Aside0.mk hcall; have HBB := Aside0.mk HB
 have t0 : W0.cell? ⟨w.heap.size, 0, none⟩ = some (.int .i64 (n : Int)) := by rw [hW0]; exact blk_cell (blk_alloc (blk_alloc (blk_new w _) _) _) 0
 have t1 : W0.cell? ⟨w.heap.size, 1, none⟩ = some (.int .i64 (v : Int)) := by rw [hW0]; exact blk_cell (blk_alloc (blk_alloc (blk_new w _) _) _) 1
 clear hcall HB c1 c2 hsz hp hsm hv hn hk
 generalize cutAll n v kk N = L at *
 generalize hs : impl_sumOverCubes.sum h L = s at *
 have CW := Aside0.mk hW0
 rw [hW0] at t0 t1
 have HSS := Aside0.mk hs; clear hW0 hs
 go_enter Try.func29, Try.ntmps29
 go_wp2_with (first | (go_at_call 26; rw [← CW.out]; (with_reducible refine (HC.out _ (Below.refl _ _)).mono ?_); rintro e w1 ⟨rfl, hI⟩; have HI := Aside0.mk hI; clear hI; have k2 : w1.cell? ⟨w.heap.size + 1 + 1, 0, none⟩ = some (.int .i64 s) := by (rw [← HSS.out]; exact blk_cell HI.out.2.1 0)))
 go_ret
 exact ⟨rfl, HI.out.2.2⟩
theorem impl_sumOverCubes.bad (a b kk : Int) (q : Bool) (hsm : impl_isSmall.f a b 4 = some q) (h : q = true → kk < 0 ∨ a < kk) (g : Nat) (lb : Array Value) (w : World) :
  Calls Try.prog 29 #[.agg #[.int .i64 a, .int .i64 b], .int .i64 kk, .func (.func g) #[] lb] w fun e w' => e = .returned (.int .i64 (-1)) ∧ Below w.heap.size w w' := by
 have huT := Try.underlying25
 have HC := Aside0.mk (fun fv W => impl_cubes.bad a b kk q hsm h fv W)
 have HB : Aside0 (Below w.heap.size w (((w.alloc (.cells #[.int .i64 a, .int .i64 b] 25)).alloc (.cells #[.func (.func g) #[] lb] 34)).alloc (.cells #[.int .i64 0] 3))) := ⟨(((Below.refl _ _).alloc (Nat.le_refl _) _).alloc (by simp) _).alloc (by simp; omega) _⟩
 clear hsm h
 go_enter Try.func29, Try.ntmps29
 go_wp2_with (first | (go_at_call 26; (with_reducible refine (HC.out _ _).mono ?_); rintro e w1 ⟨rfl, hb⟩))
 go_ret
 exact ⟨rfl, HB.out.trans (hb.mono HB.out.size)⟩
end Go.Proofs.Ythekbiofjhkecaa.Print
namespace Go.Proofs.Ythekbiofjhkecaa.Print
open Go.RowKit Go.Proofs.YthekbiofjhkecaaW.PrintWords Go.Proofs.YthekbiofjhkecaaW.PrintLast Go.Proofs.YthekbiofjhkecaaW.PrintMore
attribute [local go_sem] max2_int min2_int max_two min_two max_three min_three max_four min_four   -- for this text's walks alone
set_option linter.unusedVariables false
set_option linter.unusedSimpArgs false
/-! ### impl_Table_not: function 54 -/
def impl_Table_not.f (a0_0 : Int) (a0_1 : Int) : Option (Int × Int) := (impl_Table_size.f a0_0 a0_1).bind fun t202 => (if 0 ≤ t202 then (some (a0_0, Go.bits .xor .i64 a0_1 (wrap64 ((shl .i64 1 t202) - 1)))) else (none))
def impl_Table_not.T1 : Bool × List (List Nat × List Nat) := (true, [([], []), ([0], [0]), ([], []), ([2], [2]), ([], []), ([4], [4]), ([5], [5]), ([6], [6]), ([3, 7], [3, 7]), ([1, 8], [1, 8]), ([9, 5, 0, 1, 2, 3, 4, 5, 6, 7, 8, 9], [9])])
def impl_Table_not.B1 : List Nat := [0, 1, 0, 4, 0, 16, 48, 112, 252, 511, 1023]
theorem impl_Table_not.tab1 : rtab .any (opsOf Try.f54 1) = impl_Table_not.T1 := by kernel_rfl
theorem impl_Table_not.bits1 : waitsOk impl_Table_not.T1.2 impl_Table_not.B1 = true := by kernel_rfl
set_option maxHeartbeats 8000000 in
set_option maxRecDepth 100000 in
theorem impl_Table_not.calls (a0_0 : Int) (a0_1 : Int) (r1 : Int) (r2 : Int) (w : World) (h : impl_Table_not.f a0_0 a0_1 = some (r1, r2)) :
  Calls Try.prog 54 #[.agg #[.int .i64 a0_0, .int .i64 a0_1]] w fun e w' => e = .returned (.agg #[.int .i64 r1, .int .i64 r2]) ∧ Below w.heap.size w w' := by
 have hu25 := Try.underlying25
 have HB := Aside0.mk (Below.refl w.heap.size w)
 have H : ((impl_Table_size.f a0_0 a0_1).bind fun t202 => (if 0 ≤ t202 then (some (a0_0, Go.bits .xor .i64 a0_1 (wrap64 ((shl .i64 1 t202) - 1)))) else (none))) = some (r1, r2) := h
 clear h; replace H := Option.bind_eq_some_iff.mp H; obtain ⟨t202, A20, H⟩ := H; (try dsimp only at H); have A2 := Aside0.mk A20; clear A20
 by_cases c3 : 0 ≤ t202
 ·rw [if_pos c3] at H
  have c3b0 := eq_true c3
  have c3b1 : decide (0 ≤ t202) = true := decide_eq_true c3
  clear c3
  obtain ⟨ji4, hji4⟩ : ∃ j_ : Int, (shl .i64 1 t202) = j_ := ⟨_, rfl⟩
  replace H : (some (a0_0, Go.bits .xor .i64 a0_1 (wrap64 ((ji4) - 1)))) = some (r1, r2) := by first | (rw [hji4] at H; exact H) | (simp only [hji4] at H ⊢; exact H)
  (try rw [hji4] at A2)
  have hji4_ : (IntKind.i64.wrap (1 * 2 ^ min t202.toNat 64)) = ji4 := hji4
  have hji4z : t202 ≤ 64 → (IntKind.i64.wrap (1 * 2 ^ t202.toNat)) = ji4 := shl_small hji4
  have hji4u : (IntKind.i64.wrap (2 ^ min t202.toNat 64)) = ji4 := by have h_ := hji4_; rw [Int.one_mul] at h_; exact h_
  have hji4v : t202 ≤ 64 → (IntKind.i64.wrap (2 ^ t202.toNat)) = ji4 := fun hle_ => by have h_ := hji4z hle_; rw [Int.one_mul] at h_; exact h_
  have hji4y : (wrap64 (1 * 2 ^ min t202.toNat 64)) = ji4 := (i64_w _).symm.trans hji4_
  have hji4x : t202 ≤ 64 → (wrap64 (1 * 2 ^ t202.toNat)) = ji4 := fun h_ => (i64_w _).symm.trans (hji4z h_)
  simp only [Option.some.injEq, Prod.mk.injEq] at H
  obtain ⟨rfl, rfl⟩ := H
  go_enter Try.func54, Try.ntmps54
  try go_wp2_with (first | ((with_reducible refine gate_dst (N := 1) rfl ?_); refine box_event ?hg (N := 1) ?hd (cs := #[.int .i64 a0_0, .int .i64 a0_1]) (t := 25) ?hr ?_; (case hd => rfl); (case hg => rfl); (case hr => first | (go_simp; done) | (go_simp; rfl)); intro gb200 hg w5 hbox hb; have n0_ := Aside0.mk (below_step (by repeat (first | (with_reducible first | exact HB.out | apply below_alloc | apply pw_below_drewN | apply below_drew1) | exact HB.out)) hb); have n1_ := Aside0.mk (hbox); have n2_ := Aside0.mk ((by rw [hg]; exact (below_size (by repeat (first | (with_reducible first | exact HB.out | apply below_alloc | apply pw_below_drewN | apply below_drew1) | exact HB.out))) : w.heap.size ≤ gb200)); have n3_ := Aside0.mk ((by rw [hg]; exact (below_size (by repeat (first | (with_reducible first | exact HB.out | apply below_alloc | apply pw_below_drewN | apply below_drew1) | exact HB.out))) : w.heap.size ≤ gb200)); clear HB; have HB := n0_; have BK200 := n1_; have GW200 := n2_; have GE200 := n3_; clear n0_ n1_ n2_ n3_; clear hb hbox hg) | ((with_reducible refine gate_dst (N := 2) rfl ?_); refine box_event ?hg (N := 2) ?hd (cs := #[.int .i64 0, .int .i64 0]) (t := 25) ?hr ?_; (case hd => rfl); (case hg => rfl); (case hr => first | (go_simp; done) | (go_simp; rfl)); intro gb201 hg w6 hbox hb; have n0_ := Aside0.mk (blk_below (g := gb200) (o := .cells #[.int .i64 a0_0, .int .i64 a0_1] 25 (0, 0)) (by (with_reducible repeat (first | refine blk_drewN ?_ _ | refine blk_drew ?_ | refine blk_alloc ?_ _)); exact BK200.out) hb); have n1_ := Aside0.mk (below_step (by repeat (first | (with_reducible first | exact HB.out | apply below_alloc | apply pw_below_drewN | apply below_drew1 | refine below_set ?_ GE200.out) | exact HB.out)) hb); have n2_ := Aside0.mk (hbox); have n3_ := Aside0.mk ((by rw [hg]; exact (below_size (by repeat (first | (with_reducible first | exact HB.out | apply below_alloc | apply pw_below_drewN | apply below_drew1 | refine below_set ?_ GE200.out) | exact HB.out))) : w.heap.size ≤ gb201)); have n4_ := Aside0.mk ((by rw [hg]; exact (below_size (by repeat (first | (with_reducible first | exact HB.out | apply below_alloc | apply pw_below_drewN | apply below_drew1 | refine below_set ?_ GE200.out) | exact HB.out))) : w.heap.size ≤ gb201)); have n5_ := Aside0.mk ((by rw [hg]; exact Nat.ne_of_lt (blk_lt (g := gb200) (o := .cells #[.int .i64 a0_0, .int .i64 a0_1] 25 (0, 0)) (by (with_reducible repeat (first | refine blk_drewN ?_ _ | refine blk_drew ?_ | refine blk_alloc ?_ _)); exact BK200.out)) : gb200 ≠ gb201)); have n6_ := Aside0.mk ((by rw [hg]; exact Nat.ne_of_gt (blk_lt (g := gb200) (o := .cells #[.int .i64 a0_0, .int .i64 a0_1] 25 (0, 0)) (by (with_reducible repeat (first | refine blk_drewN ?_ _ | refine blk_drew ?_ | refine blk_alloc ?_ _)); exact BK200.out)) : gb201 ≠ gb200)); clear BK200; clear HB; have BK200 := n0_; have HB := n1_; have BK201 := n2_; have GW201 := n3_; have GE201 := n4_; have NB200_201 := n5_; have NB201_200 := n6_; clear n0_ n1_ n2_ n3_ n4_ n5_ n6_; clear hb hbox hg))
  have n0_ := Aside0.mk (blk_drew BK200.out)
  have n1_ := Aside0.mk (blk_drew BK201.out)
  have n2_ := Aside0.mk (below_drew1 HB.out)
  clear BK200; clear BK201; clear HB; have BK200 := n0_; have BK201 := n1_; have HB := n2_; clear n0_ n1_ n2_
  refine start_ (n := 11) (S := fun w' => w'.cell? ⟨gb200, 0, none⟩ = some (.int .i64 a0_0) ∧ w'.cell? ⟨gb200, 1, none⟩ = some (.int .i64 a0_1)) (ds := []) #[false, false, false, false, false, false, false, false, false, false, false] (by kernel_rfl) rfl rfl ⟨(blk_cell BK200.out 0).trans rfl, (blk_cell BK200.out 1).trans rfl⟩ (fun hHeld => ?_); refine with_tabW impl_Table_not.tab1 impl_Table_not.bits1 (fun HT_ HW_ => ?_)
  generalize w6.drew = w7 at BK200 BK201 HB hHeld ⊢
  refine pure_ (i := 0) (N := some 3) (v := ?_) (a' := ?_) #[true, false, false, false, false, false, false, false, false, false, false] rfl rfl (any_of HT_.out (by kernel_rfl)) (fun _ _ _ h => h) (Or.inl ⟨by rfl, ?_⟩) ?_ ?_; rotate_left
  ·intro w'; go_simp; with_reducible rfl
  rotate_left
  ·simp only [Act.put, List.setIfInBounds_toArray, List.set_cons_zero, List.set_cons_succ, i64_w, i32_w]; rfl
  refine pure_ (i := 2) (N := some 5) (v := ?_) (a' := ?_) #[true, false, true, false, false, false, false, false, false, false, false] rfl rfl (any_of HT_.out (by kernel_rfl)) (fun _ _ _ h => h) (Or.inl ⟨by rfl, ?_⟩) ?_ ?_; rotate_left
  ·intro w'; go_simp; with_reducible rfl
  rotate_left
  ·simp only [Act.put, List.setIfInBounds_toArray, List.set_cons_zero, List.set_cons_succ, i64_w, i32_w]; rfl
  refine take_ (i := 1) (N := some 4) (v := ?_) (a' := ?_) #[true, true, true, false, false, false, false, false, false, false, false] rfl rfl (take_ofW HT_.out HW_.out (by kernel_rfl)) (fun _ _ _ h => h) (Or.inl ⟨by rfl, ?_⟩) hHeld ?_ ?_
  rotate_left
  ·rintro w' ⟨s0, s1⟩
   go_simp; with_reducible rfl
  rotate_left
  ·simp only [Act.put, List.setIfInBounds_toArray, List.set_cons_zero, List.set_cons_succ, i64_w, i32_w]; rfl
  refine take_ (i := 3) (N := some 6) (v := ?_) (a' := ?_) #[true, true, true, true, false, false, false, false, false, false, false] rfl rfl (take_ofW HT_.out HW_.out (by kernel_rfl)) (fun _ _ _ h => h) (Or.inl ⟨by rfl, ?_⟩) hHeld ?_ ?_
  rotate_left
  ·rintro w' ⟨s0, s1⟩
   go_simp; with_reducible rfl
  rotate_left
  ·simp only [Act.put, List.setIfInBounds_toArray, List.set_cons_zero, List.set_cons_succ, i64_w, i32_w]; rfl
  refine take_ (i := 4) (N := some 7) (v := ?_) (a' := ?_) #[true, true, true, true, true, false, false, false, false, false, false] rfl rfl (take_ofW HT_.out HW_.out (by kernel_rfl)) (fun _ _ _ h => h) (Or.inl ⟨by rfl, ?_⟩) hHeld ?_ ?_
  rotate_left
  ·rintro w' ⟨s0, s1⟩
   go_simp; with_reducible rfl
  rotate_left
  ·simp only [Act.put, List.setIfInBounds_toArray, List.set_cons_zero, List.set_cons_succ, i64_w, i32_w]; rfl
  refine one_ (i := 5) (N := some 8) #[true, true, true, true, true, true, false, false, false, false, false] rfl rfl (one_of HT_.out (by kernel_rfl)) (by decide) (fun K hK => ?_)
  refine goes_ Try.func50 (by kernel_rfl) rfl #[.agg #[.int .i64 a0_0, .int .i64 a0_1]] (by rfl) rfl rfl (by first | rfl | (simp only [List.map_toArray, List.map_cons, List.map_nil, List.length_drop, List.length_take]; rfl)) ?_
  with_reducible refine (impl_Table_size.calls a0_0 a0_1 t202 _ A2.out).mono ?_
  rintro e w8 ⟨rfl, hb⟩
  refine ⟨_, rfl, ?_⟩
  have n0_ := Aside0.mk (blk_below (g := gb200) (o := .cells #[.int .i64 a0_0, .int .i64 a0_1] 25 (0, 0)) (by (with_reducible repeat (first | refine blk_drewN ?_ _ | refine blk_drew ?_ | refine blk_alloc ?_ _)); exact BK200.out) hb)
  have n1_ := Aside0.mk (blk_below (g := gb201) (o := .cells #[.int .i64 0, .int .i64 0] 25 (0, 0)) (by (with_reducible repeat (first | refine blk_drewN ?_ _ | refine blk_drew ?_ | refine blk_alloc ?_ _)); exact BK201.out) hb)
  have n2_ := Aside0.mk (below_step (by repeat (first | (with_reducible first | exact HB.out | apply below_alloc | apply pw_below_drewN | apply below_drew1 | refine below_set ?_ GE200.out | refine below_set ?_ GE201.out) | exact HB.out)) hb)
  clear BK200; clear BK201; clear HB; have BK200 := n0_; have BK201 := n1_; have HB := n2_; clear n0_ n1_ n2_; (try clear hb); (try clear hb2); (try clear hk); (try clear hi)
  refine hK.out _ _ ⟨(blk_cell BK200.out 0).trans rfl, (blk_cell BK200.out 1).trans rfl⟩ (fun hHeld => ?_)
  clear hK K
  refine norm_ (a' := ?_) ?_ ?_
  rotate_left
  ·show Act.put _ (some 8) _ = _
   simp only [Act.put, List.setIfInBounds_toArray, List.set_cons_zero, List.set_cons_succ, i64_w, i32_w]; rfl
  refine pure_ (i := 6) (N := some 9) (v := ?_) (a' := ?_) #[true, true, true, true, true, true, true, false, false, false, false] rfl rfl (any_of HT_.out (by kernel_rfl)) (fun _ _ _ h => h) (Or.inl ⟨by rfl, ?_⟩) ?_ ?_; rotate_left
  ·intro w'; go_simp; with_reducible rfl
  rotate_left
  ·simp only [Act.put, List.setIfInBounds_toArray, List.set_cons_zero, List.set_cons_succ, i64_w, i32_w]; rfl
  refine pure_ (i := 7) (N := some 10) (v := ?_) (a' := ?_) #[true, true, true, true, true, true, true, true, false, false, false] rfl rfl (any_of HT_.out (by kernel_rfl)) (fun _ _ _ h => h) (Or.inl ⟨by rfl, ?_⟩) ?_ ?_; rotate_left
  ·intro w'; go_simp; with_reducible rfl
  rotate_left
  ·simp only [Act.put, List.setIfInBounds_toArray, List.set_cons_zero, List.set_cons_succ, i64_w, i32_w]; rfl
  refine pure_ (i := 8) (N := some 11) (v := ?_) (a' := ?_) #[true, true, true, true, true, true, true, true, true, false, false] rfl rfl (any_of HT_.out (by kernel_rfl)) (fun _ _ _ h => h) (Or.inl ⟨by rfl, ?_⟩) ?_ ?_; rotate_left
  ·intro w'; go_simp; with_reducible rfl
  rotate_left
  ·simp only [Act.put, List.setIfInBounds_toArray, List.set_cons_zero, List.set_cons_succ, i64_w, i32_w]; rfl
  refine pure_ (i := 9) (N := some 12) (v := ?_) (a' := ?_) #[true, true, true, true, true, true, true, true, true, true, false] rfl rfl (any_of HT_.out (by kernel_rfl)) (fun _ _ _ h => h) (Or.inl ⟨by rfl, ?_⟩) ?_ ?_; rotate_left
  ·intro w'; go_simp; with_reducible rfl
  rotate_left
  ·simp only [Act.put, List.setIfInBounds_toArray, List.set_cons_zero, List.set_cons_succ, i64_w, i32_w]; rfl
  refine one_ (i := 10) (N := none) #[true, true, true, true, true, true, true, true, true, true, true] rfl rfl (one_of HT_.out (by kernel_rfl)) (by decide) (fun K hK => ?_)
  have hs9 : w8.cell? ⟨gb201, 0, none⟩ = some (.int .i64 0) := (blk_cell BK201.out 0).trans rfl
  have hfs9 := blk_frozen BK201.out 0
  have hns9_0 := NB200_201.out
  have hms9_0 := NB201_200.out
  have hs10 : w8.cell? ⟨gb201, 1, none⟩ = some (.int .i64 0) := (blk_cell BK201.out 1).trans rfl
  have hfs10 := blk_frozen BK201.out 1
  have hns10_0 := NB200_201.out
  have hms10_0 := NB201_200.out
  refine skip_ (w1 := ?_) (by rfl) rfl ?_ ?_
  rotate_left
  ·go_simp; rfl
  refine hK.out _ _ ⟨((cell_far (p := ⟨gb201, _, none⟩) NB200_201.out _).trans (((cell_far (p := ⟨gb201, _, none⟩) NB200_201.out _).trans (hHeld.1)))), ((cell_far (p := ⟨gb201, _, none⟩) NB200_201.out _).trans (((cell_far (p := ⟨gb201, _, none⟩) NB200_201.out _).trans (hHeld.2))))⟩ (fun hHeld => ?_)
  clear hK K
  refine done_ (done_of HT_.out (by kernel_rfl)) ?_
  try go_wp2
  refine bodyPost_ret (results_cell_row rfl _ _ gb201 25 #[.int .i64 a0_0, .int .i64 (Go.bits .xor .i64 a0_1 (wrap64 ((ji4) - 1)))] (0, 0) _ rfl (by (with_reducible repeat (first | refine blk_drewN ?_ _ | refine blk_drew ?_ | refine blk_alloc ?_ _)); refine blk_put (cs := #[.int .i64 a0_0, .int .i64 0]) ?_ 1 _ rfl; (with_reducible repeat (first | refine blk_drewN ?_ _ | refine blk_drew ?_ | refine blk_alloc ?_ _)); refine blk_put (cs := #[.int .i64 0, .int .i64 0]) ?_ 0 _ rfl; (with_reducible repeat (first | refine blk_drewN ?_ _ | refine blk_drew ?_ | refine blk_alloc ?_ _)); exact BK201.out) Try.underlying25 rfl (by kernel_rfl)) rfl ?_
  exact ⟨by first | rfl | (simp [errW_none, errW_some] <;> rfl) | (simp only [← hji4]; first | rfl | (simp [errW_none, errW_some] <;> rfl)) | (simp [*, errW_none, errW_some] <;> rfl), by repeat (first | (with_reducible first | exact HB.out | apply below_alloc | apply pw_below_drewN | apply below_drew1 | refine below_set ?_ GE200.out | refine below_set ?_ GE201.out) | exact HB.out)⟩
 ·rw [if_neg c3] at H
  exact absurd H (by simp)
/-! ### impl_Table_isSame: function 31 -/
def impl_Table_isSame.f (a0_0 : Int) (a0_1 : Int) : Option (Bool) := if a0_1 = 0 then (some true) else ((impl_Table_not.f a0_0 a0_1).bind fun bt204 => (some (bt204.2 == 0)))
set_option maxHeartbeats 8000000 in
set_option maxRecDepth 100000 in
theorem impl_Table_isSame.calls (a0_0 : Int) (a0_1 : Int) (r : Bool) (w : World) (h : impl_Table_isSame.f a0_0 a0_1 = some r) :
  Calls Try.prog 31 #[.agg #[.int .i64 a0_0, .int .i64 a0_1]] w fun e w' => e = .returned (.bool r) ∧ Below w.heap.size w w' := by
 have hu25 := Try.underlying25
 have hfld25_1 : ∀ (x0 : Int) (x1 : Int) (W : World), (Instr.field 25 (.agg #[.int .i64 x0, .int .i64 x1]) 1).run Try.prog W = .ok (.int .i64 x1) W := fun _ _ _ => by kernel_rfl
 have HB := Aside0.mk (Below.refl w.heap.size w)
 have H : (if a0_1 = 0 then (some true) else ((impl_Table_not.f a0_0 a0_1).bind fun bt204 => (some (bt204.2 == 0)))) = some r := h
 clear h
 by_cases c2 : a0_1 = 0
 ·rw [if_pos c2] at H
  have c2b0 : (a0_1 == 0) = true := beq_iff_eq.mpr c2
  have c2b1 : (a0_1 != 0) = false := bne_eq_false_iff_eq.mpr c2
  clear c2
  obtain rfl := Option.some.inj H
  go_enter Try.func31, Try.ntmps31
  go_wp2_with (first | ((with_reducible refine gate_dst (N := 1) rfl ?_); refine box_event ?hg (N := 1) ?hd (cs := #[.int .i64 a0_0, .int .i64 a0_1]) (t := 25) ?hr ?_; (case hd => rfl); (case hg => rfl); (case hr => first | (go_simp; done) | (go_simp; rfl)); intro gb203 hg w3 hbox hb; have n0_ := Aside0.mk (below_step (by repeat (first | (with_reducible first | exact HB.out | apply below_alloc | apply pw_below_drewN | apply below_drew1) | exact HB.out)) hb); have n1_ := Aside0.mk (hbox); have n2_ := Aside0.mk ((by rw [hg]; exact (below_size (by repeat (first | (with_reducible first | exact HB.out | apply below_alloc | apply pw_below_drewN | apply below_drew1) | exact HB.out))) : w.heap.size ≤ gb203)); have n3_ := Aside0.mk ((by rw [hg]; exact (below_size (by repeat (first | (with_reducible first | exact HB.out | apply below_alloc | apply pw_below_drewN | apply below_drew1) | exact HB.out))) : w.heap.size ≤ gb203)); clear HB; have HB := n0_; have BK203 := n1_; have GW203 := n2_; have GE203 := n3_; clear n0_ n1_ n2_ n3_; clear hb hbox hg; have hcz4_0 : w3.cell? ⟨gb203, 0, none⟩ = some (.int .i64 a0_0) := (blk_cell BK203.out 0).trans rfl; have hcz4_1 : w3.cell? ⟨gb203, 1, none⟩ = some (.int .i64 a0_1) := (blk_cell BK203.out 1).trans rfl; have hfz4_0 := blk_frozen BK203.out 0; have hfz4_1 := blk_frozen BK203.out 1))
  go_ret
  exact ⟨by first | rfl | (simp [errW_none, errW_some] <;> rfl) | (simp [*, errW_none, errW_some] <;> rfl), by repeat (first | (with_reducible first | exact HB.out | apply below_alloc | apply pw_below_drewN | apply below_drew1 | refine below_set ?_ GE203.out) | exact HB.out)⟩
 ·rw [if_neg c2] at H
  have c2b0 : (a0_1 == 0) = false := beq_eq_false_iff_ne.mpr c2
  have c2b1 : (a0_1 != 0) = true := bne_iff_ne.mpr c2
  replace H := Option.bind_eq_some_iff.mp H; obtain ⟨⟨t204, t205⟩, A50, H⟩ := H
  replace H : (some (t205 == 0)) = some r := H
  have A5 := Aside0.mk A50; clear A50
  obtain rfl := Option.some.inj H
  go_enter Try.func31, Try.ntmps31
  go_wp2_with (first | ((with_reducible refine gate_dst (N := 1) rfl ?_); refine box_event ?hg (N := 1) ?hd (cs := #[.int .i64 a0_0, .int .i64 a0_1]) (t := 25) ?hr ?_; (case hd => rfl); (case hg => rfl); (case hr => first | (go_simp; done) | (go_simp; rfl)); intro gb203 hg w6 hbox hb; have n0_ := Aside0.mk (below_step (by repeat (first | (with_reducible first | exact HB.out | apply below_alloc | apply pw_below_drewN | apply below_drew1) | exact HB.out)) hb); have n1_ := Aside0.mk (hbox); have n2_ := Aside0.mk ((by rw [hg]; exact (below_size (by repeat (first | (with_reducible first | exact HB.out | apply below_alloc | apply pw_below_drewN | apply below_drew1) | exact HB.out))) : w.heap.size ≤ gb203)); have n3_ := Aside0.mk ((by rw [hg]; exact (below_size (by repeat (first | (with_reducible first | exact HB.out | apply below_alloc | apply pw_below_drewN | apply below_drew1) | exact HB.out))) : w.heap.size ≤ gb203)); clear HB; have HB := n0_; have BK203 := n1_; have GW203 := n2_; have GE203 := n3_; clear n0_ n1_ n2_ n3_; clear hb hbox hg; have hcz7_0 : w6.cell? ⟨gb203, 0, none⟩ = some (.int .i64 a0_0) := (blk_cell BK203.out 0).trans rfl; have hcz7_1 : w6.cell? ⟨gb203, 1, none⟩ = some (.int .i64 a0_1) := (blk_cell BK203.out 1).trans rfl; have hfz7_0 := blk_frozen BK203.out 0; have hfz7_1 := blk_frozen BK203.out 1) | (go_at_call 54; (with_reducible refine (impl_Table_not.calls a0_0 a0_1 t204 t205 _ A5.out).mono ?_); rintro e w8 ⟨rfl, hb⟩; have n0_ := Aside0.mk (blk_below (g := gb203) (o := .cells #[.int .i64 a0_0, .int .i64 a0_1] 25 (0, 0)) (by (with_reducible repeat (first | refine blk_drewN ?_ _ | refine blk_drew ?_ | refine blk_alloc ?_ _)); exact BK203.out) hb); have n1_ := Aside0.mk (below_step (by repeat (first | (with_reducible first | exact HB.out | apply below_alloc | apply pw_below_drewN | apply below_drew1 | refine below_set ?_ GE203.out) | exact HB.out)) hb); clear BK203; clear HB; have BK203 := n0_; have HB := n1_; clear n0_ n1_; (try clear hb); (try clear hb2); (try clear hk); (try clear hi)))
  go_ret
  exact ⟨by first | rfl | (simp [errW_none, errW_some] <;> rfl) | (simp [*, errW_none, errW_some] <;> rfl), by repeat (first | (with_reducible first | exact HB.out | apply below_alloc | apply pw_below_drewN | apply below_drew1 | refine below_set ?_ GE203.out) | exact HB.out)⟩
end Go.Proofs.Ythekbiofjhkecaa.Print
namespace Go.Proofs.Ythekbiofjhkecaa.Print
open Go.RowKit Go.Proofs.YthekbiofjhkecaaW.PrintWords Go.Proofs.YthekbiofjhkecaaW.PrintLast Go.Proofs.YthekbiofjhkecaaW.PrintMore
attribute [local go_sem] max2_int min2_int max_two min_two max_three min_three max_four min_four   -- for this text's walks alone
set_option linter.unusedVariables false
set_option linter.unusedSimpArgs false
/-! ### impl_ConstantCubes: function 7 -/
open Go.Proofs.Ythekbiofjhkecaa.M
/-- 1 for a word of k variables that is constant -/
def impl_ConstantCubes.one (k x : Nat) : Int := if x = 0 ∨ x = 2 ^ 2 ^ k - 1 then 1 else 0
def impl_ConstantCubes.f (a0_0 : Int) (a0_1 : Int) (a1 : Int) : Option (Int) :=
 (impl_isSmall.f a0_0 a0_1 4).bind fun q => if q = true ∧ 0 ≤ a1 ∧ a1 ≤ a0_0 then (if 0 ≤ a0_0 ∧ a0_0 ≤ 4 ∧ 0 ≤ a0_1 ∧ a0_1 < ((2 ^ 2 ^ a0_0.toNat : Nat) : Int) then some (impl_sumOverCubes.sum (impl_ConstantCubes.one a1.toNat) (cutAll a0_0.toNat a0_1.toNat a1.toNat (2 ^ a0_0.toNat))) else none) else some (-1)
theorem impl_ConstantCubes.same {k x : Nat} (hk : k ≤ 4) (hx : x < 2 ^ 2 ^ k) : impl_Table_isSame.f (k : Int) (x : Int) = some (decide (x = 0 ∨ x = 2 ^ 2 ^ k - 1)) := by
 have h5 := pow_le_5 (n := k) (by omega)
 have hf := full_p63 (n := k) (by omega)
 have hp := Nat.two_pow_pos (2 ^ k)
 unfold impl_Table_isSame.f
 by_cases h0 : x = 0
 ·subst h0
  rw [if_pos (by simp), decide_eq_true (.inl rfl)]
 ·rw [if_neg (by omega)]
  unfold impl_Table_not.f impl_Table_size.f
  rw [if_pos (Int.natCast_nonneg k)]
  simp only [Option.bind_some]
  have hs : 0 ≤ shl .i64 1 (k : Int) := by rw [shl_one (by omega)]; exact Int.natCast_nonneg _
  rw [if_pos hs, full_word' (by omega)]
  have e : ((2 ^ 2 ^ k : Nat) : Int) - 1 = ((2 ^ 2 ^ k - 1 : Nat) : Int) := by omega
  rw [e, xor_nat (by omega) (by omega), Option.bind_some]
  congr 1
  rw [Bool.eq_iff_iff, beq_iff_eq, decide_eq_true_eq]
  have hxor : x ^^^ (2 ^ 2 ^ k - 1) = 0 ↔ x = 2 ^ 2 ^ k - 1 := by
   constructor
   ·intro h
    have h2 : x ^^^ (x ^^^ (2 ^ 2 ^ k - 1)) = x ^^^ 0 := by rw [h]
    rw [← Nat.xor_assoc, Nat.xor_self, Nat.zero_xor, Nat.xor_zero] at h2
    exact h2.symm
   ·intro h; rw [← h, Nat.xor_self]
  show (((x ^^^ (2 ^ 2 ^ k - 1) : Nat) : Int) = 0) ↔ _
  constructor
  ·intro h; exact .inr (hxor.mp (by exact_mod_cast h))
  ·intro h
   have := hxor.mpr (h.resolve_left h0)
   rw [this]; rfl
theorem impl_ConstantCubes.clo (k x : Nat) (hk : k ≤ 4) (hx : x < 2 ^ 2 ^ k) (w : World) :
  Calls Try.prog 30 #[.agg #[.int .i64 (k : Int), .int .i64 (x : Int)]] w fun e w' => e = .returned (.int .i64 (impl_ConstantCubes.one k x)) ∧ Below w.heap.size w w' := by
 have huT := Try.underlying25
 have HS := Aside0.mk (impl_ConstantCubes.same hk hx)
 have HB : Aside0 (Below w.heap.size w (w.alloc (.cells #[.int .i64 (k : Int), .int .i64 (x : Int)] 25))) := ⟨(Below.refl _ _).alloc (Nat.le_refl _) _⟩
 unfold impl_ConstantCubes.one
 by_cases hq : x = 0 ∨ x = 2 ^ 2 ^ k - 1
 ·rw [if_pos hq]
  rw [decide_eq_true hq] at HS
  clear hk hx hq
  go_enter Try.func30, Try.ntmps30
  go_wp2_with (first | (go_at_call 31; (with_reducible refine (impl_Table_isSame.calls _ _ _ _ HS.out).mono ?_); rintro e w1 ⟨rfl, hb⟩))
  go_ret
  exact ⟨rfl, HB.out.trans (hb.mono HB.out.size)⟩
 ·rw [if_neg hq]
  rw [decide_eq_false hq] at HS
  clear hk hx hq
  go_enter Try.func30, Try.ntmps30
  go_wp2_with (first | (go_at_call 31; (with_reducible refine (impl_Table_isSame.calls _ _ _ _ HS.out).mono ?_); rintro e w1 ⟨rfl, hb⟩))
  go_ret
  exact ⟨rfl, HB.out.trans (hb.mono HB.out.size)⟩
theorem impl_ConstantCubes.walk (a b k r : Int) (w : World) (hc : ∀ W, Calls Try.prog 29 #[.agg #[.int .i64 a, .int .i64 b], .int .i64 k, .func (.func 30) #[] #[]] W fun e w' => e = .returned (.int .i64 r) ∧ Below W.heap.size W w') :
  Calls Try.prog 7 #[.agg #[.int .i64 a, .int .i64 b], .int .i64 k] w fun e w' => e = .returned (.int .i64 r) ∧ Below w.heap.size w w' := by
 have huT := Try.underlying25
 have HC := Aside0.mk hc
 have HB : Aside0 (Below w.heap.size w (w.alloc (.cells #[.int .i64 a, .int .i64 b] 25))) := ⟨(Below.refl _ _).alloc (Nat.le_refl _) _⟩
 clear hc
 go_enter Try.func7, Try.ntmps7
 go_wp2_with (first | (go_at_call 29; (with_reducible refine (HC.out _).mono ?_); rintro e w1 ⟨rfl, hb⟩))
 go_ret
 exact ⟨rfl, HB.out.trans (hb.mono HB.out.size)⟩
theorem impl_ConstantCubes.calls (a0_0 : Int) (a0_1 : Int) (a1 : Int) (r : Int) (w : World) (h : impl_ConstantCubes.f a0_0 a0_1 a1 = some r) :
  Calls Try.prog 7 #[.agg #[.int .i64 a0_0, .int .i64 a0_1], .int .i64 a1] w fun e w' => e = .returned (.int .i64 r) ∧ Below w.heap.size w w' := by
 unfold impl_ConstantCubes.f at h
 obtain ⟨q, hq, h⟩ := Option.bind_eq_some_iff.mp h
 refine impl_ConstantCubes.walk a0_0 a0_1 a1 r w (fun W => ?_)
 by_cases hc : q = true ∧ 0 ≤ a1 ∧ a1 ≤ a0_0
 ·rw [if_pos hc] at h
  obtain ⟨rfl, h1, h2⟩ := hc
  by_cases hd : 0 ≤ a0_0 ∧ a0_0 ≤ 4 ∧ 0 ≤ a0_1 ∧ a0_1 < ((2 ^ 2 ^ a0_0.toNat : Nat) : Int)
  ·rw [if_pos hd] at h
   obtain ⟨d1, d2, d3, d4⟩ := hd
   obtain ⟨n, rfl⟩ := nat_of d1
   obtain ⟨v, rfl⟩ := nat_of d3
   obtain ⟨k, rfl⟩ := nat_of h1
   simp only [Int.toNat_natCast] at h d4
   rw [← Option.some.inj h]
   exact impl_sumOverCubes.good n v k (2 ^ n) (by omega) rfl (by exact_mod_cast d4) (by omega) hq 30 #[] (enters_of Try.func30 (by kernel_rfl) rfl) (impl_ConstantCubes.one k) W (fun x W' hx _ => impl_ConstantCubes.clo k x (by omega) hx W')
  ·rw [if_neg hd] at h; cases h
 ·rw [if_neg hc] at h
  rw [← Option.some.inj h]
  exact impl_sumOverCubes.bad a0_0 a0_1 a1 q hq (fun e => by
   subst e
   by_cases h1 : a1 < 0
   ·exact .inl h1
   ·exact .inr (Classical.byContradiction fun h2 => hc ⟨rfl, by omega, by omega⟩)) 30 #[] W
end Go.Proofs.Ythekbiofjhkecaa.Print
namespace Go.Proofs.Ythekbiofjhkecaa.Print
open Go.RowKit Go.Proofs.YthekbiofjhkecaaW.PrintWords Go.Proofs.YthekbiofjhkecaaW.PrintLast Go.Proofs.YthekbiofjhkecaaW.PrintMore
attribute [local go_sem] max2_int min2_int max_two min_two max_three min_three max_four min_four   -- for this text's walks alone
set_option linter.unusedVariables false
set_option linter.unusedSimpArgs false
/-! ### impl_Table_cube: function 61 -/
open Go.Proofs.Ythekbiofjhkecaa.M
/-- is the value c told by an input below i of the subcube -/
def impl_Table_cube.seen (v m u : Nat) (c : Bool) (i : Nat) : Bool := ((List.range i).filter (fun x => x &&& m == u)).any (fun x => v.testBit x == c)
theorem impl_Table_cube.seen_hit {v m u i : Nat} (h : i &&& m = u) (c : Bool) : impl_Table_cube.seen v m u c (i + 1) = (impl_Table_cube.seen v m u c i || (v.testBit i == c)) := by
 unfold impl_Table_cube.seen
 rw [List.range_succ, List.filter_append, List.any_append]
 simp [h]
theorem impl_Table_cube.seen_miss {v m u i : Nat} (h : ¬ i &&& m = u) (c : Bool) : impl_Table_cube.seen v m u c (i + 1) = impl_Table_cube.seen v m u c i := by
 unfold impl_Table_cube.seen
 rw [List.range_succ, List.filter_append, List.any_append]
 simp [h]
def impl_Table_cube.val (a b : Bool) : Int := if a = true ∧ b = true then 2 else if b = true then 1 else 0
theorem impl_Table_cube.con {n v m u : Nat} (hl : inX n m u ≠ []) : (impl_Table_cube.val (impl_Table_cube.seen v m u false (2 ^ n)) (impl_Table_cube.seen v m u true (2 ^ n)) = 2) ↔ conL v (inX n m u) = false := by
 have h1 := cubeGo_lt ((inX n m u).map v.testBit) (by simpa using hl)
 have e : ∀ c, impl_Table_cube.seen v m u c (2 ^ n) = (inX n m u).any (fun x => v.testBit x == c) := fun _ => rfl
 unfold conL
 rw [e, e, decide_eq_false_iff_not, h1, List.all_map, List.all_map]
 have t : ∀ c : Bool, (((inX n m u).all ((fun x => x == c) ∘ v.testBit)) = true) ↔ (inX n m u).any (fun x => v.testBit x == !c) = false := fun c => by
  rw [List.all_eq_true, List.any_eq_false]
  constructor
  ·intro h x hx; have := h x hx; simp only [Function.comp] at this; revert this; cases v.testBit x <;> cases c <;> simp
  ·intro h x hx; have := h x hx; simp only [Function.comp]; revert this; cases v.testBit x <;> cases c <;> simp
 rw [t, t]
 unfold impl_Table_cube.val
 show _ ↔ ¬ (List.any _ (fun x => v.testBit x == false) = false ∨ List.any _ (fun x => v.testBit x == true) = false)
 cases List.any (inX n m u) (fun x => v.testBit x == false) <;> cases List.any (inX n m u) (fun x => v.testBit x == true) <;> simp
theorem impl_Table_cube.at_bit {n v y : Nat} (hv : v < 2 ^ 63) (hy : y ≤ 63) : impl_Table_at.f (n : Int) (v : Int) (y : Int) = some (((v.testBit y).toNat : Nat) : Int) := by
 unfold impl_Table_at.f
 rw [if_pos (Int.natCast_nonneg y), bit_nat hv (by omega)]
theorem impl_Table_cube.size_some (n v : Nat) (hn : n ≤ 5) : impl_Table_size.f (n : Int) (v : Int) = some ((2 ^ n : Nat) : Int) := by
 unfold impl_Table_size.f
 rw [if_pos (Int.natCast_nonneg n), shl_one (by omega)]
set_option maxHeartbeats 4000000 in
set_option maxRecDepth 100000 in
theorem impl_Table_cube.call (n v m u N : Nat) (hn : n ≤ 5) (hN : N = 2 ^ n) (hv : v < 2 ^ 2 ^ n) (hm : m < 2 ^ 32) (hu : u < 2 ^ 32) (w : World) :
  Calls Try.prog 61 #[.agg #[.int .i64 (n : Int), .int .i64 (v : Int)], .int .i64 (m : Int), .int .i64 (u : Int)] w fun e w' => e = .returned (.int .i64 (impl_Table_cube.val (impl_Table_cube.seen v m u false N) (impl_Table_cube.seen v m u true N))) ∧ Below w.heap.size w w' := by
 have huT := Try.underlying25
 have huA := Try.underlying81
 have HSZ := Aside0.mk (impl_Table_cube.size_some n v hn)
 rw [← hN] at HSZ
 have hN32 : N ≤ 32 := by rw [hN]; exact pow_le_5 hn
 have hv63 : v < 2 ^ 63 := Nat.lt_trans hv (full_p63 hn)
 have HAT := Aside0.mk (fun y (hy : y ≤ 63) => impl_Table_cube.at_bit (n := n) (v := v) (y := y) hv63 hy)
 obtain ⟨W0, hW0⟩ : ∃ W0, W0 = (w.alloc (.cells #[.int .i64 (n : Int), .int .i64 (v : Int)] 25)).alloc (.cells #[.bool false, .bool false] 81) := ⟨_, rfl⟩
 have HB : Below w.heap.size w W0 := by rw [hW0]; exact ((Below.refl _ _).alloc (Nat.le_refl _) _).alloc (by simp) _
 have c0 : W0.heap[w.heap.size]? = some (.cells #[.int .i64 (n : Int), .int .i64 (v : Int)] 25 (0, 0)) := by rw [hW0]; exact blk_alloc (blk_new w _) _
 have c1 : W0.heap[w.heap.size + 1]? = some (.cells #[.bool false, .bool false] 81 (0, 0)) := by
  rw [hW0]; have := blk_new (w.alloc (.cells #[.int .i64 (n : Int), .int .i64 (v : Int)] 25)) (.cells #[.bool false, .bool false] 81)
  simpa using this
 have CW := Aside0.mk hW0; have C0 := Aside0.mk c0; have C1 := Aside0.mk c1; have HBB := Aside0.mk HB; have HM := Aside0.mk hm; have HU := Aside0.mk hu; clear hn hN hv hW0 c0 c1 HB hv63 hm hu
 go_enter Try.func61, Try.ntmps61
 go_wp2_with (first | (go_at_call 50; rw [← CW.out]; (with_reducible refine (impl_Table_size.calls _ _ _ _ HSZ.out).mono ?_); rintro e w2 ⟨rfl, hb⟩; have B2 := Aside0.mk hb; clear hb))
 go_loopg [12] N (fun gg v12 wr => ∃ i : Nat, i ≤ N ∧ N - i ≤ gg ∧ v12 = .int .i64 (i : Int) ∧ Aside0 (Below w.heap.size w wr) ∧ Aside0 (wr.heap[w.heap.size]? = some (.cells #[.int .i64 (n : Int), .int .i64 (v : Int)] 25 (0, 0))) ∧ Aside0 (wr.heap[w.heap.size + 1]? = some (.cells #[.bool (impl_Table_cube.seen v m u false i), .bool (impl_Table_cube.seen v m u true i)] 81 (0, 0))))
 case atStart => exact ⟨0, Nat.zero_le _, by omega, rfl, ⟨HBB.out.trans (B2.out.mono HBB.out.size)⟩, ⟨blk_below C0.out B2.out⟩, ⟨blk_below C1.out B2.out⟩⟩
 case round =>
  clear B2; obtain ⟨i, hi, hg, rfl, HR, HT, HS⟩ := hrel
  by_cases hlt : i < N
  ·have hltz : (i : Int) < (N : Int) := by omega
   have c0 := blk_cell HT.out 0
   have c1 := blk_cell HT.out 1
   have ea : Go.bits .and .i64 (i : Int) (m : Int) = ((i &&& m : Nat) : Int) := and_nat (by omega) (by have := HM.out; omega)
   by_cases hq : i &&& m = u
   ·have eq : (((i &&& m : Nat) : Int) == (u : Int)) = true := beq_iff_eq.mpr (by omega)
    have HH := Aside0.mk (impl_Table_cube.seen_hit (v := v) hq)
    have HA := Aside0.mk (HAT.out i (by omega))
    clear hq
    cases hb : v.testBit i with
    | true =>
     rw [hb] at HA HH
     clear hb
     go_wp2_with (first | (go_at_call 68; (with_reducible refine (impl_Table_at.calls _ _ _ _ _ HA.out).mono ?_); rintro e w3 ⟨rfl, hb3⟩; have BX := Aside0.mk hb3; clear hb3; have RB := Aside0.mk (blk_below HS.out BX.out); have r0 := blk_cell RB.out 0; have r1 := blk_cell RB.out 1; have s0 := blk_frozen RB.out 0; have s1 := blk_frozen RB.out 1))
     go_roundg (N - (i + 1))
     case measure => omega
     case rel =>
      refine ⟨i + 1, by omega, by omega, by go_num, ⟨(HR.out.trans (BX.out.mono HR.out.size)).setCell (p := ⟨w.heap.size + 1, 1, none⟩) (by show w.heap.size ≤ w.heap.size + 1; omega) _⟩, ⟨blk_far (blk_below HT.out BX.out) (by show w.heap.size ≠ w.heap.size + 1; omega) _⟩, ⟨?_⟩⟩
      have RS := blk_set RB.out 1 (.bool true)
      rw [HH.out, HH.out]
      simpa using RS
    | false =>
     rw [hb] at HA HH
     clear hb
     go_wp2_with (first | (go_at_call 68; (with_reducible refine (impl_Table_at.calls _ _ _ _ _ HA.out).mono ?_); rintro e w3 ⟨rfl, hb3⟩; have BX := Aside0.mk hb3; clear hb3; have RB := Aside0.mk (blk_below HS.out BX.out); have r0 := blk_cell RB.out 0; have r1 := blk_cell RB.out 1; have s0 := blk_frozen RB.out 0; have s1 := blk_frozen RB.out 1))
     go_roundg (N - (i + 1))
     case measure => omega
     case rel =>
      refine ⟨i + 1, by omega, by omega, by go_num, ⟨(HR.out.trans (BX.out.mono HR.out.size)).setCell (p := ⟨w.heap.size + 1, 0, none⟩) (by show w.heap.size ≤ w.heap.size + 1; omega) _⟩, ⟨blk_far (blk_below HT.out BX.out) (by show w.heap.size ≠ w.heap.size + 1; omega) _⟩, ⟨?_⟩⟩
      have RS := blk_set RB.out 0 (.bool true)
      rw [HH.out, HH.out]
      simpa using RS
   ·have eq : (((i &&& m : Nat) : Int) == (u : Int)) = false := beq_eq_false_iff_ne.mpr (by omega)
    have HH := Aside0.mk (impl_Table_cube.seen_miss (v := v) hq)
    clear hq
    go_wp2
    go_roundg (N - (i + 1))
    case measure => omega
    case rel =>
     refine ⟨i + 1, by omega, by omega, by go_num, HR, HT, ⟨?_⟩⟩
     rw [HH.out, HH.out]
     exact HS.out
  ·obtain rfl : i = N := by omega
   obtain ⟨a, ea⟩ : ∃ a, impl_Table_cube.seen v m u false i = a := ⟨_, rfl⟩
   obtain ⟨b, eb⟩ : ∃ b, impl_Table_cube.seen v m u true i = b := ⟨_, rfl⟩
   rw [ea, eb] at HS
   have EA := Aside0.mk ea; have EB := Aside0.mk eb; clear ea eb
   have d0 := blk_cell HS.out 0
   have d1 := blk_cell HS.out 1
   cases a <;> cases b
   all_goals
    go_wp2
    go_ret
    exact ⟨(by rw [EA.out, EB.out]; rfl), HR.out⟩
end Go.Proofs.Ythekbiofjhkecaa.Print
namespace Go.Proofs.Ythekbiofjhkecaa.Print
open Go.RowKit Go.Proofs.YthekbiofjhkecaaW.PrintWords Go.Proofs.YthekbiofjhkecaaW.PrintLast Go.Proofs.YthekbiofjhkecaaW.PrintMore
attribute [local go_sem] max2_int min2_int max_two min_two max_three min_three max_four min_four   -- for this text's walks alone
set_option linter.unusedVariables false
set_option linter.unusedSimpArgs false
/-! ### impl_known_with: function 62 -/
def impl_known_with.f (a0_0 : Int) (a0_1 : Int) (a1 : Int) (a2 : Int) : Option (Int × Int) := if 0 ≤ a1 then (some (Go.bits .or .i64 a0_0 (shl .i64 1 a1), Go.bits .or .i64 a0_1 (shl .i64 a2 a1))) else (none)
def impl_known_with.T1 : Bool × List (List Nat × List Nat) := (true, [([], []), ([0], [0]), ([], []), ([2], [2]), ([1, 3], [1, 3]), ([], []), ([5], [5]), ([], []), ([], []), ([7, 8], [7, 8]), ([6, 9], [6, 9]), ([4, 10], [4, 10]), ([11, 0, 1, 2, 3, 4, 5, 6, 7, 8, 9, 10, 11], [11])])
def impl_known_with.B1 : List Nat := [0, 1, 0, 4, 15, 0, 32, 0, 0, 384, 992, 2047, 4095]
theorem impl_known_with.tab1 : rtab .any (opsOf Try.f62 1) = impl_known_with.T1 := by kernel_rfl
theorem impl_known_with.bits1 : waitsOk impl_known_with.T1.2 impl_known_with.B1 = true := by kernel_rfl
set_option maxHeartbeats 8000000 in
set_option maxRecDepth 100000 in
theorem impl_known_with.calls (a0_0 : Int) (a0_1 : Int) (a1 : Int) (a2 : Int) (r1 : Int) (r2 : Int) (w : World) (h : impl_known_with.f a0_0 a0_1 a1 a2 = some (r1, r2)) :
  Calls Try.prog 62 #[.agg #[.int .i64 a0_0, .int .i64 a0_1], .int .i64 a1, .int .i64 a2] w fun e w' => e = .returned (.agg #[.int .i64 r1, .int .i64 r2]) ∧ Below w.heap.size w w' := by
 have hu54 := Try.underlying54
 have HB := Aside0.mk (Below.refl w.heap.size w)
 have H : (if 0 ≤ a1 then (some (Go.bits .or .i64 a0_0 (shl .i64 1 a1), Go.bits .or .i64 a0_1 (shl .i64 a2 a1))) else (none)) = some (r1, r2) := h
 clear h
 by_cases c4 : 0 ≤ a1
 ·rw [if_pos c4] at H
  have c4b0 := eq_true c4
  have c4b1 : decide (0 ≤ a1) = true := decide_eq_true c4
  clear c4
  obtain ⟨ji5, hji5⟩ : ∃ j_ : Int, (shl .i64 1 a1) = j_ := ⟨_, rfl⟩
  replace H : (some (Go.bits .or .i64 a0_0 (ji5), Go.bits .or .i64 a0_1 (shl .i64 a2 a1))) = some (r1, r2) := by first | (rw [hji5] at H; exact H) | (simp only [hji5] at H ⊢; exact H)
  have hji5_ : (IntKind.i64.wrap (1 * 2 ^ min a1.toNat 64)) = ji5 := hji5
  have hji5z : a1 ≤ 64 → (IntKind.i64.wrap (1 * 2 ^ a1.toNat)) = ji5 := shl_small hji5
  have hji5u : (IntKind.i64.wrap (2 ^ min a1.toNat 64)) = ji5 := by have h_ := hji5_; rw [Int.one_mul] at h_; exact h_
  have hji5v : a1 ≤ 64 → (IntKind.i64.wrap (2 ^ a1.toNat)) = ji5 := fun hle_ => by have h_ := hji5z hle_; rw [Int.one_mul] at h_; exact h_
  have hji5y : (wrap64 (1 * 2 ^ min a1.toNat 64)) = ji5 := (i64_w _).symm.trans hji5_
  have hji5x : a1 ≤ 64 → (wrap64 (1 * 2 ^ a1.toNat)) = ji5 := fun h_ => (i64_w _).symm.trans (hji5z h_)
  have c6b0 := eq_true (of_decide_eq_true (by first | (with_reducible assumption) | assumption) : 0 ≤ a1)
  obtain ⟨ji7, hji7⟩ : ∃ j_ : Int, (shl .i64 a2 a1) = j_ := ⟨_, rfl⟩
  replace H : (some (Go.bits .or .i64 a0_0 (ji5), Go.bits .or .i64 a0_1 (ji7))) = some (r1, r2) := by first | (rw [hji7] at H; exact H) | (simp only [hji7] at H ⊢; exact H)
  have hji7_ : (IntKind.i64.wrap (a2 * 2 ^ min a1.toNat 64)) = ji7 := hji7
  have hji7z : a1 ≤ 64 → (IntKind.i64.wrap (a2 * 2 ^ a1.toNat)) = ji7 := shl_small hji7
  have hji7y : (wrap64 (a2 * 2 ^ min a1.toNat 64)) = ji7 := (i64_w _).symm.trans hji7_
  have hji7x : a1 ≤ 64 → (wrap64 (a2 * 2 ^ a1.toNat)) = ji7 := fun h_ => (i64_w _).symm.trans (hji7z h_)
  simp only [Option.some.injEq, Prod.mk.injEq] at H
  obtain ⟨rfl, rfl⟩ := H
  go_enter Try.func62, Try.ntmps62
  try go_wp2_with (first | ((with_reducible refine gate_dst (N := 3) rfl ?_); refine box_event ?hg (N := 3) ?hd (cs := #[.int .i64 a0_0, .int .i64 a0_1]) (t := 54) ?hr ?_; (case hd => rfl); (case hg => rfl); (case hr => first | (go_simp; done) | (go_simp; rfl)); intro gb206 hg w8 hbox hb; have n0_ := Aside0.mk (below_step (by repeat (first | (with_reducible first | exact HB.out | apply below_alloc | apply pw_below_drewN | apply below_drew1) | exact HB.out)) hb); have n1_ := Aside0.mk (hbox); have n2_ := Aside0.mk ((by rw [hg]; exact (below_size (by repeat (first | (with_reducible first | exact HB.out | apply below_alloc | apply pw_below_drewN | apply below_drew1) | exact HB.out))) : w.heap.size ≤ gb206)); have n3_ := Aside0.mk ((by rw [hg]; exact (below_size (by repeat (first | (with_reducible first | exact HB.out | apply below_alloc | apply pw_below_drewN | apply below_drew1) | exact HB.out))) : w.heap.size ≤ gb206)); clear HB; have HB := n0_; have BK206 := n1_; have GW206 := n2_; have GE206 := n3_; clear n0_ n1_ n2_ n3_; clear hb hbox hg) | ((with_reducible refine gate_dst (N := 6) rfl ?_); refine box_event ?hg (N := 6) ?hd (cs := #[.int .i64 0, .int .i64 0]) (t := 54) ?hr ?_; (case hd => rfl); (case hg => rfl); (case hr => first | (go_simp; done) | (go_simp; rfl)); intro gb207 hg w9 hbox hb; have n0_ := Aside0.mk (blk_below (g := gb206) (o := .cells #[.int .i64 a0_0, .int .i64 a0_1] 54 (0, 0)) (by (with_reducible repeat (first | refine blk_drewN ?_ _ | refine blk_drew ?_ | refine blk_alloc ?_ _)); exact BK206.out) hb); have n1_ := Aside0.mk (below_step (by repeat (first | (with_reducible first | exact HB.out | apply below_alloc | apply pw_below_drewN | apply below_drew1 | refine below_set ?_ GE206.out) | exact HB.out)) hb); have n2_ := Aside0.mk (hbox); have n3_ := Aside0.mk ((by rw [hg]; exact (below_size (by repeat (first | (with_reducible first | exact HB.out | apply below_alloc | apply pw_below_drewN | apply below_drew1 | refine below_set ?_ GE206.out) | exact HB.out))) : w.heap.size ≤ gb207)); have n4_ := Aside0.mk ((by rw [hg]; exact (below_size (by repeat (first | (with_reducible first | exact HB.out | apply below_alloc | apply pw_below_drewN | apply below_drew1 | refine below_set ?_ GE206.out) | exact HB.out))) : w.heap.size ≤ gb207)); have n5_ := Aside0.mk ((by rw [hg]; exact Nat.ne_of_lt (blk_lt (g := gb206) (o := .cells #[.int .i64 a0_0, .int .i64 a0_1] 54 (0, 0)) (by (with_reducible repeat (first | refine blk_drewN ?_ _ | refine blk_drew ?_ | refine blk_alloc ?_ _)); exact BK206.out)) : gb206 ≠ gb207)); have n6_ := Aside0.mk ((by rw [hg]; exact Nat.ne_of_gt (blk_lt (g := gb206) (o := .cells #[.int .i64 a0_0, .int .i64 a0_1] 54 (0, 0)) (by (with_reducible repeat (first | refine blk_drewN ?_ _ | refine blk_drew ?_ | refine blk_alloc ?_ _)); exact BK206.out)) : gb207 ≠ gb206)); clear BK206; clear HB; have BK206 := n0_; have HB := n1_; have BK207 := n2_; have GW207 := n3_; have GE207 := n4_; have NB206_207 := n5_; have NB207_206 := n6_; clear n0_ n1_ n2_ n3_ n4_ n5_ n6_; clear hb hbox hg))
  have n0_ := Aside0.mk (blk_drew BK206.out)
  have n1_ := Aside0.mk (blk_drew BK207.out)
  have n2_ := Aside0.mk (below_drew1 HB.out)
  clear BK206; clear BK207; clear HB; have BK206 := n0_; have BK207 := n1_; have HB := n2_; clear n0_ n1_ n2_
  refine start_ (n := 13) (S := fun w' => w'.cell? ⟨gb206, 0, none⟩ = some (.int .i64 a0_0) ∧ w'.cell? ⟨gb206, 1, none⟩ = some (.int .i64 a0_1)) (ds := []) #[false, false, false, false, false, false, false, false, false, false, false, false, false] (by kernel_rfl) rfl rfl ⟨(blk_cell BK206.out 0).trans rfl, (blk_cell BK206.out 1).trans rfl⟩ (fun hHeld => ?_); refine with_tabW impl_known_with.tab1 impl_known_with.bits1 (fun HT_ HW_ => ?_)
  generalize w9.drew = w10 at BK206 BK207 HB hHeld ⊢
  refine pure_ (i := 0) (N := some 7) (v := ?_) (a' := ?_) #[true, false, false, false, false, false, false, false, false, false, false, false, false] rfl rfl (any_of HT_.out (by kernel_rfl)) (fun _ _ _ h => h) (Or.inl ⟨by rfl, ?_⟩) ?_ ?_; rotate_left
  ·intro w'; go_simp; with_reducible rfl
  rotate_left
  ·simp only [Act.put, List.setIfInBounds_toArray, List.set_cons_zero, List.set_cons_succ, i64_w, i32_w]; rfl
  refine pure_ (i := 2) (N := some 9) (v := ?_) (a' := ?_) #[true, false, true, false, false, false, false, false, false, false, false, false, false] rfl rfl (any_of HT_.out (by kernel_rfl)) (fun _ _ _ h => h) (Or.inl ⟨by rfl, ?_⟩) ?_ ?_; rotate_left
  ·intro w'; go_simp; with_reducible rfl
  rotate_left
  ·simp only [Act.put, List.setIfInBounds_toArray, List.set_cons_zero, List.set_cons_succ, i64_w, i32_w]; rfl
  refine pure_ (i := 3) (N := some 10) (v := ?_) (a' := ?_) #[true, false, true, true, false, false, false, false, false, false, false, false, false] rfl rfl (any_of HT_.out (by kernel_rfl)) (fun _ _ _ h => h) (Or.inl ⟨by rfl, ?_⟩) ?_ ?_; rotate_left
  ·intro w'; go_simp; with_reducible rfl
  rotate_left
  ·simp only [Act.put, List.setIfInBounds_toArray, List.set_cons_zero, List.set_cons_succ, i64_w, i32_w]; rfl
  refine pure_ (i := 5) (N := some 12) (v := ?_) (a' := ?_) #[true, false, true, true, false, true, false, false, false, false, false, false, false] rfl rfl (any_of HT_.out (by kernel_rfl)) (fun _ _ _ h => h) (Or.inl ⟨by rfl, ?_⟩) ?_ ?_; rotate_left
  ·intro w'; go_simp; with_reducible rfl
  rotate_left
  ·simp only [Act.put, List.setIfInBounds_toArray, List.set_cons_zero, List.set_cons_succ, i64_w, i32_w]; rfl
  refine pure_ (i := 7) (N := some 14) (v := ?_) (a' := ?_) #[true, false, true, true, false, true, false, true, false, false, false, false, false] rfl rfl (any_of HT_.out (by kernel_rfl)) (fun _ _ _ h => h) (Or.inl ⟨by rfl, ?_⟩) ?_ ?_; rotate_left
  ·intro w'; go_simp; with_reducible rfl
  rotate_left
  ·simp only [Act.put, List.setIfInBounds_toArray, List.set_cons_zero, List.set_cons_succ, i64_w, i32_w]; rfl
  refine pure_ (i := 8) (N := some 15) (v := ?_) (a' := ?_) #[true, false, true, true, false, true, false, true, true, false, false, false, false] rfl rfl (any_of HT_.out (by kernel_rfl)) (fun _ _ _ h => h) (Or.inl ⟨by rfl, ?_⟩) ?_ ?_; rotate_left
  ·intro w'; go_simp; with_reducible rfl
  rotate_left
  ·simp only [Act.put, List.setIfInBounds_toArray, List.set_cons_zero, List.set_cons_succ, i64_w, i32_w]; rfl
  refine pure_ (i := 9) (N := some 16) (v := ?_) (a' := ?_) #[true, false, true, true, false, true, false, true, true, true, false, false, false] rfl rfl (any_of HT_.out (by kernel_rfl)) (fun _ _ _ h => h) (Or.inl ⟨by rfl, ?_⟩) ?_ ?_; rotate_left
  ·intro w'; go_simp; with_reducible rfl
  rotate_left
  ·simp only [Act.put, List.setIfInBounds_toArray, List.set_cons_zero, List.set_cons_succ, i64_w, i32_w]; rfl
  refine take_ (i := 1) (N := some 8) (v := ?_) (a' := ?_) #[true, true, true, true, false, true, false, true, true, true, false, false, false] rfl rfl (take_ofW HT_.out HW_.out (by kernel_rfl)) (fun _ _ _ h => h) (Or.inl ⟨by rfl, ?_⟩) hHeld ?_ ?_
  rotate_left
  ·rintro w' ⟨s0, s1⟩
   go_simp; with_reducible rfl
  rotate_left
  ·simp only [Act.put, List.setIfInBounds_toArray, List.set_cons_zero, List.set_cons_succ, i64_w, i32_w]; rfl
  refine pure_ (i := 4) (N := some 11) (v := ?_) (a' := ?_) #[true, true, true, true, true, true, false, true, true, true, false, false, false] rfl rfl (any_of HT_.out (by kernel_rfl)) (fun _ _ _ h => h) (Or.inl ⟨by rfl, ?_⟩) ?_ ?_; rotate_left
  ·intro w'; go_simp; with_reducible rfl
  rotate_left
  ·simp only [Act.put, List.setIfInBounds_toArray, List.set_cons_zero, List.set_cons_succ, i64_w, i32_w]; rfl
  refine take_ (i := 6) (N := some 13) (v := ?_) (a' := ?_) #[true, true, true, true, true, true, true, true, true, true, false, false, false] rfl rfl (take_ofW HT_.out HW_.out (by kernel_rfl)) (fun _ _ _ h => h) (Or.inl ⟨by rfl, ?_⟩) hHeld ?_ ?_
  rotate_left
  ·rintro w' ⟨s0, s1⟩
   go_simp; with_reducible rfl
  rotate_left
  ·simp only [Act.put, List.setIfInBounds_toArray, List.set_cons_zero, List.set_cons_succ, i64_w, i32_w]; rfl
  refine pure_ (i := 10) (N := some 17) (v := ?_) (a' := ?_) #[true, true, true, true, true, true, true, true, true, true, true, false, false] rfl rfl (any_of HT_.out (by kernel_rfl)) (fun _ _ _ h => h) (Or.inl ⟨by rfl, ?_⟩) ?_ ?_; rotate_left
  ·intro w'; go_simp; with_reducible rfl
  rotate_left
  ·simp only [Act.put, List.setIfInBounds_toArray, List.set_cons_zero, List.set_cons_succ, i64_w, i32_w]; rfl
  refine pure_ (i := 11) (N := some 18) (v := ?_) (a' := ?_) #[true, true, true, true, true, true, true, true, true, true, true, true, false] rfl rfl (any_of HT_.out (by kernel_rfl)) (fun _ _ _ h => h) (Or.inl ⟨by rfl, ?_⟩) ?_ ?_; rotate_left
  ·intro w'; go_simp; with_reducible rfl
  rotate_left
  ·simp only [Act.put, List.setIfInBounds_toArray, List.set_cons_zero, List.set_cons_succ, i64_w, i32_w]; rfl
  refine one_ (i := 12) (N := none) #[true, true, true, true, true, true, true, true, true, true, true, true, true] rfl rfl (one_of HT_.out (by kernel_rfl)) (by decide) (fun K hK => ?_)
  have hs11 : w10.cell? ⟨gb207, 0, none⟩ = some (.int .i64 0) := (blk_cell BK207.out 0).trans rfl
  have hfs11 := blk_frozen BK207.out 0
  have hns11_0 := NB206_207.out
  have hms11_0 := NB207_206.out
  have hs12 : w10.cell? ⟨gb207, 1, none⟩ = some (.int .i64 0) := (blk_cell BK207.out 1).trans rfl
  have hfs12 := blk_frozen BK207.out 1
  have hns12_0 := NB206_207.out
  have hms12_0 := NB207_206.out
  refine skip_ (w1 := ?_) (by rfl) rfl ?_ ?_
  rotate_left
  ·go_simp; rfl
  refine hK.out _ _ ⟨((cell_far (p := ⟨gb207, _, none⟩) NB206_207.out _).trans (((cell_far (p := ⟨gb207, _, none⟩) NB206_207.out _).trans (hHeld.1)))), ((cell_far (p := ⟨gb207, _, none⟩) NB206_207.out _).trans (((cell_far (p := ⟨gb207, _, none⟩) NB206_207.out _).trans (hHeld.2))))⟩ (fun hHeld => ?_)
  clear hK K
  refine done_ (done_of HT_.out (by kernel_rfl)) ?_
  try go_wp2
  refine bodyPost_ret (results_cell_row rfl _ _ gb207 54 #[.int .i64 (Go.bits .or .i64 a0_0 (ji5)), .int .i64 (Go.bits .or .i64 a0_1 (ji7))] (0, 0) _ rfl (by (with_reducible repeat (first | refine blk_drewN ?_ _ | refine blk_drew ?_ | refine blk_alloc ?_ _)); refine blk_put (cs := #[.int .i64 (Go.bits .or .i64 a0_0 (ji5)), .int .i64 0]) ?_ 1 _ rfl; (with_reducible repeat (first | refine blk_drewN ?_ _ | refine blk_drew ?_ | refine blk_alloc ?_ _)); refine blk_put (cs := #[.int .i64 0, .int .i64 0]) ?_ 0 _ rfl; (with_reducible repeat (first | refine blk_drewN ?_ _ | refine blk_drew ?_ | refine blk_alloc ?_ _)); exact BK207.out) Try.underlying54 rfl (by kernel_rfl)) rfl ?_
  exact ⟨by first | rfl | (simp [errW_none, errW_some] <;> rfl) | (simp only [← hji5, ← hji7]; first | rfl | (simp [errW_none, errW_some] <;> rfl)) | (simp [*, errW_none, errW_some] <;> rfl), by repeat (first | (with_reducible first | exact HB.out | apply below_alloc | apply pw_below_drewN | apply below_drew1 | refine below_set ?_ GE206.out | refine below_set ?_ GE207.out) | exact HB.out)⟩
 ·rw [if_neg c4] at H
  exact absurd H (by simp)
end Go.Proofs.Ythekbiofjhkecaa.Print
namespace Go.Proofs.Ythekbiofjhkecaa.Print
open Go.RowKit Go.Proofs.YthekbiofjhkecaaW.PrintWords Go.Proofs.YthekbiofjhkecaaW.PrintLast Go.Proofs.YthekbiofjhkecaaW.PrintMore
attribute [local go_sem] max2_int min2_int max_two min_two max_three min_three max_four min_four   -- for this text's walks alone
set_option linter.unusedVariables false
set_option linter.unusedSimpArgs false
set_option maxRecDepth 100000
/-! ### impl_asker_left: function 45 -/
open Go.Proofs.Ythekbiofjhkecaa.M
theorem impl_asker_left.laid : laidOutB Try.prog = true := by kernel_rfl
theorem impl_asker_left.wide : (match Try.prog.underlying 54 with | some (.array _ _) | some (.struct _) => true | _ => false) = true := by rw [Try.underlying54]
theorem impl_asker_left.keyed : Go.Maps.Keyed Try.prog 54 := Go.Maps.Keyed.of_law (deep_law_laid impl_asker_left.laid (m := 2) (by omega) (of_decide_eq_true (by kernel_rfl)) (by kernel_rfl) impl_asker_left.wide)
theorem impl_asker_left.hk : Try.prog.keyType 54 = true := by kernel_rfl
theorem impl_asker_left.hcells : Try.prog.cellsOf 54 = 2 := by kernel_rfl
theorem impl_asker_left.hcells1 : Try.prog.cellsOf 3 = 1 := by kernel_rfl
theorem impl_asker_left.hsz : ∃ q, Try.prog.types.size = q + 1 := ⟨Try.prog.types.size - 1, by have : 0 < Try.prog.types.size := of_decide_eq_true (by kernel_rfl); omega⟩
theorem impl_asker_left.key (a b : Nat) (ha : a < 16) (hb : b < 16) : ∃ kl, keyOf Try.prog 54 (.agg #[.int .i64 (a : Int), .int .i64 (b : Int)]) = some kl := by
 have hwa : (Lit.int .i64 (a : Int)).wf = true := wf_nat (by omega)
 have hwb : (Lit.int .i64 (b : Int)).wf = true := wf_nat (by omega)
 obtain ⟨q, hq⟩ := impl_asker_left.hsz
 unfold keyOf
 rw [Try.underlying54]
 simp only [impl_asker_left.hk, hq]
 simp [Value.formed, Try.underlying54, Try.underlying3, impl_asker_left.hcells, impl_asker_left.hcells1, Program.keyLits, Value.cells, hwa, hwb]
/-- what the map holds of a subcube: the least depth there -/
def impl_asker_left.Good (n v : Nat) (x y : Value) : Prop := ∃ m u : Nat, m < 16 ∧ u < 16 ∧ x = .agg #[.int .i64 (m : Int), .int .i64 (u : Int)] ∧ y = .int .i64 ((ldC n n v (n - pc m) m u : Nat) : Int)
def impl_asker_left.keys : List Value := (List.range 16).flatMap fun (m : Nat) => (List.range 16).map fun (u : Nat) => .agg #[.int .i64 (m : Int), .int .i64 (u : Int)]
theorem impl_asker_left.keys_all (n v : Nat) (x y : Value) (h : impl_asker_left.Good n v x y) : x ∈ impl_asker_left.keys := by
 obtain ⟨m, u, hm, hu, rfl, _⟩ := h
 exact List.mem_flatMap.mpr ⟨m, List.mem_range.mpr hm, List.mem_map.mpr ⟨u, List.mem_range.mpr hu, rfl⟩⟩
theorem impl_asker_left.keys_len : impl_asker_left.keys.length < maxLen := by
 have : impl_asker_left.keys.length = 256 := by
  unfold impl_asker_left.keys
  simp [List.length_flatMap]
  decide
 rw [this]; decide
theorem impl_asker_left.Good.at {n v m u : Nat} {y : Value} (h : impl_asker_left.Good n v (.agg #[.int .i64 (m : Int), .int .i64 (u : Int)]) y) : y = .int .i64 ((ldC n n v (n - pc m) m u : Nat) : Int) := by
 obtain ⟨m', u', _, _, e, rfl⟩ := h
 injection e with e
 have e1 := congrArg (fun a => a[0]?) e
 have e2 := congrArg (fun a => a[1]?) e
 simp at e1 e2
 obtain rfl : m = m' := by omega
 obtain rfl : u = u' := by omega
 rfl
/-- the asker lies in block T, what it remembers in block M -/
def impl_asker_left.St (n v T M : Nat) (mv : Value) (W : World) : Prop := W.heap[T]? = some (.cells #[.int .i64 (n : Int), .int .i64 (v : Int), .map (some M), mv] 72 (0, 0)) ∧ Memo Try.prog 54 3 (impl_asker_left.Good n v) W M
theorem impl_asker_left.St.below {n v T M : Nat} {mv : Value} {W W' : World} (h : impl_asker_left.St n v T M mv W) (hb : Below W.heap.size W W') : impl_asker_left.St n v T M mv W' := ⟨blk_below h.1 hb, h.2.below hb⟩
theorem impl_asker_left.St.ne {n v T M : Nat} {mv : Value} {W : World} (h : impl_asker_left.St n v T M mv W) : T ≠ M := by
 rintro rfl; obtain ⟨h1, es, clock, h2, _⟩ := h
 rw [h1] at h2; injection h2 with h2; cases h2
/-- within a call: what is asked of lies in block B -/
def impl_asker_left.rS (w : World) (n v T M : Nat) (mv : Value) (B m u : Nat) (W : World) : Prop := W.heap[B]? = some (.cells #[.int .i64 (m : Int), .int .i64 (u : Int)] 54 (0, 0)) ∧ impl_asker_left.St n v T M mv W ∧ But M w W
theorem impl_asker_left.rS.ne {w : World} {n v T M B m u : Nat} {mv : Value} {W : World} (h : impl_asker_left.rS w n v T M mv B m u W) : B ≠ M := by
 rintro rfl
 obtain ⟨h1, ⟨_, es, clock, h2, _⟩, _⟩ := h
 rw [h1] at h2; injection h2 with h2; cases h2
theorem impl_asker_left.rS.below {w : World} {n v T M B m u : Nat} {mv : Value} {W W' : World} (h : impl_asker_left.rS w n v T M mv B m u W) (hb : Below W.heap.size W W') : impl_asker_left.rS w n v T M mv B m u W' :=
 ⟨blk_below h.1 hb, h.2.1.below hb, h.2.2.trans (.of_below hb)⟩
theorem impl_asker_left.rS.but {w : World} {n v T M B m u : Nat} {mv : Value} {W W' : World} (h : impl_asker_left.rS w n v T M mv B m u W) (hs : impl_asker_left.St n v T M mv W') (hb : But M W W') : impl_asker_left.rS w n v T M mv B m u W' :=
 ⟨hb.blk h.ne h.1, hs, h.2.2.trans hb⟩
theorem impl_asker_left.zero (w : World) : (zeroValue 3).run Try.prog w = .ok (.int .i64 0) w := by kernel_rfl
theorem impl_asker_left.rS.all {w : World} {n v T M B m u : Nat} {mv : Value} {W : World} (h : impl_asker_left.rS w n v T M mv B m u W) : W.cell? ⟨B, 0, none⟩ = some (.int .i64 (m : Int)) ∧ W.cell? ⟨B, 1, none⟩ = some (.int .i64 (u : Int)) ∧ W.cell? ⟨T, 0, none⟩ = some (.int .i64 (n : Int)) ∧ W.cell? ⟨T, 1, none⟩ = some (.int .i64 (v : Int)) ∧ W.cell? ⟨T, 2, none⟩ = some (.map (some M)) ∧ impl_asker_left.rS w n v T M mv B m u W :=
 ⟨blk_cell h.1 0, blk_cell h.1 1, blk_cell h.2.1.1 0, blk_cell h.2.1.1 1, blk_cell h.2.1.1 2, h⟩
theorem impl_asker_left.rS.st {w : World} {n v T M B m u : Nat} {mv : Value} {W W' : World} (h : W.cell? ⟨B, 0, none⟩ = some (.int .i64 (m : Int)) ∧ W.cell? ⟨B, 1, none⟩ = some (.int .i64 (u : Int)) ∧ W.cell? ⟨T, 0, none⟩ = some (.int .i64 (n : Int)) ∧ W.cell? ⟨T, 1, none⟩ = some (.int .i64 (v : Int)) ∧ W.cell? ⟨T, 2, none⟩ = some (.map (some M)) ∧ impl_asker_left.rS w n v T M mv B m u W) (hb : Below W.heap.size W W') : W'.cell? ⟨B, 0, none⟩ = some (.int .i64 (m : Int)) ∧ W'.cell? ⟨B, 1, none⟩ = some (.int .i64 (u : Int)) ∧ W'.cell? ⟨T, 0, none⟩ = some (.int .i64 (n : Int)) ∧ W'.cell? ⟨T, 1, none⟩ = some (.int .i64 (v : Int)) ∧ W'.cell? ⟨T, 2, none⟩ = some (.map (some M)) ∧ impl_asker_left.rS w n v T M mv B m u W' :=
 (h.2.2.2.2.2.below hb).all
theorem impl_asker_left.rS.sb {w : World} {n v T M B m u : Nat} {mv : Value} {W W' : World} (h : W.cell? ⟨B, 0, none⟩ = some (.int .i64 (m : Int)) ∧ W.cell? ⟨B, 1, none⟩ = some (.int .i64 (u : Int)) ∧ W.cell? ⟨T, 0, none⟩ = some (.int .i64 (n : Int)) ∧ W.cell? ⟨T, 1, none⟩ = some (.int .i64 (v : Int)) ∧ W.cell? ⟨T, 2, none⟩ = some (.map (some M)) ∧ impl_asker_left.rS w n v T M mv B m u W) (hb : impl_asker_left.St n v T M mv W' ∧ But M W W') : W'.cell? ⟨B, 0, none⟩ = some (.int .i64 (m : Int)) ∧ W'.cell? ⟨B, 1, none⟩ = some (.int .i64 (u : Int)) ∧ W'.cell? ⟨T, 0, none⟩ = some (.int .i64 (n : Int)) ∧ W'.cell? ⟨T, 1, none⟩ = some (.int .i64 (v : Int)) ∧ W'.cell? ⟨T, 2, none⟩ = some (.map (some M)) ∧ impl_asker_left.rS w n v T M mv B m u W' :=
 (h.2.2.2.2.2.but hb.1 hb.2).all
/-- the call's start: what is asked of lies in a block of its own -/
theorem impl_asker_left.start {n v T M m u : Nat} {mv : Value} {w : World} (h : impl_asker_left.St n v T M mv w) : impl_asker_left.rS w n v T M mv w.heap.size m u (w.alloc (.cells #[.int .i64 (m : Int), .int .i64 (u : Int)] 54)) := by
 have hb0 : Below w.heap.size w (w.alloc (.cells #[.int .i64 (m : Int), .int .i64 (u : Int)] 54)) := (Below.refl _ _).alloc (Nat.le_refl _) _
 exact ⟨blk_new w _, h.below hb0, .of_below hb0⟩
set_option maxHeartbeats 4000000 in
theorem impl_asker_left.hit (n v T M m u R : Nat) (mv : Value) (w : World) (hst : impl_asker_left.St n v T M mv w)
  (hl : ∀ W, W.heap[M]? = (w.alloc (.cells #[.int .i64 (m : Int), .int .i64 (u : Int)] 54)).heap[M]? → (Instr.lookup 70 (.map (some M)) (.agg #[.int .i64 (m : Int), .int .i64 (u : Int)]) true).run Try.prog W = .ok (.tuple #[.int .i64 (R : Int), .bool true]) W) :
  Calls Try.prog 45 #[.pointer (some ⟨T, 0, none⟩), .agg #[.int .i64 (m : Int), .int .i64 (u : Int)]] w fun e w' => e = .returned (.int .i64 (R : Int)) ∧ impl_asker_left.St n v T M mv w' ∧ But M w w' := by
 have huT := Try.underlying25
 have huA := Try.underlying72
 have huK := Try.underlying54
 have HS := Aside0.mk (impl_asker_left.start (m := m) (u := u) hst)
 obtain ⟨c0, c1, a0, a1, a2, _⟩ := HS.out.all
 have HL : ∀ nd, (Instr.lookup 70 (.map (some M)) (.agg #[.int .i64 (m : Int), .int .i64 (u : Int)]) true).run Try.prog ((w.alloc (.cells #[.int .i64 (m : Int), .int .i64 (u : Int)] 54)).drewN nd) = .ok (.tuple #[.int .i64 (R : Int), .bool true]) ((w.alloc (.cells #[.int .i64 (m : Int), .int .i64 (u : Int)] 54)).drewN nd) := fun nd => hl _ (by simp)
 clear hl hst
 go_enter Try.func45, Try.ntmps45
 go_wp2_with (fail)
 go_quiet (fail)
 go_wp2
 go_ret
 exact ⟨rfl, (HS.out.below (pw_below_drewN (Below.refl _ _) _)).2⟩
set_option maxHeartbeats 4000000 in
theorem impl_asker_left.same (n v T M m u : Nat) (mv : Value) (w : World) (hc : Cb n m u) (hv : v < 2 ^ 2 ^ n) (hst : impl_asker_left.St n v T M mv w) (hcon : conL v (inX n m u) = true) (h0 : ldC n n v (n - pc m) m u = 0)
  (hl : ∀ W, W.heap[M]? = (w.alloc (.cells #[.int .i64 (m : Int), .int .i64 (u : Int)] 54)).heap[M]? → (Instr.lookup 70 (.map (some M)) (.agg #[.int .i64 (m : Int), .int .i64 (u : Int)]) true).run Try.prog W = .ok (.tuple #[.int .i64 0, .bool false]) W) :
  Calls Try.prog 45 #[.pointer (some ⟨T, 0, none⟩), .agg #[.int .i64 (m : Int), .int .i64 (u : Int)]] w fun e w' => e = .returned (.int .i64 0) ∧ impl_asker_left.St n v T M mv w' ∧ But M w w' := by
 have huT := Try.underlying25
 have huA := Try.underlying72
 have huK := Try.underlying54
 have HS := Aside0.mk (impl_asker_left.start (m := m) (u := u) hst)
 obtain ⟨c0, c1, a0, a1, a2, _⟩ := HS.out.all
 have HL : ∀ nd, (Instr.lookup 70 (.map (some M)) (.agg #[.int .i64 (m : Int), .int .i64 (u : Int)]) true).run Try.prog ((w.alloc (.cells #[.int .i64 (m : Int), .int .i64 (u : Int)] 54)).drewN nd) = .ok (.tuple #[.int .i64 0, .bool false]) ((w.alloc (.cells #[.int .i64 (m : Int), .int .i64 (u : Int)] 54)).drewN nd) := fun nd => hl _ (by simp)
 have h16 := pow16 hc.hn
 have hmm := hc.hm
 have huu := hc.hu
 have HC := Aside0.mk (fun W => impl_Table_cube.call n v m u (2 ^ n) (by have := hc.hn; omega) rfl hv (by omega) (by omega) W)
 have hval : impl_Table_cube.val (impl_Table_cube.seen v m u false (2 ^ n)) (impl_Table_cube.seen v m u true (2 ^ n)) ≠ 2 := fun e => by
  have := (impl_Table_cube.con hc.ne).mp e
  rw [hcon] at this; cases this
 generalize impl_Table_cube.val (impl_Table_cube.seen v m u false (2 ^ n)) (impl_Table_cube.seen v m u true (2 ^ n)) = R at *
 have hval2 : (R == 2) = false := beq_eq_false_iff_ne.mpr hval
 have HK := Aside0.mk (impl_asker_left.key m u (by omega) (by omega))
 have HG : Aside0 (impl_asker_left.Good n v (.agg #[.int .i64 (m : Int), .int .i64 (u : Int)]) (.int .i64 0)) := ⟨⟨m, u, by omega, by omega, rfl, by rw [h0]; rfl⟩⟩
 clear hl hst hval hmm huu h16
 go_enter Try.func45, Try.ntmps45
 go_wp2_with (fail)
 go_quiet (fail)
 go_wp2
 generalize hwr : World.drewN _ _ = wr
 have hS : impl_asker_left.rS w n v T M mv w.heap.size m u wr := by rw [← hwr]; exact HS.out.below (pw_below_drewN (Below.refl _ _) _)
 clear hwr c0 c1 a0 a1 a2 HL
 have h1 := impl_asker_left.rS.st hS.all (Below.refl _ _).drew
 go_region_held3 (fun W => W.cell? ⟨w.heap.size, 0, none⟩ = some (.int .i64 (m : Int)) ∧ W.cell? ⟨w.heap.size, 1, none⟩ = some (.int .i64 (u : Int)) ∧ W.cell? ⟨T, 0, none⟩ = some (.int .i64 (n : Int)) ∧ W.cell? ⟨T, 1, none⟩ = some (.int .i64 (v : Int)) ∧ W.cell? ⟨T, 2, none⟩ = some (.map (some M)) ∧ impl_asker_left.rS w n v T M mv w.heap.size m u W) (first | exact h1 | (refine impl_asker_left.rS.st (by assumption) ?_; first | assumption | exact Below.refl _ _)) (first | (go_at_call 61; (with_reducible refine (HC.out _).mono ?_); rintro e w' ⟨rfl, hb⟩))
 rename_i hh
 have h9 := hh.2.2.2.2.2
 clear h1 hS hh
 go_wp2
 obtain ⟨kl, hkl⟩ := HK.out
 obtain ⟨w2, hrun, hM2, ht2⟩ := h9.2.1.2.drew.store (t := 70) (q := .i64) (a := 0) impl_asker_left.keyed Try.underlying70 (impl_asker_left.keys_all n v) impl_asker_left.keys_len Try.underlying3 (wf_nat (a := 0) (by decide)) hkl HG.out
 have H2 : Aside0 (impl_asker_left.St n v T M mv w2 ∧ But M w w2) := ⟨⟨(But.of_turned ht2).blk h9.2.1.ne h9.2.1.1, hM2⟩, h9.2.2.trans ((But.of_below (Below.refl _ _).drew).trans (.of_turned ht2))⟩
 have c0 := blk_cell h9.1 0
 have c1 := blk_cell h9.1 1
 have a2 := blk_cell h9.2.1.1 2
 clear hkl hM2 ht2 h9
 go_region
 go_wp2
 go_ret
 exact ⟨rfl, H2.out⟩
theorem impl_asker_left.rS.toSt {w : World} {n v T M m u : Nat} {mv : Value} {W : World} (h : W.cell? ⟨w.heap.size, 0, none⟩ = some (.int .i64 (m : Int)) ∧ W.cell? ⟨w.heap.size, 1, none⟩ = some (.int .i64 (u : Int)) ∧ W.cell? ⟨T, 0, none⟩ = some (.int .i64 (n : Int)) ∧ W.cell? ⟨T, 1, none⟩ = some (.int .i64 (v : Int)) ∧ W.cell? ⟨T, 2, none⟩ = some (.map (some M)) ∧ impl_asker_left.rS w n v T M mv w.heap.size m u W) : impl_asker_left.St n v T M mv W := h.2.2.2.2.2.2.1
theorem impl_asker_left.with0 {m u i : Nat} (hm : m < 16) (hu : u < 16) (hi : i < 4) : impl_known_with.f (m : Int) (u : Int) (i : Int) 0 = some (((m ||| 2 ^ i : Nat) : Int), (u : Int)) := by
 have hp := p63 (n := i) (by omega)
 unfold impl_known_with.f
 have e : shl .i64 0 (i : Int) = ((0 : Nat) : Int) := by
  have := shl_nat (x := 0) (n := i) (by omega) (by omega)
  rw [Nat.zero_mul] at this; exact this
 rw [if_pos (Int.natCast_nonneg i), shl_one (by omega), or_nat (by omega) hp, e, or_nat (by omega) (by omega), Nat.or_zero]
theorem impl_asker_left.with1 {m u i : Nat} (hm : m < 16) (hu : u < 16) (hi : i < 4) : impl_known_with.f (m : Int) (u : Int) (i : Int) 1 = some (((m ||| 2 ^ i : Nat) : Int), ((u ||| 2 ^ i : Nat) : Int)) := by
 have hp := p63 (n := i) (by omega)
 unfold impl_known_with.f
 rw [if_pos (Int.natCast_nonneg i), shl_one (by omega), or_nat (by omega) hp, or_nat (by omega) hp]
/-- what a free variable leads to -/
abbrev impl_asker_left.g (n v d m u i : Nat) : Nat := max (ldC n n v d (m ||| 2 ^ i) u) (ldC n n v d (m ||| 2 ^ i) (u ||| 2 ^ i))
set_option maxHeartbeats 8000000 in
theorem impl_asker_left.step (n v T M m u d : Nat) (mv : Value) (w : World) (hc : Cb n m u) (hd : pc m + (d + 1) = n) (hv : v < 2 ^ 2 ^ n) (hst : impl_asker_left.St n v T M mv w) (hcon : ¬ conL v (inX n m u) = true)
  (ih : ∀ m u W, Cb n m u → pc m + d = n → impl_asker_left.St n v T M mv W → Calls Try.prog 45 #[.pointer (some ⟨T, 0, none⟩), .agg #[.int .i64 (m : Int), .int .i64 (u : Int)]] W fun e w' => e = .returned (.int .i64 ((ldC n n v d m u : Nat) : Int)) ∧ impl_asker_left.St n v T M mv w' ∧ But M W w')
  (hl : ∀ W, W.heap[M]? = (w.alloc (.cells #[.int .i64 (m : Int), .int .i64 (u : Int)] 54)).heap[M]? → (Instr.lookup 70 (.map (some M)) (.agg #[.int .i64 (m : Int), .int .i64 (u : Int)]) true).run Try.prog W = .ok (.tuple #[.int .i64 0, .bool false]) W) :
  Calls Try.prog 45 #[.pointer (some ⟨T, 0, none⟩), .agg #[.int .i64 (m : Int), .int .i64 (u : Int)]] w fun e w' => e = .returned (.int .i64 ((ldC n n v (d + 1) m u : Nat) : Int)) ∧ impl_asker_left.St n v T M mv w' ∧ But M w w' := by
 have huT := Try.underlying25
 have huA := Try.underlying72
 have huK := Try.underlying54
 have HS := Aside0.mk (impl_asker_left.start (m := m) (u := u) hst)
 obtain ⟨c0, c1, a0, a1, a2, _⟩ := HS.out.all
 have HL : ∀ nd, (Instr.lookup 70 (.map (some M)) (.agg #[.int .i64 (m : Int), .int .i64 (u : Int)]) true).run Try.prog ((w.alloc (.cells #[.int .i64 (m : Int), .int .i64 (u : Int)] 54)).drewN nd) = .ok (.tuple #[.int .i64 0, .bool false]) ((w.alloc (.cells #[.int .i64 (m : Int), .int .i64 (u : Int)] 54)).drewN nd) := fun nd => hl _ (by simp)
 have h16 := pow16 hc.hn
 have hmm := hc.hm
 have huu := hc.hu
 have hn4 := hc.hn
 have HC := Aside0.mk (fun W => impl_Table_cube.call n v m u (2 ^ n) (by omega) rfl hv (by omega) (by omega) W)
 have hval : impl_Table_cube.val (impl_Table_cube.seen v m u false (2 ^ n)) (impl_Table_cube.seen v m u true (2 ^ n)) = 2 := (impl_Table_cube.con hc.ne).mpr (by simpa using hcon)
 rw [hval] at HC
 have HK := Aside0.mk (impl_asker_left.key m u (by omega) (by omega))
 have hld : ldC n n v (d + 1) m u = bestOf (impl_asker_left.g n v d m u) n (frL n m) := by rw [ldC, if_neg hcon]
 have hdd : n - pc m = d + 1 := by omega
 have HG : Aside0 (impl_asker_left.Good n v (.agg #[.int .i64 (m : Int), .int .i64 (u : Int)]) (.int .i64 ((ldC n n v (d + 1) m u : Nat) : Int))) := ⟨⟨m, u, by omega, by omega, rfl, by rw [hdd]⟩⟩
 rw [hld] at HG ⊢
 have HCB := Aside0.mk hc; have HD := Aside0.mk hd; have IH := Aside0.mk ih
 have HBN : Aside0 (∀ i, bestOf (impl_asker_left.g n v d m u) n (frL i m) ≤ n) := ⟨fun i => (bestOf_le _ _ _).1⟩
 have hm16 : m < 16 := by omega
 have hu16 : u < 16 := by omega
 clear hl hst hval hmm huu h16 hld hdd hc hd ih hcon hv
 go_enter Try.func45, Try.ntmps45
 go_wp2_with (fail)
 go_quiet (fail)
 go_wp2
 generalize hwr : World.drewN _ _ = wr
 have hS : impl_asker_left.rS w n v T M mv w.heap.size m u wr := by rw [← hwr]; exact HS.out.below (pw_below_drewN (Below.refl _ _) _)
 clear hwr c0 c1 a0 a1 a2 HL
 have h1 := impl_asker_left.rS.st hS.all (Below.refl _ _).drew
 go_region_held3 (fun W => W.cell? ⟨w.heap.size, 0, none⟩ = some (.int .i64 (m : Int)) ∧ W.cell? ⟨w.heap.size, 1, none⟩ = some (.int .i64 (u : Int)) ∧ W.cell? ⟨T, 0, none⟩ = some (.int .i64 (n : Int)) ∧ W.cell? ⟨T, 1, none⟩ = some (.int .i64 (v : Int)) ∧ W.cell? ⟨T, 2, none⟩ = some (.map (some M)) ∧ impl_asker_left.rS w n v T M mv w.heap.size m u W) (first | exact h1 | (refine impl_asker_left.rS.st (by assumption) ?_; first | assumption | exact Below.refl _ _)) (first | (go_at_call 61; (with_reducible refine (HC.out _).mono ?_); rintro e w1 ⟨rfl, hb⟩))
 rename_i hh
 have h9 := Aside0.mk hh.2.2.2.2.2
 obtain ⟨_, _, a0, a1, _, _⟩ := hh; clear h1 hS
 go_wp2
 go_loopg [40, 7] n (fun gg v40 v7 wr => ∃ i : Nat, i ≤ n ∧ n - i ≤ gg ∧ v40 = .int .i64 (i : Int) ∧ v7 = .int .i64 ((bestOf (impl_asker_left.g n v d m u) n (frL i m) : Nat) : Int) ∧ Aside0 (impl_asker_left.rS w n v T M mv w.heap.size m u wr))
 case atStart => exact ⟨0, Nat.zero_le _, by omega, rfl, rfl, h9⟩
 case round =>
  clear h9 a0 a1 hb; obtain ⟨i, hi, hg, rfl, rfl, hS⟩ := hrel
  by_cases hlt : i < n
  ·have hltz : (i : Int) < (n : Int) := by omega
   obtain ⟨c0, c1, _⟩ := hS.out.all
   have hmb := bit_nat (a := m) (n := i) (by omega) (by omega)
   have es : ∀ y : Nat, shr .i64 (y : Int) (i : Int) = (y : Int) / 2 ^ i := fun y => by rw [shr_nat (by omega)]; push_cast; rfl
   rw [es] at hmb
   have hi64 : i ≤ 64 := by omega
   clear es
   cases hm : m.testBit i with
   | true =>
    have hf := Aside0.mk (frL_succ_held hm)
    rw [hm] at hmb
    clear hm
    go_wp2
    go_roundg (n - (i + 1))
    case measure => omega
    case rel => exact ⟨i + 1, by omega, by omega, by go_num, by rw [hf.out], hS⟩
   | false =>
    have hf := Aside0.mk (frL_succ_free hm)
    have hmem : i ∈ frL n m := by unfold frL; exact List.mem_filter.mpr ⟨List.mem_range.mpr hlt, by rw [hm]; rfl⟩
    obtain ⟨q0, q1, q2⟩ := HCB.out.step hmem
    have hdd := HD.out
    have hd4 : d ≤ 4 := by omega
    have IH0 := Aside0.mk (fun W => IH.out _ _ W q0 (by omega))
    have IH1 := Aside0.mk (fun W => IH.out _ _ W q1 (by omega))
    have W0 := Aside0.mk (impl_asker_left.with0 (m := m) (u := u) (i := i) hm16 hu16 (by omega))
    have W1 := Aside0.mk (impl_asker_left.with1 (m := m) (u := u) (i := i) hm16 hu16 (by omega))
    have hle0 := ldC_le (v := v) (Nat.le_refl n) q0 (d := d) (by omega)
    have hle1 := ldC_le (v := v) (Nat.le_refl n) q1 (d := d) (by omega)
    have hb0 := HBN.out i
    have hb1 : bestOf (impl_asker_left.g n v d m u) n (frL (i + 1) m) = min (bestOf (impl_asker_left.g n v d m u) n (frL i m)) (1 + max (ldC n n v d (m ||| 2 ^ i) u) (ldC n n v d (m ||| 2 ^ i) (u ||| 2 ^ i))) := by rw [hf.out, bestOf_snoc]
    have HB1 := Aside0.mk hb1
    rw [hm] at hmb
    generalize ldC n n v d (m ||| 2 ^ i) u = R0 at *
    generalize ldC n n v d (m ||| 2 ^ i) (u ||| 2 ^ i) = R1 at *
    generalize bestOf (impl_asker_left.g n v d m u) n (frL i m) = b at *
    generalize m ||| 2 ^ i = m1 at *
    generalize u ||| 2 ^ i = u1 at *
    clear hm hmem q0 q1 q2 hdd hb1 hf
    go_wp2
    have h1 := impl_asker_left.rS.st hS.out.all (Below.refl _ _).drew
    go_region_held3 (fun W => W.cell? ⟨w.heap.size, 0, none⟩ = some (.int .i64 (m : Int)) ∧ W.cell? ⟨w.heap.size, 1, none⟩ = some (.int .i64 (u : Int)) ∧ W.cell? ⟨T, 0, none⟩ = some (.int .i64 (n : Int)) ∧ W.cell? ⟨T, 1, none⟩ = some (.int .i64 (v : Int)) ∧ W.cell? ⟨T, 2, none⟩ = some (.map (some M)) ∧ impl_asker_left.rS w n v T M mv w.heap.size m u W) (first | exact h1 | (refine impl_asker_left.rS.st (by assumption) ?_; first | assumption | exact Below.refl _ _) | (refine impl_asker_left.rS.sb (by assumption) ?_; assumption)) (first | (go_at_call 62; (with_reducible first | refine (impl_known_with.calls _ _ _ _ _ _ _ W0.out).mono ?_ | refine (impl_known_with.calls _ _ _ _ _ _ _ W1.out).mono ?_); rintro e w1 ⟨rfl, hb⟩) | (go_at_call 45; (with_reducible first | refine (IH0.out _ ?s).mono ?_ | refine (IH1.out _ ?s).mono ?_); (case s => exact impl_asker_left.rS.toSt (by assumption)); rintro e w2 ⟨rfl, hb⟩))
    all_goals
     rename_i hh
     have h9 := Aside0.mk hh.2.2.2.2.2
     clear hh h1
     rw [min_val b R0 R1 (by omega) (by omega), ← HB1.out]
     generalize (if R0 < R1 then (R1 : Int) else (R0 : Int)) = mm
     go_wp2
     go_roundg (n - (i + 1))
     case measure => omega
     case rel => exact ⟨i + 1, by omega, by omega, by go_num, rfl, h9⟩
  ·obtain rfl : i = n := by omega
   have h9 := hS.out
   have hb0 := HBN.out i
   obtain ⟨kl, hkl⟩ := HK.out
   obtain ⟨w2, hrun, hM2, ht2⟩ := h9.2.1.2.drew.store (t := 70) (q := .i64) (a := ((bestOf (impl_asker_left.g i v d m u) i (frL i m) : Nat) : Int)) impl_asker_left.keyed Try.underlying70 (impl_asker_left.keys_all i v) impl_asker_left.keys_len Try.underlying3 (wf_nat (by omega)) hkl HG.out
   have H2 : Aside0 (impl_asker_left.St i v T M mv w2 ∧ But M w w2) := ⟨⟨(But.of_turned ht2).blk h9.2.1.ne h9.2.1.1, hM2⟩, h9.2.2.trans ((But.of_below (Below.refl _ _).drew).trans (.of_turned ht2))⟩
   have c0 := blk_cell h9.1 0
   have c1 := blk_cell h9.1 1
   have a2 := blk_cell h9.2.1.1 2
   clear hkl hM2 ht2 h9
   go_wp2
   go_region
   go_wp2
   go_ret
   exact ⟨rfl, H2.out⟩
set_option maxHeartbeats 400000 in
theorem impl_asker_left.call (n v T M : Nat) (mv : Value) (hn : n ≤ 4) (hv : v < 2 ^ 2 ^ n) : ∀ d m u w, Cb n m u → pc m + d = n → impl_asker_left.St n v T M mv w →
  Calls Try.prog 45 #[.pointer (some ⟨T, 0, none⟩), .agg #[.int .i64 (m : Int), .int .i64 (u : Int)]] w fun e w' => e = .returned (.int .i64 ((ldC n n v d m u : Nat) : Int)) ∧ impl_asker_left.St n v T M mv w' ∧ But M w w' := by
 intro d
 induction d with
 | zero =>
  intro m u w hc hd hst
  have h16 := pow16 hn
  have hm16 : m < 16 := by have := hc.hm; omega
  have hu16 : u < 16 := by have := hc.hu; omega
  obtain ⟨kl, hkl⟩ := impl_asker_left.key m u hm16 hu16
  have e0 : n - pc m = 0 := by omega
  rcases (impl_asker_left.start (m := m) (u := u) hst).2.1.2.look_all (t := 70) impl_asker_left.keyed Try.underlying70 impl_asker_left.zero hkl with hl | ⟨y, hy, hl⟩
  ·exact impl_asker_left.same n v T M m u mv w hc hv hst (hc.con (by omega)) (by rw [e0]; rfl) hl
  ·obtain rfl := hy.at
   rw [e0] at hl
   exact impl_asker_left.hit n v T M m u _ mv w hst hl
 | succ d ih =>
  intro m u w hc hd hst
  have h16 := pow16 hn
  have hm16 : m < 16 := by have := hc.hm; omega
  have hu16 : u < 16 := by have := hc.hu; omega
  obtain ⟨kl, hkl⟩ := impl_asker_left.key m u hm16 hu16
  have e0 : n - pc m = d + 1 := by omega
  rcases (impl_asker_left.start (m := m) (u := u) hst).2.1.2.look_all (t := 70) impl_asker_left.keyed Try.underlying70 impl_asker_left.zero hkl with hl | ⟨y, hy, hl⟩
  ·by_cases hcon : conL v (inX n m u) = true
   ·have h0 : ldC n n v (d + 1) m u = 0 := by rw [ldC, if_pos hcon]
    rw [h0]
    exact impl_asker_left.same n v T M m u mv w hc hv hst hcon (by rw [e0]; exact h0) hl
   ·exact impl_asker_left.step n v T M m u d mv w hc hd hv hst hcon ih hl
  ·obtain rfl := hy.at
   rw [e0] at hl
   exact impl_asker_left.hit n v T M m u _ mv w hst hl
end Go.Proofs.Ythekbiofjhkecaa.Print
namespace Go.Proofs.Ythekbiofjhkecaa.Print
open Go.RowKit Go.Proofs.YthekbiofjhkecaaW.PrintWords Go.Proofs.YthekbiofjhkecaaW.PrintLast Go.Proofs.YthekbiofjhkecaaW.PrintMore
attribute [local go_sem] max2_int min2_int max_two min_two max_three min_three max_four min_four   -- for this text's walks alone
set_option linter.unusedVariables false
set_option linter.unusedSimpArgs false
set_option maxRecDepth 100000
/-! ### impl_LeastDepth: function 18 -/
open Go.Proofs.Ythekbiofjhkecaa.M
def impl_LeastDepth.f (a0_0 : Int) (a0_1 : Int) : Option (Int) :=
 (impl_isSmall.f a0_0 a0_1 4).bind fun t => if t = true then (if 0 ≤ a0_0 ∧ a0_0 ≤ 4 ∧ 0 ≤ a0_1 ∧ a0_1 < ((2 ^ 2 ^ a0_0.toNat : Nat) : Int) then some (((ldC a0_0.toNat a0_0.toNat a0_1.toNat a0_0.toNat 0 0 : Nat) : Int)) else none) else some (-1)
theorem impl_LeastDepth.ask (n v : Nat) (w : World) : Calls Try.prog 44 #[.agg #[.int .i64 (n : Int), .int .i64 (v : Int)]] w fun e w' => ∃ T M mv, e = .returned (.pointer (some ⟨T, 0, none⟩)) ∧ impl_asker_left.St n v T M mv w' ∧ w.heap.size ≤ M ∧ Below w.heap.size w w' := by
 have huT := Try.underlying25
 have huA := Try.underlying72
 have hmk : ∀ W, (Instr.makeMap 70 none).run Try.prog W = .ok (.map (some W.heap.size)) (W.alloc (.map #[] 0)) := fun W => run_makeMap 70 W
 go_enter Try.func44, Try.ntmps44
 go_wp2_with (fail)
 go_ret
 obtain ⟨W0, hW0⟩ : ∃ W0, W0 = w.alloc (.cells #[.int .i64 (n : Int), .int .i64 (v : Int)] 25) := ⟨_, rfl⟩
 have hs : W0.heap.size = w.heap.size + 1 := by rw [hW0]; simp
 rw [← hW0, ← hs]
 have hm := Memo.made W0 Try.prog 54 3 (impl_asker_left.Good n v)
 have hm2 := (hm.alloc (.map #[] 0)).alloc (.cells #[.int .i64 (n : Int), .int .i64 (v : Int), .map (some W0.heap.size), .map (some (W0.heap.size + 1))] 72)
 have hB : Below w.heap.size w ((((W0.alloc (.map #[] 0)).alloc (.map #[] 0)).alloc (.cells #[.int .i64 (n : Int), .int .i64 (v : Int), .map (some W0.heap.size), .map (some (W0.heap.size + 1))] 72))) := by
  have h0 : Below w.heap.size w W0 := by rw [hW0]; exact (Below.refl _ _).alloc (Nat.le_refl _) _
  exact ((h0.alloc (by omega) _).alloc (by simp; omega) _).alloc (by simp; omega) _
 have hT := blk_new ((W0.alloc (.map #[] 0)).alloc (.map #[] 0)) (.cells #[.int .i64 (n : Int), .int .i64 (v : Int), .map (some W0.heap.size), .map (some (W0.heap.size + 1))] 72)
 have e : ((W0.alloc (.map #[] 0)).alloc (.map #[] 0)).heap.size = W0.heap.size + 1 + 1 := by simp
 rw [e] at hT
 exact ⟨W0.heap.size + 1 + 1, W0.heap.size, _, rfl, ⟨hT, hm2⟩, by omega, hB⟩
theorem impl_LeastDepth.good (n v : Nat) (hn : n ≤ 4) (hv : v < 2 ^ 2 ^ n) (hsm : impl_isSmall.f (n : Int) (v : Int) 4 = some true) (w : World) :
  Calls Try.prog 18 #[.agg #[.int .i64 (n : Int), .int .i64 (v : Int)]] w fun e w' => e = .returned (.int .i64 ((ldC n n v n 0 0 : Nat) : Int)) ∧ Below w.heap.size w w' := by
 have huT := Try.underlying25
 have huK := Try.underlying54
 obtain ⟨W0, hW0⟩ : ∃ W0, W0 = w.alloc (.cells #[.int .i64 (n : Int), .int .i64 (v : Int)] 25) := ⟨_, rfl⟩
 have HB : Aside0 (Below w.heap.size w W0) := ⟨by rw [hW0]; exact (Below.refl _ _).alloc (Nat.le_refl _) _⟩
 have C0 : Aside0 (W0.heap[w.heap.size]? = some (.cells #[.int .i64 (n : Int), .int .i64 (v : Int)] 25 (0, 0))) := ⟨by rw [hW0]; exact blk_new w _⟩
 have CW := Aside0.mk hW0; have HSM := Aside0.mk hsm
 have HA := Aside0.mk (fun W => impl_LeastDepth.ask n v W)
 have HL : Aside0 (∀ T M mv W, impl_asker_left.St n v T M mv W → Calls Try.prog 45 #[.pointer (some ⟨T, 0, none⟩), .agg #[.int .i64 0, .int .i64 0]] W fun e w' => e = .returned (.int .i64 ((ldC n n v n 0 0 : Nat) : Int)) ∧ impl_asker_left.St n v T M mv w' ∧ But M W w') := ⟨fun T M mv W h => impl_asker_left.call n v T M mv hn hv n 0 0 W (Cb.zero hn) (by rw [pc_zero]; omega) h⟩
 clear hsm hW0 hv hn
 go_enter Try.func18, Try.ntmps18
 go_wp2_with (first | (go_at_call 25; rw [← CW.out]; (with_reducible refine (impl_isSmall.calls _ _ _ _ _ HSM.out).mono ?_); rintro e w1 ⟨rfl, hb⟩; have B1 := Aside0.mk hb; clear hb; have p0 := blk_cell (blk_below C0.out B1.out) 0; have p1 := blk_cell (blk_below C0.out B1.out) 1) | (go_at_call 44; (with_reducible refine (HA.out _).mono ?_); rintro e w2 ⟨T, M, mv, rfl, hst, hM, hb⟩; have B2 := Aside0.mk (B1.out.trans (hb.mono B1.out.size)); have HM := Aside0.mk (Nat.le_trans B1.out.size hM); have HST := Aside0.mk hst; clear hb hst hM) | (go_at_call 45; (with_reducible refine (HL.out _ _ _ _ HST.out).mono ?_); rintro e w3 ⟨rfl, hst, hb⟩; have B3 := Aside0.mk hb; clear hb hst))
 go_ret
 have hm := HM.out
 have h2 := HB.out.size
 refine ⟨rfl, ?_⟩
 have h3 := HB.out.trans (B2.out.mono HB.out.size)
 exact h3.trans (B3.out.below (by omega) h3.size)
theorem impl_LeastDepth.bad (a b : Int) (hsm : impl_isSmall.f a b 4 = some false) (w : World) :
  Calls Try.prog 18 #[.agg #[.int .i64 a, .int .i64 b]] w fun e w' => e = .returned (.int .i64 (-1)) ∧ Below w.heap.size w w' := by
 have huT := Try.underlying25
 have HB : Aside0 (Below w.heap.size w (w.alloc (.cells #[.int .i64 a, .int .i64 b] 25))) := ⟨(Below.refl _ _).alloc (Nat.le_refl _) _⟩
 have HSM := Aside0.mk hsm; clear hsm
 go_enter Try.func18, Try.ntmps18
 go_wp2_with (first | (go_at_call 25; (with_reducible refine (impl_isSmall.calls _ _ _ _ _ HSM.out).mono ?_); rintro e w1 ⟨rfl, hb⟩))
 go_ret
 exact ⟨rfl, HB.out.trans (hb.mono HB.out.size)⟩
theorem impl_LeastDepth.calls (a0_0 : Int) (a0_1 : Int) (r : Int) (w : World) (h : impl_LeastDepth.f a0_0 a0_1 = some r) :
  Calls Try.prog 18 #[.agg #[.int .i64 a0_0, .int .i64 a0_1]] w fun e w' => e = .returned (.int .i64 r) ∧ Below w.heap.size w w' := by
 unfold impl_LeastDepth.f at h
 obtain ⟨t, ht, h⟩ := Option.bind_eq_some_iff.mp h
 cases t with
 | false =>
  rw [if_neg (by decide)] at h
  rw [← Option.some.inj h]
  exact impl_LeastDepth.bad a0_0 a0_1 ht w
 | true =>
  rw [if_pos rfl] at h
  by_cases hd : 0 ≤ a0_0 ∧ a0_0 ≤ 4 ∧ 0 ≤ a0_1 ∧ a0_1 < ((2 ^ 2 ^ a0_0.toNat : Nat) : Int)
  ·rw [if_pos hd] at h
   obtain ⟨d1, d2, d3, d4⟩ := hd
   obtain ⟨n, rfl⟩ := nat_of d1
   obtain ⟨v, rfl⟩ := nat_of d3
   rw [Int.toNat_natCast, Int.toNat_natCast] at h
   rw [Int.toNat_natCast] at d4
   rw [← Option.some.inj h]
   exact impl_LeastDepth.good n v (by omega) (by exact_mod_cast d4) ht w
  ·rw [if_neg hd] at h; cases h
end Go.Proofs.Ythekbiofjhkecaa.Print
namespace Go.Proofs.Ythekbiofjhkecaa.Print
open Go.RowKit Go.Proofs.YthekbiofjhkecaaW.PrintWords Go.Proofs.YthekbiofjhkecaaW.PrintLast Go.Proofs.YthekbiofjhkecaaW.PrintMore
attribute [local go_sem] max2_int min2_int max_two min_two max_three min_three max_four min_four   -- for this text's walks alone
set_option linter.unusedVariables false
set_option linter.unusedSimpArgs false
/-! ### impl_DepthSum: function 8 -/
open Go.Proofs.Ythekbiofjhkecaa.M
/-- the least depth of a word -/
def impl_DepthSum.h (k x : Nat) : Int := ((ldC k k x k 0 0 : Nat) : Int)
def impl_DepthSum.f (a0_0 : Int) (a0_1 : Int) (a1 : Int) : Option (Int) :=
 (impl_isSmall.f a0_0 a0_1 4).bind fun t => if t = true ∧ 0 ≤ a1 ∧ a1 ≤ a0_0 then (if (0 ≤ a0_0 ∧ a0_0 ≤ 4 ∧ 0 ≤ a0_1 ∧ a0_1 < ((2 ^ 2 ^ a0_0.toNat : Nat) : Int)) ∧ ∀ x : Nat, x < 2 ^ 2 ^ a1.toNat → impl_isSmall.f (a1.toNat : Int) (x : Int) 4 = some true then some (impl_sumOverCubes.sum (impl_DepthSum.h a1.toNat) (cutAll a0_0.toNat a0_1.toNat a1.toNat (2 ^ a0_0.toNat))) else none) else some (-1)
theorem impl_DepthSum.walk (a b k r : Int) (w : World) (hc : ∀ W, Calls Try.prog 29 #[.agg #[.int .i64 a, .int .i64 b], .int .i64 k, .func (.func 18) #[] #[]] W fun e w' => e = .returned (.int .i64 r) ∧ Below W.heap.size W w') :
  Calls Try.prog 8 #[.agg #[.int .i64 a, .int .i64 b], .int .i64 k] w fun e w' => e = .returned (.int .i64 r) ∧ Below w.heap.size w w' := by
 have huT := Try.underlying25
 have HC := Aside0.mk hc
 have HB : Aside0 (Below w.heap.size w (w.alloc (.cells #[.int .i64 a, .int .i64 b] 25))) := ⟨(Below.refl _ _).alloc (Nat.le_refl _) _⟩
 clear hc
 go_enter Try.func8, Try.ntmps8
 go_wp2_with (first | (go_at_call 29; (with_reducible refine (HC.out _).mono ?_); rintro e w1 ⟨rfl, hb⟩))
 go_ret
 exact ⟨rfl, HB.out.trans (hb.mono HB.out.size)⟩
theorem impl_DepthSum.calls (a0_0 : Int) (a0_1 : Int) (a1 : Int) (r : Int) (w : World) (h : impl_DepthSum.f a0_0 a0_1 a1 = some r) :
  Calls Try.prog 8 #[.agg #[.int .i64 a0_0, .int .i64 a0_1], .int .i64 a1] w fun e w' => e = .returned (.int .i64 r) ∧ Below w.heap.size w w' := by
 unfold impl_DepthSum.f at h
 obtain ⟨t, ht, h⟩ := Option.bind_eq_some_iff.mp h
 refine impl_DepthSum.walk a0_0 a0_1 a1 r w (fun W => ?_)
 by_cases hc : t = true ∧ 0 ≤ a1 ∧ a1 ≤ a0_0
 ·rw [if_pos hc] at h
  obtain ⟨rfl, h1, h2⟩ := hc
  by_cases hd : (0 ≤ a0_0 ∧ a0_0 ≤ 4 ∧ 0 ≤ a0_1 ∧ a0_1 < ((2 ^ 2 ^ a0_0.toNat : Nat) : Int)) ∧ ∀ x : Nat, x < 2 ^ 2 ^ a1.toNat → impl_isSmall.f (a1.toNat : Int) (x : Int) 4 = some true
  ·rw [if_pos hd] at h
   obtain ⟨⟨d1, d2, d3, d4⟩, d5⟩ := hd
   obtain ⟨n, rfl⟩ := nat_of d1
   obtain ⟨v, rfl⟩ := nat_of d3
   obtain ⟨k, rfl⟩ := nat_of h1
   simp only [Int.toNat_natCast] at h d4 d5
   rw [← Option.some.inj h]
   exact impl_sumOverCubes.good n v k (2 ^ n) (by omega) rfl (by exact_mod_cast d4) (by omega) ht 18 #[] (enters_of Try.func18 (by kernel_rfl) rfl) (impl_DepthSum.h k) W (fun x W' hx _ => impl_LeastDepth.good k x (by omega) hx (d5 x hx) W')
  ·rw [if_neg hd] at h; cases h
 ·rw [if_neg hc] at h
  rw [← Option.some.inj h]
  exact impl_sumOverCubes.bad a0_0 a0_1 a1 t ht (fun e => by
   subst e
   by_cases h1 : a1 < 0
   ·exact .inl h1
   ·exact .inr (Classical.byContradiction fun h2 => hc ⟨rfl, by omega, by omega⟩)) 18 #[] W
end Go.Proofs.Ythekbiofjhkecaa.Print
namespace Go.Proofs.Ythekbiofjhkecaa.Print
open Go.RowKit Go.Proofs.YthekbiofjhkecaaW.PrintWords Go.Proofs.YthekbiofjhkecaaW.PrintLast Go.Proofs.YthekbiofjhkecaaW.PrintMore
attribute [local go_sem] max2_int min2_int max_two min_two max_three min_three max_four min_four   -- for this text's walks alone
set_option linter.unusedVariables false
set_option linter.unusedSimpArgs false
/-! ### impl_Table_coefficients: function 55 -/
mutual
def impl_Table_coefficients.l0 : Nat → List Int → Int → Int → Int → Int → Option (List Int)
 | 0, _, _, _, _, _ => none
 | k + 1, x3, x10, x11, x209000, x209001 => if x11 < x10 then ((impl_Table_size.f x209000 x209001).bind fun t213 => (impl_Table_coefficients.l1 k x3 x11 x10 x11 t213 0 x209000 x209001)) else (some x3)
def impl_Table_coefficients.l1 : Nat → List Int → Int → Int → Int → Int → Int → Int → Int → Option (List Int)
 | 0, _, _, _, _, _, _, _, _ => none
 | k + 1, x3, x4, x10, x11, x15, x16, x209000, x209001 => if x16 < x15 then (if (Go.bits .andNot .i64 x16 x4) = 0 then ((impl_ones.f (Go.bits .xor .i64 x4 x16)).bind fun t214 => (if (Int.tmod t214 2) = 0 then (if 0 ≤ x4 then (if x4 < (x3.length : Int) then ((impl_Table_at.f x209000 x209001 x16).bind fun t216 => (impl_Table_coefficients.l1 k (x3.set (x4 : Int).toNat (wrap64 ((rd x3 x4) + t216))) x4 x10 x11 x15 (wrap64 (x16 + 1)) x209000 x209001)) else (none)) else (none)) else (if 0 ≤ x4 then (if x4 < (x3.length : Int) then ((impl_Table_at.f x209000 x209001 x16).bind fun t219 => (impl_Table_coefficients.l1 k (x3.set (x4 : Int).toNat (wrap64 ((rd x3 x4) - t219))) x4 x10 x11 x15 (wrap64 (x16 + 1)) x209000 x209001)) else (none)) else (none)))) else (impl_Table_coefficients.l1 k x3 x4 x10 x11 x15 (wrap64 (x16 + 1)) x209000 x209001)) else (impl_Table_coefficients.l0 k x3 x10 (wrap64 (x11 + 1)) x209000 x209001)
end
def impl_Table_coefficients.f (k : Nat) (a0_0 : Int) (a0_1 : Int) : Option (List Int) := (impl_Table_size.f a0_0 a0_1).bind fun t209 => (if 0 ≤ t209 then (if (t209 : Int).toNat ≤ 35184372088832 then ((some (List.replicate (t209 : Int).toNat 0 : List Int)).bind fun y210 => (impl_Table_coefficients.l0 k y210 (y210.length : Int) 0 a0_0 a0_1)) else (none)) else (none))
def impl_Table_coefficients.T8 : Bool × List (List Nat × List Nat) := (true, [([], []), ([], []), ([0, 1], [0, 1]), ([2], [2]), ([], []), ([], []), ([4, 5], [4, 5]), ([3, 6], [3, 6]), ([0, 1, 0, 1, 2, 3, 4, 5, 6, 7], [0, 1]), ([8, 7, 6, 0, 1, 2, 3, 4, 5, 6, 7], [7, 8])])
def impl_Table_coefficients.B8 : List Nat := [0, 0, 3, 7, 0, 0, 48, 127, 255, 511]
theorem impl_Table_coefficients.tab8 : rtab .any (opsOf Try.f55 8) = impl_Table_coefficients.T8 := by kernel_rfl
theorem impl_Table_coefficients.bits8 : waitsOk impl_Table_coefficients.T8.2 impl_Table_coefficients.B8 = true := by kernel_rfl
def impl_Table_coefficients.T11 : Bool × List (List Nat × List Nat) := (true, [([], []), ([], []), ([0, 1], [0, 1]), ([2], [2]), ([], []), ([], []), ([4, 5], [4, 5]), ([3, 6], [3, 6]), ([0, 1, 0, 1, 2, 3, 4, 5, 6, 7], [0, 1]), ([8, 7, 6, 0, 1, 2, 3, 4, 5, 6, 7], [7, 8])])
def impl_Table_coefficients.B11 : List Nat := [0, 0, 3, 7, 0, 0, 48, 127, 255, 511]
theorem impl_Table_coefficients.tab11 : rtab .any (opsOf Try.f55 11) = impl_Table_coefficients.T11 := by kernel_rfl
theorem impl_Table_coefficients.bits11 : waitsOk impl_Table_coefficients.T11.2 impl_Table_coefficients.B11 = true := by kernel_rfl
set_option maxHeartbeats 8000000 in
set_option maxRecDepth 100000 in
theorem impl_Table_coefficients.calls (k : Nat) (a0_0 : Int) (a0_1 : Int) (r : List Int) (w : World) (h : impl_Table_coefficients.f k a0_0 a0_1 = some r) :
  Calls Try.prog 55 #[.agg #[.int .i64 a0_0, .int .i64 a0_1]] w fun e w' => ∃ v0_ : Value, e = .returned (v0_) ∧ Kd.R (Kd.int .i64) 3 w' w.heap.size (fun _ => True) v0_ r ∧ Below w.heap.size w w' := by
 have hu25 := Try.underlying25
 have HB := Aside0.mk (Below.refl w.heap.size w)
 have H : ((impl_Table_size.f a0_0 a0_1).bind fun t209 => (if 0 ≤ t209 then (if (t209 : Int).toNat ≤ 35184372088832 then ((some (List.replicate (t209 : Int).toNat 0 : List Int)).bind fun y210 => (impl_Table_coefficients.l0 k y210 (y210.length : Int) 0 a0_0 a0_1)) else (none)) else (none))) = some r := h
 clear h; replace H := Option.bind_eq_some_iff.mp H; obtain ⟨t209, A20, H⟩ := H; (try dsimp only at H); have A2 := Aside0.mk A20; clear A20
 by_cases c3 : 0 ≤ t209
 ·rw [if_pos c3] at H
  have c3b0 := eq_true c3
  have c3b1 : decide (0 ≤ t209) = true := decide_eq_true c3
  clear c3
  by_cases c4 : (t209 : Int).toNat ≤ 35184372088832
  ·rw [if_pos c4] at H
   have c4b0 := eq_true c4
   have c4b1 : decide ((t209 : Int).toNat ≤ 35184372088832) = true := decide_eq_true c4
   clear c4
   obtain ⟨y210, hy210⟩ : ∃ y_ : List Int, y_ = (List.replicate (t209 : Int).toNat 0) := ⟨_, rfl⟩
   replace H : (impl_Table_coefficients.l0 k y210 (y210.length : Int) 0 a0_0 a0_1) = some r := by first | (rw [hy210]; with_reducible exact H) | (have H2_ := (Option.bind_some _ _).symm.trans H; rw [hy210]; with_reducible exact H2_) | (have H2_ := (Option.bind_some _ _).symm.trans H; with_reducible exact H2_) | with_reducible exact H | (rw [hy210]; exact H) | exact H
   have Ny210 := Aside0.mk hy210; clear hy210
   have H' := Aside0.mk H
   clear H
   go_enter Try.func55, Try.ntmps55
   go_wp2_with (first | ((with_reducible refine gate_dst (N := 1) rfl ?_); refine box_event ?hg (N := 1) ?hd (cs := #[.int .i64 a0_0, .int .i64 a0_1]) (t := 25) ?hr ?_; (case hd => rfl); (case hg => rfl); (case hr => first | (go_simp; done) | (go_simp; rfl)); intro gb208 hg w5 hbox hb; have n0_ := Aside0.mk (below_step (by repeat (first | (with_reducible first | exact HB.out | apply below_alloc | apply pw_below_drewN | apply below_drew1) | exact HB.out)) hb); have n1_ := Aside0.mk (hbox); have n2_ := Aside0.mk ((by rw [hg]; exact (below_size (by repeat (first | (with_reducible first | exact HB.out | apply below_alloc | apply pw_below_drewN | apply below_drew1) | exact HB.out))) : w.heap.size ≤ gb208)); have n3_ := Aside0.mk ((by rw [hg]; exact (below_size (by repeat (first | (with_reducible first | exact HB.out | apply below_alloc | apply pw_below_drewN | apply below_drew1) | exact HB.out))) : w.heap.size ≤ gb208)); clear HB; have HB := n0_; have BK208 := n1_; have GW208 := n2_; have GE208 := n3_; clear n0_ n1_ n2_ n3_; clear hb hbox hg; have hcz6_0 : w5.cell? ⟨gb208, 0, none⟩ = some (.int .i64 a0_0) := (blk_cell BK208.out 0).trans rfl; have hcz6_1 : w5.cell? ⟨gb208, 1, none⟩ = some (.int .i64 a0_1) := (blk_cell BK208.out 1).trans rfl; have hfz6_0 := blk_frozen BK208.out 0; have hfz6_1 := blk_frozen BK208.out 1) | ((with_reducible refine gate_callee (f := 50) rfl ?_); refine goesL_ (some 7) rfl rfl Try.func50 (by kernel_rfl) rfl #[.agg #[.int .i64 a0_0, .int .i64 a0_1]] rfl (by first | rfl | (simp only [List.map_toArray, List.map_cons, List.map_nil, List.length_drop, List.length_take]; rfl)) ?_; (with_reducible refine (impl_Table_size.calls a0_0 a0_1 t209 _ A2.out).mono ?_); rintro e w7 ⟨rfl, hb⟩; refine ⟨_, rfl, ?_⟩; have n0_ := Aside0.mk (blk_below (g := gb208) (o := .cells #[.int .i64 a0_0, .int .i64 a0_1] 25 (0, 0)) (by (with_reducible repeat (first | refine blk_drewN ?_ _ | refine blk_drew ?_ | refine blk_alloc ?_ _)); exact BK208.out) hb); have n1_ := Aside0.mk (below_step (by repeat (first | (with_reducible first | exact HB.out | apply below_alloc | apply pw_below_drewN | apply below_drew1 | refine below_set ?_ GE208.out) | exact HB.out)) hb); clear BK208; clear HB; have BK208 := n0_; have HB := n1_; clear n0_ n1_; (try clear hb); (try clear hb2); (try clear hk); (try clear hi)) | ((with_reducible refine gate_dst (N := 8) rfl ?_); refine Kd.R_make (Kd.int .i64) _ 3 rfl (N := 8) rfl 28 _ _ rfl t209 rfl rfl Try.underlying28 (.int .i64 0) 8 info3 rfl (by decide) (by omega) 0 (ok := fun _ => True) (okp := fun _ => True) rfl (fun _ hk => hk) trivial (of_decide_eq_true (by first | (with_reducible assumption) | assumption)) (Nat.le_trans (Nat.mul_le_mul_right _ (of_decide_eq_true (by first | (with_reducible assumption) | assumption) : t209.toNat ≤ 35184372088832)) (by omega)) (Below.refl _ _) (Nat.le_refl _) ?_; intro v211 w8 ho9 hb hg_ hnew_; clear hg_ hnew_; (first | rw [← Ny210.out] at ho9 | (simp only [Int.reduceToNat] at ho9; rw [← Ny210.out] at ho9)); have n0_ := Aside0.mk (Kd.R_lower ho9 (below_size (by repeat (first | (with_reducible first | exact HB.out | apply below_alloc | apply pw_below_drewN | apply below_drew1 | refine below_set ?_ GE208.out) | exact HB.out)))); have n1_ := Aside0.mk (blk_below (g := gb208) (o := .cells #[.int .i64 a0_0, .int .i64 a0_1] 25 (0, 0)) (by (with_reducible repeat (first | refine blk_drewN ?_ _ | refine blk_drew ?_ | refine blk_alloc ?_ _)); exact BK208.out) hb); have n2_ := Aside0.mk (below_step (by repeat (first | (with_reducible first | exact HB.out | apply below_alloc | apply pw_below_drewN | apply below_drew1 | refine below_set ?_ GE208.out) | exact HB.out)) hb); clear BK208; clear HB; have HO212 := n0_; have BK208 := n1_; have HB := n2_; clear n0_ n1_ n2_; clear hb ho9; obtain ⟨Ao10, co10, eo10⟩ := Kd.R_slice HO212.out; subst eo10))
   go_loopg [11] k (fun kq v11 w' => ∃ (x3_1 : List Int) (x11_1 : Int), v11 = .int .i64 x11_1 ∧ Aside0 (impl_Table_coefficients.l0 kq x3_1 (y210.length : Int) x11_1 a0_0 a0_1 = some r) ∧ Aside0 (kq ≤ k) ∧ Aside0 (Kd.R (Kd.int .i64) 3 w' w.heap.size (fun _ => True) (.slice Ao10 y210.length co10) x3_1) ∧ Aside0 (w'.heap[gb208]? = some (.cells #[.int .i64 a0_0, .int .i64 a0_1] 25 (0, 0))) ∧ Aside0 (Below w.heap.size w w'))
   case atStart => exact ⟨(y210), (0), (by first | rfl | (simp; done) | (simp [*]; done)), H', ⟨Nat.le_refl _⟩, ⟨by (with_reducible repeat (first | apply Kd.R_alloc | apply Kd.R_drewN | apply Kd.R_drew)); exact HO212.out⟩, ⟨by (with_reducible repeat (first | refine blk_drewN ?_ _ | refine blk_drew ?_ | refine blk_alloc ?_ _)); exact BK208.out⟩, ⟨by repeat (first | (with_reducible first | exact HB.out | apply below_alloc | apply pw_below_drewN | apply below_drew1 | refine below_set ?_ GE208.out) | exact HB.out)⟩⟩
   case round =>
    clear H'; (try clear p2); (try clear c3); (try clear c3b0); (try clear c3b1); (try clear c4); (try clear c4b0); (try clear c4b1); (try clear c5); (try clear hcz6_0); (try clear hcz6_1); (try clear hfz6_0); (try clear hfz6_1); obtain ⟨x3_1, x11_1, rfl, HA, HK1, HO_3, BK208, HB⟩ := hrel
    have hl3_1 := (Kd.R_reads' HO_3.out).1
    rw [hl3_1] at HO_3
    (try simp only [hl3_1])
    (try simp only [hl3_1] at BK208)
    cases gk with
    | zero => exact absurd HA.out (by simp [impl_Table_coefficients.l0])
    | succ k1 =>
     have H := HA.out
     clear HA
     simp only [impl_Table_coefficients.l0] at H
     by_cases c11 : x11_1 < (y210.length : Int)
     ·rw [if_pos c11] at H
      have c11b0 : decide (x11_1 < (y210.length : Int)) = true := decide_eq_true c11
      (try have c11b9_0 : decide (x11_1 < (x3_1.length : Int)) = true := by rw [← hl3_1]; exact decide_eq_true c11)
      clear c11; replace H := Option.bind_eq_some_iff.mp H; obtain ⟨t213, A120, H⟩ := H
      replace H : (impl_Table_coefficients.l1 k1 x3_1 x11_1 (y210.length : Int) x11_1 t213 0 a0_0 a0_1) = some r := H
      have A12 := Aside0.mk A120; clear A120
      have H' := Aside0.mk H
      clear H
      have hcz13_0 : wr.cell? ⟨gb208, 0, none⟩ = some (.int .i64 a0_0) := (blk_cell BK208.out 0).trans rfl
      have hcz13_1 : wr.cell? ⟨gb208, 1, none⟩ = some (.int .i64 a0_1) := (blk_cell BK208.out 1).trans rfl
      have hfz13_0 := blk_frozen BK208.out 0
      have hfz13_1 := blk_frozen BK208.out 1
      go_wp2_with (first | ((with_reducible refine gate_callee (f := 50) rfl ?_); refine goesL_ (some 15) rfl rfl Try.func50 (by kernel_rfl) rfl #[.agg #[.int .i64 a0_0, .int .i64 a0_1]] rfl (by first | rfl | (simp only [List.map_toArray, List.map_cons, List.map_nil, List.length_drop, List.length_take]; rfl)) ?_; (with_reducible refine (impl_Table_size.calls a0_0 a0_1 t213 _ A12.out).mono ?_); rintro e w14 ⟨rfl, hb⟩; refine ⟨_, rfl, ?_⟩; have n0_ := Aside0.mk (Kd.R_below (by (with_reducible repeat (first | apply Kd.R_alloc | apply Kd.R_drewN | apply Kd.R_drew)); exact HO_3.out) hb); have n1_ := Aside0.mk (blk_below (g := gb208) (o := .cells #[.int .i64 a0_0, .int .i64 a0_1] 25 (0, 0)) (by (with_reducible repeat (first | refine blk_drewN ?_ _ | refine blk_drew ?_ | refine blk_alloc ?_ _)); exact BK208.out) hb); have n2_ := Aside0.mk (below_step (by repeat (first | (with_reducible first | exact HB.out | apply below_alloc | apply pw_below_drewN | apply below_drew1 | refine below_set ?_ GE208.out) | exact HB.out)) hb); clear HO_3; clear BK208; clear HB; have HO_3 := n0_; have BK208 := n1_; have HB := n2_; clear n0_ n1_ n2_; (try clear hb); (try clear hb2); (try clear hk); (try clear hi)))
      go_loopg [16] k1 (fun kq v16 w' => ∃ (x3_2 : List Int) (x16_2 : Int), v16 = .int .i64 x16_2 ∧ Aside0 (impl_Table_coefficients.l1 kq x3_2 x11_1 (y210.length : Int) x11_1 t213 x16_2 a0_0 a0_1 = some r) ∧ Aside0 (kq ≤ k1) ∧ Aside0 (Kd.R (Kd.int .i64) 3 w' w.heap.size (fun _ => True) (.slice Ao10 x3_1.length co10) x3_2) ∧ Aside0 (w'.heap[gb208]? = some (.cells #[.int .i64 a0_0, .int .i64 a0_1] 25 (0, 0))) ∧ Aside0 (Below w.heap.size w w'))
      case atStart => exact ⟨(x3_1), (0), (by first | rfl | (simp; done) | (simp [*]; done)), H', ⟨Nat.le_refl _⟩, ⟨by (try simp only [hl3_1]); (with_reducible repeat (first | apply Kd.R_alloc | apply Kd.R_drewN | apply Kd.R_drew)); exact HO_3.out⟩, ⟨by (try simp only [hl3_1]); (with_reducible repeat (first | refine blk_drewN ?_ _ | refine blk_drew ?_ | refine blk_alloc ?_ _)); exact BK208.out⟩, ⟨by repeat (first | (with_reducible first | exact HB.out | apply below_alloc | apply pw_below_drewN | apply below_drew1 | refine below_set ?_ GE208.out) | exact HB.out)⟩⟩
      case round =>
       clear H'; (try clear c1); (try clear p2); (try clear c3); (try clear c3b0); (try clear c3b1); (try clear c4); (try clear c4b0); (try clear c4b1); (try clear c5); (try clear c11); (try clear c11b0); (try clear hcz13_0); (try clear hcz13_1); (try clear hcz6_0); (try clear hcz6_1); (try clear hfz13_0); (try clear hfz13_1); (try clear hfz6_0); (try clear hfz6_1); (try clear p2); obtain ⟨x3_2, x16_2, rfl, HA, HK2, HO_3, BK208, HB⟩ := hrel
       have hl3_2 := (Kd.R_reads' HO_3.out).1
       rw [hl3_2] at HO_3
       (try simp only [hl3_2])
       (try simp only [hl3_2] at BK208)
       cases gk with
       | zero => exact absurd HA.out (by simp [impl_Table_coefficients.l1])
       | succ k2 =>
        have H := HA.out
        clear HA
        simp only [impl_Table_coefficients.l1] at H
        by_cases c15 : x16_2 < t213
        ·rw [if_pos c15] at H
         have c15b0 : decide (x16_2 < t213) = true := decide_eq_true c15
         clear c15
         by_cases c16 : (Go.bits .andNot .i64 x16_2 x11_1) = 0
         ·rw [if_pos c16] at H
          have c16b0 : ((Go.bits .andNot .i64 x16_2 x11_1) == 0) = true := beq_iff_eq.mpr c16
          have c16b1 : ((Go.bits .andNot .i64 x16_2 x11_1) != 0) = false := bne_eq_false_iff_eq.mpr c16
          clear c16; replace H := Option.bind_eq_some_iff.mp H; obtain ⟨t214, A170, H⟩ := H; (try dsimp only at H); have A17 := Aside0.mk A170; clear A170
          by_cases c18 : (Int.tmod t214 2) = 0
          ·rw [if_pos c18] at H
           have c18b0 : ((Int.tmod t214 2) == 0) = true := beq_iff_eq.mpr c18
           have c18b1 : ((Int.tmod t214 2) != 0) = false := bne_eq_false_iff_eq.mpr c18
           clear c18
           by_cases c19 : 0 ≤ x11_1
           ·rw [if_pos c19] at H
            have c19b0 : decide (0 ≤ x11_1) = true := decide_eq_true c19
            clear c19
            by_cases c20 : x11_1 < (x3_2.length : Int)
            ·rw [if_pos c20] at H
             have c20b0 : decide (x11_1 < (x3_2.length : Int)) = true := decide_eq_true c20
             clear c20; replace H := Option.bind_eq_some_iff.mp H; obtain ⟨t216, A210, H⟩ := H; (try dsimp only at H); have A21 := Aside0.mk A210; clear A210
             obtain ⟨y217, hy217⟩ : ∃ y_ : List Int, y_ = (x3_2.set (x11_1 : Int).toNat (wrap64 ((rd x3_2 x11_1) + t216))) := ⟨_, rfl⟩
             replace H : (impl_Table_coefficients.l1 k2 y217 x11_1 (y210.length : Int) x11_1 t213 (wrap64 (x16_2 + 1)) a0_0 a0_1) = some r := by first | (rw [hy217]; with_reducible exact H) | (have H2_ := (Option.bind_some _ _).symm.trans H; rw [hy217]; with_reducible exact H2_) | (have H2_ := (Option.bind_some _ _).symm.trans H; with_reducible exact H2_) | with_reducible exact H | (rw [hy217]; exact H) | exact H
             have Ny217 := Aside0.mk hy217; clear hy217
             have H' := Aside0.mk H
             clear H
             try go_wp2_with (first | ((with_reducible refine gate_callee (f := 28) rfl ?_); refine goesL_ (some 37) rfl rfl Try.func28 (by kernel_rfl) rfl #[.int .i64 (Go.bits .xor .i64 x11_1 x16_2)] rfl (by first | rfl | (simp only [List.map_toArray, List.map_cons, List.map_nil, List.length_drop, List.length_take]; rfl)) ?_; (with_reducible refine (impl_ones.calls (Go.bits .xor .i64 x11_1 x16_2) t214 _ A17.out).mono ?_); rintro e w' ⟨rfl, ⟨nd, rfl⟩⟩; refine ⟨_, rfl, ?_⟩; (try (rw [drewN_self wr]; generalize hq_ : World.drewN wr _ = wr; have n0_ : Aside0 (Kd.R (Kd.int .i64) 3 wr w.heap.size (fun _ => True) (.slice Ao10 x3_2.length co10) x3_2) := ⟨by rw [← hq_]; exact (by (with_reducible repeat (first | apply Kd.R_alloc | apply Kd.R_drewN | apply Kd.R_drew)); exact HO_3.out)⟩; have n1_ : Aside0 (wr.heap[gb208]? = some (.cells #[.int .i64 a0_0, .int .i64 a0_1] 25 (0, 0))) := ⟨by rw [← hq_]; exact (by (with_reducible repeat (first | refine blk_drewN ?_ _ | refine blk_drew ?_ | refine blk_alloc ?_ _)); exact BK208.out)⟩; have n2_ : Aside0 (Below w.heap.size w wr) := ⟨by rw [← hq_]; exact (by repeat (first | (with_reducible first | exact HB.out | apply below_alloc | apply pw_below_drewN | apply below_drew1 | refine below_set ?_ GE208.out) | exact HB.out))⟩; clear HO_3 BK208 HB hq_; have HO_3 := n0_; have BK208 := n1_; have HB := n2_; clear n0_ n1_ n2_))))
             have n0_ := Aside0.mk (Kd.R_drew HO_3.out)
             have n1_ := Aside0.mk (blk_drew BK208.out)
             have n2_ := Aside0.mk (below_drew1 HB.out)
             clear HO_3; clear BK208; clear HB; have HO_3 := n0_; have BK208 := n1_; have HB := n2_; clear n0_ n1_ n2_
             have p215 : 0 ≤ (x11_1 : Int) := of_decide_eq_true (by first | (with_reducible assumption) | assumption)
             have q215 : x11_1 < (x3_2.length : Int) := of_decide_eq_true (by first | (with_reducible assumption) | assumption)
             obtain ⟨ad215, e215, hx215_0⟩ := Kd.at_int (Kd.R_reads' HO_3.out).2.2 x11_1 p215 q215
             cases e215
             replace p215 := eq_true p215
             replace q215 := eq_true q215
             refine start_ (n := 10) (S := fun w' => w'.cell? ⟨gb208, 0, none⟩ = some (.int .i64 a0_0) ∧ w'.cell? ⟨gb208, 1, none⟩ = some (.int .i64 a0_1) ∧ w'.cell? (ad215.add (x11_1).toNat) = some (.int .i64 (rd x3_2 x11_1))) (ds := [9]) #[false, false, false, false, false, false, false, false, false, false] (by kernel_rfl) rfl rfl ⟨(blk_cell BK208.out 0).trans rfl, (blk_cell BK208.out 1).trans rfl, hx215_0⟩ (fun hHeld => ?_); refine with_tabW impl_Table_coefficients.tab11 impl_Table_coefficients.bits11 (fun HT_ HW_ => ?_)
             generalize wr.drew = w23 at HO_3 BK208 HB hx215_0 hHeld ⊢
             refine pure_ (i := 0) (N := some 40) (v := ?_) (a' := ?_) #[true, false, false, false, false, false, false, false, false, false] rfl rfl (any_of HT_.out (by kernel_rfl)) (fun _ _ _ h => h) (Or.inl ⟨by rfl, ?_⟩) ?_ ?_; rotate_left
             ·intro w'; go_simp; with_reducible rfl
             rotate_left
             ·simp only [Act.put, sT_, s0_, s1_, i64_w, i32_w]; rfl
             refine pure_ (i := 1) (N := some 41) (v := ?_) (a' := ?_) #[true, true, false, false, false, false, false, false, false, false] rfl rfl (any_of HT_.out (by kernel_rfl)) (fun _ _ _ h => h) (Or.inl ⟨by rfl, ?_⟩) ?_ ?_; rotate_left
             ·intro w'; go_simp; with_reducible rfl
             rotate_left
             ·simp only [Act.put, sT_, s0_, s1_, i64_w, i32_w]; rfl
             refine pure_ (i := 2) (N := some 42) (v := ?_) (a' := ?_) #[true, true, true, false, false, false, false, false, false, false] rfl rfl (any_of HT_.out (by kernel_rfl)) (fun _ _ _ h => h) (Or.inl ⟨by rfl, ?_⟩) ?_ ?_; rotate_left
             ·intro w'; go_simp; with_reducible rfl
             rotate_left
             ·simp only [Act.put, sT_, s0_, s1_, i64_w, i32_w]; rfl
             refine pure_ (i := 5) (N := some 45) (v := ?_) (a' := ?_) #[true, true, true, false, false, true, false, false, false, false] rfl rfl (any_of HT_.out (by kernel_rfl)) (fun _ _ _ h => h) (Or.inl ⟨by rfl, ?_⟩) ?_ ?_; rotate_left
             ·intro w'; go_simp; with_reducible rfl
             rotate_left
             ·simp only [Act.put, sT_, s0_, s1_, i64_w, i32_w]; rfl
             refine take_ (i := 3) (N := some 43) (v := ?_) (a' := ?_) #[true, true, true, true, false, true, false, false, false, false] rfl rfl (take_ofW HT_.out HW_.out (by kernel_rfl)) (fun _ _ _ h => h) (Or.inl ⟨by rfl, ?_⟩) hHeld ?_ ?_
             rotate_left
             ·rintro w' ⟨s0, s1, s2⟩
              go_simp; with_reducible rfl
             rotate_left
             ·simp only [Act.put, sT_, s0_, s1_, i64_w, i32_w]; rfl
             refine take_ (i := 4) (N := some 44) (v := ?_) (a' := ?_) #[true, true, true, true, true, true, false, false, false, false] rfl rfl (take_ofW HT_.out HW_.out (by kernel_rfl)) (fun _ _ _ h => h) (Or.inl ⟨by rfl, ?_⟩) hHeld ?_ ?_
             rotate_left
             ·rintro w' ⟨s0, s1, s2⟩
              go_simp; with_reducible rfl
             rotate_left
             ·simp only [Act.put, sT_, s0_, s1_, i64_w, i32_w]; rfl
             refine one_ (i := 6) (N := some 46) #[true, true, true, true, true, true, true, false, false, false] rfl rfl (one_of HT_.out (by kernel_rfl)) (by decide) (fun K hK => ?_)
             refine goes_ Try.func68 (by kernel_rfl) rfl #[.agg #[.int .i64 a0_0, .int .i64 a0_1], .int .i64 x16_2] (by rfl) rfl rfl (by first | rfl | (simp only [List.map_toArray, List.map_cons, List.map_nil, List.length_drop, List.length_take]; rfl)) ?_
             with_reducible refine (impl_Table_at.calls a0_0 a0_1 x16_2 t216 _ A21.out).mono ?_
             rintro e w24 ⟨rfl, hb⟩
             have HS2_ := (hb.cell (World.block_lt_of_cell? _ _ (hHeld.2.2))).trans (hHeld.2.2)
             refine ⟨_, rfl, ?_⟩
             have n0_ := Aside0.mk (Kd.R_below (by (with_reducible repeat (first | apply Kd.R_alloc | apply Kd.R_drewN | apply Kd.R_drew)); exact HO_3.out) hb)
             have n1_ := Aside0.mk (blk_below (g := gb208) (o := .cells #[.int .i64 a0_0, .int .i64 a0_1] 25 (0, 0)) (by (with_reducible repeat (first | refine blk_drewN ?_ _ | refine blk_drew ?_ | refine blk_alloc ?_ _)); exact BK208.out) hb)
             have n2_ := Aside0.mk (below_step (by repeat (first | (with_reducible first | exact HB.out | apply below_alloc | apply pw_below_drewN | apply below_drew1 | refine below_set ?_ GE208.out) | exact HB.out)) hb)
             clear HO_3; clear BK208; clear HB; have HO_3 := n0_; have BK208 := n1_; have HB := n2_; clear n0_ n1_ n2_; (try clear hb); (try clear hb2); (try clear hk); (try clear hi)
             have p22 : 0 ≤ (x11_1 : Int) := of_decide_eq_true (by first | (with_reducible assumption) | assumption)
             have q22 : (x11_1 : Int) < ((x3_2.length : Int) : Int) := of_decide_eq_true (by first | (with_reducible assumption) | assumption)
             obtain ⟨go22, co22, eo22, gb22, gl22, cl22, HG22⟩ := Kd.R_form HO_3.out (by omega)
             (first | cases eo22 | (injection eo22 with ea_ en_ ec_; (first | subst ea_ | (injection ea_ with ea_; subst ea_)); subst ec_; clear en_))
             have GB22 := Aside0.mk gb22; have GG22 := Aside0.mk HG22; clear gb22 gl22 HG22
             (first | simp only [add_plain] at hx215_0 | skip)
             obtain ⟨hx22_0, hf22_0⟩ := Kd.R_celln 0 HO_3.out (x11_1 : Int) p22 q22
             replace p22 := eq_true p22
             replace q22 := eq_true q22
             have HP25 := Kd.R_putn HO_3.out (x11_1 : Int) (wrap64 ((rd x3_2 x11_1) + t216))
             rw [← Ny217.out] at HP25
             have HQ25 := Aside0.mk HP25; clear HP25
             refine hK.out _ _ ⟨(blk_cell BK208.out 0).trans rfl, (blk_cell BK208.out 1).trans rfl, HS2_⟩ (fun hHeld => ?_)
             clear hK K
             refine norm_ (a' := ?_) ?_ ?_
             rotate_left
             ·show Act.put _ (some 46) _ = _
              simp only [Act.put, sT_, s0_, s1_, i64_w, i32_w]; rfl
             refine pure_ (i := 7) (N := some 47) (v := ?_) (a' := ?_) #[true, true, true, true, true, true, true, true, false, false] rfl rfl (any_of HT_.out (by kernel_rfl)) (fun _ _ _ h => h) (Or.inl ⟨by rfl, ?_⟩) ?_ ?_; rotate_left
             ·intro w'; go_simp; with_reducible rfl
             rotate_left
             ·simp only [Act.put, sT_, s0_, s1_, i64_w, i32_w]; rfl
             refine pure_ (i := 8) (N := some 48) (v := ?_) (a' := ?_) #[true, true, true, true, true, true, true, true, true, false] rfl rfl (any_of HT_.out (by kernel_rfl)) (fun _ _ _ h => h) (Or.inl ⟨by rfl, ?_⟩) ?_ ?_; rotate_left
             ·intro w'; go_simp; with_reducible rfl
             rotate_left
             ·simp only [Act.put, sT_, s0_, s1_, i64_w, i32_w]; rfl
             refine last_ (i := 9) (N := none) #[true, true, true, true, true, true, true, true, true, true] rfl rfl (one_of HT_.out (by kernel_rfl)) (by decide) (fun K hK => ?_)
             refine skip_ (w1 := ?_) (by rfl) rfl ?_ ?_
             rotate_left
             ·go_simp; rfl
             refine hK.out _ _ ?_
             clear hK K
             refine done_ (done_of HT_.out (by kernel_rfl)) ?_
             try go_wp2
             (try simp only [← hl3_2])
             go_roundg k2
             case measure => have := HK1.out; have := HK2.out; omega
             case rel => exact ⟨(y217), (wrap64 (x16_2 + 1)), (by first | rfl | (simp; done) | (simp [*]; done)), H', ⟨by have := HK1.out; have := HK2.out; omega⟩, ⟨by (try simp only [hl3_1]); (try simp only [hl3_2]); (with_reducible repeat (first | apply Kd.R_alloc | apply Kd.R_drewN | apply Kd.R_drew)); exact HQ25.out⟩, ⟨by (try simp only [hl3_1]); (try simp only [hl3_2]); (with_reducible repeat (first | refine blk_drewN ?_ _ | refine blk_drew ?_ | refine blk_alloc ?_ _)); refine blk_far ?_ (by have h_ := Kd.R_ne HO_3.out BK208.out (by decide); intro e_; exact h_ (by rw [e_]; rfl)) _; (with_reducible repeat (first | refine blk_drewN ?_ _ | refine blk_drew ?_ | refine blk_alloc ?_ _)); exact BK208.out⟩, ⟨by repeat (first | (with_reducible first | exact HB.out | apply below_alloc | apply pw_below_drewN | apply below_drew1 | refine below_set ?_ GB22.out | refine below_set ?_ GE208.out) | exact HB.out)⟩⟩
            ·rw [if_neg c20] at H
             exact absurd H (by simp)
           ·rw [if_neg c19] at H
            exact absurd H (by simp)
          ·rw [if_neg c18] at H
           have c18b0 : ((Int.tmod t214 2) == 0) = false := beq_eq_false_iff_ne.mpr c18
           have c18b1 : ((Int.tmod t214 2) != 0) = true := bne_iff_ne.mpr c18
           by_cases c26 : 0 ≤ x11_1
           ·rw [if_pos c26] at H
            have c26b0 : decide (0 ≤ x11_1) = true := decide_eq_true c26
            clear c26
            by_cases c27 : x11_1 < (x3_2.length : Int)
            ·rw [if_pos c27] at H
             have c27b0 : decide (x11_1 < (x3_2.length : Int)) = true := decide_eq_true c27
             clear c27; replace H := Option.bind_eq_some_iff.mp H; obtain ⟨t219, A280, H⟩ := H; (try dsimp only at H); have A28 := Aside0.mk A280; clear A280
             obtain ⟨y220, hy220⟩ : ∃ y_ : List Int, y_ = (x3_2.set (x11_1 : Int).toNat (wrap64 ((rd x3_2 x11_1) - t219))) := ⟨_, rfl⟩
             replace H : (impl_Table_coefficients.l1 k2 y220 x11_1 (y210.length : Int) x11_1 t213 (wrap64 (x16_2 + 1)) a0_0 a0_1) = some r := by first | (rw [hy220]; with_reducible exact H) | (have H2_ := (Option.bind_some _ _).symm.trans H; rw [hy220]; with_reducible exact H2_) | (have H2_ := (Option.bind_some _ _).symm.trans H; with_reducible exact H2_) | with_reducible exact H | (rw [hy220]; exact H) | exact H
             have Ny220 := Aside0.mk hy220; clear hy220
             have H' := Aside0.mk H
             clear H
             try go_wp2_with (first | ((with_reducible refine gate_callee (f := 28) rfl ?_); refine goesL_ (some 37) rfl rfl Try.func28 (by kernel_rfl) rfl #[.int .i64 (Go.bits .xor .i64 x11_1 x16_2)] rfl (by first | rfl | (simp only [List.map_toArray, List.map_cons, List.map_nil, List.length_drop, List.length_take]; rfl)) ?_; (with_reducible refine (impl_ones.calls (Go.bits .xor .i64 x11_1 x16_2) t214 _ A17.out).mono ?_); rintro e w' ⟨rfl, ⟨nd, rfl⟩⟩; refine ⟨_, rfl, ?_⟩; (try (rw [drewN_self wr]; generalize hq_ : World.drewN wr _ = wr; have n0_ : Aside0 (Kd.R (Kd.int .i64) 3 wr w.heap.size (fun _ => True) (.slice Ao10 x3_2.length co10) x3_2) := ⟨by rw [← hq_]; exact (by (with_reducible repeat (first | apply Kd.R_alloc | apply Kd.R_drewN | apply Kd.R_drew)); exact HO_3.out)⟩; have n1_ : Aside0 (wr.heap[gb208]? = some (.cells #[.int .i64 a0_0, .int .i64 a0_1] 25 (0, 0))) := ⟨by rw [← hq_]; exact (by (with_reducible repeat (first | refine blk_drewN ?_ _ | refine blk_drew ?_ | refine blk_alloc ?_ _)); exact BK208.out)⟩; have n2_ : Aside0 (Below w.heap.size w wr) := ⟨by rw [← hq_]; exact (by repeat (first | (with_reducible first | exact HB.out | apply below_alloc | apply pw_below_drewN | apply below_drew1 | refine below_set ?_ GE208.out) | exact HB.out))⟩; clear HO_3 BK208 HB hq_; have HO_3 := n0_; have BK208 := n1_; have HB := n2_; clear n0_ n1_ n2_))))
             have n0_ := Aside0.mk (Kd.R_drew HO_3.out)
             have n1_ := Aside0.mk (blk_drew BK208.out)
             have n2_ := Aside0.mk (below_drew1 HB.out)
             clear HO_3; clear BK208; clear HB; have HO_3 := n0_; have BK208 := n1_; have HB := n2_; clear n0_ n1_ n2_
             have p218 : 0 ≤ (x11_1 : Int) := of_decide_eq_true (by first | (with_reducible assumption) | assumption)
             have q218 : x11_1 < (x3_2.length : Int) := of_decide_eq_true (by first | (with_reducible assumption) | assumption)
             obtain ⟨ad218, e218, hx218_0⟩ := Kd.at_int (Kd.R_reads' HO_3.out).2.2 x11_1 p218 q218
             cases e218
             replace p218 := eq_true p218
             replace q218 := eq_true q218
             refine start_ (n := 10) (S := fun w' => w'.cell? ⟨gb208, 0, none⟩ = some (.int .i64 a0_0) ∧ w'.cell? ⟨gb208, 1, none⟩ = some (.int .i64 a0_1) ∧ w'.cell? (ad218.add (x11_1).toNat) = some (.int .i64 (rd x3_2 x11_1))) (ds := [9]) #[false, false, false, false, false, false, false, false, false, false] (by kernel_rfl) rfl rfl ⟨(blk_cell BK208.out 0).trans rfl, (blk_cell BK208.out 1).trans rfl, hx218_0⟩ (fun hHeld => ?_); refine with_tabW impl_Table_coefficients.tab8 impl_Table_coefficients.bits8 (fun HT_ HW_ => ?_)
             generalize wr.drew = w30 at HO_3 BK208 HB hx218_0 hHeld ⊢
             refine pure_ (i := 0) (N := some 19) (v := ?_) (a' := ?_) #[true, false, false, false, false, false, false, false, false, false] rfl rfl (any_of HT_.out (by kernel_rfl)) (fun _ _ _ h => h) (Or.inl ⟨by rfl, ?_⟩) ?_ ?_; rotate_left
             ·intro w'; go_simp; with_reducible rfl
             rotate_left
             ·simp only [Act.put, sT_, s0_, s1_, i64_w, i32_w]; rfl
             refine pure_ (i := 1) (N := some 20) (v := ?_) (a' := ?_) #[true, true, false, false, false, false, false, false, false, false] rfl rfl (any_of HT_.out (by kernel_rfl)) (fun _ _ _ h => h) (Or.inl ⟨by rfl, ?_⟩) ?_ ?_; rotate_left
             ·intro w'; go_simp; with_reducible rfl
             rotate_left
             ·simp only [Act.put, sT_, s0_, s1_, i64_w, i32_w]; rfl
             refine pure_ (i := 2) (N := some 21) (v := ?_) (a' := ?_) #[true, true, true, false, false, false, false, false, false, false] rfl rfl (any_of HT_.out (by kernel_rfl)) (fun _ _ _ h => h) (Or.inl ⟨by rfl, ?_⟩) ?_ ?_; rotate_left
             ·intro w'; go_simp; with_reducible rfl
             rotate_left
             ·simp only [Act.put, sT_, s0_, s1_, i64_w, i32_w]; rfl
             refine pure_ (i := 5) (N := some 24) (v := ?_) (a' := ?_) #[true, true, true, false, false, true, false, false, false, false] rfl rfl (any_of HT_.out (by kernel_rfl)) (fun _ _ _ h => h) (Or.inl ⟨by rfl, ?_⟩) ?_ ?_; rotate_left
             ·intro w'; go_simp; with_reducible rfl
             rotate_left
             ·simp only [Act.put, sT_, s0_, s1_, i64_w, i32_w]; rfl
             refine take_ (i := 3) (N := some 22) (v := ?_) (a' := ?_) #[true, true, true, true, false, true, false, false, false, false] rfl rfl (take_ofW HT_.out HW_.out (by kernel_rfl)) (fun _ _ _ h => h) (Or.inl ⟨by rfl, ?_⟩) hHeld ?_ ?_
             rotate_left
             ·rintro w' ⟨s0, s1, s2⟩
              go_simp; with_reducible rfl
             rotate_left
             ·simp only [Act.put, sT_, s0_, s1_, i64_w, i32_w]; rfl
             refine take_ (i := 4) (N := some 23) (v := ?_) (a' := ?_) #[true, true, true, true, true, true, false, false, false, false] rfl rfl (take_ofW HT_.out HW_.out (by kernel_rfl)) (fun _ _ _ h => h) (Or.inl ⟨by rfl, ?_⟩) hHeld ?_ ?_
             rotate_left
             ·rintro w' ⟨s0, s1, s2⟩
              go_simp; with_reducible rfl
             rotate_left
             ·simp only [Act.put, sT_, s0_, s1_, i64_w, i32_w]; rfl
             refine one_ (i := 6) (N := some 25) #[true, true, true, true, true, true, true, false, false, false] rfl rfl (one_of HT_.out (by kernel_rfl)) (by decide) (fun K hK => ?_)
             refine goes_ Try.func68 (by kernel_rfl) rfl #[.agg #[.int .i64 a0_0, .int .i64 a0_1], .int .i64 x16_2] (by rfl) rfl rfl (by first | rfl | (simp only [List.map_toArray, List.map_cons, List.map_nil, List.length_drop, List.length_take]; rfl)) ?_
             with_reducible refine (impl_Table_at.calls a0_0 a0_1 x16_2 t219 _ A28.out).mono ?_
             rintro e w31 ⟨rfl, hb⟩
             have HS2_ := (hb.cell (World.block_lt_of_cell? _ _ (hHeld.2.2))).trans (hHeld.2.2)
             refine ⟨_, rfl, ?_⟩
             have n0_ := Aside0.mk (Kd.R_below (by (with_reducible repeat (first | apply Kd.R_alloc | apply Kd.R_drewN | apply Kd.R_drew)); exact HO_3.out) hb)
             have n1_ := Aside0.mk (blk_below (g := gb208) (o := .cells #[.int .i64 a0_0, .int .i64 a0_1] 25 (0, 0)) (by (with_reducible repeat (first | refine blk_drewN ?_ _ | refine blk_drew ?_ | refine blk_alloc ?_ _)); exact BK208.out) hb)
             have n2_ := Aside0.mk (below_step (by repeat (first | (with_reducible first | exact HB.out | apply below_alloc | apply pw_below_drewN | apply below_drew1 | refine below_set ?_ GE208.out) | exact HB.out)) hb)
             clear HO_3; clear BK208; clear HB; have HO_3 := n0_; have BK208 := n1_; have HB := n2_; clear n0_ n1_ n2_; (try clear hb); (try clear hb2); (try clear hk); (try clear hi)
             have p29 : 0 ≤ (x11_1 : Int) := of_decide_eq_true (by first | (with_reducible assumption) | assumption)
             have q29 : (x11_1 : Int) < ((x3_2.length : Int) : Int) := of_decide_eq_true (by first | (with_reducible assumption) | assumption)
             obtain ⟨go29, co29, eo29, gb29, gl29, cl29, HG29⟩ := Kd.R_form HO_3.out (by omega)
             (first | cases eo29 | (injection eo29 with ea_ en_ ec_; (first | subst ea_ | (injection ea_ with ea_; subst ea_)); subst ec_; clear en_))
             have GB29 := Aside0.mk gb29; have GG29 := Aside0.mk HG29; clear gb29 gl29 HG29
             (first | simp only [add_plain] at hx218_0 | skip)
             obtain ⟨hx29_0, hf29_0⟩ := Kd.R_celln 0 HO_3.out (x11_1 : Int) p29 q29
             replace p29 := eq_true p29
             replace q29 := eq_true q29
             have HP32 := Kd.R_putn HO_3.out (x11_1 : Int) (wrap64 ((rd x3_2 x11_1) - t219))
             rw [← Ny220.out] at HP32
             have HQ32 := Aside0.mk HP32; clear HP32
             refine hK.out _ _ ⟨(blk_cell BK208.out 0).trans rfl, (blk_cell BK208.out 1).trans rfl, HS2_⟩ (fun hHeld => ?_)
             clear hK K
             refine norm_ (a' := ?_) ?_ ?_
             rotate_left
             ·show Act.put _ (some 25) _ = _
              simp only [Act.put, sT_, s0_, s1_, i64_w, i32_w]; rfl
             refine pure_ (i := 7) (N := some 26) (v := ?_) (a' := ?_) #[true, true, true, true, true, true, true, true, false, false] rfl rfl (any_of HT_.out (by kernel_rfl)) (fun _ _ _ h => h) (Or.inl ⟨by rfl, ?_⟩) ?_ ?_; rotate_left
             ·intro w'; go_simp; with_reducible rfl
             rotate_left
             ·simp only [Act.put, sT_, s0_, s1_, i64_w, i32_w]; rfl
             refine pure_ (i := 8) (N := some 27) (v := ?_) (a' := ?_) #[true, true, true, true, true, true, true, true, true, false] rfl rfl (any_of HT_.out (by kernel_rfl)) (fun _ _ _ h => h) (Or.inl ⟨by rfl, ?_⟩) ?_ ?_; rotate_left
             ·intro w'; go_simp; with_reducible rfl
             rotate_left
             ·simp only [Act.put, sT_, s0_, s1_, i64_w, i32_w]; rfl
             refine last_ (i := 9) (N := none) #[true, true, true, true, true, true, true, true, true, true] rfl rfl (one_of HT_.out (by kernel_rfl)) (by decide) (fun K hK => ?_)
             refine skip_ (w1 := ?_) (by rfl) rfl ?_ ?_
             rotate_left
             ·go_simp; rfl
             refine hK.out _ _ ?_
             clear hK K
             refine done_ (done_of HT_.out (by kernel_rfl)) ?_
             try go_wp2
             (try simp only [← hl3_2])
             go_roundg k2
             case measure => have := HK1.out; have := HK2.out; omega
             case rel => exact ⟨(y220), (wrap64 (x16_2 + 1)), (by first | rfl | (simp; done) | (simp [*]; done)), H', ⟨by have := HK1.out; have := HK2.out; omega⟩, ⟨by (try simp only [hl3_1]); (try simp only [hl3_2]); (with_reducible repeat (first | apply Kd.R_alloc | apply Kd.R_drewN | apply Kd.R_drew)); exact HQ32.out⟩, ⟨by (try simp only [hl3_1]); (try simp only [hl3_2]); (with_reducible repeat (first | refine blk_drewN ?_ _ | refine blk_drew ?_ | refine blk_alloc ?_ _)); refine blk_far ?_ (by have h_ := Kd.R_ne HO_3.out BK208.out (by decide); intro e_; exact h_ (by rw [e_]; rfl)) _; (with_reducible repeat (first | refine blk_drewN ?_ _ | refine blk_drew ?_ | refine blk_alloc ?_ _)); exact BK208.out⟩, ⟨by repeat (first | (with_reducible first | exact HB.out | apply below_alloc | apply pw_below_drewN | apply below_drew1 | refine below_set ?_ GB29.out | refine below_set ?_ GE208.out) | exact HB.out)⟩⟩
            ·rw [if_neg c27] at H
             exact absurd H (by simp)
           ·rw [if_neg c26] at H
            exact absurd H (by simp)
         ·rw [if_neg c16] at H
          have c16b0 : ((Go.bits .andNot .i64 x16_2 x11_1) == 0) = false := beq_eq_false_iff_ne.mpr c16
          have c16b1 : ((Go.bits .andNot .i64 x16_2 x11_1) != 0) = true := bne_iff_ne.mpr c16
          have H' := Aside0.mk H
          clear H
          go_wp2
          (try simp only [← hl3_2])
          go_roundg k2
          case measure => have := HK1.out; have := HK2.out; omega
          case rel => exact ⟨(x3_2), (wrap64 (x16_2 + 1)), (by first | rfl | (simp; done) | (simp [*]; done)), H', ⟨by have := HK1.out; have := HK2.out; omega⟩, ⟨by (try simp only [hl3_1]); (try simp only [hl3_2]); (with_reducible repeat (first | apply Kd.R_alloc | apply Kd.R_drewN | apply Kd.R_drew)); exact HO_3.out⟩, ⟨by (try simp only [hl3_1]); (try simp only [hl3_2]); (with_reducible repeat (first | refine blk_drewN ?_ _ | refine blk_drew ?_ | refine blk_alloc ?_ _)); exact BK208.out⟩, ⟨by repeat (first | (with_reducible first | exact HB.out | apply below_alloc | apply pw_below_drewN | apply below_drew1 | refine below_set ?_ GE208.out) | exact HB.out)⟩⟩
        ·rw [if_neg c15] at H
         have c15b0 : decide (x16_2 < t213) = false := decide_eq_false c15
         clear c15
         have H' := Aside0.mk H
         clear H
         go_wp2
         (try simp only [← hl3_1, ← hl3_2])
         go_roundg k2
         case measure => have := HK1.out; have := HK2.out; omega
         case rel => exact ⟨(x3_2), (wrap64 (x11_1 + 1)), (by first | rfl | (simp; done) | (simp [*]; done)), H', ⟨by have := HK1.out; have := HK2.out; omega⟩, ⟨by (try simp only [hl3_1]); (try simp only [hl3_2]); (with_reducible repeat (first | apply Kd.R_alloc | apply Kd.R_drewN | apply Kd.R_drew)); exact HO_3.out⟩, ⟨by (try simp only [hl3_1]); (try simp only [hl3_2]); (with_reducible repeat (first | refine blk_drewN ?_ _ | refine blk_drew ?_ | refine blk_alloc ?_ _)); exact BK208.out⟩, ⟨by repeat (first | (with_reducible first | exact HB.out | apply below_alloc | apply pw_below_drewN | apply below_drew1 | refine below_set ?_ GE208.out) | exact HB.out)⟩⟩
     ·rw [if_neg c11] at H
      have c11b0 : decide (x11_1 < (y210.length : Int)) = false := decide_eq_false c11
      (try have c11b9_0 : decide (x11_1 < (x3_1.length : Int)) = false := by rw [← hl3_1]; exact decide_eq_false c11)
      (try have c11b9_1 : decide (x11_1 < (x3_2.length : Int)) = false := by rw [← hl3_2]; exact decide_eq_false c11)
      clear c11
      obtain rfl := Option.some.inj H
      go_wp2
      go_ret
      exact ⟨_, by first | rfl | (simp [errW_none, errW_some] <;> rfl) | (simp [*, errW_none, errW_some] <;> rfl), by (with_reducible repeat (first | apply Kd.R_alloc | apply Kd.R_drewN | apply Kd.R_drew)); exact HO_3.out, by repeat (first | (with_reducible first | exact HB.out | apply below_alloc | apply pw_below_drewN | apply below_drew1 | refine below_set ?_ GE208.out) | exact HB.out)⟩
  ·rw [if_neg c4] at H
   exact absurd H (by simp)
 ·rw [if_neg c3] at H
  exact absurd H (by simp)
end Go.Proofs.Ythekbiofjhkecaa.Print
namespace Go.Proofs.Ythekbiofjhkecaa.Print
open Go.RowKit Go.Proofs.YthekbiofjhkecaaW.PrintWords Go.Proofs.YthekbiofjhkecaaW.PrintLast Go.Proofs.YthekbiofjhkecaaW.PrintMore
attribute [local go_sem] max2_int min2_int max_two min_two max_three min_three max_four min_four   -- for this text's walks alone
set_option linter.unusedVariables false
set_option linter.unusedSimpArgs false
/-! ### impl_degree: function 56 -/
open Go.Proofs.Ythekbiofjhkecaa.M
/-- the most ones of a number below m that is such, or -1 -/
def impl_degree.most (p : Nat → Bool) : Nat → Int
 | 0 => -1
 | m + 1 => if p m = true then mx (impl_degree.most p m) ((pc m : Nat) : Int) else impl_degree.most p m
set_option maxHeartbeats 4000000 in
set_option maxRecDepth 100000 in
theorem impl_degree.call (n M : Nat) (hn : n ≤ 5) (hM : M = 2 ^ n) (g : Nat) (lb : Array Value) (eg : ∀ args w, (callFunc g args).run Try.prog w = .ok (.enter g args) w) (p : Nat → Bool) (w : World)
  (hp : ∀ (x : Nat) (W : World), x < M → Below w.heap.size w W → Calls Try.prog g (#[.int .i64 (x : Int)] ++ lb) W fun e W' => e = .returned (.bool (p x)) ∧ Below W.heap.size W W') :
  Calls Try.prog 56 #[.int .i64 (n : Int), .func (.func g) #[] lb] w fun e w' => e = .returned (.int .i64 (impl_degree.most p M)) ∧ Below w.heap.size w w' := by
 have h32 := pow_le_5 hn
 have HP := Aside0.mk hp
 have e10 : wrap64 ((2 : Int) ^ n) = (M : Int) := by
  have : ((2 : Int) ^ n) = ((2 ^ n : Nat) : Int) := by push_cast; rfl
  rw [this, ← hM]
  exact w64 (by omega) (by omega)
 have hM32 : M ≤ 32 := by omega
 clear hp hM h32
 go_enter Try.func56, Try.ntmps56
 go_wp2
 rw [e10]
 clear e10
 go_loopg [5, 9] M (fun gg v5 v9 wr => ∃ x : Nat, x ≤ M ∧ M - x ≤ gg ∧ v5 = .int .i64 (impl_degree.most p x) ∧ v9 = .int .i64 (x : Int) ∧ Aside0 (Below w.heap.size w wr))
 case atStart => exact ⟨0, Nat.zero_le _, by omega, rfl, rfl, ⟨Below.refl _ _⟩⟩
 case round =>
  obtain ⟨x, hx, hg, rfl, rfl, HB⟩ := hrel
  by_cases hlt : x < M
  ·have hltz : (x : Int) < (M : Int) := by omega
   have hcall := HP.out x wr hlt HB.out
   have hnext : impl_degree.most p (x + 1) = if p x = true then mx (impl_degree.most p x) ((pc x : Nat) : Int) else impl_degree.most p x := rfl
   have HO := Aside0.mk (impl_cubes.ones_pc (w := x) (by omega))
   generalize impl_degree.most p x = s at *
   generalize pc x = c at *
   generalize p x = q at *
   have HC := Aside0.mk hcall; have HN := Aside0.mk hnext; clear hcall hnext
   cases q with
   | false =>
    go_wp2_with (first | (go_at_fn g; refine HC.out.mono ?_; rintro e w1 ⟨rfl, hb⟩; have B1 := Aside0.mk (HB.out.trans (hb.mono HB.out.size)); clear hb))
    go_roundg (M - (x + 1))
    case measure => omega
    case rel => exact ⟨x + 1, by omega, by omega, by rw [HN.out, if_neg (by simp)], by go_num, B1⟩
   | true =>
    go_wp2_with (first | (go_at_fn g; refine HC.out.mono ?_; rintro e w1 ⟨rfl, hb⟩; have B1 := Aside0.mk (HB.out.trans (hb.mono HB.out.size)); clear hb) | (go_at_call 28; (with_reducible refine (impl_ones.calls _ _ _ HO.out).mono ?_); rintro e w' ⟨rfl, ⟨nd2, rfl⟩⟩))
    all_goals
     go_roundg (M - (x + 1))
     case measure => omega
     case rel =>
      refine ⟨x + 1, by omega, by omega, ?_, by go_num, ⟨pw_below_drewN B1.out _⟩⟩
      rw [HN.out, if_pos (by simp)]
      unfold mx
      first
      | (rw [if_pos (by omega)]; done)
      | (rw [if_neg (by omega)]; done)
      | (split <;> first | rfl | (congr 1; omega))
  ·obtain rfl : x = M := by omega
   go_wp2
   go_ret
   exact ⟨rfl, HB.out⟩
end Go.Proofs.Ythekbiofjhkecaa.Print
namespace Go.Proofs.Ythekbiofjhkecaa.Print
open Go.RowKit Go.Proofs.YthekbiofjhkecaaW.PrintWords Go.Proofs.YthekbiofjhkecaaW.PrintLast Go.Proofs.YthekbiofjhkecaaW.PrintMore
attribute [local go_sem] max2_int min2_int max_two min_two max_three min_three max_four min_four   -- for this text's walks alone
set_option linter.unusedVariables false
set_option linter.unusedSimpArgs false
/-! ### impl_RealDegree: function 33 -/
open Go.Proofs.Ythekbiofjhkecaa.M
def impl_RealDegree.f (k : Nat) (a0_0 : Int) (a0_1 : Int) : Option (Int) :=
 (impl_IsTable.f a0_0 a0_1).bind fun q => if q = true then ((impl_Table_coefficients.f k a0_0 a0_1).bind fun c => if 0 ≤ a0_0 ∧ a0_0 ≤ 5 ∧ c.length = 2 ^ a0_0.toNat then some (impl_degree.most (fun m => c.getD m 0 != 0) (2 ^ a0_0.toNat)) else none) else some (-2)
theorem impl_RealDegree.clo (B : Nat) (A : Option Addr) (cap : Nat) (l : List Int) (x : Nat) (hx : x < l.length) (w : World) (hB : w.cell? ⟨B, 0, none⟩ = some (.slice A l.length cap)) (hr : Kd.C (Kd.int .i64) w A l.length l) :
  Calls Try.prog 57 #[.int .i64 (x : Int), .pointer (some ⟨B, 0, none⟩)] w fun e w' => e = .returned (.bool (l.getD x 0 != 0)) ∧ Below w.heap.size w w' := by
 obtain ⟨ad, ea, c0⟩ := Kd.at_int hr (x : Int) (by omega) (by omega)
 subst ea
 rw [rd_nat] at c0
 have hxi : (x : Int) < (l.length : Int) := by omega
 have c1 : w.cell? (ad.add x) = some (.int .i64 (l.getD x 0)) := c0
 generalize l.getD x 0 = y at *
 clear hr hx
 go_enter Try.func57, Try.ntmps57
 go_wp2_with (fail)
 go_ret
 exact ⟨rfl, by repeat (first | exact Below.refl _ _ | apply pw_below_drewN)⟩
set_option maxHeartbeats 4000000 in
set_option maxRecDepth 100000 in
theorem impl_RealDegree.good (k n : Nat) (b : Int) (c : List Int) (hn : n ≤ 5) (hq : impl_IsTable.f (n : Int) b = some true) (hcf : impl_Table_coefficients.f k (n : Int) b = some c) (hlen : c.length = 2 ^ n) (w : World) :
  Calls Try.prog 33 #[.agg #[.int .i64 (n : Int), .int .i64 b]] w fun e w' => e = .returned (.int .i64 (impl_degree.most (fun m => c.getD m 0 != 0) (2 ^ n))) ∧ Below w.heap.size w w' := by
 have huT := Try.underlying25
 obtain ⟨W0, hW0⟩ : ∃ W0, W0 = w.alloc (.cells #[.int .i64 (n : Int), .int .i64 b] 25) := ⟨_, rfl⟩
 have HB : Below w.heap.size w W0 := by rw [hW0]; exact (Below.refl _ _).alloc (Nat.le_refl _) _
 have c0 : W0.heap[w.heap.size]? = some (.cells #[.int .i64 (n : Int), .int .i64 b] 25 (0, 0)) := by rw [hW0]; exact blk_new w _
 have CT : Aside0 (∀ W, Calls Try.prog 43 #[.agg #[.int .i64 (n : Int), .int .i64 b]] W fun e w' => e = .returned (.bool true) ∧ Below W.heap.size W w') := ⟨fun W => impl_IsTable.calls (n : Int) b true W hq⟩
 have CC : Aside0 (∀ W, Calls Try.prog 55 #[.agg #[.int .i64 (n : Int), .int .i64 b]] W fun e w' => ∃ v0_ : Value, e = .returned v0_ ∧ Kd.R (Kd.int .i64) 3 w' W.heap.size (fun _ => True) v0_ c ∧ Below W.heap.size W w') := ⟨fun W => impl_Table_coefficients.calls k (n : Int) b c W hcf⟩
 have CD : Aside0 (∀ B A cap W, B < W.heap.size → W.cell? ⟨B, 0, none⟩ = some (.slice A c.length cap) → Kd.C (Kd.int .i64) W A c.length c → Calls Try.prog 56 #[.int .i64 (n : Int), .func (.func 57) #[] #[.pointer (some ⟨B, 0, none⟩)]] W fun e w' => e = .returned (.int .i64 (impl_degree.most (fun m => c.getD m 0 != 0) (2 ^ n))) ∧ Below W.heap.size W w') := ⟨fun B A cap W hB hc hr =>
  impl_degree.call n (2 ^ n) hn rfl 57 #[.pointer (some ⟨B, 0, none⟩)] (enters_of Try.func57 (by kernel_rfl) rfl) (fun m => c.getD m 0 != 0) W (fun x W' hx hb => impl_RealDegree.clo B A cap c x (by omega) W' ((hb.cell (p := ⟨B, 0, none⟩) hB).trans hc) (Kd.C_below hr hb))⟩
 have HBB := Aside0.mk HB; have CW := Aside0.mk hW0; have C0 := Aside0.mk c0; clear HB hW0 c0 hq hcf hlen hn
 generalize impl_degree.most (fun m => c.getD m 0 != 0) (2 ^ n) = R at *
 go_enter Try.func33, Try.ntmps33
 go_wp2_with (first | (go_at_call 43; rw [← CW.out]; (with_reducible refine (CT.out _).mono ?_); rintro e w1 ⟨rfl, hb⟩; have B1 := Aside0.mk hb; clear hb; have p0 := blk_cell (blk_below C0.out B1.out) 0; have p1 := blk_cell (blk_below C0.out B1.out) 1) | (go_at_call 55; (with_reducible refine (CC.out _).mono ?_); rintro e w2 ⟨v2, rfl, hr, hb⟩; have B2 := Aside0.mk (B1.out.trans (hb.mono B1.out.size)); have HR := Aside0.mk hr; clear hb hr; obtain ⟨Ao, co, rfl⟩ := Kd.R_slice HR.out; have q0 := blk_cell (blk_alloc (blk_below C0.out B2.out) (.cells #[.slice Ao c.length co] 28 (0, 0))) 0) | (go_at_call 56; (with_reducible refine (CD.out w2.heap.size Ao co _ (by (try rw [World.alloc_eq]); simp) ((blk_cell (blk_new w2 (.cells #[.slice Ao c.length co] 28 (0, 0))) 0).trans rfl) (Kd.C_below (Kd.R_reads' HR.out).2.2 ((Below.refl _ _).alloc (Nat.le_refl _) _))).mono ?_); rintro e w3 ⟨rfl, hb⟩; have B3 := Aside0.mk hb; clear hb))
 go_ret
 have B4 := B2.out.alloc B2.out.size (.cells #[.slice Ao c.length co] 28 (0, 0))
 have B5 := B4.trans (B3.out.mono B4.size)
 exact ⟨rfl, HBB.out.trans (B5.mono HBB.out.size)⟩
theorem impl_RealDegree.bad (a b : Int) (hq : impl_IsTable.f a b = some false) (w : World) :
  Calls Try.prog 33 #[.agg #[.int .i64 a, .int .i64 b]] w fun e w' => e = .returned (.int .i64 (-2)) ∧ Below w.heap.size w w' := by
 have huT := Try.underlying25
 have CT : Aside0 (∀ W, Calls Try.prog 43 #[.agg #[.int .i64 a, .int .i64 b]] W fun e w' => e = .returned (.bool false) ∧ Below W.heap.size W w') := ⟨fun W => impl_IsTable.calls a b false W hq⟩
 have HB : Aside0 (Below w.heap.size w (w.alloc (.cells #[.int .i64 a, .int .i64 b] 25))) := ⟨(Below.refl _ _).alloc (Nat.le_refl _) _⟩
 clear hq
 go_enter Try.func33, Try.ntmps33
 go_wp2_with (first | (go_at_call 43; (with_reducible refine (CT.out _).mono ?_); rintro e w1 ⟨rfl, hb⟩))
 go_ret
 exact ⟨rfl, HB.out.trans (hb.mono HB.out.size)⟩
theorem impl_RealDegree.calls (k : Nat) (a0_0 : Int) (a0_1 : Int) (r : Int) (w : World) (h : impl_RealDegree.f k a0_0 a0_1 = some r) :
  Calls Try.prog 33 #[.agg #[.int .i64 a0_0, .int .i64 a0_1]] w fun e w' => e = .returned (.int .i64 r) ∧ Below w.heap.size w w' := by
 unfold impl_RealDegree.f at h
 obtain ⟨q, hq, h⟩ := Option.bind_eq_some_iff.mp h
 cases q with
 | false =>
  rw [if_neg (by decide)] at h
  rw [← Option.some.inj h]
  exact impl_RealDegree.bad a0_0 a0_1 hq w
 | true =>
  rw [if_pos rfl] at h
  obtain ⟨c, hc, h⟩ := Option.bind_eq_some_iff.mp h
  by_cases hd : 0 ≤ a0_0 ∧ a0_0 ≤ 5 ∧ c.length = 2 ^ a0_0.toNat
  ·rw [if_pos hd] at h
   obtain ⟨d1, d2, d3⟩ := hd
   obtain ⟨n, rfl⟩ := nat_of d1
   rw [Int.toNat_natCast] at d3 h
   rw [← Option.some.inj h]
   exact impl_RealDegree.good k n a0_1 c (by omega) hq hc d3 w
  ·rw [if_neg hd] at h; cases h
end Go.Proofs.Ythekbiofjhkecaa.Print
namespace Go.Proofs.Ythekbiofjhkecaa.Print
open Go.RowKit Go.Proofs.YthekbiofjhkecaaW.PrintWords Go.Proofs.YthekbiofjhkecaaW.PrintLast Go.Proofs.YthekbiofjhkecaaW.PrintMore
attribute [local go_sem] max2_int min2_int max_two min_two max_three min_three max_four min_four   -- for this text's walks alone
set_option linter.unusedVariables false
set_option linter.unusedSimpArgs false
/-! ### impl_AverageDegree: function 9 -/
open Go.Proofs.Ythekbiofjhkecaa.M
/-- the degree of a word, 0 for constants -/
def impl_AverageDegree.h (q k x : Nat) : Int := mx ((impl_RealDegree.f q (k : Int) (x : Int)).getD 0) 0
def impl_AverageDegree.f (q : Nat) (a0_0 : Int) (a0_1 : Int) (a1 : Int) : Option (Int) :=
 (impl_isSmall.f a0_0 a0_1 4).bind fun t => if t = true ∧ 0 ≤ a1 ∧ a1 ≤ a0_0 then (if (0 ≤ a0_0 ∧ a0_0 ≤ 4 ∧ 0 ≤ a0_1 ∧ a0_1 < ((2 ^ 2 ^ a0_0.toNat : Nat) : Int)) ∧ ∀ x : Nat, x < 2 ^ 2 ^ a1.toNat → (impl_RealDegree.f q (a1.toNat : Int) (x : Int)).isSome = true then some (impl_sumOverCubes.sum (impl_AverageDegree.h q a1.toNat) (cutAll a0_0.toNat a0_1.toNat a1.toNat (2 ^ a0_0.toNat))) else none) else some (-1)
set_option maxRecDepth 100000 in
theorem impl_AverageDegree.clo (q k x : Nat) (d : Int) (hd : impl_RealDegree.f q (k : Int) (x : Int) = some d) (w : World) :
  Calls Try.prog 32 #[.agg #[.int .i64 (k : Int), .int .i64 (x : Int)]] w fun e w' => e = .returned (.int .i64 (mx d 0)) ∧ Below w.heap.size w w' := by
 have huT := Try.underlying25
 have HS : Aside0 (∀ W, Calls Try.prog 33 #[.agg #[.int .i64 (k : Int), .int .i64 (x : Int)]] W fun e w' => e = .returned (.int .i64 d) ∧ Below W.heap.size W w') := ⟨fun W => impl_RealDegree.calls q (k : Int) (x : Int) d W hd⟩
 have HB : Aside0 (Below w.heap.size w (w.alloc (.cells #[.int .i64 (k : Int), .int .i64 (x : Int)] 25))) := ⟨(Below.refl _ _).alloc (Nat.le_refl _) _⟩
 clear hd
 go_enter Try.func32, Try.ntmps32
 go_wp2_with (first | (go_at_call 33; (with_reducible refine (HS.out _).mono ?_); rintro e w1 ⟨rfl, hb⟩))
 all_goals
  go_ret
  refine ⟨?_, HB.out.trans (hb.mono HB.out.size)⟩
  unfold mx
  first
  | rfl
  | (rw [if_pos (by omega)]; done)
  | (rw [if_neg (by omega)]; done)
  | (split <;> first | rfl | (congr 1; omega))
theorem impl_AverageDegree.walk (a b k r : Int) (w : World) (hc : ∀ W, Calls Try.prog 29 #[.agg #[.int .i64 a, .int .i64 b], .int .i64 k, .func (.func 32) #[] #[]] W fun e w' => e = .returned (.int .i64 r) ∧ Below W.heap.size W w') :
  Calls Try.prog 9 #[.agg #[.int .i64 a, .int .i64 b], .int .i64 k] w fun e w' => e = .returned (.int .i64 r) ∧ Below w.heap.size w w' := by
 have huT := Try.underlying25
 have HC := Aside0.mk hc
 have HB : Aside0 (Below w.heap.size w (w.alloc (.cells #[.int .i64 a, .int .i64 b] 25))) := ⟨(Below.refl _ _).alloc (Nat.le_refl _) _⟩
 clear hc
 go_enter Try.func9, Try.ntmps9
 go_wp2_with (first | (go_at_call 29; (with_reducible refine (HC.out _).mono ?_); rintro e w1 ⟨rfl, hb⟩))
 go_ret
 exact ⟨rfl, HB.out.trans (hb.mono HB.out.size)⟩
theorem impl_AverageDegree.calls (q : Nat) (a0_0 : Int) (a0_1 : Int) (a1 : Int) (r : Int) (w : World) (h : impl_AverageDegree.f q a0_0 a0_1 a1 = some r) :
  Calls Try.prog 9 #[.agg #[.int .i64 a0_0, .int .i64 a0_1], .int .i64 a1] w fun e w' => e = .returned (.int .i64 r) ∧ Below w.heap.size w w' := by
 unfold impl_AverageDegree.f at h
 obtain ⟨t, ht, h⟩ := Option.bind_eq_some_iff.mp h
 refine impl_AverageDegree.walk a0_0 a0_1 a1 r w (fun W => ?_)
 by_cases hc : t = true ∧ 0 ≤ a1 ∧ a1 ≤ a0_0
 ·rw [if_pos hc] at h
  obtain ⟨rfl, h1, h2⟩ := hc
  by_cases hd : (0 ≤ a0_0 ∧ a0_0 ≤ 4 ∧ 0 ≤ a0_1 ∧ a0_1 < ((2 ^ 2 ^ a0_0.toNat : Nat) : Int)) ∧ ∀ x : Nat, x < 2 ^ 2 ^ a1.toNat → (impl_RealDegree.f q (a1.toNat : Int) (x : Int)).isSome = true
  ·rw [if_pos hd] at h
   obtain ⟨⟨d1, d2, d3, d4⟩, d5⟩ := hd
   obtain ⟨n, rfl⟩ := nat_of d1
   obtain ⟨v, rfl⟩ := nat_of d3
   obtain ⟨k, rfl⟩ := nat_of h1
   simp only [Int.toNat_natCast] at h d4 d5
   rw [← Option.some.inj h]
   exact impl_sumOverCubes.good n v k (2 ^ n) (by omega) rfl (by exact_mod_cast d4) (by omega) ht 32 #[] (enters_of Try.func32 (by kernel_rfl) rfl) (impl_AverageDegree.h q k) W (fun x W' hx _ => by
    obtain ⟨d, hd⟩ := Option.isSome_iff_exists.mp (d5 x hx)
    have e : impl_AverageDegree.h q k x = mx d 0 := by unfold impl_AverageDegree.h; rw [hd]; rfl
    rw [e]
    exact impl_AverageDegree.clo q k x d hd W')
  ·rw [if_neg hd] at h; cases h
 ·rw [if_neg hc] at h
  rw [← Option.some.inj h]
  exact impl_sumOverCubes.bad a0_0 a0_1 a1 t ht (fun e => by
   subst e
   by_cases h1 : a1 < 0
   ·exact .inl h1
   ·exact .inr (Classical.byContradiction fun h2 => hc ⟨rfl, by omega, by omega⟩)) 32 #[] W
end Go.Proofs.Ythekbiofjhkecaa.Print
