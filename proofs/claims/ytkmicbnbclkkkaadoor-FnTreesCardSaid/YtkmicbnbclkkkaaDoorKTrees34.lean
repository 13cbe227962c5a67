/- Several texts of this repo's programs in one: plain lemmas, or functions of the given program as plain Lean functions with proofs that their calls compute them. -/
import Derived.Test.YtkmicbnbclkkkaaDoorKTrees2
import Derived.Test.YtkmicbnbclkkkaaDoorKTrees16
import Derived.Test.YtkmicbnbclkkkaaDoorKTrees31
import Derived.Test.YtkmicbnbclkkkaaDoorKTrees33
import Derived.Test.YtkmicbnbclkkkaaDoorM14
namespace Go.Proofs.YtkmicbnbclkkkaaDoor.Print
open Go.RowKit Go.Proofs.YtkmicbnbclkkkaaDoorW.PrintWords Go.Proofs.YtkmicbnbclkkkaaDoorW.PrintLast Go.Proofs.YtkmicbnbclkkkaaDoorW.PrintMore
attribute [local go_sem] max2_int min2_int max_two min_two max_three min_three max_four min_four   -- for this text's walks alone
set_option linter.unusedVariables false
set_option linter.unusedSimpArgs false
set_option maxHeartbeats 8000000
set_option maxRecDepth 100000
attribute [local go_sem high] eqA25
/-! ### spec_QueriesOf: function 22 -/
def spec_QueriesOf.f (k : Nat) (a0 : ByteArray) (a1 : Int) : Option (Int) := (spec_IsTree.f k a0).bind fun t363 => (if t363 = true then ((spec_l1In.f a1 0 31).bind fun t364 => (if t364 = true then ((spec_l7Run.f k a0 a1).bind fun bt365 => (some bt365.2)) else (some (-1)))) else (some (-1)))
theorem spec_QueriesOf.calls (k : Nat) (a0 : ByteArray) (a1 : Int) (r : Int) (w : World) (h : spec_QueriesOf.f k a0 a1 = some r) :
  Calls Tryd.prog 22 #[.string a0, .int .i64 a1] w fun e w' => e = .returned (.int .i64 r) ∧ Drawn0 w w' := by
 have H : ((spec_IsTree.f k a0).bind fun t363 => (if t363 = true then ((spec_l1In.f a1 0 31).bind fun t364 => (if t364 = true then ((spec_l7Run.f k a0 a1).bind fun bt365 => (some bt365.2)) else (some (-1)))) else (some (-1)))) = some r := h
 clear h; replace H := Option.bind_eq_some_iff.mp H; obtain ⟨t363, A30, H⟩ := H; (try dsimp only at H); have A3 := Aside0.mk A30; clear A30
 by_cases c4 : t363 = true
 ·subst c4
  have H1 : ((spec_l1In.f a1 0 31).bind fun t364 => (if t364 = true then ((spec_l7Run.f k a0 a1).bind fun bt365 => (some bt365.2)) else (some (-1)))) = some r := by rw [if_pos rfl] at H; exact H
  clear H; have H := H1; clear H1; replace H := Option.bind_eq_some_iff.mp H; obtain ⟨t364, A50, H⟩ := H; (try dsimp only at H); have A5 := Aside0.mk A50; clear A50
  by_cases c6 : t364 = true
  ·subst c6
   have H1 : ((spec_l7Run.f k a0 a1).bind fun bt365 => (some bt365.2)) = some r := by rw [if_pos rfl] at H; exact H
   clear H; have H := H1; clear H1; replace H := Option.bind_eq_some_iff.mp H; obtain ⟨⟨t365, t366⟩, A70, H⟩ := H
   replace H : (some t366) = some r := H
   have A7 := Aside0.mk A70; clear A70
   obtain rfl := Option.some.inj H
   go_enter Tryd.func22, Tryd.ntmps22
   go_wp2_with (first | ((with_reducible refine gate_callee (f := 24) rfl ?_); refine goesL_ (some 8) rfl rfl Tryd.func24 (by kernel_rfl) rfl #[.string a0] rfl (by first | rfl | (simp only [List.map_toArray, List.map_cons, List.map_nil, List.length_drop, List.length_take]; rfl)) ?_; (with_reducible refine (spec_IsTree.calls k a0 true _ A3.out).mono ?_); rintro e w' ⟨rfl, ⟨nd, rfl⟩⟩; refine ⟨_, rfl, ?_⟩) | (go_at_call 44; (with_reducible refine (spec_l1In.calls a1 0 31 true _ A5.out).mono ?_); rintro e w' ⟨rfl, ⟨nd, rfl⟩⟩) | ((with_reducible refine gate_callee (f := 45) rfl ?_); refine goesL_ (some 18) rfl rfl Tryd.func45 (by kernel_rfl) rfl #[.string a0, .int .i64 a1] rfl (by first | rfl | (simp only [List.map_toArray, List.map_cons, List.map_nil, List.length_drop, List.length_take]; rfl)) ?_; (with_reducible refine (spec_l7Run.calls k a0 a1 t365 t366 _ A7.out).mono ?_); rintro e w' ⟨rfl, ⟨nd, rfl⟩⟩; refine ⟨_, rfl, ?_⟩))
   go_ret
   exact ⟨by first | rfl | (simp; done) | (simp [*]; done), by repeat (first | exact Drawn0.refl _ | apply Drawn0.step)⟩
  ·replace c6 := Bool.eq_false_iff.mpr c6
   subst c6
   have H1 : (some (-1)) = some r := by rw [if_neg (show ¬ (false = true) by decide)] at H; exact H
   clear H; have H := H1; clear H1
   obtain rfl := Option.some.inj H
   go_enter Tryd.func22, Tryd.ntmps22
   go_wp2_with (first | ((with_reducible refine gate_callee (f := 24) rfl ?_); refine goesL_ (some 8) rfl rfl Tryd.func24 (by kernel_rfl) rfl #[.string a0] rfl (by first | rfl | (simp only [List.map_toArray, List.map_cons, List.map_nil, List.length_drop, List.length_take]; rfl)) ?_; (with_reducible refine (spec_IsTree.calls k a0 true _ A3.out).mono ?_); rintro e w' ⟨rfl, ⟨nd, rfl⟩⟩; refine ⟨_, rfl, ?_⟩) | (go_at_call 44; (with_reducible refine (spec_l1In.calls a1 0 31 false _ A5.out).mono ?_); rintro e w' ⟨rfl, ⟨nd, rfl⟩⟩))
   go_ret
   exact ⟨by first | rfl | (simp; done) | (simp [*]; done), by repeat (first | exact Drawn0.refl _ | apply Drawn0.step)⟩
 ·replace c4 := Bool.eq_false_iff.mpr c4
  subst c4
  have H1 : (some (-1)) = some r := by rw [if_neg (show ¬ (false = true) by decide)] at H; exact H
  clear H; have H := H1; clear H1
  obtain rfl := Option.some.inj H
  go_enter Tryd.func22, Tryd.ntmps22
  go_wp2_with (first | ((with_reducible refine gate_callee (f := 24) rfl ?_); refine goesL_ (some 8) rfl rfl Tryd.func24 (by kernel_rfl) rfl #[.string a0] rfl (by first | rfl | (simp only [List.map_toArray, List.map_cons, List.map_nil, List.length_drop, List.length_take]; rfl)) ?_; (with_reducible refine (spec_IsTree.calls k a0 false _ A3.out).mono ?_); rintro e w' ⟨rfl, ⟨nd, rfl⟩⟩; refine ⟨_, rfl, ?_⟩))
  go_ret
  exact ⟨by first | rfl | (simp; done) | (simp [*]; done), by repeat (first | exact Drawn0.refl _ | apply Drawn0.step)⟩
/-! ### spec_AverageOf: function 23 -/
def spec_AverageOf.l0 : Nat → ByteArray → Int → Int → Int → Option (Int)
 | 0, _, _, _, _ => none
 | k + 1, x0, x1, x7, x8 => if 0 ≤ x1 then (if x8 < (shl .i64 1 x1) then ((spec_QueriesOf.f k x0 x8).bind fun t371 => (spec_AverageOf.l0 k x0 x1 (wrap64 (x7 + t371)) (wrap64 (x8 + 1)))) else (some x7)) else (none)
def spec_AverageOf.f (k : Nat) (a0 : ByteArray) (a1 : Int) : Option (Int) := (spec_TableOfTree.f k a0 a1).bind fun bt367 => (if bt367.2.2 = true then (spec_AverageOf.l0 k a0 a1 0 0) else (some (-1)))
theorem spec_AverageOf.calls (k : Nat) (a0 : ByteArray) (a1 : Int) (r : Int) (w : World) (h : spec_AverageOf.f k a0 a1 = some r) :
  Calls Tryd.prog 23 #[.string a0, .int .i64 a1] w fun e w' => e = .returned (.int .i64 r) ∧ Below w.heap.size w w' := by
 have hu25 := Tryd.underlying25
 have HB := Aside0.mk (Below.refl w.heap.size w)
 have H : ((spec_TableOfTree.f k a0 a1).bind fun bt367 => (if bt367.2.2 = true then (spec_AverageOf.l0 k a0 a1 0 0) else (some (-1)))) = some r := h
 clear h; replace H := Option.bind_eq_some_iff.mp H; obtain ⟨⟨t367, t368, t369⟩, A30, H⟩ := H
 replace H : (if t369 = true then (spec_AverageOf.l0 k a0 a1 0 0) else (some (-1))) = some r := H
 have A3 := Aside0.mk A30; clear A30
 by_cases c4 : t369 = true
 ·subst c4
  have H1 : (spec_AverageOf.l0 k a0 a1 0 0) = some r := by rw [if_pos rfl] at H; exact H
  clear H; have H := H1; clear H1
  have H' := Aside0.mk H
  clear H
  go_enter Tryd.func23, Tryd.ntmps23
  go_wp2_with (first | ((with_reducible refine gate_callee (f := 18) rfl ?_); refine goesL_ (some 12) rfl rfl Tryd.func18 (by kernel_rfl) rfl #[.string a0, .int .i64 a1] rfl (by first | rfl | (simp only [List.map_toArray, List.map_cons, List.map_nil, List.length_drop, List.length_take]; rfl)) ?_; (with_reducible refine (spec_TableOfTree.calls k a0 a1 t367 t368 true _ A3.out).mono ?_); rintro e w5 ⟨rfl, hb⟩; refine ⟨_, rfl, ?_⟩; have n0_ := Aside0.mk (below_step (by repeat (first | (with_reducible first | exact HB.out | apply below_alloc | apply pw_below_drewN | apply below_drew1) | exact HB.out)) hb); clear HB; have HB := n0_; clear n0_; (try clear hb); (try clear hb2); (try clear hk); (try clear hi)) | ((with_reducible refine gate_dst (N := 5) rfl ?_); refine box_event ?hg (N := 5) ?hd (cs := #[.int .i64 0, .int .i64 0]) (t := 25) ?hr ?_; (case hd => rfl); (case hg => rfl); (case hr => first | (go_simp; done) | (go_simp; rfl)); intro gb370 hg w6 hbox hb; have n0_ := Aside0.mk (below_step (by repeat (first | (with_reducible first | exact HB.out | apply below_alloc | apply pw_below_drewN | apply below_drew1) | exact HB.out)) hb); have n1_ := Aside0.mk (hbox); have n2_ := Aside0.mk ((by rw [hg]; exact (below_size (by repeat (first | (with_reducible first | exact HB.out | apply below_alloc | apply pw_below_drewN | apply below_drew1) | exact HB.out))) : w.heap.size ≤ gb370)); have n3_ := Aside0.mk ((by rw [hg]; exact (below_size (by repeat (first | (with_reducible first | exact HB.out | apply below_alloc | apply pw_below_drewN | apply below_drew1) | exact HB.out))) : w.heap.size ≤ gb370)); clear HB; have HB := n0_; have BK370 := n1_; have GW370 := n2_; have GE370 := n3_; clear n0_ n1_ n2_ n3_; clear hb hbox hg; have hcz7_0 : w6.cell? ⟨gb370, 0, none⟩ = some (.int .i64 0) := (blk_cell BK370.out 0).trans rfl; have hcz7_1 : w6.cell? ⟨gb370, 1, none⟩ = some (.int .i64 0) := (blk_cell BK370.out 1).trans rfl; have hfz7_0 := blk_frozen BK370.out 0; have hfz7_1 := blk_frozen BK370.out 1))
  go_loopg [7, 8] k (fun kq v7 v8 w' => ∃ (x7_1 : Int) (x8_1 : Int), v7 = .int .i64 x7_1 ∧ v8 = .int .i64 x8_1 ∧ Aside0 (spec_AverageOf.l0 kq a0 a1 x7_1 x8_1 = some r) ∧ Aside0 (kq ≤ k) ∧ Aside0 (w'.heap[gb370]? = some (.cells #[.int .i64 t367, .int .i64 t368] 25 (0, 0))) ∧ Aside0 (Below w.heap.size w w'))
  case atStart => exact ⟨(0), (0), (by first | rfl | (simp; done) | (simp [*]; done)), (by first | rfl | (simp; done) | (simp [*]; done)), H', ⟨Nat.le_refl _⟩, ⟨by (with_reducible repeat (first | refine blk_drewN ?_ _ | refine blk_drew ?_ | refine blk_alloc ?_ _)); refine blk_put (cs := #[.int .i64 t367, .int .i64 0]) ?_ 1 _ rfl; (with_reducible repeat (first | refine blk_drewN ?_ _ | refine blk_drew ?_ | refine blk_alloc ?_ _)); refine blk_put (cs := #[.int .i64 0, .int .i64 0]) ?_ 0 _ rfl; (with_reducible repeat (first | refine blk_drewN ?_ _ | refine blk_drew ?_ | refine blk_alloc ?_ _)); exact BK370.out⟩, ⟨by repeat (first | (with_reducible first | exact HB.out | apply below_alloc | apply pw_below_drewN | apply below_drew1 | refine below_set ?_ GE370.out) | exact HB.out)⟩⟩
  case round =>
   clear H'; (try clear c1); (try clear c2); (try clear p2); (try clear c4); (try clear hcz7_0); (try clear hcz7_1); (try clear hfz7_0); (try clear hfz7_1); obtain ⟨x7_1, x8_1, rfl, rfl, HA, HK1, BK370, HB⟩ := hrel
   cases gk with
   | zero => exact absurd HA.out (by simp [spec_AverageOf.l0])
   | succ k1 =>
    have H := HA.out
    clear HA
    simp only [spec_AverageOf.l0] at H
    by_cases c8 : 0 ≤ a1
    ·rw [if_pos c8] at H
     have c8b0 := eq_true c8
     have c8b1 : decide (0 ≤ a1) = true := decide_eq_true c8
     clear c8
     obtain ⟨ji9, hji9⟩ : ∃ j_ : Int, (shl .i64 1 a1) = j_ := ⟨_, rfl⟩
     replace H : (if x8_1 < (ji9) then ((spec_QueriesOf.f k1 a0 x8_1).bind fun t371 => (spec_AverageOf.l0 k1 a0 a1 (wrap64 (x7_1 + t371)) (wrap64 (x8_1 + 1)))) else (some x7_1)) = some r := by first | (rw [hji9] at H; exact H) | (simp only [hji9] at H ⊢; exact H)
     have hji9_ : (IntKind.i64.wrap (1 * 2 ^ min a1.toNat 64)) = ji9 := hji9
     have hji9z : a1 ≤ 64 → (IntKind.i64.wrap (1 * 2 ^ a1.toNat)) = ji9 := shl_small hji9
     have hji9u : (IntKind.i64.wrap (2 ^ min a1.toNat 64)) = ji9 := by have h_ := hji9_; rw [Int.one_mul] at h_; exact h_
     have hji9v : a1 ≤ 64 → (IntKind.i64.wrap (2 ^ a1.toNat)) = ji9 := fun hle_ => by have h_ := hji9z hle_; rw [Int.one_mul] at h_; exact h_
     have hji9y : (wrap64 (1 * 2 ^ min a1.toNat 64)) = ji9 := (i64_w _).symm.trans hji9_
     have hji9x : a1 ≤ 64 → (wrap64 (1 * 2 ^ a1.toNat)) = ji9 := fun h_ => (i64_w _).symm.trans (hji9z h_)
     by_cases c10 : x8_1 < (ji9)
     ·rw [if_pos c10] at H
      have c10b0 : decide (x8_1 < (ji9)) = true := decide_eq_true c10
      clear c10; replace H := Option.bind_eq_some_iff.mp H; obtain ⟨t371, A110, H⟩ := H
      replace H : (spec_AverageOf.l0 k1 a0 a1 (wrap64 (x7_1 + t371)) (wrap64 (x8_1 + 1))) = some r := H
      have A11 := Aside0.mk A110; clear A110
      have H' := Aside0.mk H
      clear H
      go_wp2_with (first | ((with_reducible refine gate_callee (f := 22) rfl ?_); refine goesL_ (some 26) rfl rfl Tryd.func22 (by kernel_rfl) rfl #[.string a0, .int .i64 x8_1] rfl (by first | rfl | (simp only [List.map_toArray, List.map_cons, List.map_nil, List.length_drop, List.length_take]; rfl)) ?_; (with_reducible refine (spec_QueriesOf.calls k1 a0 x8_1 t371 _ A11.out).mono ?_); rintro e w' ⟨rfl, ⟨nd, rfl⟩⟩; refine ⟨_, rfl, ?_⟩))
      go_roundg k1
      case measure => have := HK1.out; omega
      case rel => exact ⟨(wrap64 (x7_1 + t371)), (wrap64 (x8_1 + 1)), (by first | rfl | (simp; done) | (simp [*]; done)), (by first | rfl | (simp; done) | (simp [*]; done)), H', ⟨by have := HK1.out; omega⟩, ⟨by (with_reducible repeat (first | refine blk_drewN ?_ _ | refine blk_drew ?_ | refine blk_alloc ?_ _)); exact BK370.out⟩, ⟨by repeat (first | (with_reducible first | exact HB.out | apply below_alloc | apply pw_below_drewN | apply below_drew1 | refine below_set ?_ GE370.out) | exact HB.out)⟩⟩
     ·rw [if_neg c10] at H
      have c10b0 : decide (x8_1 < (ji9)) = false := decide_eq_false c10
      clear c10
      obtain rfl := Option.some.inj H
      go_wp2
      go_ret
      exact ⟨by first | rfl | (simp [errW_none, errW_some] <;> rfl) | (simp only [← hji9]; first | rfl | (simp [errW_none, errW_some] <;> rfl)) | (simp [*, errW_none, errW_some] <;> rfl), by repeat (first | (with_reducible first | exact HB.out | apply below_alloc | apply pw_below_drewN | apply below_drew1 | refine below_set ?_ GE370.out) | exact HB.out)⟩
    ·rw [if_neg c8] at H
     exact absurd H (by simp)
 ·replace c4 := Bool.eq_false_iff.mpr c4
  subst c4
  have H1 : (some (-1)) = some r := by rw [if_neg (show ¬ (false = true) by decide)] at H; exact H
  clear H; have H := H1; clear H1
  obtain rfl := Option.some.inj H
  go_enter Tryd.func23, Tryd.ntmps23
  go_wp2_with (first | ((with_reducible refine gate_callee (f := 18) rfl ?_); refine goesL_ (some 12) rfl rfl Tryd.func18 (by kernel_rfl) rfl #[.string a0, .int .i64 a1] rfl (by first | rfl | (simp only [List.map_toArray, List.map_cons, List.map_nil, List.length_drop, List.length_take]; rfl)) ?_; (with_reducible refine (spec_TableOfTree.calls k a0 a1 t367 t368 false _ A3.out).mono ?_); rintro e w12 ⟨rfl, hb⟩; refine ⟨_, rfl, ?_⟩; have n0_ := Aside0.mk (below_step (by repeat (first | (with_reducible first | exact HB.out | apply below_alloc | apply pw_below_drewN | apply below_drew1) | exact HB.out)) hb); clear HB; have HB := n0_; clear n0_; (try clear hb); (try clear hb2); (try clear hk); (try clear hi)) | ((with_reducible refine gate_dst (N := 5) rfl ?_); refine box_event ?hg (N := 5) ?hd (cs := #[.int .i64 0, .int .i64 0]) (t := 25) ?hr ?_; (case hd => rfl); (case hg => rfl); (case hr => first | (go_simp; done) | (go_simp; rfl)); intro gb370 hg w13 hbox hb; have n0_ := Aside0.mk (below_step (by repeat (first | (with_reducible first | exact HB.out | apply below_alloc | apply pw_below_drewN | apply below_drew1) | exact HB.out)) hb); have n1_ := Aside0.mk (hbox); have n2_ := Aside0.mk ((by rw [hg]; exact (below_size (by repeat (first | (with_reducible first | exact HB.out | apply below_alloc | apply pw_below_drewN | apply below_drew1) | exact HB.out))) : w.heap.size ≤ gb370)); have n3_ := Aside0.mk ((by rw [hg]; exact (below_size (by repeat (first | (with_reducible first | exact HB.out | apply below_alloc | apply pw_below_drewN | apply below_drew1) | exact HB.out))) : w.heap.size ≤ gb370)); clear HB; have HB := n0_; have BK370 := n1_; have GW370 := n2_; have GE370 := n3_; clear n0_ n1_ n2_ n3_; clear hb hbox hg; have hcz14_0 : w13.cell? ⟨gb370, 0, none⟩ = some (.int .i64 0) := (blk_cell BK370.out 0).trans rfl; have hcz14_1 : w13.cell? ⟨gb370, 1, none⟩ = some (.int .i64 0) := (blk_cell BK370.out 1).trans rfl; have hfz14_0 := blk_frozen BK370.out 0; have hfz14_1 := blk_frozen BK370.out 1))
  go_ret
  exact ⟨by first | rfl | (simp [errW_none, errW_some] <;> rfl) | (simp [*, errW_none, errW_some] <;> rfl), by repeat (first | (with_reducible first | exact HB.out | apply below_alloc | apply pw_below_drewN | apply below_drew1 | refine below_set ?_ GE370.out) | exact HB.out)⟩
/-! ### spec_DepthOfTree: function 25 -/
def spec_DepthOfTree.l0 : Nat → ByteArray → Int → Int → Option (Int)
 | 0, _, _, _ => none
 | k + 1, x0, x3, x4 => if x4 < 32 then ((spec_QueriesOf.f k x0 x4).bind fun t373 => (spec_DepthOfTree.l0 k x0 (mx x3 t373) (wrap64 (x4 + 1)))) else (some x3)
def spec_DepthOfTree.f (k : Nat) (a0 : ByteArray) : Option (Int) := (spec_IsTree.f k a0).bind fun t372 => (if t372 = true then (spec_DepthOfTree.l0 k a0 0 0) else (some (-1)))
theorem spec_DepthOfTree.calls (k : Nat) (a0 : ByteArray) (r : Int) (w : World) (h : spec_DepthOfTree.f k a0 = some r) :
  Calls Tryd.prog 25 #[.string a0] w fun e w' => e = .returned (.int .i64 r) ∧ Below w.heap.size w w' := by
 have HB := Aside0.mk (Below.refl w.heap.size w)
 have H : ((spec_IsTree.f k a0).bind fun t372 => (if t372 = true then (spec_DepthOfTree.l0 k a0 0 0) else (some (-1)))) = some r := h
 clear h; replace H := Option.bind_eq_some_iff.mp H; obtain ⟨t372, A20, H⟩ := H
 replace H : (if t372 = true then (spec_DepthOfTree.l0 k a0 0 0) else (some (-1))) = some r := H
 have A2 := Aside0.mk A20; clear A20
 by_cases c3 : t372 = true
 ·subst c3
  have H1 : (spec_DepthOfTree.l0 k a0 0 0) = some r := by rw [if_pos rfl] at H; exact H
  clear H; have H := H1; clear H1
  have H' := Aside0.mk H
  clear H
  go_enter Tryd.func25, Tryd.ntmps25
  go_wp2_with (first | ((with_reducible refine gate_callee (f := 24) rfl ?_); refine goesL_ (some 6) rfl rfl Tryd.func24 (by kernel_rfl) rfl #[.string a0] rfl (by first | rfl | (simp only [List.map_toArray, List.map_cons, List.map_nil, List.length_drop, List.length_take]; rfl)) ?_; (with_reducible refine (spec_IsTree.calls k a0 true _ A2.out).mono ?_); rintro e w' ⟨rfl, ⟨nd, rfl⟩⟩; refine ⟨_, rfl, ?_⟩))
  go_loopg [3, 4] k (fun kq v3 v4 w' => ∃ (x3_1 : Int) (x4_1 : Int), v3 = .int .i64 x3_1 ∧ v4 = .int .i64 x4_1 ∧ Aside0 (spec_DepthOfTree.l0 kq a0 x3_1 x4_1 = some r) ∧ Aside0 (kq ≤ k) ∧ Aside0 (Below w.heap.size w w'))
  case atStart => exact ⟨(0), (0), (by first | rfl | (simp; done) | (simp [*]; done)), (by first | rfl | (simp; done) | (simp [*]; done)), H', ⟨Nat.le_refl _⟩, ⟨by repeat (first | (with_reducible first | exact HB.out | apply below_alloc | apply pw_below_drewN | apply below_drew1) | exact HB.out)⟩⟩
  case round =>
   clear H'; (try clear c2); (try clear p2); (try clear c3); obtain ⟨x3_1, x4_1, rfl, rfl, HA, HK1, HB⟩ := hrel
   cases gk with
   | zero => exact absurd HA.out (by simp [spec_DepthOfTree.l0])
   | succ k1 =>
    have H := HA.out
    clear HA
    simp only [spec_DepthOfTree.l0] at H
    by_cases c4 : x4_1 < 32
    ·rw [if_pos c4] at H
     have c4b0 : decide (x4_1 < 32) = true := decide_eq_true c4
     clear c4; replace H := Option.bind_eq_some_iff.mp H; obtain ⟨t373, A50, H⟩ := H
     replace H : (spec_DepthOfTree.l0 k1 a0 (mx x3_1 t373) (wrap64 (x4_1 + 1))) = some r := H
     have A5 := Aside0.mk A50; clear A50
     obtain ⟨ji6, hji6⟩ : ∃ j_ : Int, (mx x3_1 t373) = j_ := ⟨_, rfl⟩
     replace H : (spec_DepthOfTree.l0 k1 a0 ji6 (wrap64 (x4_1 + 1))) = some r := by first | (rw [hji6] at H; exact H) | (simp only [hji6] at H ⊢; exact H)
     (try rw [hji6] at A5)
     have hji6_ : (if x3_1 < t373 then t373 else x3_1) = ji6 := hji6
     have H' := Aside0.mk H
     clear H
     go_wp2_with (first | ((with_reducible refine gate_callee (f := 22) rfl ?_); refine goesL_ (some 15) rfl rfl Tryd.func22 (by kernel_rfl) rfl #[.string a0, .int .i64 x4_1] rfl (by first | rfl | (simp only [List.map_toArray, List.map_cons, List.map_nil, List.length_drop, List.length_take]; rfl)) ?_; (with_reducible refine (spec_QueriesOf.calls k1 a0 x4_1 t373 _ A5.out).mono ?_); rintro e w' ⟨rfl, ⟨nd, rfl⟩⟩; refine ⟨_, rfl, ?_⟩))
     go_roundg k1
     case measure => have := HK1.out; omega
     case rel => exact ⟨(ji6), (wrap64 (x4_1 + 1)), (by first | rfl | (simp; done) | (simp only [← hji6] <;> (first | rfl | simp)) | (simp [*]; done)), (by first | rfl | (simp; done) | (simp [*]; done)), H', ⟨by have := HK1.out; omega⟩, ⟨by repeat (first | (with_reducible first | exact HB.out | apply below_alloc | apply pw_below_drewN | apply below_drew1) | exact HB.out)⟩⟩
    ·rw [if_neg c4] at H
     have c4b0 : decide (x4_1 < 32) = false := decide_eq_false c4
     clear c4
     obtain rfl := Option.some.inj H
     go_wp2
     go_ret
     exact ⟨by first | rfl | (simp [errW_none, errW_some] <;> rfl) | (simp [*, errW_none, errW_some] <;> rfl), by repeat (first | (with_reducible first | exact HB.out | apply below_alloc | apply pw_below_drewN | apply below_drew1) | exact HB.out)⟩
 ·replace c3 := Bool.eq_false_iff.mpr c3
  subst c3
  have H1 : (some (-1)) = some r := by rw [if_neg (show ¬ (false = true) by decide)] at H; exact H
  clear H; have H := H1; clear H1
  obtain rfl := Option.some.inj H
  go_enter Tryd.func25, Tryd.ntmps25
  go_wp2_with (first | ((with_reducible refine gate_callee (f := 24) rfl ?_); refine goesL_ (some 6) rfl rfl Tryd.func24 (by kernel_rfl) rfl #[.string a0] rfl (by first | rfl | (simp only [List.map_toArray, List.map_cons, List.map_nil, List.length_drop, List.length_take]; rfl)) ?_; (with_reducible refine (spec_IsTree.calls k a0 false _ A2.out).mono ?_); rintro e w' ⟨rfl, ⟨nd, rfl⟩⟩; refine ⟨_, rfl, ?_⟩))
  go_ret
  exact ⟨by first | rfl | (simp [errW_none, errW_some] <;> rfl) | (simp [*, errW_none, errW_some] <;> rfl), by repeat (first | (with_reducible first | exact HB.out | apply below_alloc | apply pw_below_drewN | apply below_drew1) | exact HB.out)⟩
/-! ### laws_FnTrees: function 3 -/
mutual
def laws_FnTrees.j0 : Nat → List Int → Bool → ByteArray → Int → Int → Bool → Int → Int → Option (Bool)
 | 0, _, _, _, _, _, _, _, _ => none
 | k + 1, x0, x5, x6, x8, x9, x60, x378000, x378001 => if x60 = true then (some false) else (if x5 = true then ((impl_TableOfTree.f x6 x378000).bind fun bt386 => ((impl_IsTree.f x6).bind fun t390 => (if t390 = true then (if bt386.2.2 = true then (if (!(bt386.1 == x378000) || (!(bt386.2.1 == x378001))) = true then (some false) else ((impl_DepthOfTree.f x6).bind fun t391 => (if t391 = x8 then (if 0 ≤ x378000 then (if x9 > (shl .i64 x8 x378000) then (some false) else ((impl_AverageOf.f x6 x378000).bind fun t392 => (if x9 > t392 then (some false) else ((impl_IsEvasive.f x378000 x378001).bind fun t393 => (if (t393 != (x8 == x378000)) = true then (some false) else (laws_FnTrees.j1 k x0)))))) else (none)) else (some false)))) else (some false)) else (some false)))) else (laws_FnTrees.j1 k x0))
def laws_FnTrees.j1 : Nat → List Int → Option (Bool)
 | 0, _ => none
 | k + 1, x0 => (spec_DrawTableOfTree.f k x0).bind fun bt394 => ((impl_TableOfTree.f bt394.1 bt394.2).bind fun bt396 => ((spec_TableOfTree.f k bt394.1 bt394.2).bind fun bt400 => (if (!(bt396.1 == bt400.1) || (!(bt396.2.1 == bt400.2.1))) = true then (laws_FnTrees.j2 k x0 bt394.1 bt394.2 bt396.2.2 true bt400.1 bt400.2.1) else (laws_FnTrees.j2 k x0 bt394.1 bt394.2 bt396.2.2 (bt396.2.2 != bt400.2.2) bt400.1 bt400.2.1))))
def laws_FnTrees.j2 : Nat → List Int → ByteArray → Int → Bool → Bool → Int → Int → Option (Bool)
 | 0, _, _, _, _, _, _, _ => none
 | k + 1, x0, x12, x13, x15, x136, x404000, x404001 => if x136 = true then (some false) else (if x15 = true then (if x13 ≤ 4 then ((impl_LeastDepth.f x404000 x404001).bind fun t404 => ((impl_DepthOfTree.f x12).bind fun t405 => (if t404 > t405 then (laws_FnTrees.j3 k x0 true) else ((impl_LeastAverage.f x404000 x404001).bind fun t406 => ((impl_AverageOf.f x12 x13).bind fun t407 => (laws_FnTrees.j3 k x0 (decide (t406 > t407)))))))) else (laws_FnTrees.j3 k x0 false)) else (laws_FnTrees.j3 k x0 false))
def laws_FnTrees.j3 : Nat → List Int → Bool → Option (Bool)
 | 0, _, _ => none
 | k + 1, x0, x156 => if x156 = true then (some false) else ((spec_DrawQueriesOf.f k x0).bind fun bt408 => ((spec_DrawAverageOf.f k x0).bind fun bt410 => ((impl_QueriesOf.f bt408.1 bt408.2).bind fun t412 => ((spec_QueriesOf.f k bt408.1 bt408.2).bind fun t413 => (if t412 = t413 then ((impl_DepthOfTree.f bt408.1).bind fun t414 => (if t412 ≤ (mx 0 t414) then ((impl_AverageOf.f bt410.1 bt410.2).bind fun t415 => ((spec_AverageOf.f k bt410.1 bt410.2).bind fun t416 => (if t415 = t416 then ((impl_IsTree.f bt408.1).bind fun t417 => ((spec_IsTree.f k bt408.1).bind fun t418 => (if (t417 == t418) = true then ((impl_DepthOfTree.f bt408.1).bind fun t419 => ((spec_DepthOfTree.f k bt408.1).bind fun t420 => (some (t419 == t420)))) else (some false)))) else (some false)))) else (some false))) else (some false))))))
end
def laws_FnTrees.f (k : Nat) (l0 : List Int) : Option (Bool) := (laws_big.f l0).bind fun t374 => (if t374 = true then (some true) else ((spec_DrawBestTree.f k l0).bind fun bt375 => ((impl_BestTree.f bt375.1 bt375.2).bind fun bt378 => ((spec_BestTree.f k bt375.1 bt375.2).bind fun bt380 => ((impl_LeastDepth.f bt375.1 bt375.2).bind fun t382 => ((impl_LeastAverage.f bt375.1 bt375.2).bind fun t383 => (if bt378.1.toList = bt380.1.toList then (if (bt378.2 != bt380.2) = true then (laws_FnTrees.j0 k l0 bt378.2 bt380.1 t382 t383 true bt375.1 bt375.2) else ((spec_LeastDepth.f k bt375.1 bt375.2).bind fun t384 => (if t382 = t384 then ((spec_LeastAverage.f k bt375.1 bt375.2).bind fun t385 => (laws_FnTrees.j0 k l0 bt378.2 bt380.1 t382 t383 (t383 != t385) bt375.1 bt375.2)) else (laws_FnTrees.j0 k l0 bt378.2 bt380.1 t382 t383 true bt375.1 bt375.2)))) else (laws_FnTrees.j0 k l0 bt378.2 bt380.1 t382 t383 true bt375.1 bt375.2))))))))
theorem laws_FnTrees.j0_dead {k : Nat} {y0 : List Int} {y1 : Bool} {y2 : ByteArray} {y3 : Int} {y4 : Int} {y6 : Int} {y7 : Int} {r : Bool} (h : laws_FnTrees.j0 k y0 y1 y2 y3 y4 true y6 y7 = some r) (hr : r = true) : False := by
 cases k with
 | zero => rw [laws_FnTrees.j0] at h; cases h
 | succ k => rw [laws_FnTrees.j0, if_pos rfl] at h; cases (Option.some.inj h).trans hr
theorem laws_FnTrees.j2_dead {k : Nat} {y0 : List Int} {y1 : ByteArray} {y2 : Int} {y3 : Bool} {y5 : Int} {y6 : Int} {r : Bool} (h : laws_FnTrees.j2 k y0 y1 y2 y3 true y5 y6 = some r) (hr : r = true) : False := by
 cases k with
 | zero => rw [laws_FnTrees.j2] at h; cases h
 | succ k => rw [laws_FnTrees.j2, if_pos rfl] at h; cases (Option.some.inj h).trans hr
theorem laws_FnTrees.j3_dead {k : Nat} {y0 : List Int} {r : Bool} (h : laws_FnTrees.j3 k y0 true = some r) (hr : r = true) : False := by
 cases k with
 | zero => rw [laws_FnTrees.j3] at h; cases h
 | succ k => rw [laws_FnTrees.j3, if_pos rfl] at h; cases (Option.some.inj h).trans hr
def laws_FnTrees.T12 : Bool × List (List Nat × List Nat) := (true, [([], []), ([0], [0]), ([1], [1]), ([2, 1], [2]), ([3], [3]), ([4, 3], [3, 4]), ([3, 5], [3, 5]), ([6, 3], [6]), ([7], [7]), ([7], [7]), ([8, 9, 7], [7, 8, 9]), ([7, 10], [7, 10]), ([11, 7], [11]), ([12], [12]), ([13, 12, 12], [12, 13]), ([12], [12]), ([14, 15, 12], [12, 14, 15]), ([12, 16], [12, 16]), ([17, 14], [17]), ([18], [18]), ([18], [18]), ([18], [18]), ([21, 18], [18, 21]), ([20, 22, 18], [18, 20, 22]), ([19, 23, 18], [18, 19, 23]), ([18, 24], [18, 24]), ([25, 18], [25]), ([26], [26]), ([26], [26]), ([26], [26]), ([29, 26], [26, 29]), ([28, 30, 26, 26], [26, 28, 30]), ([27, 31, 26], [26, 27, 31]), ([26, 32], [26, 32]), ([33, 31], [33]), ([34], [34]), ([35, 34, 34], [34, 35]), ([34], [34]), ([34], [34]), ([38, 34], [34, 38]), ([37, 39, 34], [34, 37, 39]), ([36, 40, 34], [34, 36, 40]), ([34, 41], [34, 41])])
def laws_FnTrees.B12 : List Nat := [0, 1, 3, 7, 15, 31, 63, 127, 255, 255, 1023, 2047, 4095, 8191, 16383, 8191, 65535, 131071, 262143, 524287, 524287, 524287, 2621439, 7864319, 16777215, 33554431, 67108863, 134217727, 134217727, 134217727, 671088639, 2013265919, 4294967295, 8589934591, 17179869183, 34359738367, 68719476735, 34359738367, 34359738367, 309237645311, 996432412671, 2199023255551, 4398046511103]
theorem laws_FnTrees.tab12 : rtab .any (opsOf Tryd.f3 12) = laws_FnTrees.T12 := by kernel_rfl
theorem laws_FnTrees.bits12 : waitsOk laws_FnTrees.T12.2 laws_FnTrees.B12 = true := by kernel_rfl
theorem laws_FnTrees.calls (k : Nat) (A0 : Option Addr) (c0 : Nat) (l0 : List Int) (r : Bool) (w : World) (hr0 : Kd.C (Kd.int .u8) w A0 l0.length l0) (hc0 : l0.length ≤ c0) (h : laws_FnTrees.f k l0 = some r) (hr_ : r = true) :
  Calls Tryd.prog 3 #[.slice A0 l0.length c0] w fun e w' => e = .returned (.bool r) ∧ Below w.heap.size w w' := by
 have HRT := Aside0.mk hr_; clear hr_
 have hu25 := Tryd.underlying25
 have HR0 := Aside0.mk hr0; have HC0 := Aside0.mk hc0; clear hr0 hc0
 have HB := Aside0.mk (Below.refl w.heap.size w)
 have H : ((laws_big.f l0).bind fun t374 => (if t374 = true then (some true) else ((spec_DrawBestTree.f k l0).bind fun bt375 => ((impl_BestTree.f bt375.1 bt375.2).bind fun bt378 => ((spec_BestTree.f k bt375.1 bt375.2).bind fun bt380 => ((impl_LeastDepth.f bt375.1 bt375.2).bind fun t382 => ((impl_LeastAverage.f bt375.1 bt375.2).bind fun t383 => (if bt378.1.toList = bt380.1.toList then (if (bt378.2 != bt380.2) = true then (laws_FnTrees.j0 k l0 bt378.2 bt380.1 t382 t383 true bt375.1 bt375.2) else ((spec_LeastDepth.f k bt375.1 bt375.2).bind fun t384 => (if t382 = t384 then ((spec_LeastAverage.f k bt375.1 bt375.2).bind fun t385 => (laws_FnTrees.j0 k l0 bt378.2 bt380.1 t382 t383 (t383 != t385) bt375.1 bt375.2)) else (laws_FnTrees.j0 k l0 bt378.2 bt380.1 t382 t383 true bt375.1 bt375.2)))) else (laws_FnTrees.j0 k l0 bt378.2 bt380.1 t382 t383 true bt375.1 bt375.2))))))))) = some r := h
 clear h; replace H := Option.bind_eq_some_iff.mp H; obtain ⟨t374, A20, H⟩ := H; (try dsimp only at H); have A2 := Aside0.mk A20; clear A20
 by_cases c3 : t374 = true
 ·subst c3
  rw [if_pos rfl] at H
  (try dsimp only at H)
  obtain rfl := Option.some.inj H
  go_enter Tryd.func3, Tryd.ntmps3
  go_wp2_with (first | ((with_reducible refine gate_callee (f := 4) rfl ?_); refine goesL_ (some 24) rfl rfl Tryd.func4 (by kernel_rfl) rfl #[.slice A0 l0.length c0] rfl (by first | rfl | (simp only [List.map_toArray, List.map_cons, List.map_nil, List.length_drop, List.length_take]; rfl)) ?_; (with_reducible refine (laws_big.calls _ _ l0 true _ ?side1 ?side2 A2.out).mono ?_); (case side1 => repeat (first | exact HR0.out | (with_reducible refine Kd.C_alloc ?_ _) | (with_reducible refine Kd.C_drewN ?_ _) | (with_reducible refine Kd.C_drew ?_))); (case side2 => exact HC0.out); rintro e w' ⟨rfl, ⟨nd, rfl⟩⟩; refine ⟨_, rfl, ?_⟩))
  go_ret
  exact ⟨by first | rfl | (simp [errW_none, errW_some] <;> rfl) | (simp [*, errW_none, errW_some] <;> rfl), M.Lw HB⟩
 ·replace c3 := Bool.eq_false_iff.mpr c3
  subst c3
  rw [if_neg (show ¬ (false = true) by decide)] at H
  (try dsimp only at H); replace H := Option.bind_eq_some_iff.mp H; obtain ⟨⟨t375, t376⟩, A40, H⟩ := H; (try dsimp only at H); have A4 := Aside0.mk A40; clear A40; replace H := Option.bind_eq_some_iff.mp H; obtain ⟨⟨t378, t379⟩, A50, H⟩ := H; (try dsimp only at H); have A5 := Aside0.mk A50; clear A50; replace H := Option.bind_eq_some_iff.mp H; obtain ⟨⟨t380, t381⟩, A60, H⟩ := H; (try dsimp only at H); have A6 := Aside0.mk A60; clear A60; replace H := Option.bind_eq_some_iff.mp H; obtain ⟨t382, A70, H⟩ := H; (try dsimp only at H); have A7 := Aside0.mk A70; clear A70; replace H := Option.bind_eq_some_iff.mp H
  obtain ⟨t383, A80, H⟩ := H; (try dsimp only at H); have A8 := Aside0.mk A80; clear A80; have HC9 := Aside0.mk H; clear H
  go_enter Tryd.func3, Tryd.ntmps3
  go_upto_region 8 with (first | ((with_reducible refine gate_callee (f := 4) rfl ?_); refine goesL_ (some 24) rfl rfl Tryd.func4 (by kernel_rfl) rfl #[.slice A0 l0.length c0] rfl (by first | rfl | (simp only [List.map_toArray, List.map_cons, List.map_nil, List.length_drop, List.length_take]; rfl)) ?_; (with_reducible refine (laws_big.calls _ _ l0 false _ ?side1 ?side2 A2.out).mono ?_); (case side1 => repeat (first | exact HR0.out | (with_reducible refine Kd.C_alloc ?_ _) | (with_reducible refine Kd.C_drewN ?_ _) | (with_reducible refine Kd.C_drew ?_))); (case side2 => exact HC0.out); rintro e w' ⟨rfl, ⟨nd, rfl⟩⟩; refine ⟨_, rfl, ?_⟩) | ((with_reducible refine gate_callee (f := 5) rfl ?_); refine goesL_ (some 26) rfl rfl Tryd.func5 (by kernel_rfl) rfl #[.slice A0 l0.length c0] rfl (by first | rfl | (simp only [List.map_toArray, List.map_cons, List.map_nil, List.length_drop, List.length_take]; rfl)) ?_; (with_reducible refine (spec_DrawBestTree.calls k _ _ l0 t375 t376 _ ?side1 ?side2 A4.out).mono ?_); (case side1 => repeat (first | exact HR0.out | (with_reducible refine Kd.C_alloc ?_ _) | (with_reducible refine Kd.C_drewN ?_ _) | (with_reducible refine Kd.C_drew ?_))); (case side2 => exact HC0.out); rintro e w10 ⟨rfl, hb⟩; refine ⟨_, rfl, ?_⟩; have n0_ := Aside0.mk (below_step (by repeat (first | (with_reducible first | exact HB.out | apply below_alloc | apply pw_below_drewN | apply below_drew1) | exact HB.out)) hb); clear HB; have HB := n0_; clear n0_; (try clear hb); (try clear hb2); (try clear hk); (try clear hi)) | ((with_reducible refine gate_dst (N := 3) rfl ?_); (try (refine gate_guard (by rfl) ?_; dsimp only)); refine box_event ?hg (N := 3) ?hd (cs := #[.int .i64 0, .int .i64 0]) (t := 25) ?hr ?_; (case hd => rfl); (case hg => rfl); (case hr => first | (go_simp; done) | (go_simp; rfl)); intro gb377 hg w11 hbox hb; have n0_ := Aside0.mk (below_step (by repeat (first | (with_reducible first | exact HB.out | apply below_alloc | apply pw_below_drewN | apply below_drew1) | exact HB.out)) hb); have n1_ := Aside0.mk (hbox); have n2_ := Aside0.mk ((by rw [hg]; exact (below_size (by repeat (first | (with_reducible first | exact HB.out | apply below_alloc | apply pw_below_drewN | apply below_drew1) | exact HB.out))) : w.heap.size ≤ gb377)); have n3_ := Aside0.mk ((by rw [hg]; exact (below_size (by repeat (first | (with_reducible first | exact HB.out | apply below_alloc | apply pw_below_drewN | apply below_drew1) | exact HB.out))) : w.heap.size ≤ gb377)); clear HB; have HB := n0_; have BK377 := n1_; have GW377 := n2_; have GE377 := n3_; clear n0_ n1_ n2_ n3_; clear hb hbox hg; have hcz12_0 : w11.cell? ⟨gb377, 0, none⟩ = some (.int .i64 0) := (blk_cell BK377.out 0).trans rfl; have hcz12_1 : w11.cell? ⟨gb377, 1, none⟩ = some (.int .i64 0) := (blk_cell BK377.out 1).trans rfl; have hfz12_0 := blk_frozen BK377.out 0; have hfz12_1 := blk_frozen BK377.out 1) | ((with_reducible refine gate_callee (f := 6) rfl ?_); refine goesL_ (some 29) rfl rfl Tryd.func6 (by kernel_rfl) rfl #[.agg #[.int .i64 t375, .int .i64 t376]] rfl (by first | rfl | (simp only [List.map_toArray, List.map_cons, List.map_nil, List.length_drop, List.length_take]; rfl)) ?_; (with_reducible refine (impl_BestTree.calls t375 t376 t378 t379 _ A5.out).mono ?_); rintro e w13 ⟨rfl, hb⟩; refine ⟨_, rfl, ?_⟩; have n0_ := Aside0.mk (blk_below (g := gb377) (o := .cells #[.int .i64 t375, .int .i64 t376] 25 (0, 0)) (by (with_reducible repeat (first | refine blk_drewN ?_ _ | refine blk_drew ?_ | refine blk_alloc ?_ _)); refine blk_put (cs := #[.int .i64 t375, .int .i64 0]) ?_ 1 _ rfl; (with_reducible repeat (first | refine blk_drewN ?_ _ | refine blk_drew ?_ | refine blk_alloc ?_ _)); refine blk_put (cs := #[.int .i64 0, .int .i64 0]) ?_ 0 _ rfl; (with_reducible repeat (first | refine blk_drewN ?_ _ | refine blk_drew ?_ | refine blk_alloc ?_ _)); exact BK377.out) hb); have n1_ := Aside0.mk (below_step (by repeat (first | (with_reducible first | exact HB.out | apply below_alloc | apply pw_below_drewN | apply below_drew1 | refine below_set ?_ GE377.out) | exact HB.out)) hb); clear BK377; clear HB; have BK377 := n0_; have HB := n1_; clear n0_ n1_; (try clear hb); (try clear hb2); (try clear hk); (try clear hi); have hcz14_0 : w13.cell? ⟨gb377, 0, none⟩ = some (.int .i64 t375) := (blk_cell BK377.out 0).trans rfl; have hcz14_1 : w13.cell? ⟨gb377, 1, none⟩ = some (.int .i64 t376) := (blk_cell BK377.out 1).trans rfl; have hfz14_0 := blk_frozen BK377.out 0; have hfz14_1 := blk_frozen BK377.out 1) | ((with_reducible refine gate_callee (f := 7) rfl ?_); refine goesL_ (some 34) rfl rfl Tryd.func7 (by kernel_rfl) rfl #[.agg #[.int .i64 t375, .int .i64 t376]] rfl (by first | rfl | (simp only [List.map_toArray, List.map_cons, List.map_nil, List.length_drop, List.length_take]; rfl)) ?_; (with_reducible refine (spec_BestTree.calls k t375 t376 t380 t381 _ A6.out).mono ?_); rintro e w15 ⟨rfl, hb⟩; refine ⟨_, rfl, ?_⟩; have n0_ := Aside0.mk (blk_below (M.Lb BK377) hb); have n1_ := Aside0.mk (below_step (by repeat (first | (with_reducible first | exact HB.out | apply below_alloc | apply pw_below_drewN | apply below_drew1 | refine below_set ?_ GE377.out) | exact HB.out)) hb); clear BK377; clear HB; have BK377 := n0_; have HB := n1_; clear n0_ n1_; (try clear hb); (try clear hb2); (try clear hk); (try clear hi); have hcz16_0 : w15.cell? ⟨gb377, 0, none⟩ = some (.int .i64 t375) := (blk_cell BK377.out 0).trans rfl; have hcz16_1 : w15.cell? ⟨gb377, 1, none⟩ = some (.int .i64 t376) := (blk_cell BK377.out 1).trans rfl; have hfz16_0 := blk_frozen BK377.out 0; have hfz16_1 := blk_frozen BK377.out 1) | ((with_reducible refine gate_callee (f := 8) rfl ?_); refine goesL_ (some 38) rfl rfl Tryd.func8 (by kernel_rfl) rfl #[.agg #[.int .i64 t375, .int .i64 t376]] rfl (by first | rfl | (simp only [List.map_toArray, List.map_cons, List.map_nil, List.length_drop, List.length_take]; rfl)) ?_; (with_reducible refine (impl_LeastDepth.calls t375 t376 t382 _ A7.out).mono ?_); rintro e w17 ⟨rfl, hb⟩; refine ⟨_, rfl, ?_⟩; have n0_ := Aside0.mk (blk_below (M.Lb BK377) hb); have n1_ := Aside0.mk (below_step (by repeat (first | (with_reducible first | exact HB.out | apply below_alloc | apply pw_below_drewN | apply below_drew1 | refine below_set ?_ GE377.out) | exact HB.out)) hb); clear BK377; clear HB; have BK377 := n0_; have HB := n1_; clear n0_ n1_; (try clear hb); (try clear hb2); (try clear hk); (try clear hi); have hcz18_0 : w17.cell? ⟨gb377, 0, none⟩ = some (.int .i64 t375) := (blk_cell BK377.out 0).trans rfl; have hcz18_1 : w17.cell? ⟨gb377, 1, none⟩ = some (.int .i64 t376) := (blk_cell BK377.out 1).trans rfl; have hfz18_0 := blk_frozen BK377.out 0; have hfz18_1 := blk_frozen BK377.out 1) | ((with_reducible refine gate_callee (f := 9) rfl ?_); refine goesL_ (some 40) rfl rfl Tryd.func9 (by kernel_rfl) rfl #[.agg #[.int .i64 t375, .int .i64 t376]] rfl (by first | rfl | (simp only [List.map_toArray, List.map_cons, List.map_nil, List.length_drop, List.length_take]; rfl)) ?_; (with_reducible refine (impl_LeastAverage.calls t375 t376 t383 _ A8.out).mono ?_); rintro e w19 ⟨rfl, hb⟩; refine ⟨_, rfl, ?_⟩; have n0_ := Aside0.mk (blk_below (M.Lb BK377) hb); have n1_ := Aside0.mk (below_step (by repeat (first | (with_reducible first | exact HB.out | apply below_alloc | apply pw_below_drewN | apply below_drew1 | refine below_set ?_ GE377.out) | exact HB.out)) hb); clear BK377; clear HB; have BK377 := n0_; have HB := n1_; clear n0_ n1_; (try clear hb); (try clear hb2); (try clear hk); (try clear hi)))
  (try simp only [Act.put, M.sT_, M.s0_, M.s1_])
  go_cut [60] (fun v60 wc => ∃ (kq : Nat) (x60_8 : Bool), v60 = .bool x60_8 ∧ Aside0 (laws_FnTrees.j0 kq l0 t379 t380 t382 t383 x60_8 t375 t376 = some r) ∧ Aside0 (kq ≤ k) ∧ Aside0 (wc.heap[gb377]? = some (.cells #[.int .i64 t375, .int .i64 t376] 25 (0, 0))) ∧ Aside0 (Below w.heap.size w wc))
  case first =>
   as_aux_lemma =>
   have H := HC9.out
   clear HC9
   by_cases c20 : t378.toList = t380.toList
   ·rw [if_pos c20] at H
    have c20b0 : (t378.toList == t380.toList) = true := beq_iff_eq.mpr c20
    have c20b1 : (t378.toList != t380.toList) = false := bne_eq_false_iff_eq.mpr c20
    clear c20
    (first | rw [c20b0] | (simp only [i64_w, i32_w]; rw [c20b0]) | skip)
    by_cases c21 : (t379 != t381) = true
    ·rw [if_pos c21] at H
     have c21b0 : (t379 != t381) = true := c21
     (try (have c21b1 : decide (t379 = t381) = false := by simpa using c21))
     (try (have c21b2 : (t379 == t381) = false := by simpa using c21))
     (try (have c21b3 : ¬ (t379 = t381) := by simpa using c21))
     clear c21
     first | exact (laws_FnTrees.j0_dead H HRT.out).elim | exact (laws_FnTrees.j2_dead H HRT.out).elim | exact (laws_FnTrees.j3_dead H HRT.out).elim
    ·rw [if_neg c21] at H
     have c21b0 : (t379 != t381) = false := by simpa using c21
     (try (have c21b1 : decide (t379 = t381) = true := by simpa using c21))
     (try (have c21b2 : (t379 == t381) = true := by simpa using c21))
     clear c21; replace H := Option.bind_eq_some_iff.mp H; obtain ⟨t384, A220, H⟩ := H; (try dsimp only at H); have A22 := Aside0.mk A220; clear A220
     by_cases c23 : t382 = t384
     ·rw [if_pos c23] at H
      have c23b0 : (t382 == t384) = true := beq_iff_eq.mpr c23
      have c23b1 : (t382 != t384) = false := bne_eq_false_iff_eq.mpr c23
      clear c23; replace H := Option.bind_eq_some_iff.mp H; obtain ⟨t385, A240, H⟩ := H
      replace H : (laws_FnTrees.j0 k l0 t379 t380 t382 t383 (t383 != t385) t375 t376) = some r := H
      have A24 := Aside0.mk A240; clear A240
      have H' := Aside0.mk H
      clear H
      have hcz25_0 : w19.cell? ⟨gb377, 0, none⟩ = some (.int .i64 t375) := (blk_cell BK377.out 0).trans rfl
      have hcz25_1 : w19.cell? ⟨gb377, 1, none⟩ = some (.int .i64 t376) := (blk_cell BK377.out 1).trans rfl
      have hfz25_0 := blk_frozen BK377.out 0
      have hfz25_1 := blk_frozen BK377.out 1
      go_wp2_with (first | (go_at_call 10; (with_reducible refine (spec_LeastDepth.calls k t375 t376 t384 _ A22.out).mono ?_); rintro e w26 ⟨rfl, hb⟩; have n0_ := Aside0.mk (blk_below (M.Lb BK377) hb); have n1_ := Aside0.mk (below_step (M.Lw HB) hb); clear BK377; clear HB; have BK377 := n0_; have HB := n1_; clear n0_ n1_; (try clear hb); (try clear hb2); (try clear hk); (try clear hi); have hcz27_0 : w26.cell? ⟨gb377, 0, none⟩ = some (.int .i64 t375) := (blk_cell BK377.out 0).trans rfl; have hcz27_1 : w26.cell? ⟨gb377, 1, none⟩ = some (.int .i64 t376) := (blk_cell BK377.out 1).trans rfl; have hfz27_0 := blk_frozen BK377.out 0; have hfz27_1 := blk_frozen BK377.out 1) | (go_at_call 11; (with_reducible refine (spec_LeastAverage.calls k t375 t376 t385 _ A24.out).mono ?_); rintro e w28 ⟨rfl, hb⟩; have n0_ := Aside0.mk (blk_below (M.Lb BK377) hb); have n1_ := Aside0.mk (below_step (M.Lw HB) hb); clear BK377; clear HB; have BK377 := n0_; have HB := n1_; clear n0_ n1_; (try clear hb); (try clear hb2); (try clear hk); (try clear hi)))
      go_meet
      case rel => exact ⟨_, ((t383 != t385)), (by first | rfl | (simp; done) | (simp [*]; done)), H', ⟨by first | omega | exact Nat.le_refl _⟩, ⟨M.Lb BK377⟩, ⟨M.Lw HB⟩⟩
     ·rw [if_neg c23] at H
      have c23b0 : (t382 == t384) = false := beq_eq_false_iff_ne.mpr c23
      have c23b1 : (t382 != t384) = true := bne_iff_ne.mpr c23
      first | exact (laws_FnTrees.j0_dead H HRT.out).elim | exact (laws_FnTrees.j2_dead H HRT.out).elim | exact (laws_FnTrees.j3_dead H HRT.out).elim
   ·rw [if_neg c20] at H
    have c20b0 : (t378.toList == t380.toList) = false := beq_eq_false_iff_ne.mpr c20
    have c20b1 : (t378.toList != t380.toList) = true := bne_iff_ne.mpr c20
    (first | rw [c20b0] | (simp only [i64_w, i32_w]; rw [c20b0]) | skip)
    first | exact (laws_FnTrees.j0_dead H HRT.out).elim | exact (laws_FnTrees.j2_dead H HRT.out).elim | exact (laws_FnTrees.j3_dead H HRT.out).elim
  case rest =>
   as_aux_lemma =>
   clear HC9; (try clear c2); (try clear p2); (try clear c3); (try clear c4); (try clear c5); (try clear c6); (try clear c7); (try clear c8); (try clear c9); (try clear c20); (try clear c20b0); (try clear c20b1); (try clear c21); (try clear c21b0); (try clear c21b1); (try clear c21b2); (try clear c23); (try clear c23b0); (try clear c23b1); (try clear hcz12_0); (try clear hcz12_1); (try clear hcz14_0); (try clear hcz14_1); (try clear hcz16_0); (try clear hcz16_1); (try clear hcz18_0); (try clear hcz18_1); (try clear hcz25_0); (try clear hcz25_1); (try clear hcz27_0); (try clear hcz27_1); (try clear hcz29_0)
   (try clear hcz29_1); (try clear hfz12_0); (try clear hfz12_1); (try clear hfz14_0); (try clear hfz14_1); (try clear hfz16_0); (try clear hfz16_1); (try clear hfz18_0); (try clear hfz18_1); (try clear hfz25_0); (try clear hfz25_1); (try clear hfz27_0); (try clear hfz27_1); (try clear hfz29_0); (try clear hfz29_1); obtain ⟨kq, x60_8, rfl, HA, HJ8, BK377, HB⟩ := hcut
   cases kq with
   | zero => exact absurd HA.out (by simp [laws_FnTrees.j0])
   | succ kj8 =>
    have H := HA.out
    clear HA
    simp only [laws_FnTrees.j0] at H
    by_cases c31 : x60_8 = true
    ·subst c31
     rw [if_pos rfl] at H
     (try dsimp only at H)
     exact absurd (Option.some.inj H) (by rw [HRT.out]; decide)
    ·replace c31 := Bool.eq_false_iff.mpr c31
     subst c31
     rw [if_neg (show ¬ (false = true) by decide)] at H
     (try dsimp only at H); have HC32 := Aside0.mk H; clear H
     go_upto_if 61 with (fail)
     go_cut [] (fun wc => ∃ (kq : Nat), Aside0 (laws_FnTrees.j1 kq l0 = some r) ∧ Aside0 (kq ≤ kj8) ∧ Aside0 (wc.heap[gb377]? = some (.cells #[.int .i64 t375, .int .i64 t376] 25 (0, 0))) ∧ Aside0 (Below w.heap.size w wc))
     case first =>
      as_aux_lemma =>
      have H := HC32.out
      clear HC32
      by_cases c33 : t379 = true
      ·subst c33
       rw [if_pos rfl] at H
       (try dsimp only at H); replace H := Option.bind_eq_some_iff.mp H; obtain ⟨⟨t386, t387, t388⟩, A340, H⟩ := H; (try dsimp only at H); have A34 := Aside0.mk A340; clear A340; replace H := Option.bind_eq_some_iff.mp H; obtain ⟨t390, A350, H⟩ := H; (try dsimp only at H); have A35 := Aside0.mk A350; clear A350
       by_cases c36 : t390 = true
       ·subst c36
        rw [if_pos rfl] at H
        (try dsimp only at H)
        by_cases c37 : t388 = true
        ·subst c37
         rw [if_pos rfl] at H
         (try dsimp only at H)
         by_cases c38 : (!(t386 == t375) || (!(t387 == t376))) = true
         ·rw [if_pos c38] at H
          have c38b0 : (!(t386 == t375) || (!(t387 == t376))) = true := c38
          clear c38
          (first | rw [c38b0] | (simp only [i64_w, i32_w]; rw [c38b0]) | skip)
          exact absurd (Option.some.inj H) (by rw [HRT.out]; decide)
         ·rw [if_neg c38] at H
          have c38b0 : (!(t386 == t375) || (!(t387 == t376))) = false := by simpa using c38
          clear c38
          (first | rw [c38b0] | (simp only [i64_w, i32_w]; rw [c38b0]) | skip)
          replace H := Option.bind_eq_some_iff.mp H; obtain ⟨t391, A470, H⟩ := H; (try dsimp only at H); have A47 := Aside0.mk A470; clear A470
          by_cases c48 : t391 = t382
          ·rw [if_pos c48] at H
           have c48b0 : (t391 == t382) = true := beq_iff_eq.mpr c48
           have c48b1 : (t391 != t382) = false := bne_eq_false_iff_eq.mpr c48
           clear c48
           by_cases c49 : 0 ≤ t375
           ·rw [if_pos c49] at H
            have c49b0 := eq_true c49
            have c49b1 : decide (0 ≤ t375) = true := decide_eq_true c49
            clear c49
            obtain ⟨ji50, hji50⟩ : ∃ j_ : Int, (shl .i64 t382 t375) = j_ := ⟨_, rfl⟩
            replace H : (if t383 > (ji50) then (some false) else ((impl_AverageOf.f t380 t375).bind fun t392 => (if t383 > t392 then (some false) else ((impl_IsEvasive.f t375 t376).bind fun t393 => (if (t393 != (t382 == t375)) = true then (some false) else (laws_FnTrees.j1 kj8 l0)))))) = some r := by first | (rw [hji50] at H; exact H) | (simp only [hji50] at H ⊢; exact H)
            (try rw [hji50] at A34)
            (try rw [hji50] at A35)
            (try rw [hji50] at A47)
            have hji50_ : (IntKind.i64.wrap (t382 * 2 ^ min t375.toNat 64)) = ji50 := hji50
            have hji50z : t375 ≤ 64 → (IntKind.i64.wrap (t382 * 2 ^ t375.toNat)) = ji50 := shl_small hji50
            have hji50y : (wrap64 (t382 * 2 ^ min t375.toNat 64)) = ji50 := (i64_w _).symm.trans hji50_
            have hji50x : t375 ≤ 64 → (wrap64 (t382 * 2 ^ t375.toNat)) = ji50 := fun h_ => (i64_w _).symm.trans (hji50z h_)
            by_cases c51 : t383 > (ji50)
            ·rw [if_pos c51] at H
             have c51b0 : decide ((ji50) < t383) = true := decide_eq_true c51
             clear c51
             exact absurd (Option.some.inj H) (by rw [HRT.out]; decide)
            ·rw [if_neg c51] at H
             have c51b0 : decide ((ji50) < t383) = false := decide_eq_false c51
             clear c51; replace H := Option.bind_eq_some_iff.mp H; obtain ⟨t392, A610, H⟩ := H; (try dsimp only at H); have A61 := Aside0.mk A610; clear A610
             by_cases c62 : t383 > t392
             ·rw [if_pos c62] at H
              have c62b0 : decide (t392 < t383) = true := decide_eq_true c62
              clear c62
              exact absurd (Option.some.inj H) (by rw [HRT.out]; decide)
             ·rw [if_neg c62] at H
              have c62b0 : decide (t392 < t383) = false := decide_eq_false c62
              clear c62; replace H := Option.bind_eq_some_iff.mp H; obtain ⟨t393, A730, H⟩ := H
              replace H : (if (t393 != (t382 == t375)) = true then (some false) else (laws_FnTrees.j1 kj8 l0)) = some r := H
              have A73 := Aside0.mk A730; clear A730
              by_cases c74 : (t393 != (t382 == t375)) = true
              ·rw [if_pos c74] at H
               have c74b0 : (t393 != (t382 == t375)) = true := c74
               (try (have c74b1 : decide (t393 = (t382 == t375)) = false := by simpa using c74))
               (try (have c74b2 : (t393 == (t382 == t375)) = false := by simpa using c74))
               (try (have c74b3 : ¬ (t393 = (t382 == t375)) := by simpa using c74))
               clear c74
               exact absurd (Option.some.inj H) (by rw [HRT.out]; decide)
              ·rw [if_neg c74] at H
               have c74b0 : (t393 != (t382 == t375)) = false := by simpa using c74
               (try (have c74b1 : decide (t393 = (t382 == t375)) = true := by simpa using c74))
               (try (have c74b2 : (t393 == (t382 == t375)) = true := by simpa using c74))
               clear c74
               have H' := Aside0.mk H
               clear H
               have hcz86_0 : wc.cell? ⟨gb377, 0, none⟩ = some (.int .i64 t375) := (blk_cell BK377.out 0).trans rfl
               have hcz86_1 : wc.cell? ⟨gb377, 1, none⟩ = some (.int .i64 t376) := (blk_cell BK377.out 1).trans rfl
               have hfz86_0 := blk_frozen BK377.out 0
               have hfz86_1 := blk_frozen BK377.out 1
               try go_wp2_with (first | ((with_reducible refine gate_callee (f := 12) rfl ?_); refine goesL_ (some 66) rfl rfl Tryd.func12 (by kernel_rfl) rfl #[.string t380, .int .i64 t375] rfl (by first | rfl | (simp only [List.map_toArray, List.map_cons, List.map_nil, List.length_drop, List.length_take]; rfl)) ?_; (with_reducible refine (impl_TableOfTree.calls t380 t375 t386 t387 true _ A34.out).mono ?_); rintro e w87 ⟨rfl, hb⟩; refine ⟨_, rfl, ?_⟩; have n0_ := Aside0.mk (blk_below (M.Lb BK377) hb); have n1_ := Aside0.mk (below_step (M.Lw HB) hb); clear BK377; clear HB; have BK377 := n0_; have HB := n1_; clear n0_ n1_; (try clear hb); (try clear hb2); (try clear hk); (try clear hi)) | ((with_reducible refine gate_dst (N := 10) rfl ?_); (try (refine gate_guard (by rfl) ?_; dsimp only)); refine box_event ?hg (N := 10) ?hd (cs := #[.int .i64 0, .int .i64 0]) (t := 25) ?hr ?_; (case hd => rfl); (case hg => rfl); (case hr => first | (go_simp; done) | (go_simp; rfl)); intro gb389 hg w88 hbox hb; have n0_ := Aside0.mk (blk_below (M.Lb BK377) hb); have n1_ := Aside0.mk (below_step (M.Lw HB) hb); have n2_ := Aside0.mk (hbox); have n3_ := Aside0.mk ((by rw [hg]; exact (below_size (M.Lw HB)) : w.heap.size ≤ gb389)); have n4_ := Aside0.mk ((by rw [hg]; exact (below_size (M.Lw HB)) : w.heap.size ≤ gb389)); have n5_ := Aside0.mk ((by rw [hg]; exact Nat.ne_of_lt (blk_lt (M.Lb BK377)) : gb377 ≠ gb389)); have n6_ := Aside0.mk ((by rw [hg]; exact Nat.ne_of_gt (blk_lt (M.Lb BK377)) : gb389 ≠ gb377)); clear BK377; clear HB; have BK377 := n0_; have HB := n1_; have BK389 := n2_; have GW389 := n3_; have GE389 := n4_; have NB377_389 := n5_; have NB389_377 := n6_; clear n0_ n1_ n2_ n3_ n4_ n5_ n6_; clear hb hbox hg; have hnb89 := NB389_377.out; have hnc89 := NB377_389.out; have hcz90_0 : w88.cell? ⟨gb389, 0, none⟩ = some (.int .i64 0) := (blk_cell BK389.out 0).trans rfl; have hcz90_1 : w88.cell? ⟨gb389, 1, none⟩ = some (.int .i64 0) := (blk_cell BK389.out 1).trans rfl; have hfz90_0 := blk_frozen BK389.out 0; have hfz90_1 := blk_frozen BK389.out 1))
               have n0_ : Aside0 (((w88.setCell ⟨gb389, 0, none⟩ (.int .i64 t386)).setCell ⟨gb389, 1, none⟩ (.int .i64 t387)).heap[gb377]? = some (.cells #[.int .i64 t375, .int .i64 t376] 25 (0, 0))) := ⟨by (with_reducible repeat (first | refine blk_drewN ?_ _ | refine blk_drew ?_ | refine blk_alloc ?_ _)); refine blk_far ?_ NB377_389.out _; (with_reducible repeat (first | refine blk_drewN ?_ _ | refine blk_drew ?_ | refine blk_alloc ?_ _)); refine blk_far ?_ NB377_389.out _; (with_reducible repeat (first | refine blk_drewN ?_ _ | refine blk_drew ?_ | refine blk_alloc ?_ _)); exact BK377.out⟩
               have n1_ : Aside0 (((w88.setCell ⟨gb389, 0, none⟩ (.int .i64 t386)).setCell ⟨gb389, 1, none⟩ (.int .i64 t387)).heap[gb389]? = some (.cells #[.int .i64 t386, .int .i64 t387] 25 (0, 0))) := ⟨by (with_reducible repeat (first | refine blk_drewN ?_ _ | refine blk_drew ?_ | refine blk_alloc ?_ _)); refine blk_put (cs := #[.int .i64 t386, .int .i64 0]) ?_ 1 _ rfl; (with_reducible repeat (first | refine blk_drewN ?_ _ | refine blk_drew ?_ | refine blk_alloc ?_ _)); refine blk_put (cs := #[.int .i64 0, .int .i64 0]) ?_ 0 _ rfl; (with_reducible repeat (first | refine blk_drewN ?_ _ | refine blk_drew ?_ | refine blk_alloc ?_ _)); exact BK389.out⟩
               have n2_ : Aside0 (Below w.heap.size w ((w88.setCell ⟨gb389, 0, none⟩ (.int .i64 t386)).setCell ⟨gb389, 1, none⟩ (.int .i64 t387))) := ⟨by repeat (first | (with_reducible first | exact HB.out | apply below_alloc | apply pw_below_drewN | apply below_drew1 | refine below_set ?_ GE377.out | refine below_set ?_ GE389.out) | exact HB.out)⟩
               (try clear BK377); (try clear BK389); (try clear HB)
               generalize ((w88.setCell ⟨gb389, 0, none⟩ (.int .i64 t386)).setCell ⟨gb389, 1, none⟩ (.int .i64 t387)) = w91 at n0_ n1_ n2_ ⊢
               have BK377 := n0_; have BK389 := n1_; have HB := n2_; clear n0_ n1_ n2_
               have n0_ := Aside0.mk (blk_drew BK377.out)
               have n1_ := Aside0.mk (blk_drew BK389.out)
               have n2_ := Aside0.mk (below_drew1 HB.out)
               clear BK377; clear BK389; clear HB; have BK377 := n0_; have BK389 := n1_; have HB := n2_; clear n0_ n1_ n2_
               refine start_ (n := 43) (S := fun w' => w'.cell? ⟨gb389, 0, none⟩ = some (.int .i64 t386) ∧ w'.cell? ⟨gb389, 1, none⟩ = some (.int .i64 t387) ∧ w'.cell? ⟨gb377, 0, none⟩ = some (.int .i64 t375) ∧ w'.cell? ⟨gb377, 1, none⟩ = some (.int .i64 t376)) (ds := []) #[false, false, false, false, false, false, false, false, false, false, false, false, false, false, false, false, false, false, false, false, false, false, false, false, false, false, false, false, false, false, false, false, false, false, false, false, false, false, false, false, false, false, false] (by kernel_rfl) rfl rfl ⟨(blk_cell BK389.out 0).trans rfl, (blk_cell BK389.out 1).trans rfl, (blk_cell BK377.out 0).trans rfl, (blk_cell BK377.out 1).trans rfl⟩ (fun hHeld => ?_); refine with_tabW laws_FnTrees.tab12 laws_FnTrees.bits12 (fun HT_ HW_ => ?_)
               generalize w91.drew = w92 at BK377 BK389 HB hHeld ⊢
               refine pure_ (i := 0) (N := some 69) (v := ?_) (a' := ?_) #[true, false, false, false, false, false, false, false, false, false, false, false, false, false, false, false, false, false, false, false, false, false, false, false, false, false, false, false, false, false, false, false, false, false, false, false, false, false, false, false, false, false, false] rfl rfl (any_of HT_.out (by kernel_rfl)) (fun _ _ _ h => h) (Or.inl ⟨by rfl, ?_⟩) ?_ ?_; rotate_left
               ·intro w'; go_simp; with_reducible rfl
               rotate_left
               ·simp only [Act.put, M.sT_, M.s0_, M.s1_, i64_w, i32_w]; rfl
               refine one_ (i := 1) (N := some 70) #[true, true, false, false, false, false, false, false, false, false, false, false, false, false, false, false, false, false, false, false, false, false, false, false, false, false, false, false, false, false, false, false, false, false, false, false, false, false, false, false, false, false, false] rfl rfl (one_of HT_.out (by kernel_rfl)) (by decide) (fun K hK => ?_)
               refine goes_ Tryd.func13 (by kernel_rfl) rfl #[.string t380] (by rfl) rfl rfl (by first | rfl | (simp only [List.map_toArray, List.map_cons, List.map_nil, List.length_drop, List.length_take]; rfl)) ?_
               with_reducible refine (impl_IsTree.calls t380 true _ A35.out).mono ?_
               rintro e w93 ⟨rfl, hb⟩
               refine ⟨_, rfl, ?_⟩
               have n0_ := Aside0.mk (blk_below (M.Lb BK377) hb)
               have n1_ := Aside0.mk (blk_below (M.Lb BK389) hb)
               have n2_ := Aside0.mk (below_step (M.Lw HB) hb)
               clear BK377; clear BK389; clear HB; have BK377 := n0_; have BK389 := n1_; have HB := n2_; clear n0_ n1_ n2_; (try clear hb); (try clear hb2); (try clear hk); (try clear hi)
               refine hK.out _ _ ⟨(blk_cell BK389.out 0).trans rfl, (blk_cell BK389.out 1).trans rfl, (blk_cell BK377.out 0).trans rfl, (blk_cell BK377.out 1).trans rfl⟩ (fun hHeld => ?_)
               clear hK K
               refine norm_ (a' := ?_) ?_ ?_
               rotate_left
               ·show Act.put _ (some 70) _ = _
                simp only [Act.put, M.sT_, M.s0_, M.s1_, i64_w, i32_w]; rfl
               refine pure_ (i := 2) (N := some 71) (v := ?_) (a' := ?_) #[true, true, true, false, false, false, false, false, false, false, false, false, false, false, false, false, false, false, false, false, false, false, false, false, false, false, false, false, false, false, false, false, false, false, false, false, false, false, false, false, false, false, false] rfl rfl (any_of HT_.out (by kernel_rfl)) (fun _ _ _ h => h) (Or.inl ⟨by rfl, ?_⟩) ?_ ?_; rotate_left
               ·intro w'; go_simp; with_reducible rfl
               rotate_left
               ·simp only [Act.put, M.sT_, M.s0_, M.s1_, i64_w, i32_w]; rfl
               refine pure_ (i := 3) (N := some 72) (v := ?_) (a' := ?_) #[true, true, true, true, false, false, false, false, false, false, false, false, false, false, false, false, false, false, false, false, false, false, false, false, false, false, false, false, false, false, false, false, false, false, false, false, false, false, false, false, false, false, false] rfl rfl (any_of HT_.out (by kernel_rfl)) (fun _ _ _ h => h) (Or.inl ⟨by rfl, ?_⟩) ?_ ?_; rotate_left
               ·intro w'; go_simp; with_reducible rfl
               rotate_left
               ·simp only [Act.put, M.sT_, M.s0_, M.s1_, i64_w, i32_w]; rfl
               refine pure_ (i := 4) (N := some 73) (v := ?_) (a' := ?_) #[true, true, true, true, true, false, false, false, false, false, false, false, false, false, false, false, false, false, false, false, false, false, false, false, false, false, false, false, false, false, false, false, false, false, false, false, false, false, false, false, false, false, false] rfl rfl (any_of HT_.out (by kernel_rfl)) (fun _ _ _ h => h) (Or.inl ⟨by rfl, ?_⟩) ?_ ?_; rotate_left
               ·intro w'; go_simp; with_reducible rfl
               rotate_left
               ·simp only [Act.put, M.sT_, M.s0_, M.s1_, i64_w, i32_w]; rfl
               refine pure_ (i := 5) (N := some 74) (v := ?_) (a' := ?_) #[true, true, true, true, true, true, false, false, false, false, false, false, false, false, false, false, false, false, false, false, false, false, false, false, false, false, false, false, false, false, false, false, false, false, false, false, false, false, false, false, false, false, false] rfl rfl (any_of HT_.out (by kernel_rfl)) (fun _ _ _ h => h) (Or.inl ⟨by rfl, ?_⟩) ?_ ?_; rotate_left
               ·intro w'; go_simp; with_reducible rfl
               rotate_left
               ·simp only [Act.put, M.sT_, M.s0_, M.s1_, i64_w, i32_w]; rfl
               refine pure_ (i := 6) (N := some 75) (v := ?_) (a' := ?_) #[true, true, true, true, true, true, true, false, false, false, false, false, false, false, false, false, false, false, false, false, false, false, false, false, false, false, false, false, false, false, false, false, false, false, false, false, false, false, false, false, false, false, false] rfl rfl (any_of HT_.out (by kernel_rfl)) (fun _ _ _ h => h) (Or.inl ⟨by rfl, ?_⟩) ?_ ?_; rotate_left
               ·intro w'; go_simp; with_reducible rfl
               rotate_left
               ·simp only [Act.put, M.sT_, M.s0_, M.s1_, i64_w, i32_w]; rfl
               refine pure_ (i := 7) (N := some 76) (v := ?_) (a' := ?_) #[true, true, true, true, true, true, true, true, false, false, false, false, false, false, false, false, false, false, false, false, false, false, false, false, false, false, false, false, false, false, false, false, false, false, false, false, false, false, false, false, false, false, false] rfl rfl (any_of HT_.out (by kernel_rfl)) (fun _ _ _ h => h) (Or.inl ⟨by rfl, ?_⟩) ?_ ?_; rotate_left
               ·intro w'; go_simp; with_reducible rfl
               rotate_left
               ·simp only [Act.put, M.sT_, M.s0_, M.s1_, i64_w, i32_w]; rfl
               refine take_ (i := 8) (N := some 77) (v := ?_) (a' := ?_) #[true, true, true, true, true, true, true, true, true, false, false, false, false, false, false, false, false, false, false, false, false, false, false, false, false, false, false, false, false, false, false, false, false, false, false, false, false, false, false, false, false, false, false] rfl rfl (take_ofW HT_.out HW_.out (by kernel_rfl)) (fun _ _ _ h => h) (Or.inl ⟨by rfl, ?_⟩) hHeld ?_ ?_
               rotate_left
               ·rintro w' ⟨s0, s1, s2, s3⟩
                go_simp; with_reducible rfl
               rotate_left
               ·simp only [Act.put, M.sT_, M.s0_, M.s1_, i64_w, i32_w]; rfl
               refine take_ (i := 9) (N := some 78) (v := ?_) (a' := ?_) #[true, true, true, true, true, true, true, true, true, true, false, false, false, false, false, false, false, false, false, false, false, false, false, false, false, false, false, false, false, false, false, false, false, false, false, false, false, false, false, false, false, false, false] rfl rfl (take_ofW HT_.out HW_.out (by kernel_rfl)) (fun _ _ _ h => h) (Or.inl ⟨by rfl, ?_⟩) hHeld ?_ ?_
               rotate_left
               ·rintro w' ⟨s0, s1, s2, s3⟩
                go_simp; with_reducible rfl
               rotate_left
               ·simp only [Act.put, M.sT_, M.s0_, M.s1_, i64_w, i32_w]; rfl
               refine pure_ (i := 10) (N := some 79) (v := ?_) (a' := ?_) #[true, true, true, true, true, true, true, true, true, true, true, false, false, false, false, false, false, false, false, false, false, false, false, false, false, false, false, false, false, false, false, false, false, false, false, false, false, false, false, false, false, false, false] rfl rfl (any_of HT_.out (by kernel_rfl)) (fun _ _ _ h => h) (Or.inl ⟨by rfl, ?_⟩) ?_ ?_; rotate_left
               ·intro w'; go_simp; with_reducible rfl
               rotate_left
               ·simp only [Act.put, M.sT_, M.s0_, M.s1_, i64_w, i32_w]; rfl
               refine pure_ (i := 11) (N := some 80) (v := ?_) (a' := ?_) #[true, true, true, true, true, true, true, true, true, true, true, true, false, false, false, false, false, false, false, false, false, false, false, false, false, false, false, false, false, false, false, false, false, false, false, false, false, false, false, false, false, false, false] rfl rfl (any_of HT_.out (by kernel_rfl)) (fun _ _ _ h => h) (Or.inl ⟨by rfl, ?_⟩) ?_ ?_; rotate_left
               ·intro w'; go_simp; with_reducible rfl
               rotate_left
               ·simp only [Act.put, M.sT_, M.s0_, M.s1_, i64_w, i32_w]; rfl
               refine pure_ (i := 12) (N := some 81) (v := ?_) (a' := ?_) #[true, true, true, true, true, true, true, true, true, true, true, true, true, false, false, false, false, false, false, false, false, false, false, false, false, false, false, false, false, false, false, false, false, false, false, false, false, false, false, false, false, false, false] rfl rfl (any_of HT_.out (by kernel_rfl)) (fun _ _ _ h => h) (Or.inl ⟨by rfl, ?_⟩) ?_ ?_; rotate_left
               ·intro w'; go_simp; with_reducible rfl
               rotate_left
               ·simp only [Act.put, M.sT_, M.s0_, M.s1_, i64_w, i32_w]; rfl
               refine pure_ (i := 13) (N := some 82) (v := ?_) (a' := ?_) #[true, true, true, true, true, true, true, true, true, true, true, true, true, true, false, false, false, false, false, false, false, false, false, false, false, false, false, false, false, false, false, false, false, false, false, false, false, false, false, false, false, false, false] rfl rfl (any_of HT_.out (by kernel_rfl)) (fun _ _ _ h => h) (Or.inl ⟨by rfl, ?_⟩) ?_ ?_; rotate_left
               ·intro w'; go_simp; with_reducible rfl
               rotate_left
               ·simp only [Act.put, M.sT_, M.s0_, M.s1_, i64_w, i32_w]; rfl
               refine pure_ (i := 15) (N := some 84) (v := ?_) (a' := ?_) #[true, true, true, true, true, true, true, true, true, true, true, true, true, true, false, true, false, false, false, false, false, false, false, false, false, false, false, false, false, false, false, false, false, false, false, false, false, false, false, false, false, false, false] rfl rfl (any_of HT_.out (by kernel_rfl)) (fun _ _ _ h => h) (Or.inl ⟨by rfl, ?_⟩) ?_ ?_; rotate_left
               ·intro w'; go_simp; with_reducible rfl
               rotate_left
               ·simp only [Act.put, M.sT_, M.s0_, M.s1_, i64_w, i32_w]; rfl
               refine one_ (i := 14) (N := some 83) #[true, true, true, true, true, true, true, true, true, true, true, true, true, true, true, true, false, false, false, false, false, false, false, false, false, false, false, false, false, false, false, false, false, false, false, false, false, false, false, false, false, false, false] rfl rfl (one_of HT_.out (by kernel_rfl)) (by decide) (fun K hK => ?_)
               refine goes_ Tryd.func14 (by kernel_rfl) rfl #[.string t380] (by rfl) rfl rfl (by first | rfl | (simp only [List.map_toArray, List.map_cons, List.map_nil, List.length_drop, List.length_take]; rfl)) ?_
               with_reducible refine (impl_DepthOfTree.calls t380 t391 _ A47.out).mono ?_
               rintro e w94 ⟨rfl, hb⟩
               refine ⟨_, rfl, ?_⟩
               have n0_ := Aside0.mk (blk_below (M.Lb BK377) hb)
               have n1_ := Aside0.mk (blk_below (M.Lb BK389) hb)
               have n2_ := Aside0.mk (below_step (M.Lw HB) hb)
               clear BK377; clear BK389; clear HB; have BK377 := n0_; have BK389 := n1_; have HB := n2_; clear n0_ n1_ n2_; (try clear hb); (try clear hb2); (try clear hk); (try clear hi)
               refine hK.out _ _ ⟨(blk_cell BK389.out 0).trans rfl, (blk_cell BK389.out 1).trans rfl, (blk_cell BK377.out 0).trans rfl, (blk_cell BK377.out 1).trans rfl⟩ (fun hHeld => ?_)
               clear hK K
               refine norm_ (a' := ?_) ?_ ?_
               rotate_left
               ·show Act.put _ (some 83) _ = _
                simp only [Act.put, M.sT_, M.s0_, M.s1_, i64_w, i32_w]; rfl
               refine pure_ (i := 16) (N := some 85) (v := ?_) (a' := ?_) #[true, true, true, true, true, true, true, true, true, true, true, true, true, true, true, true, true, false, false, false, false, false, false, false, false, false, false, false, false, false, false, false, false, false, false, false, false, false, false, false, false, false, false] rfl rfl (any_of HT_.out (by kernel_rfl)) (fun _ _ _ h => h) (Or.inl ⟨by rfl, ?_⟩) ?_ ?_; rotate_left
               ·intro w'; go_simp; with_reducible rfl
               rotate_left
               ·simp only [Act.put, M.sT_, M.s0_, M.s1_, i64_w, i32_w]; rfl
               refine pure_ (i := 17) (N := some 86) (v := ?_) (a' := ?_) #[true, true, true, true, true, true, true, true, true, true, true, true, true, true, true, true, true, true, false, false, false, false, false, false, false, false, false, false, false, false, false, false, false, false, false, false, false, false, false, false, false, false, false] rfl rfl (any_of HT_.out (by kernel_rfl)) (fun _ _ _ h => h) (Or.inl ⟨by rfl, ?_⟩) ?_ ?_; rotate_left
               ·intro w'; go_simp; with_reducible rfl
               rotate_left
               ·simp only [Act.put, M.sT_, M.s0_, M.s1_, i64_w, i32_w]; rfl
               refine pure_ (i := 18) (N := some 87) (v := ?_) (a' := ?_) #[true, true, true, true, true, true, true, true, true, true, true, true, true, true, true, true, true, true, true, false, false, false, false, false, false, false, false, false, false, false, false, false, false, false, false, false, false, false, false, false, false, false, false] rfl rfl (any_of HT_.out (by kernel_rfl)) (fun _ _ _ h => h) (Or.inl ⟨by rfl, ?_⟩) ?_ ?_; rotate_left
               ·intro w'; go_simp; with_reducible rfl
               rotate_left
               ·simp only [Act.put, M.sT_, M.s0_, M.s1_, i64_w, i32_w]; rfl
               refine pure_ (i := 19) (N := some 88) (v := ?_) (a' := ?_) #[true, true, true, true, true, true, true, true, true, true, true, true, true, true, true, true, true, true, true, true, false, false, false, false, false, false, false, false, false, false, false, false, false, false, false, false, false, false, false, false, false, false, false] rfl rfl (any_of HT_.out (by kernel_rfl)) (fun _ _ _ h => h) (Or.inl ⟨by rfl, ?_⟩) ?_ ?_; rotate_left
               ·intro w'; go_simp; with_reducible rfl
               rotate_left
               ·simp only [Act.put, M.sT_, M.s0_, M.s1_, i64_w, i32_w]; rfl
               refine pure_ (i := 20) (N := some 89) (v := ?_) (a' := ?_) #[true, true, true, true, true, true, true, true, true, true, true, true, true, true, true, true, true, true, true, true, true, false, false, false, false, false, false, false, false, false, false, false, false, false, false, false, false, false, false, false, false, false, false] rfl rfl (any_of HT_.out (by kernel_rfl)) (fun _ _ _ h => h) (Or.inl ⟨by rfl, ?_⟩) ?_ ?_; rotate_left
               ·intro w'; go_simp; with_reducible rfl
               rotate_left
               ·simp only [Act.put, M.sT_, M.s0_, M.s1_, i64_w, i32_w]; rfl
               refine pure_ (i := 21) (N := some 90) (v := ?_) (a' := ?_) #[true, true, true, true, true, true, true, true, true, true, true, true, true, true, true, true, true, true, true, true, true, true, false, false, false, false, false, false, false, false, false, false, false, false, false, false, false, false, false, false, false, false, false] rfl rfl (any_of HT_.out (by kernel_rfl)) (fun _ _ _ h => h) (Or.inl ⟨by rfl, ?_⟩) ?_ ?_; rotate_left
               ·intro w'; go_simp; with_reducible rfl
               rotate_left
               ·simp only [Act.put, M.sT_, M.s0_, M.s1_, i64_w, i32_w]; rfl
               refine take_ (i := 22) (N := some 91) (v := ?_) (a' := ?_) #[true, true, true, true, true, true, true, true, true, true, true, true, true, true, true, true, true, true, true, true, true, true, true, false, false, false, false, false, false, false, false, false, false, false, false, false, false, false, false, false, false, false, false] rfl rfl (take_ofW HT_.out HW_.out (by kernel_rfl)) (fun _ _ _ h => h) (Or.inl ⟨by rfl, ?_⟩) hHeld ?_ ?_
               rotate_left
               ·rintro w' ⟨s0, s1, s2, s3⟩
                go_simp; with_reducible rfl
               rotate_left
               ·simp only [Act.put, M.sT_, M.s0_, M.s1_, i64_w, i32_w]; rfl
               refine pure_ (i := 23) (N := some 92) (v := ?_) (a' := ?_) #[true, true, true, true, true, true, true, true, true, true, true, true, true, true, true, true, true, true, true, true, true, true, true, true, false, false, false, false, false, false, false, false, false, false, false, false, false, false, false, false, false, false, false] rfl rfl (any_of HT_.out (by kernel_rfl)) (fun _ _ _ h => h) (Or.inl ⟨by rfl, ?_⟩) ?_ ?_; rotate_left
               ·intro w'; go_simp; with_reducible rfl
               rotate_left
               ·simp only [Act.put, M.sT_, M.s0_, M.s1_, i64_w, i32_w]; rfl
               refine pure_ (i := 24) (N := some 93) (v := ?_) (a' := ?_) #[true, true, true, true, true, true, true, true, true, true, true, true, true, true, true, true, true, true, true, true, true, true, true, true, true, false, false, false, false, false, false, false, false, false, false, false, false, false, false, false, false, false, false] rfl rfl (any_of HT_.out (by kernel_rfl)) (fun _ _ _ h => h) (Or.inl ⟨by rfl, ?_⟩) ?_ ?_; rotate_left
               ·intro w'; go_simp; with_reducible rfl
               rotate_left
               ·simp only [Act.put, M.sT_, M.s0_, M.s1_, i64_w, i32_w]; rfl
               refine pure_ (i := 25) (N := some 94) (v := ?_) (a' := ?_) #[true, true, true, true, true, true, true, true, true, true, true, true, true, true, true, true, true, true, true, true, true, true, true, true, true, true, false, false, false, false, false, false, false, false, false, false, false, false, false, false, false, false, false] rfl rfl (any_of HT_.out (by kernel_rfl)) (fun _ _ _ h => h) (Or.inl ⟨by rfl, ?_⟩) ?_ ?_; rotate_left
               ·intro w'; go_simp; with_reducible rfl
               rotate_left
               ·simp only [Act.put, M.sT_, M.s0_, M.s1_, i64_w, i32_w]; rfl
               refine pure_ (i := 26) (N := some 95) (v := ?_) (a' := ?_) #[true, true, true, true, true, true, true, true, true, true, true, true, true, true, true, true, true, true, true, true, true, true, true, true, true, true, true, false, false, false, false, false, false, false, false, false, false, false, false, false, false, false, false] rfl rfl (any_of HT_.out (by kernel_rfl)) (fun _ _ _ h => h) (Or.inl ⟨by rfl, ?_⟩) ?_ ?_; rotate_left
               ·intro w'; go_simp; with_reducible rfl
               rotate_left
               ·simp only [Act.put, M.sT_, M.s0_, M.s1_, i64_w, i32_w]; rfl
               refine pure_ (i := 27) (N := some 96) (v := ?_) (a' := ?_) #[true, true, true, true, true, true, true, true, true, true, true, true, true, true, true, true, true, true, true, true, true, true, true, true, true, true, true, true, false, false, false, false, false, false, false, false, false, false, false, false, false, false, false] rfl rfl (any_of HT_.out (by kernel_rfl)) (fun _ _ _ h => h) (Or.inl ⟨by rfl, ?_⟩) ?_ ?_; rotate_left
               ·intro w'; go_simp; with_reducible rfl
               rotate_left
               ·simp only [Act.put, M.sT_, M.s0_, M.s1_, i64_w, i32_w]; rfl
               refine pure_ (i := 28) (N := some 97) (v := ?_) (a' := ?_) #[true, true, true, true, true, true, true, true, true, true, true, true, true, true, true, true, true, true, true, true, true, true, true, true, true, true, true, true, true, false, false, false, false, false, false, false, false, false, false, false, false, false, false] rfl rfl (any_of HT_.out (by kernel_rfl)) (fun _ _ _ h => h) (Or.inl ⟨by rfl, ?_⟩) ?_ ?_; rotate_left
               ·intro w'; go_simp; with_reducible rfl
               rotate_left
               ·simp only [Act.put, M.sT_, M.s0_, M.s1_, i64_w, i32_w]; rfl
               refine pure_ (i := 29) (N := some 98) (v := ?_) (a' := ?_) #[true, true, true, true, true, true, true, true, true, true, true, true, true, true, true, true, true, true, true, true, true, true, true, true, true, true, true, true, true, true, false, false, false, false, false, false, false, false, false, false, false, false, false] rfl rfl (any_of HT_.out (by kernel_rfl)) (fun _ _ _ h => h) (Or.inl ⟨by rfl, ?_⟩) ?_ ?_; rotate_left
               ·intro w'; go_simp; with_reducible rfl
               rotate_left
               ·simp only [Act.put, M.sT_, M.s0_, M.s1_, i64_w, i32_w]; rfl
               refine take_ (i := 30) (N := some 99) (v := ?_) (a' := ?_) #[true, true, true, true, true, true, true, true, true, true, true, true, true, true, true, true, true, true, true, true, true, true, true, true, true, true, true, true, true, true, true, false, false, false, false, false, false, false, false, false, false, false, false] rfl rfl (take_ofW HT_.out HW_.out (by kernel_rfl)) (fun _ _ _ h => h) (Or.inl ⟨by rfl, ?_⟩) hHeld ?_ ?_
               rotate_left
               ·rintro w' ⟨s0, s1, s2, s3⟩
                go_simp; with_reducible rfl
               rotate_left
               ·simp only [Act.put, M.sT_, M.s0_, M.s1_, i64_w, i32_w]; rfl
               refine one_ (i := 31) (N := some 100) #[true, true, true, true, true, true, true, true, true, true, true, true, true, true, true, true, true, true, true, true, true, true, true, true, true, true, true, true, true, true, true, true, false, false, false, false, false, false, false, false, false, false, false] rfl rfl (one_of HT_.out (by kernel_rfl)) (by decide) (fun K hK => ?_)
               refine goes_ Tryd.func15 (by kernel_rfl) rfl #[.string t380, .int .i64 t375] (by rfl) rfl rfl (by first | rfl | (simp only [List.map_toArray, List.map_cons, List.map_nil, List.length_drop, List.length_take]; rfl)) ?_
               with_reducible refine (impl_AverageOf.calls t380 t375 t392 _ A61.out).mono ?_
               rintro e w95 ⟨rfl, hb⟩
               refine ⟨_, rfl, ?_⟩
               have n0_ := Aside0.mk (blk_below (M.Lb BK377) hb)
               have n1_ := Aside0.mk (blk_below (M.Lb BK389) hb)
               have n2_ := Aside0.mk (below_step (M.Lw HB) hb)
               clear BK377; clear BK389; clear HB; have BK377 := n0_; have BK389 := n1_; have HB := n2_; clear n0_ n1_ n2_; (try clear hb); (try clear hb2); (try clear hk); (try clear hi)
               refine hK.out _ _ ⟨(blk_cell BK389.out 0).trans rfl, (blk_cell BK389.out 1).trans rfl, (blk_cell BK377.out 0).trans rfl, (blk_cell BK377.out 1).trans rfl⟩ (fun hHeld => ?_)
               clear hK K
               refine norm_ (a' := ?_) ?_ ?_
               rotate_left
               ·show Act.put _ (some 100) _ = _
                simp only [Act.put, M.sT_, M.s0_, M.s1_, i64_w, i32_w]; rfl
               refine pure_ (i := 32) (N := some 101) (v := ?_) (a' := ?_) #[true, true, true, true, true, true, true, true, true, true, true, true, true, true, true, true, true, true, true, true, true, true, true, true, true, true, true, true, true, true, true, true, true, false, false, false, false, false, false, false, false, false, false] rfl rfl (any_of HT_.out (by kernel_rfl)) (fun _ _ _ h => h) (Or.inl ⟨by rfl, ?_⟩) ?_ ?_; rotate_left
               ·intro w'; go_simp; with_reducible rfl
               rotate_left
               ·simp only [Act.put, M.sT_, M.s0_, M.s1_, i64_w, i32_w]; rfl
               refine pure_ (i := 33) (N := some 102) (v := ?_) (a' := ?_) #[true, true, true, true, true, true, true, true, true, true, true, true, true, true, true, true, true, true, true, true, true, true, true, true, true, true, true, true, true, true, true, true, true, true, false, false, false, false, false, false, false, false, false] rfl rfl (any_of HT_.out (by kernel_rfl)) (fun _ _ _ h => h) (Or.inl ⟨by rfl, ?_⟩) ?_ ?_; rotate_left
               ·intro w'; go_simp; with_reducible rfl
               rotate_left
               ·simp only [Act.put, M.sT_, M.s0_, M.s1_, i64_w, i32_w]; rfl
               refine pure_ (i := 34) (N := some 103) (v := ?_) (a' := ?_) #[true, true, true, true, true, true, true, true, true, true, true, true, true, true, true, true, true, true, true, true, true, true, true, true, true, true, true, true, true, true, true, true, true, true, true, false, false, false, false, false, false, false, false] rfl rfl (any_of HT_.out (by kernel_rfl)) (fun _ _ _ h => h) (Or.inl ⟨by rfl, ?_⟩) ?_ ?_; rotate_left
               ·intro w'; go_simp; with_reducible rfl
               rotate_left
               ·simp only [Act.put, M.sT_, M.s0_, M.s1_, i64_w, i32_w]; rfl
               refine pure_ (i := 37) (N := some 106) (v := ?_) (a' := ?_) #[true, true, true, true, true, true, true, true, true, true, true, true, true, true, true, true, true, true, true, true, true, true, true, true, true, true, true, true, true, true, true, true, true, true, true, false, false, true, false, false, false, false, false] rfl rfl (any_of HT_.out (by kernel_rfl)) (fun _ _ _ h => h) (Or.inl ⟨by rfl, ?_⟩) ?_ ?_; rotate_left
               ·intro w'; go_simp; with_reducible rfl
               rotate_left
               ·simp only [Act.put, M.sT_, M.s0_, M.s1_, i64_w, i32_w]; rfl
               refine pure_ (i := 38) (N := some 107) (v := ?_) (a' := ?_) #[true, true, true, true, true, true, true, true, true, true, true, true, true, true, true, true, true, true, true, true, true, true, true, true, true, true, true, true, true, true, true, true, true, true, true, false, false, true, true, false, false, false, false] rfl rfl (any_of HT_.out (by kernel_rfl)) (fun _ _ _ h => h) (Or.inl ⟨by rfl, ?_⟩) ?_ ?_; rotate_left
               ·intro w'; go_simp; with_reducible rfl
               rotate_left
               ·simp only [Act.put, M.sT_, M.s0_, M.s1_, i64_w, i32_w]; rfl
               refine take_ (i := 35) (N := some 104) (v := ?_) (a' := ?_) #[true, true, true, true, true, true, true, true, true, true, true, true, true, true, true, true, true, true, true, true, true, true, true, true, true, true, true, true, true, true, true, true, true, true, true, true, false, true, true, false, false, false, false] rfl rfl (take_ofW HT_.out HW_.out (by kernel_rfl)) (fun _ _ _ h => h) (Or.inl ⟨by rfl, ?_⟩) hHeld ?_ ?_
               rotate_left
               ·rintro w' ⟨s0, s1, s2, s3⟩
                go_simp; with_reducible rfl
               rotate_left
               ·simp only [Act.put, M.sT_, M.s0_, M.s1_, i64_w, i32_w]; rfl
               refine take_ (i := 39) (N := some 108) (v := ?_) (a' := ?_) #[true, true, true, true, true, true, true, true, true, true, true, true, true, true, true, true, true, true, true, true, true, true, true, true, true, true, true, true, true, true, true, true, true, true, true, true, false, true, true, true, false, false, false] rfl rfl (take_ofW HT_.out HW_.out (by kernel_rfl)) (fun _ _ _ h => h) (Or.inl ⟨by rfl, ?_⟩) hHeld ?_ ?_
               rotate_left
               ·rintro w' ⟨s0, s1, s2, s3⟩
                go_simp; with_reducible rfl
               rotate_left
               ·simp only [Act.put, M.sT_, M.s0_, M.s1_, i64_w, i32_w]; rfl
               refine pure_ (i := 40) (N := some 109) (v := ?_) (a' := ?_) #[true, true, true, true, true, true, true, true, true, true, true, true, true, true, true, true, true, true, true, true, true, true, true, true, true, true, true, true, true, true, true, true, true, true, true, true, false, true, true, true, true, false, false] rfl rfl (any_of HT_.out (by kernel_rfl)) (fun _ _ _ h => h) (Or.inl ⟨by rfl, ?_⟩) ?_ ?_; rotate_left
               ·intro w'; go_simp; with_reducible rfl
               rotate_left
               ·simp only [Act.put, M.sT_, M.s0_, M.s1_, i64_w, i32_w]; rfl
               refine one_ (i := 36) (N := some 105) #[true, true, true, true, true, true, true, true, true, true, true, true, true, true, true, true, true, true, true, true, true, true, true, true, true, true, true, true, true, true, true, true, true, true, true, true, true, true, true, true, true, false, false] rfl rfl (one_of HT_.out (by kernel_rfl)) (by decide) (fun K hK => ?_)
               refine goes_ Tryd.func16 (by kernel_rfl) rfl #[.agg #[.int .i64 t375, .int .i64 t376]] (by rfl) rfl rfl (by first | rfl | (simp only [List.map_toArray, List.map_cons, List.map_nil, List.length_drop, List.length_take]; rfl)) ?_
               with_reducible refine (impl_IsEvasive.calls t375 t376 t393 _ A73.out).mono ?_
               rintro e w96 ⟨rfl, hb⟩
               refine ⟨_, rfl, ?_⟩
               have n0_ := Aside0.mk (blk_below (M.Lb BK377) hb)
               have n1_ := Aside0.mk (blk_below (M.Lb BK389) hb)
               have n2_ := Aside0.mk (below_step (M.Lw HB) hb)
               clear BK377; clear BK389; clear HB; have BK377 := n0_; have BK389 := n1_; have HB := n2_; clear n0_ n1_ n2_; (try clear hb); (try clear hb2); (try clear hk); (try clear hi)
               refine hK.out _ _ ⟨(blk_cell BK389.out 0).trans rfl, (blk_cell BK389.out 1).trans rfl, (blk_cell BK377.out 0).trans rfl, (blk_cell BK377.out 1).trans rfl⟩ (fun hHeld => ?_)
               clear hK K
               refine norm_ (a' := ?_) ?_ ?_
               rotate_left
               ·show Act.put _ (some 105) _ = _
                simp only [Act.put, M.sT_, M.s0_, M.s1_, i64_w, i32_w]; rfl
               refine pure_ (i := 41) (N := some 110) (v := ?_) (a' := ?_) #[true, true, true, true, true, true, true, true, true, true, true, true, true, true, true, true, true, true, true, true, true, true, true, true, true, true, true, true, true, true, true, true, true, true, true, true, true, true, true, true, true, true, false] rfl rfl (any_of HT_.out (by kernel_rfl)) (fun _ _ _ h => h) (Or.inl ⟨by rfl, ?_⟩) ?_ ?_; rotate_left
               ·intro w'; go_simp; with_reducible rfl
               rotate_left
               ·simp only [Act.put, M.sT_, M.s0_, M.s1_, i64_w, i32_w]; rfl
               refine pure_ (i := 42) (N := some 111) (v := ?_) (a' := ?_) #[true, true, true, true, true, true, true, true, true, true, true, true, true, true, true, true, true, true, true, true, true, true, true, true, true, true, true, true, true, true, true, true, true, true, true, true, true, true, true, true, true, true, true] rfl rfl (any_of HT_.out (by kernel_rfl)) (fun _ _ _ h => h) (Or.inl ⟨by rfl, ?_⟩) ?_ ?_; rotate_left
               ·intro w'; go_simp; with_reducible rfl
               rotate_left
               ·simp only [Act.put, M.sT_, M.s0_, M.s1_, i64_w, i32_w]; rfl
               refine done_ (done_of HT_.out (by kernel_rfl)) ?_
               try go_wp2
               go_meet
               case rel => exact ⟨_, H', ⟨by have := HJ8.out; first | omega | exact Nat.le_refl _⟩, ⟨M.Lb BK377⟩, ⟨M.Lw HB⟩⟩
           ·rw [if_neg c49] at H
            exact absurd H (by simp)
          ·rw [if_neg c48] at H
           have c48b0 : (t391 == t382) = false := beq_eq_false_iff_ne.mpr c48
           have c48b1 : (t391 != t382) = true := bne_iff_ne.mpr c48
           exact absurd (Option.some.inj H) (by rw [HRT.out]; decide)
        ·replace c37 := Bool.eq_false_iff.mpr c37
         subst c37
         rw [if_neg (show ¬ (false = true) by decide)] at H
         (try dsimp only at H)
         exact absurd (Option.some.inj H) (by rw [HRT.out]; decide)
       ·replace c36 := Bool.eq_false_iff.mpr c36
        subst c36
        rw [if_neg (show ¬ (false = true) by decide)] at H
        (try dsimp only at H)
        exact absurd (Option.some.inj H) (by rw [HRT.out]; decide)
      ·replace c33 := Bool.eq_false_iff.mpr c33
       subst c33
       rw [if_neg (show ¬ (false = true) by decide)] at H
       (try dsimp only at H)
       have H' := Aside0.mk H
       clear H
       go_wp2
       go_meet
       case rel => exact ⟨_, H', ⟨by have := HJ8.out; first | omega | exact Nat.le_refl _⟩, ⟨M.Lb BK377⟩, ⟨M.Lw HB⟩⟩
     case rest =>
      as_aux_lemma =>
      clear HC32; (try clear c1); (try clear p2); (try clear c3); (try clear c10); (try clear c11); (try clear c12); (try clear c13); (try clear c33); (try clear c36); (try clear c37); (try clear c109); (try clear c117); (try clear hcz106_0); (try clear hcz106_1); (try clear hcz110_0); (try clear hcz110_1); (try clear hcz114_0); (try clear hcz114_1); (try clear hcz118_0); (try clear hcz118_1); (try clear hfz106_0); (try clear hfz106_1); (try clear hfz110_0); (try clear hfz110_1); (try clear hfz114_0); (try clear hfz114_1); (try clear hfz118_0); (try clear hfz118_1); obtain ⟨kq, HA, HJ31, BK377, HB⟩ := hcut
      cases kq with
      | zero => exact absurd HA.out (by simp [laws_FnTrees.j1])
      | succ kj31 =>
       have H := HA.out
       clear HA
       simp only [laws_FnTrees.j1] at H
       replace H := Option.bind_eq_some_iff.mp H; obtain ⟨⟨t394, t395⟩, A1220, H⟩ := H; (try dsimp only at H); have A122 := Aside0.mk A1220; clear A1220; replace H := Option.bind_eq_some_iff.mp H; obtain ⟨⟨t396, t397, t398⟩, A1230, H⟩ := H; (try dsimp only at H); have A123 := Aside0.mk A1230; clear A1230; replace H := Option.bind_eq_some_iff.mp H; obtain ⟨⟨t400, t401, t402⟩, A1240, H⟩ := H; (try dsimp only at H); have A124 := Aside0.mk A1240; clear A1240; have HC125 := Aside0.mk H; clear H
       go_upto_region 17 with (first | ((with_reducible refine gate_callee (f := 17) rfl ?_); refine goesL_ (some 114) rfl rfl Tryd.func17 (by kernel_rfl) rfl #[.slice A0 l0.length c0] rfl (by first | rfl | (simp only [List.map_toArray, List.map_cons, List.map_nil, List.length_drop, List.length_take]; rfl)) ?_; (with_reducible refine (spec_DrawTableOfTree.calls kj31 _ _ l0 t394 t395 _ ?side1 ?side2 A122.out).mono ?_); (case side1 => repeat (first | exact (Kd.C_below HR0.out HB.out) | (with_reducible refine Kd.C_alloc ?_ _) | (with_reducible refine Kd.C_drewN ?_ _) | (with_reducible refine Kd.C_drew ?_))); (case side2 => exact HC0.out); rintro e w126 ⟨rfl, hb⟩; refine ⟨_, rfl, ?_⟩; have n0_ := Aside0.mk (blk_below (M.Lb BK377) hb); have n1_ := Aside0.mk (below_step (by repeat (first | (with_reducible first | exact HB.out | apply below_alloc | apply pw_below_drewN | apply below_drew1 | refine below_set ?_ GE377.out) | exact HB.out)) hb); clear BK377; clear HB; have BK377 := n0_; have HB := n1_; clear n0_ n1_; (try clear hb); (try clear hb2); (try clear hk); (try clear hi)) | ((with_reducible refine gate_callee (f := 12) rfl ?_); refine goesL_ (some 120) rfl rfl Tryd.func12 (by kernel_rfl) rfl #[.string t394, .int .i64 t395] rfl (by first | rfl | (simp only [List.map_toArray, List.map_cons, List.map_nil, List.length_drop, List.length_take]; rfl)) ?_; (with_reducible refine (impl_TableOfTree.calls t394 t395 t396 t397 t398 _ A123.out).mono ?_); rintro e w127 ⟨rfl, hb⟩; refine ⟨_, rfl, ?_⟩; have n0_ := Aside0.mk (blk_below (M.Lb BK377) hb); have n1_ := Aside0.mk (below_step (by repeat (first | (with_reducible first | exact HB.out | apply below_alloc | apply pw_below_drewN | apply below_drew1 | refine below_set ?_ GE377.out) | exact HB.out)) hb); clear BK377; clear HB; have BK377 := n0_; have HB := n1_; clear n0_ n1_; (try clear hb); (try clear hb2); (try clear hk); (try clear hi)) | ((with_reducible refine gate_dst (N := 14) rfl ?_); (try (refine gate_guard (by rfl) ?_; dsimp only)); refine box_event ?hg (N := 14) ?hd (cs := #[.int .i64 0, .int .i64 0]) (t := 25) ?hr ?_; (case hd => rfl); (case hg => rfl); (case hr => first | (go_simp; done) | (go_simp; rfl)); intro gb399 hg w128 hbox hb; have n0_ := Aside0.mk (blk_below (M.Lb BK377) hb); have n1_ := Aside0.mk (below_step (by repeat (first | (with_reducible first | exact HB.out | apply below_alloc | apply pw_below_drewN | apply below_drew1 | refine below_set ?_ GE377.out) | exact HB.out)) hb); have n2_ := Aside0.mk (hbox); have n3_ := Aside0.mk ((by rw [hg]; exact (below_size (by repeat (first | (with_reducible first | exact HB.out | apply below_alloc | apply pw_below_drewN | apply below_drew1 | refine below_set ?_ GE377.out) | exact HB.out))) : w.heap.size ≤ gb399)); have n4_ := Aside0.mk ((by rw [hg]; exact (below_size (by repeat (first | (with_reducible first | exact HB.out | apply below_alloc | apply pw_below_drewN | apply below_drew1 | refine below_set ?_ GE377.out) | exact HB.out))) : w.heap.size ≤ gb399)); have n5_ := Aside0.mk ((by rw [hg]; exact Nat.ne_of_lt (blk_lt (M.Lb BK377)) : gb377 ≠ gb399)); have n6_ := Aside0.mk ((by rw [hg]; exact Nat.ne_of_gt (blk_lt (M.Lb BK377)) : gb399 ≠ gb377)); clear BK377; clear HB; have BK377 := n0_; have HB := n1_; have BK399 := n2_; have GW399 := n3_; have GE399 := n4_; have NB377_399 := n5_; have NB399_377 := n6_; clear n0_ n1_ n2_ n3_ n4_ n5_ n6_; clear hb hbox hg; have hnb129 := NB399_377.out; have hnc129 := NB377_399.out; have hcz130_0 : w128.cell? ⟨gb399, 0, none⟩ = some (.int .i64 0) := (blk_cell BK399.out 0).trans rfl; have hcz130_1 : w128.cell? ⟨gb399, 1, none⟩ = some (.int .i64 0) := (blk_cell BK399.out 1).trans rfl; have hfz130_0 := blk_frozen BK399.out 0; have hfz130_1 := blk_frozen BK399.out 1) | ((with_reducible refine gate_callee (f := 18) rfl ?_); refine goesL_ (some 126) rfl rfl Tryd.func18 (by kernel_rfl) rfl #[.string t394, .int .i64 t395] rfl (by first | rfl | (simp only [List.map_toArray, List.map_cons, List.map_nil, List.length_drop, List.length_take]; rfl)) ?_; (with_reducible refine (spec_TableOfTree.calls kj31 t394 t395 t400 t401 t402 _ A124.out).mono ?_); rintro e w131 ⟨rfl, hb⟩; refine ⟨_, rfl, ?_⟩; have n0_ := Aside0.mk (blk_below (g := gb377) (o := .cells #[.int .i64 t375, .int .i64 t376] 25 (0, 0)) (by (with_reducible repeat (first | refine blk_drewN ?_ _ | refine blk_drew ?_ | refine blk_alloc ?_ _)); refine blk_far ?_ NB377_399.out _; (with_reducible repeat (first | refine blk_drewN ?_ _ | refine blk_drew ?_ | refine blk_alloc ?_ _)); refine blk_far ?_ NB377_399.out _; (with_reducible repeat (first | refine blk_drewN ?_ _ | refine blk_drew ?_ | refine blk_alloc ?_ _)); exact BK377.out) hb); have n1_ := Aside0.mk (blk_below (g := gb399) (o := .cells #[.int .i64 t396, .int .i64 t397] 25 (0, 0)) (by (with_reducible repeat (first | refine blk_drewN ?_ _ | refine blk_drew ?_ | refine blk_alloc ?_ _)); refine blk_put (cs := #[.int .i64 t396, .int .i64 0]) ?_ 1 _ rfl; (with_reducible repeat (first | refine blk_drewN ?_ _ | refine blk_drew ?_ | refine blk_alloc ?_ _)); refine blk_put (cs := #[.int .i64 0, .int .i64 0]) ?_ 0 _ rfl; (with_reducible repeat (first | refine blk_drewN ?_ _ | refine blk_drew ?_ | refine blk_alloc ?_ _)); exact BK399.out) hb); have n2_ := Aside0.mk (below_step (by repeat (first | (with_reducible first | exact HB.out | apply below_alloc | apply pw_below_drewN | apply below_drew1 | refine below_set ?_ GE377.out | refine below_set ?_ GE399.out) | exact HB.out)) hb); clear BK377; clear BK399; clear HB; have BK377 := n0_; have BK399 := n1_; have HB := n2_; clear n0_ n1_ n2_; (try clear hb); (try clear hb2); (try clear hk); (try clear hi)) | ((with_reducible refine gate_dst (N := 16) rfl ?_); (try (refine gate_guard (by rfl) ?_; dsimp only)); refine box_event ?hg (N := 16) ?hd (cs := #[.int .i64 0, .int .i64 0]) (t := 25) ?hr ?_; (case hd => rfl); (case hg => rfl); (case hr => first | (go_simp; done) | (go_simp; rfl)); intro gb403 hg w132 hbox hb; have n0_ := Aside0.mk (blk_below (M.Lb BK377) hb); have n1_ := Aside0.mk (blk_below (M.Lb BK399) hb); have n2_ := Aside0.mk (below_step (by repeat (first | (with_reducible first | exact HB.out | apply below_alloc | apply pw_below_drewN | apply below_drew1 | refine below_set ?_ GE377.out | refine below_set ?_ GE399.out) | exact HB.out)) hb); have n3_ := Aside0.mk (hbox); have n4_ := Aside0.mk ((by rw [hg]; exact (below_size (by repeat (first | (with_reducible first | exact HB.out | apply below_alloc | apply pw_below_drewN | apply below_drew1 | refine below_set ?_ GE377.out | refine below_set ?_ GE399.out) | exact HB.out))) : w.heap.size ≤ gb403)); have n5_ := Aside0.mk ((by rw [hg]; exact (below_size (by repeat (first | (with_reducible first | exact HB.out | apply below_alloc | apply pw_below_drewN | apply below_drew1 | refine below_set ?_ GE377.out | refine below_set ?_ GE399.out) | exact HB.out))) : w.heap.size ≤ gb403)); have n6_ := Aside0.mk ((by rw [hg]; exact Nat.ne_of_lt (blk_lt (M.Lb BK377)) : gb377 ≠ gb403)); have n7_ := Aside0.mk ((by rw [hg]; exact Nat.ne_of_gt (blk_lt (M.Lb BK377)) : gb403 ≠ gb377)); have n8_ := Aside0.mk ((by rw [hg]; exact Nat.ne_of_lt (blk_lt (M.Lb BK399)) : gb399 ≠ gb403)); have n9_ := Aside0.mk ((by rw [hg]; exact Nat.ne_of_gt (blk_lt (M.Lb BK399)) : gb403 ≠ gb399)); clear BK377; clear BK399; clear HB; have BK377 := n0_; have BK399 := n1_; have HB := n2_; have BK403 := n3_; have GW403 := n4_; have GE403 := n5_; have NB377_403 := n6_; have NB403_377 := n7_; have NB399_403 := n8_; have NB403_399 := n9_; clear n0_ n1_ n2_ n3_ n4_ n5_ n6_ n7_ n8_ n9_; clear hb hbox hg; have hnb133 := NB403_377.out; have hnc133 := NB377_403.out; have hnb134 := NB403_399.out; have hnc134 := NB399_403.out; have hcz135_0 : w132.cell? ⟨gb403, 0, none⟩ = some (.int .i64 0) := (blk_cell BK403.out 0).trans rfl; have hcz135_1 : w132.cell? ⟨gb403, 1, none⟩ = some (.int .i64 0) := (blk_cell BK403.out 1).trans rfl; have hfz135_0 := blk_frozen BK403.out 0; have hfz135_1 := blk_frozen BK403.out 1))
       (try simp only [Act.put, M.sT_, M.s0_, M.s1_])
       go_cut [136] (fun v136 wc => ∃ (kq : Nat) (x136_124 : Bool), v136 = .bool x136_124 ∧ Aside0 (laws_FnTrees.j2 kq l0 t394 t395 t398 x136_124 t400 t401 = some r) ∧ Aside0 (kq ≤ kj31) ∧ Aside0 (wc.heap[gb377]? = some (.cells #[.int .i64 t375, .int .i64 t376] 25 (0, 0))) ∧ Aside0 (wc.heap[gb399]? = some (.cells #[.int .i64 t396, .int .i64 t397] 25 (0, 0))) ∧ Aside0 (wc.heap[gb403]? = some (.cells #[.int .i64 t400, .int .i64 t401] 25 (0, 0))) ∧ Aside0 (Below w.heap.size w wc))
       case first =>
        as_aux_lemma =>
        have H := HC125.out
        clear HC125
        by_cases c136 : (!(t396 == t400) || (!(t397 == t401))) = true
        ·rw [if_pos c136] at H
         have c136b0 : (!(t396 == t400) || (!(t397 == t401))) = true := c136
         clear c136
         (first | rw [c136b0] | (simp only [i64_w, i32_w]; rw [c136b0]) | skip)
         first | exact (laws_FnTrees.j0_dead H HRT.out).elim | exact (laws_FnTrees.j2_dead H HRT.out).elim | exact (laws_FnTrees.j3_dead H HRT.out).elim
        ·rw [if_neg c136] at H
         have c136b0 : (!(t396 == t400) || (!(t397 == t401))) = false := by simpa using c136
         clear c136
         (first | rw [c136b0] | (simp only [i64_w, i32_w]; rw [c136b0]) | skip)
         have H' := Aside0.mk H
         clear H
         have hnb142 := NB399_377.out
         have hnc142 := NB377_399.out
         have hnb143 := NB399_403.out
         have hnc143 := NB403_399.out
         have hcz144_0 : w132.cell? ⟨gb399, 0, none⟩ = some (.int .i64 t396) := (blk_cell BK399.out 0).trans rfl
         have hcz144_1 : w132.cell? ⟨gb399, 1, none⟩ = some (.int .i64 t397) := (blk_cell BK399.out 1).trans rfl
         have hfz144_0 := blk_frozen BK399.out 0
         have hfz144_1 := blk_frozen BK399.out 1
         have hnb145 := NB403_377.out
         have hnc145 := NB377_403.out
         have hcz146_0 : w132.cell? ⟨gb403, 0, none⟩ = some (.int .i64 0) := (blk_cell BK403.out 0).trans rfl
         have hcz146_1 : w132.cell? ⟨gb403, 1, none⟩ = some (.int .i64 0) := (blk_cell BK403.out 1).trans rfl
         have hfz146_0 := blk_frozen BK403.out 0
         have hfz146_1 := blk_frozen BK403.out 1
         go_wp2
         go_meet
         case rel => exact ⟨_, ((t398 != t402)), (by first | rfl | (simp; done) | (simp [*]; done)), H', ⟨by have := HJ8.out; have := HJ31.out; first | omega | exact Nat.le_refl _⟩, ⟨by (with_reducible repeat (first | refine blk_drewN ?_ _ | refine blk_drew ?_ | refine blk_alloc ?_ _)); refine blk_far ?_ NB377_403.out _; (with_reducible repeat (first | refine blk_drewN ?_ _ | refine blk_drew ?_ | refine blk_alloc ?_ _)); refine blk_far ?_ NB377_403.out _; (with_reducible repeat (first | refine blk_drewN ?_ _ | refine blk_drew ?_ | refine blk_alloc ?_ _)); exact BK377.out⟩, ⟨by (with_reducible repeat (first | refine blk_drewN ?_ _ | refine blk_drew ?_ | refine blk_alloc ?_ _)); refine blk_far ?_ NB399_403.out _; (with_reducible repeat (first | refine blk_drewN ?_ _ | refine blk_drew ?_ | refine blk_alloc ?_ _)); refine blk_far ?_ NB399_403.out _; (with_reducible repeat (first | refine blk_drewN ?_ _ | refine blk_drew ?_ | refine blk_alloc ?_ _)); exact BK399.out⟩, ⟨by (with_reducible repeat (first | refine blk_drewN ?_ _ | refine blk_drew ?_ | refine blk_alloc ?_ _)); refine blk_put (cs := #[.int .i64 t400, .int .i64 0]) ?_ 1 _ rfl; (with_reducible repeat (first | refine blk_drewN ?_ _ | refine blk_drew ?_ | refine blk_alloc ?_ _)); refine blk_put (cs := #[.int .i64 0, .int .i64 0]) ?_ 0 _ rfl; (with_reducible repeat (first | refine blk_drewN ?_ _ | refine blk_drew ?_ | refine blk_alloc ?_ _)); exact BK403.out⟩, ⟨by repeat (first | (with_reducible first | exact HB.out | apply below_alloc | apply pw_below_drewN | apply below_drew1 | refine below_set ?_ GE377.out | refine below_set ?_ GE399.out | refine below_set ?_ GE403.out) | exact HB.out)⟩⟩
       case rest =>
        as_aux_lemma =>
        clear HC125; (try clear c1); (try clear p2); (try clear c3); (try clear c10); (try clear c11); (try clear c12); (try clear c13); (try clear c14); (try clear c17); (try clear c18); (try clear c33); (try clear c36); (try clear c37); (try clear c109); (try clear c117); (try clear c129); (try clear c133); (try clear c134); (try clear c136); (try clear c136b0); (try clear c137); (try clear c138); (try clear c140); (try clear c142); (try clear c143); (try clear c145); (try clear hcz106_0); (try clear hcz106_1); (try clear hcz110_0); (try clear hcz110_1); (try clear hcz114_0); (try clear hcz114_1)
        (try clear hcz118_0); (try clear hcz118_1); (try clear hcz130_0); (try clear hcz130_1); (try clear hcz135_0); (try clear hcz135_1); (try clear hcz139_0); (try clear hcz139_1); (try clear hcz141_0); (try clear hcz141_1); (try clear hcz144_0); (try clear hcz144_1); (try clear hcz146_0); (try clear hcz146_1); (try clear hfz106_0); (try clear hfz106_1); (try clear hfz110_0); (try clear hfz110_1); (try clear hfz114_0); (try clear hfz114_1); (try clear hfz118_0); (try clear hfz118_1); (try clear hfz130_0); (try clear hfz130_1); (try clear hfz135_0); (try clear hfz135_1); (try clear hfz139_0)
        (try clear hfz139_1); (try clear hfz141_0); (try clear hfz141_1); (try clear hfz144_0); (try clear hfz144_1); (try clear hfz146_0); (try clear hfz146_1); (try clear p2); obtain ⟨kq, x136_124, rfl, HA, HJ124, BK377, BK399, BK403, HB⟩ := hcut
        cases kq with
        | zero => exact absurd HA.out (by simp [laws_FnTrees.j2])
        | succ kj124 =>
         have H := HA.out
         clear HA
         simp only [laws_FnTrees.j2] at H
         by_cases c147 : x136_124 = true
         ·subst c147
          rw [if_pos rfl] at H
          (try dsimp only at H)
          exact absurd (Option.some.inj H) (by rw [HRT.out]; decide)
         ·replace c147 := Bool.eq_false_iff.mpr c147
          subst c147
          rw [if_neg (show ¬ (false = true) by decide)] at H
          (try dsimp only at H); have HC148 := Aside0.mk H; clear H
          go_upto_region 19 with (fail)
          go_cut [156] (fun v156 wc => ∃ (kq : Nat) (x156_147 : Bool), v156 = .bool x156_147 ∧ Aside0 (laws_FnTrees.j3 kq l0 x156_147 = some r) ∧ Aside0 (kq ≤ kj124) ∧ Aside0 (wc.heap[gb377]? = some (.cells #[.int .i64 t375, .int .i64 t376] 25 (0, 0))) ∧ Aside0 (wc.heap[gb399]? = some (.cells #[.int .i64 t396, .int .i64 t397] 25 (0, 0))) ∧ Aside0 (wc.heap[gb403]? = some (.cells #[.int .i64 t400, .int .i64 t401] 25 (0, 0))) ∧ Aside0 (Below w.heap.size w wc))
          case first =>
           as_aux_lemma =>
           have H := HC148.out
           clear HC148
           by_cases c149 : t398 = true
           ·subst c149
            rw [if_pos rfl] at H
            (try dsimp only at H)
            by_cases c150 : t395 ≤ 4
            ·rw [if_pos c150] at H
             have c150b0 : decide (t395 ≤ 4) = true := decide_eq_true c150
             clear c150
             (first | rw [c150b0] | (simp only [i64_w, i32_w]; rw [c150b0]) | skip)
             replace H := Option.bind_eq_some_iff.mp H; obtain ⟨t404, A1510, H⟩ := H; (try dsimp only at H); have A151 := Aside0.mk A1510; clear A1510; replace H := Option.bind_eq_some_iff.mp H; obtain ⟨t405, A1520, H⟩ := H; (try dsimp only at H); have A152 := Aside0.mk A1520; clear A1520
             by_cases c153 : t404 > t405
             ·rw [if_pos c153] at H
              have c153b0 : decide (t405 < t404) = true := decide_eq_true c153
              clear c153
              first | exact (laws_FnTrees.j0_dead H HRT.out).elim | exact (laws_FnTrees.j2_dead H HRT.out).elim | exact (laws_FnTrees.j3_dead H HRT.out).elim
             ·rw [if_neg c153] at H
              have c153b0 : decide (t405 < t404) = false := decide_eq_false c153
              clear c153; replace H := Option.bind_eq_some_iff.mp H; obtain ⟨t406, A1590, H⟩ := H; (try dsimp only at H); have A159 := Aside0.mk A1590; clear A1590; replace H := Option.bind_eq_some_iff.mp H; obtain ⟨t407, A1600, H⟩ := H
              replace H : (laws_FnTrees.j3 kj124 l0 (decide (t406 > t407))) = some r := H
              have A160 := Aside0.mk A1600; clear A1600
              have H' := Aside0.mk H
              clear H
              have hnb161 := NB403_377.out
              have hnc161 := NB377_403.out
              have hnb162 := NB403_399.out
              have hnc162 := NB399_403.out
              have hcz163_0 : wc.cell? ⟨gb403, 0, none⟩ = some (.int .i64 t400) := (blk_cell BK403.out 0).trans rfl
              have hcz163_1 : wc.cell? ⟨gb403, 1, none⟩ = some (.int .i64 t401) := (blk_cell BK403.out 1).trans rfl
              have hfz163_0 := blk_frozen BK403.out 0
              have hfz163_1 := blk_frozen BK403.out 1
              go_wp2_with (first | (go_at_call 8; (with_reducible refine (impl_LeastDepth.calls t400 t401 t404 _ A151.out).mono ?_); rintro e w164 ⟨rfl, hb⟩; have n0_ := Aside0.mk (blk_below (M.Lb BK377) hb); have n1_ := Aside0.mk (blk_below (M.Lb BK399) hb); have n2_ := Aside0.mk (blk_below (M.Lb BK403) hb); have n3_ := Aside0.mk (below_step (M.Lw HB) hb); clear BK377; clear BK399; clear BK403; clear HB; have BK377 := n0_; have BK399 := n1_; have BK403 := n2_; have HB := n3_; clear n0_ n1_ n2_ n3_; (try clear hb); (try clear hb2); (try clear hk); (try clear hi)) | (go_at_call 14; (with_reducible refine (impl_DepthOfTree.calls t394 t405 _ A152.out).mono ?_); rintro e w165 ⟨rfl, hb⟩; have n0_ := Aside0.mk (blk_below (M.Lb BK377) hb); have n1_ := Aside0.mk (blk_below (M.Lb BK399) hb); have n2_ := Aside0.mk (blk_below (M.Lb BK403) hb); have n3_ := Aside0.mk (below_step (M.Lw HB) hb); clear BK377; clear BK399; clear BK403; clear HB; have BK377 := n0_; have BK399 := n1_; have BK403 := n2_; have HB := n3_; clear n0_ n1_ n2_ n3_; (try clear hb); (try clear hb2); (try clear hk); (try clear hi); have hcz166_0 : w165.cell? ⟨gb403, 0, none⟩ = some (.int .i64 t400) := (blk_cell BK403.out 0).trans rfl; have hcz166_1 : w165.cell? ⟨gb403, 1, none⟩ = some (.int .i64 t401) := (blk_cell BK403.out 1).trans rfl; have hfz166_0 := blk_frozen BK403.out 0; have hfz166_1 := blk_frozen BK403.out 1) | (go_at_call 9; (with_reducible refine (impl_LeastAverage.calls t400 t401 t406 _ A159.out).mono ?_); rintro e w167 ⟨rfl, hb⟩; have n0_ := Aside0.mk (blk_below (M.Lb BK377) hb); have n1_ := Aside0.mk (blk_below (M.Lb BK399) hb); have n2_ := Aside0.mk (blk_below (M.Lb BK403) hb); have n3_ := Aside0.mk (below_step (M.Lw HB) hb); clear BK377; clear BK399; clear BK403; clear HB; have BK377 := n0_; have BK399 := n1_; have BK403 := n2_; have HB := n3_; clear n0_ n1_ n2_ n3_; (try clear hb); (try clear hb2); (try clear hk); (try clear hi)) | (go_at_call 15; (with_reducible refine (impl_AverageOf.calls t394 t395 t407 _ A160.out).mono ?_); rintro e w168 ⟨rfl, hb⟩; have n0_ := Aside0.mk (blk_below (M.Lb BK377) hb); have n1_ := Aside0.mk (blk_below (M.Lb BK399) hb); have n2_ := Aside0.mk (blk_below (M.Lb BK403) hb); have n3_ := Aside0.mk (below_step (M.Lw HB) hb); clear BK377; clear BK399; clear BK403; clear HB; have BK377 := n0_; have BK399 := n1_; have BK403 := n2_; have HB := n3_; clear n0_ n1_ n2_ n3_; (try clear hb); (try clear hb2); (try clear hk); (try clear hi)))
              go_meet
              case rel => exact ⟨_, (decide (t406 > t407)), (by first | rfl | (simp; done) | (simp [*]; done)), H', ⟨by have := HJ8.out; have := HJ31.out; have := HJ124.out; first | omega | exact Nat.le_refl _⟩, ⟨M.Lb BK377⟩, ⟨M.Lb BK399⟩, ⟨M.Lb BK403⟩, ⟨M.Lw HB⟩⟩
            ·rw [if_neg c150] at H
             have c150b0 : decide (t395 ≤ 4) = false := decide_eq_false c150
             clear c150
             (first | rw [c150b0] | (simp only [i64_w, i32_w]; rw [c150b0]) | skip)
             have H' := Aside0.mk H
             clear H
             go_wp2
             go_meet
             case rel => exact ⟨_, (false), (by first | rfl | (simp; done) | (simp [*]; done)), H', ⟨by have := HJ8.out; have := HJ31.out; have := HJ124.out; first | omega | exact Nat.le_refl _⟩, ⟨M.Lb BK377⟩, ⟨M.Lb BK399⟩, ⟨M.Lb BK403⟩, ⟨M.Lw HB⟩⟩
           ·replace c149 := Bool.eq_false_iff.mpr c149
            subst c149
            rw [if_neg (show ¬ (false = true) by decide)] at H
            (try dsimp only at H)
            have H' := Aside0.mk H
            clear H
            go_wp2
            go_meet
            case rel => exact ⟨_, (false), (by first | rfl | (simp; done) | (simp [*]; done)), H', ⟨by have := HJ8.out; have := HJ31.out; have := HJ124.out; first | omega | exact Nat.le_refl _⟩, ⟨M.Lb BK377⟩, ⟨M.Lb BK399⟩, ⟨M.Lb BK403⟩, ⟨M.Lw HB⟩⟩
          case rest =>
           as_aux_lemma =>
           clear HC148; (try clear c1); (try clear p2); (try clear c3); (try clear c10); (try clear c11); (try clear c12); (try clear c13); (try clear c14); (try clear c15); (try clear c16); (try clear c17); (try clear c18); (try clear c33); (try clear c36); (try clear c37); (try clear c109); (try clear c117); (try clear c129); (try clear c133); (try clear c134); (try clear c136); (try clear c136b0); (try clear c137); (try clear c138); (try clear c140); (try clear c142); (try clear c143); (try clear c145); (try clear c147); (try clear c149); (try clear c150); (try clear c150b0); (try clear c153)
           (try clear c153b0); (try clear c154); (try clear c155); (try clear c161); (try clear c162); (try clear hcz106_0); (try clear hcz106_1); (try clear hcz110_0); (try clear hcz110_1); (try clear hcz114_0); (try clear hcz114_1); (try clear hcz118_0); (try clear hcz118_1); (try clear hcz130_0); (try clear hcz130_1); (try clear hcz135_0); (try clear hcz135_1); (try clear hcz139_0); (try clear hcz139_1); (try clear hcz141_0); (try clear hcz141_1); (try clear hcz144_0); (try clear hcz144_1); (try clear hcz146_0); (try clear hcz146_1); (try clear hcz156_0); (try clear hcz156_1); (try clear hcz163_0)
           (try clear hcz163_1); (try clear hcz166_0); (try clear hcz166_1); (try clear hfz106_0); (try clear hfz106_1); (try clear hfz110_0); (try clear hfz110_1); (try clear hfz114_0); (try clear hfz114_1); (try clear hfz118_0); (try clear hfz118_1); (try clear hfz130_0); (try clear hfz130_1); (try clear hfz135_0); (try clear hfz135_1); (try clear hfz139_0); (try clear hfz139_1); (try clear hfz141_0); (try clear hfz141_1); (try clear hfz144_0); (try clear hfz144_1); (try clear hfz146_0); (try clear hfz146_1); (try clear hfz156_0); (try clear hfz156_1); (try clear hfz163_0); (try clear hfz163_1)
           (try clear hfz166_0); (try clear hfz166_1); (try clear p2); obtain ⟨kq, x156_147, rfl, HA, HJ147, BK377, BK399, BK403, HB⟩ := hcut
           cases kq with
           | zero => exact absurd HA.out (by simp [laws_FnTrees.j3])
           | succ kj147 =>
            have H := HA.out
            clear HA
            simp only [laws_FnTrees.j3] at H
            by_cases c169 : x156_147 = true
            ·subst c169
             rw [if_pos rfl] at H
             (try dsimp only at H)
             exact absurd (Option.some.inj H) (by rw [HRT.out]; decide)
            ·replace c169 := Bool.eq_false_iff.mpr c169
             subst c169
             rw [if_neg (show ¬ (false = true) by decide)] at H
             (try dsimp only at H); replace H := Option.bind_eq_some_iff.mp H; obtain ⟨⟨t408, t409⟩, A1700, H⟩ := H; (try dsimp only at H); have A170 := Aside0.mk A1700; clear A1700; replace H := Option.bind_eq_some_iff.mp H; obtain ⟨⟨t410, t411⟩, A1710, H⟩ := H; (try dsimp only at H); have A171 := Aside0.mk A1710; clear A1710; replace H := Option.bind_eq_some_iff.mp H; obtain ⟨t412, A1720, H⟩ := H; (try dsimp only at H); have A172 := Aside0.mk A1720; clear A1720; replace H := Option.bind_eq_some_iff.mp H; obtain ⟨t413, A1730, H⟩ := H; (try dsimp only at H); have A173 := Aside0.mk A1730
             clear A1730
             by_cases c174 : t412 = t413
             ·rw [if_pos c174] at H
              have c174b0 : (t412 == t413) = true := beq_iff_eq.mpr c174
              have c174b1 : (t412 != t413) = false := bne_eq_false_iff_eq.mpr c174
              clear c174; replace H := Option.bind_eq_some_iff.mp H; obtain ⟨t414, A1750, H⟩ := H; (try dsimp only at H); have A175 := Aside0.mk A1750; clear A1750
              obtain ⟨ji176, hji176⟩ : ∃ j_ : Int, (mx 0 t414) = j_ := ⟨_, rfl⟩
              replace H : (if t412 ≤ (ji176) then ((impl_AverageOf.f t410 t411).bind fun t415 => ((spec_AverageOf.f kj147 t410 t411).bind fun t416 => (if t415 = t416 then ((impl_IsTree.f t408).bind fun t417 => ((spec_IsTree.f kj147 t408).bind fun t418 => (if (t417 == t418) = true then ((impl_DepthOfTree.f t408).bind fun t419 => ((spec_DepthOfTree.f kj147 t408).bind fun t420 => (some (t419 == t420)))) else (some false)))) else (some false)))) else (some false)) = some r := by first | (rw [hji176] at H; exact H) | (simp only [hji176] at H ⊢; exact H)
              (try rw [hji176] at A170)
              (try rw [hji176] at A171)
              (try rw [hji176] at A172)
              (try rw [hji176] at A173)
              (try rw [hji176] at A175)
              (try (have hji176l : 0 ≤ ji176 := by (rw [← hji176]; unfold mx; (repeat' split) <;> omega)))
              (try (have hji176m : 0 ≤ ji176 := by omega))
              have hji176_ : (if 0 < t414 then t414 else 0) = ji176 := hji176
              by_cases c177 : t412 ≤ (ji176)
              ·rw [if_pos c177] at H
               have c177b0 : decide (t412 ≤ (ji176)) = true := decide_eq_true c177
               clear c177; replace H := Option.bind_eq_some_iff.mp H; obtain ⟨t415, A1780, H⟩ := H; (try dsimp only at H); have A178 := Aside0.mk A1780; clear A1780; replace H := Option.bind_eq_some_iff.mp H; obtain ⟨t416, A1790, H⟩ := H; (try dsimp only at H); have A179 := Aside0.mk A1790; clear A1790
               by_cases c180 : t415 = t416
               ·rw [if_pos c180] at H
                have c180b0 : (t415 == t416) = true := beq_iff_eq.mpr c180
                have c180b1 : (t415 != t416) = false := bne_eq_false_iff_eq.mpr c180
                clear c180; replace H := Option.bind_eq_some_iff.mp H; obtain ⟨t417, A1810, H⟩ := H; (try dsimp only at H); have A181 := Aside0.mk A1810; clear A1810; replace H := Option.bind_eq_some_iff.mp H; obtain ⟨t418, A1820, H⟩ := H; (try dsimp only at H); have A182 := Aside0.mk A1820; clear A1820
                by_cases c183 : (t417 == t418) = true
                ·rw [if_pos c183] at H
                 have c183b0 : (t417 == t418) = true := c183
                 (try (have c183b1 : decide (t417 = t418) = true := by simpa using c183))
                 (try (have c183b2 : (t417 == t418) = true := by simpa using c183))
                 clear c183; replace H := Option.bind_eq_some_iff.mp H; obtain ⟨t419, A1840, H⟩ := H
                 have A184q : t414 = t419 := Option.some.inj (A175.out.symm.trans A1840)
                 subst A184q; clear A1840
                 replace H : ((spec_DepthOfTree.f kj147 t408).bind fun t420 => (some (t414 == t420))) = some r := H
                 replace H := Option.bind_eq_some_iff.mp H; obtain ⟨t420, A1850, H⟩ := H
                 replace H : (some (t414 == t420)) = some r := H
                 have A185 := Aside0.mk A1850; clear A1850
                 obtain rfl := Option.some.inj H
                 go_wp2_with (first | ((with_reducible refine gate_callee (f := 19) rfl ?_); refine goesL_ (some 159) rfl rfl Tryd.func19 (by kernel_rfl) rfl #[.slice A0 l0.length c0] rfl (by first | rfl | (simp only [List.map_toArray, List.map_cons, List.map_nil, List.length_drop, List.length_take]; rfl)) ?_; (with_reducible refine (spec_DrawQueriesOf.calls kj147 _ _ l0 t408 t409 _ ?side1 ?side2 A170.out).mono ?_); (case side1 => repeat (first | exact (Kd.C_below HR0.out HB.out) | (with_reducible refine Kd.C_alloc ?_ _) | (with_reducible refine Kd.C_drewN ?_ _) | (with_reducible refine Kd.C_drew ?_))); (case side2 => exact HC0.out); rintro e w186 ⟨rfl, hb⟩; refine ⟨_, rfl, ?_⟩; have n0_ := Aside0.mk (blk_below (M.Lb BK377) hb); have n1_ := Aside0.mk (blk_below (M.Lb BK399) hb); have n2_ := Aside0.mk (blk_below (M.Lb BK403) hb); have n3_ := Aside0.mk (below_step (M.Lw HB) hb); clear BK377; clear BK399; clear BK403; clear HB; have BK377 := n0_; have BK399 := n1_; have BK403 := n2_; have HB := n3_; clear n0_ n1_ n2_ n3_; (try clear hb); (try clear hb2); (try clear hk); (try clear hi)) | ((with_reducible refine gate_callee (f := 20) rfl ?_); refine goesL_ (some 164) rfl rfl Tryd.func20 (by kernel_rfl) rfl #[.slice A0 l0.length c0] rfl (by first | rfl | (simp only [List.map_toArray, List.map_cons, List.map_nil, List.length_drop, List.length_take]; rfl)) ?_; (with_reducible refine (spec_DrawAverageOf.calls kj147 _ _ l0 t410 t411 _ ?side1 ?side2 A171.out).mono ?_); (case side1 => repeat (first | exact (Kd.C_below HR0.out HB.out) | (with_reducible refine Kd.C_alloc ?_ _) | (with_reducible refine Kd.C_drewN ?_ _) | (with_reducible refine Kd.C_drew ?_))); (case side2 => exact HC0.out); rintro e w187 ⟨rfl, hb⟩; refine ⟨_, rfl, ?_⟩; have n0_ := Aside0.mk (blk_below (M.Lb BK377) hb); have n1_ := Aside0.mk (blk_below (M.Lb BK399) hb); have n2_ := Aside0.mk (blk_below (M.Lb BK403) hb); have n3_ := Aside0.mk (below_step (M.Lw HB) hb); clear BK377; clear BK399; clear BK403; clear HB; have BK377 := n0_; have BK399 := n1_; have BK403 := n2_; have HB := n3_; clear n0_ n1_ n2_ n3_; (try clear hb); (try clear hb2); (try clear hk); (try clear hi)) | ((with_reducible refine gate_callee (f := 21) rfl ?_); refine goesL_ (some 169) rfl rfl Tryd.func21 (by kernel_rfl) rfl #[.string t408, .int .i64 t409] rfl (by first | rfl | (simp only [List.map_toArray, List.map_cons, List.map_nil, List.length_drop, List.length_take]; rfl)) ?_; (with_reducible refine (impl_QueriesOf.calls t408 t409 t412 _ A172.out).mono ?_); rintro e w188 ⟨rfl, hb⟩; refine ⟨_, rfl, ?_⟩; have n0_ := Aside0.mk (blk_below (M.Lb BK377) hb); have n1_ := Aside0.mk (blk_below (M.Lb BK399) hb); have n2_ := Aside0.mk (blk_below (M.Lb BK403) hb); have n3_ := Aside0.mk (below_step (M.Lw HB) hb); clear BK377; clear BK399; clear BK403; clear HB; have BK377 := n0_; have BK399 := n1_; have BK403 := n2_; have HB := n3_; clear n0_ n1_ n2_ n3_; (try clear hb); (try clear hb2); (try clear hk); (try clear hi)) | ((with_reducible refine gate_callee (f := 22) rfl ?_); refine goesL_ (some 173) rfl rfl Tryd.func22 (by kernel_rfl) rfl #[.string t408, .int .i64 t409] rfl (by first | rfl | (simp only [List.map_toArray, List.map_cons, List.map_nil, List.length_drop, List.length_take]; rfl)) ?_; (with_reducible refine (spec_QueriesOf.calls kj147 t408 t409 t413 _ A173.out).mono ?_); rintro e w' ⟨rfl, ⟨nd, rfl⟩⟩; refine ⟨_, rfl, ?_⟩) | (go_at_call 14; (with_reducible refine (impl_DepthOfTree.calls t408 t414 _ A175.out).mono ?_); rintro e w189 ⟨rfl, hb⟩; have n0_ := Aside0.mk (blk_below (M.Lb BK377) hb); have n1_ := Aside0.mk (blk_below (M.Lb BK399) hb); have n2_ := Aside0.mk (blk_below (M.Lb BK403) hb); have n3_ := Aside0.mk (below_step (M.Lw HB) hb); clear BK377; clear BK399; clear BK403; clear HB; have BK377 := n0_; have BK399 := n1_; have BK403 := n2_; have HB := n3_; clear n0_ n1_ n2_ n3_; (try clear hb); (try clear hb2); (try clear hk); (try clear hi)) | (go_at_call 15; (with_reducible refine (impl_AverageOf.calls t410 t411 t415 _ A178.out).mono ?_); rintro e w190 ⟨rfl, hb⟩; have n0_ := Aside0.mk (blk_below (M.Lb BK377) hb); have n1_ := Aside0.mk (blk_below (M.Lb BK399) hb); have n2_ := Aside0.mk (blk_below (M.Lb BK403) hb); have n3_ := Aside0.mk (below_step (M.Lw HB) hb); clear BK377; clear BK399; clear BK403; clear HB; have BK377 := n0_; have BK399 := n1_; have BK403 := n2_; have HB := n3_; clear n0_ n1_ n2_ n3_; (try clear hb); (try clear hb2); (try clear hk); (try clear hi)) | (go_at_call 23; (with_reducible refine (spec_AverageOf.calls kj147 t410 t411 t416 _ A179.out).mono ?_); rintro e w191 ⟨rfl, hb⟩; have n0_ := Aside0.mk (blk_below (M.Lb BK377) hb); have n1_ := Aside0.mk (blk_below (M.Lb BK399) hb); have n2_ := Aside0.mk (blk_below (M.Lb BK403) hb); have n3_ := Aside0.mk (below_step (M.Lw HB) hb); clear BK377; clear BK399; clear BK403; clear HB; have BK377 := n0_; have BK399 := n1_; have BK403 := n2_; have HB := n3_; clear n0_ n1_ n2_ n3_; (try clear hb); (try clear hb2); (try clear hk); (try clear hi)) | (go_at_call 13; (with_reducible refine (impl_IsTree.calls t408 t417 _ A181.out).mono ?_); rintro e w192 ⟨rfl, hb⟩; have n0_ := Aside0.mk (blk_below (M.Lb BK377) hb); have n1_ := Aside0.mk (blk_below (M.Lb BK399) hb); have n2_ := Aside0.mk (blk_below (M.Lb BK403) hb); have n3_ := Aside0.mk (below_step (M.Lw HB) hb); clear BK377; clear BK399; clear BK403; clear HB; have BK377 := n0_; have BK399 := n1_; have BK403 := n2_; have HB := n3_; clear n0_ n1_ n2_ n3_; (try clear hb); (try clear hb2); (try clear hk); (try clear hi)) | (go_at_call 24; (with_reducible refine (spec_IsTree.calls kj147 t408 t418 _ A182.out).mono ?_); rintro e w' ⟨rfl, ⟨nd, rfl⟩⟩) | (go_at_call 25; (with_reducible refine (spec_DepthOfTree.calls kj147 t408 t420 _ A185.out).mono ?_); rintro e w193 ⟨rfl, hb⟩; have n0_ := Aside0.mk (blk_below (M.Lb BK377) hb); have n1_ := Aside0.mk (blk_below (M.Lb BK399) hb); have n2_ := Aside0.mk (blk_below (M.Lb BK403) hb); have n3_ := Aside0.mk (below_step (M.Lw HB) hb); clear BK377; clear BK399; clear BK403; clear HB; have BK377 := n0_; have BK399 := n1_; have BK403 := n2_; have HB := n3_; clear n0_ n1_ n2_ n3_; (try clear hb); (try clear hb2); (try clear hk); (try clear hi)))
                 go_ret
                 exact ⟨by first | rfl | (simp [errW_none, errW_some] <;> rfl) | (simp only [← hji176]; first | rfl | (simp [errW_none, errW_some] <;> rfl)) | (simp [*, errW_none, errW_some] <;> rfl), M.Lw HB⟩
                ·rw [if_neg c183] at H
                 have c183b0 : (t417 == t418) = false := by simpa using c183
                 (try (have c183b1 : decide (t417 = t418) = false := by simpa using c183))
                 (try (have c183b2 : (t417 == t418) = false := by simpa using c183))
                 (try (have c183b3 : ¬ (t417 = t418) := by simpa using c183))
                 clear c183
                 exact absurd (Option.some.inj H) (by rw [HRT.out]; decide)
               ·rw [if_neg c180] at H
                have c180b0 : (t415 == t416) = false := beq_eq_false_iff_ne.mpr c180
                have c180b1 : (t415 != t416) = true := bne_iff_ne.mpr c180
                exact absurd (Option.some.inj H) (by rw [HRT.out]; decide)
              ·rw [if_neg c177] at H
               have c177b0 : decide (t412 ≤ (ji176)) = false := decide_eq_false c177
               clear c177
               exact absurd (Option.some.inj H) (by rw [HRT.out]; decide)
             ·rw [if_neg c174] at H
              have c174b0 : (t412 == t413) = false := beq_eq_false_iff_ne.mpr c174
              have c174b1 : (t412 != t413) = true := bne_iff_ne.mpr c174
              exact absurd (Option.some.inj H) (by rw [HRT.out]; decide)
/-- THE ONE PURE STATEMENT of laws_FnTrees: yours. -/
def laws_FnTrees.Pure : Prop := ∀ (l0 : List Int), l0.length ≤ maxLen → l0.length * 1 ≤ 140737488351232 → (∀ x ∈ l0, (Lit.int .u8 x).wf = true) → ∃ k, laws_FnTrees.f k l0 = some true
theorem laws_FnTrees.walk (P : laws_FnTrees.Pure) (a0 : Option Addr) (len0 cap0 : Nat) (z0 : List Int) (w : World) (w0 : (a0 = none ∧ len0 = 0 ∧ cap0 = 0 ∧ z0 = []) ∨ ∃ x, a0 = some x ∧ len0 ≤ cap0 ∧ cap0 ≤ maxLen ∧ z0.length = cap0 ∧ (∀ i, i < z0.length → w.cell? (x.add i) = some (.int .u8 (z0.getD i 0))) ∧ ∀ n ∈ z0, (Lit.int .u8 n).wf = true) (y0 : len0 * 1 ≤ 140737488351232) :
  Calls Tryd.prog 3 #[.slice a0 len0 cap0] w fun e w' => e = .returned (.bool true) ∧ Below w.heap.size w w' := by
 obtain ⟨l0, rfl, hr0, hm0, hw0, hc0⟩ := ReadsInt.ofRowC w0
 obtain ⟨k, h⟩ := P l0 hm0 y0 hw0
 refine (laws_FnTrees.calls k _ _ l0 true w (Kd.C_of_reads (d := (0 : Int)) (h1 := fun _ => rfl) hr0) hc0 h rfl).mono ?_
 rintro e w' ⟨rfl, hd⟩
 exact ⟨rfl, hd⟩
end Go.Proofs.YtkmicbnbclkkkaaDoor.Print
